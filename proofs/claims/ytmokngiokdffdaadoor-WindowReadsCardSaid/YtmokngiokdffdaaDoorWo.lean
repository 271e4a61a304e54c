/-
  WindowOrder: the plain law, and the walk at every input.
-/
import Derived.Test.YtmokngiokdffdaaDoorWp
namespace Go.Proofs.YtmokngiokdffdaaDoor.P
open Go.RowKit Go.Proofs.YtmokngiokdffdaaDoorW.PrintWords Go.Proofs.YtmokngiokdffdaaDoorW.PrintLast Go.Proofs.YtmokngiokdffdaaDoorW.PrintMore
open Ma
set_option linter.unusedVariables false

/-- A window behind numbers; the first one that is refused ends it. -/
def markedL : Int → Nat → List Int → Int × Nat × Bool
  | B, m, [] => (B, m, true)
  | B, m, n :: l => if askI B m 64 n = 0 then markedL (B + (onesN (nextM B m n) : Int)) (downN (nextM B m n) (onesN (nextM B m n) : Int)) l else (B, m, false)

theorem mark_step {B : Int} {m : Nat} {n : Int} (hm : m < 2 ^ 64) (h : askI B m 64 n = 0) :
    Good B m ∧ Good (B + (onesN (nextM B m n) : Int)) (downN (nextM B m n) (onesN (nextM B m n) : Int)) ∧ downN (nextM B m n) (onesN (nextM B m n) : Int) < 2 ^ 64 ∧
      (∀ q, doneB (B + (onesN (nextM B m n) : Int)) (downN (nextM B m n) (onesN (nextM B m n) : Int)) q = (doneB B m q || decide (q = n))) := by
  obtain ⟨hg, h1, h2, h3, h4, h5⟩ := askI_zero h
  have hG := (goodB_iff B m hm).1 hg
  exact ⟨hG, mark_good hm hG h1 h2 h4, downN_lt _ (nextM_lt hm hG h1 h2 h4) _, mark_done hm hG h1 h2 h4⟩

theorem markedL_spec (l : List Int) : ∀ (B : Int) (m : Nat), m < 2 ^ 64 → (markedL B m l).2.1 < 2 ^ 64 ∧ (l = [] → markedL B m l = (B, m, true)) ∧
    ((markedL B m l).2.2 = true → l ≠ [] → Good (markedL B m l).1 (markedL B m l).2.1 ∧ ∀ q, doneB (markedL B m l).1 (markedL B m l).2.1 q = (doneB B m q || decide (q ∈ l))) := by
  induction l with
  | nil => intro B m hm; exact ⟨hm, fun _ => rfl, fun _ h => absurd rfl h⟩
  | cons n l ih =>
    intro B m hm
    by_cases h : askI B m 64 n = 0
    · obtain ⟨hG, hG', hlt, hd⟩ := mark_step hm h
      have e : markedL B m (n :: l) = markedL (B + (onesN (nextM B m n) : Int)) (downN (nextM B m n) (onesN (nextM B m n) : Int)) l := by simp only [markedL]; rw [if_pos h]
      rw [e]
      obtain ⟨i1, i2, i3⟩ := ih (B + (onesN (nextM B m n) : Int)) (downN (nextM B m n) (onesN (nextM B m n) : Int)) hlt
      refine ⟨i1, (fun h0 => by cases h0), fun hok _ => ?_⟩
      by_cases hl : l = []
      · rw [i2 hl]
        refine ⟨hG', fun q => ?_⟩
        rw [hd, hl]; simp
      · obtain ⟨j1, j2⟩ := i3 hok hl
        refine ⟨j1, fun q => ?_⟩
        rw [j2, hd, Bool.or_assoc]
        congr 1
        rw [Bool.eq_iff_iff]; simp
    · have e : markedL B m (n :: l) = (B, m, false) := by simp only [markedL]; rw [if_neg h]
      rw [e]
      exact ⟨hm, (fun h0 => by cases h0), (fun hok => by cases hok)⟩

theorem marked_l0 (l : List Int) (hl : l.length ≤ 1000) (hw : ∀ x ∈ l, x < 9223372036854775808) (d : Nat) : ∀ (k j : Nat) (B : Int) (m : Nat), m < 2 ^ 64 → -9223372036854775808 ≤ B → j ≤ l.length → l.length - j = d → d + 3 ≤ k →
    raddlelaw09_marked.l0 k l (l.length : Int) (j : Int) B (m : Int) = some ((markedL B m (l.drop j)).1, (((markedL B m (l.drop j)).2.1 : Nat) : Int), (markedL B m (l.drop j)).2.2) := by
  induction d with
  | zero =>
    intro k j B m hm hB hj hd hk
    obtain ⟨k, rfl⟩ : ∃ q, k = q + 1 := ⟨k - 1, by omega⟩
    simp only [raddlelaw09_marked.l0]
    rw [if_neg (by omega), List.drop_of_length_le (by omega)]; rfl
  | succ d ih =>
    intro k j B m hm hB hj hd hk
    obtain ⟨k, rfl⟩ : ∃ q, k = q + 1 := ⟨k - 1, by omega⟩
    have hlt : j < l.length := by omega
    have hmem := hw _ (List.getElem_mem hlt)
    simp only [raddlelaw09_marked.l0]
    rw [if_pos (by omega), if_pos (by omega), if_pos (by omega), rd_nat l j hlt, List.drop_eq_getElem_cons hlt, wrap_nat_succ j (by omega)]
    simp only [markedL]
    by_cases h : askI B m 64 l[j] = 0
    · obtain ⟨hG, hG', hlt', hd'⟩ := mark_step hm h
      rw [obind _ (Mark_eq0 k (by omega) B m l[j] hm hB hmem h), if_pos rfl, if_pos h]
      exact ih k (j + 1) _ _ hlt' (by have := hG'.1; omega) (by omega) (by omega) (by omega)
    · rw [obind _ (Mark_eq1 k (by omega) B m l[j] hm hB hmem h), if_neg h, if_neg h]
theorem marked_eq (k : Nat) (l : List Int) (hl : l.length ≤ 1000) (hw : ∀ x ∈ l, x < 9223372036854775808) (B : Int) (m : Nat) (hm : m < 2 ^ 64) (hB : -9223372036854775808 ≤ B) (hk : l.length + 3 ≤ k) :
    raddlelaw09_marked.f k B (m : Int) l = some ((markedL B m l).1, (((markedL B m l).2.1 : Nat) : Int), (markedL B m l).2.2) :=
  marked_l0 l hl hw l.length k 0 B m hm hB (by omega) (by omega) (by omega)

/-- The turned list, from place d - 1 down. -/
def turned (l : List Int) (kk : Nat) (d : Nat) : List Int := (List.range d).reverse.map fun i => l.getD ((i + kk) % l.length) 0
theorem turned_succ (l : List Int) (kk d : Nat) : turned l kk (d + 1) = l.getD ((d + kk) % l.length) 0 :: turned l kk d := by
  unfold turned; rw [List.range_succ, List.reverse_append]; rfl
theorem mem_turned (l : List Int) (kk : Nat) (hkk : kk < l.length) (q : Int) : q ∈ turned l kk l.length ↔ q ∈ l := by
  unfold turned
  simp only [List.mem_map, List.mem_reverse, List.mem_range]
  constructor
  · rintro ⟨i, hi, rfl⟩
    have h := Nat.mod_lt (i + kk) (show 0 < l.length by omega)
    rw [List.getD_eq_getElem?_getD, List.getElem?_eq_getElem h]
    exact List.getElem_mem h
  · intro h
    obtain ⟨j, hj, rfl⟩ := List.getElem_of_mem h
    refine ⟨(j + (l.length - kk)) % l.length, Nat.mod_lt _ (by omega), ?_⟩
    have e : ((j + (l.length - kk)) % l.length + kk) % l.length = j := by
      rw [Nat.mod_add_mod]
      have : j + (l.length - kk) + kk = j + l.length := by omega
      rw [this, Nat.add_mod_right, Nat.mod_eq_of_lt hj]
    rw [e, List.getD_eq_getElem?_getD, List.getElem?_eq_getElem hj]; rfl

theorem Order_l0 (l : List Int) (hl : l.length ≤ 200) (kk : Nat) (hkk : kk < l.length) (ok : Bool) (B : Int) (m : Int) (B' m' : Int) (k : Nat) (d : Nat) : ∀ (acc : List Int), acc.length + d ≤ 1000 → d ≤ l.length →
    raddlelaw09_WindowOrder.l0 (k + d + 1) l ok (kk : Int) acc ((d : Int) - 1) B m B' m' = raddlelaw09_WindowOrder.l0 (k + 1) l ok (kk : Int) (acc ++ turned l kk d) (-1) B m B' m' := by
  induction d with
  | zero => intro acc _ _; simp [turned]
  | succ d ih =>
    intro acc ha hd
    have e0 : ((d + 1 : Nat) : Int) - 1 = (d : Int) := by omega
    have ek : k + (d + 1) + 1 = (k + d + 1) + 1 := by omega
    rw [e0, ek]
    have hw : wrap64 ((d : Int) + (kk : Int)) = ((d + kk : Nat) : Int) := by unfold wrap64; omega
    have ht : Int.tmod ((d + kk : Nat) : Int) (l.length : Int) = (((d + kk) % l.length : Nat) : Int) := by
      rw [Int.tmod_eq_emod_of_nonneg (by omega)]; omega
    have hw2 : wrap64 ((d : Int) - 1) = (d : Int) - 1 := by unfold wrap64; omega
    have hlt := Nat.mod_lt (d + kk) (show 0 < l.length by omega)
    have hrd : rd l (((d + kk) % l.length : Nat) : Int) = l.getD ((d + kk) % l.length) 0 := rfl
    generalize hk1 : k + d + 1 = k1 at ih ⊢
    conv => lhs; simp only [raddlelaw09_WindowOrder.l0]
    rw [if_pos (by omega), if_neg (by omega), hw, ht, if_pos (by omega), if_pos (by omega), if_pos (by omega), hw2, hrd, ih (acc ++ [l.getD ((d + kk) % l.length) 0]) (by rw [List.length_append]; simp; omega) (by omega), turned_succ, List.append_assoc]
    rfl

theorem WindowOrderPure (B : Int) (m : Nat) (l : List Int) (a2 : Int) (hm : m < 2 ^ 64) (hB : -9223372036854775808 ≤ B) (hw : ∀ x ∈ l, x < 9223372036854775808) :
    ∃ k, raddlelaw09_WindowOrder.f k B (m : Int) l a2 = some true := by
  obtain ⟨K, hK⟩ : ∃ K : Nat, K = 1000 := ⟨_, rfl⟩
  refine ⟨K + l.length + 1 + 1, ?_⟩
  unfold raddlelaw09_WindowOrder.f
  by_cases hl : (l.length : Int) > 200
  · rw [if_pos hl, obind _ (lives09 _ (by omega))]
  · rw [if_neg hl, obind _ (marked_eq _ l (by omega) hw B m hm hB (by omega))]
    have fin : ∀ (M : List Int) (kk : Int), M.length = l.length → (∀ q, q ∈ M ↔ q ∈ l) →
        raddlelaw09_WindowOrder.l0 (K + 1) l (markedL B m l).2.2 kk M (-1) B (m : Int) (markedL B m l).1 (((markedL B m l).2.1 : Nat) : Int) = some true := by
      intro M kk hlen hmem
      simp only [raddlelaw09_WindowOrder.l0]
      rw [if_neg (by omega), obind _ (marked_eq K M (by omega) (fun x hx => hw x ((hmem x).1 hx)) B m hm hB (by omega))]
      obtain ⟨s1, s2, s3⟩ := markedL_spec l B m hm
      obtain ⟨t1, t2, t3⟩ := markedL_spec M B m hm
      have hliv := lives09 K (by omega)
      cases ho : (markedL B m l).2.2 with
      | false => rw [if_neg (by decide), hliv]; rfl
      | true =>
        rw [if_pos rfl]
        cases ho2 : (markedL B m M).2.2 with
        | false => rw [if_neg (by decide), hliv]; rfl
        | true =>
          rw [if_pos rfl]
          have heq : (markedL B m l).1 = (markedL B m M).1 ∧ (markedL B m l).2.1 = (markedL B m M).2.1 := by
            by_cases hnil : l = []
            · have hM : M = [] := List.eq_nil_of_length_eq_zero (by rw [hlen, hnil]; rfl)
              rw [hnil, hM]; exact ⟨rfl, rfl⟩
            · have hM : M ≠ [] := by
                rintro rfl
                exact hnil (List.eq_nil_of_length_eq_zero hlen.symm)
              obtain ⟨g1, d1⟩ := s3 ho hnil
              obtain ⟨g2, d2⟩ := t3 ho2 hM
              refine good_unique s1 t1 g1 g2 fun q _ => ?_
              rw [d1, d2]
              congr 1
              exact decide_eq_decide.2 (hmem q).symm
          rw [heq.1, heq.2, if_pos (by simp), hliv]; rfl
    by_cases hl0 : (l.length : Int) > 0
    · have hu : IntKind.u64.wrap (l.length : Int) = (l.length : Int) := by rw [IntKind.wrap_u64]; omega
      obtain ⟨kk, hkk, hlt⟩ : ∃ kk : Nat, wrap64 (Int.tmod (IntKind.u64.wrap a2) (l.length : Int)) = (kk : Int) ∧ kk < l.length := by
        have h : IntKind.u64.wrap a2 = a2 % 18446744073709551616 := IntKind.wrap_u64 a2
        have hpos := Int.emod_nonneg (a2 % 18446744073709551616) (show (l.length : Int) ≠ 0 by omega)
        have hlt := Int.emod_lt_of_pos (a2 % 18446744073709551616) hl0
        refine ⟨(a2 % 18446744073709551616 % (l.length : Int)).toNat, ?_, by omega⟩
        rw [h, Int.tmod_eq_emod_of_nonneg (by omega)]
        generalize a2 % 18446744073709551616 % (l.length : Int) = z at *
        unfold wrap64; omega
      rw [if_pos hl0, hu, if_neg (by omega), hkk]
      simp only [raddlelaw09_WindowOrder.j0]
      have hw1 : wrap64 ((l.length : Int) - 1) = (l.length : Int) - 1 := by unfold wrap64; omega
      rw [hw1, Order_l0 l (by omega) kk hlt _ B m _ _ K l.length [] (by simp; omega) (Nat.le_refl _), List.nil_append]
      exact fin _ _ (by simp [turned]) (mem_turned l kk hlt)
    · rw [if_neg hl0]
      have hnil : l = [] := List.eq_nil_of_length_eq_zero (by omega)
      simp only [raddlelaw09_WindowOrder.j0]
      have hw1 : wrap64 ((l.length : Int) - 1) = -1 := by unfold wrap64; omega
      have ek : K + l.length + 1 = K + 1 := by rw [hnil]; rfl
      rw [hw1, ek]
      exact fin [] 0 (by rw [hnil]) (fun q => by rw [hnil])

theorem WindowOrder_walk (b0 b1 : Int) (a1 : Option Addr) (len1 cap1 : Nat) (z1 : List Int) (a2 : Int) (w : World) (u0 : (Lit.int .i64 b0).wf = true) (u1 : (Lit.int .u64 b1).wf = true)
    (w1 : (a1 = none ∧ len1 = 0 ∧ cap1 = 0 ∧ z1 = []) ∨ ∃ x, a1 = some x ∧ len1 ≤ cap1 ∧ cap1 ≤ maxLen ∧ z1.length = cap1 ∧ (∀ i, i < z1.length → w.cell? (x.add i) = some (.int .i64 (z1.getD i 0))) ∧ ∀ n ∈ z1, (Lit.int .i64 n).wf = true) (y1 : len1 * 8 ≤ 140737488351232) (w2 : (Lit.int .i64 a2).wf = true) (hT : TabOK w) :
    Calls Tryd.prog 6 #[.agg #[.int .i64 b0, .int .u64 b1], .slice a1 len1 cap1, .int .i64 a2] w fun e w' => e = .returned (.bool true) ∧ Below w.heap.size w w' := by
  obtain ⟨l1, rfl, hr1, hm1, hw1, hc1⟩ := ReadsInt.ofRowC w1
  obtain ⟨m, rfl, hm⟩ := u64_nat u1
  obtain ⟨k, h⟩ := WindowOrderPure b0 m l1 a2 hm (wf_i64 u0).1 (fun x hx => (wf_i64 (hw1 x hx)).2)
  exact raddlelaw09_WindowOrder.calls k b0 (m : Int) _ _ l1 a2 true w (Kd.C_of_reads (d := (0 : Int)) (h1 := fun _ => rfl) hr1) hc1 h hT

end Go.Proofs.YtmokngiokdffdaaDoor.P
