/-
  WindowOnce: the plain law, and the walk at every input.
-/
import Derived.Test.YtmokngiokdffdaaDoorWo
import Derived.Test.YtmokngiokdffdaaDoorPd
namespace Go.Proofs.YtmokngiokdffdaaDoor.P
open Go.RowKit Go.Proofs.YtmokngiokdffdaaDoorW.PrintWords Go.Proofs.YtmokngiokdffdaaDoorW.PrintLast Go.Proofs.YtmokngiokdffdaaDoorW.PrintMore
open Ma
set_option linter.unusedVariables false

def cnt (p : Nat → Bool) (n : Nat) : Nat := ((List.range n).filter p).length
theorem cnt_succ (p : Nat → Bool) (n : Nat) : cnt p (n + 1) = cnt p n + if p n = true then 1 else 0 := by
  unfold cnt
  rw [List.range_succ, List.filter_append, List.length_append]
  cases h : p n <;> simp [h]
theorem cnt_congr {p q : Nat → Bool} (n : Nat) (h : ∀ i, i < n → p i = q i) : cnt p n = cnt q n := by
  induction n with
  | zero => rfl
  | succ n ih => rw [cnt_succ, cnt_succ, ih (fun i hi => h i (by omega)), h n (by omega)]
theorem cnt_add (p : Nat → Bool) (t d : Nat) : cnt p (t + d) = cnt p t + cnt (fun k => p (t + k)) d := by
  induction d with
  | zero => rfl
  | succ d ih => rw [← Nat.add_assoc, cnt_succ, cnt_succ, ih]; omega
theorem cnt_all (p : Nat → Bool) (t : Nat) (h : ∀ i, i < t → p i = true) : cnt p t = t := by
  induction t with
  | zero => rfl
  | succ t ih => rw [cnt_succ, ih (fun i hi => h i (by omega)), if_pos (h t (by omega))]
theorem cnt_none (p : Nat → Bool) (t : Nat) (h : ∀ i, i < t → p i = false) : cnt p t = 0 := by
  induction t with
  | zero => rfl
  | succ t ih => rw [cnt_succ, ih (fun i hi => h i (by omega)), if_neg (by rw [h t (by omega)]; decide)]
theorem cnt_or (p : Nat → Bool) (a : Nat) (ha : p a = false) (n : Nat) : cnt (fun i => p i || decide (i = a)) n = cnt p n + if a < n then 1 else 0 := by
  induction n with
  | zero => rfl
  | succ n ih =>
    rw [cnt_succ, cnt_succ, ih]
    by_cases e : n = a
    · subst e
      rw [if_neg (Nat.lt_irrefl n), if_pos (Nat.lt_succ_self n)]; simp [ha]
    · have h1 : decide (n = a) = false := decide_eq_false e
      rw [h1, Bool.or_false]
      by_cases hl : a < n
      · rw [if_pos hl, if_pos (show a < n + 1 by omega)]; omega
      · rw [if_neg hl, if_neg (show ¬ a < n + 1 by omega)]; omega
theorem bitsL_cnt (m : Nat) : (bitsL m).length = cnt (fun i => m.testBit i) 64 := rfl

def countI (B : Int) (m : Nat) : Int := if goodB B m = true then B - 1 + ((bitsL m).length : Int) else 0

theorem Count_eq (B : Int) (m : Nat) (hm : m < 2 ^ 64) (hB : -9223372036854775808 ≤ B) : window_Count.f B (m : Int) = some (countI B m) := by
  unfold window_Count.f countI
  rw [obind _ (Good_eq B m hm hB)]
  cases hg : goodB B m with
  | false => rfl
  | true =>
    have hb := goodB_bd hg
    have hl := bitsL_length m
    have e : mask_Many.f (m : Int) = some ((bitsL m).length : Int) := by unfold mask_Many.f; rw [if_pos (by omega)]; rfl
    have w1 : wrap64 (B - 1) = B - 1 := by unfold wrap64; omega
    have w2 : wrap64 (B - 1 + ((bitsL m).length : Int)) = B - 1 + ((bitsL m).length : Int) := by unfold wrap64; omega
    rw [if_pos rfl, if_pos rfl, obind _ e, w1, w2]

theorem mark_count {B : Int} {m : Nat} {n : Int} (hm : m < 2 ^ 64) (h : askI B m 64 n = 0) :
    countI (B + (onesN (nextM B m n) : Int)) (downN (nextM B m n) (onesN (nextM B m n) : Int)) = countI B m + 1 := by
  obtain ⟨hg, h1, h2, h3, h4, h5⟩ := askI_zero h
  have hG := (goodB_iff B m hm).1 hg
  have hlt := nextM_lt hm hG h1 h2 h4
  have hgood := mark_good hm hG h1 h2 h4
  have hlt2 := downN_lt _ hlt (onesN (nextM B m n) : Int)
  have hb := mark_bit hm hG h1 h2 h4
  have hn := nextM_bit hm hG h1 h2 h4
  obtain ⟨ho1, ho2, ho3⟩ := onesN_spec _ hlt
  have hgb := (goodB_iff _ _ hlt2).2 hgood
  obtain ⟨a, ha⟩ : ∃ a : Nat, n - B = (a : Int) := ⟨(n - B).toNat, by omega⟩
  have ha64 : a < 64 := by omega
  have hma : m.testBit a = false := by
    unfold doneB at h5
    have d1 : decide (1 ≤ n) = true := decide_eq_true h3
    have d2 : decide (n < B) = false := decide_eq_false (by omega)
    rw [hg, d1, d2, ha, hasB_nat m a ha64] at h5
    simpa using h5
  have c1 : (bitsL (nextM B m n)).length = (bitsL m).length + 1 := by
    rw [bitsL_cnt, bitsL_cnt]
    have e : cnt (fun i => (nextM B m n).testBit i) 64 = cnt (fun i => m.testBit i || decide (i = a)) 64 := by
      apply cnt_congr
      intro i _
      rw [hn, ha]
      congr 1
      exact decide_eq_decide.2 ⟨fun hh => by omega, fun hh => by omega⟩
    rw [e, cnt_or _ a hma, if_pos ha64]
  have c2 : (bitsL (nextM B m n)).length = onesN (nextM B m n) + (bitsL (downN (nextM B m n) (onesN (nextM B m n) : Int))).length := by
    generalize onesN (nextM B m n) = t at *
    generalize nextM B m n = m' at *
    rw [bitsL_cnt, bitsL_cnt]
    obtain ⟨d, hd⟩ : ∃ d, t + d = 64 := ⟨64 - t, by omega⟩
    have e1 : cnt (fun i => m'.testBit i) 64 = t + cnt (fun k => m'.testBit (t + k)) d := by
      rw [← hd, cnt_add, cnt_all _ t ho2]
    have e2 : cnt (fun i => (downN m' (t : Int)).testBit i) 64 = cnt (fun k => m'.testBit (t + k)) d := by
      have hd2 : d + t = 64 := by omega
      rw [← hd2, cnt_add]
      have z : cnt (fun k => (downN m' (t : Int)).testBit (d + k)) t = 0 := by
        apply cnt_none
        intro i hi
        rw [hb]; exact testBit_big m' hlt _ (by omega)
      rw [z, Nat.add_zero]
      apply cnt_congr
      intro i _
      rw [hb, Nat.add_comm]
    rw [e1, e2]
  unfold countI
  rw [if_pos hgb, if_pos hg]
  omega

/-- What holds at a place of the loop. -/
structure OnceInv (B0 : Int) (m0 : Nat) (num : Int) (B : Int) (m : Nat) (was : Bool) (c : Nat) : Prop where
  lt : m < 2 ^ 64
  low : -9223372036854775808 ≤ B
  start : c = 0 → B = B0 ∧ m = m0
  good : 0 < c → Good B0 m0 ∧ Good B m ∧ countI B m = countI B0 m0 + (c : Int)
  done : doneB B m num = was

theorem once_l0 (l : List Int) (hl : l.length ≤ 200) (hw : ∀ x ∈ l, x < 9223372036854775808) (B0 : Int) (m0 : Nat) (hm0 : m0 < 2 ^ 64) (hB0 : -9223372036854775808 ≤ B0) (num : Int) (hnum : num < 9223372036854775808) (d : Nat) :
    ∀ (k j c : Nat) (B : Int) (m : Nat) (was : Bool), OnceInv B0 m0 num B m was c → c ≤ j → j ≤ l.length → l.length - j = d → 2 * d + 5 ≤ k →
    raddlelaw09_WindowOnce.l0 k num was (c : Int) l (l.length : Int) (j : Int) B0 (m0 : Int) B (m : Int) = some true := by
  induction d with
  | zero =>
    intro k j c B m was I hc hj hd hk
    obtain ⟨k, rfl⟩ : ∃ q, k = q + 1 := ⟨k - 1, by omega⟩
    have hliv := lives09 k (by omega)
    simp only [raddlelaw09_WindowOnce.l0]
    rw [if_neg (by omega), obind _ (Done_eq B m num I.lt I.low hnum), I.done, if_pos (by simp)]
    by_cases h0 : (c : Int) = 0
    · rw [if_pos h0, hliv]; rfl
    · rw [if_neg h0, obind _ (Count_eq B m I.lt I.low), obind _ (Count_eq B0 m0 hm0 hB0)]
      obtain ⟨g0, g1, g2⟩ := I.good (by omega)
      have hb0 := (goodB_iff B0 m0 hm0).2 g0
      have hl0 := bitsL_length m0
      have hbd := goodB_bd hb0
      have hcI : countI B0 m0 = B0 - 1 + ((bitsL m0).length : Int) := by unfold countI; rw [if_pos hb0]
      have w : wrap64 (countI B0 m0 + (c : Int)) = countI B0 m0 + (c : Int) := by rw [hcI]; unfold wrap64; omega
      rw [w, if_pos g2, hliv]; rfl
  | succ d ih =>
    intro k j c B m was I hc hj hd hk
    obtain ⟨k, rfl⟩ : ∃ q, k = q + 1 + 1 := ⟨k - 2, by omega⟩
    have hlt : j < l.length := by omega
    have hmem := hw _ (List.getElem_mem hlt)
    simp only [raddlelaw09_WindowOnce.l0]
    rw [if_pos (by omega), if_pos (by omega), if_pos (by omega), rd_nat l j hlt, wrap_nat_succ j (by omega)]
    by_cases h : askI B m 64 l[j] = 0
    · obtain ⟨hG, hG', hlt', hd'⟩ := mark_step I.lt h
      obtain ⟨hg, h1, h2, h3, h4, h5⟩ := askI_zero h
      have hcount := mark_count I.lt h
      rw [obind _ (Mark_eq0 (k + 1) (by omega) B m l[j] I.lt I.low hmem h), if_pos rfl, obind _ (Done_eq B m l[j] I.lt I.low hmem), h5, if_neg (by decide)]
      generalize B + (onesN (nextM B m l[j]) : Int) = B1 at *
      generalize downN (nextM B m l[j]) (onesN (nextM B m l[j]) : Int) = m1 at *
      have hB1 : -9223372036854775808 ≤ B1 := by have := hG'.1; omega
      have hgb1 := (goodB_iff B1 m1 hlt').2 hG'
      have hdk : doneB B1 m1 l[j] = true := by rw [hd']; simp
      have hbd1 := goodB_bd hgb1
      have hask : askI B1 m1 64 l[j] = 90 := by
        unfold askI
        rw [if_neg (by rw [hgb1]; simp; omega), if_pos hdk]
      rw [obind _ (Done_eq B1 m1 l[j] hlt' hB1 hmem), hdk, if_pos rfl, obind _ (Good_eq B1 m1 hlt' hB1), hgb1]
      simp only [raddlelaw09_WindowOnce.j1]
      rw [if_neg (by decide), obind _ (Mark_eq1 k (by omega) B1 m1 l[j] hlt' hB1 hmem (by rw [hask]; decide)), hask, if_pos rfl, wrap_nat_succ c (by omega), wrap_nat_succ j (by omega)]
      have I2 : ∀ was2 : Bool, doneB B1 m1 num = was2 → OnceInv B0 m0 num B1 m1 was2 (c + 1) := by
        intro was2 hw2
        refine ⟨hlt', hB1, (fun h0 => by omega), fun _ => ⟨?_, hG', ?_⟩, hw2⟩
        · by_cases h0 : c = 0
          · obtain ⟨e1, e2⟩ := I.start h0
            rw [← e1, ← e2]; exact hG
          · exact (I.good (by omega)).1
        · rw [hcount]
          by_cases h0 : c = 0
          · obtain ⟨e1, e2⟩ := I.start h0
            rw [e1, e2, h0]; rfl
          · rw [(I.good (by omega)).2.2]; omega
      cases hwas : was with
      | true =>
        rw [if_pos rfl]
        refine ih k (j + 1) (c + 1) B1 m1 true (I2 true ?_) (by omega) (by omega) (by omega) (by omega)
        rw [hd', I.done, hwas]; rfl
      | false =>
        rw [if_neg (by decide)]
        refine ih k (j + 1) (c + 1) B1 m1 _ (I2 _ ?_) (by omega) (by omega) (by omega) (by omega)
        rw [hd', I.done, hwas, Bool.false_or, Bool.eq_iff_iff]
        simp only [decide_eq_true_eq, beq_iff_eq]
        exact eq_comm
    · rw [obind _ (Mark_eq1 (k + 1) (by omega) B m l[j] I.lt I.low hmem h), if_neg h]
      exact ih (k + 1) (j + 1) c B m was I (by omega) (by omega) (by omega) (by omega)

theorem WindowOncePure (B : Int) (m : Nat) (l : List Int) (num : Int) (hm : m < 2 ^ 64) (hB : -9223372036854775808 ≤ B) (hw : ∀ x ∈ l, x < 9223372036854775808) (hnum : num < 9223372036854775808) :
    ∃ k, raddlelaw09_WindowOnce.f k B (m : Int) l num = some true := by
  obtain ⟨K, hK⟩ : ∃ K : Nat, K = 1000 := ⟨_, rfl⟩
  refine ⟨K, ?_⟩
  unfold raddlelaw09_WindowOnce.f
  by_cases hl : (l.length : Int) > 200
  · rw [if_pos hl, obind _ (lives09 _ (by omega))]
  · rw [if_neg hl, obind _ (Done_eq B m num hm hB hnum)]
    exact once_l0 l (by omega) hw B m hm hB num hnum l.length K 0 0 B m _ ⟨hm, hB, fun _ => ⟨rfl, rfl⟩, (fun h => by omega), rfl⟩ (by omega) (by omega) (by omega) (by omega)

theorem WindowOnce_walk (b0 b1 : Int) (a1 : Option Addr) (len1 cap1 : Nat) (z1 : List Int) (a2 : Int) (w : World) (u0 : (Lit.int .i64 b0).wf = true) (u1 : (Lit.int .u64 b1).wf = true)
    (w1 : (a1 = none ∧ len1 = 0 ∧ cap1 = 0 ∧ z1 = []) ∨ ∃ x, a1 = some x ∧ len1 ≤ cap1 ∧ cap1 ≤ maxLen ∧ z1.length = cap1 ∧ (∀ i, i < z1.length → w.cell? (x.add i) = some (.int .i64 (z1.getD i 0))) ∧ ∀ n ∈ z1, (Lit.int .i64 n).wf = true) (y1 : len1 * 8 ≤ 140737488351232) (w2 : (Lit.int .i64 a2).wf = true) (hT : TabOK w) :
    Calls Tryd.prog 8 #[.agg #[.int .i64 b0, .int .u64 b1], .slice a1 len1 cap1, .int .i64 a2] w fun e w' => e = .returned (.bool true) ∧ Below w.heap.size w w' := by
  obtain ⟨l1, rfl, hr1, hm1, hw1, hc1⟩ := ReadsInt.ofRowC w1
  obtain ⟨m, rfl, hm⟩ := u64_nat u1
  obtain ⟨k, h⟩ := WindowOncePure b0 m l1 a2 hm (wf_i64 u0).1 (fun x hx => (wf_i64 (hw1 x hx)).2) (wf_i64 w2).2
  exact raddlelaw09_WindowOnce.calls k b0 (m : Int) _ _ l1 a2 true w (Kd.C_of_reads (d := (0 : Int)) (h1 := fun _ => rfl) hr1) hc1 h hT

end Go.Proofs.YtmokngiokdffdaaDoor.P
