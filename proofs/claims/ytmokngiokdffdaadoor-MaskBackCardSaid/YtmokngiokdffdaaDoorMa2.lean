/-
  MaskBack: the plain law.
-/
import Derived.Test.YtmokngiokdffdaaDoorPb
import Derived.Test.YtmokngiokdffdaaDoorMb
import Derived.Test.YtmokngiokdffdaaDoorMq
namespace Go.Proofs.YtmokngiokdffdaaDoor.P
open Go.RowKit Go.Proofs.YtmokngiokdffdaaDoorW.PrintWords Go.Proofs.YtmokngiokdffdaaDoorW.PrintLast Go.Proofs.YtmokngiokdffdaaDoorW.PrintMore
open Ma

theorem all_eq (m : Nat) (hm : m < 2 ^ 64) : raddlelaw08_all.f (m : Int) = some (ints (bitsL m)) := by
  unfold raddlelaw08_all.f
  rw [if_pos (by omega)]; rfl

theorem mem_has (l : List Int) (i : Int) (h : i ∈ l) : hasB (ofL l) i = decide (0 ≤ i ∧ i < 64) := by
  unfold hasB
  by_cases h0 : 0 ≤ i ∧ i < 64
  · rw [testBit_ofL]
    have : l.any (fun j => decide (0 ≤ j ∧ j < 64 ∧ j = ((i.toNat : Nat) : Int))) = true := by
      rw [List.any_eq_true]; exact ⟨i, h, by rw [decide_eq_true_eq]; omega⟩
    rw [this]; simp
  · simp [h0]

/-- The inner search: whether x is in the list, from place j on. -/
theorem l2_ok (l1 : List Int) (hl : l1.length ≤ 1000) (L : List Int) (n i : Int) (x : Int) (d : Nat) : ∀ (k j : Nat) (f : Bool), j ≤ l1.length → l1.length - j = d → (f = true ∨ x ∈ l1.drop j) →
    raddlelaw08_MaskBack.l2 (k + d + 1) l1 x f L n i l1 (l1.length : Int) (j : Int) = raddlelaw08_MaskBack.l1 k l1 L n (wrap64 (i + 1)) := by
  induction d with
  | zero =>
    intro k j f hj hd hf
    have hft : f = true := by
      rcases hf with h | h
      · exact h
      · rw [List.drop_of_length_le (by omega)] at h; cases h
    subst hft
    simp only [raddlelaw08_MaskBack.l2]
    rw [if_neg (by omega)]; rfl
  | succ d ih =>
    intro k j f hj hd hf
    have hlt : j < l1.length := by omega
    have ek : k + (d + 1) + 1 = (k + d + 1) + 1 := by omega
    rw [ek]
    simp only [raddlelaw08_MaskBack.l2]
    rw [if_pos (by omega), if_pos (by omega), if_pos (by omega), rd_nat l1 j hlt, wrap_nat_succ j (by omega)]
    rw [List.drop_eq_getElem_cons hlt] at hf
    cases f with
    | true => exact ih k (j + 1) true (by omega) (by omega) (.inl rfl)
    | false =>
      simp only [Bool.false_eq_true, if_false]
      refine ih k (j + 1) _ (by omega) (by omega) ?_
      rcases hf with h | h
      · cases h
      · rcases List.mem_cons.1 h with h | h
        · left; rw [h]; simp
        · right; exact h

theorem l1_ok (l1 : List Int) (hl : l1.length ≤ 1000) (L : List Int) (hL : L.length ≤ 64) (hall : ∀ x, x ∈ L → x ∈ l1) (d : Nat) : ∀ (k j : Nat), j ≤ L.length → L.length - j = d → d * (l1.length + 2) < k →
    raddlelaw08_MaskBack.l1 k l1 L (L.length : Int) (j : Int) = some true := by
  induction d with
  | zero =>
    intro k j hj hd hk
    obtain ⟨k, rfl⟩ : ∃ q, k = q + 1 := ⟨k - 1, by omega⟩
    simp only [raddlelaw08_MaskBack.l1]
    rw [if_neg (by omega), lives08]; rfl
  | succ d ih =>
    intro k j hj hd hk
    have hlt : j < L.length := by omega
    have hm : (d + 1) * (l1.length + 2) = d * (l1.length + 2) + (l1.length + 2) := by rw [Nat.add_mul, Nat.one_mul]
    obtain ⟨k, rfl⟩ : ∃ q, k = q + l1.length + 1 + 1 := ⟨k - l1.length - 2, by omega⟩
    simp only [raddlelaw08_MaskBack.l1]
    rw [if_pos (by omega), if_pos (by omega), if_pos (by omega), rd_nat L j hlt]
    have h2 := l2_ok l1 hl L (L.length : Int) (j : Int) L[j] l1.length k 0 false (by omega) (by omega) (.inr (by rw [List.drop_zero]; exact hall _ (List.getElem_mem hlt)))
    have e0 : ((0 : Nat) : Int) = 0 := rfl
    rw [e0] at h2
    rw [h2, wrap_nat_succ j (by omega)]
    exact ih k (j + 1) (by omega) (by omega) (by omega)

theorem l0_ok (l1 : List Int) (hl : l1.length ≤ 1000) (d : Nat) : ∀ (k j : Nat), j ≤ l1.length → l1.length - j = d → 100000 + d < k →
    raddlelaw08_MaskBack.l0 k l1 ((ofL l1 : Nat) : Int) l1 (l1.length : Int) (j : Int) = some true := by
  have hx := ofL_lt l1
  induction d with
  | zero =>
    intro k j hj hd hk
    obtain ⟨k, rfl⟩ : ∃ q, k = q + 1 := ⟨k - 1, by omega⟩
    simp only [raddlelaw08_MaskBack.l0]
    rw [if_neg (by omega), all_eq _ hx]
    simp only [Option.bind_some]
    have hb := bitsL_length (ofL l1)
    have hbl : (ints (bitsL (ofL l1))).length ≤ 64 := by rw [ints_length]; exact hb
    have e0 : ((0 : Nat) : Int) = 0 := rfl
    rw [← e0]
    refine l1_ok l1 hl _ hbl ?_ _ k 0 (by omega) rfl ?_
    · intro x h
      simp only [ints, List.mem_map] at h
      obtain ⟨i, hi, rfl⟩ := h
      have ht := (mem_bitsL.1 hi).2
      rw [testBit_ofL, List.any_eq_true] at ht
      obtain ⟨y, hy, h2⟩ := ht
      rw [decide_eq_true_eq] at h2
      rw [← h2.2.2]; exact hy
    · rw [Nat.sub_zero]
      have := Nat.mul_le_mul hbl (show l1.length + 2 ≤ 1002 by omega)
      omega
  | succ d ih =>
    intro k j hj hd hk
    obtain ⟨k, rfl⟩ : ∃ q, k = q + 1 := ⟨k - 1, by omega⟩
    have hlt : j < l1.length := by omega
    simp only [raddlelaw08_MaskBack.l0]
    rw [if_pos (by omega), if_pos (by omega), if_pos (by omega), rd_nat l1 j hlt, Has_eq _ hx, mem_has l1 _ (List.getElem_mem hlt), wrap_nat_succ j (by omega)]
    simp only [Option.bind_some]
    have hih := ih k (j + 1) (by omega) (by omega) (by omega)
    by_cases h0 : l1[j] ≥ 0
    · rw [if_pos h0]
      have : decide (0 ≤ l1[j] ∧ l1[j] < 64) = decide (l1[j] < 64) := decide_eq_decide.2 ⟨fun h => h.2, fun h => ⟨h0, h⟩⟩
      rw [this, if_neg (by simp)]
      exact hih
    · rw [if_neg h0]
      have : decide (0 ≤ l1[j] ∧ l1[j] < 64) = false := decide_eq_false (by omega)
      rw [this, if_neg (by simp)]
      exact hih

theorem obind {α β : Type} {o : Option α} {a : α} (f : α → Option β) (h : o = some a) : o.bind f = f a := by rw [h]; rfl

theorem MaskBackMain (K : Nat) (hK : 150000 < K) (l1 : List Int) (m : Nat) (hm : m < 2 ^ 64) (hl : l1.length ≤ 1000) : raddlelaw08_MaskBack.f (K + 1) (m : Int) l1 = some true := by
  unfold raddlelaw08_MaskBack.f
  rw [if_neg (by omega), obind _ (Of_eq l1), obind _ (all_eq m hm), obind _ (Of_eq _), ofL_bitsL m hm, if_pos rfl, obind _ (ROf_eq (K + 1) l1 (by omega) (by omega)), bne_self_eq_false]
  have h := l0_ok l1 hl l1.length K 0 (by omega) (by omega) (by omega)
  have e0 : ((0 : Nat) : Int) = 0 := rfl
  rw [e0] at h
  rw [← h]
  simp only [raddlelaw08_MaskBack.j0, Bool.false_eq_true, if_false]

theorem MaskBackPure : raddlelaw08_MaskBack.Pure := by
  intro a0 l1 w0 _ _ _
  obtain ⟨m, rfl, hm⟩ := u64_nat w0
  by_cases hl : (l1.length : Int) > 1000
  · refine ⟨0, ?_⟩
    unfold raddlelaw08_MaskBack.f
    rw [if_pos hl, lives08]; rfl
  · exact ⟨200001, MaskBackMain 200000 (by omega) l1 m hm (by omega)⟩

theorem MaskBack_walk (a0 : Int) (a1 : Option Addr) (len1 cap1 : Nat) (z1 : List Int) (w : World) (w0 : (Lit.int .u64 a0).wf = true) (w1 : (a1 = none ∧ len1 = 0 ∧ cap1 = 0 ∧ z1 = []) ∨ ∃ x, a1 = some x ∧ len1 ≤ cap1 ∧ cap1 ≤ maxLen ∧ z1.length = cap1 ∧ (∀ i, i < z1.length → w.cell? (x.add i) = some (.int .i64 (z1.getD i 0))) ∧ ∀ n ∈ z1, (Lit.int .i64 n).wf = true) (y1 : len1 * 8 ≤ 140737488351232) (hT : TabOK w) :
    Calls Tryd.prog 4 #[.int .u64 a0, .slice a1 len1 cap1] w fun e w' => e = .returned (.bool true) ∧ Below w.heap.size w w' :=
  raddlelaw08_MaskBack.walk MaskBackPure a0 a1 len1 cap1 z1 w w0 w1 y1 hT
end Go.Proofs.YtmokngiokdffdaaDoor.P
