/-
  Plain law: what the printed window functions of the program answer.
-/
import Derived.Test.YtmokngiokdffdaaDoorWm
import Derived.Test.YtmokngiokdffdaaDoorPc
namespace Go.Proofs.YtmokngiokdffdaaDoor.P
open Go.RowKit Go.Proofs.YtmokngiokdffdaaDoorW.PrintWords Go.Proofs.YtmokngiokdffdaaDoorW.PrintLast Go.Proofs.YtmokngiokdffdaaDoorW.PrintMore
open Ma
set_option linter.unusedVariables false

theorem Good_eq (B : Int) (m : Nat) (hm : m < 2 ^ 64) (hB : -9223372036854775808 ≤ B) : window_Good.f B (m : Int) = some (goodB B m) := by
  unfold window_Good.f goodB
  by_cases h1 : B < 1
  · rw [if_pos h1, decide_eq_false (by omega)]; rfl
  · rw [if_neg h1]
    by_cases h2 : B > 1099511627777
    · rw [if_pos h2, decide_eq_false (by omega)]; rfl
    · have e0 : (0 : Int) = ((0 : Nat) : Int) := rfl
      rw [if_neg h2, e0, obind _ (Has_eq m hm _), hasB_nat m 0 (by omega), decide_eq_true (show 1 ≤ B ∧ B ≤ 1099511627777 by omega)]
      cases m.testBit 0 with
      | true => rfl
      | false =>
        rw [if_neg (by decide)]
        have hw : wrap64 (wrap64 (1099511627776 - B) + 1) = 1099511627776 - B + 1 := by
          have : wrap64 (1099511627776 - B) = 1099511627776 - B := by unfold wrap64; omega
          rw [this]; unfold wrap64; omega
        rw [hw, obind _ (Down_eq m _)]
        generalize downN m (mx 1 (1099511627776 - B + 1)) = d
        congr 1
        rw [Bool.eq_iff_iff]
        simp only [beq_iff_eq, Bool.true_and, Bool.not_false]
        omega

theorem goodB_bd {B : Int} {m : Nat} (h : goodB B m = true) : 1 ≤ B ∧ B ≤ 1099511627777 := by
  unfold goodB at h
  simp only [Bool.and_eq_true, decide_eq_true_eq] at h
  exact h.1.1

theorem Done_eq (B : Int) (m : Nat) (n : Int) (hm : m < 2 ^ 64) (hB : -9223372036854775808 ≤ B) (hn : n < 9223372036854775808) : window_Done.f B (m : Int) n = some (doneB B m n) := by
  unfold window_Done.f doneB
  rw [obind _ (Good_eq B m hm hB)]
  cases hg : goodB B m with
  | false => rfl
  | true =>
    have hb := goodB_bd hg
    rw [if_pos rfl]
    by_cases h1 : n ≥ 1
    · rw [if_pos h1, decide_eq_true (show 1 ≤ n from h1)]
      by_cases h2 : n < B
      · rw [if_pos h2, decide_eq_true h2]; rfl
      · have hw : wrap64 (n - B) = n - B := by unfold wrap64; omega
        rw [if_neg h2, decide_eq_false h2, hw, obind _ (Has_eq m hm _)]
        simp
    · rw [if_neg h1, decide_eq_false (show ¬ 1 ≤ n from h1)]; rfl

theorem Ask_eq (k : Nat) (hk : 2 ≤ k) (B : Int) (m : Nat) (size n : Int) (hm : m < 2 ^ 64) (hB : -9223372036854775808 ≤ B) (hn : n < 9223372036854775808) :
    window_Ask.f k B (m : Int) size n = some (askI B m size n) := by
  obtain ⟨k, rfl⟩ : ∃ q, k = q + 1 + 1 := ⟨k - 2, by omega⟩
  unfold window_Ask.f askI
  rw [obind _ (Good_eq B m hm hB)]
  cases hg : goodB B m with
  | false => simp
  | true =>
    have hb := goodB_bd hg
    rw [if_pos rfl]
    simp only [window_Ask.j0, Bool.true_eq_false, false_or]
    by_cases h1 : size < 1
    · rw [if_pos h1, if_pos trivial, if_pos (.inl h1)]
    · rw [if_neg h1]
      by_cases h2 : size > 64
      · rw [decide_eq_true h2, if_pos rfl, if_pos (.inr (.inl h2))]
      · rw [decide_eq_false h2, if_neg (by decide)]
        simp only [window_Ask.j1]
        by_cases h3 : n < 1
        · rw [if_pos h3, if_pos trivial, if_pos (.inr (.inr (.inl h3)))]
        · rw [if_neg h3]
          by_cases h4 : n > 1099511627776
          · rw [decide_eq_true h4, if_pos rfl, if_pos (.inr (.inr (.inr h4)))]
          · rw [decide_eq_false h4, if_neg (by decide), if_neg (show ¬ (size < 1 ∨ size > 64 ∨ n < 1 ∨ n > 1099511627776) by omega), obind _ (Done_eq B m n hm hB hn)]
            cases hd : doneB B m n with
            | true => rfl
            | false =>
              have hw : wrap64 (n - B) = n - B := by unfold wrap64; omega
              rw [hw]
              simp only [Bool.false_eq_true, if_false]
              split <;> rfl

theorem askI_zero {B : Int} {m : Nat} {n : Int} (h : askI B m 64 n = 0) : goodB B m = true ∧ B ≤ n ∧ n - B < 64 ∧ 1 ≤ n ∧ n ≤ 1099511627776 ∧ doneB B m n = false := by
  unfold askI at h
  split at h
  · cases h
  · rename_i h1
    split at h
    · cases h
    · rename_i h2
      split at h
      · cases h
      · rename_i h3
        have hg : goodB B m = true := by
          cases hg : goodB B m with
          | true => rfl
          | false => exact absurd (.inl hg) h1
        have hd : doneB B m n = false := by simpa using h2
        have hn1 : 1 ≤ n := by omega
        refine ⟨hg, ?_, by omega, hn1, by omega, hd⟩
        unfold doneB at hd
        rw [hg, decide_eq_true hn1] at hd
        have : decide (n < B) = false := by
          cases hh : decide (n < B) with
          | false => rfl
          | true => rw [hh] at hd; simp at hd
        have := of_decide_eq_false this
        omega

theorem Mark_eq0 (k : Nat) (hk : 2 ≤ k) (B : Int) (m : Nat) (n : Int) (hm : m < 2 ^ 64) (hB : -9223372036854775808 ≤ B) (hn : n < 9223372036854775808) (h : askI B m 64 n = 0) :
    window_Mark.f k B (m : Int) n = some (B + (onesN (nextM B m n) : Int), ((downN (nextM B m n) (onesN (nextM B m n) : Int) : Nat) : Int), 0) := by
  obtain ⟨hg, h1, h2, h3, h4, h5⟩ := askI_zero h
  have hG := (goodB_iff B m hm).1 hg
  have hlt := nextM_lt hm hG h1 h2 h4
  have hgood := mark_good hm hG h1 h2 h4
  have hbd := goodB_bd hg
  unfold window_Mark.f
  rw [obind _ (Ask_eq k hk B m 64 n hm hB hn), h, if_pos rfl]
  have hw : wrap64 (n - B) = n - B := by unfold wrap64; omega
  have e1 : mask_With.f (m : Int) (wrap64 (n - B)) = some ((nextM B m n : Nat) : Int) := by
    rw [hw, With_eq, withI_nat m hm]; rfl
  rw [obind _ e1]
  have e2 : mask_Ones.f ((nextM B m n : Nat) : Int) = some ((onesN (nextM B m n) : Nat) : Int) := by
    unfold mask_Ones.f
    rw [if_pos (by omega)]; rfl
  rw [obind _ e2, obind _ (Down_eq _ _)]
  have hw2 : wrap64 (B + ((onesN (nextM B m n) : Nat) : Int)) = B + ((onesN (nextM B m n) : Nat) : Int) := by
    have := hgood.1; have := hgood.2.1
    unfold wrap64; omega
  rw [hw2]
theorem Mark_eq1 (k : Nat) (hk : 2 ≤ k) (B : Int) (m : Nat) (n : Int) (hm : m < 2 ^ 64) (hB : -9223372036854775808 ≤ B) (hn : n < 9223372036854775808) (h : askI B m 64 n ≠ 0) :
    window_Mark.f k B (m : Int) n = some (0, 0, askI B m 64 n) := by
  unfold window_Mark.f
  rw [obind _ (Ask_eq k hk B m 64 n hm hB hn), if_neg h]

theorem lives09 (k : Nat) (hk : 2 ≤ k) : raddlelaw09_lives.f k = some true := by
  have a1 : askI 1 0 64 2 = 0 := by decide +kernel
  have a2 : askI 1 2 64 1 = 0 := by decide +kernel
  have m1 := Mark_eq0 k hk 1 0 2 (by decide) (by decide) (by decide) a1
  have m2 := Mark_eq0 k hk 1 2 1 (by decide) (by decide) (by decide) a2
  have v1 : (1 : Int) + (onesN (nextM 1 0 2) : Int) = 1 := by decide +kernel
  have v2 : ((downN (nextM 1 0 2) (onesN (nextM 1 0 2) : Int) : Nat) : Int) = 2 := by decide +kernel
  have v3 : (1 : Int) + (onesN (nextM 1 2 1) : Int) = 3 := by decide +kernel
  have v4 : ((downN (nextM 1 2 1) (onesN (nextM 1 2 1) : Int) : Nat) : Int) = 0 := by decide +kernel
  rw [v1, v2] at m1
  rw [v3, v4] at m2
  have e0 : ((0 : Nat) : Int) = 0 := rfl
  have e2 : ((2 : Nat) : Int) = 2 := rfl
  rw [e0] at m1
  rw [e2] at m2
  unfold raddlelaw09_lives.f window_New.f
  rw [obind _ rfl]
  rw [obind _ m1]
  rw [obind _ m2]
  rfl

end Go.Proofs.YtmokngiokdffdaaDoor.P
