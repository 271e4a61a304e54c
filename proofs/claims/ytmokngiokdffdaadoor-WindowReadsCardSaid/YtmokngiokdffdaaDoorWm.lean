/-
  Plain law of windows: a window is a base and a mask; the numbers that it tells as delivered; what a mark does to them.
-/
import Derived.Test.YtmokngiokdffdaaDoorMr
namespace Go.Proofs.YtmokngiokdffdaaDoor.P
open Go.RowKit Go.Proofs.YtmokngiokdffdaaDoorW.PrintWords Go.Proofs.YtmokngiokdffdaaDoorW.PrintLast Go.Proofs.YtmokngiokdffdaaDoorW.PrintMore
open Ma
set_option linter.unusedVariables false

def goodB (B : Int) (m : Nat) : Bool := decide (1 ≤ B ∧ B ≤ 1099511627777) && !m.testBit 0 && (downN m (mx 1 (1099511627776 - B + 1)) == 0)
def Good (B : Int) (m : Nat) : Prop := 1 ≤ B ∧ B ≤ 1099511627777 ∧ m.testBit 0 = false ∧ ∀ i, m.testBit i = true → B + (i : Int) ≤ 1099511627776

theorem goodB_iff (B : Int) (m : Nat) (hm : m < 2 ^ 64) : goodB B m = true ↔ Good B m := by
  unfold goodB Good
  simp only [Bool.and_eq_true, decide_eq_true_eq, Bool.not_eq_true', beq_iff_eq]
  constructor
  · rintro ⟨⟨⟨h1, h2⟩, h3⟩, h4⟩
    refine ⟨h1, h2, h3, fun i hi => ?_⟩
    refine Int.not_lt.1 fun hlt => ?_
    have hb := testBit_downN m hm (mx 1 (1099511627776 - B + 1)) (i - (mx 1 (1099511627776 - B + 1)).toNat)
    rw [h4, Nat.zero_testBit] at hb
    have hi0 : i ≠ 0 := by rintro rfl; rw [h3] at hi; cases hi
    have e : i - (mx 1 (1099511627776 - B + 1)).toNat + (mx 1 (1099511627776 - B + 1)).toNat = i := by
      have : (mx 1 (1099511627776 - B + 1)).toNat ≤ i := by unfold mx; split <;> omega
      omega
    rw [e, hi] at hb; cases hb
  · rintro ⟨h1, h2, h3, h4⟩
    refine ⟨⟨⟨h1, h2⟩, h3⟩, ?_⟩
    apply Nat.eq_of_testBit_eq
    intro k
    rw [testBit_downN m hm, Nat.zero_testBit]
    cases hb : m.testBit (k + (mx 1 (1099511627776 - B + 1)).toNat) with
    | false => rfl
    | true =>
      have := h4 _ hb
      have h5 : 1099511627776 - B + 1 ≤ mx 1 (1099511627776 - B + 1) := by unfold mx; split <;> omega
      omega

def doneB (B : Int) (m : Nat) (n : Int) : Bool := goodB B m && decide (1 ≤ n) && (decide (n < B) || hasB m (n - B))
def askI (B : Int) (m : Nat) (size n : Int) : Int :=
  if goodB B m = false ∨ size < 1 ∨ size > 64 ∨ n < 1 ∨ n > 1099511627776 then 2 else if doneB B m n = true then 90 else if n - B ≥ size then 91 else 0
def onesN (m : Nat) : Nat := Lib.ctz 64 (18446744073709551615 - m)
def nextM (B : Int) (m : Nat) (n : Int) : Nat := withN m (n - B)

theorem onesN_spec (m : Nat) (hm : m < 2 ^ 64) : onesN m ≤ 64 ∧ (∀ i, i < onesN m → m.testBit i = true) ∧ m.testBit (onesN m) = false := by
  have hflip : ∀ i, (18446744073709551615 - m).testBit i = (decide (i < 64) && !m.testBit i) := by
    intro i
    have e : 18446744073709551615 - m = 2 ^ 64 - (m + 1) := by omega
    rw [e, Nat.testBit_two_pow_sub_succ hm]
  unfold onesN
  generalize hx : 18446744073709551615 - m = x at hflip
  by_cases h0 : x = 0
  · subst h0
    have e : Lib.ctz 64 0 = 64 := rfl
    rw [e]
    refine ⟨Nat.le_refl _, fun i hi => ?_, testBit_big m hm 64 (Nat.le_refl _)⟩
    have := hflip i
    rw [Nat.zero_testBit] at this
    simpa [hi] using this.symm
  · have hlt : x < 2 ^ 64 := by omega
    obtain ⟨q, hq, hk⟩ := ctz_form x h0 hlt
    generalize Lib.ctz 64 x = t at hq hk ⊢
    refine ⟨Nat.le_of_lt hk, fun i hi => ?_, ?_⟩
    · have h := hflip i
      rw [hq, testBit_low, if_pos hi] at h
      have h64 : i < 64 := by omega
      simpa [h64] using h.symm
    · have h := hflip t
      rw [hq, testBit_low] at h
      simpa [hk] using h.symm

theorem hasB_out (m : Nat) (i : Int) (h : ¬ (0 ≤ i ∧ i < 64)) : hasB m i = false := by
  unfold hasB; rw [decide_eq_false h]; rfl

theorem nextM_bit {B : Int} {m : Nat} {n : Int} (hm : m < 2 ^ 64) (hg : Good B m) (h1 : B ≤ n) (h2 : n - B < 64) (h3 : n ≤ 1099511627776) (j : Nat) : (nextM B m n).testBit j = (m.testBit j || decide (n - B = (j : Int))) := by
  unfold nextM
  rw [testBit_withN]
  congr 1
  exact decide_eq_decide.2 ⟨fun h => h.2.2, fun h => ⟨by omega, by omega, h⟩⟩
theorem nextM_le {B : Int} {m : Nat} {n : Int} (hm : m < 2 ^ 64) (hg : Good B m) (h1 : B ≤ n) (h2 : n - B < 64) (h3 : n ≤ 1099511627776) (j : Nat) (h : (nextM B m n).testBit j = true) : B + (j : Int) ≤ 1099511627776 := by
  rw [nextM_bit hm hg h1 h2 h3, Bool.or_eq_true, decide_eq_true_eq] at h
  rcases h with h | h
  · exact hg.2.2.2 j h
  · omega
theorem nextM_lt {B : Int} {m : Nat} {n : Int} (hm : m < 2 ^ 64) (hg : Good B m) (h1 : B ≤ n) (h2 : n - B < 64) (h3 : n ≤ 1099511627776) : nextM B m n < 2 ^ 64 := withN_lt m hm _

theorem mark_bit {B : Int} {m : Nat} {n : Int} (hm : m < 2 ^ 64) (hg : Good B m) (h1 : B ≤ n) (h2 : n - B < 64) (h3 : n ≤ 1099511627776) (j : Nat) : (downN (nextM B m n) (onesN (nextM B m n) : Int)).testBit j = (nextM B m n).testBit (j + onesN (nextM B m n)) := by
  rw [testBit_downN _ (nextM_lt hm hg h1 h2 h3)]; rfl

theorem mark_good {B : Int} {m : Nat} {n : Int} (hm : m < 2 ^ 64) (hg : Good B m) (h1 : B ≤ n) (h2 : n - B < 64) (h3 : n ≤ 1099511627776) : Good (B + (onesN (nextM B m n) : Int)) (downN (nextM B m n) (onesN (nextM B m n) : Int)) := by
  obtain ⟨ho1, ho2, ho3⟩ := onesN_spec _ (nextM_lt hm hg h1 h2 h3)
  have hb := mark_bit hm hg h1 h2 h3
  have hle := nextM_le hm hg h1 h2 h3
  obtain ⟨g1, g2, g3, g4⟩ := hg
  generalize onesN (nextM B m n) = t at *
  refine ⟨by omega, ?_, ?_, ?_⟩
  · by_cases ht : t = 0
    · subst ht; simpa using g2
    · have := hle (t - 1) (ho2 (t - 1) (by omega)); omega
  · rw [hb, Nat.zero_add]; exact ho3
  · intro i hi
    rw [hb] at hi
    have := hle _ hi
    omega

theorem mark_done {B : Int} {m : Nat} {n : Int} (hm : m < 2 ^ 64) (hg : Good B m) (h1 : B ≤ n) (h2 : n - B < 64) (h3 : n ≤ 1099511627776) (q : Int) : doneB (B + (onesN (nextM B m n) : Int)) (downN (nextM B m n) (onesN (nextM B m n) : Int)) q = (doneB B m q || decide (q = n)) := by
  have hg' := mark_good hm hg h1 h2 h3
  have hlt' := downN_lt _ (nextM_lt hm hg h1 h2 h3) (onesN (nextM B m n) : Int)
  have e1 : goodB B m = true := (goodB_iff B m hm).2 hg
  have e2 := (goodB_iff _ _ hlt').2 hg'
  obtain ⟨ho1, ho2, ho3⟩ := onesN_spec _ (nextM_lt hm hg h1 h2 h3)
  have hb := mark_bit hm hg h1 h2 h3
  have hn := nextM_bit hm hg h1 h2 h3
  have hlt := nextM_lt hm hg h1 h2 h3
  unfold doneB
  rw [e1, e2]
  simp only [Bool.true_and]
  generalize onesN (nextM B m n) = t at *
  generalize nextM B m n = m' at *
  obtain ⟨g1, g2, g3, g4⟩ := hg
  by_cases hq : 1 ≤ q
  · have hd1 : decide (1 ≤ q) = true := decide_eq_true hq
    rw [hd1]
    simp only [Bool.true_and]
    by_cases hqB : q < B
    · have a1 : decide (q < B) = true := decide_eq_true hqB
      have a2 : decide (q < B + (t : Int)) = true := decide_eq_true (by omega)
      rw [a1, a2]; simp
    · obtain ⟨j, hj⟩ : ∃ j : Nat, q = B + (j : Int) := ⟨(q - B).toNat, by omega⟩
      subst hj
      have a1 : decide (B + (j : Int) < B) = false := decide_eq_false (by omega)
      have a3 : B + (j : Int) - B = (j : Int) := by omega
      have a4 : decide (B + (j : Int) = n) = decide (n - B = (j : Int)) := decide_eq_decide.2 ⟨fun h => by omega, fun h => by omega⟩
      have rhs : (hasB m (j : Int) || decide (n - B = (j : Int))) = m'.testBit j := by
        rw [hn]
        by_cases hj64 : j < 64
        · rw [hasB_nat m j hj64]
        · have z1 : hasB m (j : Int) = false := by
            exact hasB_out _ _ (by omega)
          rw [z1, testBit_big m hm j (by omega)]
      rw [a1, a3, a4, Bool.false_or, rhs]
      by_cases hjt : j < t
      · have a2 : decide (B + (j : Int) < B + (t : Int)) = true := decide_eq_true (by omega)
        rw [a2, ho2 j hjt]; simp
      · have a2 : decide (B + (j : Int) < B + (t : Int)) = false := decide_eq_false (by omega)
        have a5 : B + (j : Int) - (B + (t : Int)) = ((j - t : Nat) : Int) := by omega
        rw [a2, a5, Bool.false_or]
        by_cases hj64 : j - t < 64
        · rw [hasB_nat _ _ hj64, hb]
          congr 1; omega
        · have z1 : hasB (downN m' (t : Int)) ((j - t : Nat) : Int) = false := by
            exact hasB_out _ _ (by omega)
          rw [z1, testBit_big m' hlt j (by omega)]
  · have hd1 : decide (1 ≤ q) = false := decide_eq_false hq
    have hd2 : decide (q = n) = false := decide_eq_false (by omega)
    rw [hd1, hd2]; simp

/-- A window that may be is known by the numbers that it tells as delivered. -/
theorem good_unique {B1 B2 : Int} {m1 m2 : Nat} (h1 : m1 < 2 ^ 64) (h2 : m2 < 2 ^ 64) (g1 : Good B1 m1) (g2 : Good B2 m2) (h : ∀ q, 1 ≤ q → doneB B1 m1 q = doneB B2 m2 q) : B1 = B2 ∧ m1 = m2 := by
  have e1 := (goodB_iff B1 m1 h1).2 g1
  have e2 := (goodB_iff B2 m2 h2).2 g2
  have key : ∀ {B B' : Int} {m m' : Nat}, Good B m → Good B' m' → goodB B m = true → goodB B' m' = true → (∀ q, 1 ≤ q → doneB B m q = doneB B' m' q) → ¬ B < B' := by
    intro B B' m m' g g' e e' h hlt
    have hq := h B g.1
    unfold doneB at hq
    rw [e, e'] at hq
    have a1 : decide (1 ≤ B) = true := decide_eq_true g.1
    have a2 : decide (B < B) = false := decide_eq_false (by omega)
    have a3 : decide (B < B') = true := decide_eq_true hlt
    have a4 : hasB m (B - B) = false := by
      have e0 : B - B = ((0 : Nat) : Int) := by omega
      rw [e0, hasB_nat m 0 (by omega)]; exact g.2.2.1
    rw [a1, a2, a3, a4] at hq
    simp at hq
  have hB : B1 = B2 := by
    have k1 := key g1 g2 e1 e2 h
    have k2 := key g2 g1 e2 e1 (fun q hq => (h q hq).symm)
    omega
  subst hB
  refine ⟨rfl, ?_⟩
  apply Nat.eq_of_testBit_eq
  intro j
  by_cases hj : j < 64
  · have hq := h (B1 + (j : Int)) (by have := g1.1; omega)
    unfold doneB at hq
    have a1 : decide (1 ≤ B1 + (j : Int)) = true := decide_eq_true (by have := g1.1; omega)
    have a2 : decide (B1 + (j : Int) < B1) = false := decide_eq_false (by omega)
    have a3 : B1 + (j : Int) - B1 = (j : Int) := by omega
    rw [e1, e2, a1, a2, a3, hasB_nat m1 j hj, hasB_nat m2 j hj] at hq
    simpa using hq
  · rw [testBit_big m1 h1 j (by omega), testBit_big m2 h2 j (by omega)]

end Go.Proofs.YtmokngiokdffdaaDoor.P
