/-
  Plain law: the numbers of a mask (bits of a Nat below 2^64), in rising order; the walk 'take the lowest, clear it' goes through them.
-/
import Derived.Lib.TrailingZeros
namespace Go.Proofs.YtmokngiokdffdaaDoor.Ma

/-- The places of the bits that are set, rising. -/
def bitsL (m : Nat) : List Nat := (List.range 64).filter (fun i => m.testBit i)

theorem bitsL_zero : bitsL 0 = [] := by simp [bitsL]
theorem mem_bitsL {m i : Nat} : i ∈ bitsL m ↔ i < 64 ∧ m.testBit i = true := by simp [bitsL]
theorem bitsL_length (m : Nat) : (bitsL m).length ≤ 64 := by
  have := List.length_filter_le (fun i => m.testBit i) (List.range 64)
  simpa [bitsL] using this

theorem filter_range_first (n k : Nat) (p q : Nat → Bool) (hk : k < n) (hp : p k = true) (hlo : ∀ i, i < k → p i = false) (hq : ∀ i, i ≤ k → q i = false) (he : ∀ i, k < i → p i = q i) :
    (List.range n).filter p = k :: (List.range n).filter q := by
  obtain ⟨d, rfl⟩ : ∃ d, n = k + (1 + d) := ⟨n - k - 1, by omega⟩
  rw [List.range_add, List.range_add, List.filter_append, List.filter_append]
  have e1 : (List.range k).filter p = [] := by
    rw [List.filter_eq_nil_iff]; intro a ha; rw [hlo a (by simpa using ha)]; simp
  have e2 : (List.range k).filter q = [] := by
    rw [List.filter_eq_nil_iff]; intro a ha; rw [hq a (Nat.le_of_lt (by simpa using ha))]; simp
  rw [e1, e2, List.map_append, List.filter_append, List.filter_append]
  have e3 : List.filter p (List.map (fun x => k + x) (List.range 1)) = [k] := by simp [List.range_succ, hp]
  have e4 : List.filter q (List.map (fun x => k + x) (List.range 1)) = [] := by simp [List.range_succ, hq k (Nat.le_refl _)]
  rw [e3, e4]
  simp only [List.nil_append, List.cons_append]
  congr 1
  apply List.filter_congr
  intro a ha
  simp only [List.map_map, List.mem_map, Function.comp] at ha
  obtain ⟨b, _, rfl⟩ := ha
  exact he _ (by omega)

theorem testBit_low (k m i : Nat) : (2 ^ k * (2 * m + 1)).testBit i = if i < k then false else if i = k then true else m.testBit (i - k - 1) := by
  rw [Nat.mul_comm, Nat.testBit_mul_two_pow]
  by_cases h : i < k
  · simp [h, Nat.not_le.2 h]
  · by_cases he : i = k
    · subst he; simp [Nat.testBit_zero]
    · obtain ⟨j, rfl⟩ : ∃ j, i = k + (j + 1) := ⟨i - k - 1, by omega⟩
      have e3 : k + (j + 1) - k = j + 1 := by omega
      have e4 : k + (j + 1) - k - 1 = j := by omega
      have e5 : (2 * m + 1) / 2 = m := by omega
      simp [e3, Nat.testBit_succ, e5]

theorem testBit_clear (k m i : Nat) : ((2 ^ k * (2 * m + 1)) &&& (2 ^ k * (2 * m + 1) - 1)).testBit i = if i ≤ k then false else m.testBit (i - k - 1) := by
  have hp : 0 < 2 ^ k := Nat.two_pow_pos k
  have e : 2 ^ k * (2 * m + 1) - 1 = 2 ^ (k + 1) * m + (2 ^ k - 1) := by
    have h1 : 2 ^ (k + 1) * m = 2 ^ k * (2 * m) := by rw [Nat.pow_succ, Nat.mul_assoc]
    rw [h1, Nat.mul_add]; omega
  rw [Nat.testBit_and, testBit_low, e]
  by_cases h : i < k
  · simp [h, Nat.le_of_lt h]
  · by_cases he : i = k
    · subst he
      have hlt : 2 ^ i - 1 < 2 ^ (i + 1) := by rw [Nat.pow_succ]; omega
      rw [Nat.testBit_two_pow_mul_add _ hlt]
      simp [Nat.testBit_two_pow_sub_one]
    · have hlt : 2 ^ k - 1 < 2 ^ (k + 1) := by rw [Nat.pow_succ]; omega
      rw [Nat.testBit_two_pow_mul_add _ hlt]
      have h1 : ¬ i < k + 1 := by omega
      have h2 : ¬ i ≤ k := by omega
      have h3 : i - (k + 1) = i - k - 1 := by omega
      simp [h, he, h1, h2, h3]

theorem ctz_form (x : Nat) (h0 : x ≠ 0) (h : x < 2 ^ 64) : ∃ m, x = 2 ^ Lib.ctz 64 x * (2 * m + 1) ∧ Lib.ctz 64 x < 64 := by
  have e : Lib.ctz 64 x = Lib.ctzFrom 64 x := by simp [Lib.ctz, h0]
  rw [e]
  exact Lib.ctzFrom_spec 64 x (by omega) h

/-- One step of the walk. -/
theorem bitsL_step (x : Nat) (h0 : x ≠ 0) (h : x < 2 ^ 64) : bitsL x = Lib.ctz 64 x :: bitsL (x &&& (x - 1)) := by
  obtain ⟨m, hm, hk⟩ := ctz_form x h0 h
  generalize hkk : Lib.ctz 64 x = k at hm hk ⊢
  subst hm
  apply filter_range_first 64 k _ _ hk
  · rw [testBit_low]; simp
  · intro i hi; rw [testBit_low]; simp [hi]
  · intro i hi; rw [testBit_clear]; simp [hi]
  · intro i hi
    rw [testBit_low, testBit_clear]
    have h1 : ¬ i < k := by omega
    have h2 : ¬ i = k := by omega
    have h3 : ¬ i ≤ k := by omega
    simp [h1, h2, h3]
theorem and_lt (x y : Nat) (h : x < 2 ^ 64) : x &&& y < 2 ^ 64 := Nat.lt_of_le_of_lt Nat.and_le_left h

end Go.Proofs.YtmokngiokdffdaaDoor.Ma
