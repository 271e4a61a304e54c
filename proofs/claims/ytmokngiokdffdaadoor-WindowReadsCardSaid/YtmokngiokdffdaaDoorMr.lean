/-
  Plain law: the reference's List, Ones, Down and the comparison of two lists, with enough rounds.
-/
import Derived.Test.YtmokngiokdffdaaDoorMq
namespace Go.Proofs.YtmokngiokdffdaaDoor.P
open Go.RowKit Go.Proofs.YtmokngiokdffdaaDoorW.PrintWords Go.Proofs.YtmokngiokdffdaaDoorW.PrintLast Go.Proofs.YtmokngiokdffdaaDoorW.PrintMore
open Ma

theorem obind {α β : Type} {o : Option α} {a : α} (f : α → Option β) (h : o = some a) : o.bind f = f a := by rw [h]; rfl

theorem hasB_nat (m j : Nat) (hj : j < 64) : hasB m (j : Int) = m.testBit j := by
  have : (0 ≤ (j : Int) ∧ (j : Int) < 64) := by omega
  simp only [hasB, this, and_self, decide_true, Bool.true_and, Int.toNat_natCast]

def bitsTo (m j : Nat) : List Nat := (List.range j).filter (fun i => m.testBit i)
theorem bitsTo_succ (m j : Nat) : bitsTo m (j + 1) = bitsTo m j ++ (if m.testBit j = true then [j] else []) := by
  unfold bitsTo
  rw [List.range_succ, List.filter_append]
  cases h : m.testBit j <;> simp [h]
theorem bitsTo_length (m j : Nat) : (bitsTo m j).length ≤ j := by
  have := List.length_filter_le (fun i => m.testBit i) (List.range j)
  simpa [bitsTo] using this

theorem RList_l0 (m : Nat) (hm : m < 2 ^ 64) (d : Nat) : ∀ (k j : Nat), j ≤ 64 → 64 - j = d → d + 70 < k →
    raddleref08_List.l0 k (m : Int) (ints (bitsTo m j)) (j : Int) = some (ints (bitsL m)) := by
  induction d with
  | zero =>
    intro k j hj hd hk
    obtain ⟨k, rfl⟩ : ∃ q, k = q + 1 := ⟨k - 1, by omega⟩
    have : j = 64 := by omega
    subst this
    simp only [raddleref08_List.l0]
    rw [if_neg (by omega)]; rfl
  | succ d ih =>
    intro k j hj hd hk
    obtain ⟨k, rfl⟩ : ∃ q, k = q + 1 := ⟨k - 1, by omega⟩
    have hlt : j < 64 := by omega
    simp only [raddleref08_List.l0]
    have hih := ih k (j + 1) (by omega) (by omega) (by omega)
    rw [if_pos (by omega), obind _ (RHas_eq k m hm (j : Int) (by omega)), hasB_nat m j hlt, wrap_nat_succ j (by omega)]
    rw [bitsTo_succ] at hih
    by_cases hb : m.testBit j = true
    · rw [if_pos hb] at hih
      have hlen := bitsTo_length m j
      rw [if_pos hb, if_pos (by rw [ints_length]; omega), ← ints_snoc]
      exact hih
    · rw [if_neg hb] at hih
      rw [if_neg hb]
      simpa using hih
theorem RList_eq (k m : Nat) (hm : m < 2 ^ 64) (hk : 140 ≤ k) : raddleref08_List.f k (m : Int) = some (ints (bitsL m)) :=
  RList_l0 m hm 64 k 0 (by omega) (by omega) (by omega)

theorem RInts_l0 (l : List Int) (hl : l.length < 1000000) (d : Nat) : ∀ (k j : Nat), j ≤ l.length → l.length - j = d → d < k →
    raddleref01_Ints.l0 k l l (j : Int) = some true := by
  induction d with
  | zero =>
    intro k j hj hd hk
    obtain ⟨k, rfl⟩ : ∃ q, k = q + 1 := ⟨k - 1, by omega⟩
    simp only [raddleref01_Ints.l0]
    rw [if_neg (by omega)]
  | succ d ih =>
    intro k j hj hd hk
    obtain ⟨k, rfl⟩ : ∃ q, k = q + 1 := ⟨k - 1, by omega⟩
    simp only [raddleref01_Ints.l0]
    rw [if_pos (by omega), if_pos (by omega), if_pos (by omega), if_pos trivial, wrap_nat_succ j (by omega)]
    exact ih k (j + 1) (by omega) (by omega) (by omega)
theorem RInts_eq (k : Nat) (l : List Int) (hl : l.length < 1000000) (hk : l.length < k) : raddleref01_Ints.f k l l = some true := by
  have h := RInts_l0 l hl l.length k 0 (by omega) (by omega) hk
  unfold raddleref01_Ints.f
  rw [if_pos rfl]
  exact h

end Go.Proofs.YtmokngiokdffdaaDoor.P
