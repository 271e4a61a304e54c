/-
  Plain law: what the printed mask functions answer, in bits of a Nat below 2^64.
-/
import Derived.Test.YtmokngiokdffdaaDoorHd
import Derived.Laws.BitsAllLaws
namespace Go.Proofs.YtmokngiokdffdaaDoor.P
open Go.RowKit Go.Proofs.YtmokngiokdffdaaDoorW.PrintWords Go.Proofs.YtmokngiokdffdaaDoorW.PrintLast Go.Proofs.YtmokngiokdffdaaDoorW.PrintMore
open Ma

def hasB (m : Nat) (i : Int) : Bool := decide (0 ≤ i ∧ i < 64) && m.testBit i.toNat
def downN (m : Nat) (n : Int) : Nat := if n < 1 then m else if n < 64 then m / 2 ^ n.toNat else 0
def withN (m : Nat) (i : Int) : Nat := if 0 ≤ i ∧ i < 64 then m ||| 2 ^ i.toNat else m

theorem wf_u64 {a : Int} (h : (Lit.int .u64 a).wf = true) : 0 ≤ a ∧ a < 18446744073709551616 := by
  simp [Lit.wf, IntKind.min, IntKind.max, IntKind.signed, IntKind.bits] at h; omega
theorem wf_i64 {a : Int} (h : (Lit.int .i64 a).wf = true) : -9223372036854775808 ≤ a ∧ a < 9223372036854775808 := by
  simp [Lit.wf, IntKind.min, IntKind.max, IntKind.signed, IntKind.bits] at h; omega
theorem u64_nat {a : Int} (h : (Lit.int .u64 a).wf = true) : ∃ m : Nat, a = (m : Int) ∧ m < 2 ^ 64 := by
  obtain ⟨h0, h1⟩ := wf_u64 h
  exact ⟨a.toNat, by omega, by omega⟩

theorem shr_nat (m : Nat) (i : Int) (hi : i < 64) : shr .u64 (m : Int) i = ((m / 2 ^ i.toNat : Nat) : Int) := by
  have hb : IntKind.u64.bits = 64 := rfl
  unfold shr
  rw [hb, Nat.min_eq_left (by omega)]
  simp

theorem Has_eq (m : Nat) (hm : m < 2 ^ 64) (i : Int) : mask_Has.f (m : Int) i = some (hasB m i) := by
  unfold mask_Has.f mask_is.f hasB
  by_cases h0 : 0 ≤ i
  · by_cases h1 : i < 64
    · have hd : m / 2 ^ i.toNat < 18446744073709551616 := Nat.lt_of_le_of_lt (Nat.div_le_self _ _) hm
      simp only [ge_iff_le, h0, h1, if_true, decide_true, Option.bind_some, and_self, Bool.true_and]
      have h1' : bits BinOp.and .u64 ((m / 2 ^ i.toNat : Nat) : Int) 1 = ((m / 2 ^ i.toNat &&& 1 : Nat) : Int) := u64_and_nat _ 1 hd (by decide)
      rw [shr_nat m i h1, h1', nat_mask1, Nat.testBit_eq_decide_div_mod_eq]
      congr 1
      rcases Nat.mod_two_eq_zero_or_one (m / 2 ^ i.toNat) with h | h <;> rw [h] <;> rfl
    · simp [h0, h1]
  · simp [h0]

theorem Down_eq (m : Nat) (n : Int) : mask_Down.f (m : Int) n = some ((downN m n : Nat) : Int) := by
  unfold mask_Down.f mask_is.f downN
  by_cases h0 : n < 1
  · simp [h0]
  · have h0' : 0 ≤ n := by omega
    by_cases h1 : n < 64
    · simp only [ge_iff_le, h0, h0', h1, if_true, if_false, decide_true, Option.bind_some]
      rw [shr_nat m n h1]
    · simp [h0, h0', h1]

theorem downN_lt (m : Nat) (hm : m < 2 ^ 64) (n : Int) : downN m n < 2 ^ 64 := by
  unfold downN; split
  · exact hm
  · split
    · exact Nat.lt_of_le_of_lt (Nat.div_le_self _ _) hm
    · decide
theorem withN_lt (m : Nat) (hm : m < 2 ^ 64) (i : Int) : withN m i < 2 ^ 64 := by
  unfold withN; split
  · rename_i h
    exact Nat.or_lt_two_pow hm (Nat.pow_lt_pow_right (by decide) (by omega))
  · exact hm

theorem shl_one (i : Int) (h0 : 0 ≤ i) (hi : i < 64) : shl .u64 1 i = ((2 ^ i.toNat : Nat) : Int) := by
  have hb : IntKind.u64.bits = 64 := rfl
  unfold shl
  rw [hb, Nat.min_eq_left (by omega), IntKind.wrap_u64, Int.one_mul]
  have h3 : (2 : Nat) ^ i.toNat < 2 ^ 64 := Nat.pow_lt_pow_right (by decide) (by omega)
  have h2 : ((2 : Int) ^ i.toNat) = (((2 : Nat) ^ i.toNat : Nat) : Int) := by simp
  rw [h2]
  generalize (2 : Nat) ^ i.toNat = p at h3
  omega

theorem withI_nat (m : Nat) (hm : m < 2 ^ 64) (i : Int) : withI (m : Int) i = ((withN m i : Nat) : Int) := by
  unfold withI withN
  split
  · rename_i h
    have h3 : (2 : Nat) ^ i.toNat < 2 ^ 64 := Nat.pow_lt_pow_right (by decide) (by omega)
    rw [shl_one i h.1 h.2, u64_or_nat m _ hm h3]
  · rfl

theorem testBit_withN (m : Nat) (i : Int) (k : Nat) : (withN m i).testBit k = (m.testBit k || decide (0 ≤ i ∧ i < 64 ∧ i = (k : Int))) := by
  unfold withN
  split
  · rename_i h
    rw [Nat.testBit_or, Nat.testBit_two_pow]
    congr 1
    exact decide_eq_decide.2 ⟨fun e => ⟨h.1, h.2, by omega⟩, fun e => by omega⟩
  · rename_i h
    have : ¬ (0 ≤ i ∧ i < 64 ∧ i = (k : Int)) := fun e => h ⟨e.1, e.2.1⟩
    simp [this]

theorem testBit_downN (m : Nat) (hm : m < 2 ^ 64) (n : Int) (k : Nat) : (downN m n).testBit k = m.testBit (k + n.toNat) := by
  unfold downN
  split
  · have : n.toNat = 0 := by omega
    rw [this]; rfl
  · split
    · rw [Nat.testBit_div_two_pow]
    · have : m.testBit (k + n.toNat) = false := Nat.testBit_lt_two_pow (Nat.lt_of_lt_of_le hm (Nat.pow_le_pow_right (by decide) (by omega)))
      rw [this, Nat.zero_testBit]

theorem testBit_big (m : Nat) (hm : m < 2 ^ 64) (k : Nat) (hk : 64 ≤ k) : m.testBit k = false :=
  Nat.testBit_lt_two_pow (Nat.lt_of_lt_of_le hm (Nat.pow_le_pow_right (by decide) hk))

theorem lives_ok : mask_Of.f [0, 1, 3] = some 11 ∧ mask_Ones.f 11 = some 2 ∧ mask_Many.f 11 = some 3 := by
  refine ⟨by decide +kernel, by decide +kernel, by decide +kernel⟩

end Go.Proofs.YtmokngiokdffdaaDoor.P
