/-
  The table of math/bits lies in the world as its initialiser lays it ('TabOK'); math/bits.TrailingZeros64 and mask.Ones under it.
-/
import Derived.Test.YtmokngiokdffdaaDoorProg
import Derived.WalkKit
import Derived.Laws.Bits64b
import Derived.Lib.TrailingZeros
import Derived.Lib.Hide
import Derived.Test.YtmokngiokdffdaaDoorWWords
namespace Go.Proofs.YtmokngiokdffdaaDoor
open Go.RowKit Go.Proofs.YtmokngiokdffdaaDoorW.PrintWords

/-- The table's cells, in block 0. -/
def TabOK (w : World) : Prop := ∀ j, j < 64 → w.cell? ⟨0, j, none⟩ = some (.int .u8 (Lib.deBruijn64tab.getD j 0))

theorem TabOK.size {w : World} (h : TabOK w) : 0 < w.heap.size := World.block_lt_of_cell? w _ (h 0 (by decide))
theorem TabOK.below {w W : World} {B : Nat} (h : TabOK w) (hB : 0 < B) (hb : Below B w W) : TabOK W := fun j hj =>
  (hb.cell (p := ⟨0, j, none⟩) hB).trans (h j hj)
theorem TabOK.below' {w W : World} (h : TabOK w) (hb : Below w.heap.size w W) : TabOK W := h.below h.size hb
theorem TabOK.alloc {w : World} (h : TabOK w) (o : Obj) : TabOK (w.alloc o) := h.below' ((Below.refl _ _).alloc (Nat.le_refl _) o)
theorem TabOK.drew {w : World} (h : TabOK w) : TabOK w.drew := h
theorem TabOK.drewN {w : World} (h : TabOK w) (n : Nat) : TabOK (w.drewN n) := h.below' (pw_below_drewN (Below.refl _ _) n)

namespace P

theorem wrap_u64'' (n : Int) : IntKind.u64.wrap n = n % 18446744073709551616 := by simp [IntKind.wrap, IntKind.signed, IntKind.bits]

set_option maxHeartbeats 1000000 in
theorem tz64_core (x k idx : Nat) (w : World) (hx0 : ((x : Int) == 0) = false)
    (key : IntKind.u64.wrap (bits BinOp.and IntKind.u64 (x : Int) (IntKind.u64.wrap (-(x : Int))) * 285870213051353865) / 288230376151711744 = (idx : Int))
    (hi : idx < 64) (hk : k < 64) (hcell : w.cell? ⟨0, idx, none⟩ = some (.int .u8 k)) :
    Calls Tryd.prog 44 #[.int .u64 x] w fun e w' => e = .returned (.int .i64 k) ∧ w' = w := by
  go_enter Tryd.func44, Tryd.ntmps44
  go_wp2_with (simp only [key])
  go_ret
  exact ⟨rfl, rfl⟩

theorem tz64_zero (w : World) :
    Calls Tryd.prog 44 #[.int .u64 0] w fun e w' => e = .returned (.int .i64 64) ∧ w' = w := by
  go_enter Tryd.func44, Tryd.ntmps44
  go_wp2
  go_ret
  exact ⟨rfl, rfl⟩

theorem tz64_key (x a : Nat) (hx : x < 18446744073709551616) (hx0 : x ≠ 0) (hlow : x &&& (18446744073709551616 - x) = a) :
    IntKind.u64.wrap (bits BinOp.and IntKind.u64 (x : Int) (IntKind.u64.wrap (-(x : Int))) * 285870213051353865) / 288230376151711744 = ((a * 285870213051353865 % 18446744073709551616 / 288230376151711744 : Nat) : Int) := by
  have e1 : IntKind.u64.wrap (-(x : Int)) = ((18446744073709551616 - x : Nat) : Int) := by rw [IntKind.wrap_u64]; omega
  rw [e1, bits_and_u64_nat x _ hx (by omega), hlow, IntKind.wrap_u64]
  omega

theorem tz64_any (x : Nat) (hx : x < 18446744073709551616) (w : World) (hT : TabOK w) :
    Calls Tryd.prog 44 #[.int .u64 x] w fun e w' => e = .returned (.int .i64 (Lib.ctz 64 x)) ∧ w' = w := by
  by_cases hx0 : x = 0
  · subst hx0
    exact tz64_zero w
  · obtain ⟨hlow, hk⟩ := Lib.lowest_bit 64 x hx0 hx
    obtain ⟨hi, htab⟩ := Lib.deBruijn64_at _ hk
    have hc := hT _ hi
    rw [htab] at hc
    refine tz64_core x (Lib.ctz 64 x) _ w ?_ (tz64_key x _ hx hx0 hlow) hi hk hc
    simp only [beq_eq_false_iff_ne]
    omega

/-- What mask.Ones answers. -/
def mask_Ones.f (a0 : Int) : Option (Int) := if 0 ≤ a0 ∧ a0 < 18446744073709551616 then some (Lib.ctz 64 (18446744073709551615 - a0.toNat)) else none

theorem xor_key (x : Nat) (hx : x < 18446744073709551616) : bits BinOp.xor .u64 IntKind.u64.max (x : Int) = ((18446744073709551615 - x : Nat) : Int) := by
  have e : IntKind.u64.max = ((18446744073709551615 : Nat) : Int) := rfl
  rw [e, bits_xor_u64_nat _ _ (by decide) hx]
  congr 1
  have h2 : (18446744073709551615 : Nat) = 2 ^ 64 - 1 := by decide
  apply Nat.eq_of_testBit_eq
  intro i
  have h3 : 18446744073709551615 - x = 2 ^ 64 - (x + 1) := by omega
  rw [h3, Nat.testBit_two_pow_sub_succ (by simpa using hx), Nat.testBit_xor, h2, Nat.testBit_two_pow_sub_one]
  by_cases hi : i < 64
  · simp [hi]
  · have : x.testBit i = false := Nat.testBit_lt_two_pow (Nat.lt_of_lt_of_le (show x < 2 ^ 64 by simpa using hx) (Nat.pow_le_pow_right (by decide) (by omega)))
    simp [hi, this]

set_option maxHeartbeats 1000000 in
theorem mask_Ones.calls (a0 : Int) (r : Int) (w : World) (h : mask_Ones.f a0 = some r) (hT : TabOK w) :
    Calls Tryd.prog 46 #[.int .u64 a0] w fun e w' => e = .returned (.int .i64 r) ∧ Drawn0 w w' := by
  unfold mask_Ones.f at h
  split at h
  · rename_i hb
    obtain ⟨x, rfl⟩ := Int.eq_ofNat_of_zero_le hb.1
    have hx : x < 18446744073709551616 := by omega
    clear hb
    have hr := Option.some.inj h
    clear h
    subst hr
    have e0 : ((x : Int)).toNat = x := rfl
    rw [e0]
    have H := Lib.hid hx
    clear hx e0
    go_enter Tryd.func46, Tryd.ntmps46
    go_wp2_with fail
    rw [xor_key x H.out]
    refine (tz64_any (18446744073709551615 - x) (by omega) _ hT).mono ?_
    rintro e w' ⟨rfl, rfl⟩
    go_wp2
    go_ret
    exact ⟨rfl, Drawn0.refl _⟩
  · cases h

end P
end Go.Proofs.YtmokngiokdffdaaDoor
