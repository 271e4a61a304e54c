/-
  The small functions of the digest: a word turned, three turns, two turns and a shift, the round's number; the program's and the reference's.
-/
import Derived.Test.YtmokngiokdffdaaSh
import Derived.Test.YtmokngiokdffdaaTa
import Derived.Lib.Hide
namespace Go.Proofs.Ytmokngiokdffdaa.P
open Go.RowKit Go.Proofs.YtmokngiokdffdaaW.PrintWords Go.Proofs.YtmokngiokdffdaaW.PrintLast Go.Proofs.YtmokngiokdffdaaW.PrintMore
open Sh (rotr m32 m32_lt)
set_option linter.unusedVariables false

theorem obind {α β : Type} {o : Option α} {a : α} (f : α → Option β) (h : o = some a) : o.bind f = f a := by rw [h]; rfl
theorem wrap_u32n (n : Nat) : IntKind.u32.wrap (n : Int) = ((m32 n : Nat) : Int) := by rw [IntKind.wrap_u32']; unfold m32; omega

theorem shl_u32n (x k : Nat) (hk : k ≤ 32) : shl .u32 (x : Int) (k : Int) = ((m32 (x * 2 ^ k) : Nat) : Int) := by
  unfold shl
  have e : min (k : Int).toNat IntKind.u32.bits = k := by show min k 32 = k; omega
  rw [e, ← wrap_u32n, Int.natCast_mul, Int.natCast_pow]; rfl
theorem shr_u32n (x k : Nat) (hk : k ≤ 32) : shr .u32 (x : Int) (k : Int) = ((x / 2 ^ k : Nat) : Int) := by
  unfold shr
  have e : min (k : Int).toNat IntKind.u32.bits = k := by show min k 32 = k; omega
  rw [e, Int.natCast_ediv, Int.natCast_pow]; rfl

theorem rot_count (k : Nat) (h1 : 1 ≤ k) (h2 : k ≤ 31) : bits .and .u64 (IntKind.u64.wrap (wrap64 (-(k : Int)))) 31 = ((32 - k : Nat) : Int) := by
  have e1 : IntKind.u64.wrap (wrap64 (-(k : Int))) = ((18446744073709551616 - k : Nat) : Int) := by
    rw [IntKind.wrap_u64]; unfold wrap64; omega
  have e2 : ((31 : Nat) : Int) = 31 := rfl
  rw [e1, ← e2, u64_and_nat _ 31 (by omega) (by decide)]
  have e3 : (31 : Nat) = 2 ^ 5 - 1 := by decide
  rw [e3, Nat.and_two_pow_sub_one_eq_mod]
  congr 1
  omega

theorem rot_eq (x k : Nat) (hx : x < 4294967296) (h1 : 1 ≤ k) (h2 : k ≤ 31) : bits_RotateLeft32.f (x : Int) (wrap64 (-(k : Int))) = some ((rotr x k : Nat) : Int) := by
  unfold bits_RotateLeft32.f
  rw [rot_count k h1 h2]
  have e1 : IntKind.u64.wrap (32 - ((32 - k : Nat) : Int)) = (k : Int) := by rw [IntKind.wrap_u64]; omega
  rw [e1, if_pos (by omega), if_pos (by omega), shl_u32n x (32 - k) (by omega), shr_u32n x k (by omega), u32_or_nat _ _ (m32_lt _) (Nat.lt_of_le_of_lt (Nat.div_le_self _ _) hx), Nat.or_comm]
  rfl

theorem ror_eq (x k : Nat) (hx : x < 4294967296) (h1 : 1 ≤ k) (h2 : k ≤ 31) : raddleref03_ror.f (x : Int) (k : Int) = some ((rotr x k : Nat) : Int) := by
  unfold raddleref03_ror.f
  have e1 : wrap64 (32 - (k : Int)) = ((32 - k : Nat) : Int) := by unfold wrap64; omega
  rw [e1, if_pos (by omega), if_pos (by omega), shl_u32n x (32 - k) (by omega), shr_u32n x k (by omega), u32_or_nat _ _ (Nat.lt_of_le_of_lt (Nat.div_le_self _ _) hx) (m32_lt _)]
  rfl

theorem turns_eq (x a b c : Nat) (hx : x < 4294967296) (h1 : 1 ≤ a) (h2 : a ≤ 31) (h3 : 1 ≤ b) (h4 : b ≤ 31) (h5 : 1 ≤ c) (h6 : c ≤ 31) :
    digest_turns.f (x : Int) (a : Int) (b : Int) (c : Int) = some ((Sh.turn x a b c : Nat) : Int) := by
  unfold digest_turns.f
  rw [obind _ (rot_eq x a hx h1 h2), obind _ (rot_eq x b hx h3 h4), obind _ (rot_eq x c hx h5 h6)]
  have g := fun k => Sh.rotr_lt x k hx
  rw [u32_xor_nat _ _ (g a) (g b), u32_xor_nat _ _ (Sh.xor_lt _ _ (g a) (g b)) (g c)]
  rfl

/-- Three turns. -/
theorem turns_any (x a b c : Nat) (hx : x < 4294967296) (h1 : 1 ≤ a) (h2 : a ≤ 31) (h3 : 1 ≤ b) (h4 : b ≤ 31) (h5 : 1 ≤ c) (h6 : c ≤ 31) (w : World) :
    Calls Try.prog 42 #[.int .u32 (x : Int), .int .i64 (a : Int), .int .i64 (b : Int), .int .i64 (c : Int)] w fun e w' => e = .returned (.int .u32 ((Sh.turn x a b c : Nat) : Int)) ∧ Drawn0 w w' :=
  (digest_turns.calls _ _ _ _ _ w (turns_eq x a b c hx h1 h2 h3 h4 h5 h6)).mono fun _ _ h => h

theorem ror_any (x k : Nat) (hx : x < 4294967296) (h1 : 1 ≤ k) (h2 : k ≤ 31) (w : World) :
    Calls Try.prog 36 #[.int .u32 (x : Int), .int .i64 (k : Int)] w fun e w' => e = .returned (.int .u32 ((rotr x k : Nat) : Int)) ∧ Drawn0 w w' :=
  (raddleref03_ror.calls _ _ _ w (ror_eq x k hx h1 h2)).mono fun _ _ h => h

end Go.Proofs.Ytmokngiokdffdaa.P
