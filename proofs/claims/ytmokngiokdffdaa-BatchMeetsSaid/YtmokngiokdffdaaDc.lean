/-
  The closure of digest.words: two turns and a shift, at the two triples of counts that are used.
-/
import Derived.Test.YtmokngiokdffdaaDb
import Derived.Deep.QuietTactic
import Derived.BigQuiet
namespace Go.Proofs.Ytmokngiokdffdaa.P
open Go.RowKit Go.Proofs.YtmokngiokdffdaaW.PrintWords Go.Proofs.YtmokngiokdffdaaW.PrintLast Go.Proofs.YtmokngiokdffdaaW.PrintMore
set_option linter.unusedVariables false

theorem rotl_any (x k : Nat) (hx : x < 4294967296) (h1 : 1 ≤ k) (h2 : k ≤ 31) (w : World) :
    Calls Try.prog 45 #[.int .u32 (x : Int), .int .i64 (wrap64 (-(k : Int)))] w fun e w' => e = .returned (.int .u32 ((Sh.rotr x k : Nat) : Int)) ∧ Drawn0 w w' :=
  (bits_RotateLeft32.calls _ _ _ w (rot_eq x k hx h1 h2)).mono fun _ _ h => h

theorem rotl_at (x k : Nat) (y : Int) (hy : y = -(k : Int)) (hx : x < 4294967296) (h1 : 1 ≤ k) (h2 : k ≤ 31) (w : World) :
    Calls Try.prog 45 #[.int .u32 (x : Int), .int .i64 y] w fun e w' => e = .returned (.int .u32 ((Sh.rotr x k : Nat) : Int)) ∧ Drawn0 w w' := by
  have e : y = wrap64 (-(k : Int)) := by unfold wrap64; omega
  rw [e]
  exact rotl_any x k hx h1 h2 w

theorem rotl_q (x k : Nat) (y : Int) (hy : y = -(k : Int)) (hx : x < 4294967296) (h1 : 1 ≤ k) (h2 : k ≤ 31) (w : World) (n : Nat) :
    Calls Try.prog 45 #[.int .u32 (x : Int), .int .i64 y] (w.drewN n) fun e w' => e = .returned (.int .u32 ((Sh.rotr x k : Nat) : Int)) ∧ ∃ m, w' = w.drewN m :=
  Calls.quiet_of ((rotl_at x k y hy hx h1 h2 _).mono fun _ _ h => ⟨h.1, h.2.out⟩)
set_option maxHeartbeats 1000000 in
theorem mix_7 (x : Nat) (hx : x < 4294967296) (w : World) :
    Calls Try.prog 44 #[.int .u32 (x : Int), .int .i64 7, .int .i64 18, .int .i64 3] w fun e w' => e = .returned (.int .u32 ((Sh.mix x 7 18 3 : Nat) : Int)) ∧ Drawn0 w w' := by
  have C1 := Aside0.mk (rotl_q x 7 (-7) (by decide) hx (by decide) (by decide) w)
  have C2 := Aside0.mk (rotl_q x 18 (-18) (by decide) hx (by decide) (by decide) w)
  have HR := Aside0.mk (fun k => Sh.rotr_lt x k hx)
  have HD := Aside0.mk (Nat.lt_of_le_of_lt (Nat.div_le_self x 8) hx)
  have s1 : IntKind.i64.wrap (-7) = -7 := by decide
  have s2 : IntKind.i64.wrap (-18) = -18 := by decide
  clear hx
  go_enter Try.func44, Try.ntmps44
  go_wp2_with fail
  go_quiet ((first | (go_at_call 45; with_reducible exact C1.out _) | (go_at_call 45; with_reducible exact C2.out _)))
  have e1 : (x : Int) / 8 = ((x / 8 : Nat) : Int) := by omega
  go_wp2
  go_ret
  rw [e1, u32_xor_nat _ _ (HR.out _) (HR.out _), u32_xor_nat _ _ (Sh.xor_lt _ _ (HR.out _) (HR.out _)) HD.out]
  exact ⟨rfl, ⟨⟨_, rfl⟩⟩⟩
set_option maxHeartbeats 1000000 in
theorem mix_17 (x : Nat) (hx : x < 4294967296) (w : World) :
    Calls Try.prog 44 #[.int .u32 (x : Int), .int .i64 17, .int .i64 19, .int .i64 10] w fun e w' => e = .returned (.int .u32 ((Sh.mix x 17 19 10 : Nat) : Int)) ∧ Drawn0 w w' := by
  have C1 := Aside0.mk (rotl_q x 17 (-17) (by decide) hx (by decide) (by decide) w)
  have C2 := Aside0.mk (rotl_q x 19 (-19) (by decide) hx (by decide) (by decide) w)
  have HR := Aside0.mk (fun k => Sh.rotr_lt x k hx)
  have HD := Aside0.mk (Nat.lt_of_le_of_lt (Nat.div_le_self x 1024) hx)
  have s1 : IntKind.i64.wrap (-17) = -17 := by decide
  have s2 : IntKind.i64.wrap (-19) = -19 := by decide
  clear hx
  go_enter Try.func44, Try.ntmps44
  go_wp2_with fail
  go_quiet ((first | (go_at_call 45; with_reducible exact C1.out _) | (go_at_call 45; with_reducible exact C2.out _)))
  have e1 : (x : Int) / 1024 = ((x / 1024 : Nat) : Int) := by omega
  go_wp2
  go_ret
  rw [e1, u32_xor_nat _ _ (HR.out _) (HR.out _), u32_xor_nat _ _ (Sh.xor_lt _ _ (HR.out _) (HR.out _)) HD.out]
  exact ⟨rfl, ⟨⟨_, rfl⟩⟩⟩
end Go.Proofs.Ytmokngiokdffdaa.P
