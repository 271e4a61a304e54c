/-
  MaskDown: the plain law.
-/
import Derived.Test.YtmokngiokdffdaaDoorPb
import Derived.Test.YtmokngiokdffdaaDoorMp
namespace Go.Proofs.YtmokngiokdffdaaDoor.P
open Go.RowKit Go.Proofs.YtmokngiokdffdaaDoorW.PrintWords Go.Proofs.YtmokngiokdffdaaDoorW.PrintLast Go.Proofs.YtmokngiokdffdaaDoorW.PrintMore

theorem lives08 : raddlelaw08_lives.f = some true := by
  obtain ⟨h1, h2, h3⟩ := lives_ok
  unfold raddlelaw08_lives.f
  have e : ((11 : Nat) : Int) = 11 := rfl
  rw [h1]; simp only [Option.bind_some, if_true]
  rw [h2]; simp only [Option.bind_some, if_true]
  rw [h3]; simp only [Option.bind_some, if_true]
  rw [← e, Down_eq, Has_eq 11 (by decide)]
  decide +kernel

theorem mod64 (a : Int) : wrap64 (Int.tmod (IntKind.u64.wrap a) 64) = a % 64 := by
  have h : IntKind.u64.wrap a = a % 18446744073709551616 := IntKind.wrap_u64 a
  rw [h, Int.tmod_eq_emod_of_nonneg (by omega)]
  unfold wrap64; omega

theorem MaskDownPure : raddlelaw08_MaskDown.Pure := by
  intro a0 a1 a2 w0 _ _
  obtain ⟨m, rfl, hm⟩ := u64_nat w0
  unfold raddlelaw08_MaskDown.f
  rw [mod64, mod64]
  obtain ⟨A, hA, hA'⟩ : ∃ A : Nat, a1 % 64 = (A : Int) ∧ A < 64 := ⟨(a1 % 64).toNat, by omega, by omega⟩
  obtain ⟨B, hB, hB'⟩ : ∃ B : Nat, a2 % 64 = (B : Int) ∧ B < 64 := ⟨(a2 % 64).toNat, by omega, by omega⟩
  have hw : wrap64 ((A : Int) + (B : Int)) = ((A + B : Nat) : Int) := by unfold wrap64; omega
  rw [hA, hB, hw, Down_eq]
  simp only [Option.bind_some]
  rw [Has_eq _ (downN_lt m hm _)]
  simp only [Option.bind_some]
  have key : hasB (downN m (A : Int)) (B : Int) = m.testBit (B + A) := by
    unfold hasB
    rw [testBit_downN m hm]
    have : (0 ≤ (B : Int) ∧ (B : Int) < 64) := by omega
    simp [this]
  rw [key]
  by_cases h : ((A + B : Nat) : Int) < 64
  · rw [if_pos h, Has_eq m hm]
    simp only [Option.bind_some]
    have k2 : hasB m ((A + B : Nat) : Int) = m.testBit (B + A) := by
      unfold hasB
      have : (0 ≤ ((A + B : Nat) : Int) ∧ ((A + B : Nat) : Int) < 64) := by omega
      rw [Nat.add_comm B A]
      simp only [this, and_self, decide_true, Bool.true_and, Int.toNat_natCast]
    rw [k2, if_pos (by simp), lives08]
    rfl
  · rw [if_neg h, testBit_big m hm _ (by omega), if_pos (by rfl), lives08]
    rfl

theorem MaskDown_walk (a0 : Int) (a1 : Int) (a2 : Int) (w : World) (w0 : (Lit.int .u64 a0).wf = true) (w1 : (Lit.int .i64 a1).wf = true) (w2 : (Lit.int .i64 a2).wf = true) (hT : TabOK w) :
    Calls Tryd.prog 5 #[.int .u64 a0, .int .i64 a1, .int .i64 a2] w fun e w' => e = .returned (.bool true) ∧ Below w.heap.size w w' :=
  raddlelaw08_MaskDown.walk MaskDownPure a0 a1 a2 w w0 w1 w2 hT
end Go.Proofs.YtmokngiokdffdaaDoor.P
