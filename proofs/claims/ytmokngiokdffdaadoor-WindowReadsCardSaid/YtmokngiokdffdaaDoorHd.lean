/-
  'all' and mask.Of in the form in which the printed functions meet their callees.
-/
import Derived.Test.YtmokngiokdffdaaDoorHc
import Derived.Test.YtmokngiokdffdaaDoorPa
namespace Go.Proofs.YtmokngiokdffdaaDoor.P
open Go.RowKit Go.Proofs.YtmokngiokdffdaaDoorW.PrintWords Go.Proofs.YtmokngiokdffdaaDoorW.PrintLast Go.Proofs.YtmokngiokdffdaaDoorW.PrintMore
open Ma
set_option linter.unusedVariables false

def raddlelaw08_all.f (a0 : Int) : Option (List Int) := if 0 ≤ a0 ∧ a0 < 18446744073709551616 then some (ints (bitsL a0.toNat)) else none
theorem raddlelaw08_all.calls (a0 : Int) (r : List Int) (w : World) (h : raddlelaw08_all.f a0 = some r) (hT : TabOK w) :
    Calls Tryd.prog 14 #[.int .u64 a0] w fun e w' => ∃ v0_ : Value, e = .returned (v0_) ∧ Kd.R (Kd.int .i64) 3 w' w.heap.size (fun _ => True) v0_ r ∧ Below w.heap.size w w' := by
  unfold raddlelaw08_all.f at h
  split at h
  · rename_i hb
    obtain ⟨x, rfl⟩ := Int.eq_ofNat_of_zero_le hb.1
    obtain rfl := Option.some.inj h
    refine ((callsIn_wide (n := 3)).1 (all_in Fence.wide 3 wide_wide (by omega) x (by have := hb.2; omega) w hT)).mono ?_
    rintro e w' ⟨v, rfl, hown, hbl⟩
    refine ⟨v, rfl, ?_, hbl⟩
    have e0 : ((x : Int)).toNat = x := rfl
    rw [e0]
    exact Kd.R_of_own (by rw [ints_length]; exact hown) (fun _ _ => trivial)
  · cases h

/-- A set with a number, as the program does it. -/
def withI (m i : Int) : Int := if 0 ≤ i ∧ i < 64 then Go.bits .or .u64 m (shl .u64 1 i) else m
theorem With_eq (m i : Int) : mask_With.f m i = some (withI m i) := by
  unfold mask_With.f mask_is.f withI
  by_cases h0 : 0 ≤ i
  · by_cases h1 : i < 64 <;> simp [h0, h1]
  · simp [h0]

theorem Of1_any (m i : Int) (w : World) : Calls Tryd.prog 48 #[.int .u64 m, .int .i64 i] w fun e w' => e = .returned (.int .u64 (withI m i)) ∧ Drawn0 w w' := by
  go_enter Tryd.func48, Tryd.ntmps48
  go_wp2_with (go_at_call 49; (with_reducible refine (mask_With.calls m i _ _ (With_eq m i)).mono ?_); rintro e w' ⟨rfl, ⟨nd, rfl⟩⟩)
  go_ret
  exact ⟨rfl, by repeat (first | exact Drawn0.refl _ | apply Drawn0.step)⟩

theorem take_snoc_fold (l : List Int) (k : Nat) (h : k < l.length) : (l.take (k + 1)).foldl withI 0 = withI ((l.take k).foldl withI 0) (rd l (k : Int)) := by
  have e : rd l (k : Int) = l[k] := by simp [rd, List.getD_eq_getElem?_getD, h]
  rw [List.take_succ_eq_append_getElem h, List.foldl_append, e]; rfl

set_option maxRecDepth 100000 in
set_option maxHeartbeats 2000000 in
theorem fold_any (A0 : Option Addr) (c0 : Nat) (l0 : List Int) (w : World) (hr0 : Kd.C (Kd.int .i64) w A0 l0.length l0) (hc0 : l0.length ≤ c0) :
    Calls Tryd.prog 47 #[.slice A0 l0.length c0, .int .u64 0, .func (.func 48) #[] #[]] w fun e w' => e = .returned (.int .u64 (l0.foldl withI 0)) ∧ Drawn0 w w' := by
  have HR0 := Aside0.mk hr0
  have HM := Aside0.mk (Kd.C_max hr0)
  clear hr0 hc0
  go_enter Tryd.func47, Tryd.ntmps47
  go_wp2
  go_loopw [1, 11] (fun v1 v11 w' => ∃ (x1 x11 : Int), v1 = .int .u64 x1 ∧ v11 = .int .i64 x11 ∧ Aside0 (0 ≤ x11 ∧ x11 ≤ (l0.length : Int) ∧ x1 = (l0.take x11.toNat).foldl withI 0) ∧ Drawn0 w w') (fun _ v11 _ => l0.length - (intOf v11).toNat)
  case atStart => exact ⟨0, 0, rfl, rfl, ⟨⟨Int.le_refl _, by omega, rfl⟩⟩, Drawn0.refl _⟩
  case round =>
    obtain ⟨x1, x11, rfl, rfl, HA, ⟨m1, rfl⟩⟩ := hrel
    by_cases c2 : x11 < (l0.length : Int)
    · have c2b0 : decide (x11 < (l0.length : Int)) = true := decide_eq_true c2
      have HC2 := Aside0.mk c2
      have p125 := HA.out.1
      obtain ⟨ad125, e125, hx125_0⟩ := Kd.at_int HR0.out x11 p125 c2
      cases e125
      have HF := Aside0.mk (take_snoc_fold l0 x11.toNat (by omega))
      have HW := Aside0.mk (show wrap64 (x11 + 1) = x11 + 1 by have := HM.out; unfold wrap64; omega)
      replace p125 := eq_true p125
      have q125 := eq_true c2
      clear c2
      go_wp2_with (go_at_call 48; (with_reducible refine (Of1_any x1 (rd l0 x11) _).mono ?_); rintro e w' ⟨rfl, ⟨nd, rfl⟩⟩)
      go_roundw
      case rel =>
        refine ⟨withI x1 (rd l0 x11), wrap64 (x11 + 1), rfl, rfl, ⟨?_⟩, by repeat (first | exact Drawn0.refl _ | apply Drawn0.step)⟩
        have h1 := HA.out
        have h2 := HC2.out
        have h3 := HF.out
        rw [HW.out]
        have h4 : (x11 + 1).toNat = x11.toNat + 1 := by omega
        have h5 : ((x11.toNat : Nat) : Int) = x11 := by omega
        rw [h5] at h3
        rw [h4, h3, h1.2.2]
        exact ⟨by omega, by omega, rfl⟩
      case measure =>
        have h1 := HA.out
        have h2 := HC2.out
        have h3 := HW.out
        simp only [h3]
        simp [intOf]
        omega
    · have c2b0 : decide (x11 < (l0.length : Int)) = false := decide_eq_false c2
      have HC2 := Aside0.mk c2
      clear c2
      go_wp2
      go_ret
      have h1 := HA.out
      have h2 := HC2.out
      exact ⟨by rw [h1.2.2, List.take_of_length_le (by omega)]; rfl, by repeat (first | exact Drawn0.refl _ | apply Drawn0.step)⟩

/-- What mask.Of answers. -/
def mask_Of.f (l0 : List Int) : Option (Int) := some (l0.foldl withI 0)
theorem mask_Of.calls (A0 : Option Addr) (c0 : Nat) (l0 : List Int) (r : Int) (w : World) (hr0 : Kd.C (Kd.int .i64) w A0 l0.length l0) (hc0 : l0.length ≤ c0) (h : mask_Of.f l0 = some r) :
    Calls Tryd.prog 17 #[.slice A0 l0.length c0] w fun e w' => e = .returned (.int .u64 r) ∧ Drawn0 w w' := by
  obtain rfl := Option.some.inj h
  have C := fun W : World => fold_any A0 c0 l0 w hr0 hc0
  have HC := Aside0.mk (fold_any A0 c0 l0 w hr0 hc0)
  clear h C hr0 hc0
  go_enter Tryd.func17, Tryd.ntmps17
  go_wp2_with (go_at_call 47; refine HC.out.mono ?_; rintro e w' ⟨rfl, ⟨nd, rfl⟩⟩)
  go_ret
  exact ⟨rfl, by repeat (first | exact Drawn0.refl _ | apply Drawn0.step)⟩

end Go.Proofs.YtmokngiokdffdaaDoor.P
