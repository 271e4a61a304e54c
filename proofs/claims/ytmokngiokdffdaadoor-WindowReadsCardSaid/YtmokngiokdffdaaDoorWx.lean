/-
  Words for a drawn region that is walked by hand.
-/
import Derived.Test.YtmokngiokdffdaaDoorSx
namespace Go.Proofs.YtmokngiokdffdaaDoor.P
open Go.RowKit Go.Proofs.YtmokngiokdffdaaDoorW.PrintWords Go.Proofs.YtmokngiokdffdaaDoorW.PrintLast Go.Proofs.YtmokngiokdffdaaDoorW.PrintMore
set_option linter.unusedVariables false

theorem wpAnyH_strong {P : Program} {md : Region.Mode} {ops : Array Oper} {Q : Exit → Act → World → Prop} {S S' : World → Prop} (hSS : ∀ w, S' w → S w) :
    ∀ (fuel : Nat) (listed : Array Bool) (a : Act) (w : World), wpAnyH P md ops Q S' fuel listed a w → wpAnyH P md ops Q S fuel listed a w
  | 0, _, _, _, h => h
  | fuel + 1, _, _, _, h => ⟨h.1, fun i hi => wpOp_mono (fun a' w' h' => ⟨hSS _ h'.1, wpAnyH_strong hSS fuel _ a' w' h'.2⟩) (h.2 i hi)⟩

theorem wf_u8' {a : Int} (h : (Lit.int .u8 a).wf = true) : 0 ≤ a ∧ a < 256 := by
  simp [Lit.wf, IntKind.min, IntKind.max, IntKind.signed, IntKind.bits] at h; omega

theorem cell_u8_ne' {w : World} {g : Nat} {a : Addr} {x y z : Int} {A : Option Addr} {n c : Nat} (hb : w.heap[g]? = some (.cells #[.slice A n c, .int .i64 y, .int .i64 z] 64 (0, 0))) (hc : w.cell? a = some (.int .u8 x)) : a.block ≠ g := by
  rintro rfl
  unfold World.cell? at hc
  rw [hb] at hc
  simp only at hc
  split at hc
  · cases hc
  · match ho : a.off with
    | 0 => rw [ho] at hc; simp at hc
    | 1 => rw [ho] at hc; simp at hc
    | 2 => rw [ho] at hc; simp at hc
    | k + 3 => rw [ho] at hc; simp at hc

/-- A row of bytes, when a block that holds none has been written. -/
theorem C_other {W W' : World} {g : Nat} {A : Option Addr} {l : List Int} (hC : Kd.C (Kd.int .u8) W A l.length l) (hk : Kp g W W') (hne : ∀ a x, W.cell? a = some (.int .u8 x) → a.block ≠ g) : Kd.C (Kd.int .u8) W' A l.length l := by
  refine Kd.C_of_reads (d := (0 : Int)) (h1 := fun _ => rfl) ?_
  refine ⟨rfl, Kd.C_max hC, fun hp => ?_⟩
  obtain ⟨ad, hA, _⟩ := Kd.at_int hC 0 (by omega) (by omega)
  subst hA
  refine ⟨ad, rfl, fun j hj => ?_⟩
  obtain ⟨ad', hA', hcell⟩ := Kd.at_int hC (j : Int) (by omega) (by omega)
  cases hA'
  rw [Int.toNat_natCast] at hcell
  have hn := hne _ _ hcell
  have hlt := World.block_lt_of_cell? W _ hcell
  have h2 : rd l (j : Int) = l.getD j 0 := by unfold rd; rw [Int.toNat_natCast]
  rw [← h2, ← hcell]
  unfold World.cell?
  rw [hk.2 _ hlt hn]

end Go.Proofs.YtmokngiokdffdaaDoor.P
