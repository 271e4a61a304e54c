/-
  What the rows' proofs share: the table out of the row's list; a world for the witness.
-/
import Derived.Test.YtmokngiokdffdaaDoorCards
import Derived.Test.YtmokngiokdffdaaDoorTie
import Derived.WalkKit
import Derived.ProofKit
import Derived.OpenShut
import Derived.Deep.DeepHandedRow
import Derived.Lib.LaidTab
import Derived.Test.YtmokngiokdffdaaDoorHa
namespace Go.Proofs.YtmokngiokdffdaaDoor
open Go.ChangeShapes Go.WideShapes Go.ChangeAt Go.RowKit

theorem own : ownKnob Tryd.prog.godebug = none := by kernel_rfl
theorem gTab : Tryd.prog.globalNamed "math/bits.deBruijn64tab" = some 0 := by kernel_rfl
theorem gTabType : (Tryd.prog.globals[0]?).map (·.type) = some 76 := by kernel_rfl
theorem cells76 : Tryd.prog.cellsOf 76 = 64 := by kernel_rfl
theorem cells5 : Tryd.prog.cellsOf 5 = 1 := by kernel_rfl
def theLaid (H : Type) : List (String × DataW H) := [("math/bits.deBruijn64tab", Rows.laid_math_bits_deBruijn64tab)]

theorem tabOK_of_laid {W : World} (h : laidMetH Tryd.prog Rows.maskDownRow.laid W) : TabOK W := by
  have ht : Lib.TabIs Tryd.prog W "math/bits.deBruijn64tab" .u8 (Lib.deBruijn64tab.map fun x : Nat => (x : Int)) :=
    Lib.tabIs_of_head (rest := []) gTab gTabType Tryd.underlying76 Tryd.underlying5 cells5 cells76 h
  intro j hj
  have hc := ht.cell gTab j (by simpa [Lib.deBruijn64tab] using hj)
  have e : (Lib.deBruijn64tab.map fun x : Nat => (x : Int)).getD j 0 = ((Lib.deBruijn64tab.getD j 0 : Nat) : Int) := by
    rw [List.getD_eq_getElem?_getD, List.getD_eq_getElem?_getD, List.getElem?_map]
    cases h : Lib.deBruijn64tab[j]? <;> simp
  rw [e] at hc
  exact hc

/-- A world for the witness: the settled one, the table (block 0) holding what its initialiser lays. -/
noncomputable def laidWorld (os : Os) : World :=
  { World.holding Tryd.prog os ⟨#[], #[], []⟩ with heap := (World.holding Tryd.prog os ⟨#[], #[], []⟩).heap.modify 0 fun
      | .cells _ t frozen => .cells (Lib.deBruijn64tab.map fun x : Nat => Value.int .u8 (x : Int)).toArray t frozen
      | o => o }

end Go.Proofs.YtmokngiokdffdaaDoor
