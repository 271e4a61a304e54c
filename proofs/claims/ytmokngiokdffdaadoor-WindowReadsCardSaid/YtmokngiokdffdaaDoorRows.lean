/-
  NARROWER THAN 'FOR EVERY INPUT', by the rows' own cells (each row's printed sentence says how): MaskGoes: laid · MaskBack: laid · MaskDown: laid · WindowOrder: laid · WindowTells: laid · WindowOnce: laid · WindowReads: laid · WindowBack: laid.
  DERIVED. THE GIVEN ROWS OF THIS SEAT. 8 by the template 'for every input the law returns true; each argument reads behind the call as it read before'; 0 by the template 'total and deterministic' (their statements: YtmokngiokdffdaaDoorTotals.lean).
  GIVEN WITH THE SEED: the statements are not yours to turn. If you find one false, say at which input.
  Laid BY PROGRAM, IN A SANDBOX (cutbox-rows.mjs): the forced cells as the released guide's own fill.sh prints them over the translation 9ec5daf6520ca395… (all of the seat's roots in one cut). By AI agents, Wed Nov 11 2026. No macro, syntax, notation, axiom, sorry.
-/
import Derived.Test.YtmokngiokdffdaaDoorChecked
import GoSem.Claim
import GoSem.ClaimJoined
import GoSem.ClaimMapViews
import Derived.JoinedTies
import Derived.KernelRfl
namespace Go.Proofs.YtmokngiokdffdaaDoor
/- THE CELL 'sum', in the pinned program and in every row, IS THE sha256 OF THE DUMP (.gsa) THAT YtmokngiokdffdaaDoorProg.lean LOADS. Nothing in Lean hashes anything: it is a label: what it is worth is what the hold of that sum in a sandbox is worth. -/
noncomputable def Tryd.pinned : Pinned := { name := "ytmokngiokdffdaadoor", sum := "9ec5daf6520ca39560e4e7b1a10303a0b297bcfcfe09d1e532c1d1f2000b4941", checked := Tryd.checked }
namespace Rows
def none {H : Type} : Left H := { results := [], args := [] }

/- WHAT THE LISTED PACKAGE-LEVEL VARIABLES READ AS WHEN THE CALL BEGINS. Each datum BY PROGRAM (the guide's laid-datum.mjs) off the statement by which the dump's own 'gosem.cut.vars' lays the variable. In a bare row this is a premise. The card (YtmokngiokdffdaaDoorCards.lean) ties it to the program's text. -/
def laid_math_bits_deBruijn64tab {H : Type} : DataW H := .agg [.lit (.int .u8 0), .lit (.int .u8 1), .lit (.int .u8 56), .lit (.int .u8 2), .lit (.int .u8 57), .lit (.int .u8 49), .lit (.int .u8 28), .lit (.int .u8 3), .lit (.int .u8 61), .lit (.int .u8 58), .lit (.int .u8 42), .lit (.int .u8 50), .lit (.int .u8 38), .lit (.int .u8 29), .lit (.int .u8 17), .lit (.int .u8 4), .lit (.int .u8 62), .lit (.int .u8 47), .lit (.int .u8 59), .lit (.int .u8 36), .lit (.int .u8 45), .lit (.int .u8 43), .lit (.int .u8 51), .lit (.int .u8 22), .lit (.int .u8 53), .lit (.int .u8 39), .lit (.int .u8 33), .lit (.int .u8 30), .lit (.int .u8 24), .lit (.int .u8 18), .lit (.int .u8 12), .lit (.int .u8 5), .lit (.int .u8 63), .lit (.int .u8 55), .lit (.int .u8 48), .lit (.int .u8 27), .lit (.int .u8 60), .lit (.int .u8 41), .lit (.int .u8 37), .lit (.int .u8 16), .lit (.int .u8 46), .lit (.int .u8 35), .lit (.int .u8 44), .lit (.int .u8 21), .lit (.int .u8 52), .lit (.int .u8 32), .lit (.int .u8 23), .lit (.int .u8 11), .lit (.int .u8 54), .lit (.int .u8 26), .lit (.int .u8 40), .lit (.int .u8 15), .lit (.int .u8 34), .lit (.int .u8 20), .lit (.int .u8 31), .lit (.int .u8 10), .lit (.int .u8 25), .lit (.int .u8 14), .lit (.int .u8 19), .lit (.int .u8 9), .lit (.int .u8 13), .lit (.int .u8 8), .lit (.int .u8 7), .lit (.int .u8 6)]

/-- 'raddlelaw08.MaskGoes': WHATEVER THE INPUT: true; the input reads as it did. -/
def maskGoesSpec : ChangeSpec := { name := "maskGoes", fn := fun _ => fun
  | [d1, d2] => { results := [.lit (.bool true)], args := [d1, d2] }
  | _ => none }
def maskGoesRow : OpenClaim := { program := "ytmokngiokdffdaadoor", sum := "9ec5daf6520ca39560e4e7b1a10303a0b297bcfcfe09d1e532c1d1f2000b4941", func := "raddle/raddlelaw08.MaskGoes", spec := "maskGoes", unfollowed := true, recurses := true, named := ["math/bits.deBruijn64tab"], apart := false, laid := [("math/bits.deBruijn64tab", laid_math_bits_deBruijn64tab)] }
def MaskGoesSaid : Prop := maskGoesRow.holds Tryd.pinned (OpenSpec.ofChange maskGoesSpec)

/-- ITS FALSE NEIGHBOUR: 'it returns false'. Refute it at one input. -/
def maskGoesWrong : ChangeSpec := { name := "maskGoes", fn := fun _ => fun
  | [d1, d2] => { results := [.lit (.bool false)], args := [d1, d2] }
  | _ => none }
def MaskGoesWrongFalsely : Prop := maskGoesRow.holds Tryd.pinned (OpenSpec.ofChange maskGoesWrong)

/-- 'raddlelaw08.MaskBack': WHATEVER THE INPUT: true; the input reads as it did. -/
def maskBackSpec : ChangeSpec := { name := "maskBack", fn := fun _ => fun
  | [d1, d2] => { results := [.lit (.bool true)], args := [d1, d2] }
  | _ => none }
def maskBackRow : OpenClaim := { program := "ytmokngiokdffdaadoor", sum := "9ec5daf6520ca39560e4e7b1a10303a0b297bcfcfe09d1e532c1d1f2000b4941", func := "raddle/raddlelaw08.MaskBack", spec := "maskBack", unfollowed := true, recurses := true, named := ["math/bits.deBruijn64tab"], apart := false, laid := [("math/bits.deBruijn64tab", laid_math_bits_deBruijn64tab)] }
def MaskBackSaid : Prop := maskBackRow.holds Tryd.pinned (OpenSpec.ofChange maskBackSpec)

/-- ITS FALSE NEIGHBOUR: 'it returns false'. Refute it at one input. -/
def maskBackWrong : ChangeSpec := { name := "maskBack", fn := fun _ => fun
  | [d1, d2] => { results := [.lit (.bool false)], args := [d1, d2] }
  | _ => none }
def MaskBackWrongFalsely : Prop := maskBackRow.holds Tryd.pinned (OpenSpec.ofChange maskBackWrong)

/-- 'raddlelaw08.MaskDown': WHATEVER THE INPUT: true; the input reads as it did. -/
def maskDownSpec : ChangeSpec := { name := "maskDown", fn := fun _ => fun
  | [d1, d2, d3] => { results := [.lit (.bool true)], args := [d1, d2, d3] }
  | _ => none }
def maskDownRow : OpenClaim := { program := "ytmokngiokdffdaadoor", sum := "9ec5daf6520ca39560e4e7b1a10303a0b297bcfcfe09d1e532c1d1f2000b4941", func := "raddle/raddlelaw08.MaskDown", spec := "maskDown", unfollowed := true, recurses := true, named := ["math/bits.deBruijn64tab"], apart := false, laid := [("math/bits.deBruijn64tab", laid_math_bits_deBruijn64tab)] }
def MaskDownSaid : Prop := maskDownRow.holds Tryd.pinned (OpenSpec.ofChange maskDownSpec)

/-- ITS FALSE NEIGHBOUR: 'it returns false'. Refute it at one input. -/
def maskDownWrong : ChangeSpec := { name := "maskDown", fn := fun _ => fun
  | [d1, d2, d3] => { results := [.lit (.bool false)], args := [d1, d2, d3] }
  | _ => none }
def MaskDownWrongFalsely : Prop := maskDownRow.holds Tryd.pinned (OpenSpec.ofChange maskDownWrong)

/-- 'raddlelaw09.WindowOrder': WHATEVER THE INPUT: true; the input reads as it did. -/
def windowOrderSpec : ChangeSpec := { name := "windowOrder", fn := fun _ => fun
  | [d1, d2, d3] => { results := [.lit (.bool true)], args := [d1, d2, d3] }
  | _ => none }
def windowOrderRow : OpenClaim := { program := "ytmokngiokdffdaadoor", sum := "9ec5daf6520ca39560e4e7b1a10303a0b297bcfcfe09d1e532c1d1f2000b4941", func := "raddle/raddlelaw09.WindowOrder", spec := "windowOrder", named := ["math/bits.deBruijn64tab"], apart := false, laid := [("math/bits.deBruijn64tab", laid_math_bits_deBruijn64tab)] }
def WindowOrderSaid : Prop := windowOrderRow.holds Tryd.pinned (OpenSpec.ofChange windowOrderSpec)

/-- ITS FALSE NEIGHBOUR: 'it returns false'. Refute it at one input. -/
def windowOrderWrong : ChangeSpec := { name := "windowOrder", fn := fun _ => fun
  | [d1, d2, d3] => { results := [.lit (.bool false)], args := [d1, d2, d3] }
  | _ => none }
def WindowOrderWrongFalsely : Prop := windowOrderRow.holds Tryd.pinned (OpenSpec.ofChange windowOrderWrong)

/-- 'raddlelaw09.WindowTells': WHATEVER THE INPUT: true; the input reads as it did. -/
def windowTellsSpec : ChangeSpec := { name := "windowTells", fn := fun _ => fun
  | [d1, d2, d3] => { results := [.lit (.bool true)], args := [d1, d2, d3] }
  | _ => none }
def windowTellsRow : OpenClaim := { program := "ytmokngiokdffdaadoor", sum := "9ec5daf6520ca39560e4e7b1a10303a0b297bcfcfe09d1e532c1d1f2000b4941", func := "raddle/raddlelaw09.WindowTells", spec := "windowTells", unfollowed := true, recurses := true, named := ["math/bits.deBruijn64tab"], apart := false, laid := [("math/bits.deBruijn64tab", laid_math_bits_deBruijn64tab)] }
def WindowTellsSaid : Prop := windowTellsRow.holds Tryd.pinned (OpenSpec.ofChange windowTellsSpec)

/-- ITS FALSE NEIGHBOUR: 'it returns false'. Refute it at one input. -/
def windowTellsWrong : ChangeSpec := { name := "windowTells", fn := fun _ => fun
  | [d1, d2, d3] => { results := [.lit (.bool false)], args := [d1, d2, d3] }
  | _ => none }
def WindowTellsWrongFalsely : Prop := windowTellsRow.holds Tryd.pinned (OpenSpec.ofChange windowTellsWrong)

/-- 'raddlelaw09.WindowOnce': WHATEVER THE INPUT: true; the input reads as it did. -/
def windowOnceSpec : ChangeSpec := { name := "windowOnce", fn := fun _ => fun
  | [d1, d2, d3] => { results := [.lit (.bool true)], args := [d1, d2, d3] }
  | _ => none }
def windowOnceRow : OpenClaim := { program := "ytmokngiokdffdaadoor", sum := "9ec5daf6520ca39560e4e7b1a10303a0b297bcfcfe09d1e532c1d1f2000b4941", func := "raddle/raddlelaw09.WindowOnce", spec := "windowOnce", unfollowed := true, recurses := true, named := ["math/bits.deBruijn64tab"], apart := false, laid := [("math/bits.deBruijn64tab", laid_math_bits_deBruijn64tab)] }
def WindowOnceSaid : Prop := windowOnceRow.holds Tryd.pinned (OpenSpec.ofChange windowOnceSpec)

/-- ITS FALSE NEIGHBOUR: 'it returns false'. Refute it at one input. -/
def windowOnceWrong : ChangeSpec := { name := "windowOnce", fn := fun _ => fun
  | [d1, d2, d3] => { results := [.lit (.bool false)], args := [d1, d2, d3] }
  | _ => none }
def WindowOnceWrongFalsely : Prop := windowOnceRow.holds Tryd.pinned (OpenSpec.ofChange windowOnceWrong)

/-- 'raddlelaw09.WindowReads': WHATEVER THE INPUT: true; the input reads as it did. -/
def windowReadsSpec : ChangeSpec := { name := "windowReads", fn := fun _ => fun
  | [d1, d2] => { results := [.lit (.bool true)], args := [d1, d2] }
  | _ => none }
def windowReadsRow : OpenClaim := { program := "ytmokngiokdffdaadoor", sum := "9ec5daf6520ca39560e4e7b1a10303a0b297bcfcfe09d1e532c1d1f2000b4941", func := "raddle/raddlelaw09.WindowReads", spec := "windowReads", named := ["math/bits.deBruijn64tab"], apart := false, laid := [("math/bits.deBruijn64tab", laid_math_bits_deBruijn64tab)] }
def WindowReadsSaid : Prop := windowReadsRow.holds Tryd.pinned (OpenSpec.ofChange windowReadsSpec)

/-- ITS FALSE NEIGHBOUR: 'it returns false'. Refute it at one input. -/
def windowReadsWrong : ChangeSpec := { name := "windowReads", fn := fun _ => fun
  | [d1, d2] => { results := [.lit (.bool false)], args := [d1, d2] }
  | _ => none }
def WindowReadsWrongFalsely : Prop := windowReadsRow.holds Tryd.pinned (OpenSpec.ofChange windowReadsWrong)

/-- 'raddlelaw09.WindowBack': WHATEVER THE INPUT: true; the input reads as it did. -/
def windowBackSpec : ChangeSpec := { name := "windowBack", fn := fun _ => fun
  | [d1, d2] => { results := [.lit (.bool true)], args := [d1, d2] }
  | _ => none }
def windowBackRow : OpenClaim := { program := "ytmokngiokdffdaadoor", sum := "9ec5daf6520ca39560e4e7b1a10303a0b297bcfcfe09d1e532c1d1f2000b4941", func := "raddle/raddlelaw09.WindowBack", spec := "windowBack", named := ["math/bits.deBruijn64tab"], apart := false, laid := [("math/bits.deBruijn64tab", laid_math_bits_deBruijn64tab)] }
def WindowBackSaid : Prop := windowBackRow.holds Tryd.pinned (OpenSpec.ofChange windowBackSpec)

/-- ITS FALSE NEIGHBOUR: 'it returns false'. Refute it at one input. -/
def windowBackWrong : ChangeSpec := { name := "windowBack", fn := fun _ => fun
  | [d1, d2] => { results := [.lit (.bool false)], args := [d1, d2] }
  | _ => none }
def WindowBackWrongFalsely : Prop := windowBackRow.holds Tryd.pinned (OpenSpec.ofChange windowBackWrong)

/- THE SECOND FORM. 'bulk': how many values and letters a reading holds, each counted each time it is reached (what is shared counts as often as it is met; a slice's spare places count too). A statement '..UptoSaid' is the law's where the arguments, and the package variables that the reading takes, are together of bulk at most 1048576: NARROWER than '..Said'. Prove '..Said' where nothing that the law and all that it calls make is longer than what came in: it says more and counts as full. Else prove '..UptoSaid'. A law counts once. -/
mutual
def uptoBulk {H : Type} : DataW H → Nat
  | .lit (.string bytes) => bytes.length + 1
  | .lit _ => 1
  | .nil => 1
  | .ptr d => uptoBulk d + 1
  | .slice elems spare => uptoBulkAll elems + uptoBulkAll spare + 1
  | .agg parts => uptoBulkAll parts + 1
  | .iface _ d => uptoBulk d + 1
  | .map entries => uptoBulkEntries entries + 1
  | .held _ => 1
def uptoBulkAll {H : Type} : List (DataW H) → Nat
  | [] => 0
  | d :: r => uptoBulk d + uptoBulkAll r
def uptoBulkEntries {H : Type} : List (Lit × DataW H) → Nat
  | [] => 0
  | x :: r => uptoBulkEntry x + uptoBulkEntries r
def uptoBulkEntry {H : Type} : Lit × DataW H → Nat
  | (.string bytes, d) => bytes.length + uptoBulk d + 1
  | (_, d) => uptoBulk d + 1
 end
def uptoSmall : (H : Type) → List (DataW H) → Bool := fun _ ds => decide (uptoBulkAll ds ≤ 1048576)
def OpenSpec.upto (s : _root_.Go.ChangeSpec) : _root_.Go.OpenSpec := { _root_.Go.OpenSpec.ofChange s with cond := some uptoSmall }

/-- 'raddlelaw08.MaskGoes', WHERE WHAT IT READS IS OF BULK AT MOST 1048576: true; the input reads as it did. -/
def maskGoesUptoRow : OpenClaim := { program := "ytmokngiokdffdaadoor", sum := "9ec5daf6520ca39560e4e7b1a10303a0b297bcfcfe09d1e532c1d1f2000b4941", func := "raddle/raddlelaw08.MaskGoes", spec := "maskGoes", unfollowed := true, recurses := true, named := ["math/bits.deBruijn64tab"], apart := false, laid := [("math/bits.deBruijn64tab", laid_math_bits_deBruijn64tab)], narrowed := true }
def MaskGoesUptoSaid : Prop := maskGoesUptoRow.holds Tryd.pinned (OpenSpec.upto maskGoesSpec)

/-- 'raddlelaw08.MaskBack', WHERE WHAT IT READS IS OF BULK AT MOST 1048576: true; the input reads as it did. -/
def maskBackUptoRow : OpenClaim := { program := "ytmokngiokdffdaadoor", sum := "9ec5daf6520ca39560e4e7b1a10303a0b297bcfcfe09d1e532c1d1f2000b4941", func := "raddle/raddlelaw08.MaskBack", spec := "maskBack", unfollowed := true, recurses := true, named := ["math/bits.deBruijn64tab"], apart := false, laid := [("math/bits.deBruijn64tab", laid_math_bits_deBruijn64tab)], narrowed := true }
def MaskBackUptoSaid : Prop := maskBackUptoRow.holds Tryd.pinned (OpenSpec.upto maskBackSpec)

/-- 'raddlelaw08.MaskDown', WHERE WHAT IT READS IS OF BULK AT MOST 1048576: true; the input reads as it did. -/
def maskDownUptoRow : OpenClaim := { program := "ytmokngiokdffdaadoor", sum := "9ec5daf6520ca39560e4e7b1a10303a0b297bcfcfe09d1e532c1d1f2000b4941", func := "raddle/raddlelaw08.MaskDown", spec := "maskDown", unfollowed := true, recurses := true, named := ["math/bits.deBruijn64tab"], apart := false, laid := [("math/bits.deBruijn64tab", laid_math_bits_deBruijn64tab)], narrowed := true }
def MaskDownUptoSaid : Prop := maskDownUptoRow.holds Tryd.pinned (OpenSpec.upto maskDownSpec)

/-- 'raddlelaw09.WindowOrder', WHERE WHAT IT READS IS OF BULK AT MOST 1048576: true; the input reads as it did. -/
def windowOrderUptoRow : OpenClaim := { program := "ytmokngiokdffdaadoor", sum := "9ec5daf6520ca39560e4e7b1a10303a0b297bcfcfe09d1e532c1d1f2000b4941", func := "raddle/raddlelaw09.WindowOrder", spec := "windowOrder", named := ["math/bits.deBruijn64tab"], apart := false, laid := [("math/bits.deBruijn64tab", laid_math_bits_deBruijn64tab)], narrowed := true }
def WindowOrderUptoSaid : Prop := windowOrderUptoRow.holds Tryd.pinned (OpenSpec.upto windowOrderSpec)

/-- 'raddlelaw09.WindowTells', WHERE WHAT IT READS IS OF BULK AT MOST 1048576: true; the input reads as it did. -/
def windowTellsUptoRow : OpenClaim := { program := "ytmokngiokdffdaadoor", sum := "9ec5daf6520ca39560e4e7b1a10303a0b297bcfcfe09d1e532c1d1f2000b4941", func := "raddle/raddlelaw09.WindowTells", spec := "windowTells", unfollowed := true, recurses := true, named := ["math/bits.deBruijn64tab"], apart := false, laid := [("math/bits.deBruijn64tab", laid_math_bits_deBruijn64tab)], narrowed := true }
def WindowTellsUptoSaid : Prop := windowTellsUptoRow.holds Tryd.pinned (OpenSpec.upto windowTellsSpec)

/-- 'raddlelaw09.WindowOnce', WHERE WHAT IT READS IS OF BULK AT MOST 1048576: true; the input reads as it did. -/
def windowOnceUptoRow : OpenClaim := { program := "ytmokngiokdffdaadoor", sum := "9ec5daf6520ca39560e4e7b1a10303a0b297bcfcfe09d1e532c1d1f2000b4941", func := "raddle/raddlelaw09.WindowOnce", spec := "windowOnce", unfollowed := true, recurses := true, named := ["math/bits.deBruijn64tab"], apart := false, laid := [("math/bits.deBruijn64tab", laid_math_bits_deBruijn64tab)], narrowed := true }
def WindowOnceUptoSaid : Prop := windowOnceUptoRow.holds Tryd.pinned (OpenSpec.upto windowOnceSpec)

/-- 'raddlelaw09.WindowReads', WHERE WHAT IT READS IS OF BULK AT MOST 1048576: true; the input reads as it did. -/
def windowReadsUptoRow : OpenClaim := { program := "ytmokngiokdffdaadoor", sum := "9ec5daf6520ca39560e4e7b1a10303a0b297bcfcfe09d1e532c1d1f2000b4941", func := "raddle/raddlelaw09.WindowReads", spec := "windowReads", named := ["math/bits.deBruijn64tab"], apart := false, laid := [("math/bits.deBruijn64tab", laid_math_bits_deBruijn64tab)], narrowed := true }
def WindowReadsUptoSaid : Prop := windowReadsUptoRow.holds Tryd.pinned (OpenSpec.upto windowReadsSpec)

/-- 'raddlelaw09.WindowBack', WHERE WHAT IT READS IS OF BULK AT MOST 1048576: true; the input reads as it did. -/
def windowBackUptoRow : OpenClaim := { program := "ytmokngiokdffdaadoor", sum := "9ec5daf6520ca39560e4e7b1a10303a0b297bcfcfe09d1e532c1d1f2000b4941", func := "raddle/raddlelaw09.WindowBack", spec := "windowBack", named := ["math/bits.deBruijn64tab"], apart := false, laid := [("math/bits.deBruijn64tab", laid_math_bits_deBruijn64tab)], narrowed := true }
def WindowBackUptoSaid : Prop := windowBackUptoRow.holds Tryd.pinned (OpenSpec.upto windowBackSpec)

end Rows
end Go.Proofs.YtmokngiokdffdaaDoor
