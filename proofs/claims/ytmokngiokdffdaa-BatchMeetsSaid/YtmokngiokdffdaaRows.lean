/-
  No cell of these rows narrows 'for every input' (looked for: loops, veiled, ifaces, maps, wideKeys, modest, calm, conditions, laid).
  DERIVED. THE GIVEN ROWS OF THIS SEAT. 2 by the template 'for every input the law returns true; each argument reads behind the call as it read before'; 0 by the template 'total and deterministic' (their statements: YtmokngiokdffdaaTotals.lean).
  GIVEN WITH THE SEED: the statements are not yours to turn. If you find one false, say at which input.
  Laid BY PROGRAM, IN A SANDBOX (cutbox-rows.mjs): the forced cells as the released guide's own fill.sh prints them over the translation 8e099869b7a9b8a9… (all of the seat's roots in one cut). By AI agents, Wed Nov 11 2026. No macro, syntax, notation, axiom, sorry.
-/
import Derived.Test.YtmokngiokdffdaaChecked
import GoSem.Claim
import GoSem.ClaimJoined
import GoSem.ClaimMapViews
import Derived.JoinedTies
import Derived.KernelRfl
namespace Go.Proofs.Ytmokngiokdffdaa
/- THE CELL 'sum', in the pinned program and in every row, IS THE sha256 OF THE DUMP (.gsa) THAT YtmokngiokdffdaaProg.lean LOADS. Nothing in Lean hashes anything: it is a label: what it is worth is what the hold of that sum in a sandbox is worth. -/
noncomputable def Try.pinned : Pinned := { name := "ytmokngiokdffdaa", sum := "8e099869b7a9b8a9b4c1dd2b117275ee42016f319276fd9677480f903717a485", checked := Try.checked }
namespace Rows
def none {H : Type} : Left H := { results := [], args := [] }

/-- 'raddlelaw07.BatchMeets': WHATEVER THE INPUT: true; the input reads as it did. -/
def batchMeetsSpec : ChangeSpec := { name := "batchMeets", fn := fun _ => fun
  | [d1, d2] => { results := [.lit (.bool true)], args := [d1, d2] }
  | _ => none }
def batchMeetsRow : OpenClaim := { program := "ytmokngiokdffdaa", sum := "8e099869b7a9b8a9b4c1dd2b117275ee42016f319276fd9677480f903717a485", func := "raddle/raddlelaw07.BatchMeets", spec := "batchMeets", unfollowed := true, recurses := true, plainKeys := false, apart := false }
def BatchMeetsSaid : Prop := batchMeetsRow.holds Try.pinned (OpenSpec.ofChange batchMeetsSpec)

/-- ITS FALSE NEIGHBOUR: 'it returns false'. Refute it at one input. -/
def batchMeetsWrong : ChangeSpec := { name := "batchMeets", fn := fun _ => fun
  | [d1, d2] => { results := [.lit (.bool false)], args := [d1, d2] }
  | _ => none }
def BatchMeetsWrongFalsely : Prop := batchMeetsRow.holds Try.pinned (OpenSpec.ofChange batchMeetsWrong)

/-- 'raddlelaw18.SlotHolds': WHATEVER THE INPUT: true; the input reads as it did. -/
def slotHoldsSpec : ChangeSpec := { name := "slotHolds", fn := fun _ => fun
  | [d1, d2, d3, d4] => { results := [.lit (.bool true)], args := [d1, d2, d3, d4] }
  | _ => none }
def slotHoldsRow : OpenClaim := { program := "ytmokngiokdffdaa", sum := "8e099869b7a9b8a9b4c1dd2b117275ee42016f319276fd9677480f903717a485", func := "raddle/raddlelaw18.SlotHolds", spec := "slotHolds", unfollowed := true, recurses := true, plainKeys := false, apart := false }
def SlotHoldsSaid : Prop := slotHoldsRow.holds Try.pinned (OpenSpec.ofChange slotHoldsSpec)

/-- ITS FALSE NEIGHBOUR: 'it returns false'. Refute it at one input. -/
def slotHoldsWrong : ChangeSpec := { name := "slotHolds", fn := fun _ => fun
  | [d1, d2, d3, d4] => { results := [.lit (.bool false)], args := [d1, d2, d3, d4] }
  | _ => none }
def SlotHoldsWrongFalsely : Prop := slotHoldsRow.holds Try.pinned (OpenSpec.ofChange slotHoldsWrong)

/- THE SECOND FORM. 'bulk': how many values and letters a reading holds, each counted each time it is reached (what is shared counts as often as it is met; a slice's spare places count too). A statement '..UptoSaid' is the law's where the arguments, and the package variables that the reading takes, are together of bulk at most 1048576: NARROWER than '..Said'. Prove '..Said' where nothing that the law and all that it calls make is longer than what came in: it says more and counts as full. Else prove '..UptoSaid'. A law counts once. -/
mutual
def uptoBulk {H : Type} : DataW H → Nat
  | .lit (.string bytes) => bytes.length + 1
  | .lit _ => 1
  | .nil => 1
  | .ptr d => uptoBulk d + 1
  | .slice elems spare => uptoBulkAll elems + uptoBulkAll spare + 1
  | .agg parts => uptoBulkAll parts + 1
  | .iface _ d => uptoBulk d + 1
  | .map entries => uptoBulkEntries entries + 1
  | .held _ => 1
def uptoBulkAll {H : Type} : List (DataW H) → Nat
  | [] => 0
  | d :: r => uptoBulk d + uptoBulkAll r
def uptoBulkEntries {H : Type} : List (Lit × DataW H) → Nat
  | [] => 0
  | x :: r => uptoBulkEntry x + uptoBulkEntries r
def uptoBulkEntry {H : Type} : Lit × DataW H → Nat
  | (.string bytes, d) => bytes.length + uptoBulk d + 1
  | (_, d) => uptoBulk d + 1
 end
def uptoSmall : (H : Type) → List (DataW H) → Bool := fun _ ds => decide (uptoBulkAll ds ≤ 1048576)
def OpenSpec.upto (s : _root_.Go.ChangeSpec) : _root_.Go.OpenSpec := { _root_.Go.OpenSpec.ofChange s with cond := some uptoSmall }

/-- 'raddlelaw07.BatchMeets', WHERE WHAT IT READS IS OF BULK AT MOST 1048576: true; the input reads as it did. -/
def batchMeetsUptoRow : OpenClaim := { program := "ytmokngiokdffdaa", sum := "8e099869b7a9b8a9b4c1dd2b117275ee42016f319276fd9677480f903717a485", func := "raddle/raddlelaw07.BatchMeets", spec := "batchMeets", unfollowed := true, recurses := true, plainKeys := false, apart := false, narrowed := true }
def BatchMeetsUptoSaid : Prop := batchMeetsUptoRow.holds Try.pinned (OpenSpec.upto batchMeetsSpec)

/-- 'raddlelaw18.SlotHolds', WHERE WHAT IT READS IS OF BULK AT MOST 1048576: true; the input reads as it did. -/
def slotHoldsUptoRow : OpenClaim := { program := "ytmokngiokdffdaa", sum := "8e099869b7a9b8a9b4c1dd2b117275ee42016f319276fd9677480f903717a485", func := "raddle/raddlelaw18.SlotHolds", spec := "slotHolds", unfollowed := true, recurses := true, plainKeys := false, apart := false, narrowed := true }
def SlotHoldsUptoSaid : Prop := slotHoldsUptoRow.holds Try.pinned (OpenSpec.upto slotHoldsSpec)

end Rows
end Go.Proofs.Ytmokngiokdffdaa
