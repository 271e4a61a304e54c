-- written by wip/P/pr.py out of the translation
import Derived.Test.YtmokngiokdffdaaProg
import Derived.Below
import Derived.Deep.Draws
import Derived.Deep.AppendLies
import Derived.Maps.AppendAt
import Derived.OwnWalk
import Derived.Laws.BytesArg
import Derived.Laws.MakeOwn
import Derived.Laws.OwnMore
import Derived.Deep.OwnRows
import Derived.Tactics
import Derived.Lib.ConvBytes
import Derived.Laws.Slices
import Derived.WalkKit
import Derived.KernelRfl
import Derived.RowKit3
import Derived.Deep.LoopGhost
import Derived.Deep.QuietTactic
import Derived.BigQuiet
import Derived.WideLaws
import Derived.Deep.DeepCutAuto
import Derived.Deep.CutBlock
import Derived.Deep.RegionHeld3
import Derived.Laws.Rows
import Derived.Lib.AppendStr
import Derived.ArgAppend
import Derived.Laws.IdiomCopy
import Derived.OrdersHeld
import Derived.Laws.BitsLemmas
import Derived.RowKit
import Derived.Test.YtmokngiokdffdaaWWords
import Derived.Test.YtmokngiokdffdaaWLast
import Derived.Test.YtmokngiokdffdaaWTab
import Derived.Test.YtmokngiokdffdaaWFour
import Derived.Test.YtmokngiokdffdaaWQPut
import Derived.Test.YtmokngiokdffdaaWApart
import Derived.Test.YtmokngiokdffdaaWArr
import Derived.Test.YtmokngiokdffdaaWZeros
import Derived.Test.YtmokngiokdffdaaWFoot
import Derived.Test.YtmokngiokdffdaaWKept
import Derived.Test.YtmokngiokdffdaaWShare
import Derived.Test.YtmokngiokdffdaaWN
import Derived.Test.YtmokngiokdffdaaWFootNe
import Derived.Test.YtmokngiokdffdaaWAt
import Derived.Test.YtmokngiokdffdaaWEqStruct
import Derived.Test.YtmokngiokdffdaaWRepsOne
import Derived.Test.YtmokngiokdffdaaWInv
import Derived.Test.YtmokngiokdffdaaWInvWords
import Derived.Test.YtmokngiokdffdaaWGuard
import Derived.Test.YtmokngiokdffdaaWNEv
import Derived.Test.YtmokngiokdffdaaWMore
namespace Go.Proofs.Ytmokngiokdffdaa.P
open Go.RowKit Go.Proofs.YtmokngiokdffdaaW.PrintWords Go.Proofs.YtmokngiokdffdaaW.PrintLast Go.Proofs.YtmokngiokdffdaaW.PrintMore
attribute [local go_sem] max2_int min2_int max_two min_two max_three min_three max_four min_four   -- for this text's walks alone
set_option linter.unusedVariables false
set_option linter.unusedSimpArgs false



def errW : Option Int → Value
  | none => .nilIface
  | some c => .iface 0 (.int .i64 c)
theorem errW_none : errW none = .nilIface := rfl
theorem errW_some (c : Int) : errW (some c) = .iface 0 (.int .i64 c) := rfl

theorem info5 : (Try.prog.info? 5).map (fun i => (i.zero, i.size, i.bytes)) = some (some (.int .u8 0), 1, 1) := by kernel_rfl
-- the values' own types

end Go.Proofs.Ytmokngiokdffdaa.P
