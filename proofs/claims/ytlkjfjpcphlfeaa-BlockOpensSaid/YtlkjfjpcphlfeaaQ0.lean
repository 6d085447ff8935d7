-- Written by wip/ext.py, a program of this session, by way of the kit's printer: nothing in it is trusted: Lean checks it.
import Derived.Test.YtlkjfjpcphlfeaaProg
import Derived.Below
import Derived.Deep.Draws
import Derived.Deep.AppendLies
import Derived.Maps.AppendAt
import Derived.OwnWalk
import Derived.Laws.BytesArg
import Derived.Laws.MakeOwn
import Derived.Laws.OwnMore
import Derived.Deep.OwnRows
import Derived.Tactics
import Derived.Lib.ConvBytes
import Derived.Laws.Slices
import Derived.WalkKit
import Derived.KernelRfl
import Derived.RowKit3
import Derived.Deep.LoopGhost
import Derived.Deep.QuietTactic
import Derived.BigQuiet
import Derived.WideLaws
import Derived.Deep.DeepCutAuto
import Derived.Deep.CutBlock
import Derived.Deep.RegionHeld3
import Derived.Laws.Rows
import Derived.Lib.AppendStr
import Derived.ArgAppend
import Derived.Laws.IdiomCopy
import Derived.OrdersHeld
import Derived.Laws.BitsLemmas
import Derived.RowKit
import Derived.Test.YtlkjfjpcphlfeaaShelf
import Derived.Lib.Repeat
import Derived.Test.YtlkjfjpcphlfeaaWWords
import Derived.Test.YtlkjfjpcphlfeaaWLast
import Derived.Test.YtlkjfjpcphlfeaaWTab
import Derived.Test.YtlkjfjpcphlfeaaWFour
import Derived.Test.YtlkjfjpcphlfeaaWQPut
import Derived.Test.YtlkjfjpcphlfeaaWApart
import Derived.Test.YtlkjfjpcphlfeaaWArr
import Derived.Test.YtlkjfjpcphlfeaaWZeros
import Derived.Test.YtlkjfjpcphlfeaaWFoot
import Derived.Test.YtlkjfjpcphlfeaaWKept
import Derived.Test.YtlkjfjpcphlfeaaWShare
import Derived.Test.YtlkjfjpcphlfeaaWN
import Derived.Test.YtlkjfjpcphlfeaaWFootNe
import Derived.Test.YtlkjfjpcphlfeaaWAt
import Derived.Test.YtlkjfjpcphlfeaaWEqStruct
import Derived.Test.YtlkjfjpcphlfeaaWRepsOne
import Derived.Test.YtlkjfjpcphlfeaaWInv
import Derived.Test.YtlkjfjpcphlfeaaWInvWords
import Derived.Test.YtlkjfjpcphlfeaaWGuard
import Derived.Test.YtlkjfjpcphlfeaaWNEv
import Derived.Test.YtlkjfjpcphlfeaaWMore
namespace Go.Proofs.Ytlkjfjpcphlfeaa.Q
open Go.RowKit Go.Proofs.YtlkjfjpcphlfeaaW.PrintWords Go.Proofs.YtlkjfjpcphlfeaaW.PrintLast Go.Proofs.YtlkjfjpcphlfeaaW.PrintMore
attribute [local go_sem] max2_int min2_int max_two min_two max_three min_three max_four min_four   -- for this text's walks alone
set_option linter.unusedVariables false
set_option linter.unusedSimpArgs false



def errW : Option Int → Value
  | none => .nilIface
  | some c => .iface 0 (.int .i64 c)
theorem errW_none : errW none = .nilIface := rfl
theorem errW_some (c : Int) : errW (some c) = .iface 0 (.int .i64 c) := rfl

theorem info5 : (Try.prog.info? 5).map (fun i => (i.zero, i.size, i.bytes)) = some (some (.int .u8 0), 1, 1) := by kernel_rfl
-- the values' own types

end Go.Proofs.Ytlkjfjpcphlfeaa.Q
