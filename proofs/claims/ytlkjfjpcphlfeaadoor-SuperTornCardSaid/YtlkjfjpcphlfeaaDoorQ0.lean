-- Written by wip/ext.py, a program of this session, by way of the kit's printer: nothing in it is trusted: Lean checks it.
import Derived.Test.YtlkjfjpcphlfeaaDoorProg
import Derived.Below
import Derived.Deep.Draws
import Derived.Deep.AppendLies
import Derived.Maps.AppendAt
import Derived.OwnWalk
import Derived.Laws.BytesArg
import Derived.Laws.MakeOwn
import Derived.Laws.OwnMore
import Derived.Deep.OwnRows
import Derived.Tactics
import Derived.Lib.ConvBytes
import Derived.Laws.Slices
import Derived.WalkKit
import Derived.KernelRfl
import Derived.RowKit3
import Derived.Deep.LoopGhost
import Derived.Deep.QuietTactic
import Derived.BigQuiet
import Derived.WideLaws
import Derived.Deep.DeepCutAuto
import Derived.Deep.CutBlock
import Derived.Deep.RegionHeld3
import Derived.Laws.Rows
import Derived.Lib.AppendStr
import Derived.ArgAppend
import Derived.Laws.IdiomCopy
import Derived.OrdersHeld
import Derived.Laws.BitsLemmas
import Derived.RowKit
import Derived.Test.YtlkjfjpcphlfeaaDoorShelf
import Derived.Lib.Repeat
import Derived.LoopN
import Derived.Deep.Light
import Derived.WalkLawsBesides
import Derived.WalkMore
import Derived.Test.YtlkjfjpcphlfeaaDoorWWords
import Derived.Test.YtlkjfjpcphlfeaaDoorWLast
import Derived.Test.YtlkjfjpcphlfeaaDoorWTab
import Derived.Test.YtlkjfjpcphlfeaaDoorWFour
import Derived.Test.YtlkjfjpcphlfeaaDoorWQPut
import Derived.Test.YtlkjfjpcphlfeaaDoorWApart
import Derived.Test.YtlkjfjpcphlfeaaDoorWArr
import Derived.Test.YtlkjfjpcphlfeaaDoorWZeros
import Derived.Test.YtlkjfjpcphlfeaaDoorWFoot
import Derived.Test.YtlkjfjpcphlfeaaDoorWKept
import Derived.Test.YtlkjfjpcphlfeaaDoorWShare
import Derived.Test.YtlkjfjpcphlfeaaDoorWN
import Derived.Test.YtlkjfjpcphlfeaaDoorWFootNe
import Derived.Test.YtlkjfjpcphlfeaaDoorWAt
import Derived.Test.YtlkjfjpcphlfeaaDoorWEqStruct
import Derived.Test.YtlkjfjpcphlfeaaDoorWRepsOne
import Derived.Test.YtlkjfjpcphlfeaaDoorWInv
import Derived.Test.YtlkjfjpcphlfeaaDoorWInvWords
import Derived.Test.YtlkjfjpcphlfeaaDoorWGuard
import Derived.Test.YtlkjfjpcphlfeaaDoorWNEv
import Derived.Test.YtlkjfjpcphlfeaaDoorWMore
namespace Go.Proofs.YtlkjfjpcphlfeaaDoor.Q
open Go.RowKit Go.Proofs.YtlkjfjpcphlfeaaDoorW.PrintWords Go.Proofs.YtlkjfjpcphlfeaaDoorW.PrintLast Go.Proofs.YtlkjfjpcphlfeaaDoorW.PrintMore
attribute [local go_sem] max2_int min2_int max_two min_two max_three min_three max_four min_four   -- for this text's walks alone
set_option linter.unusedVariables false
set_option linter.unusedSimpArgs false



def errW : Option Int → Value
  | none => .nilIface
  | some c => .iface 0 (.int .i64 c)
theorem errW_none : errW none = .nilIface := rfl
theorem errW_some (c : Int) : errW (some c) = .iface 0 (.int .i64 c) := rfl

theorem info5 : (Tryd.prog.info? 5).map (fun i => (i.zero, i.size, i.bytes)) = some (some (.int .u8 0), 1, 1) := by kernel_rfl
-- the values' own types

end Go.Proofs.YtlkjfjpcphlfeaaDoor.Q
