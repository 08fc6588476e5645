-- Laid by wip/gen/myprint.py of this session, on the kit's print.
import Derived.Test.YtlbdodopodgokaaProg
import Derived.Below
import Derived.Deep.Draws
import Derived.Deep.AppendLies
import Derived.Maps.AppendAt
import Derived.OwnWalk
import Derived.Laws.BytesArg
import Derived.Laws.MakeOwn
import Derived.Laws.OwnMore
import Derived.Deep.OwnRows
import Derived.Tactics
import Derived.Lib.ConvBytes
import Derived.Laws.Slices
import Derived.WalkKit
import Derived.KernelRfl
import Derived.RowKit3
import Derived.Deep.LoopGhost
import Derived.Deep.QuietTactic
import Derived.BigQuiet
import Derived.WideLaws
import Derived.Deep.DeepCutAuto
import Derived.Deep.CutBlock
import Derived.Deep.RegionHeld3
import Derived.Laws.Rows
import Derived.Lib.AppendStr
import Derived.ArgAppend
import Derived.Laws.IdiomCopy
import Derived.OrdersHeld
import Derived.Laws.BitsLemmas
import Derived.RowKit
import Derived.Test.YtlbdodopodgokaaWWords
import Derived.Test.YtlbdodopodgokaaWLast
import Derived.Test.YtlbdodopodgokaaWTab
import Derived.Test.YtlbdodopodgokaaWFour
import Derived.Test.YtlbdodopodgokaaWQPut
import Derived.Test.YtlbdodopodgokaaWApart
import Derived.Test.YtlbdodopodgokaaWArr
import Derived.Test.YtlbdodopodgokaaWZeros
import Derived.Test.YtlbdodopodgokaaWFoot
import Derived.Test.YtlbdodopodgokaaWKept
import Derived.Test.YtlbdodopodgokaaWShare
import Derived.Test.YtlbdodopodgokaaWN
import Derived.Test.YtlbdodopodgokaaWFootNe
import Derived.Test.YtlbdodopodgokaaWAt
import Derived.Test.YtlbdodopodgokaaWEqStruct
import Derived.Test.YtlbdodopodgokaaWRepsOne
import Derived.Test.YtlbdodopodgokaaWInv
import Derived.Test.YtlbdodopodgokaaWInvWords
import Derived.Test.YtlbdodopodgokaaWGuard
import Derived.Test.YtlbdodopodgokaaWNEv
import Derived.Test.YtlbdodopodgokaaWMore
namespace Go.Proofs.Ytlbdodopodgokaa.CR
open Go.RowKit Go.Proofs.YtlbdodopodgokaaW.PrintWords Go.Proofs.YtlbdodopodgokaaW.PrintLast Go.Proofs.YtlbdodopodgokaaW.PrintMore
attribute [local go_sem] max2_int min2_int max_two min_two max_three min_three max_four min_four   -- for this text's walks alone
set_option linter.unusedVariables false
set_option linter.unusedSimpArgs false



def errW : Option Int → Value
  | none => .nilIface
  | some c => .iface 0 (.int .i64 c)
theorem errW_none : errW none = .nilIface := rfl
theorem errW_some (c : Int) : errW (some c) = .iface 0 (.int .i64 c) := rfl

theorem info5 : (Try.prog.info? 5).map (fun i => (i.zero, i.size, i.bytes)) = some (some (.int .u8 0), 1, 1) := by kernel_rfl
-- the values' own types

end Go.Proofs.Ytlbdodopodgokaa.CR
