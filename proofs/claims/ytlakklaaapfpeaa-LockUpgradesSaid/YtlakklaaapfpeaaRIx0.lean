-- Laid by wip/gen/myprint.py of this session, on the kit's print.
import Derived.Test.YtlakklaaapfpeaaProg
import Derived.Below
import Derived.Deep.Draws
import Derived.Deep.AppendLies
import Derived.Maps.AppendAt
import Derived.OwnWalk
import Derived.Laws.BytesArg
import Derived.Laws.MakeOwn
import Derived.Laws.OwnMore
import Derived.Deep.OwnRows
import Derived.Tactics
import Derived.Lib.ConvBytes
import Derived.Laws.Slices
import Derived.WalkKit
import Derived.KernelRfl
import Derived.RowKit3
import Derived.Deep.LoopGhost
import Derived.Deep.QuietTactic
import Derived.BigQuiet
import Derived.WideLaws
import Derived.Deep.DeepCutAuto
import Derived.Deep.CutBlock
import Derived.Deep.RegionHeld3
import Derived.Laws.Rows
import Derived.Lib.AppendStr
import Derived.ArgAppend
import Derived.Laws.IdiomCopy
import Derived.OrdersHeld
import Derived.Laws.BitsLemmas
import Derived.RowKit
import Derived.Test.YtlakklaaapfpeaaWWords
import Derived.Test.YtlakklaaapfpeaaWLast
import Derived.Test.YtlakklaaapfpeaaWTab
import Derived.Test.YtlakklaaapfpeaaWFour
import Derived.Test.YtlakklaaapfpeaaWQPut
import Derived.Test.YtlakklaaapfpeaaWApart
import Derived.Test.YtlakklaaapfpeaaWArr
import Derived.Test.YtlakklaaapfpeaaWZeros
import Derived.Test.YtlakklaaapfpeaaWFoot
import Derived.Test.YtlakklaaapfpeaaWKept
import Derived.Test.YtlakklaaapfpeaaWShare
import Derived.Test.YtlakklaaapfpeaaWN
import Derived.Test.YtlakklaaapfpeaaWFootNe
import Derived.Test.YtlakklaaapfpeaaWAt
import Derived.Test.YtlakklaaapfpeaaWEqStruct
import Derived.Test.YtlakklaaapfpeaaWRepsOne
import Derived.Test.YtlakklaaapfpeaaWInv
import Derived.Test.YtlakklaaapfpeaaWInvWords
import Derived.Test.YtlakklaaapfpeaaWGuard
import Derived.Test.YtlakklaaapfpeaaWNEv
import Derived.Test.YtlakklaaapfpeaaWMore
namespace Go.Proofs.Ytlakklaaapfpeaa.RI
open Go.RowKit Go.Proofs.YtlakklaaapfpeaaW.PrintWords Go.Proofs.YtlakklaaapfpeaaW.PrintLast Go.Proofs.YtlakklaaapfpeaaW.PrintMore
attribute [local go_sem] max2_int min2_int max_two min_two max_three min_three max_four min_four   -- for this text's walks alone
set_option linter.unusedVariables false
set_option linter.unusedSimpArgs false



def errW : Option Int → Value
  | none => .nilIface
  | some c => .iface 0 (.int .i64 c)
theorem errW_none : errW none = .nilIface := rfl
theorem errW_some (c : Int) : errW (some c) = .iface 0 (.int .i64 c) := rfl

theorem info3 : (Try.prog.info? 3).map (fun i => (i.zero, i.size, i.bytes)) = some (some (.int .i64 0), 1, 8) := by kernel_rfl
-- the values' own types

end Go.Proofs.Ytlakklaaapfpeaa.RI
