-- Laid by wip/gen/myprint.py of this session, on the kit's print.
import Derived.Test.YtcmepoakcffpaaaProg
import Derived.Below
import Derived.Deep.Draws
import Derived.Deep.AppendLies
import Derived.Maps.AppendAt
import Derived.OwnWalk
import Derived.Laws.BytesArg
import Derived.Laws.MakeOwn
import Derived.Laws.OwnMore
import Derived.Deep.OwnRows
import Derived.Tactics
import Derived.Lib.ConvBytes
import Derived.Laws.Slices
import Derived.WalkKit
import Derived.KernelRfl
import Derived.RowKit3
import Derived.Deep.LoopGhost
import Derived.Deep.QuietTactic
import Derived.BigQuiet
import Derived.WideLaws
import Derived.Deep.DeepCutAuto
import Derived.Deep.CutBlock
import Derived.Deep.RegionHeld3
import Derived.Laws.Rows
import Derived.Lib.AppendStr
import Derived.ArgAppend
import Derived.Laws.IdiomCopy
import Derived.OrdersHeld
import Derived.Laws.BitsLemmas
import Derived.RowKit
import Derived.Test.YtcmepoakcffpaaaWWords
import Derived.Test.YtcmepoakcffpaaaWLast
import Derived.Test.YtcmepoakcffpaaaWTab
import Derived.Test.YtcmepoakcffpaaaWFour
import Derived.Test.YtcmepoakcffpaaaWQPut
import Derived.Test.YtcmepoakcffpaaaWApart
import Derived.Test.YtcmepoakcffpaaaWArr
import Derived.Test.YtcmepoakcffpaaaWZeros
import Derived.Test.YtcmepoakcffpaaaWFoot
import Derived.Test.YtcmepoakcffpaaaWKept
import Derived.Test.YtcmepoakcffpaaaWShare
import Derived.Test.YtcmepoakcffpaaaWN
import Derived.Test.YtcmepoakcffpaaaWFootNe
import Derived.Test.YtcmepoakcffpaaaWAt
import Derived.Test.YtcmepoakcffpaaaWEqStruct
import Derived.Test.YtcmepoakcffpaaaWRepsOne
import Derived.Test.YtcmepoakcffpaaaWInv
import Derived.Test.YtcmepoakcffpaaaWInvWords
import Derived.Test.YtcmepoakcffpaaaWGuard
import Derived.Test.YtcmepoakcffpaaaWNEv
import Derived.Test.YtcmepoakcffpaaaWMore
namespace Go.Proofs.Ytcmepoakcffpaaa.CR
open Go.RowKit Go.Proofs.YtcmepoakcffpaaaW.PrintWords Go.Proofs.YtcmepoakcffpaaaW.PrintLast Go.Proofs.YtcmepoakcffpaaaW.PrintMore
attribute [local go_sem] max2_int min2_int max_two min_two max_three min_three max_four min_four   -- for this text's walks alone
set_option linter.unusedVariables false
set_option linter.unusedSimpArgs false



def errW : Option Int → Value
  | none => .nilIface
  | some c => .iface 0 (.int .i64 c)
theorem errW_none : errW none = .nilIface := rfl
theorem errW_some (c : Int) : errW (some c) = .iface 0 (.int .i64 c) := rfl

theorem info5 : (Try.prog.info? 5).map (fun i => (i.zero, i.size, i.bytes)) = some (some (.int .u8 0), 1, 1) := by kernel_rfl
-- the values' own types

end Go.Proofs.Ytcmepoakcffpaaa.CR
