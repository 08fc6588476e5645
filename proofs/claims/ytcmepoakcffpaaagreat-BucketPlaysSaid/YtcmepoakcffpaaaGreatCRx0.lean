-- Laid by wip/gen/myprint.py of this session, on the kit's print.
import Derived.Test.YtcmepoakcffpaaaGreatProg
import Derived.Below
import Derived.Deep.Draws
import Derived.Deep.AppendLies
import Derived.Maps.AppendAt
import Derived.OwnWalk
import Derived.Laws.BytesArg
import Derived.Laws.MakeOwn
import Derived.Laws.OwnMore
import Derived.Deep.OwnRows
import Derived.Tactics
import Derived.Lib.ConvBytes
import Derived.Laws.Slices
import Derived.WalkKit
import Derived.KernelRfl
import Derived.RowKit3
import Derived.Deep.LoopGhost
import Derived.Deep.QuietTactic
import Derived.BigQuiet
import Derived.WideLaws
import Derived.Deep.DeepCutAuto
import Derived.Deep.CutBlock
import Derived.Deep.RegionHeld3
import Derived.Laws.Rows
import Derived.Lib.AppendStr
import Derived.ArgAppend
import Derived.Laws.IdiomCopy
import Derived.OrdersHeld
import Derived.Laws.BitsLemmas
import Derived.RowKit
import Derived.Test.YtcmepoakcffpaaaGreatWWords
import Derived.Test.YtcmepoakcffpaaaGreatWLast
import Derived.Test.YtcmepoakcffpaaaGreatWTab
import Derived.Test.YtcmepoakcffpaaaGreatWFour
import Derived.Test.YtcmepoakcffpaaaGreatWQPut
import Derived.Test.YtcmepoakcffpaaaGreatWApart
import Derived.Test.YtcmepoakcffpaaaGreatWArr
import Derived.Test.YtcmepoakcffpaaaGreatWZeros
import Derived.Test.YtcmepoakcffpaaaGreatWFoot
import Derived.Test.YtcmepoakcffpaaaGreatWKept
import Derived.Test.YtcmepoakcffpaaaGreatWShare
import Derived.Test.YtcmepoakcffpaaaGreatWN
import Derived.Test.YtcmepoakcffpaaaGreatWFootNe
import Derived.Test.YtcmepoakcffpaaaGreatWAt
import Derived.Test.YtcmepoakcffpaaaGreatWEqStruct
import Derived.Test.YtcmepoakcffpaaaGreatWRepsOne
import Derived.Test.YtcmepoakcffpaaaGreatWInv
import Derived.Test.YtcmepoakcffpaaaGreatWInvWords
import Derived.Test.YtcmepoakcffpaaaGreatWGuard
import Derived.Test.YtcmepoakcffpaaaGreatWNEv
import Derived.Test.YtcmepoakcffpaaaGreatWMore
namespace Go.Proofs.YtcmepoakcffpaaaGreat.CR
open Go.RowKit Go.Proofs.YtcmepoakcffpaaaGreatW.PrintWords Go.Proofs.YtcmepoakcffpaaaGreatW.PrintLast Go.Proofs.YtcmepoakcffpaaaGreatW.PrintMore
attribute [local go_sem] max2_int min2_int max_two min_two max_three min_three max_four min_four   -- for this text's walks alone
set_option linter.unusedVariables false
set_option linter.unusedSimpArgs false



def errW : Option Int → Value
  | none => .nilIface
  | some c => .iface 0 (.int .i64 c)
theorem errW_none : errW none = .nilIface := rfl
theorem errW_some (c : Int) : errW (some c) = .iface 0 (.int .i64 c) := rfl

theorem info5 : (Tryz.prog.info? 5).map (fun i => (i.zero, i.size, i.bytes)) = some (some (.int .u8 0), 1, 1) := by kernel_rfl
-- the values' own types

end Go.Proofs.YtcmepoakcffpaaaGreat.CR
