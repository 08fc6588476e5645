/- Of two masters the one that was written later counts (MasterTurns). Conditions: none beyond the given row's own. -/
import Derived.Test.YtiagbkpggeglgaaMx0
import Derived.Test.YtiagbkpggeglgaaPureMTurns
import Derived.Test.YtiagbkpggeglgaaRAlive
import Derived.Test.YtiagbkpggeglgaaProg
import Derived.BigRegion
import Derived.BigQuiet
import Derived.Deep.QuietTactic
import Derived.Deep.AppendLies
import Derived.ChangeAlike
import Derived.Outline
import Derived.WalkKit
import Derived.KernelRfl
import Derived.Deep.LoopGhost
import Derived.Deep.RegionLaw
import Derived.Test.YtiagbkpggeglgaaWMore
import Derived.Test.YtiagbkpggeglgaaWKept
import Derived.Test.YtiagbkpggeglgaaLSep
namespace Go.Proofs.Ytiagbkpggeglgaa.Pure
open Go Go.RowKit Go.Proofs.YtiagbkpggeglgaaW.PrintWords Go.Proofs.YtiagbkpggeglgaaW.PrintLast Go.Proofs.YtiagbkpggeglgaaW.PrintMore Go.Proofs.Ytiagbkpggeglgaa.L Go.Proofs.Ytiagbkpggeglgaa.RS Go.Proofs.Ytiagbkpggeglgaa.M
set_option linter.unusedVariables false
set_option linter.unusedSimpArgs false
theorem MasterTurns_walk (m : S40) (w : World) (_h : (Lit.int .i64 m.f0).wf = true ∧ (Lit.int .i64 m.f1).wf = true ∧ (Lit.int .i64 m.f2).wf = true ∧ (Lit.int .i64 m.f3).wf = true ∧ (Lit.int .i64 m.f4).wf = true) :
    Calls Try.prog 4 #[.agg #[.int .i64 m.f0, .int .i64 m.f1, .int .i64 m.f2, .int .i64 m.f3, .int .i64 m.f4]] w fun e w' => e = .returned (.bool true) ∧ Below w.heap.size w w' := MasterTurns_of RS.alive_calls m.f0 m.f1 m.f2 m.f3 m.f4 w
end Go.Proofs.Ytiagbkpggeglgaa.Pure
