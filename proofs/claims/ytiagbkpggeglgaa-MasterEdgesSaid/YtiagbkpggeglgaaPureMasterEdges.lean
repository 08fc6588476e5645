/- Which numbers a master may have (MasterEdges). Conditions: none beyond the given row's own. -/
import Derived.Test.YtiagbkpggeglgaaPureMEdges
import Derived.Test.YtiagbkpggeglgaaRAlive
import Derived.Test.YtiagbkpggeglgaaProg
import Derived.BigRegion
import Derived.BigQuiet
import Derived.Deep.QuietTactic
import Derived.Deep.AppendLies
import Derived.ChangeAlike
import Derived.Outline
import Derived.WalkKit
import Derived.KernelRfl
import Derived.Deep.LoopGhost
import Derived.Deep.RegionLaw
import Derived.Test.YtiagbkpggeglgaaWMore
import Derived.Test.YtiagbkpggeglgaaWKept
import Derived.Test.YtiagbkpggeglgaaLSep
namespace Go.Proofs.Ytiagbkpggeglgaa.Pure
open Go Go.RowKit Go.Proofs.YtiagbkpggeglgaaW.PrintWords Go.Proofs.YtiagbkpggeglgaaW.PrintLast Go.Proofs.YtiagbkpggeglgaaW.PrintMore Go.Proofs.Ytiagbkpggeglgaa.L Go.Proofs.Ytiagbkpggeglgaa.RS
set_option linter.unusedVariables false
set_option linter.unusedSimpArgs false
theorem MasterEdges_walk (k v : Int) (w : World) (h1 : (Lit.int .i64 k).wf = true) (h2 : (Lit.int .i64 v).wf = true) :
    Calls Try.prog 5 #[.int .i64 k, .int .i64 v] w fun e w' => e = .returned (.bool true) ∧ Below w.heap.size w w' := MasterEdges_of RS.alive_calls k v w h1 h2
end Go.Proofs.Ytiagbkpggeglgaa.Pure
