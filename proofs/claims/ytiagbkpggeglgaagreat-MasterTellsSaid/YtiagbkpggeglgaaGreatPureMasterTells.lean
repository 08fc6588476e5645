/- Every master as bytes, and back; every two sectors: which is the newer one (MasterTells). Conditions: none beyond the given row's own. -/
import Derived.Test.YtiagbkpggeglgaaGreatMTx0
import Derived.Test.YtiagbkpggeglgaaGreatRK3
import Derived.Test.YtiagbkpggeglgaaGreatRAlive
namespace Go.Proofs.YtiagbkpggeglgaaGreat.Pure
open Go Go.RowKit Go.Proofs.YtiagbkpggeglgaaGreatW.PrintWords Go.Proofs.YtiagbkpggeglgaaGreatW.PrintLast Go.Proofs.YtiagbkpggeglgaaGreatW.PrintMore Go.Proofs.YtiagbkpggeglgaaGreat.L Go.Proofs.YtiagbkpggeglgaaGreat.RS Go.Proofs.YtiagbkpggeglgaaGreat.MT
set_option linter.unusedVariables false
set_option linter.unusedSimpArgs false
theorem MasterTells_walk (m : S23) (a b : ByteArray) (w : World) (_h : (Lit.int .i64 m.f0).wf = true ∧ (Lit.int .i64 m.f1).wf = true ∧ (Lit.int .i64 m.f2).wf = true ∧ (Lit.int .i64 m.f3).wf = true ∧ (Lit.int .i64 m.f4).wf = true) (_h1 : a.size ≤ 140737488351232) (_h2 : b.size ≤ 140737488351232) :
    Calls Tryz.prog 3 #[.agg #[.int .i64 m.f0, .int .i64 m.f1, .int .i64 m.f2, .int .i64 m.f3, .int .i64 m.f4], .string a, .string b] w fun e w' => e = .returned (.bool true) ∧ Below w.heap.size w w' := MasterTells_of RS.alive_calls m.f0 m.f1 m.f2 m.f3 m.f4 a b w
end Go.Proofs.YtiagbkpggeglgaaGreat.Pure
