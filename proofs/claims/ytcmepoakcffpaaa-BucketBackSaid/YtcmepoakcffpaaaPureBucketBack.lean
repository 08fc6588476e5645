/- A cell that is put in, where none of its key was, and taken out, leaves the page as it was (BucketBack). Conditions: none beyond the given row's own. -/
import Derived.Test.YtcmepoakcffpaaaMMx
import Derived.Test.YtcmepoakcffpaaaCBack
namespace Go.Proofs.Ytcmepoakcffpaaa.Pure
open Go Go.RowKit Go.Proofs.YtcmepoakcffpaaaW.PrintWords Go.Proofs.YtcmepoakcffpaaaW.PrintLast Go.Proofs.YtcmepoakcffpaaaW.PrintMore Go.Proofs.Ytcmepoakcffpaaa.L Go.Proofs.Ytcmepoakcffpaaa.MM Go.Proofs.Ytcmepoakcffpaaa.CP
set_option linter.unusedVariables false
set_option linter.unusedSimpArgs false
theorem BucketBack_walk (a0 : S23) (a1 : S25) (W : World) (t0 : (Lit.int .i64 a0.f0).wf = true ∧ (Lit.int .i64 a0.f1).wf = true ∧ (Lit.int .i64 a0.f2).wf = true ∧ a0.f3.size ≤ maxLen) (t1 : a1.f0.size ≤ maxLen ∧ a1.f1.size ≤ maxLen ∧ (Lit.int .i64 a1.f2).wf = true ∧ (Lit.int .i64 a1.f3).wf = true) :
    Calls Try.prog 3 #[.agg #[.int .i64 a0.f0, .int .i64 a0.f1, .int .i64 a0.f2, .string a0.f3], .agg #[.string a1.f0, .string a1.f1, .int .i64 a1.f2, .int .i64 a1.f3]] W fun e w' => e = .returned (.bool true) ∧ Below W.heap.size W w' :=
  CP.BucketBack_walk_ ⟨a0.f0, a0.f1, a0.f2, a0.f3⟩ ⟨a1.f0, a1.f1, a1.f2, a1.f3⟩ W
end Go.Proofs.Ytcmepoakcffpaaa.Pure
