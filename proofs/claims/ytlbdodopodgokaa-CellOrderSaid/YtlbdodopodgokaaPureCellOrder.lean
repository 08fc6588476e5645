import Derived.Test.YtlbdodopodgokaaMQx0
import Derived.Test.YtlbdodopodgokaaCOrder
namespace Go.Proofs.Ytlbdodopodgokaa.Pure
open Go Go.RowKit Go.Proofs.Ytlbdodopodgokaa.CR Go.Proofs.YtlbdodopodgokaaW.PrintWords Go.Proofs.YtlbdodopodgokaaW.PrintLast Go.Proofs.YtlbdodopodgokaaW.PrintMore
set_option linter.unusedVariables false
open Go.Proofs.Ytlbdodopodgokaa.CP
theorem CellOrder_walk (a0 a1 : MQ.S32) (W : World) (h0 : (a0.f0.size ≤ maxLen ∧ a0.f1.size ≤ maxLen ∧ (Lit.int .i64 a0.f2).wf = true ∧ (Lit.int .i64 a0.f3).wf = true)) (h1 : (a1.f0.size ≤ maxLen ∧ a1.f1.size ≤ maxLen ∧ (Lit.int .i64 a1.f2).wf = true ∧ (Lit.int .i64 a1.f3).wf = true)) :
    Calls Try.prog 6 #[.agg #[.string a0.f0, .string a0.f1, .int .i64 a0.f2, .int .i64 a0.f3], .agg #[.string a1.f0, .string a1.f1, .int .i64 a1.f2, .int .i64 a1.f3]] W fun e W' => e = .returned (.bool true) ∧ Below W.heap.size W W' := order_calls W ⟨a0.f0, a0.f1, a0.f2, a0.f3⟩ ⟨a1.f0, a1.f1, a1.f2, a1.f3⟩

end Go.Proofs.Ytlbdodopodgokaa.Pure
