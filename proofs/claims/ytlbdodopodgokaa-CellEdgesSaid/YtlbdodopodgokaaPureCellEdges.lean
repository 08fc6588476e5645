import Derived.Test.YtlbdodopodgokaaCEdges
namespace Go.Proofs.Ytlbdodopodgokaa.Pure
open Go Go.RowKit Go.Proofs.Ytlbdodopodgokaa.CR Go.Proofs.YtlbdodopodgokaaW.PrintWords Go.Proofs.YtlbdodopodgokaaW.PrintLast Go.Proofs.YtlbdodopodgokaaW.PrintMore
set_option linter.unusedVariables false
open Go.Proofs.Ytlbdodopodgokaa.CP
theorem CellEdges_walk (a0 a1 a2 a3 : Int) (W : World) (h0 : (Lit.int .i64 a0).wf = true) (h1 : (Lit.int .i64 a1).wf = true) (h2 : (Lit.int .i64 a2).wf = true) (h3 : (Lit.int .i64 a3).wf = true) :
    Calls Try.prog 7 #[.int .i64 a0, .int .i64 a1, .int .i64 a2, .int .i64 a3] W fun e W' => e = .returned (.bool true) ∧ Below W.heap.size W W' := edges_calls W a0 a1 a2 a3

end Go.Proofs.Ytlbdodopodgokaa.Pure
