/- In whatever order cells are put in, if all fit, the page is the same (BucketOrder). Conditions: none beyond the given row's own. -/
import Derived.Test.YtcmepoakcffpaaaMMx
import Derived.Test.YtcmepoakcffpaaaCOWalk
namespace Go.Proofs.Ytcmepoakcffpaaa.Pure
open Go Go.RowKit Go.Proofs.YtcmepoakcffpaaaW.PrintWords Go.Proofs.YtcmepoakcffpaaaW.PrintLast Go.Proofs.YtcmepoakcffpaaaW.PrintMore Go.Proofs.Ytcmepoakcffpaaa.L Go.Proofs.Ytcmepoakcffpaaa.MM Go.Proofs.Ytcmepoakcffpaaa.CP
set_option linter.unusedVariables false
set_option linter.unusedSimpArgs false
theorem BucketOrder_walk (A : Option Addr) (c : Nat) (l : List S25) (turn : Int) (W : World) (t0 : l.length ≤ maxLen ∧ ∀ a_ ∈ l, (a_.f0.size ≤ maxLen ∧ a_.f1.size ≤ maxLen ∧ (Lit.int .i64 a_.f2).wf = true ∧ (Lit.int .i64 a_.f3).wf = true)) (y0 : l.length * 48 ≤ 140737488351232) (w1 : (Lit.int .i64 turn).wf = true) (hr : Kd.C k25 W A l.length l) (hc : l.length ≤ c) :
    Calls Try.prog 5 #[.slice A l.length c, .int .i64 turn] W fun e w' => e = .returned (.bool true) ∧ Below W.heap.size W w' :=
  CP.order_calls W A c l turn hr hc
end Go.Proofs.Ytcmepoakcffpaaa.Pure
