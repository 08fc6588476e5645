/- A log with a checkpoint of its own state put into it: read from the checkpoint on, and read from its head, it comes to the same (RestartChecks). Conditions: none beyond the given row's own. -/
import Derived.Test.YtiagbkpggeglgaaPureRc
import Derived.Test.YtiagbkpggeglgaaRChk2
import Derived.Test.YtiagbkpggeglgaaProg
import Derived.BigRegion
import Derived.BigQuiet
import Derived.Deep.QuietTactic
import Derived.Deep.AppendLies
import Derived.ChangeAlike
import Derived.Outline
import Derived.WalkKit
import Derived.KernelRfl
import Derived.Deep.LoopGhost
import Derived.Deep.RegionLaw
import Derived.Test.YtiagbkpggeglgaaWMore
import Derived.Test.YtiagbkpggeglgaaWKept
import Derived.Test.YtiagbkpggeglgaaLSep
namespace Go.Proofs.Ytiagbkpggeglgaa.Pure
open Go Go.RowKit Go.Proofs.YtiagbkpggeglgaaW.PrintWords Go.Proofs.YtiagbkpggeglgaaW.PrintLast Go.Proofs.YtiagbkpggeglgaaW.PrintMore Go.Proofs.Ytiagbkpggeglgaa.M Go.Proofs.Ytiagbkpggeglgaa.L Go.Proofs.Ytiagbkpggeglgaa.RS
set_option linter.unusedVariables false
set_option linter.unusedSimpArgs false
theorem RestartChecks_walk (A : Option Addr) (c : Nat) (l : List (S31)) (at_ : Int) (w : World) (h0 : l.length ≤ 17592186043904 ∧ ∀ x ∈ l, ((Lit.int .i64 x.f0).wf = true ∧ (Lit.int .i64 x.f1).wf = true ∧ (Lit.int .i64 x.f2).wf = true ∧ (Lit.int .i64 x.f3).wf = true ∧ x.f4.size ≤ maxLen ∧ True ∧ (x.f6.f0.size ≤ maxLen ∧ x.f6.f1.size ≤ maxLen ∧ (Lit.int .i64 x.f6.f2).wf = true ∧ (Lit.int .i64 x.f6.f3).wf = true) ∧ (x.f7.length ≤ 17592186043904 ∧ ∀ a_ ∈ x.f7, (Lit.int .i64 a_).wf = true) ∧ (x.f8.length ≤ 17592186043904 ∧ ∀ a_ ∈ x.f8, ((Lit.int .i64 a_.f0).wf = true ∧ (Lit.int .i64 a_.f1).wf = true ∧ a_.f2.size ≤ maxLen)) ∧ (x.f9.length ≤ 17592186043904 ∧ ∀ a_ ∈ x.f9, ((Lit.int .i64 a_.f0).wf = true ∧ (Lit.int .i64 a_.f1).wf = true ∧ True ∧ (a_.f3.length ≤ 17592186043904 ∧ ∀ b_ ∈ a_.f3, (Lit.int .i64 b_).wf = true))) ∧ (x.f10.length ≤ 17592186043904 ∧ ∀ a_ ∈ x.f10, ((Lit.int .i64 a_.f0).wf = true ∧ (Lit.int .i64 a_.f1).wf = true)))) (_y0 : l.length * 200 ≤ 140737488351232) (_h1 : (Lit.int .i64 at_).wf = true) (hr0 : k31.C w A l.length l) (hc0 : l.length ≤ c) :
    Calls Try.prog 3 #[.slice A l.length c, .int .i64 at_] w fun e w' => e = .returned (.bool true) ∧ Below w.heap.size w w' := by
  obtain ⟨rs, hC, hlen, hR⟩ := rc_bridge hr0 (fun x hx => by
    obtain ⟨_, _, _, _, _, _, _, h7, _, h9, _⟩ := h0.2 x hx
    exact ⟨h7.1, fun a ha => (h9.2 a ha).2.2.2.1⟩)
  rw [← hlen] at hC hc0 ⊢
  refine checks_walk w A c rs at_ hC hc0 (fun r hr => ?_)
  obtain ⟨i, hi⟩ := List.getElem?_of_mem hr
  obtain ⟨x, _, h⟩ := hR i r hi
  exact h.at_
end Go.Proofs.Ytiagbkpggeglgaa.Pure
