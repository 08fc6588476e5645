/- Which numbers a master may have (MasterEdges), given that alive tells true. Conditions: none beyond the stated ones. -/
import Derived.Test.YtiagbkpggeglgaaProg
import Derived.BigRegion
import Derived.BigQuiet
import Derived.Deep.QuietTactic
import Derived.Deep.AppendLies
import Derived.ChangeAlike
import Derived.Outline
import Derived.WalkKit
import Derived.KernelRfl
import Derived.Deep.LoopGhost
import Derived.Deep.RegionLaw
import Derived.Test.YtiagbkpggeglgaaWMore
import Derived.Test.YtiagbkpggeglgaaWKept
import Derived.Test.YtiagbkpggeglgaaLSep
import Derived.Test.YtiagbkpggeglgaaRMPlain
namespace Go.Proofs.Ytiagbkpggeglgaa.Pure
open Go Go.RowKit Go.Proofs.YtiagbkpggeglgaaW.PrintWords Go.Proofs.YtiagbkpggeglgaaW.PrintLast Go.Proofs.YtiagbkpggeglgaaW.PrintMore Go.Proofs.Ytiagbkpggeglgaa.L Go.Proofs.Ytiagbkpggeglgaa.MR Go.Proofs.Ytiagbkpggeglgaa.RS
set_option linter.unusedVariables false
set_option linter.unusedSimpArgs false
/-- A box that is kept. -/
theorem keep5 {w w' : World} {a b c d x : Value} {t : Nat} (e : Eff0 (w.alloc (.cells #[a, b, c, d, x] t)) w') : (w'.cell? ⟨w.heap.size, 0, none⟩ = some a ∧ w'.cell? ⟨w.heap.size, 1, none⟩ = some b ∧ w'.cell? ⟨w.heap.size, 2, none⟩ = some c ∧ w'.cell? ⟨w.heap.size, 3, none⟩ = some d ∧ w'.cell? ⟨w.heap.size, 4, none⟩ = some x) ∧ w.heap.size < w'.heap.size := by
  have hs : w.heap.size < (w.alloc (.cells #[a, b, c, d, x] t)).heap.size := by simp
  have hb := heap_alloc_new w (.cells #[a, b, c, d, x] t)
  have h : ∀ i, w'.cell? ⟨w.heap.size, i, none⟩ = (#[a, b, c, d, x] : Array Value)[i]? := fun i => by
    rw [e.cell hs id]
    exact blk_cell hb i
  exact ⟨⟨h 0, h 1, h 2, h 3, h 4⟩, Nat.lt_of_lt_of_le hs e.size⟩
set_option maxHeartbeats 1600000 in
set_option maxRecDepth 100000 in
theorem MasterEdges_of (CA : ∀ w, Calls Try.prog 8 #[] w fun e w' => e = .returned (.bool true) ∧ Below w.heap.size w w') (k v : Int) (w : World) (h1 : (Lit.int .i64 k).wf = true) (h2 : (Lit.int .i64 v).wf = true) :
    Calls Try.prog 5 #[.int .i64 k, .int .i64 v] w fun e w' => e = .returned (.bool true) ∧ Below w.heap.size w w' := by
  have hE := eqM
  go_enter Try.func5, Try.ntmps5
  go_wp2_with (first
    | (go_at_call 8; refine (CA _).mono ?_; rintro e w1 ⟨rfl, b1⟩; have e1 := Aside0.mk (Eff.of_below (S := fun _ => False) b1); clear b1)
    | (go_at_call 12; refine (Put2_calls _ _ _ _ _ _).mono ?_; rintro e w2 ⟨⟨ho, rfl⟩ | ⟨ho, rfl⟩, e2⟩)
    | (go_at_call 15; refine (Get_calls (Get_own ho 0) _).mono ?_; rintro e w3 ⟨rfl, e3⟩; obtain ⟨⟨z0, z1, z2, z3, z4⟩, zs⟩ := keep5 (e2.trans e3 (fun _ h => h.elim)))
    | (go_at_call 15; refine (Get_calls (Get_nil 0) _).mono ?_; rintro e w3 ⟨rfl, e3⟩))
  all_goals first
    | (exfalso; unfold okM at ho; omega)
    | (go_ret; exact ⟨rfl, (((e1.out.alloc _).trans e2 (fun _ h => h.elim)).trans e3 (fun _ h => h.elim)).alloc _ |>.below0⟩)
    | trace_state
end Go.Proofs.Ytiagbkpggeglgaa.Pure
