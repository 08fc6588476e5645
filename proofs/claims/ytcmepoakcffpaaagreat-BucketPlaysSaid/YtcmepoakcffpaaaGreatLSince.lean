import Derived.Test.YtcmepoakcffpaaaGreatLSep
import Derived.Deep.QuietTactic
import Derived.Test.YtcmepoakcffpaaaGreatWMore
import Derived.Test.YtcmepoakcffpaaaGreatWLast
import Derived.Test.YtcmepoakcffpaaaGreatWKept
namespace Go.Proofs.YtcmepoakcffpaaaGreat.L
open Go Go.RowKit Go.Proofs.YtcmepoakcffpaaaGreatW.PrintWords Go.Proofs.YtcmepoakcffpaaaGreatW.PrintLast Go.Proofs.YtcmepoakcffpaaaGreatW.PrintMore
set_option linter.unusedVariables false
set_option linter.unusedSimpArgs false
/-! A region that draws its order, whose operations only read, and whose callees may make memory: walked once, in the order of the text. -/
/-- A world that came of w, nothing old changed. -/
structure Since (w : World) where
  here : World
  eff : Eff0 w here
instance (w : World) : Inhabited (Since w) := ⟨⟨w, Eff.refl _ _⟩⟩
theorem Since.cell {w : World} {a : Addr} {v : Value} (hb : a.block < w.heap.size) (h : w.cell? a = some v) (p : Since w) : p.here.cell? a = some v := by
  rw [← h]
  unfold World.cell?
  rw [p.eff.block a.block hb id]
theorem wp_region_since {P : Program} {id : Nat} {Q : Exit → Act → World → Prop} {a : Act} {w : World} {l : List Oper} (hm : P.follows .mixedOrders = true) (hB : Region.lexB .any l.toArray = true)
    (h : wpQuiet P l.toArray (fun w' => ∃ p : Since w, w' = p.here) (fun a' => ∀ w', (∃ p : Since w, w' = p.here) → Q .normal a' w') l a) : (Code.region id l.toArray true).wp P Q a w :=
  wp_region_quiet (C := fun w' => ∃ p : Since w, w' = p.here) hm hB ⟨⟨_, (Eff.refl _ _).drew⟩, rfl⟩ (by simpa using h)
/-- A callee's contract, met in such a world. -/
theorem Calls.since {P : Program} {f : FuncId} {args : Array Value} {w : World} {v : Value} {p : Since w} (h : Calls P f args p.here fun e w' => e = .returned v ∧ Eff0 p.here w') : Calls P f args p.here fun e w'' => e = .returned v ∧ ∃ q : Since w, w'' = q.here :=
  h.mono fun _ w' ⟨he, e1⟩ => ⟨he, ⟨w', p.eff.then0 e1⟩, rfl⟩
section
variable {P : Program} {ops : Array Oper} {C : World → Prop}
/-- An operation whose guard says no. -/
theorem wpQuiet_skip {Q : Act → Prop} {a : Act} {o : Oper} {rest : List Oper} (hw : Region.wanted o (yielded ops a.tmps) = false) {a' : Act} (ha : a.put o.dst undef = a') (h : wpQuiet P ops C Q rest a') : wpQuiet P ops C Q (o :: rest) a := by
  subst ha
  unfold wpQuiet
  rw [if_neg (by rw [hw]; decide)]
  exact h
/-- An operation whose guard says yes. -/
theorem wpQuiet_go {Q : Act → Prop} {a : Act} {o : Oper} {rest : List Oper} (hw : Region.wanted o (yielded ops a.tmps) = true) (h : ∀ K : Act → Prop, (∀ a, wpQuiet P ops C Q rest a → K a) → o.quiet P a C K) : wpQuiet P ops C Q (o :: rest) a := by
  unfold wpQuiet
  rw [if_pos hw]
  exact h _ (fun _ h => h)
end
end Go.Proofs.YtcmepoakcffpaaaGreat.L
