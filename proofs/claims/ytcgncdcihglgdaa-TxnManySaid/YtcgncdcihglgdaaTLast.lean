import Derived.Test.YtcgncdcihglgdaaTOps2
namespace Go.Proofs.Ytcgncdcihglgdaa.T
open Go Go.RowKit Go.Proofs.YtcgncdcihglgdaaW.PrintWords Go.Proofs.YtcgncdcihglgdaaW.PrintLast Go.Proofs.YtcgncdcihglgdaaW.PrintMore Go.Proofs.Ytcgncdcihglgdaa.L
set_option linter.unusedVariables false
set_option linter.unusedSimpArgs false
set_option maxHeartbeats 4000000 in
set_option maxRecDepth 100000 in
theorem last_calls (tb : Nat) (s : Tab) (W : World) (F : Nat → Prop) (tx : Int) (h : (TabAt tb s).on W F) :
    Calls Try.prog 18 #[.pointer (some ⟨tb, 0, none⟩), .int .i64 tx] W fun e w' => e = .returned (.tuple #[.int .i64 (lastR s tx).1, .bool (lastR s tx).2]) ∧ Upd W F (TabAt tb s) w' := by
  have C := get_calls tb s W F tx h
  cases hg : getP s.l tx with
  | none =>
    have hr : lastR s tx = (0, false) := by simp [lastR, hg]
    rw [hg] at C
    rw [hr]
    dsimp only [ptrOf, Option.map_none, Option.map_some] at C
    have H := Aside0.mk h
    clear h hg hr
    go_enter Try.func18, Try.ntmps18
    go_wp2_with (go_at_call 20; refine C.mono ?_; rintro e w1 ⟨rfl, d1⟩)
    go_ret2
    exact ⟨rfl, Upd.same H.out ((Eff.refl _ _).drawn d1)⟩
  | some p =>
    obtain ⟨b, x⟩ := p
    have hr : lastR s tx = (x.last, true) := by simp [lastR, hg]
    rw [hg] at C
    rw [hr]
    dsimp only [ptrOf, Option.map_none, Option.map_some] at C
    have H := Aside0.mk h
    have K : ∀ w1, Drawn0 W w1 → w1.cell? ⟨b, 0, none⟩ = some (.int .i64 x.last) := by
      intro w1 d1
      obtain ⟨F1, h1, _⟩ := TabAt.has (HP.eff0 h ((Eff.refl _ _).drawn d1)) hg
      obtain ⟨vu, vs, c0, _⟩ := OneAt.cells h1
      exact c0
    clear h hg hr
    go_enter Try.func18, Try.ntmps18
    go_wp2_with (go_at_call 20; refine C.mono ?_; rintro e w1 ⟨rfl, d1⟩; have c0 := K w1 d1; clear K)
    go_ret2
    exact ⟨rfl, Upd.same H.out ((Eff.refl _ _).drawn d1)⟩
end Go.Proofs.Ytcgncdcihglgdaa.T
