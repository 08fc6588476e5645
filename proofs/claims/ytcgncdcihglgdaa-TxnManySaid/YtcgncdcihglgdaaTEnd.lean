import Derived.Test.YtcgncdcihglgdaaTLast
namespace Go.Proofs.Ytcgncdcihglgdaa.T
open Go Go.RowKit Go.Proofs.YtcgncdcihglgdaaW.PrintWords Go.Proofs.YtcgncdcihglgdaaW.PrintLast Go.Proofs.YtcgncdcihglgdaaW.PrintMore Go.Proofs.Ytcgncdcihglgdaa.L
set_option linter.unusedVariables false
set_option linter.unusedSimpArgs false
theorem TabAt.end_ {tb : Nat} {s : Tab} {W : World} {F : Nat → Prop} {tx : Int} {b : Nat} {x : One} (h : (TabAt tb s).on W F) (hg : getP s.l tx = some (b, x)) (ty : TypeId) :
    ∃ m w', s.mb = some m ∧ (Builtin.delete_ #[25, 3] ty #[.map (some m), .int .i64 tx]).run Try.prog W = .ok (.tuple #[]) w' ∧ Upd W F (TabAt tb { s with l := delP s.l tx }) w' := by
  obtain ⟨mb, l, nx⟩ := s
  obtain ⟨F2, h2, k2, u2⟩ := Sep.focusR h
  dsimp only at h2 u2 hg ⊢
  cases mb with
  | none =>
    obtain ⟨F3, F4, h3, _⟩ := h2
    have h30 : ptrs l = [] := h3.1
    have hl : l = [] := by
      cases l with
      | nil => rfl
      | cons p l => cases h30
    rw [hl] at hg
    cases hg
  | some m =>
    obtain ⟨w', hrun, U⟩ := PMap.drop (P := Try.prog) h2 hg Try.underlying25 Try.underlying3 ty
    exact ⟨m, w', rfl, hrun, u2 _ _ U⟩
set_option maxHeartbeats 4000000 in
set_option maxRecDepth 100000 in
theorem end_calls (tb : Nat) (s : Tab) (W : World) (F : Nat → Prop) (tx : Int) (h : (TabAt tb s).on W F) :
    Calls Try.prog 17 #[.pointer (some ⟨tb, 0, none⟩), .int .i64 tx] W fun e w' => e = .returned (.bool (endR s tx).1) ∧ Upd W F (TabAt tb (endR s tx).2) w' := by
  have C := get_calls tb s W F tx h
  cases hg : getP s.l tx with
  | none =>
    have hr : endR s tx = (false, s) := by simp [endR, hg]
    rw [hg] at C
    rw [hr]
    dsimp only [ptrOf, Option.map_none, Option.map_some] at C
    have H := Aside0.mk h
    clear h hg hr
    go_enter Try.func17, Try.ntmps17
    go_wp2_with (go_at_call 20; refine C.mono ?_; rintro e w1 ⟨rfl, d1⟩)
    go_ret
    exact ⟨rfl, Upd.same H.out ((Eff.refl _ _).drawn d1)⟩
  | some p =>
    obtain ⟨b, x⟩ := p
    have hr : endR s tx = (true, { s with l := delP s.l tx }) := by simp [endR, hg]
    rw [hg] at C
    rw [hr]
    dsimp only [ptrOf, Option.map_none, Option.map_some] at C
    obtain ⟨m, w0, hm, _⟩ := TabAt.end_ h hg 0
    have C2 : Calls Try.prog 20 #[.pointer (some ⟨tb, 0, none⟩), .int .i64 tx] W fun e w1 => e = .returned (.pointer (some ⟨b, 0, none⟩)) ∧ w1.cell? ⟨tb, 0, none⟩ = some (.map (some m)) ∧
        ∃ w2, (∀ ty, (Builtin.delete_ #[25, 3] ty #[.map (some m), .int .i64 tx]).run Try.prog w1 = .ok (.tuple #[]) w2) ∧ Aside0 (Upd W F (TabAt tb { s with l := delP s.l tx }) w2) := by
      refine C.mono ?_
      rintro e w1 ⟨rfl, d1⟩
      have h1 := HP.eff0 h ((Eff.refl _ _).drawn d1)
      obtain ⟨m', w2, hm', hrun, U⟩ := TabAt.end_ h1 hg 0
      obtain ⟨c0, _⟩ := TabAt.cells h1
      have hmm : some m = some m' := hm.symm.trans hm'
      injection hmm with hmm
      subst hmm
      rw [hm] at c0
      exact ⟨rfl, c0, w2, fun _ => hrun, Aside0.mk (Upd.of ((Eff.refl _ _).drawn d1) U)⟩
    clear h hg hr hm C
    go_enter Try.func17, Try.ntmps17
    go_wp2_with (go_at_call 20; refine C2.mono ?_; rintro e w1 ⟨rfl, c0, w2, hd, A1⟩)
    go_ret
    exact ⟨rfl, A1.out⟩
end Go.Proofs.Ytcgncdcihglgdaa.T
