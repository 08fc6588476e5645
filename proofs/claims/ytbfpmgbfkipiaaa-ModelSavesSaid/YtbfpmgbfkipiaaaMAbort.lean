import Derived.Test.YtbfpmgbfkipiaaaMBack
namespace Go.Proofs.Ytbfpmgbfkipiaaa.MD
open Go Go.RowKit Go.Proofs.YtbfpmgbfkipiaaaW.PrintWords Go.Proofs.YtbfpmgbfkipiaaaW.PrintLast Go.Proofs.YtbfpmgbfkipiaaaW.PrintMore Go.Proofs.Ytbfpmgbfkipiaaa.L
set_option linter.unusedVariables false
set_option linter.unusedSimpArgs false
def abortR (s : Mod) (tx : Int) : Bool × Mod := match getP s.t tx with
  | some _ => (true, { s with t := delP s.t tx })
  | none => (false, s)
theorem ModAt.end_ {b0 : Nat} {s : Mod} {W : World} {F : Nat → Prop} {tx : Int} {b : Nat} {x : One} (h : (ModAt b0 s).on W F) (hg : getP s.t tx = some (b, x)) (ty : TypeId) :
    ∃ m w', s.tb = some m ∧ (Builtin.delete_ #[25, 3] ty #[.map (some m), .int .i64 tx]).run Try.prog W = .ok (.tuple #[]) w' ∧ Upd W F (ModAt b0 { s with t := delP s.t tx }) w' := by
  obtain ⟨mm, ml, tb, t⟩ := s
  obtain ⟨F2, h2, k2, u2⟩ := Sep.focusR h
  obtain ⟨F3, h3, k3, u3⟩ := Sep.focusR h2
  dsimp only at h3 u2 u3 hg ⊢
  cases tb with
  | none =>
    obtain ⟨F5, F4, h5, _⟩ := h3
    have h30 : ptrs t = [] := h5.1
    have hl : t = [] := by
      cases t with
      | nil => rfl
      | cons p l => cases h30
    rw [hl] at hg
    cases hg
  | some m =>
    obtain ⟨w', hrun, U⟩ := PMap.drop (P := Try.prog) h3 hg Try.underlying25 Try.underlying3 ty
    exact ⟨m, w', rfl, hrun, u2 _ _ (u3 _ _ U)⟩
set_option maxHeartbeats 1600000 in
set_option maxRecDepth 100000 in
theorem abort_calls (b0 : Nat) (s : Mod) (W : World) (F : Nat → Prop) (tx : Int) (h : (ModAt b0 s).on W F) :
    Calls Try.prog 19 #[.pointer (some ⟨b0, 0, none⟩), .int .i64 tx] W fun e w' => e = .returned (.bool (abortR s tx).1) ∧ Upd W F (ModAt b0 (abortR s tx).2) w' := by
  have C := get_calls b0 s W F tx h
  cases hg : getP s.t tx with
  | none =>
    have hr : abortR s tx = (false, s) := by simp [abortR, hg]
    rw [hg] at C
    rw [hr]
    dsimp only [ptrOf, Option.map_none] at C
    have H := Aside0.mk h
    clear h hg hr
    go_enter Try.func19, Try.ntmps19
    go_wp2_with (go_at_call 21; refine C.mono ?_; rintro e w1 ⟨rfl, rfl⟩)
    go_ret
    exact ⟨rfl, Upd.same H.out (Eff.refl _ _)⟩
  | some p =>
    obtain ⟨b, x⟩ := p
    have hr : abortR s tx = (true, { s with t := delP s.t tx }) := by simp [abortR, hg]
    rw [hg] at C
    rw [hr]
    dsimp only [ptrOf, Option.map_some] at C
    obtain ⟨m, w2, hm, hrun, U⟩ := ModAt.end_ h hg 0
    have hd : ∀ ty, (Builtin.delete_ #[25, 3] ty #[.map (some m), .int .i64 tx]).run Try.prog W = .ok (.tuple #[]) w2 := fun _ => hrun
    obtain ⟨c0, c1, f⟩ := ModAt.cells h
    rw [hm] at c1
    have AU := Aside0.mk U
    clear h hg hr hm hrun U f c0
    go_enter Try.func19, Try.ntmps19
    go_wp2_with (go_at_call 21; refine C.mono ?_; rintro e w1 ⟨rfl, rfl⟩)
    go_ret
    exact ⟨rfl, AU.out⟩
end Go.Proofs.Ytbfpmgbfkipiaaa.MD
