import Derived.Test.YtcgncdcihglgdaaTOps
namespace Go.Proofs.Ytcgncdcihglgdaa.T
open Go Go.RowKit Go.Proofs.YtcgncdcihglgdaaW.PrintWords Go.Proofs.YtcgncdcihglgdaaW.PrintLast Go.Proofs.YtcgncdcihglgdaaW.PrintMore Go.Proofs.Ytcgncdcihglgdaa.L
set_option linter.unusedVariables false
set_option linter.unusedSimpArgs false
theorem OneAt.upsR {b : Nat} {x : One} {W : World} {F : Nat → Prop} {v : Value} (h : (OneAt b x).on W F) (hc : W.cell? ⟨b, 1, none⟩ = some v) : kdU.R 22 W 0 (fun k => F k ∧ k ≠ b) v x.ups := by
  obtain ⟨vu, vs, c0, c1, c2, f, hu, hs⟩ := OneAt.cells h
  rw [c1] at hc
  injection hc with hc
  exact hc ▸ hu
theorem OneAt.savesR {b : Nat} {x : One} {W : World} {F : Nat → Prop} {v : Value} (h : (OneAt b x).on W F) (hc : W.cell? ⟨b, 2, none⟩ = some v) : kdS.R 58 W 0 (fun k => F k ∧ k ≠ b) v x.saves := by
  obtain ⟨vu, vs, c0, c1, c2, f, hu, hs⟩ := OneAt.cells h
  rw [c2] at hc
  injection hc with hc
  exact hc ▸ hs
set_option maxHeartbeats 4000000 in
set_option maxRecDepth 100000 in
theorem undo_calls (tb : Nat) (s : Tab) (W : World) (F : Nat → Prop) (tx : Int) (h : (TabAt tb s).on W F) (hm : ∀ p, getP s.l tx = some p → p.2.ups.length < 900000) :
    Calls Try.prog 13 #[.pointer (some ⟨tb, 0, none⟩), .int .i64 tx] W fun e w' => e = .returned (.bool (undoR s tx).1) ∧ Upd W F (TabAt tb (undoR s tx).2) w' := by
  have C := get_calls tb s W F tx h
  cases hg : getP s.l tx with
  | none =>
    have hr : undoR s tx = (false, s) := by simp [undoR, hg]
    rw [hr]
    rw [hg] at C
    dsimp only [ptrOf, Option.map_none, Option.map_some] at C
    have H := Aside0.mk h
    clear h hg hm hr
    go_enter Try.func13, Try.ntmps13
    go_wp2_with (go_at_call 20; refine C.mono ?_; rintro e w1 ⟨rfl, d1⟩)
    go_ret
    exact ⟨rfl, Upd.same H.out ((Eff.refl _ _).drawn d1)⟩
  | some p =>
    obtain ⟨b, x⟩ := p
    rw [hg] at C
    dsimp only [ptrOf, Option.map_none, Option.map_some] at C
    have H := Aside0.mk (And.intro h hg)
    have hn := hm _ hg
    dsimp only at hn
    have K : ∀ w1, Drawn0 W w1 → ∃ F1 A c, (OneAt b x).on w1 F1 ∧ w1.cell? ⟨b, 1, none⟩ = some (.slice A x.ups.length c) ∧ w1.frozen? ⟨b, 1, none⟩ = false ∧ kdU.R 22 w1 0 (fun k => F1 k ∧ k ≠ b) (.slice A x.ups.length c) x.ups := by
      intro w1 d1
      obtain ⟨F1, h1, _⟩ := TabAt.has (HP.eff0 h ((Eff.refl _ _).drawn d1)) hg
      obtain ⟨vu, vs, c0, c1, c2, f, hu, hs⟩ := OneAt.cells h1
      obtain ⟨A, c, rfl⟩ := Kd.R_slice hu
      exact ⟨F1, A, c, h1, c1, f 1, hu⟩
    by_cases hz : x.ups = []
    · have hr : undoR s tx = (false, s) := by simp [undoR, hg, hz]
      rw [hr]
      clear h hg hm hr
      have K2 : ∀ w1, Drawn0 W w1 → ∃ A c, w1.cell? ⟨b, 1, none⟩ = some (.slice A 0 c) := by
        intro w1 d1
        obtain ⟨F1, A, c, _, c1, _⟩ := K w1 d1
        exact ⟨A, c, by rw [c1, hz]; rfl⟩
      clear K hz hn
      go_enter Try.func13, Try.ntmps13
      go_wp2_with (go_at_call 20; refine C.mono ?_; rintro e w1 ⟨rfl, d1⟩; obtain ⟨A, c, c1⟩ := K2 w1 d1; clear K2)
      go_ret
      exact ⟨rfl, Upd.same H.out.1 ((Eff.refl _ _).drawn d1)⟩
    · have hr : undoR s tx = (true, { s with l := setP s.l tx { x with ups := x.ups.dropLast } }) := by simp [undoR, hg, hz]
      rw [hr]
      clear h hg hm hr
      obtain ⟨n, hnn⟩ : ∃ n, x.ups.length = n + 1 := ⟨x.ups.length - 1, by have := List.length_pos_iff.2 hz; omega⟩
      rw [hnn] at K hn
      have p1 : (((n + 1 : Nat) : Int) == 0) = false := beq_eq_false_iff_ne.2 (by omega)
      have p3 : (((n + 1 : Nat) : Int) - 1) = (n : Int) := by omega
      have B : n < 900000 := by omega
      have N := Aside0.mk hnn
      clear hz hnn
      go_enter Try.func13, Try.ntmps13
      go_wp2_with (go_at_call 20; refine C.mono ?_; rintro e w1 ⟨rfl, d1⟩; obtain ⟨F1, A, c, h1, c1, f1, hu⟩ := K w1 d1; have hcap := (Kd.R_reads' hu).2.1; have A1 := Aside0.mk h1; have A2 := Aside0.mk hu; clear K h1 hu)
      go_region
      all_goals go_wp2
      go_ret
      refine ⟨rfl, Upd.of ((Eff.refl _ _).drawn d1) ?_⟩
      refine (TabAt.one (HP.eff0 H.out.1 ((Eff.refl _ _).drawn d1)) H.out.2 (fun F2 h2 => ?_)).after ((Eff.refl _ _).drew)
      have hu := Kd.R_take (OneAt.upsR h2 c1) (m := n) (by rw [N.out]; omega)
      rw [List.dropLast_eq_take, N.out]
      exact OneAt.setUps h2 c1 (Eff.refl _ _) hu (fun k hk => .inl hk)
end Go.Proofs.Ytcgncdcihglgdaa.T
