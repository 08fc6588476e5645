import Derived.Test.YtcgncdcihglgdaaTBegin
namespace Go.Proofs.Ytcgncdcihglgdaa.T
open Go Go.RowKit Go.Proofs.YtcgncdcihglgdaaW.PrintWords Go.Proofs.YtcgncdcihglgdaaW.PrintLast Go.Proofs.YtcgncdcihglgdaaW.PrintMore Go.Proofs.Ytcgncdcihglgdaa.L
set_option linter.unusedVariables false
set_option linter.unusedSimpArgs false
theorem kdS_mk (w : World) (base : Nat) (ok : Nat → Prop) (x : Int × Int) : kdS.M w base ok x [.int .i64 x.1, .int .i64 x.2] := ⟨[.int .i64 x.1], [.int .i64 x.2], rfl, rfl, rfl⟩
set_option maxHeartbeats 4000000 in
set_option maxRecDepth 100000 in
theorem save_calls (tb : Nat) (s : Tab) (W : World) (F : Nat → Prop) (tx : Int) (h : (TabAt tb s).on W F) (hm : ∀ p, getP s.l tx = some p → p.2.ups.length < 900000) :
    Calls Try.prog 10 #[.pointer (some ⟨tb, 0, none⟩), .int .i64 tx] W fun e w' => e = .returned (.tuple #[.int .i64 (saveR s tx).1.1, .int .i64 (saveR s tx).1.2]) ∧ Upd W F (TabAt tb (saveR s tx).2) w' := by
  have C := get_calls tb s W F tx h
  cases hg : getP s.l tx with
  | none =>
    have hr : saveR s tx = ((0, 9), s) := by simp [saveR, hg]
    rw [hr]
    rw [hg] at C
    dsimp only [ptrOf, Option.map_none, Option.map_some] at C
    have H := Aside0.mk h
    clear h hg hm hr
    go_enter Try.func10, Try.ntmps10
    go_wp2_with (go_at_call 20; refine C.mono ?_; rintro e w1 ⟨rfl, d1⟩)
    go_ret2
    exact ⟨rfl, Upd.same H.out ((Eff.refl _ _).drawn d1)⟩
  | some p =>
    obtain ⟨b, x⟩ := p
    rw [hg] at C
    dsimp only [ptrOf, Option.map_none, Option.map_some] at C
    have hu := hm _ hg
    dsimp only at hu
    have H := Aside0.mk (And.intro h hg)
    have K : ∀ w1, Drawn0 W w1 → ∃ F1 A c A' c', Aside0 ((OneAt b x).on w1 F1 ∧ ∀ (x' : One) (W' : World), Upd w1 F1 (OneAt b x') W' → Upd w1 F (TabAt tb { s with l := setP s.l tx x' }) W') ∧ w1.cell? ⟨b, 0, none⟩ = some (.int .i64 x.last) ∧ w1.cell? ⟨b, 1, none⟩ = some (.slice A' x.ups.length c') ∧ w1.cell? ⟨b, 2, none⟩ = some (.slice A x.saves.length c) ∧ w1.frozen? ⟨b, 2, none⟩ = false := by
      intro w1 d1
      obtain ⟨F1, h1, u1⟩ := TabAt.focus (HP.eff0 h ((Eff.refl _ _).drawn d1)) hg
      obtain ⟨vu, vs, c0, c1, c2, f, hu, hs⟩ := OneAt.cells h1
      obtain ⟨A, c, rfl⟩ := Kd.R_slice hs
      obtain ⟨A', c', rfl⟩ := Kd.R_slice hu
      exact ⟨F1, A, c, A', c', Aside0.mk ⟨h1, u1⟩, c0, c1, c2, f 2⟩
    by_cases hz : 8 ≤ x.saves.length
    · have hr : saveR s tx = ((0, 8), s) := by simp [saveR, hg, hz]
      rw [hr]
      have p1 : (8 ≤ (x.saves.length : Int)) = True := eq_true (by omega)
      clear h hg hm hr
      go_enter Try.func10, Try.ntmps10
      go_wp2_with (go_at_call 20; refine C.mono ?_; rintro e w1 ⟨rfl, d1⟩; obtain ⟨F1, A, c, A', c', h1, c0, c1, c2, f2⟩ := K w1 d1; clear K h1)
      go_ret2
      exact ⟨rfl, Upd.same H.out.1 ((Eff.refl _ _).drawn d1)⟩
    · have hr : saveR s tx = (((x.saves.length : Int), 0), { s with l := setP s.l tx { x with saves := x.saves ++ [(x.last, (x.ups.length : Int))] } }) := by simp [saveR, hg, hz]
      rw [hr]
      have p1 : (8 ≤ (x.saves.length : Int)) = False := eq_false (by omega)
      have hle : (x.saves ++ [(x.last, (x.ups.length : Int))]).length = x.saves.length + 1 := by simp
      have B : x.saves.length < 8 := by omega
      clear h hg hm hr
      go_enter Try.func10, Try.ntmps10
      go_wp2_with (go_at_call 20; refine C.mono ?_; rintro e w1 ⟨rfl, d1⟩; obtain ⟨F1, A, c, A', c', h1, c0, c1, c2, f2⟩ := K w1 d1; clear K; have hlt : b < w1.heap.size := World.block_lt_of_cell? w1 _ c0; have hs := OneAt.savesR h1.out.1 c2; have hne : some b ≠ (Value.slice A x.saves.length c).ownBlock := fun e => (hs.1 b e.symm).2 rfl)
      have hs2 : kdS.R 58 w1 0 (fun k => (F1 k ∧ k ≠ b) ∨ w1.heap.size ≤ k) (.slice A x.saves.length c) x.saves := Kd.R_mono hs (fun k hk => .inl hk)
      clear hs
      go_region_law (refine Kd.R_append_step kdS (W := World.drew _) (w0 := w1) 0 rfl (.tmp 24) (.tmp 35) 53 58 (.agg #[.int .i64 0, .int .i64 0]) 16 rfl rfl rfl rfl (by decide) (by decide) (.slice A x.saves.length c) x.saves (x.last, (x.ups.length : Int)) [.int .i64 x.last, .int .i64 (x.ups.length : Int)] (fun k => (F1 k ∧ k ≠ b) ∨ w1.heap.size ≤ k) (fun _ => False) rfl rfl (kdS_mk _ _ _ _) (fun _ hk => hk.elim) (fun _ hk => .inr hk) (Kd.R_drew hs2) (below_drew (Below.refl _ _)) (Nat.zero_le _) (by omega) ?_; intro v1 w2 r1 b1 g1 o1; obtain ⟨A2, c3, rfl⟩ := Kd.R_slice r1; have c2' : w2.cell? ⟨b, 2, none⟩ = some (.slice A x.saves.length c) := (g1.cell_far ⟨b, 2, none⟩ hlt hne).trans c2; have f2' : w2.frozen? ⟨b, 2, none⟩ = false := (g1.frozen_far ⟨b, 2, none⟩ hlt hne).trans f2; rw [hle] at r1)
      all_goals go_wp2
      all_goals go_ret2
      all_goals
        refine ⟨rfl, Upd.of ((Eff.refl _ _).drawn d1) ((h1.out.2 _ _ ?_).after (by first | exact Eff.refl _ _ | exact (Eff.refl _ _).drew | exact (Eff.refl _ _).drewN _))⟩
        refine OneAt.setSaves h1.out.1 c2 (((Eff.refl _ w1).drew).trans (Eff.of_grown g1 (fun i hi => hi)) (fun i hi => .inl hi)) r1 (fun k hk => hk)
end Go.Proofs.Ytcgncdcihglgdaa.T
