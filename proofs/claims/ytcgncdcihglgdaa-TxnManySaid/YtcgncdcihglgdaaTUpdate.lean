import Derived.Test.YtcgncdcihglgdaaTSave
import Derived.Test.YtcgncdcihglgdaaTClone
namespace Go.Proofs.Ytcgncdcihglgdaa.T
open Go Go.RowKit Go.Proofs.YtcgncdcihglgdaaW.PrintWords Go.Proofs.YtcgncdcihglgdaaW.PrintLast Go.Proofs.YtcgncdcihglgdaaW.PrintMore Go.Proofs.Ytcgncdcihglgdaa.L
set_option linter.unusedVariables false
set_option linter.unusedSimpArgs false
theorem kdU_mk {w : World} {base : Nat} {ok : Nat → Prop} {v : Value} {x : List Int} (h : Kd.R (Kd.int .i64) 3 w base ok v x) : kdU.M w base ok x [v] := ⟨v, rfl, h⟩
set_option maxHeartbeats 4000000 in
set_option maxRecDepth 100000 in
theorem update_calls (tb : Nat) (s : Tab) (W : World) (F : Nat → Prop) (tx : Int) (h : (TabAt tb s).on W F) (A : Option Addr) (c : Nat) (l : List Int) (hr : Kd.C (Kd.int .i64) W A l.length l) (hl : l.length < 900000) (hm : ∀ p, getP s.l tx = some p → p.2.ups.length < 900000) :
    Calls Try.prog 12 #[.pointer (some ⟨tb, 0, none⟩), .int .i64 tx, .slice A l.length c] W fun e w' => e = .returned (.bool (updR s tx l).1) ∧ Upd W F (TabAt tb (updR s tx l).2) w' := by
  have C := get_calls tb s W F tx h
  cases hg : getP s.l tx with
  | none =>
    have hr : updR s tx l = (false, s) := by simp [updR, hg]
    rw [hr]
    rw [hg] at C
    dsimp only [ptrOf, Option.map_none, Option.map_some] at C
    have H := Aside0.mk h
    clear h hg hm hr
    go_enter Try.func12, Try.ntmps12
    go_wp2_with (go_at_call 20; refine C.mono ?_; rintro e w1 ⟨rfl, d1⟩)
    go_ret
    exact ⟨rfl, Upd.same H.out ((Eff.refl _ _).drawn d1)⟩
  | some p =>
    obtain ⟨b, x⟩ := p
    rw [hg] at C
    dsimp only [ptrOf, Option.map_none, Option.map_some] at C
    have hu := hm _ hg
    dsimp only at hu
    have hR : updR s tx l = (true, { s with l := setP s.l tx { x with ups := x.ups ++ [l] } }) := by simp [updR, hg]
    rw [hR]
    have H := Aside0.mk hr
    have K : ∀ w1, Drawn0 W w1 → ∃ F1 A' c', Aside0 ((OneAt b x).on w1 F1 ∧ ∀ (x' : One) (W' : World), Upd w1 F1 (OneAt b x') W' → Upd w1 F (TabAt tb { s with l := setP s.l tx x' }) W') ∧ w1.cell? ⟨b, 1, none⟩ = some (.slice A' x.ups.length c') ∧ w1.frozen? ⟨b, 1, none⟩ = false := by
      intro w1 d1
      obtain ⟨F1, h1, u1⟩ := TabAt.focus (HP.eff0 h ((Eff.refl _ _).drawn d1)) hg
      obtain ⟨vu, vs, c0, c1, c2, f, hu, hs⟩ := OneAt.cells h1
      obtain ⟨A', c', rfl⟩ := Kd.R_slice hu
      exact ⟨F1, A', c', Aside0.mk ⟨h1, u1⟩, c1, f 1⟩
    clear h hg hm hR hr
    go_enter Try.func12, Try.ntmps12
    go_wp2_with (first | (go_at_call 20; refine C.mono ?_; rintro e w1 ⟨rfl, d1⟩; obtain ⟨F1, A', c', h1, c1, f1⟩ := K w1 d1; clear K; have hlt : b < w1.heap.size := World.block_lt_of_cell? w1 _ c1; have hs := OneAt.upsR h1.out.1 c1; have hne : some b ≠ (Value.slice A' x.ups.length c').ownBlock := fun e => (hs.1 b e.symm).2 rfl) | fail)
    have H2 : Kd.C (Kd.int .i64) w1 A l.length l := by
      obtain ⟨n, rfl⟩ := d1
      exact Kd.C_drewN H.out n
    have CC : Calls Try.prog 21 #[.slice A l.length c] w1.drew fun e w' => ∃ v, e = .returned v ∧ Aside0 (Kd.R (Kd.int .i64) 3 w' w1.heap.size (fun _ => True) v l) ∧ Aside0 (Below w1.heap.size w1 w') ∧ w'.cell? ⟨b, 1, none⟩ = some (.slice A' x.ups.length c') ∧ w'.frozen? ⟨b, 1, none⟩ = false ∧ Aside0 (kdU.R 22 w' 0 (fun k => (F1 k ∧ k ≠ b) ∨ w1.heap.size ≤ k) (.slice A' x.ups.length c') x.ups) := by
      refine (clone_calls w1.drew A c l (Kd.C_drew H2) hl).mono fun e w' ⟨v, he, hR, hB⟩ => ?_
      have hB1 : Below w1.heap.size w1 w' := ⟨hB.os, hB.tape, hB.output, hB.size, hB.block⟩
      exact ⟨v, he, Aside0.mk hR, Aside0.mk hB1, pw_cell_below hB1 c1, ((hB1.frozen hlt).trans f1), Aside0.mk (Kd.R_mono (Kd.R_below hs hB1) (fun k hk => .inl hk))⟩
    have Hs := Aside0.mk hs
    clear hs H2
    have hlo : ∀ k, (Value.slice A' x.ups.length c').ownBlock = some k → k < w1.heap.size := Kd.R_lt Hs.out
    have Hlo := Aside0.mk hlo
    clear hlo
    go_region_law (first | (refine Kd.R_append_step kdU (w0 := w1) 0 rfl (.tmp 17) (.tmp 20) 35 22 (.slice none 0 0) 24 rfl rfl rfl rfl (by decide) (by decide) (.slice A' x.ups.length c') x.ups l [.slice A3 l.length c3] (fun k => (F1 k ∧ k ≠ b) ∨ w1.heap.size ≤ k) (fun k => w1.heap.size ≤ k) rfl rfl (kdU_mk (Kd.R_lower (Kd.R_mono (Kd.R_bound R2.out) (fun k hk => hk.2.1)) (Nat.zero_le _))) (fun k hk => ⟨.inr hk, fun e => by have := Hlo.out k e.symm; omega⟩) (fun _ hk => .inr (Nat.le_trans B2.out.size hk)) U2.out (B2.out.mono (Nat.zero_le _)) (Nat.zero_le _) (by omega) ?_; intro v1 w3 r1 b1 g1 o1; obtain ⟨A4, c4, rfl⟩ := Kd.R_slice r1; have R3 := Aside0.mk r1; have G3 := Aside0.mk g1; have cc3 := (g1.cell_far ⟨b, 1, none⟩ (Nat.lt_of_lt_of_le hlt B2.out.size) hne).trans c2; have ff3 := (g1.frozen_far ⟨b, 1, none⟩ (Nat.lt_of_lt_of_le hlt B2.out.size) hne).trans f2; clear r1 g1 o1 b1) | (go_simp; go_at_call 21; refine CC.mono ?_; rintro e w2 ⟨v, rfl, R2, B2, c2, f2, U2⟩; obtain ⟨A3, c3, rfl⟩ := Kd.R_slice R2.out; have hlt2 : b < w2.heap.size := Nat.lt_of_lt_of_le hlt B2.out.size))
    all_goals go_wp2
    all_goals go_ret
    all_goals
      refine ⟨rfl, Upd.of ((Eff.refl _ _).drawn d1) ((h1.out.2 _ _ ?_).after (by first | exact Eff.refl _ _ | exact (Eff.refl _ _).drew | exact (Eff.refl _ _).drewN _))⟩
      have R4 := R3.out
      rw [List.length_append, List.length_singleton] at R4
      refine OneAt.setUps h1.out.1 c1 (Eff.trans (Eff.of_below B2.out) (Eff.of_grown G3.out (fun i hi => hi)) (fun i hi => .inl hi)) R4 (fun k hk => hk)
end Go.Proofs.Ytcgncdcihglgdaa.T
