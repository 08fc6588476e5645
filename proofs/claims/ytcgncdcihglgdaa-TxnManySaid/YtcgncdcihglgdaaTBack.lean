import Derived.Test.YtcgncdcihglgdaaTUpdate
namespace Go.Proofs.Ytcgncdcihglgdaa.T
open Go Go.RowKit Go.Proofs.YtcgncdcihglgdaaW.PrintWords Go.Proofs.YtcgncdcihglgdaaW.PrintLast Go.Proofs.YtcgncdcihglgdaaW.PrintMore Go.Proofs.Ytcgncdcihglgdaa.L
set_option linter.unusedVariables false
set_option linter.unusedSimpArgs false
theorem at_s {w : World} {A : Option Addr} {n : Nat} {xs : List (Int × Int)} (h : Kd.C kdS w A n xs) (i : Nat) (h1 : i < n) :
    ∃ ad, A = some ad ∧ w.cell? (ad.add (i * 2)) = some (.int .i64 (xs.getD i (0, 0)).1) := by
  obtain ⟨ad, c, e, _, hK, hc0⟩ := Kd.C_get h (0, 0) (i : Int) (by omega) (by omega)
  have hc : ∀ j u, c[j]? = some u → w.cell? (ad.add (i * 2 + j)) = some u := hc0
  obtain ⟨_, _, rfl, rfl, rfl⟩ := hK
  exact ⟨ad, e, hc 0 _ rfl⟩
set_option maxHeartbeats 4000000 in
set_option maxRecDepth 100000 in
theorem back_calls (tb : Nat) (s : Tab) (W : World) (F : Nat → Prop) (tx k : Int) (h : (TabAt tb s).on W F) (hm : ∀ p, getP s.l tx = some p → p.2.saves.length ≤ 8) :
    Calls Try.prog 11 #[.pointer (some ⟨tb, 0, none⟩), .int .i64 tx, .int .i64 k] W fun e w' => e = .returned (.tuple #[.int .i64 (backR s tx k).1.1, .int .i64 (backR s tx k).1.2]) ∧ Upd W F (TabAt tb (backR s tx k).2) w' := by
  have C := get_calls tb s W F tx h
  cases hg : getP s.l tx with
  | none =>
    have hr : backR s tx k = ((0, 9), s) := by simp [backR, hg]
    rw [hr]
    rw [hg] at C
    dsimp only [ptrOf, Option.map_none, Option.map_some] at C
    have H := Aside0.mk h
    clear h hg hm hr
    go_enter Try.func11, Try.ntmps11
    go_wp2_with (go_at_call 20; refine C.mono ?_; rintro e w1 ⟨rfl, d1⟩)
    go_ret2
    exact ⟨rfl, Upd.same H.out ((Eff.refl _ _).drawn d1)⟩
  | some p =>
    obtain ⟨b, x⟩ := p
    rw [hg] at C
    dsimp only [ptrOf, Option.map_none, Option.map_some] at C
    have hu := hm _ hg
    dsimp only at hu
    have H := Aside0.mk h
    have K : ∀ w1, Drawn0 W w1 → ∃ F1 A c, Aside0 ((OneAt b x).on w1 F1 ∧ ∀ (x' : One) (W' : World), Upd w1 F1 (OneAt b x') W' → Upd w1 F (TabAt tb { s with l := setP s.l tx x' }) W') ∧ w1.cell? ⟨b, 2, none⟩ = some (.slice A x.saves.length c) ∧ w1.frozen? ⟨b, 2, none⟩ = false := by
      intro w1 d1
      obtain ⟨F1, h1, u1⟩ := TabAt.focus (HP.eff0 h ((Eff.refl _ _).drawn d1)) hg
      obtain ⟨vu, vs, c0, c1, c2, f, hu, hs⟩ := OneAt.cells h1
      obtain ⟨A, c, rfl⟩ := Kd.R_slice hs
      exact ⟨F1, A, c, Aside0.mk ⟨h1, u1⟩, c2, f 2⟩
    by_cases hz : k < 0 ∨ (x.saves.length : Int) ≤ k
    · have hr : backR s tx k = ((0, 1), s) := by simp only [backR, hg]; rw [if_pos hz]
      rw [hr]
      clear h hg hm hr
      by_cases hk : k < 0
      · have p1 : (k < 0) = True := eq_true hk
        clear hz hk
        go_enter Try.func11, Try.ntmps11
        go_wp2_with (go_at_call 20; refine C.mono ?_; rintro e w1 ⟨rfl, d1⟩)
        go_ret2
        exact ⟨rfl, Upd.same H.out ((Eff.refl _ _).drawn d1)⟩
      · have p1 : (k < 0) = False := eq_false hk
        have p2 : ((x.saves.length : Int) ≤ k) = True := eq_true (by omega)
        clear hz hk
        go_enter Try.func11, Try.ntmps11
        go_wp2_with (go_at_call 20; refine C.mono ?_; rintro e w1 ⟨rfl, d1⟩; obtain ⟨F1, A, c, h1, c2, f2⟩ := K w1 d1; clear K)
        go_ret2
        exact ⟨rfl, Upd.same H.out ((Eff.refl _ _).drawn d1)⟩
    · obtain ⟨n, rfl⟩ : ∃ n : Nat, k = n := ⟨k.toNat, by omega⟩
      have hr : backR s tx n = (((x.saves.getD n (0, 0)).1, 0), { s with l := setP s.l tx { x with saves := x.saves.take (n + 1) } }) := by
        simp only [backR, hg]
        rw [if_neg hz]
        rfl
      rw [hr]
      have hn : n < x.saves.length := by omega
      have p1 : ((n : Int) < 0) = False := eq_false (by omega)
      have p2 : ((x.saves.length : Int) ≤ (n : Int)) = False := eq_false (by omega)
      have B : n < 8 := by omega
      have K2 : ∀ w1, Drawn0 W w1 → ∃ F1 ad c, Aside0 ((OneAt b x).on w1 F1 ∧ ∀ (x' : One) (W' : World), Upd w1 F1 (OneAt b x') W' → Upd w1 F (TabAt tb { s with l := setP s.l tx x' }) W') ∧ w1.cell? ⟨b, 2, none⟩ = some (.slice (some ad) x.saves.length c) ∧ w1.frozen? ⟨b, 2, none⟩ = false ∧ x.saves.length ≤ c ∧
          (w1.setCell ⟨b, 2, none⟩ (.slice (some ad) (n + 1) c)).cell? (ad.add (n * 2)) = some (.int .i64 (x.saves.getD n (0, 0)).1) := by
        intro w1 d1
        obtain ⟨F1, A, c, h1, c2, f2⟩ := K w1 d1
        have hs := OneAt.savesR h1.out.1 c2
        have hs1 := Kd.R_far (p := ⟨b, 2, none⟩) hs (fun k hk => hk.2) (.slice A (n + 1) c)
        obtain ⟨ad, rfl, hc⟩ := at_s (Kd.R_reads' hs1).2.2 n hn
        exact ⟨F1, ad, c, h1, c2, f2, (Kd.R_reads' hs).2.1, hc⟩
      have hsv := Aside0.mk hn
      generalize (x.saves.getD n (0, 0)).1 = y at *
      clear h hg hm hr K hz
      go_enter Try.func11, Try.ntmps11
      go_wp2_with (go_at_call 20; refine C.mono ?_; rintro e w1 ⟨rfl, d1⟩; obtain ⟨F1, ad, c, h1, c2, f2, hcap, hy⟩ := K2 w1 d1; clear K2)
      go_ret2
      refine ⟨rfl, Upd.of ((Eff.refl _ _).drawn d1) (h1.out.2 _ _ ?_)⟩
      exact OneAt.setSaves h1.out.1 c2 (Eff.refl _ _) (Kd.R_take (OneAt.savesR h1.out.1 c2) (by have := hsv.out; omega)) (fun k hk => .inl hk)
end Go.Proofs.Ytcgncdcihglgdaa.T
