import Derived.Test.YtbfpmgbfkipiaaaMPut
namespace Go.Proofs.Ytbfpmgbfkipiaaa.MD
open Go Go.RowKit Go.Proofs.YtbfpmgbfkipiaaaW.PrintWords Go.Proofs.YtbfpmgbfkipiaaaW.PrintLast Go.Proofs.YtbfpmgbfkipiaaaW.PrintMore Go.Proofs.Ytbfpmgbfkipiaaa.L
set_option linter.unusedVariables false
set_option linter.unusedSimpArgs false
def saveR (s : Mod) (tx : Int) : (Int × Bool) × Mod := match getP s.t tx with
  | some p => (((p.2.saves.length : Int), true), { s with t := setP s.t tx { p.2 with saves := p.2.saves ++ [(p.2.l.length : Int)] } })
  | none => ((0, false), s)
set_option maxHeartbeats 1600000 in
set_option maxRecDepth 100000 in
theorem save_calls (b0 : Nat) (s : Mod) (W : World) (F : Nat → Prop) (tx : Int) (h : (ModAt b0 s).on W F) (hm : ∀ p, getP s.t tx = some p → p.2.l.length < 900000 ∧ p.2.saves.length < 900000) :
    Calls Try.prog 16 #[.pointer (some ⟨b0, 0, none⟩), .int .i64 tx] W fun e w' => e = .returned (.tuple #[.int .i64 (saveR s tx).1.1, .bool (saveR s tx).1.2]) ∧ Upd W F (ModAt b0 (saveR s tx).2) w' := by
  have C := get_calls b0 s W F tx h
  cases hg : getP s.t tx with
  | none =>
    have hr : saveR s tx = ((0, false), s) := by simp [saveR, hg]
    rw [hr]
    rw [hg] at C
    dsimp only [ptrOf, Option.map_none] at C
    have H := Aside0.mk h
    clear h hg hm hr
    go_enter Try.func16, Try.ntmps16
    go_wp2_with (go_at_call 21; refine C.mono ?_; rintro e w1 ⟨rfl, rfl⟩)
    go_ret2
    exact ⟨rfl, Upd.same H.out (Eff.refl _ _)⟩
  | some p =>
    obtain ⟨b, x⟩ := p
    obtain ⟨hn, hn2⟩ := hm _ hg
    dsimp only at hn hn2
    have hr : saveR s tx = (((x.saves.length : Int), true), { s with t := setP s.t tx { x with saves := x.saves ++ [(x.l.length : Int)] } }) := by simp [saveR, hg]
    rw [hr]
    rw [hg] at C
    dsimp only [ptrOf, Option.map_some] at C
    obtain ⟨F1, h1, u1⟩ := ModAt.focus h hg
    obtain ⟨vl, vs, d0, d1, f, hl, hs⟩ := OneAt.cells h1
    obtain ⟨A, c, rfl⟩ := Kd.R_slice hl
    obtain ⟨A', c', rfl⟩ := Kd.R_slice hs
    have f1 := f 1
    have H1 := Aside0.mk (And.intro h1 u1)
    have hle : (x.saves ++ [(x.l.length : Int)]).length = x.saves.length + 1 := by simp
    have hlt : b < W.heap.size := World.block_lt_of_cell? _ _ d0
    have hne : some b ≠ (Value.slice A' x.saves.length c').ownBlock := fun e => (hs.1 b e.symm).2 rfl
    have hs2 : kdI.R 3 W 0 (fun k => (F1 k ∧ k ≠ b) ∨ W.heap.size ≤ k) (.slice A' x.saves.length c') x.saves := Kd.R_mono hs (fun k hk => .inl hk)
    clear h hg hm hr h1 u1 hl hs f
    go_enter Try.func16, Try.ntmps16
    go_wp2_with (go_at_call 21; refine C.mono ?_; rintro e w1 ⟨rfl, rfl⟩; clear C)
    go_region_law (refine Kd.R_append_step kdI (W := World.drew _) (w0 := W) 0 rfl (.tmp 16) (.tmp 22) 53 3 (.int .i64 0) 8 rfl rfl rfl rfl (by decide) (by decide) (.slice A' x.saves.length c') x.saves (x.l.length : Int) [.int .i64 (x.l.length : Int)] (fun k => (F1 k ∧ k ≠ b) ∨ W.heap.size ≤ k) (fun _ => False) rfl rfl rfl (fun _ hk => hk.elim) (fun _ hk => .inr hk) (Kd.R_drew hs2) (below_drew (Below.refl _ _)) (Nat.zero_le _) (by omega) ?_; intro v1 w2 r1 b1 g1 o1; obtain ⟨A2, c3, rfl⟩ := Kd.R_slice r1; have d1' : w2.cell? ⟨b, 1, none⟩ = some (.slice A' x.saves.length c') := (g1.cell_far ⟨b, 1, none⟩ hlt hne).trans d1; have f1' : w2.frozen? ⟨b, 1, none⟩ = false := (g1.frozen_far ⟨b, 1, none⟩ hlt hne).trans f1; rw [hle] at r1)
    all_goals go_wp2
    all_goals go_ret2
    all_goals
      refine ⟨by first | rfl | (congr 1; omega) | (simp; done), ((H1.out.2 _ _ ?_).after (by first | exact Eff.refl _ _ | exact (Eff.refl _ _).drew | exact (Eff.refl _ _).drewN _))⟩
      exact OneAt.setSaves H1.out.1 d1 (((Eff.refl _ W).drew).trans (Eff.of_grown g1 (fun i hi => hi)) (fun i hi => .inl hi)) r1 (fun k hk => hk)
end Go.Proofs.Ytbfpmgbfkipiaaa.MD
