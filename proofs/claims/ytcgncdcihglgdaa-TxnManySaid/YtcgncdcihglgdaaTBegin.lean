import Derived.Test.YtcgncdcihglgdaaTOps2
namespace Go.Proofs.Ytcgncdcihglgdaa.T
open Go Go.RowKit Go.Proofs.YtcgncdcihglgdaaW.PrintWords Go.Proofs.YtcgncdcihglgdaaW.PrintLast Go.Proofs.YtcgncdcihglgdaaW.PrintMore Go.Proofs.Ytcgncdcihglgdaa.L
set_option linter.unusedVariables false
set_option linter.unusedSimpArgs false
theorem OneAt.made (W : World) : (OneAt W.heap.size ⟨0, [], []⟩).on (W.alloc (.cells #[.int .i64 0, .slice none 0 0, .slice none 0 0] 55)) (fun k => k = W.heap.size) :=
  ⟨_, _, heap_alloc_new W _, rfl, by rintro k rfl; simp, Kd.R_nil _ _ _ _ _, Kd.R_nil _ _ _ _ _⟩
/-- One more: the worlds on the way, ahead of the walk. -/
theorem TabAt.begin_ {tb : Nat} {s : Tab} {W : World} {F : Nat → Prop} {m : Nat} (h : (TabAt tb s).on W F) (hm : s.mb = some m) (hg : getP s.l (s.next + 1) = none) (W1 : World) (e1 : Eff0 (W.setCell ⟨tb, 1, none⟩ (.int .i64 (s.next + 1))) W1) :
    ∃ w3, (Instr.mapUpdate 25 (.map (some m)) (.int .i64 (s.next + 1)) (.pointer (some ⟨W1.heap.size, 0, none⟩))).run Try.prog (W1.alloc (.cells #[.int .i64 0, .slice none 0 0, .slice none 0 0] 55)) = .ok () w3 ∧
      Upd W F (TabAt tb ⟨some m, s.l ++ [(s.next + 1, W1.heap.size, ⟨0, [], []⟩)], s.next + 1⟩) w3 ∧ w3.cell? ⟨tb, 1, none⟩ = some (.int .i64 (s.next + 1)) := by
  have U1 : Upd W F (TabAt tb ⟨some m, s.l, s.next + 1⟩) (W.setCell ⟨tb, 1, none⟩ (.int .i64 (s.next + 1))) := by
    unfold TabAt at h ⊢
    rw [hm] at h
    exact Upd.left h (fun F1 h1 => CellsAt.set h1 1 _)
  have U2 : Upd W F (Sep (TabAt tb ⟨some m, s.l, s.next + 1⟩) (OneAt W1.heap.size ⟨0, [], []⟩)) (W1.alloc (.cells #[.int .i64 0, .slice none 0 0, .slice none 0 0] 55)) :=
    (U1.after e1).trans (fun F1 h1 => Upd.new h1 ((Eff.refl _ _).alloc _) (OneAt.made W1) (by rintro k rfl; exact Nat.le_refl _))
  obtain ⟨F2, h2, e2, k2⟩ := U2
  have h3 := Sep.assoc h2
  obtain ⟨G1, G2, g1, g2, gd, gF⟩ := h3
  obtain ⟨w3, hrun, U3⟩ := PMap.insert (P := Try.prog) g2 hg Try.underlying25 Try.underlying3
  have U4 : Upd (W1.alloc (.cells #[.int .i64 0, .slice none 0 0, .slice none 0 0] 55)) F2 (TabAt tb ⟨some m, s.l ++ [(s.next + 1, W1.heap.size, ⟨0, [], []⟩)], s.next + 1⟩) w3 := by
    obtain ⟨G2', a, b, c⟩ := U3
    refine ⟨fun k => G1 k ∨ G2' k, ⟨G1, G2', HP.eff g1 b (fun k x y => gd k x y), a, fun k x y => ?_, fun _ => Iff.rfl⟩, b.mono (fun k hk => (gF k).2 (.inr hk)), fun k hk => ?_⟩
    · rcases c k y with h | h
      · exact gd k x h
      · have := HP.lt _ g1 x; omega
    · rcases hk with h | h
      · exact .inl ((gF k).2 (.inl h))
      · exact (c k h).imp (fun h => (gF k).2 (.inr h)) id
  have U5 : Upd W F (TabAt tb ⟨some m, s.l ++ [(s.next + 1, W1.heap.size, ⟨0, [], []⟩)], s.next + 1⟩) w3 := by
    obtain ⟨F4, h4, e4, k4⟩ := U4
    refine ⟨F4, h4, e2.trans e4 k2, fun k hk => ?_⟩
    rcases k4 k hk with h | h
    · exact k2 k h
    · exact .inr (Nat.le_trans e2.size h)
  refine ⟨w3, hrun, U5, ?_⟩
  obtain ⟨F5, h5, _⟩ := U5
  exact (TabAt.cells h5).2.1
set_option maxHeartbeats 4000000 in
set_option maxRecDepth 100000 in
theorem begin_calls (tb : Nat) (s : Tab) (W : World) (F : Nat → Prop) (h : (TabAt tb s).on W F) (hl : s.l.length < 8) (hg : getP s.l (s.next + 1) = none) (h0 : 0 ≤ s.next) (hn : s.next < 900000) :
    Calls Try.prog 8 #[.pointer (some ⟨tb, 0, none⟩)] W fun e w' => e = .returned (.tuple #[.int .i64 (s.next + 1), .int .i64 0]) ∧ ∃ m b, Upd W F (TabAt tb ⟨some m, s.l ++ [(s.next + 1, b, ⟨0, [], []⟩)], s.next + 1⟩) w' := by
  obtain ⟨c0, c1, f0, f1⟩ := TabAt.cells h
  have hlt : tb < W.heap.size := World.block_lt_of_cell? W _ c0
  have hL := TabAt.len h
  obtain ⟨n, hnl⟩ : ∃ n, n = s.l.length := ⟨_, rfl⟩
  rw [← hnl] at hL hl
  have p1 : (8 ≤ (n : Int)) = False := eq_false (by omega)
  cases hm : s.mb with
  | some m =>
    have B := TabAt.begin_ h hm hg
    rw [hm] at c0 hL
    have p2 : 0 ≤ s.next + 1 := by omega
    obtain ⟨w3, hrun0, U, c3⟩ := B _ ((Eff.refl _ _).drew)
    rw [show (W.setCell ⟨tb, 1, none⟩ (.int .i64 (s.next + 1))).drew.heap.size = W.heap.size by simp [World.setCell, World.drew]] at hrun0 U
    have hrun : (Instr.mapUpdate 25 (.map (some m)) (.int .i64 (s.next + 1)) (.pointer (some ⟨W.heap.size, 0, none⟩))).run Try.prog (((W.setCell ⟨tb, 1, none⟩ (.int .i64 (s.next + 1))).alloc (.cells #[.int .i64 0, .slice none 0 0, .slice none 0 0] 55)).drew) = .ok () w3 := hrun0
    clear hrun0
    have hE : ∀ w, (binOp .eql 25 (.map (some m)) (.map none)).run Try.prog w = .ok (.bool false) w := fun w => run_eql_map_nil w _ _ _ (some m) Try.underlying25
    have A1 := Aside0.mk U
    clear h hg hm hnl B U
    generalize s.next = nx at *
    go_enter Try.func8, Try.ntmps8
    go_wp2
    go_region
    all_goals go_wp2
    go_ret2
    exact ⟨rfl, m, _, A1.out⟩
  | none =>
    have U0 : Upd W F (TabAt tb ⟨some W.heap.size, s.l, s.next⟩) ((W.alloc (.map #[] 0)).setCell ⟨tb, 0, none⟩ (.map (some W.heap.size))) := by
      unfold TabAt at h ⊢
      rw [hm] at h
      have hl0 : s.l = [] := by
        obtain ⟨F1, F2, h1, ⟨G1, G2, g1, _⟩, _⟩ := h
        have : ptrs s.l = [] := g1.1
        simpa [ptrs] using this
      have U1 : Upd W F (Sep (CellsAt tb #[.map none, .int .i64 s.next] 27) (PMap keyInt OneAt (some W.heap.size) [])) (W.alloc (.map #[] 0)) := by
        obtain ⟨F1, F2, h1, h2, hd, hF⟩ := h
        obtain ⟨F', p1, p2⟩ := PMap.made keyInt OneAt W
        exact (Upd.new h1 ((Eff.refl _ _).alloc _) p1 p2).sub (fun k hk => (hF k).2 (.inl hk))
      rw [hl0]
      exact U1.trans (fun F1 h1 => Upd.left h1 (fun F2 h2 => CellsAt.set h2 0 _))
    obtain ⟨F0, h0', e0, k0⟩ := U0
    have B := TabAt.begin_ h0' rfl hg _ ((Eff.refl _ _).drew)
    rw [hm] at c0 hL
    have hE : ∀ w, (binOp .eql 25 (.map none) (.map none)).run Try.prog w = .ok (.bool true) w := fun w => run_eql_map_nil w _ _ _ none Try.underlying25
    have hmm := @run_makeMap Try.prog
    obtain ⟨d0, d1, g0, g1⟩ := TabAt.cells h0'
    dsimp only at d0 d1 B
    have p2 : 0 ≤ s.next + 1 := by omega
    obtain ⟨w3, hrun0, U, c3⟩ := B
    rw [show ((((W.alloc (.map #[] 0)).setCell ⟨tb, 0, none⟩ (.map (some W.heap.size))).setCell ⟨tb, 1, none⟩ (.int .i64 (s.next + 1))).drew).heap.size = W.heap.size + 1 by simp [World.setCell, World.drew]] at hrun0 U
    have ew : ((W.alloc (.map #[] 0)).setCell ⟨tb, 0, none⟩ (.map (some W.heap.size))).setCell ⟨tb, 1, none⟩ (.int .i64 (s.next + 1)) = ((W.setCell ⟨tb, 0, none⟩ (.map (some W.heap.size))).setCell ⟨tb, 1, none⟩ (.int .i64 (s.next + 1))).alloc (.map #[] 0) := by
      rw [World.setCell_alloc_past (hn := hlt), World.setCell_alloc_past (hn := by simpa [World.setCell] using hlt)]
    have hrun : (Instr.mapUpdate 25 (.map (some W.heap.size)) (.int .i64 (s.next + 1)) (.pointer (some ⟨W.heap.size + 1, 0, none⟩))).run Try.prog (((((W.setCell ⟨tb, 0, none⟩ (.map (some W.heap.size))).setCell ⟨tb, 1, none⟩ (.int .i64 (s.next + 1))).alloc (.map #[] 0)).alloc (.cells #[.int .i64 0, .slice none 0 0, .slice none 0 0] 55)).drew) = .ok () w3 := by
      rw [← ew]
      exact hrun0
    clear hrun0
    have A1 : Aside0 (Upd W F (TabAt tb ⟨some W.heap.size, s.l ++ [(s.next + 1, W.heap.size + 1, ⟨0, [], []⟩)], s.next + 1⟩) w3) := by
      obtain ⟨F5, h5, e5, k5⟩ := U
      refine Aside0.mk ⟨F5, h5, e0.trans e5 k0, fun k hk => ?_⟩
      rcases k5 k hk with h | h
      · exact k0 k h
      · exact .inr (Nat.le_trans e0.size h)
    clear h hg hm hnl U h0' e0 k0
    generalize s.next = nx at *
    go_enter Try.func8, Try.ntmps8
    go_wp2
    go_region
    all_goals go_wp2
    go_ret2
    exact ⟨rfl, _, _, A1.out⟩
theorem full_begin (tb : Nat) (s : Tab) (W : World) (F : Nat → Prop) (h : (TabAt tb s).on W F) (hl : s.l.length = 8) :
    Calls Try.prog 8 #[.pointer (some ⟨tb, 0, none⟩)] W fun e w' => e = .returned (.tuple #[.int .i64 0, .int .i64 8]) ∧ Upd W F (TabAt tb s) w' := by
  obtain ⟨c0, c1, f0, f1⟩ := TabAt.cells h
  have hL := TabAt.len h
  rw [hl] at hL
  have H := Aside0.mk h
  clear h hl
  go_enter Try.func8, Try.ntmps8
  go_wp2
  go_ret2
  exact ⟨rfl, Upd.same H.out (Eff.refl _ _)⟩
end Go.Proofs.Ytcgncdcihglgdaa.T
