import Derived.Test.YtbfpmgbfkipiaaaMBegin
namespace Go.Proofs.Ytbfpmgbfkipiaaa.MD
open Go Go.RowKit Go.Proofs.YtbfpmgbfkipiaaaW.PrintWords Go.Proofs.YtbfpmgbfkipiaaaW.PrintLast Go.Proofs.YtbfpmgbfkipiaaaW.PrintMore Go.Proofs.Ytbfpmgbfkipiaaa.L
set_option linter.unusedVariables false
set_option linter.unusedSimpArgs false
theorem ModAt.first {b0 : Nat} {W : World} {F : Nat → Prop} {mm : Option Nat} (h : (ModAt b0 ⟨mm, [], none, []⟩).on W F) :
    Upd W F (ModAt b0 ⟨some W.heap.size, [], some (W.heap.size + 1), []⟩) ((((W.alloc (.map #[] 0)).alloc (.map #[] 0)).setCell ⟨b0, 0, none⟩ (.map (some W.heap.size))).setCell ⟨b0, 1, none⟩ (.map (some (W.heap.size + 1)))) := by
  obtain ⟨F1, F2, h1, _, hd, hF⟩ := h
  have U0 : Upd W F1 (Sep (CellsAt b0 #[.map mm, .map none] 27) (StrMap (some W.heap.size) [])) (W.alloc (.map #[] 0)) :=
    Upd.new h1 ((Eff.refl _ _).alloc _) (F' := fun k => k = W.heap.size) ⟨[], List.Perm.refl _, MapAt.made keyStr W, rfl, by rintro k rfl; simp⟩ (by rintro k rfl; exact Nat.le_refl _)
  have U1 : Upd W F1 (Sep (CellsAt b0 #[.map mm, .map none] 27) (Sep (StrMap (some W.heap.size) []) (PMap keyInt OneAt (some (W.heap.size + 1)) []))) ((W.alloc (.map #[] 0)).alloc (.map #[] 0)) := by
    refine (U0.trans (fun G hG => ?_)).imp (fun _ h => Sep.assoc h)
    obtain ⟨F', p1, p2⟩ := PMap.made keyInt OneAt (W.alloc (.map #[] 0))
    have e : (W.alloc (.map #[] 0)).heap.size = W.heap.size + 1 := by simp
    rw [e] at p1 p2
    exact Upd.new hG ((Eff.refl _ _).alloc _) p1 (fun k hk => by rw [e]; exact p2 k hk)
  have U2 := U1.trans (fun G hG => Upd.left hG (fun G1 hG1 => CellsAt.set hG1 0 (.map (some W.heap.size))))
  have U3 := U2.trans (fun G hG => Upd.left hG (fun G1 hG1 => CellsAt.set hG1 1 (.map (some (W.heap.size + 1)))))
  exact U3.sub (fun k hk => (hF k).2 (.inl hk))
set_option maxHeartbeats 1600000 in
set_option maxRecDepth 100000 in
theorem begin_first (b0 : Nat) (mm : Option Nat) (W : World) (F : Nat → Prop) (tx : Int) (h : (ModAt b0 ⟨mm, [], none, []⟩).on W F) :
    Calls Try.prog 9 #[.pointer (some ⟨b0, 0, none⟩), .int .i64 tx] W fun e w' => e = .returned (.bool true) ∧ ∃ m1 m2 b, Upd W F (ModAt b0 ⟨some m1, [], some m2, [(tx, b, ⟨[], []⟩)]⟩) w' := by
  have hL := ModAt.look h tx
  obtain ⟨c0, c1, f0⟩ := ModAt.cells h
  dsimp only [getP, List.find?_nil, Option.map_none, ptrOf] at hL c0 c1
  have hlt : b0 < W.heap.size := World.block_lt_of_cell? W _ c0
  have hE := eq_map_nil 25 _ _ none Try.underlying25
  dsimp only [Option.isNone] at hE
  have hmm := @run_makeMap Try.prog
  have U := ModAt.first h
  obtain ⟨F0, h0', e0, k0⟩ := U
  obtain ⟨w3, hrun0, U3⟩ := ModAt.begin_ (tx := tx) h0' rfl rfl
  have hlt1 : b0 < (W.alloc (.map #[] 0)).heap.size := by simp; omega
  have ew : (((W.alloc (.map #[] 0)).alloc (.map #[] 0)).setCell ⟨b0, 0, none⟩ (.map (some W.heap.size))).setCell ⟨b0, 1, none⟩ (.map (some (W.heap.size + 1))) = (((W.setCell ⟨b0, 0, none⟩ (.map (some W.heap.size))).setCell ⟨b0, 1, none⟩ (.map (some (W.heap.size + 1)))).alloc (.map #[] 0)).alloc (.map #[] 0) := by
    rw [World.setCell_alloc_past (hn := hlt1), World.setCell_alloc_past (hn := hlt), World.setCell_alloc_past (hn := by simpa [World.setCell] using hlt1), World.setCell_alloc_past (hn := by simpa [World.setCell] using hlt)]
  rw [ew] at hrun0
  have es : ((((W.setCell ⟨b0, 0, none⟩ (.map (some W.heap.size))).setCell ⟨b0, 1, none⟩ (.map (some (W.heap.size + 1)))).alloc (.map #[] 0)).alloc (.map #[] 0)).heap.size = W.heap.size + 1 + 1 := by simp [World.setCell]
  rw [es] at hrun0
  have hrun := hrun0
  clear hrun0 ew es
  have A1 : Aside0 (∃ b, Upd W F (ModAt b0 ⟨some W.heap.size, [], some (W.heap.size + 1), [(tx, b, ⟨[], []⟩)]⟩) w3) := by
    obtain ⟨F5, h5, e5, k5⟩ := U3
    refine Aside0.mk ⟨_, F5, h5, e0.trans e5 k0, fun k hk => ?_⟩
    rcases k5 k hk with h | h
    · exact k0 k h
    · exact .inr (Nat.le_trans e0.size h)
  clear h h0' e0 k0 U3
  go_enter Try.func9, Try.ntmps9
  go_wp2
  go_ret
  exact ⟨rfl, _, _, A1.out⟩
end Go.Proofs.Ytbfpmgbfkipiaaa.MD
