import Derived.Test.YtbfpmgbfkipiaaaMMPlain
namespace Go.Proofs.Ytbfpmgbfkipiaaa.MD
open Go Go.RowKit Go.Proofs.YtbfpmgbfkipiaaaW.PrintWords Go.Proofs.YtbfpmgbfkipiaaaW.PrintLast Go.Proofs.YtbfpmgbfkipiaaaW.PrintMore Go.Proofs.Ytbfpmgbfkipiaaa.L
set_option linter.unusedVariables false
set_option linter.unusedSimpArgs false
set_option maxHeartbeats 1600000 in
set_option maxRecDepth 100000 in
theorem get_calls (b0 : Nat) (s : Mod) (W : World) (F : Nat → Prop) (tx : Int) (h : (ModAt b0 s).on W F) :
    Calls Try.prog 21 #[.pointer (some ⟨b0, 0, none⟩), .int .i64 tx] W fun e w' => e = .returned (ptrOf (getP s.t tx)) ∧ W = w' := by
  have hL := ModAt.look h tx
  obtain ⟨c0, c1, f0⟩ := ModAt.cells h
  clear h
  go_enter Try.func21, Try.ntmps21
  go_wp2
  go_ret
  exact ⟨rfl, rfl⟩
theorem eq_map_nil (t k e : TypeId) (mb : Option Nat) (h : Try.prog.underlying t = some (.map k e)) (w : World) : (binOp .eql t (.map mb) (.map none)).run Try.prog w = .ok (.bool mb.isNone) w := run_eql_map_nil w t k e mb h
/-- One more: the worlds on the way, ahead of the walk. -/
theorem ModAt.begin_ {b0 : Nat} {s : Mod} {W : World} {F : Nat → Prop} {m : Nat} {tx : Int} (h : (ModAt b0 s).on W F) (hm : s.tb = some m) (hg : getP s.t tx = none) :
    ∃ w3, (Instr.mapUpdate 25 (.map (some m)) (.int .i64 tx) (.pointer (some ⟨W.heap.size, 0, none⟩))).run Try.prog (W.alloc (.cells #[.slice none 0 0, .slice none 0 0] 55)) = .ok () w3 ∧
      Upd W F (ModAt b0 ⟨s.mm, s.m, some m, s.t ++ [(tx, W.heap.size, ⟨[], []⟩)]⟩) w3 := by
  obtain ⟨mm, ml, tb, t⟩ := s
  dsimp only at hm hg ⊢
  subst hm
  have U2 : Upd W F (Sep (ModAt b0 ⟨mm, ml, some m, t⟩) (OneAt W.heap.size ⟨[], []⟩)) (W.alloc (.cells #[.slice none 0 0, .slice none 0 0] 55)) :=
    Upd.new h ((Eff.refl _ _).alloc _) (OneAt.made W) (by rintro k rfl; exact Nat.le_refl _)
  obtain ⟨F2, h2, e2, k2⟩ := U2
  have h3 := Sep.assoc h2
  obtain ⟨G1, G2, g1, g2, gd, gF⟩ := h3
  have g3 := Sep.assoc g2
  obtain ⟨H1, H2, r1, r2, rd, rF⟩ := g3
  obtain ⟨w3, hrun, U3⟩ := PMap.insert (P := Try.prog) r2 hg Try.underlying25 Try.underlying3
  refine ⟨w3, hrun, ?_⟩
  have U4 := Upd.right (S := StrMap mm ml) (T := Sep (PMap keyInt OneAt (some m) t) (OneAt W.heap.size ⟨[], []⟩)) (W := W.alloc (.cells #[.slice none 0 0, .slice none 0 0] 55)) (W' := w3) (T' := PMap keyInt OneAt (some m) (t ++ [(tx, W.heap.size, ⟨[], []⟩)])) ⟨H1, H2, r1, r2, rd, rF⟩ (fun F1 hF1 => by
    obtain ⟨w4, hrun', U5⟩ := PMap.insert (P := Try.prog) hF1 hg Try.underlying25 Try.underlying3
    rw [hrun] at hrun'
    injection hrun' with _ hw
    subst hw
    exact U5)
  have U6 : Upd (W.alloc (.cells #[.slice none 0 0, .slice none 0 0] 55)) F2 (ModAt b0 ⟨mm, ml, some m, t ++ [(tx, W.heap.size, ⟨[], []⟩)]⟩) w3 := by
    obtain ⟨G2', a, b, c⟩ := U4
    refine ⟨fun k => G1 k ∨ G2' k, ⟨G1, G2', HP.eff g1 b (fun k x y => gd k x y), a, fun k x y => ?_, fun _ => Iff.rfl⟩, b.mono (fun k hk => (gF k).2 (.inr hk)), fun k hk => ?_⟩
    · rcases c k y with h | h
      · exact gd k x h
      · have := HP.lt _ g1 x; omega
    · rcases hk with h | h
      · exact .inl ((gF k).2 (.inl h))
      · exact (c k h).imp (fun h => (gF k).2 (.inr h)) id
  obtain ⟨F4, h4, e4, k4⟩ := U6
  refine ⟨F4, h4, e2.trans e4 k2, fun k hk => ?_⟩
  rcases k4 k hk with h | h
  · exact k2 k h
  · exact .inr (Nat.le_trans e2.size h)
set_option maxHeartbeats 1600000 in
set_option maxRecDepth 100000 in
theorem begin_had (b0 : Nat) (s : Mod) (W : World) (F : Nat → Prop) (tx : Int) (p : Nat × One) (h : (ModAt b0 s).on W F) (hg : getP s.t tx = some p) :
    Calls Try.prog 9 #[.pointer (some ⟨b0, 0, none⟩), .int .i64 tx] W fun e w' => e = .returned (.bool false) ∧ Upd W F (ModAt b0 s) w' := by
  have hL := ModAt.look h tx
  rw [hg] at hL
  dsimp only [ptrOf, Option.map_some] at hL
  obtain ⟨c0, c1, f0⟩ := ModAt.cells h
  have H := Aside0.mk h
  clear h hg
  go_enter Try.func9, Try.ntmps9
  go_wp2
  go_ret
  exact ⟨rfl, Upd.same H.out (Eff.refl _ _)⟩
set_option maxHeartbeats 1600000 in
set_option maxRecDepth 100000 in
theorem begin_more (b0 : Nat) (s : Mod) (W : World) (F : Nat → Prop) (tx : Int) (m : Nat) (h : (ModAt b0 s).on W F) (hm : s.tb = some m) (hg : getP s.t tx = none) :
    Calls Try.prog 9 #[.pointer (some ⟨b0, 0, none⟩), .int .i64 tx] W fun e w' => e = .returned (.bool true) ∧ ∃ b, Upd W F (ModAt b0 ⟨s.mm, s.m, some m, s.t ++ [(tx, b, ⟨[], []⟩)]⟩) w' := by
  have hL := ModAt.look h tx
  rw [hg, hm] at hL
  dsimp only [ptrOf, Option.map_none] at hL
  obtain ⟨c0, c1, f0⟩ := ModAt.cells h
  rw [hm] at c1
  have hE := eq_map_nil 25 _ _ (some m) Try.underlying25
  dsimp only [Option.isNone] at hE
  obtain ⟨w3, hrun, U⟩ := ModAt.begin_ h hm hg
  have A1 := Aside0.mk U
  clear h hm hg U
  go_enter Try.func9, Try.ntmps9
  go_wp2
  go_ret
  exact ⟨rfl, _, A1.out⟩
end Go.Proofs.Ytbfpmgbfkipiaaa.MD
