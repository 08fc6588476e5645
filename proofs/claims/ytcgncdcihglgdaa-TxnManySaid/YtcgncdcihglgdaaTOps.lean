import Derived.Test.YtcgncdcihglgdaaTBase
namespace Go.Proofs.Ytcgncdcihglgdaa.T
open Go Go.RowKit Go.Proofs.YtcgncdcihglgdaaW.PrintWords Go.Proofs.YtcgncdcihglgdaaW.PrintLast Go.Proofs.YtcgncdcihglgdaaW.PrintMore Go.Proofs.Ytcgncdcihglgdaa.L
set_option linter.unusedVariables false
set_option linter.unusedSimpArgs false
theorem OneAt.cells {b : Nat} {x : One} {W : World} {F : Nat → Prop} (h : (OneAt b x).on W F) : ∃ vu vs, W.cell? ⟨b, 0, none⟩ = some (.int .i64 x.last) ∧ W.cell? ⟨b, 1, none⟩ = some vu ∧ W.cell? ⟨b, 2, none⟩ = some vs ∧ (∀ i, W.frozen? ⟨b, i, none⟩ = false) ∧ kdU.R 22 W 0 (fun k => F k ∧ k ≠ b) vu x.ups ∧ kdS.R 58 W 0 (fun k => F k ∧ k ≠ b) vs x.saves := by
  obtain ⟨vu, vs, h1, h2, h3, h4, h5⟩ := h
  exact ⟨vu, vs, blk_cell h1 0, blk_cell h1 1, blk_cell h1 2, fun i => blk_frozen h1 i, h4, h5⟩
theorem OneAt.log {b : Nat} {x : One} {W : World} {F : Nat → Prop} (h : (OneAt b x).on W F) (n : Int) : Upd W F (OneAt b { x with last := n }) (W.setCell ⟨b, 0, none⟩ (.int .i64 n)) := by
  obtain ⟨vu, vs, h1, h2, h3, h4, h5⟩ := h
  refine ⟨F, ⟨vu, vs, blk_set h1 0 _, h2, fun k hk => by simpa [World.setCell] using h3 k hk, Kd.R_far h4 (fun k hk => hk.2) _, Kd.R_far h5 (fun k hk => hk.2) _⟩, (Eff.refl _ _).set _ _ (.inl h2), fun _ hk => .inl hk⟩
/-- The updates are another row. -/
theorem OneAt.setUps {b : Nat} {x : One} {W W1 : World} {F F' : Nat → Prop} {vu vu' : Value} {us : List (List Int)} (h : (OneAt b x).on W F) (hc : W.cell? ⟨b, 1, none⟩ = some vu) (e : Eff (fun k => vu.ownBlock = some k) W W1)
    (hu : kdU.R 22 W1 0 F' vu' us) (hF : ∀ k, F' k → (F k ∧ k ≠ b) ∨ W.heap.size ≤ k) : Upd W F (OneAt b { x with ups := us }) (W1.setCell ⟨b, 1, none⟩ vu') := by
  obtain ⟨vu0, vs, h1, h2, h3, h4, h5⟩ := h
  have hc0 : some vu0 = some vu := (blk_cell h1 1).symm.trans hc
  injection hc0 with hc0
  subst hc0
  have hb : b < W.heap.size := h3 b h2
  have h1' : W1.heap[b]? = some (.cells #[.int .i64 x.last, vu0, vs] 55 (0, 0)) := (e.block b hb (fun h => (h4.1 b h).2 rfl)).trans h1
  have hbl : b < W1.heap.size := Nat.lt_of_lt_of_le hb e.size
  have h5' := R_other h5 h4 (by decide) e
  refine ⟨fun k => (F k ∨ F' k) ∧ k < W1.heap.size, ⟨vu', vs, blk_set h1' 1 _, ⟨.inl h2, hbl⟩, fun k hk => by simpa [World.setCell] using hk.2, ?_, ?_⟩, ?_, ?_⟩
  · refine Kd.R_mono (Kd.R_far (Kd.R_bound hu) (p := ⟨b, 1, none⟩) (fun k hk => ?_) _) (fun k hk => ⟨⟨.inr hk.1, hk.2.2.1⟩, ?_⟩)
    · rcases hF k hk.1 with h | h
      · exact h.2
      · show k ≠ b; omega
    · rcases hF k hk.1 with h | h
      · exact h.2
      · omega
  · exact Kd.R_mono (Kd.R_far (Kd.R_bound h5') (p := ⟨b, 1, none⟩) (fun k hk => hk.1.2) _) (fun k hk => ⟨⟨.inl hk.1.1, hk.2.2.1⟩, hk.1.2⟩)
  · exact (e.mono (fun k hk => (h4.1 k hk).1)).set _ _ (.inl h2)
  · rintro k ⟨hk | hk, _⟩
    · exact .inl hk
    · exact (hF k hk).imp And.left id
theorem OneAt.setSaves {b : Nat} {x : One} {W W1 : World} {F F' : Nat → Prop} {vs vs' : Value} {ss : List (Int × Int)} (h : (OneAt b x).on W F) (hc : W.cell? ⟨b, 2, none⟩ = some vs) (e : Eff (fun k => vs.ownBlock = some k) W W1)
    (hu : kdS.R 58 W1 0 F' vs' ss) (hF : ∀ k, F' k → (F k ∧ k ≠ b) ∨ W.heap.size ≤ k) : Upd W F (OneAt b { x with saves := ss }) (W1.setCell ⟨b, 2, none⟩ vs') := by
  obtain ⟨vu, vs0, h1, h2, h3, h4, h5⟩ := h
  have hc0 : some vs0 = some vs := (blk_cell h1 2).symm.trans hc
  injection hc0 with hc0
  subst hc0
  have hb : b < W.heap.size := h3 b h2
  have h1' : W1.heap[b]? = some (.cells #[.int .i64 x.last, vu, vs0] 55 (0, 0)) := (e.block b hb (fun h => (h5.1 b h).2 rfl)).trans h1
  have hbl : b < W1.heap.size := Nat.lt_of_lt_of_le hb e.size
  have h4' := R_other h4 h5 (by decide) e
  refine ⟨fun k => (F k ∨ F' k) ∧ k < W1.heap.size, ⟨vu, vs', blk_set h1' 2 _, ⟨.inl h2, hbl⟩, fun k hk => by simpa [World.setCell] using hk.2, ?_, ?_⟩, ?_, ?_⟩
  · exact Kd.R_mono (Kd.R_far (Kd.R_bound h4') (p := ⟨b, 2, none⟩) (fun k hk => hk.1.2) _) (fun k hk => ⟨⟨.inl hk.1.1, hk.2.2.1⟩, hk.1.2⟩)
  · refine Kd.R_mono (Kd.R_far (Kd.R_bound hu) (p := ⟨b, 2, none⟩) (fun k hk => ?_) _) (fun k hk => ⟨⟨.inr hk.1, hk.2.2.1⟩, ?_⟩)
    · rcases hF k hk.1 with h | h
      · exact h.2
      · show k ≠ b; omega
    · rcases hF k hk.1 with h | h
      · exact h.2
      · omega
  · exact (e.mono (fun k hk => (h5.1 k hk).1)).set _ _ (.inl h2)
  · rintro k ⟨hk | hk, _⟩
    · exact .inl hk
    · exact (hF k hk).imp And.left id
def logR (s : Tab) (tx n : Int) : Bool × Tab := match getP s.l tx with
  | some p => (true, { s with l := setP s.l tx { p.2 with last := n } })
  | none => (false, s)
def updR (s : Tab) (tx : Int) (pages : List Int) : Bool × Tab := match getP s.l tx with
  | some p => (true, { s with l := setP s.l tx { p.2 with ups := p.2.ups ++ [pages] } })
  | none => (false, s)
def undoR (s : Tab) (tx : Int) : Bool × Tab := match getP s.l tx with
  | some p => if p.2.ups = [] then (false, s) else (true, { s with l := setP s.l tx { p.2 with ups := p.2.ups.dropLast } })
  | none => (false, s)
def saveR (s : Tab) (tx : Int) : (Int × Int) × Tab := match getP s.l tx with
  | some p => if 8 ≤ p.2.saves.length then ((0, 8), s) else (((p.2.saves.length : Int), 0), { s with l := setP s.l tx { p.2 with saves := p.2.saves ++ [(p.2.last, (p.2.ups.length : Int))] } })
  | none => ((0, 9), s)
def backR (s : Tab) (tx k : Int) : (Int × Int) × Tab := match getP s.l tx with
  | some p => if k < 0 ∨ (p.2.saves.length : Int) ≤ k then ((0, 1), s) else (((p.2.saves.getD k.toNat (0, 0)).1, 0), { s with l := setP s.l tx { p.2 with saves := p.2.saves.take (k.toNat + 1) } })
  | none => ((0, 9), s)
def endR (s : Tab) (tx : Int) : Bool × Tab := match getP s.l tx with
  | some _ => (true, { s with l := delP s.l tx })
  | none => (false, s)
def lastR (s : Tab) (tx : Int) : Int × Bool := match getP s.l tx with
  | some p => (p.2.last, true)
  | none => (0, false)
def freedR (s : Tab) (tx : Int) : List Int := match getP s.l tx with
  | some p => p.2.ups.flatten
  | none => []
def updatesR (s : Tab) : Int := ((s.l.map (fun p => p.2.2.ups.length)).sum : Nat)
set_option maxHeartbeats 4000000 in
set_option maxRecDepth 100000 in
theorem log_calls (tb : Nat) (s : Tab) (W : World) (F : Nat → Prop) (tx n : Int) (h : (TabAt tb s).on W F) :
    Calls Try.prog 9 #[.pointer (some ⟨tb, 0, none⟩), .int .i64 tx, .int .i64 n] W fun e w' => e = .returned (.bool (logR s tx n).1) ∧ Upd W F (TabAt tb (logR s tx n).2) w' := by
  have C := get_calls tb s W F tx h
  cases hg : getP s.l tx with
  | none =>
    have hr : logR s tx n = (false, s) := by simp [logR, hg]
    rw [hg] at C
    rw [hr]
    dsimp only [ptrOf, Option.map_none, Option.map_some] at C
    have H := Aside0.mk h
    clear h hg hr
    go_enter Try.func9, Try.ntmps9
    go_wp2_with (go_at_call 20; refine C.mono ?_; rintro e w1 ⟨rfl, d1⟩)
    go_ret
    exact ⟨rfl, Upd.same H.out ((Eff.refl _ _).drawn d1)⟩
  | some p =>
    obtain ⟨b, x⟩ := p
    have hr : logR s tx n = (true, { s with l := setP s.l tx { x with last := n } }) := by simp [logR, hg]
    rw [hg] at C
    rw [hr]
    dsimp only [ptrOf, Option.map_none, Option.map_some] at C
    have H := Aside0.mk (And.intro h hg)
    have K : ∀ w1, Drawn0 W w1 → ∃ u, w1.cell? ⟨b, 0, none⟩ = some u ∧ w1.frozen? ⟨b, 0, none⟩ = false := by
      intro w1 d1
      obtain ⟨F1, h1, _⟩ := TabAt.has (HP.eff0 h ((Eff.refl _ _).drawn d1)) hg
      obtain ⟨vu, vs, c0, c1, c2, f, _⟩ := OneAt.cells h1
      exact ⟨_, c0, f 0⟩
    clear h hg hr
    go_enter Try.func9, Try.ntmps9
    go_wp2_with (go_at_call 20; refine C.mono ?_; rintro e w1 ⟨rfl, d1⟩; obtain ⟨u, c0, f0⟩ := K w1 d1; clear K)
    go_ret
    refine ⟨rfl, Upd.of ((Eff.refl _ _).drawn d1) ?_⟩
    exact TabAt.one (HP.eff0 H.out.1 ((Eff.refl _ _).drawn d1)) H.out.2 (fun F1 h1 => OneAt.log h1 n)
end Go.Proofs.Ytcgncdcihglgdaa.T
