import Derived.Test.YtbfpmgbfkipiaaaMList
namespace Go.Proofs.Ytbfpmgbfkipiaaa.MD
open Go Go.RowKit Go.Proofs.YtbfpmgbfkipiaaaW.PrintWords Go.Proofs.YtbfpmgbfkipiaaaW.PrintLast Go.Proofs.YtbfpmgbfkipiaaaW.PrintMore Go.Proofs.Ytbfpmgbfkipiaaa.L
set_option linter.unusedVariables false
set_option linter.unusedSimpArgs false
theorem len_step (m : List Ent) (w : Wr) : (stepM m w).length ≤ m.length + 1 := by
  unfold stepM
  split
  · exact Nat.le_succ_of_le (List.length_filter_le _ _)
  · unfold insM
    have key : ∀ l : List Ent, (l.filter (fun x => decide (bl x.1 < bl w.key))).length + (l.filter (fun x => decide (bl w.key < bl x.1))).length ≤ l.length := by
      intro l
      induction l with
      | nil => exact Nat.le_refl _
      | cons a l ih =>
        by_cases h1 : bl a.1 < bl w.key
        · have h2 : ¬ bl w.key < bl a.1 := lt_asymm' h1
          rw [List.filter_cons_of_pos (by simpa using h1), List.filter_cons_of_neg (by simpa using h2), List.length_cons, List.length_cons]
          omega
        · by_cases h2 : bl w.key < bl a.1
          · rw [List.filter_cons_of_neg (by simpa using h1), List.filter_cons_of_pos (by simpa using h2), List.length_cons, List.length_cons]
            omega
          · rw [List.filter_cons_of_neg (by simpa using h1), List.filter_cons_of_neg (by simpa using h2), List.length_cons]
            omega
    rw [List.length_append, List.length_cons]
    have h3 := Nat.add_le_add_right (key m) 1
    rw [Nat.add_assoc] at h3
    exact h3
theorem len_over (m : List Ent) (l : List Wr) : (overL m l).length ≤ m.length + l.length := by
  unfold overL
  induction l generalizing m with
  | nil => exact Nat.le_refl _
  | cons w l ih =>
    rw [List.foldl_cons, List.length_cons]
    have h1 := ih (stepM m w)
    have h2 := len_step m w
    omega
set_option maxHeartbeats 1600000 in
set_option maxRecDepth 100000 in
theorem dump_calls (b0 : Nat) (s : Mod) (W : World) (F : Nat → Prop) (mb : Nat) (h : (ModAt b0 s).on W F) (hmb : s.mm = some mb) (hs : Rises s.m) (hl : s.m.length < 900000) :
    Calls Try.prog 13 #[.pointer (some ⟨b0, 0, none⟩)] W fun e w' => ∃ A c, e = .returned (.slice A s.m.length c) ∧ Made W A s.m.length s.m w' := by
  obtain ⟨c0, c1, f⟩ := ModAt.cells h
  rw [hmb] at c0
  obtain ⟨F1, ⟨l', hp, h1⟩, _⟩ := ModAt.strs h
  rw [hmb] at h1
  have C := list_calls W mb s.m l' h1.1 hp hs hl
  clear h hmb hs hl h1 hp c1 f
  generalize s.m = m at *
  go_enter Try.func13, Try.ntmps13
  go_wp2_with (go_at_call 23; refine C.mono ?_; rintro e w1 ⟨A, c, rfl, M⟩)
  go_ret
  exact ⟨_, _, rfl, M⟩
theorem Made.of {W w1 w' : World} {A : Option Addr} {n : Nat} {m : List Ent} (e : Eff0 W w1) (h : Made w1 A n m w') : Made W A n m w' :=
  ⟨e.then0 h.e, h.c, h.n, fun ad ha hm => Nat.le_trans e.size (h.lo ad ha hm)⟩
set_option maxHeartbeats 1600000 in
set_option maxRecDepth 100000 in
theorem with_calls (b0 : Nat) (s : Mod) (W : World) (F : Nat → Prop) (mb b : Nat) (tx : Int) (x : One) (h : (ModAt b0 s).on W F) (hmb : s.mm = some mb) (hs : Rises s.m) (hg : getP s.t tx = some (b, x)) (hl : s.m.length < 400000) (hx : x.l.length < 400000) :
    Calls Try.prog 15 #[.pointer (some ⟨b0, 0, none⟩), .int .i64 tx] W fun e w' => ∃ A c, e = .returned (.slice A (overL s.m x.l).length c) ∧ Made W A (overL s.m x.l).length (overL s.m x.l) w' := by
  have C := get_calls b0 s W F tx h
  rw [hg] at C
  dsimp only [ptrOf, Option.map_some] at C
  obtain ⟨F1, h1, _⟩ := ModAt.has h hg
  obtain ⟨vl, vs, d0, d1, f, hr, _⟩ := OneAt.cells h1
  obtain ⟨A, c, rfl, _, hC⟩ := Kd.R_reads hr
  have CO := over_calls b0 s W F mb A c x.l h hmb hs hC (by omega)
  have hlen := len_over s.m x.l
  have CL : ∀ w1, Ov2 W (overL s.m x.l) w1 → Calls Try.prog 23 #[.map (some W.heap.size)] w1 fun e w' => ∃ A c, e = .returned (.slice A (overL s.m x.l).length c) ∧ Made W A (overL s.m x.l).length (overL s.m x.l) w' := by
    rintro w1 ⟨e1, o, hp, hM⟩
    refine (list_calls w1 W.heap.size _ o hM hp (rises_overL hs x.l) (by omega)).mono ?_
    rintro e w' ⟨A2, c2, he, hm⟩
    exact ⟨A2, c2, he, hm.of e1⟩
  generalize overL s.m x.l = m at *
  clear h hmb hs hg hl hx h1 hr hC hlen d1 f
  go_enter Try.func15, Try.ntmps15
  go_wp2_with (first
    | (go_at_call 21; refine C.mono ?_; rintro e w1 ⟨rfl, rfl⟩)
    | (go_at_call 22; refine CO.mono ?_; rintro e w1 ⟨rfl, O1⟩)
    | (go_at_call 23; refine (CL _ O1).mono ?_; rintro e w2 ⟨A2, c2, rfl, M⟩))
  go_ret
  exact ⟨_, _, rfl, M⟩
/-- The map is another one. -/
theorem ModAt.swap {b0 : Nat} {s : Mod} {W : World} {F : Nat → Prop} (h : (ModAt b0 s).on W F) {m' : List Ent} {w' : World} (o : Ov2 W m' w') :
    Upd W F (ModAt b0 ⟨some W.heap.size, m', s.tb, s.t⟩) (w'.setCell ⟨b0, 0, none⟩ (.map (some W.heap.size))) := by
  obtain ⟨F1, F2, h1, ⟨G1, G2, g1, g2, gd, gF⟩, hd, hF⟩ := h
  have l1 : ∀ k, F1 k → k < W.heap.size := fun k hk => HP.lt _ h1 hk
  have l2 : ∀ k, G2 k → k < W.heap.size := fun k hk => HP.lt _ g2 hk
  obtain ⟨he, ol, hp, hM⟩ := o
  have hS : (StrMap (some W.heap.size) m').on w' (fun k => k = W.heap.size) := ⟨ol, hp, hM, rfl, by rintro k rfl; exact hM.lt⟩
  have hsep : (Sep (CellsAt b0 #[.map s.mm, .map s.tb] 27) (Sep (StrMap (some W.heap.size) m') (PMap keyInt OneAt s.tb s.t))).on w' (fun k => F1 k ∨ (k = W.heap.size ∨ G2 k)) := by
    refine ⟨F1, fun k => k = W.heap.size ∨ G2 k, HP.eff0 h1 he, ⟨fun k => k = W.heap.size, G2, hS, HP.eff0 g2 he, ?_, fun _ => Iff.rfl⟩, ?_, fun _ => Iff.rfl⟩
    · rintro k rfl hk
      have := l2 _ hk
      omega
    · rintro k hk (rfl | hk2)
      · have := l1 _ hk; omega
      · exact hd k hk ((gF k).2 (.inr hk2))
  obtain ⟨F', h', e', k'⟩ := Upd.left hsep (fun G hG => CellsAt.set hG 0 (.map (some W.heap.size)))
  have hsub : ∀ k, (F1 k ∨ (k = W.heap.size ∨ G2 k)) → F k ∨ W.heap.size ≤ k := by
    rintro k (hk | rfl | hk)
    · exact .inl ((hF k).2 (.inl hk))
    · exact .inr (Nat.le_refl _)
    · exact .inl ((hF k).2 (.inr ((gF k).2 (.inr hk))))
  refine ⟨F', h', (he.any F).trans e' (fun k hk => hsub k hk), fun k hk => ?_⟩
  rcases k' k hk with hk2 | hk2
  · exact hsub k hk2
  · exact .inr (Nat.le_trans he.size hk2)
set_option maxHeartbeats 1600000 in
set_option maxRecDepth 100000 in
theorem commit_calls (b0 : Nat) (s : Mod) (W : World) (F : Nat → Prop) (mb b : Nat) (tx : Int) (x : One) (h : (ModAt b0 s).on W F) (hmb : s.mm = some mb) (hs : Rises s.m) (hg : getP s.t tx = some (b, x)) (hx : x.l.length < 400000) :
    Calls Try.prog 12 #[.pointer (some ⟨b0, 0, none⟩), .int .i64 tx] W fun e w' => e = .returned (.bool true) ∧ ∃ mb', Upd W F (ModAt b0 ⟨some mb', overL s.m x.l, s.tb, delP s.t tx⟩) w' := by
  have C := get_calls b0 s W F tx h
  rw [hg] at C
  dsimp only [ptrOf, Option.map_some] at C
  obtain ⟨c0, c1, f0⟩ := ModAt.cells h
  have f0' : ∀ w', Eff0 W w' → w'.frozen? ⟨b0, 0, none⟩ = false ∧ ∃ v, w'.cell? ⟨b0, 0, none⟩ = some v := fun w' e => by
    obtain ⟨a1, a2, a3⟩ := ModAt.cells (HP.eff0 h e)
    exact ⟨a3 0, _, a1⟩
  obtain ⟨F1, h1, _⟩ := ModAt.has h hg
  obtain ⟨vl, vs, d0, d1, f, hr, _⟩ := OneAt.cells h1
  obtain ⟨A, c, rfl, _, hC⟩ := Kd.R_reads hr
  have CO := over_calls b0 s W F mb A c x.l h hmb hs hC (by omega)
  have CA : ∀ w1, Ov2 W (overL s.m x.l) w1 → Calls Try.prog 19 #[.pointer (some ⟨b0, 0, none⟩), .int .i64 tx] (w1.setCell ⟨b0, 0, none⟩ (.map (some W.heap.size))) fun e w' => e = .returned (.bool true) ∧ Aside0 (Upd W F (ModAt b0 ⟨some W.heap.size, overL s.m x.l, s.tb, delP s.t tx⟩) w') := by
    intro w1 o1
    obtain ⟨F', h', e', k'⟩ := ModAt.swap h o1
    refine (abort_calls b0 ⟨some W.heap.size, overL s.m x.l, s.tb, s.t⟩ _ F' tx h').mono ?_
    rintro e w' ⟨he, u⟩
    have hab : abortR ⟨some W.heap.size, overL s.m x.l, s.tb, s.t⟩ tx = (true, ⟨some W.heap.size, overL s.m x.l, s.tb, delP s.t tx⟩) := by
      unfold abortR
      rw [show getP (Mod.mk (some W.heap.size) (overL s.m x.l) s.tb s.t).t tx = some (b, x) from hg]
    rw [hab] at he u
    obtain ⟨F2, h2, e2, k2⟩ := u
    refine ⟨he, Aside0.mk ⟨F2, h2, e'.trans e2 k', fun k hk => ?_⟩⟩
    rcases k2 k hk with hk2 | hk2
    · exact k' k hk2
    · exact .inr (Nat.le_trans e'.size hk2)
  generalize overL s.m x.l = m at *
  clear h hmb hs hg hx h1 hr hC d1 f f0 c1
  go_enter Try.func12, Try.ntmps12
  go_wp2_with (first
    | (go_at_call 21; refine C.mono ?_; rintro e w1 ⟨rfl, rfl⟩)
    | (go_at_call 22; refine CO.mono ?_; rintro e w1 ⟨rfl, O1⟩; obtain ⟨g1, gv, g2⟩ := f0' _ O1.e)
    | (go_at_call 19; refine (CA _ O1).mono ?_; rintro e w2 ⟨rfl, U⟩))
  go_ret
  exact ⟨rfl, _, U.out⟩
end Go.Proofs.Ytbfpmgbfkipiaaa.MD
