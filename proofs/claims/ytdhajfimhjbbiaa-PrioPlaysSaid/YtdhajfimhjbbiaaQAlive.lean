import Derived.Test.YtdhajfimhjbbiaaQQueue
namespace Go.Proofs.Ytdhajfimhjbbiaa.Q
open Go Go.RowKit Go.Proofs.YtdhajfimhjbbiaaW.PrintWords Go.Proofs.YtdhajfimhjbbiaaW.PrintLast Go.Proofs.YtdhajfimhjbbiaaW.PrintMore
set_option linter.unusedVariables false
theorem heapPushL_length (xs : List (Int × Int)) (o : Int × Int) : (heapPushL xs o).length = xs.length + 1 := by unfold heapPushL; rw [upL_length]; simp
/-- A queue that was made since w. -/
def New (w W : World) (b : Nat) (xs : List (Int × Int)) : Prop := ∃ v, Row W w.heap.size b v xs ∧ Eff (fun _ => False) w W
theorem New.eff {w W : World} {b : Nat} {xs : List (Int × Int)} (h : New w W b xs) : Eff (fun _ => False) w W := h.choose_spec.2
theorem New.after {w W W' : World} {b : Nat} {xs : List (Int × Int)} (h : New w W b xs) (k : Eff (fun _ => False) W W') : New w W' b xs := by
  obtain ⟨v, r, e⟩ := h
  exact ⟨v, r.eff k id (fun _ _ => id), e.trans k (fun _ h => h.elim)⟩
theorem New.alloc {w W : World} {b : Nat} {xs : List (Int × Int)} (h : New w W b xs) (o : Obj) : New w (W.alloc o) b xs := h.after ((Eff.refl _ _).alloc o)
theorem New.drew {w W : World} {b : Nat} {xs : List (Int × Int)} (h : New w W b xs) : New w W.drew b xs := h.after ((Eff.refl _ _).drew)
theorem New.drewN {w W : World} {b : Nat} {xs : List (Int × Int)} (h : New w W b xs) (n : Nat) : New w (W.drewN n) b xs := h.after ((Eff.refl _ _).drawn ⟨_, rfl⟩)
theorem New.post {w W W' : World} {b : Nat} {xs : List (Int × Int)} (e : Eff (fun _ => False) w W) {v : Value} (r : Row W w.heap.size b v xs) {ys : List (Int × Int)} (h : Post W w.heap.size b v ys W') : New w W' b ys := by
  obtain ⟨v', r', e', o⟩ := h
  refine ⟨v', r', e.trans e' ?_⟩
  rintro i (rfl | hi)
  · exact .inr r.from_
  · exact .inr (r.own_base i hi)
theorem New.push {w W : World} {b : Nat} {xs : List (Int × Int)} (h : New w W b xs) (hm : xs.length < 900000) (x y : Int) : Calls Try.prog 11 #[.pointer (some ⟨b, 0, none⟩), .int .i64 x, .int .i64 y] W fun e w' => e = .returned (.tuple #[]) ∧ New w w' b (heapPushL xs (x, y)) := by
  obtain ⟨v, r, e⟩ := h
  exact (qpush_calls W _ b v xs x y r e.size hm).mono fun _ _ ⟨he, hp⟩ => ⟨he, New.post e r hp⟩
theorem New.peek {w W : World} {b : Nat} {xs : List (Int × Int)} (h : New w W b xs) : Calls Try.prog 12 #[.pointer (some ⟨b, 0, none⟩)] W fun e w' => e = .returned (.tuple #[.int .i64 (rdp xs (0 : Nat)).1, .int .i64 (rdp xs (0 : Nat)).2, .bool (decide (0 < xs.length))]) ∧ New w w' b xs := by
  obtain ⟨v, r, e⟩ := h
  exact (qpeek_calls W _ b v xs r).mono fun _ _ ⟨he, hp⟩ => ⟨he, New.after ⟨v, r, e⟩ ((Eff.refl _ _).drawn hp)⟩
theorem New.pop {w W : World} {b : Nat} {xs : List (Int × Int)} (h : New w W b xs) (hm : xs.length < 900000) : Calls Try.prog 13 #[.pointer (some ⟨b, 0, none⟩)] W fun e w' => e = .returned (.tuple #[.int .i64 (rdp xs (0 : Nat)).1, .int .i64 (rdp xs (0 : Nat)).2, .bool (decide (0 < xs.length))]) ∧ New w w' b (popL xs) := by
  obtain ⟨v, r, e⟩ := h
  exact (qpop_calls W _ b v xs r hm).mono fun _ _ ⟨he, hp⟩ => ⟨he, New.post e r hp⟩
theorem New.len {w W : World} {b : Nat} {xs : List (Int × Int)} (h : New w W b xs) : Calls Try.prog 14 #[.pointer (some ⟨b, 0, none⟩)] W fun e w' => e = .returned (.int .i64 xs.length) ∧ New w w' b xs := by
  obtain ⟨v, r, e⟩ := h
  exact (qlen_calls W _ b v xs r).mono fun _ _ ⟨he, hp⟩ => ⟨he, New.after ⟨v, r, e⟩ ((Eff.refl _ _).drawn hp)⟩
/-- A queue is made. -/
theorem New.mk (w : World) {W : World} (e : Eff (fun _ => False) w W) : New w (W.alloc (.cells #[.slice none 0 0] 28)) W.heap.size [] := by
  exact ⟨.slice none 0 0, ⟨(heap_alloc_new W _), e.size, Kd.R_nil _ _ _ _ _⟩, e.alloc _⟩
set_option maxHeartbeats 4000000 in
set_option maxRecDepth 100000 in
theorem alive_calls (w : World) : Calls Try.prog 10 #[] w fun e w' => e = .returned (.bool true) ∧ Eff (fun _ => False) w w' := by
  have N0 := New.mk w (Eff.refl _ w)
  have f0 : (0 < (heapPushL (heapPushL [] (1, 5)) (3, 6)).length) = True := eq_true (by decide)
  have f1 : (rdp (heapPushL (heapPushL [] (1, 5)) (3, 6)) 0).1 = 3 := by decide
  have f2 : (rdp (heapPushL (heapPushL [] (1, 5)) (3, 6)) 0).2 = 6 := by decide
  have f3 : (popL (heapPushL (heapPushL [] (1, 5)) (3, 6))).length = 1 := by decide
  go_enter Try.func10, Try.ntmps10
  go_wp2_with (first | (go_at_call 11; refine (New.push (by assumption) (by simp [heapPushL_length]) _ _).mono ?_; rintro e w1 ⟨rfl, N1⟩) | (go_at_call 13; refine (New.pop (by assumption) (by simp [heapPushL_length])).mono ?_; rintro e w1 ⟨rfl, N1⟩) | (go_at_call 14; refine (New.len (by assumption)).mono ?_; rintro e w1 ⟨rfl, N1⟩))
  go_ret
  exact ⟨rfl, N1.eff⟩
end Go.Proofs.Ytdhajfimhjbbiaa.Q
