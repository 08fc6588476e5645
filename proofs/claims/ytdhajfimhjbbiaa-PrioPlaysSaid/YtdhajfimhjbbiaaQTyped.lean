import Derived.Test.YtdhajfimhjbbiaaQSorted
namespace Go.Proofs.Ytdhajfimhjbbiaa.Q
open Go Go.RowKit Go.Proofs.YtdhajfimhjbbiaaW.PrintWords Go.Proofs.YtdhajfimhjbbiaaW.PrintLast Go.Proofs.YtdhajfimhjbbiaaW.PrintMore
set_option linter.unusedVariables false
/-- Block k, from B on, has elements of one of these types. -/
def Typed (B : Nat) (w : World) (T : List Nat) (k : Nat) : Prop := B ≤ k ∧ ∃ cells t, w.heap[k]? = some (.cells cells t (0, 0)) ∧ t ∈ T
theorem below_eff {B : Nat} {S : Nat → Prop} {w W W' : World} (h : Below B w W) (hB : B ≤ w.heap.size) (e : Eff S W W') (hS : ∀ k, S k → B ≤ k) : Below B w W' :=
  ⟨e.os.trans h.os, e.tape.trans h.tape, e.output.trans h.output, Nat.le_trans h.size e.size, fun k hk => (e.block k (Nat.lt_of_lt_of_le hk (Nat.le_trans hB h.size)) (fun hs => by have := hS k hs; omega)).trans (h.block k hk)⟩
theorem below_typed {B B' : Nat} {T : List Nat} {w W W' : World} (h : Below B w W) (hB : B ≤ w.heap.size) (e : Eff (Typed B' W T) W W') (hS : B ≤ B') : Below B w W' := below_eff h hB e (fun k hk => Nat.le_trans hS hk.1)
theorem R_typed {α : Type} {d : Kd α} {e base : Nat} {ok : Nat → Prop} {w w1 : World} {v : Value} {xs : List α} {T : List Nat} (h : d.R e w base ok v xs) {B : Nat} (k : Eff (Typed B w T) w w1) (hT : ∀ q, q ∈ e :: d.E → q ∉ T) : d.R e w1 base ok v xs := by
  refine Kd.R_mono (Kd.R_step (Kd.R_bound h) (fun i hi hlt => k.block i hlt ?_)) (fun _ hk => hk.1)
  rintro ⟨_, cells, t, hc, ht⟩
  obtain ⟨_, _, _, q, hq, cells', hc'⟩ := hi
  rw [hc] at hc'
  injection hc' with hc'
  injection hc' with _ hc'
  subst hc'
  exact hT _ hq ht
theorem Row.foot {w : World} {base b : Nat} {v : Value} {xs : List (Int × Int)} (h : Row w base b v xs) : ∀ k, Foot b v k → Typed base w [28, 67] k := by
  rintro k (rfl | hk)
  · exact ⟨h.from_, _, _, h.blk, by simp⟩
  · obtain ⟨inner, ho⟩ := Kd.R_own h.row
    obtain ⟨cells, hc⟩ := own_typed ho k hk
    exact ⟨h.own_base k hk, _, _, hc, by simp⟩
theorem Eff.noneT {w w1 : World} (h : Eff (fun _ => False) w w1) (S : Nat → Prop) : Eff S w w1 := h.mono (fun _ h => h.elim)
theorem Eff.drawnT {w w1 : World} (h : Drawn0 w w1) (S : Nat → Prop) : Eff S w w1 := (Eff.refl S w).drawn h
theorem Row.afterT {w w1 : World} {base b : Nat} {v : Value} {xs : List (Int × Int)} {T : List Nat} (h : Row w base b v xs) {B : Nat} (k : Eff (Typed B w T) w w1) (h1 : 28 ∉ T) (h2 : 67 ∉ T) : Row w1 base b v xs := by
  refine ⟨(k.block b h.lt ?_).trans h.blk, h.from_, R_typed h.row k ?_⟩
  · rintro ⟨_, cells, t, hc, ht⟩
    rw [h.blk] at hc
    injection hc with hc
    injection hc with _ hc
    subst hc
    exact h1 ht
  · intro q hq
    have : q = 67 := by
      rcases List.mem_cons.1 hq with e | e
      · exact e
      · exact absurd e (by simp [kd, Kd.pair, Kd.int, Kd.scalar])
    subst this
    exact h2
/-- A queue that was made since w, whatever else was made and written in blocks of other types. -/
def NewT (w W : World) (b : Nat) (l : List (Int × Int)) : Prop := ∃ v xs, Row W w.heap.size b v xs ∧ QS xs l
theorem NewS.toT {w W : World} {b : Nat} {l : List (Int × Int)} (h : NewS w W b l) : NewT w W b l := by
  obtain ⟨xs, ⟨v, r, e⟩, q⟩ := h
  exact ⟨v, xs, r, q⟩
theorem NewT.after {w W W' : World} {b : Nat} {l : List (Int × Int)} (h : NewT w W b l) (k : Eff (fun _ => False) W W') : NewT w W' b l := by
  obtain ⟨v, xs, r, q⟩ := h
  exact ⟨v, xs, r.eff k id (fun _ _ => id), q⟩
theorem NewT.afterT {w W W' : World} {b : Nat} {l : List (Int × Int)} {T : List Nat} (h : NewT w W b l) {B : Nat} (k : Eff (Typed B W T) W W') (h1 : 28 ∉ T) (h2 : 67 ∉ T) : NewT w W' b l := by
  obtain ⟨v, xs, r, q⟩ := h
  exact ⟨v, xs, r.afterT k h1 h2, q⟩
theorem NewT.alloc {w W : World} {b : Nat} {l : List (Int × Int)} (h : NewT w W b l) (o : Obj) : NewT w (W.alloc o) b l := h.after ((Eff.refl _ _).alloc o)
theorem NewT.drew {w W : World} {b : Nat} {l : List (Int × Int)} (h : NewT w W b l) : NewT w W.drew b l := h.after ((Eff.refl _ _).drew)
theorem NewT.drewN {w W : World} {b : Nat} {l : List (Int × Int)} (h : NewT w W b l) (n : Nat) : NewT w (W.drewN n) b l := h.after ((Eff.refl _ _).drawn ⟨_, rfl⟩)
theorem NewT.mk (w W : World) (h : w.heap.size ≤ W.heap.size) : NewT w (W.alloc (.cells #[.slice none 0 0] 28)) W.heap.size [] :=
  ⟨.slice none 0 0, [], ⟨(heap_alloc_new W _), h, Kd.R_nil _ _ _ _ _⟩, QS.nil⟩
/-- What the queues' calls may change. -/
abbrev QEff (w W W' : World) : Prop := Eff (Typed w.heap.size W [28, 67]) W W'
theorem NewT.post {w W W' : World} {b : Nat} {v : Value} {xs ys l : List (Int × Int)} (r : Row W w.heap.size b v xs) (p : Post W w.heap.size b v ys W') (q : QS ys l) : NewT w W' b l ∧ QEff w W W' := by
  obtain ⟨v', r', e', o⟩ := p
  exact ⟨⟨v', ys, r', q⟩, e'.mono r.foot⟩
theorem NewT.push {w W : World} {b : Nat} {l : List (Int × Int)} (h : NewT w W b l) (hw : w.heap.size ≤ W.heap.size) (hm : l.length < 900000) (x y : Int) : Calls Try.prog 11 #[.pointer (some ⟨b, 0, none⟩), .int .i64 x, .int .i64 y] W fun e w' => e = .returned (.tuple #[]) ∧ NewT w w' b (insL (x, y) l) ∧ QEff w W w' := by
  obtain ⟨v, xs, r, q⟩ := h
  exact (qpush_calls W _ b v xs x y r hw (by rw [q.length]; exact hm)).mono fun _ _ ⟨he, hp⟩ => ⟨he, NewT.post r hp (q.push _)⟩
theorem NewT.peek {w W : World} {b : Nat} {l : List (Int × Int)} (h : NewT w W b l) : Calls Try.prog 12 #[.pointer (some ⟨b, 0, none⟩)] W fun e w' => e = .returned (.tuple #[.int .i64 (hd l).1, .int .i64 (hd l).2, .bool (decide (0 < l.length))]) ∧ NewT w w' b l ∧ QEff w W w' := by
  obtain ⟨v, xs, r, q⟩ := h
  rw [← q.top, ← q.length]
  exact (qpeek_calls W _ b v xs r).mono fun _ _ ⟨he, hp⟩ => ⟨he, NewT.after ⟨v, xs, r, q⟩ ((Eff.refl _ _).drawn hp), Eff.drawnT hp _⟩
theorem NewT.pop {w W : World} {b : Nat} {l : List (Int × Int)} (h : NewT w W b l) (hm : l.length < 900000) : Calls Try.prog 13 #[.pointer (some ⟨b, 0, none⟩)] W fun e w' => e = .returned (.tuple #[.int .i64 (hd l).1, .int .i64 (hd l).2, .bool (decide (0 < l.length))]) ∧ NewT w w' b l.tail ∧ QEff w W w' := by
  obtain ⟨v, xs, r, q⟩ := h
  rw [← q.length] at hm
  rw [← q.top, ← q.length]
  exact (qpop_calls W _ b v xs r hm).mono fun _ _ ⟨he, hp⟩ => ⟨he, NewT.post r hp q.tail⟩
theorem NewT.len {w W : World} {b : Nat} {l : List (Int × Int)} (h : NewT w W b l) : Calls Try.prog 14 #[.pointer (some ⟨b, 0, none⟩)] W fun e w' => e = .returned (.int .i64 l.length) ∧ NewT w w' b l ∧ QEff w W w' := by
  obtain ⟨v, xs, r, q⟩ := h
  rw [← q.length]
  exact (qlen_calls W _ b v xs r).mono fun _ _ ⟨he, hp⟩ => ⟨he, NewT.after ⟨v, xs, r, q⟩ ((Eff.refl _ _).drawn hp), Eff.drawnT hp _⟩
theorem NewT.lt {w W : World} {b : Nat} {l : List (Int × Int)} (h : NewT w W b l) : b < W.heap.size := by
  obtain ⟨v, xs, r, q⟩ := h
  exact r.lt
theorem NewT.from_ {w W : World} {b : Nat} {l : List (Int × Int)} (h : NewT w W b l) : w.heap.size ≤ b := by
  obtain ⟨v, xs, r, q⟩ := h
  exact r.from_
theorem below_q {w W W' : World} (h : Below w.heap.size w W) (e : QEff w W W') : Below w.heap.size w W' := below_typed h (Nat.le_refl _) e (Nat.le_refl _)
theorem R_q {α : Type} {d : Kd α} {e : Nat} {ok : Nat → Prop} {w W w1 : World} {base : Nat} {v : Value} {xs : List α} (h : d.R e W base ok v xs) (k : QEff w W w1) (h1 : 28 ∉ e :: d.E) (h2 : 67 ∉ e :: d.E) : d.R e w1 base ok v xs :=
  R_typed h k (fun q hq hm => by
    rcases List.mem_cons.1 hm with rfl | hm
    · exact h1 hq
    · rcases List.mem_cons.1 hm with rfl | hm
      · exact h2 hq
      · cases hm)
end Go.Proofs.Ytdhajfimhjbbiaa.Q
