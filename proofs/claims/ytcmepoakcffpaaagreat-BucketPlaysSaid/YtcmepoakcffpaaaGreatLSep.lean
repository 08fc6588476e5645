import Derived.Test.YtcmepoakcffpaaaGreatLMap
import Derived.Test.YtcmepoakcffpaaaGreatWMore
import Derived.Test.YtcmepoakcffpaaaGreatWKept
import Derived.Deep.AppendLies
namespace Go.Proofs.YtcmepoakcffpaaaGreat.L
open Go Go.RowKit
set_option linter.unusedVariables false
set_option linter.unusedSimpArgs false
open Go.Proofs.YtcmepoakcffpaaaGreatW.PrintWords Go.Proofs.YtcmepoakcffpaaaGreatW.PrintLast Go.Proofs.YtcmepoakcffpaaaGreatW.PrintMore
/-! ### what a call may change -/
structure Eff (S : Nat → Prop) (w w' : World) : Prop where
  os : w'.os = w.os
  tape : w'.tape = w.tape
  output : w'.output = w.output
  size : w.heap.size ≤ w'.heap.size
  block : ∀ k, k < w.heap.size → ¬ S k → w'.heap[k]? = w.heap[k]?
abbrev Eff0 (w w' : World) : Prop := Eff (fun _ => False) w w'
section
variable {S S' : Nat → Prop} {w w1 w2 : World}
theorem Eff.refl (S : Nat → Prop) (w : World) : Eff S w w := ⟨rfl, rfl, rfl, Nat.le_refl _, fun _ _ _ => rfl⟩
theorem Eff.trans (h : Eff S w w1) (k : Eff S' w1 w2) (hs : ∀ i, S' i → S i ∨ w.heap.size ≤ i) : Eff S w w2 :=
  ⟨k.os.trans h.os, k.tape.trans h.tape, k.output.trans h.output, Nat.le_trans h.size k.size, fun i hi hn => (k.block i (Nat.lt_of_lt_of_le hi h.size) (fun h2 => (hs i h2).elim hn (fun h3 => by omega))).trans (h.block i hi hn)⟩
theorem Eff.mono (h : Eff S w w1) (hs : ∀ i, S i → S' i) : Eff S' w w1 := ⟨h.os, h.tape, h.output, h.size, fun i hi hn => h.block i hi (fun h2 => hn (hs i h2))⟩
theorem Eff.any (h : Eff0 w w1) (S : Nat → Prop) : Eff S w w1 := h.mono (fun _ h => h.elim)
theorem Eff.then0 (h : Eff S w w1) (k : Eff0 w1 w2) : Eff S w w2 := h.trans k (fun _ h => h.elim)
theorem Eff.of_below (h : Below w.heap.size w w1) : Eff S w w1 := ⟨h.os, h.tape, h.output, h.size, fun i hi _ => h.block i hi⟩
theorem Eff.of_grown {row : Option Nat} (h : w.grownBy w1 row) (hs : ∀ i, row = some i → S i) : Eff S w w1 := ⟨h.os, h.tape, h.output, h.size, fun i hi hn => h.block i hi (fun e => hn (hs i e.symm))⟩
theorem Eff.drew (h : Eff S w w1) : Eff S w w1.drew := ⟨h.os, h.tape, h.output, h.size, h.block⟩
theorem Eff.drawn (h : Eff S w w1) (k : Drawn0 w1 w2) : Eff S w w2 := h.trans (S' := fun _ => False) (Eff.of_below (by
  obtain ⟨n, rfl⟩ := k
  exact pw_below_drewN (Below.refl _ _) n)) (fun _ h => h.elim)
theorem Eff.drewN (h : Eff S w w1) (n : Nat) : Eff S w (w1.drewN n) := h.drawn ⟨_, rfl⟩
theorem Eff.alloc (h : Eff S w w1) (o : Obj) : Eff S w (w1.alloc o) := h.trans (S' := fun _ => False) (Eff.of_below (below_alloc (Below.refl _ _) o)) (fun _ h => h.elim)
theorem Eff.set (h : Eff S w w1) (p : Addr) (u : Value) (hp : S p.block ∨ w.heap.size ≤ p.block) : Eff S w (w1.setCell p u) := by
  refine h.trans (S' := fun k => k = p.block) ⟨rfl, rfl, rfl, by simp [World.setCell], fun i _ hn => Below.heap_setCell w1 p u i hn⟩ ?_
  rintro i rfl
  exact hp
theorem Eff.below {B : Nat} (h : Eff S w w1) (hB : B ≤ w.heap.size) (hs : ∀ k, S k → B ≤ k) : Below B w w1 := ⟨h.os, h.tape, h.output, h.size, fun k hk => h.block k (by omega) (fun h2 => by have := hs k h2; omega)⟩
theorem Eff.below0 (h : Eff0 w w1) : Below w.heap.size w w1 := h.below (Nat.le_refl _) (fun _ h => h.elim)
theorem Eff.cell (h : Eff S w w1) {b o : Nat} (hb : b < w.heap.size) (hs : ¬ S b) : w1.cell? ⟨b, o, none⟩ = w.cell? ⟨b, o, none⟩ := by
  unfold World.cell?
  rw [h.block b hb hs]
theorem below_eff {B : Nat} (h : Below B w w1) (hB : B ≤ w.heap.size) (e : Eff S w1 w2) (hS : ∀ k, S k → B ≤ k) : Below B w w2 :=
  ⟨e.os.trans h.os, e.tape.trans h.tape, e.output.trans h.output, Nat.le_trans h.size e.size, fun k hk => (e.block k (Nat.lt_of_lt_of_le hk (Nat.le_trans hB h.size)) (fun hs => by have := hS k hs; omega)).trans (h.block k hk)⟩
end
/-! ### what lies in memory, and in which blocks -/
structure HP where
  on : World → (Nat → Prop) → Prop
  frame : ∀ {W W' : World} {F : Nat → Prop}, on W F → (∀ k, F k → W'.heap[k]? = W.heap[k]?) → on W' F
  lt : ∀ {W : World} {F : Nat → Prop} {k : Nat}, on W F → F k → k < W.heap.size
theorem HP.eff {S : HP} {W W' : World} {F G : Nat → Prop} (h : S.on W F) (e : Eff G W W') (hd : ∀ k, F k → ¬ G k) : S.on W' F := S.frame h (fun k hk => e.block k (S.lt h hk) (hd k hk))
theorem HP.eff0 {S : HP} {W W' : World} {F : Nat → Prop} (h : S.on W F) (e : Eff0 W W') : S.on W' F := HP.eff h e (fun _ _ h => h)
/-- Both, in blocks of their own. -/
def Sep (S T : HP) : HP where
  on := fun W F => ∃ F1 F2, S.on W F1 ∧ T.on W F2 ∧ (∀ k, F1 k → ¬ F2 k) ∧ ∀ k, F k ↔ F1 k ∨ F2 k
  frame := by
    rintro W W' F ⟨F1, F2, h1, h2, hd, hF⟩ hk
    exact ⟨F1, F2, S.frame h1 (fun k h => hk k ((hF k).2 (.inl h))), T.frame h2 (fun k h => hk k ((hF k).2 (.inr h))), hd, hF⟩
  lt := by
    rintro W F k ⟨F1, F2, h1, h2, hd, hF⟩ hk
    rcases (hF k).1 hk with h | h
    · exact S.lt h1 h
    · exact T.lt h2 h
theorem Sep.comm {S T : HP} {W : World} {F : Nat → Prop} (h : (Sep S T).on W F) : (Sep T S).on W F := by
  obtain ⟨F1, F2, h1, h2, hd, hF⟩ := h
  exact ⟨F2, F1, h2, h1, fun k h h' => hd k h' h, fun k => (hF k).trans Or.comm⟩
theorem Sep.assoc {S T U : HP} {W : World} {F : Nat → Prop} (h : (Sep (Sep S T) U).on W F) : (Sep S (Sep T U)).on W F := by
  obtain ⟨F1, F2, ⟨G1, G2, g1, g2, gd, gF⟩, h2, hd, hF⟩ := h
  refine ⟨G1, fun k => G2 k ∨ F2 k, g1, ⟨G2, F2, g2, h2, fun k hk => hd k ((gF k).2 (.inr hk)), fun k => Iff.rfl⟩, fun k hk => ?_, fun k => ?_⟩
  · rintro (h | h)
    · exact gd k hk h
    · exact hd k ((gF k).2 (.inl hk)) h
  · rw [hF k, gF k, or_assoc]
theorem Sep.assoc' {S T U : HP} {W : World} {F : Nat → Prop} (h : (Sep S (Sep T U)).on W F) : (Sep (Sep S T) U).on W F := Sep.comm (Sep.assoc (Sep.comm (Sep.assoc (Sep.comm h))))
theorem Sep.imp {S T S' T' : HP} {W : World} {F : Nat → Prop} (h : (Sep S T).on W F) (hs : ∀ F, S.on W F → S'.on W F) (ht : ∀ F, T.on W F → T'.on W F) : (Sep S' T').on W F := by
  obtain ⟨F1, F2, h1, h2, hd, hF⟩ := h
  exact ⟨F1, F2, hs _ h1, ht _ h2, hd, hF⟩
/-- Nothing. -/
def Emp : HP where
  on := fun _ F => ∀ k, ¬ F k
  frame := fun h _ => h
  lt := fun h hk => absurd hk (h _)
/-- What is said of no memory. -/
def Pure_ (p : Prop) : HP where
  on := fun _ F => p ∧ ∀ k, ¬ F k
  frame := fun h _ => h
  lt := fun h hk => absurd hk (h.2 _)
/-- Many, each in blocks of its own. -/
def Stars : List HP → HP
  | [] => Emp
  | S :: l => Sep S (Stars l)
theorem Stars.focus {S : HP} {W : World} : ∀ {l1 l2 : List HP} {F : Nat → Prop}, (Stars (l1 ++ S :: l2)).on W F → (Sep S (Stars (l1 ++ l2))).on W F
  | [], _, _, h => h
  | T :: l1, l2, F, h => by
    have h2 : (Sep T (Sep S (Stars (l1 ++ l2)))).on W F := Sep.imp h (fun _ h => h) (fun _ h => Stars.focus h)
    have h3 : (Sep (Sep S T) (Stars (l1 ++ l2))).on W F := Sep.imp (Sep.assoc' h2) (fun _ h => Sep.comm h) (fun _ h => h)
    exact Sep.assoc h3
theorem Stars.unfocus {S : HP} {W : World} : ∀ {l1 l2 : List HP} {F : Nat → Prop}, (Sep S (Stars (l1 ++ l2))).on W F → (Stars (l1 ++ S :: l2)).on W F
  | [], _, _, h => h
  | T :: l1, l2, F, h => by
    have h2 : (Sep (Sep T S) (Stars (l1 ++ l2))).on W F := Sep.imp (Sep.assoc' (T := T) h) (fun _ h => Sep.comm h) (fun _ h => h)
    exact Sep.imp (Sep.assoc h2) (fun _ h => h) (fun _ h => Stars.unfocus h)
/-- What a call leaves that had S in the blocks F. -/
def Upd (W : World) (F : Nat → Prop) (S' : HP) (W' : World) : Prop := ∃ F', S'.on W' F' ∧ Eff F W W' ∧ ∀ k, F' k → F k ∨ W.heap.size ≤ k
theorem Upd.mk {W W' : World} {F F' : Nat → Prop} {S' : HP} (h : S'.on W' F') (e : Eff F W W') (hk : ∀ k, F' k → F k ∨ W.heap.size ≤ k) : Upd W F S' W' := ⟨F', h, e, hk⟩
theorem Upd.same {W W' : World} {F : Nat → Prop} {S : HP} (h : S.on W F) (e : Eff0 W W') : Upd W F S W' := ⟨F, HP.eff0 h e, e.any F, fun _ hk => .inl hk⟩
theorem Upd.sub {W W' : World} {F F1 : Nat → Prop} {S : HP} (h : Upd W F1 S W') (hk : ∀ k, F1 k → F k) : Upd W F S W' := by
  obtain ⟨F', a, b, c⟩ := h
  exact ⟨F', a, b.mono hk, fun k h => (c k h).imp (hk k) id⟩
theorem Upd.imp {W W' : World} {F : Nat → Prop} {S T : HP} (h : Upd W F S W') (hi : ∀ F, S.on W' F → T.on W' F) : Upd W F T W' := by
  obtain ⟨F', a, b, c⟩ := h
  exact ⟨F', hi _ a, b, c⟩
theorem Upd.trans {W W1 W2 : World} {F : Nat → Prop} {S T : HP} (h : Upd W F S W1) (k : ∀ F1, S.on W1 F1 → Upd W1 F1 T W2) : Upd W F T W2 := by
  obtain ⟨F1, h1, e1, k1⟩ := h
  obtain ⟨F2, h2, e2, k2⟩ := k F1 h1
  refine ⟨F2, h2, e1.trans e2 k1, fun i hi => ?_⟩
  rcases k2 i hi with h | h
  · exact k1 i h
  · exact .inr (Nat.le_trans e1.size h)
theorem Upd.after {W W1 W2 : World} {F : Nat → Prop} {S : HP} (h : Upd W F S W1) (e : Eff0 W1 W2) : Upd W F S W2 := h.trans (fun _ h1 => Upd.same h1 e)
theorem Upd.of {W0 W W1 : World} {F : Nat → Prop} {S : HP} (e : Eff0 W0 W) (h : Upd W F S W1) : Upd W0 F S W1 := by
  obtain ⟨F1, h1, e1, k1⟩ := h
  exact ⟨F1, h1, (e.any F).trans e1 (fun _ h => .inl h), fun k hk => (k1 k hk).imp id (fun h => Nat.le_trans e.size h)⟩
/-- One of two is looked at: what is done to it leaves the other one. -/
theorem Sep.focus {W : World} {F : Nat → Prop} {S T : HP} (h : (Sep S T).on W F) : ∃ F1, S.on W F1 ∧ (∀ k, F1 k → F k) ∧ ∀ (S' : HP) (W' : World), Upd W F1 S' W' → Upd W F (Sep S' T) W' := by
  obtain ⟨F1, F2, h1, h2, hd, hF⟩ := h
  refine ⟨F1, h1, fun k hk => (hF k).2 (.inl hk), fun S' W' c => ?_⟩
  obtain ⟨F1', h1', e, hk⟩ := c
  refine ⟨fun k => F1' k ∨ F2 k, ⟨F1', F2, h1', HP.eff h2 e (fun k h2 h1 => hd k h1 h2), fun k h1 h2' => ?_, fun k => Iff.rfl⟩, e.mono (fun i hi => (hF i).2 (.inl hi)), fun k hk' => ?_⟩
  · rcases hk k h1 with h | h
    · exact hd k h h2'
    · have := HP.lt _ h2 h2'; omega
  · rcases hk' with h | h
    · exact (hk k h).imp (fun h => (hF k).2 (.inl h)) id
    · exact .inl ((hF k).2 (.inr h))
theorem Sep.focusR {W : World} {F : Nat → Prop} {S T : HP} (h : (Sep S T).on W F) : ∃ F1, T.on W F1 ∧ (∀ k, F1 k → F k) ∧ ∀ (T' : HP) (W' : World), Upd W F1 T' W' → Upd W F (Sep S T') W' := by
  obtain ⟨F1, a, b, c⟩ := Sep.focus (Sep.comm h)
  exact ⟨F1, a, b, fun T' W' u => (c T' W' u).imp (fun _ h => Sep.comm h)⟩
/-- The frame: what lies beside stays. -/
theorem Upd.left {W W' : World} {F : Nat → Prop} {S S' T : HP} (h : (Sep S T).on W F) (c : ∀ F1, S.on W F1 → Upd W F1 S' W') : Upd W F (Sep S' T) W' := by
  obtain ⟨F1, F2, h1, h2, hd, hF⟩ := h
  obtain ⟨F1', h1', e, hk⟩ := c F1 h1
  refine ⟨fun k => F1' k ∨ F2 k, ⟨F1', F2, h1', HP.eff h2 e (fun k h2 h1 => hd k h1 h2), fun k h1 h2' => ?_, fun k => Iff.rfl⟩, e.mono (fun i hi => (hF i).2 (.inl hi)), fun k hk' => ?_⟩
  · rcases hk k h1 with h | h
    · exact hd k h h2'
    · have := HP.lt _ h2 h2'; omega
  · rcases hk' with h | h
    · exact (hk k h).imp (fun h => (hF k).2 (.inl h)) id
    · exact .inl ((hF k).2 (.inr h))
theorem Upd.right {W W' : World} {F : Nat → Prop} {S T T' : HP} (h : (Sep S T).on W F) (c : ∀ F1, T.on W F1 → Upd W F1 T' W') : Upd W F (Sep S T') W' := (Upd.left (Sep.comm h) c).imp (fun _ h => Sep.comm h)
/-- Something new beside it. -/
theorem Upd.new {W W' : World} {F : Nat → Prop} {S N : HP} (h : S.on W F) (e : Eff0 W W') {F' : Nat → Prop} (n : N.on W' F') (hn : ∀ k, F' k → W.heap.size ≤ k) : Upd W F (Sep S N) W' := by
  refine ⟨fun k => F k ∨ F' k, ⟨F, F', HP.eff0 h e, n, fun k h1 h2 => ?_, fun k => Iff.rfl⟩, e.any F, fun k hk => hk.imp id (hn k)⟩
  have := HP.lt _ h h1
  have := hn k h2
  omega
/-! ### what was made since w -/
structure Own (w W : World) (S : HP) : Prop where
  below : Below w.heap.size w W
  has : ∃ F, S.on W F ∧ ∀ k, F k → w.heap.size ≤ k
theorem Own.le {w W : World} {S : HP} (h : Own w W S) : w.heap.size ≤ W.heap.size := h.below.size
theorem Own.start (w : World) : Own w w Emp := ⟨Below.refl _ _, fun _ => False, fun _ h => h, fun _ h => h.elim⟩
theorem Own.upd {w W W' : World} {S S' : HP} (h : Own w W S) (c : ∀ F, S.on W F → Upd W F S' W') : Own w W' S' := by
  obtain ⟨hb, F, hS, hF⟩ := h
  obtain ⟨F', h', e, hk⟩ := c F hS
  refine ⟨below_eff hb (Nat.le_refl _) e hF, F', h', fun k hk' => ?_⟩
  rcases hk k hk' with h | h
  · exact hF k h
  · exact Nat.le_trans hb.size h
theorem Own.imp {w W : World} {S T : HP} (h : Own w W S) (hi : ∀ F, S.on W F → T.on W F) : Own w W T := ⟨h.below, h.has.imp fun _ hF => ⟨hi _ hF.1, hF.2⟩⟩
theorem Own.after {w W W' : World} {S : HP} (h : Own w W S) (e : Eff0 W W') : Own w W' S := h.upd (fun _ hS => Upd.same hS e)
theorem Own.alloc {w W : World} {S : HP} (h : Own w W S) (o : Obj) : Own w (W.alloc o) S := h.after ((Eff.refl _ _).alloc o)
theorem Own.drew {w W : World} {S : HP} (h : Own w W S) : Own w W.drew S := h.after ((Eff.refl _ _).drew)
theorem Own.drewN {w W : World} {S : HP} (h : Own w W S) (n : Nat) : Own w (W.drewN n) S := h.after ((Eff.refl _ _).drewN n)
theorem Own.drawn {w W W' : World} {S : HP} (h : Own w W S) (k : Drawn0 W W') : Own w W' S := h.after ((Eff.refl _ _).drawn k)
theorem Own.new {w W W' : World} {S N : HP} (h : Own w W S) (e : Eff0 W W') {F' : Nat → Prop} (n : N.on W' F') (hn : ∀ k, F' k → W.heap.size ≤ k) : Own w W' (Sep S N) := h.upd (fun _ hS => Upd.new hS e n hn)
theorem Own.left {w W : World} {S T : HP} (h : Own w W (Sep S T)) : Own w W S := by
  obtain ⟨hb, F, ⟨F1, F2, h1, h2, hd, hF⟩, hw⟩ := h
  exact ⟨hb, F1, h1, fun k hk => hw k ((hF k).2 (.inl hk))⟩
theorem Own.comm {w W : World} {S T : HP} (h : Own w W (Sep S T)) : Own w W (Sep T S) := h.imp (fun _ h => Sep.comm h)
theorem Own.right {w W : World} {S T : HP} (h : Own w W (Sep S T)) : Own w W T := h.comm.left
theorem Own.assoc {w W : World} {S T U : HP} (h : Own w W (Sep (Sep S T) U)) : Own w W (Sep S (Sep T U)) := h.imp (fun _ h => Sep.assoc h)
theorem Own.assoc' {w W : World} {S T U : HP} (h : Own w W (Sep S (Sep T U))) : Own w W (Sep (Sep S T) U) := h.imp (fun _ h => Sep.assoc' h)
theorem Own.emp {w W : World} {S : HP} (h : Own w W (Sep Emp S)) : Own w W S := h.right
/-- A call that works on S. -/
theorem Own.call {P : Program} {f : FuncId} {args : Array Value} {w W : World} {S : HP} {Q : Ending → World → Prop} (h : Own w W S) (c : ∀ F, S.on W F → Calls P f args W (fun e W' => ∃ (E : Prop) (S' : HP), E ∧ Upd W F S' W' ∧ (E → Own w W' S' → Q e W'))) : Calls P f args W Q := by
  have h0 := h
  obtain ⟨hb, F, hS, hF⟩ := h
  refine (c F hS).mono fun e W' ⟨E, S', he, ⟨F', h', ef, hk⟩, q⟩ => q he ⟨below_eff hb (Nat.le_refl _) ef hF, F', h', fun k hk' => ?_⟩
  rcases hk k hk' with h | h
  · exact hF k h
  · exact Nat.le_trans hb.size h
/-- A call that leaves S' where S was, and answers r. -/
theorem Own.calls {P : Program} {f : FuncId} {args : Array Value} {w W : World} {S S' : HP} {r : Value} (h : Own w W S) (c : ∀ F, S.on W F → Calls P f args W (fun e W' => e = .returned r ∧ Upd W F S' W')) : Calls P f args W (fun e W' => e = .returned r ∧ Own w W' S') :=
  h.call (fun F hS => (c F hS).mono fun e W' ⟨he, hu⟩ => ⟨_, S', he, hu, fun a b => ⟨a, b⟩⟩)
/-! ### rows and cells -/
theorem lt_of_same {W W' : World} {k : Nat} (h1 : k < W.heap.size) (h2 : W'.heap[k]? = W.heap[k]?) : k < W'.heap.size := by
  rw [Array.getElem?_eq_getElem h1] at h2
  exact (Array.getElem?_eq_some_iff.1 h2).1
/-- The row v holds xs. -/
def RowAt {α : Type} (d : Kd α) (e : Nat) (v : Value) (xs : List α) : HP where
  on := fun W F => d.R e W 0 F v xs ∧ ∀ k, F k → k < W.heap.size
  frame := fun {W W' F} h hk => ⟨Kd.R_step h.1 (fun k h1 _ => hk k h1), fun k hF => lt_of_same (h.2 k hF) (hk k hF)⟩
  lt := fun h hk => h.2 _ hk
theorem RowAt.reads {α : Type} {d : Kd α} {e : Nat} {v : Value} {xs : List α} {W : World} {F : Nat → Prop} (h : (RowAt d e v xs).on W F) : ∃ A c, v = .slice A xs.length c ∧ xs.length ≤ c ∧ d.C W A xs.length xs := Kd.R_reads h.1
theorem Own.row {α : Type} {d : Kd α} {e : Nat} {v : Value} {xs : List α} {w W : World} (h : Own w W (RowAt d e v xs)) : ∃ A c, v = .slice A xs.length c ∧ xs.length ≤ c ∧ d.C W A xs.length xs := by
  obtain ⟨_, F, h, _⟩ := h
  exact RowAt.reads h
/-- A row that a call has made. -/
theorem Own.newRow {α : Type} {d : Kd α} {e : Nat} {v : Value} {xs : List α} {w W W' : World} {S : HP} (h : Own w W S) (hb : Below W.heap.size W W') (hr : d.R e W' W.heap.size (fun _ => True) v xs) : Own w W' (Sep S (RowAt d e v xs)) := by
  refine h.new (Eff.of_below hb) (F' := fun k => W.heap.size ≤ k ∧ k < W'.heap.size) ⟨Kd.R_lower (Kd.R_mono (Kd.R_bound hr) (fun k hk => ⟨hk.2.1, hk.2.2.1⟩)) (Nat.zero_le _), fun k hk => hk.2⟩ (fun k hk => hk.1)
theorem Own.nilRow {α : Type} (d : Kd α) (e : Nat) {w W : World} {S : HP} (h : Own w W S) : Own w W (Sep S (RowAt d e (.slice none 0 0) [])) :=
  h.new (Eff.refl _ _) (F' := fun _ => False) ⟨Kd.R_nil _ _ _ _ _, fun _ h => h.elim⟩ (fun _ h => h.elim)
/-- Another row is written: this one stays. -/
theorem R_other {α β : Type} {d : Kd α} {d' : Kd β} {e e' base base' : Nat} {ok ok' : Nat → Prop} {w w1 : World} {v v' : Value} {xs : List α} {ys : List β} (h : d.R e w base ok v xs) (h' : d'.R e' w base' ok' v' ys) (hne : e' ∉ e :: d.E) (k : Eff (fun k => v'.ownBlock = some k) w w1) : d.R e w1 base ok v xs := by
  refine Kd.R_mono (Kd.R_step (Kd.R_bound h) (fun i hi hlt => k.block i hlt (fun hv => ?_))) (fun _ hk => hk.1)
  obtain ⟨inner, ho⟩ := Kd.R_own h'
  obtain ⟨cells, hc⟩ := own_typed ho i hv
  obtain ⟨_, _, _, q, hq, cells', hc'⟩ := hi
  rw [hc] at hc'
  injection hc' with hc'
  injection hc' with _ hc'
  subst hc'
  exact hne hq
/-- Block b holds these cells. -/
def CellsAt (b : Nat) (cs : Array Value) (t : Nat) : HP where
  on := fun W F => W.heap[b]? = some (.cells cs t (0, 0)) ∧ F b ∧ ∀ k, F k → k < W.heap.size
  frame := fun h hk => ⟨(hk _ h.2.1).trans h.1, h.2.1, fun k hF => lt_of_same (h.2.2 k hF) (hk k hF)⟩
  lt := fun h hk => h.2.2 _ hk
theorem CellsAt.cell {b t : Nat} {cs : Array Value} {W : World} {F : Nat → Prop} (h : (CellsAt b cs t).on W F) (i : Nat) : W.cell? ⟨b, i, none⟩ = cs[i]? := blk_cell h.1 i
theorem CellsAt.frozen {b t : Nat} {cs : Array Value} {W : World} {F : Nat → Prop} (h : (CellsAt b cs t).on W F) (i : Nat) : W.frozen? ⟨b, i, none⟩ = false := blk_frozen h.1 i
theorem CellsAt.set {b t : Nat} {cs : Array Value} {W : World} {F : Nat → Prop} (h : (CellsAt b cs t).on W F) (i : Nat) (u : Value) : Upd W F (CellsAt b (cs.setIfInBounds i u) t) (W.setCell ⟨b, i, none⟩ u) :=
  ⟨F, ⟨blk_set h.1 i u, h.2.1, fun k hk => by simpa [World.setCell] using h.2.2 k hk⟩, (Eff.refl _ _).set _ _ (.inl h.2.1), fun _ hk => .inl hk⟩
theorem Own.cells {b t : Nat} {cs : Array Value} {w W : World} (h : Own w W (CellsAt b cs t)) : (∀ i, W.cell? ⟨b, i, none⟩ = cs[i]?) ∧ (∀ i, W.frozen? ⟨b, i, none⟩ = false) := by
  obtain ⟨_, F, h, _⟩ := h
  exact ⟨CellsAt.cell h, CellsAt.frozen h⟩
theorem Own.newCells {w W : World} {S : HP} (h : Own w W S) (cs : Array Value) (t : Nat) : Own w (W.alloc (.cells cs t)) (Sep S (CellsAt W.heap.size cs t)) :=
  h.new ((Eff.refl _ _).alloc _) (F' := fun k => k = W.heap.size) ⟨heap_alloc_new W _, rfl, by rintro k rfl; simp⟩ (by rintro k rfl; exact Nat.le_refl _)
/-- Block b is the map l. -/
def MapHP {K : Type} (κ : Key K) (b : Nat) (l : List (K × Value)) : HP where
  on := fun W F => MapAt κ W b l ∧ F b ∧ ∀ k, F k → k < W.heap.size
  frame := fun h hk => ⟨h.1.move (hk _ h.2.1), h.2.1, fun k hF => lt_of_same (h.2.2 k hF) (hk k hF)⟩
  lt := fun h hk => h.2.2 _ hk
theorem MapHP.upd {K : Type} {κ : Key K} {b : Nat} {l l' : List (K × Value)} {W W' : World} {F : Nat → Prop} (h : (MapHP κ b l).on W F) (m : MapAt κ W' b l') (g : W.grownBy W' (some b)) : Upd W F (MapHP κ b l') W' :=
  ⟨F, ⟨m, h.2.1, fun k hk => Nat.lt_of_lt_of_le (h.2.2 k hk) g.size⟩, Eff.of_grown g (fun i hi => by injection hi with hi; subst hi; exact h.2.1), fun _ hk => .inl hk⟩
theorem Own.newMap {K : Type} (κ : Key K) {w W : World} {S : HP} (h : Own w W S) : Own w (W.alloc (.map #[] 0)) (Sep S (MapHP κ W.heap.size [])) :=
  h.new ((Eff.refl _ _).alloc _) (F' := fun k => k = W.heap.size) ⟨MapAt.made κ W, rfl, by rintro k rfl; simp⟩ (by rintro k rfl; exact Nat.le_refl _)
theorem Own.map {K : Type} {κ : Key K} {b : Nat} {l : List (K × Value)} {w W : World} (h : Own w W (MapHP κ b l)) : MapAt κ W b l := by
  obtain ⟨_, F, h, _⟩ := h
  exact h.1

/-! ### a map of pointers to things that lie each in blocks of its own -/
section
variable {K X : Type}
def ptrs (l : List (K × Nat × X)) : List (K × Value) := l.map (fun p => (p.1, .pointer (some ⟨p.2.1, 0, none⟩)))
def MapPart (κ : Key K) (mb : Option Nat) (l : List (K × Value)) : HP := match mb with
  | none => Pure_ (l = [])
  | some b => MapHP κ b l
def many (O : Nat → X → HP) (l : List (K × Nat × X)) : HP := Stars (l.map (fun p => O p.2.1 p.2.2))
/-- The map mb (nil: there is none) holds pointers to what l tells. -/
def PMap (κ : Key K) (O : Nat → X → HP) (mb : Option Nat) (l : List (K × Nat × X)) : HP := Sep (MapPart κ mb (ptrs l)) (many O l)
variable [DecidableEq K]
set_option linter.unusedSectionVars false
/-- What is there at a key. -/
def getP (l : List (K × Nat × X)) (k : K) : Option (Nat × X) := (l.find? (fun p => decide (p.1 = k))).map (·.2)
def ptrOf (o : Option (Nat × X)) : Value := .pointer (o.map (fun p => ⟨p.1, 0, none⟩))
/-- One changed. -/
def setP (l : List (K × Nat × X)) (k : K) (x : X) : List (K × Nat × X) := l.map (fun p => if p.1 = k then (p.1, p.2.1, x) else p)
/-- One is gone. -/
def delP (l : List (K × Nat × X)) (k : K) : List (K × Nat × X) := l.filter (fun p => decide (p.1 ≠ k))
theorem look_ptrs' (l : List (K × Nat × X)) (k : K) : look (ptrs l) k = (getP l k).map (fun p => .pointer (some ⟨p.1, 0, none⟩)) := by
  unfold look ptrs getP
  rw [List.find?_map]
  have e : ((fun p : K × Value => decide (p.1 = k)) ∘ fun p : K × Nat × X => (p.1, Value.pointer (some ⟨p.2.1, 0, none⟩))) = fun p => decide (p.1 = k) := rfl
  rw [e]
  cases l.find? (fun p => decide (p.1 = k)) <;> rfl
theorem look_ptrs (l : List (K × Nat × X)) (k : K) : (look (ptrs l) k).getD (.pointer none) = ptrOf (getP l k) := by
  rw [look_ptrs']
  unfold ptrOf
  cases getP l k <;> rfl
theorem ptrs_keys (l : List (K × Nat × X)) : (ptrs l).map (·.1) = l.map (·.1) := by unfold ptrs; rw [List.map_map]; rfl
variable {κ : Key K} {O : Nat → X → HP} {mb : Option Nat} {l : List (K × Nat × X)} {P : Program} {W W' : World} {F : Nat → Prop}
theorem MapPart.nodup {m : List (K × Value)} (h : (MapPart κ mb m).on W F) : (m.map (·.1)).Nodup := by
  cases mb with
  | none => rw [show m = [] from h.1]; exact List.Pairwise.nil
  | some b => exact h.1.nodup
theorem PMap.nodup (h : (PMap κ O mb l).on W F) : (l.map (·.1)).Nodup := by
  obtain ⟨F1, F2, h1, _⟩ := h
  rw [← ptrs_keys]
  exact MapPart.nodup h1
theorem PMap.look {t kt et : TypeId} (h : (PMap κ O mb l).on W F) (ht : P.underlying t = some (.map kt et)) (hk : P.underlying kt = some κ.d) (hz : (zeroValue et).run P W = .ok (.pointer none) W) (k : K) :
    (Instr.lookup t (.map mb) (κ.enc k) false).run P W = .ok (ptrOf (getP l k)) W := by
  obtain ⟨F1, F2, h1, _⟩ := h
  rw [← look_ptrs]
  cases mb with
  | none =>
    rw [show ptrs l = [] from h1.1]
    exact lookup_nil κ W ht hk hz k false
  | some b => exact h1.1.lookup ht hk hz k false
theorem MapPart.len {m : List (K × Value)} {t kt et : TypeId} (h : (MapPart κ mb m).on W F) (ht : P.underlying t = some (.map kt et)) (ty : TypeId) : (Builtin.len_ #[t] ty #[.map mb]).run P W = .ok (.int .i64 m.length) W := by
  cases mb with
  | none =>
    rw [show m = [] from h.1]
    simp [Builtin.len_, run_underlying ht, goInt]
  | some b =>
    obtain ⟨es, clock, hb, h2, h3⟩ := h.1
    have : es.size = m.length := by
      have := congrArg List.length h2
      simpa using this
    simp [Builtin.len_, run_underlying ht, MapKept.run_getObj_map hb, Result.andThen, goInt, this]
theorem PMap.len {t kt et : TypeId} (h : (PMap κ O mb l).on W F) (ht : P.underlying t = some (.map kt et)) (ty : TypeId) : (Builtin.len_ #[t] ty #[.map mb]).run P W = .ok (.int .i64 l.length) W := by
  obtain ⟨F1, F2, h1, _⟩ := h
  have := MapPart.len (P := P) h1 ht ty
  rwa [show (ptrs l).length = l.length by unfold ptrs; simp] at this
theorem getP_split {k : K} {b : Nat} {x : X} (h : getP l k = some (b, x)) : ∃ l1 l2, l = l1 ++ (k, b, x) :: l2 ∧ ∀ p ∈ l1, p.1 ≠ k := by
  unfold getP at h
  cases hf : l.find? (fun p => decide (p.1 = k)) with
  | none => rw [hf] at h; cases h
  | some p =>
    rw [hf] at h
    simp only [Option.map_some, Option.some.injEq] at h
    obtain ⟨hp, l1, l2, hl, hn⟩ := List.find?_eq_some_iff_append.1 hf
    have hp1 : p.1 = k := by simpa using hp
    refine ⟨l1, l2, ?_, fun q hq => by simpa using hn q hq⟩
    rw [hl, ← hp1, ← h]
theorem getP_none {k : K} (h : getP l k = none) : ∀ p ∈ l, p.1 ≠ k := by
  unfold getP at h
  cases hf : l.find? (fun p => decide (p.1 = k)) with
  | none => exact fun p hp he => by simpa [he] using List.find?_eq_none.1 hf p hp
  | some p => rw [hf] at h; cases h
theorem ptrs_setP (l : List (K × Nat × X)) (k : K) (x : X) : ptrs (setP l k x) = ptrs l := by
  unfold ptrs setP
  rw [List.map_map]
  congr 1
  funext p
  simp only [Function.comp_apply]
  split <;> rfl
theorem setP_split {l1 l2 : List (K × Nat × X)} {k : K} {b : Nat} {x x' : X} (hn : ((l1 ++ (k, b, x) :: l2).map (·.1)).Nodup) : setP (l1 ++ (k, b, x) :: l2) k x' = l1 ++ (k, b, x') :: l2 := by
  rw [List.map_append, List.map_cons, List.nodup_append] at hn
  obtain ⟨_, n2, n3⟩ := hn
  unfold setP
  rw [List.map_append, List.map_cons, if_pos rfl]
  congr 1
  · refine (List.map_congr_left (fun p hp => ?_)).trans (List.map_id _)
    rw [if_neg (fun he => n3 p.1 (List.mem_map.2 ⟨p, hp, rfl⟩) k List.mem_cons_self he)]
    rfl
  · congr 1
    refine (List.map_congr_left (fun p hp => ?_)).trans (List.map_id _)
    rw [if_neg (fun he => (List.nodup_cons.1 n2).1 (List.mem_map.2 ⟨p, hp, he⟩))]
    rfl
theorem delP_split {l1 l2 : List (K × Nat × X)} {k : K} {b : Nat} {x : X} (hn : ((l1 ++ (k, b, x) :: l2).map (·.1)).Nodup) : delP (l1 ++ (k, b, x) :: l2) k = l1 ++ l2 := by
  rw [List.map_append, List.map_cons, List.nodup_append] at hn
  obtain ⟨_, n2, n3⟩ := hn
  unfold delP
  rw [List.filter_append, List.filter_cons_of_neg (by simp), List.filter_eq_self.2, List.filter_eq_self.2]
  · intro p hp
    simp only [ne_eq, decide_not, Bool.not_eq_eq_eq_not, Bool.not_true, decide_eq_false_iff_not]
    exact fun he => (List.nodup_cons.1 n2).1 (List.mem_map.2 ⟨p, hp, he⟩)
  · intro p hp
    simp only [ne_eq, decide_not, Bool.not_eq_eq_eq_not, Bool.not_true, decide_eq_false_iff_not]
    exact fun he => n3 p.1 (List.mem_map.2 ⟨p, hp, rfl⟩) k List.mem_cons_self he
/-- One is looked at: what is done to it leaves all others. -/
theorem PMap.focus {k : K} {b : Nat} {x : X} (h : (PMap κ O mb l).on W F) (hg : getP l k = some (b, x)) : ∃ F1, (O b x).on W F1 ∧ (∀ k, F1 k → F k) ∧ ∀ (x' : X) (W' : World), Upd W F1 (O b x') W' → Upd W F (PMap κ O mb (setP l k x')) W' := by
  have hn := PMap.nodup h
  obtain ⟨l1, l2, hl, _⟩ := getP_split hg
  obtain ⟨F2, h2, k2, u2⟩ := Sep.focusR h
  rw [hl] at h2 hn
  unfold many at h2
  rw [List.map_append, List.map_cons] at h2
  obtain ⟨F1, h1, k1, u1⟩ := Sep.focus (Stars.focus h2)
  refine ⟨F1, h1, fun k hk => k2 k (k1 k hk), fun x' W' c => ?_⟩
  unfold PMap
  rw [ptrs_setP]
  refine u2 _ _ ?_
  rw [hl, setP_split hn]
  unfold many
  rw [List.map_append, List.map_cons]
  exact (u1 _ _ c).imp (fun _ h => Stars.unfocus h)
/-- What is done to one. -/
theorem PMap.one {k : K} {b : Nat} {x x' : X} (h : (PMap κ O mb l).on W F) (hg : getP l k = some (b, x)) (c : ∀ F1, (O b x).on W F1 → Upd W F1 (O b x') W') : Upd W F (PMap κ O mb (setP l k x')) W' := by
  have hn := PMap.nodup h
  obtain ⟨l1, l2, hl, _⟩ := getP_split hg
  unfold PMap
  rw [ptrs_setP]
  refine Upd.right h (fun F2 h2 => ?_)
  rw [hl] at h2 hn ⊢
  rw [setP_split hn]
  unfold many at h2 ⊢
  rw [List.map_append, List.map_cons] at h2 ⊢
  exact (Upd.left (Stars.focus h2) c).imp (fun _ h => Stars.unfocus h)
/-- .. and is known of it. -/
theorem PMap.has {k : K} {b : Nat} {x : X} (h : (PMap κ O mb l).on W F) (hg : getP l k = some (b, x)) : ∃ F1, (O b x).on W F1 ∧ ∀ k, F1 k → F k := by
  obtain ⟨l1, l2, hl, _⟩ := getP_split hg
  obtain ⟨_, _, _, h2, _, hF⟩ := h
  rw [hl] at h2
  unfold many at h2
  rw [List.map_append, List.map_cons] at h2
  obtain ⟨F1, _, h3, _, _, hF2⟩ := Stars.focus h2
  exact ⟨F1, h3, fun k hk => (hF k).2 (.inr ((hF2 k).2 (.inl hk)))⟩
/-- One is taken away. -/
theorem PMap.drop {t kt et : TypeId} {k : K} {b m : Nat} {x : X} (h : (PMap κ O (some m) l).on W F) (hg : getP l k = some (b, x)) (ht : P.underlying t = some (.map kt et)) (hk : P.underlying kt = some κ.d) (ty : TypeId) :
    ∃ w', (Builtin.delete_ #[t, kt] ty #[.map (some m), κ.enc k]).run P W = .ok (.tuple #[]) w' ∧ Upd W F (PMap κ O (some m) (delP l k)) w' := by
  have hn := PMap.nodup h
  obtain ⟨l1, l2, hl, _⟩ := getP_split hg
  obtain ⟨F1, F2, h1, h2, hd, hF⟩ := h
  obtain ⟨w', hrun, hm, hgr, hs⟩ := h1.1.drop ht hk k ty
  refine ⟨w', hrun, ?_⟩
  have e1 : del (ptrs l) k = ptrs (delP l k) := by
    unfold del ptrs delP
    rw [List.filter_map]
    rfl
  rw [e1] at hm
  have hu : Upd W F (Sep (MapHP κ m (ptrs (delP l k))) (many O l)) w' := Upd.left (S := MapHP κ m (ptrs l)) ⟨F1, F2, h1, h2, hd, hF⟩ (fun G hG => MapHP.upd hG hm hgr)
  obtain ⟨F', ⟨G1, G2, g1, g2, gd, gF⟩, e, hk'⟩ := hu
  rw [hl] at g2 hn
  unfold many at g2
  rw [List.map_append, List.map_cons] at g2
  obtain ⟨H1, H2, _, k2, _, kF⟩ := Stars.focus g2
  refine ⟨fun k => G1 k ∨ H2 k, ⟨G1, H2, g1, ?_, fun k a b => gd k a ((kF k).2 (.inr b)), fun _ => Iff.rfl⟩, e, fun k hk => hk' k ((gF k).2 (hk.imp id (fun h => (kF k).2 (.inr h))))⟩
  rw [hl, delP_split hn]
  unfold many
  rw [List.map_append]
  exact k2
theorem Stars.snoc {S : HP} : ∀ {l : List HP} {W : World} {F : Nat → Prop}, (Sep (Stars l) S).on W F → (Stars (l ++ [S])).on W F
  | [], W, F, h => Sep.comm h
  | T :: l, W, F, h => Sep.imp (Sep.assoc h) (fun _ h => h) (fun _ h => Stars.snoc h)
/-- One more. -/
theorem PMap.insert {t kt et : TypeId} {k : K} {b m : Nat} {x : X} (h : (Sep (PMap κ O (some m) l) (O b x)).on W F) (hg : getP l k = none) (ht : P.underlying t = some (.map kt et)) (hk : P.underlying kt = some κ.d) :
    ∃ w', (Instr.mapUpdate t (.map (some m)) (κ.enc k) (.pointer (some ⟨b, 0, none⟩))).run P W = .ok () w' ∧ Upd W F (PMap κ O (some m) (l ++ [(k, b, x)])) w' := by
  have h0 := Sep.assoc h
  obtain ⟨F1, F2, h1, h2, hd, hF⟩ := h0
  obtain ⟨w', hrun, hm, hgr, hs⟩ := h1.1.update ht hk k (.pointer (some ⟨b, 0, none⟩))
  refine ⟨w', hrun, ?_⟩
  have e1 : put (ptrs l) k (.pointer (some ⟨b, 0, none⟩)) = ptrs (l ++ [(k, b, x)]) := by
    unfold put
    rw [look_ptrs', hg]
    unfold ptrs
    simp
  rw [e1] at hm
  refine (Upd.left (S := MapHP κ m (ptrs l)) ⟨F1, F2, h1, h2, hd, hF⟩ (fun G hG => MapHP.upd hG hm hgr)).imp (fun G hG => ?_)
  refine Sep.imp hG (fun _ h => h) (fun _ h => ?_)
  unfold many at h ⊢
  rw [List.map_append]
  exact Stars.snoc h
/-- A map that is made. -/
theorem PMap.made (κ : Key K) (O : Nat → X → HP) (W : World) : ∃ F, (PMap κ O (some W.heap.size) []).on (W.alloc (.map #[] 0)) F ∧ ∀ k, F k → W.heap.size ≤ k := by
  refine ⟨fun k => k = W.heap.size, ⟨fun k => k = W.heap.size, fun _ => False, ⟨MapAt.made κ W, rfl, by rintro k rfl; simp⟩, fun _ h => h, fun _ _ h => h, fun k => by simp⟩, by rintro k rfl; exact Nat.le_refl _⟩
theorem PMap.none (κ : Key K) (O : Nat → X → HP) (W : World) : (PMap κ O none []).on W (fun _ => False) :=
  ⟨fun _ => False, fun _ => False, ⟨rfl, fun _ h => h⟩, fun _ h => h, fun _ h => h.elim, fun k => by simp⟩
theorem getP_setP {k k' : K} {x : X} : getP (setP l k x) k' = (getP l k').map (fun p => if k' = k then (p.1, x) else p) := by
  unfold getP setP
  rw [List.find?_map]
  have e : ((fun p : K × Nat × X => decide (p.1 = k')) ∘ fun p : K × Nat × X => if p.1 = k then (p.1, p.2.1, x) else p) = fun p => decide (p.1 = k') := by
    funext p
    simp only [Function.comp_apply]
    split <;> rfl
  rw [e]
  cases hf : l.find? (fun p => decide (p.1 = k')) with
  | none => rfl
  | some p =>
    have hp : p.1 = k' := by simpa using List.find?_some hf
    simp only [Option.map_some, hp]
    split <;> rfl
end

end Go.Proofs.YtcmepoakcffpaaaGreat.L
