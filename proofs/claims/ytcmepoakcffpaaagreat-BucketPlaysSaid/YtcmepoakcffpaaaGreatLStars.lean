import Derived.Test.YtcmepoakcffpaaaGreatLSep
namespace Go.Proofs.YtcmepoakcffpaaaGreat.L
open Go Go.RowKit Go.Proofs.YtcmepoakcffpaaaGreatW.PrintWords Go.Proofs.YtcmepoakcffpaaaGreatW.PrintLast Go.Proofs.YtcmepoakcffpaaaGreatW.PrintMore Go.Proofs.YtcmepoakcffpaaaGreat.L
set_option linter.unusedVariables false
set_option linter.unusedSimpArgs false
/-! What lies in memory as a list of parts, each in blocks of its own: parts by their places. -/
theorem Stars.pull {S : HP} {W : World} : ∀ {l : List HP} {i : Nat} {F : Nat → Prop}, l[i]? = some S → (Stars l).on W F → (Sep S (Stars (l.eraseIdx i))).on W F
  | [], _, _, h, _ => by cases h
  | T :: l, 0, F, h, hF => by
    injection h with h
    subst h
    exact hF
  | T :: l, i + 1, F, h, hF => by
    have h2 : (Sep T (Sep S (Stars (l.eraseIdx i)))).on W F := Sep.imp hF (fun _ h => h) (fun _ h3 => Stars.pull (by simpa using h) h3)
    have h3 : (Sep (Sep S T) (Stars (l.eraseIdx i))).on W F := Sep.imp (Sep.assoc' h2) (fun _ h => Sep.comm h) (fun _ h => h)
    exact Sep.assoc h3
theorem Stars.push {S : HP} {W : World} : ∀ {l : List HP} {i : Nat} {F : Nat → Prop}, i < l.length → (Sep S (Stars (l.eraseIdx i))).on W F → (Stars (l.set i S)).on W F
  | [], _, _, h, _ => by simp at h
  | T :: l, 0, F, h, hF => hF
  | T :: l, i + 1, F, h, hF => by
    have h2 : (Sep S (Sep T (Stars (l.eraseIdx i)))).on W F := hF
    have h3 : (Sep (Sep T S) (Stars (l.eraseIdx i))).on W F := Sep.imp (Sep.assoc' h2) (fun _ h => Sep.comm h) (fun _ h => h)
    exact Sep.imp (Sep.assoc h3) (fun _ h => h) (fun _ h4 => Stars.push (by simpa using h) h4)
theorem Stars.add {N : HP} {W : World} : ∀ {l : List HP} {F : Nat → Prop}, (Sep (Stars l) N).on W F → (Stars (l ++ [N])).on W F
  | [], F, h => Sep.comm h
  | T :: l, F, h => Sep.imp (Sep.assoc h) (fun _ h => h) (fun _ h => Stars.add h)
theorem Stars.one {N : HP} {W : World} {F : Nat → Prop} (h : N.on W F) : (Stars [N]).on W F := ⟨F, fun _ => False, h, fun _ h => h, fun _ _ h => h, fun _ => by simp⟩
theorem Stars.ofOne {N : HP} {W : World} {F : Nat → Prop} (h : (Stars [N]).on W F) : N.on W F := by
  obtain ⟨F1, F2, h1, h2, hd, hF⟩ := h
  have : F = F1 := funext fun k => propext ((hF k).trans ⟨fun h => h.elim id (fun h => absurd h (h2 k)), .inl⟩)
  rw [this]
  exact h1
theorem Stars.del {S : HP} {W : World} {l : List HP} {i : Nat} {F : Nat → Prop} (hi : l[i]? = some S) (h : (Stars l).on W F) : ∃ F2, (Stars (l.eraseIdx i)).on W F2 ∧ ∀ k, F2 k → F k := by
  obtain ⟨F1, F2, h1, h2, hd, hF⟩ := Stars.pull hi h
  exact ⟨F2, h2, fun k hk => (hF k).2 (.inr hk)⟩
/-- Parts in another order. -/
theorem Stars.perm {W : World} {l l' : List HP} (h : l.Perm l') : ∀ {F : Nat → Prop}, (Stars l).on W F → (Stars l').on W F := by
  induction h with
  | nil => exact fun h => h
  | cons x _ ih => exact fun h => Sep.imp h (fun _ h => h) (fun _ h => ih h)
  | swap x y l =>
    intro F h
    exact Sep.assoc (Sep.imp (Sep.assoc' h) (fun _ h => Sep.comm h) (fun _ h => h))
  | trans _ _ i1 i2 => exact fun h => i2 (i1 h)
theorem Stars.append {W : World} : ∀ {l m : List HP} {F : Nat → Prop}, (Stars (l ++ m)).on W F → (Sep (Stars l) (Stars m)).on W F
  | [], m, F, h => ⟨fun _ => False, F, fun _ h => h, h, fun _ h => h.elim, fun _ => by simp⟩
  | T :: l, m, F, h => Sep.assoc' (Sep.imp h (fun _ h => h) (fun _ h => Stars.append h))
theorem Stars.unappend {W : World} : ∀ {l m : List HP} {F : Nat → Prop}, (Sep (Stars l) (Stars m)).on W F → (Stars (l ++ m)).on W F
  | [], m, F, h => by
    obtain ⟨F1, F2, h1, h2, hd, hF⟩ := h
    have : F = F2 := funext fun k => propext ((hF k).trans ⟨fun h => h.elim (fun h => absurd h (h1 k)) id, .inr⟩)
    rw [this]
    exact h2
  | T :: l, m, F, h => Sep.imp (Sep.assoc h) (fun _ h => h) (fun _ h => Stars.unappend h)
section
variable {w W W' : World} {l : List HP} {S S' N : HP} {i : Nat}
theorem Own.fact (o : Own w W (Stars l)) (i : Nat) (hi : l[i]? = some S) : ∃ F, S.on W F := by
  obtain ⟨_, F, h, _⟩ := o
  obtain ⟨F1, _, h1, _⟩ := Stars.pull hi h
  exact ⟨F1, h1⟩
theorem Own.at_ (o : Own w W (Stars l)) (i : Nat) (hi : l[i]? = some S) : Own w W S := by
  have := o.imp (T := Sep S (Stars (l.eraseIdx i))) (fun _ h => Stars.pull hi h)
  exact this.left
theorem Own.setAt (o : Own w W (Stars l)) (i : Nat) (hi : l[i]? = some S) (c : ∀ F, S.on W F → Upd W F S' W') : Own w W' (Stars (l.set i S')) := by
  have hl : i < l.length := (List.getElem?_eq_some_iff.1 hi).1
  have h1 := o.imp (T := Sep S (Stars (l.eraseIdx i))) (fun _ h => Stars.pull hi h)
  exact (h1.upd (S' := Sep S' (Stars (l.eraseIdx i))) (fun F hF => Upd.left hF c)).imp (fun _ h => Stars.push hl h)
theorem Own.impAt (o : Own w W (Stars l)) (i : Nat) (hi : l[i]? = some S) (c : ∀ F, S.on W F → S'.on W F) : Own w W (Stars (l.set i S')) :=
  o.setAt i hi (fun F hF => ⟨F, c F hF, Eff.refl _ _, fun _ h => .inl h⟩)
theorem Own.newAt (o : Own w W (Stars l)) (e : Eff0 W W') {F' : Nat → Prop} (n : N.on W' F') (hn : ∀ k, F' k → W.heap.size ≤ k) : Own w W' (Stars (l ++ [N])) := (o.new e n hn).imp (fun _ h => Stars.add h)
theorem Own.addAt (o : Own w W (Sep (Stars l) N)) : Own w W (Stars (l ++ [N])) := o.imp (fun _ h => Stars.add h)
theorem Own.pullAt (o : Own w W (Stars l)) (i : Nat) (hi : l[i]? = some S) : Own w W (Sep S (Stars (l.eraseIdx i))) := o.imp (fun _ h => Stars.pull hi h)
theorem Own.pushAt (o : Own w W (Sep S (Stars (l.eraseIdx i)))) (hi : i < l.length) : Own w W (Stars (l.set i S)) := o.imp (fun _ h => Stars.push hi h)
theorem Own.dropAt (o : Own w W (Stars l)) (i : Nat) (hi : l[i]? = some S) : Own w W (Stars (l.eraseIdx i)) := (o.pullAt i hi).right
theorem Own.cellsNew (o : Own w W (Stars l)) (cs : Array Value) (t : Nat) : Own w (W.alloc (.cells cs t)) (Stars (l ++ [CellsAt W.heap.size cs t])) := (Own.newCells o cs t).addAt
theorem Own.perm {l' : List HP} (o : Own w W (Stars l)) (h : l.Perm l') : Own w W (Stars l') := o.imp (fun _ hF => Stars.perm h hF)
theorem Own.cellsAt {b t : Nat} {cs : Array Value} (o : Own w W (Stars l)) (i : Nat) (hi : l[i]? = some (CellsAt b cs t)) : (∀ j, W.cell? ⟨b, j, none⟩ = cs[j]?) ∧ (∀ j, W.frozen? ⟨b, j, none⟩ = false) := Own.cells (o.at_ i hi)
theorem Own.setCellAt {b t : Nat} {cs : Array Value} (o : Own w W (Stars l)) (i : Nat) (hi : l[i]? = some (CellsAt b cs t)) (j : Nat) (u : Value) : Own w (W.setCell ⟨b, j, none⟩ u) (Stars (l.set i (CellsAt b (cs.setIfInBounds j u) t))) := o.setAt i hi (fun _ hF => CellsAt.set hF j u)
/-- A call that works on one part. -/
theorem Own.callAt {P : Program} {f : FuncId} {args : Array Value} {X : Type} {S' : X → HP} {E : X → Ending → World → Prop} (o : Own w W (Stars l)) (i : Nat) (hi : l[i]? = some S) (c : ∀ F, S.on W F → Calls P f args W (fun e W' => ∃ x, E x e W' ∧ Upd W F (S' x) W')) : Calls P f args W (fun e W' => ∃ x, E x e W' ∧ Own w W' (Stars (l.set i (S' x)))) := by
  have hl : i < l.length := (List.getElem?_eq_some_iff.1 hi).1
  have o1 := o.pullAt i hi
  obtain ⟨hb, F, hF, hFw⟩ := o1
  obtain ⟨F1, h1, k1, u1⟩ := Sep.focus hF
  refine (c F1 h1).mono ?_
  rintro e W' ⟨x, hE, hU⟩
  obtain ⟨F', h', ef, hk⟩ := u1 _ _ hU
  refine ⟨x, hE, Own.pushAt (S := S' x) ⟨below_eff hb (Nat.le_refl _) ef hFw, F', h', fun k hk' => ?_⟩ hl⟩
  rcases hk k hk' with h | h
  · exact hFw k h
  · exact Nat.le_trans hb.size h
/-- A call that only makes memory, of which N is told. -/
theorem Own.callNew {P : Program} {f : FuncId} {args : Array Value} {X : Type} {N : X → HP} {E : X → Ending → World → Prop} (o : Own w W (Stars l)) (c : Calls P f args W (fun e W' => ∃ x, E x e W' ∧ Own W W' (N x))) : Calls P f args W (fun e W' => ∃ x, E x e W' ∧ Own w W' (Stars (l ++ [N x]))) := by
  refine c.mono ?_
  rintro e W' ⟨x, hE, hb, F, hF, hk⟩
  exact ⟨x, hE, o.newAt (Eff.of_below hb) hF hk⟩
end
/-! ### a map that is gone through -/
section
variable {K : Type} [DecidableEq K] {κ : Key K}
/-- The map in block b, and what goes through it, in block r. -/
def MapIt (κ : Key K) (r b : Nat) (l left : List (K × Value)) : HP where
  on := fun W F => Iter κ W r b l left ∧ F b ∧ F r ∧ ∀ k, F k → k < W.heap.size
  frame := fun h hk => ⟨Iter.move h.1 (hk _ h.2.1) (hk _ h.2.2.1), h.2.1, h.2.2.1, fun k hF => lt_of_same (h.2.2.2 k hF) (hk k hF)⟩
  lt := fun h hk => h.2.2.2 _ hk
theorem MapIt.start {b : Nat} {l : List (K × Value)} {W : World} {F : Nat → Prop} (h : (MapHP κ b l).on W F) {o : Obj} (hI : Iter κ (W.alloc o) W.heap.size b l l) : Upd W F (MapIt κ W.heap.size b l l) (W.alloc o) := by
  refine ⟨fun k => F k ∨ k = W.heap.size, ⟨hI, .inl h.2.1, .inr rfl, fun k hk => ?_⟩, (Eff.refl _ _).alloc _, fun k hk => hk.imp id (fun h => Nat.le_of_eq h.symm)⟩
  rcases hk with h' | rfl
  · have := h.2.2 k h'
    simp
    omega
  · simp
theorem MapIt.next {r b : Nat} {l left left' : List (K × Value)} {W w' : World} {F : Nat → Prop} (h : (MapIt κ r b l left).on W F) (hI : Iter κ w' r b l left') (hg : W.grownBy w' (some r)) : Upd W F (MapIt κ r b l left') w' :=
  ⟨F, ⟨hI, h.2.1, h.2.2.1, fun k hk => Nat.lt_of_lt_of_le (h.2.2.2 k hk) hg.size⟩, Eff.of_grown hg (fun i hi => by injection hi with hi; subst hi; exact h.2.2.1), fun _ hk => .inl hk⟩
theorem MapIt.stop {r b : Nat} {l left : List (K × Value)} {W : World} {F : Nat → Prop} (h : (MapIt κ r b l left).on W F) : (MapHP κ b l).on W F := ⟨h.1.map, h.2.1, h.2.2.2⟩
end
end Go.Proofs.YtcmepoakcffpaaaGreat.L
