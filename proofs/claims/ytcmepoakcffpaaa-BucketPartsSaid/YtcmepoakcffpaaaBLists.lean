import Derived.Test.YtcmepoakcffpaaaBGrow
import Derived.Test.YtcmepoakcffpaaaLStars
import Derived.Test.YtcmepoakcffpaaaProg
import Derived.BigRegion
import Derived.BigQuiet
import Derived.Deep.QuietTactic
import Derived.Deep.AppendLies
import Derived.ChangeAlike
import Derived.Outline
import Derived.WalkKit
import Derived.KernelRfl
import Derived.Deep.LoopGhost
import Derived.Deep.RegionLaw
import Derived.Test.YtcmepoakcffpaaaWMore
import Derived.Test.YtcmepoakcffpaaaWKept
import Derived.Test.YtcmepoakcffpaaaLSep
namespace Go.Proofs.Ytcmepoakcffpaaa.L
open Go Go.RowKit Go.Proofs.YtcmepoakcffpaaaW.PrintWords Go.Proofs.YtcmepoakcffpaaaW.PrintLast Go.Proofs.YtcmepoakcffpaaaW.PrintMore Go.Proofs.Ytcmepoakcffpaaa.L
set_option linter.unusedVariables false
set_option linter.unusedSimpArgs false
/-! Rows of one's own: more behind, one written anew, read by the words' kinds. -/
section
variable {α : Type} {enc : α → List Value} {k e : Nat}
theorem Gr.now {u v : Value} {xs ys : List α} {W : World} {F : Nat → Prop} (h : (Gr enc k e u xs v ys).on W F) : (RwAt enc k e v ys).on W F := ⟨h.2.1, h.2.2.2⟩
theorem RwAt.append {P : Program} (hk0 : 0 < k) {t tx : TypeId} {i0 : TypeInfo} {z : Value} {v x : Value} {ys zs : List α} {W : World} {F : Nat → Prop} (hk : ∀ x, (enc x).length = k) (h1 : ∀ x, ∀ u ∈ enc x, u.oneCell' = true) (ht : P.underlying t = some (.slice e)) (hi : P.info? e = some i0) (hz : i0.zero = some z) (hzs : z.cells.size = k) (hs : i0.size = k) (hby : i0.bytes ≤ 1000)
    (h : (RwAt enc k e v ys).on W F) (src : Src P i0.size tx x zs.length (flatE enc zs) W) (hm : ys.length + zs.length < 900000) :
    ∃ A c W', (∀ ty, (Builtin.append_ #[t, tx] ty #[v, x]).run P W = .ok (.slice A (ys ++ zs).length c) W') ∧ Upd W F (RwAt enc k e (.slice A (ys ++ zs).length c) (ys ++ zs)) W' := by
  obtain ⟨A, c, W', hr, hU⟩ := Gr.append hk0 hk h1 ht hi hz hzs hs hby (Gr.start h) src hm
  exact ⟨A, c, W', hr, hU.imp (fun _ h => Gr.now h)⟩
/-- A literal of elements as a source. -/
theorem lit_src {P : Program} {size : Nat} {tx e' : TypeId} (hk : ∀ x, (enc x).length = k) (h1 : ∀ x, ∀ u ∈ enc x, u.oneCell' = true) (hu : P.underlying tx = some (.slice e')) (hs : size = k) {W : World} {b t : Nat} {zs : List α} {f : Nat × Nat} (h : W.heap[b]? = some (.cells (flatE enc zs).toArray t f)) (c : Nat) : Src P size tx (.slice (some ⟨b, 0, none⟩) zs.length c) zs.length (flatE enc zs) W :=
  Src.ofSlice (P := P) W hu ⟨b, 0, none⟩ zs.length c (flatE enc zs) (by rw [flatE_length hk, hs]) (fun j u hj => by
    rw [add_zero_off']
    unfold World.cell?
    rw [h]
    simp only [List.getElem?_toArray]
    exact hj) (oneL h1 zs)
/-- A row as a source. -/
theorem Rw.src {P : Program} {size : Nat} {tx e' : TypeId} (hk : ∀ x, (enc x).length = k) (h1 : ∀ x, ∀ u ∈ enc x, u.oneCell' = true) (hu : P.underlying tx = some (.slice e')) (hs : size = k) {v : Value} {zs : List α} {W : World} {F : Nat → Prop} (h : Rw enc k e v zs W F) : Src P size tx v zs.length (flatE enc zs) W := by
  rcases h with ⟨rfl, rfl⟩ | ⟨g, cap, rfl, hX, _⟩
  · exact Src.ofNil (P := P) W hu 0
  · refine Src.ofSlice (P := P) W hu ⟨g, 0, none⟩ zs.length cap (flatE enc zs) (by rw [flatE_length hk, hs]) (fun j u hj => ?_) (oneL h1 zs)
    rw [add_zero_off']
    exact hX.cells j u hj
/-- .. read by a kind of the words. -/
theorem Rw.C {d : Kd α} (hs : d.sz = k) (hk : ∀ x, (enc x).length = k) (hM : ∀ (w : World) (base : Nat) (ok : Nat → Prop) (x : α), d.M w base ok x (enc x)) {v : Value} {xs : List α} {W : World} {F : Nat → Prop} (h : Rw enc k e v xs W F) : ∃ A c, v = .slice A xs.length c ∧ xs.length ≤ c ∧ d.C W A xs.length xs := by
  rcases h with ⟨rfl, rfl⟩ | ⟨g, cap, rfl, hX, hF⟩
  · exact ⟨none, 0, rfl, Nat.le_refl _, rfl, by simp, fun h => absurd h (Nat.lt_irrefl 0)⟩
  · have := RowX.toR (d := d) (ok := F) hs hk hM hX hF
    exact Kd.R_reads this
/-- A row that a call made, told by the words' R, is one of one's own. -/
theorem RwAt.of_R {d : Kd α} (hs : d.sz = k) (hM : ∀ {w : World} {base : Nat} {ok : Nat → Prop} {x : α} {cs : List Value}, d.M w base ok x cs → cs = enc x) {v : Value} {xs : List α} {W : World} {base : Nat} {ok : Nat → Prop} (h : d.R e W base ok v xs) : (RwAt enc k e v xs).on W (fun b => v.ownBlock = some b) := by
  refine ⟨?_, fun b hb => Kd.R_lt h b hb⟩
  rcases Kd.R_own h with ⟨inner, ho⟩
  rcases ho.2 with ⟨hv, h0⟩ | ⟨g, cap, cur, hv, hg, _⟩
  · exact .inl ⟨hv, List.length_eq_zero_iff.mp h0⟩
  · subst hv
    have hX : RowX enc k e W base g cap xs := RowX.of_R (d := d) hs hM h
    exact .inr ⟨g, cap, rfl, ⟨Nat.zero_le _, hX.len, hX.max, hX.has⟩, by simp [Value.ownBlock]⟩
end
/-- One element of one cell is written anew. -/
theorem RwAt.put {α : Type} {f : α → Value} {e : Nat} {v : Value} {xs : List α} {W : World} {F : Nat → Prop} (h : (RwAt (fun x => [f x]) 1 e v xs).on W F) (j : Nat) (hj : j < xs.length) (y : α) : ∃ g c, v = .slice (some ⟨g, 0, none⟩) xs.length c ∧ xs.length ≤ c ∧ (∃ u, W.cell? ⟨g, j, none⟩ = some u) ∧ W.frozen? ⟨g, j, none⟩ = false ∧ Upd W F (RwAt (fun x => [f x]) 1 e v (xs.set j y)) (W.setCell ⟨g, j, none⟩ (f y)) := by
  rcases h.1 with ⟨_, rfl⟩ | ⟨g, cap, rfl, hX, hF⟩
  · exact absurd hj (Nat.not_lt_zero _)
  · refine ⟨g, cap, rfl, hX.len, Option.isSome_iff_exists.1 (hX.some j (by have := hX.len; omega)), hX.free j, F, ⟨.inr ⟨g, cap, by rw [List.length_set], ?_, hF⟩, fun b hb => ?_⟩, ?_, fun _ hb => .inl hb⟩
    · obtain ⟨cur, rest, hh, hc, ht⟩ := hX.has
      obtain ⟨cur', h3, h4, h5⟩ := setCells_row [f y] j W cur hh (by rw [hc]; have := hX.len; simp; omega)
      refine ⟨hX.le, by rw [List.length_set]; exact hX.len, hX.max, cur', rest, h3, by rw [h4, hc], ?_⟩
      have hfl : ∀ l : List α, flatE (fun x => [f x]) l = l.map f := fun l => by
        unfold flatE
        induction l with
        | nil => rfl
        | cons a l ih => rw [List.flatMap_cons, ih]; rfl
      rw [h5, ht, hfl, hfl, List.map_set]
      have hjl : j < (xs.map f).length := by rw [List.length_map]; exact hj
      rw [List.take_append_of_le_length (by omega), List.drop_append_of_le_length (by simp; omega), List.set_eq_take_append_cons_drop, if_pos hjl]
      simp
    · have := h.2 b hb
      simpa [World.setCell] using this
    · exact (Eff.refl _ _).set _ _ (.inl hF)
section
variable {w W : World} {l : List HP} {S : HP} {i : Nat}
/-- What is done to one part, told by what it makes of it. -/
theorem Own.actAt {X : Type} {S' : X → HP} {p : X → World → Prop} (o : Own w W (Stars l)) (i : Nat) (hi : l[i]? = some S) (c : ∀ F, S.on W F → ∃ x W', p x W' ∧ Upd W F (S' x) W') : ∃ x W', p x W' ∧ Own w W' (Stars (l.set i (S' x))) := by
  have hl : i < l.length := (List.getElem?_eq_some_iff.1 hi).1
  have o1 := o.pullAt i hi
  obtain ⟨hb, F, hF, hFw⟩ := o1
  obtain ⟨F1, h1, k1, u1⟩ := Sep.focus hF
  obtain ⟨x, W', hp, hU⟩ := c F1 h1
  obtain ⟨F', h', ef, hk⟩ := u1 _ _ hU
  refine ⟨x, W', hp, Own.pushAt (S := S' x) ⟨below_eff hb (Nat.le_refl _) ef hFw, F', h', fun k hk' => ?_⟩ hl⟩
  rcases hk k hk' with h | h
  · exact hFw k h
  · exact Nat.le_trans hb.size h
end
/-- append whose run is known, as a step of a region that draws. -/
theorem step_ap {P : Program} {ops : Array Oper} {o : Oper} {a : Act} {w : World} {K : Act → World → Prop} {Q : Exit → Act → World → Prop} {E : Prop} (hgd : o.guard = none) (d s : Operand) (t t' : TypeId) (ho : o.op = .call { callee := .builtin .append, args := #[d, s], argTypes := #[t, t'] })
    (v u : Value) (hd : a.eval d = v) (hs : a.eval s = u) {v' : Value} {w' : World} (hr : (Builtin.append_ #[t, t'] o.type #[v, u]).run P w = .ok v' w') (h : K (a.put o.dst v') w') : if Region.wanted o (yielded ops a.tmps) = true then Oper.wp P o a w K Q else E := by
  rw [if_pos (by simp [Region.wanted, hgd])]
  unfold Oper.wp execOp
  simp only [ho, resolve, invoke, builtin, Sem.run_bind, Sem.run_pure, Result.andThen_ok, List.map_toArray, List.map_cons, List.map_nil, hd, hs, hr]
  exact h
end Go.Proofs.Ytcmepoakcffpaaa.L
