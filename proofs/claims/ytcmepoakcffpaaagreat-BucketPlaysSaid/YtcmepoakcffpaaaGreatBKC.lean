import Derived.Test.YtcmepoakcffpaaaGreatBG
import Derived.Test.YtcmepoakcffpaaaGreatProg
import Derived.BigRegion
import Derived.BigQuiet
import Derived.Deep.QuietTactic
import Derived.Deep.AppendLies
import Derived.ChangeAlike
import Derived.Outline
import Derived.WalkKit
import Derived.KernelRfl
import Derived.Deep.LoopGhost
import Derived.Deep.RegionLaw
import Derived.Test.YtcmepoakcffpaaaGreatWMore
import Derived.Test.YtcmepoakcffpaaaGreatWKept
import Derived.Test.YtcmepoakcffpaaaGreatLSep
import Derived.Test.YtcmepoakcffpaaaGreatWEqStruct
import Derived.Deep.RegionHeld3
namespace Go.Proofs.YtcmepoakcffpaaaGreat.BK
open Go Go.RowKit Go.Proofs.YtcmepoakcffpaaaGreatW.PrintWords Go.Proofs.YtcmepoakcffpaaaGreatW.PrintLast Go.Proofs.YtcmepoakcffpaaaGreatW.PrintMore Go.Proofs.YtcmepoakcffpaaaGreat.L
set_option linter.unusedVariables false
set_option linter.unusedSimpArgs false
/-! ### the book of whatever lists: what is alike in all kinds -/
section
variable {α : Type}
/-- Rows of e as the slice type t, k cells an element. -/
structure KF (P : Program) (t e k : Nat) : Prop where
  und : P.underlying t = some (.slice e)
  info : ∃ i0 z, P.info? e = some i0 ∧ i0.zero = some z ∧ z.cells.size = k ∧ i0.size = k ∧ i0.bytes ≤ 1000
theorem KF.mk' {P : Program} {t e k b : Nat} {z : Value} (h : P.underlying t = some (.slice e)) (hi : (P.info? e).map (fun i => (i.zero, i.size, i.bytes)) = some (some z, k, b)) (hz : z.cells.size = k) (hb : b ≤ 1000) : KF P t e k := by
  obtain ⟨i0, hi, hq⟩ := Option.map_eq_some_iff.1 hi
  simp only [Prod.mk.injEq] at hq
  exact ⟨h, i0, z, hi, hq.1, hz, hq.2.1, by rw [hq.2.2]; exact hb⟩
variable {enc : α → List Value} {k e t : Nat} {P : Program}
theorem row_add (f : KF P t e k) (hk0 : 0 < k) (hk : ∀ x, (enc x).length = k) (h1 : ∀ x, ∀ u ∈ enc x, u.oneCell' = true) {v : Value} {xs : List α} {W : World} {F : Nat → Prop} (h : (RwAt enc k e v xs).on W F) (x : α) (hm : xs.length < 800000) :
    ∃ (q : Option Addr × Nat) (W' : World), (∀ ty, (Builtin.append_ #[t, t] ty #[v, .slice (some ⟨W.heap.size, 0, none⟩) 1 1]).run P (W.alloc (.cells (enc x).toArray e)) = .ok (.slice q.1 (xs.length + 1) q.2) W') ∧ Upd W F (RwAt enc k e (.slice q.1 (xs.length + 1) q.2) (xs ++ [x])) W' := by
  obtain ⟨i0, z, hi, hz, hzs, hs, hb⟩ := f.info
  have h2 := HP.eff0 h ((Eff.refl (fun _ => False) W).alloc (.cells (enc x).toArray e))
  have hfl : flatE enc [x] = enc x := by unfold flatE; simp
  have hsrc := lit_src (P := P) (enc := enc) (tx := t) (size := i0.size) (zs := [x]) hk h1 f.und hs (by rw [hfl]; exact heap_alloc_new W (.cells (enc x).toArray e)) 1
  obtain ⟨A, c, W', hr, hU⟩ := RwAt.append (P := P) (t := t) (tx := t) hk0 hk h1 f.und hi hz hzs hs hb h2 hsrc (by simp only [List.length_singleton]; omega)
  rw [List.length_append, List.length_singleton] at hr hU
  exact ⟨(A, c), W', hr, Upd.of ((Eff.refl (fun _ => False) W).alloc _) hU⟩
theorem row_join (f : KF P t e k) (hk0 : 0 < k) (hk : ∀ x, (enc x).length = k) (h1 : ∀ x, ∀ u ∈ enc x, u.oneCell' = true) {u v x : Value} {xs ys zs : List α} {W : World} {F G : Nat → Prop} (h : (Gr enc k e u xs v ys).on W F) (hx : Rw enc k e x zs W G) (hm : ys.length + zs.length < 900000) :
    ∃ (q : Option Addr × Nat) (W' : World), (∀ ty, (Builtin.append_ #[t, t] ty #[v, x]).run P W = .ok (.slice q.1 (ys ++ zs).length q.2) W') ∧ Upd W F (Gr enc k e u xs (.slice q.1 (ys ++ zs).length q.2) (ys ++ zs)) W' := by
  obtain ⟨i0, z, hi, hz, hzs, hs, hb⟩ := f.info
  obtain ⟨A, c, W', hr, hU⟩ := Gr.append (P := P) (t := t) (tx := t) hk0 hk h1 f.und hi hz hzs hs hb h (Rw.src hk h1 f.und hs hx) hm
  exact ⟨(A, c), W', hr, hU⟩
/-- A list that lies to be read, as what is put behind others. -/
theorem row_joinS (f : KF P t e k) (hk0 : 0 < k) (hk : ∀ x, (enc x).length = k) (h1 : ∀ x, ∀ u ∈ enc x, u.oneCell' = true) {v x : Value} {ys zs : List α} {W : World} {F : Nat → Prop} (h : (RwAt enc k e v ys).on W F) (hx : Src P k t x zs.length (flatE enc zs) W) (hm : ys.length + zs.length < 900000) :
    ∃ (q : Option Addr × Nat) (W' : World), (∀ ty, (Builtin.append_ #[t, t] ty #[v, x]).run P W = .ok (.slice q.1 (ys ++ zs).length q.2) W') ∧ Upd W F (RwAt enc k e (.slice q.1 (ys ++ zs).length q.2) (ys ++ zs)) W' := by
  obtain ⟨i0, z, hi, hz, hzs, hs, hb⟩ := f.info
  obtain ⟨A, c, W', hr, hU⟩ := RwAt.append (P := P) (t := t) (tx := t) hk0 hk h1 f.und hi hz hzs hs hb h (by rw [hs]; exact hx) hm
  exact ⟨(A, c), W', hr, hU⟩
/-- One element is written anew. -/
theorem RwAt.putK (hk : ∀ x, (enc x).length = k) {v : Value} {xs : List α} {W : World} {F : Nat → Prop} (h : (RwAt enc k e v xs).on W F) (j : Nat) (hj : j < xs.length) (y : α) :
    ∃ g c, v = .slice (some ⟨g, 0, none⟩) xs.length c ∧ xs.length ≤ c ∧ (∀ r, r < k → ∃ u, W.cell? ⟨g, j * k + r, none⟩ = some u) ∧ (∀ r, W.frozen? ⟨g, r, none⟩ = false) ∧ Upd W F (RwAt enc k e v (xs.set j y)) (W.setCells g (j * k) (enc y)) := by
  rcases h.1 with ⟨_, rfl⟩ | ⟨g, cap, rfl, hX, hF⟩
  · exact absurd hj (Nat.not_lt_zero _)
  · have hcap : j * k + k ≤ cap * k := by
      rw [← Nat.succ_mul]
      exact Nat.mul_le_mul_right _ (by have := hX.len; omega)
    refine ⟨g, cap, rfl, hX.len, fun r hr => Option.isSome_iff_exists.1 (hX.some _ (by omega)), hX.free, F, ⟨.inr ⟨g, cap, by rw [List.length_set], ?_, hF⟩, fun b hb => ?_⟩, (eff_setCells g _ _ W).mono (fun i hi => by subst hi; exact hF), fun _ hb => .inl hb⟩
    · obtain ⟨cur, rest, hh, hc, ht⟩ := hX.has
      obtain ⟨cur', h3, h4, h5⟩ := setCells_row (enc y) (j * k) W cur hh (by rw [hc, hk]; exact hcap)
      refine ⟨hX.le, by rw [List.length_set]; exact hX.len, hX.max, cur', rest, h3, by rw [h4, hc], ?_⟩
      have hx : xs = xs.take j ++ xs[j] :: xs.drop (j + 1) := by simp
      have hl : (xs.take j).length = j := by rw [List.length_take]; omega
      have hf1 : (flatE enc (xs.take j)).length = j * k := by rw [flatE_length hk, hl]
      have hs : xs.set j y = xs.take j ++ y :: xs.drop (j + 1) := by rw [List.set_eq_take_append_cons_drop, if_pos hj]
      rw [h5, ht, hs]
      have e2 : flatE enc xs = flatE enc (xs.take j) ++ (enc xs[j] ++ flatE enc (xs.drop (j + 1))) := by
        conv => lhs; rw [hx]
        rw [flatE_append, flatE_cons]
      rw [e2, flatE_append, flatE_cons]
      have e3 : (flatE enc (xs.take j) ++ (enc xs[j] ++ flatE enc (xs.drop (j + 1))) ++ rest).take (j * k) = flatE enc (xs.take j) := by
        rw [List.append_assoc, List.take_left' hf1]
      have e4 : (flatE enc (xs.take j) ++ (enc xs[j] ++ flatE enc (xs.drop (j + 1))) ++ rest).drop (j * k + (enc y).length) = flatE enc (xs.drop (j + 1)) ++ rest := by
        rw [List.append_assoc, ← List.drop_drop, List.drop_left' hf1, List.append_assoc, List.drop_left' (by rw [hk, hk])]
      rw [e3, e4]
      simp only [List.append_assoc]
    · have := h.2 b hb
      have := (eff_setCells g (j * k) (enc y) W).size
      omega
/-- An element of a row, by its cells. -/
theorem Rw.at_ (hk : ∀ x, (enc x).length = k) {v : Value} {xs : List α} {W : World} {F : Nat → Prop} (h : Rw enc k e v xs W F) (i : Nat) (hi : i < xs.length) : ∃ g c, v = .slice (some ⟨g, 0, none⟩) xs.length c ∧ xs.length ≤ c ∧ ∀ r u, (enc xs[i])[r]? = some u → W.cell? ⟨g, i * k + r, none⟩ = some u := by
  rcases h with ⟨_, rfl⟩ | ⟨g, cap, rfl, hX, _⟩
  · exact absurd hi (Nat.not_lt_zero _)
  · refine ⟨g, cap, rfl, hX.len, fun r u hu => hX.cells _ _ ?_⟩
    have hr : r < k := by
      have := (List.getElem?_eq_some_iff.1 hu).1
      rwa [hk] at this
    have hx : xs = xs.take i ++ xs[i] :: xs.drop (i + 1) := by simp
    have hl : (xs.take i).length = i := by rw [List.length_take]; omega
    have e2 : flatE enc xs = flatE enc (xs.take i) ++ (enc xs[i] ++ flatE enc (xs.drop (i + 1))) := by
      conv => lhs; rw [hx]
      rw [flatE_append, flatE_cons]
    rw [e2, List.getElem?_append_right (by rw [flatE_length hk, hl]; omega), flatE_length hk, hl, Nat.add_sub_cancel_left, List.getElem?_append_left (by rw [hk]; exact hr)]
    exact hu
/-- Cells that lie to be read. -/
def LieX (enc : α → List Value) (k : Nat) (W : World) (A : Option Addr) (xs : List α) : Prop := ∀ i, (h : i < xs.length) → ∃ ad, A = some ad ∧ ∀ r u, (enc xs[i])[r]? = some u → W.cell? (ad.add (i * k + r)) = some u
theorem LieX.eff {W W' : World} {A : Option Addr} {xs : List α} (h : LieX enc k W A xs) (e : Below W.heap.size W W') : LieX enc k W' A xs := fun i hi => by
  obtain ⟨ad, ha, hc⟩ := h i hi
  refine ⟨ad, ha, fun r u hu => ?_⟩
  have := hc r u hu
  exact (e.cell (World.block_lt_of_cell? W _ this)).trans this
theorem LieX.of_Rw (hk : ∀ x, (enc x).length = k) {A : Option Addr} {n c : Nat} {xs : List α} {W : World} {F : Nat → Prop} (h : Rw enc k e (.slice A n c) xs W F) : LieX enc k W A xs := fun i hi => by
  obtain ⟨g, c', hv, _, hc⟩ := Rw.at_ hk h i hi
  injection hv with e1 _ _
  exact ⟨_, e1, fun r u hu => by rw [add_zero_off']; exact hc r u hu⟩
theorem LieX.src (hk : ∀ x, (enc x).length = k) (h1 : ∀ x, ∀ u ∈ enc x, u.oneCell' = true) (hk0 : 0 < k) (hu : P.underlying t = some (.slice e)) {W : World} {A : Option Addr} {xs : List α} (c : Nat) (h : LieX enc k W A xs) : Src P k t (.slice A xs.length c) xs.length (flatE enc xs) W := by
  by_cases h0 : xs = []
  · subst h0
    cases A with
    | none => exact Src.ofNil (P := P) W hu c
    | some ad => exact Src.ofSlice (P := P) W hu ad 0 c [] (by simp) (fun j u hu => by simp at hu) (fun u hu => by cases hu)
  · obtain ⟨ad, rfl, _⟩ := h 0 (List.length_pos_iff.2 h0)
    refine Src.ofSlice (P := P) W hu ad xs.length c (flatE enc xs) (by rw [flatE_length hk]) (fun j u hj => ?_) (oneL h1 xs)
    have hjl := (List.getElem?_eq_some_iff.1 hj).1
    rw [flatE_length hk] at hjl
    have hi : j / k < xs.length := (Nat.div_lt_iff_lt_mul hk0).2 hjl
    obtain ⟨ad', e1, hc⟩ := h (j / k) hi
    injection e1 with e1
    subst e1
    have hr : j % k < k := Nat.mod_lt _ hk0
    have hjd : j = j / k * k + j % k := by rw [Nat.mul_comm]; exact (Nat.div_add_mod j k).symm
    rw [hjd]
    refine hc (j % k) u ?_
    have hx : xs = xs.take (j / k) ++ xs[j / k] :: xs.drop (j / k + 1) := by simp
    have hl : (xs.take (j / k)).length = j / k := by rw [List.length_take]; omega
    have e2 : flatE enc xs = flatE enc (xs.take (j / k)) ++ (enc xs[j / k] ++ flatE enc (xs.drop (j / k + 1))) := by
      conv => lhs; rw [hx]
      rw [flatE_append, flatE_cons]
    rw [e2, List.getElem?_append_right (by rw [flatE_length hk, hl]; omega), flatE_length hk, hl, List.getElem?_append_left (by rw [hk]; omega)] at hj
    rw [show j - j / k * k = j % k by omega] at hj
    exact hj
theorem LieX.at_ {W : World} {A : Option Addr} {xs : List α} (h : LieX enc k W A xs) (i : Nat) (hi : i < xs.length) : ∃ ad, A = some ad ∧ (∀ u, (enc xs[i])[0]? = some u → W.cell? (ad.add (i * k)) = some u) ∧ ∀ r, 0 < r → ∀ u, (enc xs[i])[r]? = some u → W.cell? ⟨(ad.add (i * k)).block, (ad.add (i * k)).off + r, none⟩ = some u := by
  obtain ⟨ad, e, hc⟩ := h i hi
  refine ⟨ad, e, fun u hu => ?_, fun r hr u hu => ?_⟩
  · have := hc 0 u hu
    rwa [Nat.add_zero] at this
  · have := hc r u hu
    have e2 : ad.add (i * k + r) = { block := (ad.add (i * k)).block, off := (ad.add (i * k)).off + r } := by
      unfold Addr.add
      rw [if_neg (by omega)]
      split
      · rename_i h
        rw [h]
        simp
      · simp [Nat.add_assoc]
    rwa [e2] at this
theorem LieX.take {W : World} {A : Option Addr} {xs ys : List α} (h : LieX enc k W A (xs ++ ys)) : LieX enc k W A xs := fun i hi => by
  obtain ⟨ad, e, hc⟩ := h i (by rw [List.length_append]; omega)
  rw [List.getElem_append_left hi] at hc
  exact ⟨ad, e, hc⟩
end
/-! ### headers of lists -/
abbrev Hd := Option Addr × Nat × Nat
abbrev slH (h : Hd) : Value := .slice h.1 h.2.1 h.2.2
abbrev encH (h : Hd) : List Value := [.slice h.1 h.2.1 h.2.2]
theorem lenH (x : Hd) : (encH x).length = 1 := rfl
theorem oneH (x : Hd) : ∀ u ∈ encH x, u.oneCell' = true := by
  intro u hu
  rw [List.mem_singleton.1 hu]
  rfl
abbrev RH (eh : Nat) (v : Value) (hs : List Hd) : HP := RwAt encH 1 eh v hs
theorem hd_cell {eh : Nat} {v : Value} {hs : List Hd} {W : World} {F : Nat → Prop} (h : Rw encH 1 eh v hs W F) (i : Nat) (hi : i < hs.length) : ∃ g c, v = .slice (some ⟨g, 0, none⟩) hs.length c ∧ hs.length ≤ c ∧ W.cell? ⟨g, i, none⟩ = some (slH hs[i]) := by
  obtain ⟨g, c, e, hc, h2⟩ := Rw.at_ lenH h i hi
  have := h2 0 _ rfl
  rw [Nat.mul_one, Nat.add_zero] at this
  exact ⟨g, c, e, hc, this⟩
/-- A list that is kept, and its copy. -/
structure Kp (α : Type) where
  A : Option Addr
  c : Nat
  B : Option Addr
  d : Nat
  xs : List α
section
variable {α : Type}
abbrev Kp.hu (p : Kp α) : Hd := (p.A, p.xs.length, p.c)
abbrev Kp.hw (p : Kp α) : Hd := (p.B, p.xs.length, p.d)
theorem keepS {b W : World} {P : World → Prop} (h : ∀ W, Eff0 b W → P W) (e : Eff0 b W) : Eff0 b W ∧ P W := ⟨e, h W e⟩
theorem stars_at {β : Type} {K : List β} {f : β → HP} {W : World} {F : Nat → Prop} (h : (Stars (K.map f)).on W F) (i : Nat) (hi : i < K.length) : ∃ G, (f K[i]).on W G := by
  obtain ⟨G, _, h1, _⟩ := Stars.pull (S := f K[i]) (i := i) (by rw [List.getElem?_map, List.getElem?_eq_getElem hi]; rfl) h
  exact ⟨G, h1⟩
theorem stars_upd {S S' : HP} {W W' : World} {l : List HP} {i : Nat} {F : Nat → Prop} (hi : l[i]? = some S) (h : (Stars l).on W F) (c : ∀ F, S.on W F → Upd W F S' W') : Upd W F (Stars (l.set i S')) W' :=
  (Upd.left (Stars.pull hi h) c).imp (fun _ h => Stars.push (List.getElem?_eq_some_iff.1 hi).1 h)
theorem stars_act {S : HP} {W : World} {l : List HP} {i : Nat} {F : Nat → Prop} (hi : l[i]? = some S) (h : (Stars l).on W F) {X : Type} {S' : X → HP} {p : X → World → Prop} (c : ∀ F, S.on W F → ∃ x W', p x W' ∧ Upd W F (S' x) W') : ∃ x W', p x W' ∧ Upd W F (Stars (l.set i (S' x))) W' := by
  obtain ⟨F1, h1, k1, u1⟩ := Sep.focus (Stars.pull hi h)
  obtain ⟨x, W', hp, hU⟩ := c F1 h1
  exact ⟨x, W', hp, (u1 _ _ hU).imp (fun _ h => Stars.push (List.getElem?_eq_some_iff.1 hi).1 h)⟩
theorem stars_map {β : Type} {f g : β → HP} {W : World} (h : ∀ x F, (f x).on W F → (g x).on W F) : ∀ (l : List β) {F : Nat → Prop}, (Stars (l.map f)).on W F → (Stars (l.map g)).on W F
  | [], _, hF => hF
  | x :: l, _, hF => Sep.imp hF (fun _ h1 => h x _ h1) (fun _ h1 => stars_map h l h1)
/-- A list by its header, and what is in it. -/
abbrev Hc (α : Type) := Hd × List α
structure Gp (α : Type) where
  h : Hd
  xs : List α
  g : Hd
  ys : List α
abbrev gp0 (q : Hc α) : Gp α := ⟨q.1, q.2, q.1, q.2⟩
/-- Marks. -/
def markL (mk : Nat → Nat → α) (i from_ n : Nat) : List α := (List.range n).map (fun t => mk i (from_ + t))
variable {mk : Nat → Nat → α}
theorem markL_len (i f n : Nat) : (markL mk i f n).length = n := by unfold markL; simp
theorem markL_succ (i f n : Nat) : markL mk i f (n + 1) = markL mk i f n ++ [mk i (f + n)] := by
  unfold markL
  rw [List.range_succ, List.map_append]
  rfl
theorem markL_more (i f n m : Nat) : markL mk i f n ++ markL mk i (f + n) m = markL mk i f (n + m) := by
  unfold markL
  rw [List.range_add, List.map_append, List.map_map]
  congr 1
  refine List.map_congr_left (fun t _ => ?_)
  simp only [Function.comp_apply, Nat.add_assoc]
theorem markL_get (i n j : Nat) (h : j < n) : (markL mk i 0 n)[j]? = some (mk i j) := by
  unfold markL
  rw [List.getElem?_map, List.getElem?_range h]
  simp
theorem markL_getE (i n j : Nat) (h : j < (markL mk i 0 n).length) : (markL mk i 0 n)[j] = mk i j := by
  have := markL_get (mk := mk) i n j (by rwa [markL_len] at h)
  rw [List.getElem?_eq_getElem h] at this
  injection this
theorem marked_full (i n : Nat) (ys : List α) (hl : ys.length = n) (h : ∀ t, t < n → ys[t]? = some (mk i t)) : ys = markL mk i 0 n := by
  refine List.ext_getElem? (fun t => ?_)
  by_cases ht : t < n
  · rw [h t ht, markL_get i n t ht]
  · rw [List.getElem?_eq_none (by omega), List.getElem?_eq_none (by rw [markL_len]; omega)]
/-- The first i lists are marked. -/
def Mkd (mk : Nat → Nat → α) (M : List (Hc α)) (i : Nat) : Prop := ∀ j, j < i → ∀ q, M[j]? = some q → q.2 = markL mk j 0 q.1.2.1
theorem Mkd.set {M : List (Hc α)} {i : Nat} (h : Mkd mk M i) (q : Hc α) : Mkd mk (M.set i q) i := fun j hj q' hq => h j hj q' (by rw [List.getElem?_set_ne (by omega)] at hq; exact hq)
theorem fst_set (M : List (Hc α)) (i : Nat) (hi : i < M.length) (ys : List α) : (M.set i (M[i].1, ys)).map Prod.fst = M.map Prod.fst := by
  rw [List.map_set]
  refine List.ext_getElem? (fun j => ?_)
  rw [List.getElem?_set]
  split
  · rename_i h
    subst h
    rw [if_pos (by rw [List.length_map]; exact hi), List.getElem?_map, List.getElem?_eq_getElem hi]
    rfl
  · rfl
/-- The first i lists are grown. -/
def Grn (mk : Nat → Nat → α) (M : List (Hc α)) (N : List (Gp α)) (i : Nat) : Prop := N.map (fun r => (r.h, r.xs)) = M ∧ (∀ j, j < i → ∀ r, N[j]? = some r → r.ys = markL mk j 0 (r.h.2.1 + 72)) ∧ ∀ j, i ≤ j → ∀ r, N[j]? = some r → r.g = r.h ∧ r.ys = r.xs
theorem Grn.step {M : List (Hc α)} {N : List (Gp α)} {i : Nat} (h : Grn mk M N i) (hi : i < N.length) (r : Gp α) (hr : r.h = (N[i]).h) (hr2 : r.xs = (N[i]).xs) (hy : r.ys = markL mk i 0 (r.h.2.1 + 72)) : Grn mk M (N.set i r) (i + 1) := by
  refine ⟨?_, fun j hj q hq => ?_, fun j hj q hq => h.2.2 j (by omega) q (by rw [List.getElem?_set_ne (by omega)] at hq; exact hq)⟩
  · rw [← h.1]
    refine List.ext_getElem? (fun j => ?_)
    rw [List.getElem?_map, List.getElem?_map, List.getElem?_set]
    split
    · rename_i e
      subst e
      rw [List.getElem?_eq_getElem hi]
      simp [hr, hr2]
    · rfl
  · by_cases e : j = i
    · subst e
      rw [List.getElem?_set_self hi] at hq
      injection hq with hq
      subst hq
      exact hy
    · exact h.2.1 j (by omega) q (by rw [List.getElem?_set_ne (by omega)] at hq; exact hq)
theorem take_set_g (N : List (Gp α)) (i : Nat) (hi : i < N.length) (r : Gp α) : ((N.set i r).take (i + 1)).map Gp.g = (N.take i).map Gp.g ++ [r.g] := by
  have h1 : i < (N.set i r).length := by rw [List.length_set]; exact hi
  rw [List.take_succ_eq_append_getElem h1, List.map_append, List.getElem_set_self]
  congr 2
  rw [List.take_set, List.set_eq_of_length_le (by rw [List.length_take]; omega)]
theorem grn_at {M : List (Hc α)} {N : List (Gp α)} (hG : Grn mk M N M.length) (i : Nat) (hi : i < N.length) : N.length = M.length ∧ ∃ hi' : i < M.length, M[i] = ((N[i]).h, (N[i]).xs) ∧ (N[i]).ys = markL mk i 0 ((N[i]).h.2.1 + 72) := by
  have hln : N.length = M.length := by have := congrArg List.length hG.1; simpa using this
  have hr' : N[i]? = some N[i] := List.getElem?_eq_getElem hi
  have hi2 : i < M.length := by omega
  refine ⟨hln, hi2, ?_, hG.2.1 i hi2 _ hr'⟩
  have h9 : (N.map (fun r => (r.h, r.xs)))[i]? = some ((N[i]).h, (N[i]).xs) := by rw [List.getElem?_map, hr']; rfl
  rw [hG.1, List.getElem?_eq_getElem hi2] at h9
  injection h9
end
/-! ### the parts of a kind, in the phases of Apart -/
section
variable {α : Type} (enc : α → List Value) (k e eh : Nat)
abbrev pU (p : Kp α) : HP := RwAt enc k e (slH p.hu) p.xs
abbrev pW (p : Kp α) : HP := RwAt enc k e (slH p.hw) p.xs
/-- The kept lists of a kind. -/
abbrev BkP (a b : Value) (K : List (Kp α)) : List HP := [RH eh a (K.map Kp.hu), RH eh b (K.map Kp.hw), Stars (K.map (pU enc k e)), Stars (K.map (pW enc k e))]
abbrev pR (q : Hc α) : HP := RwAt enc k e (slH q.1) q.2
/-- .. their copies forgotten. -/
abbrev MkP (a : Value) (M : List (Hc α)) : List HP := [RH eh a (M.map Prod.fst), Stars (M.map (pR enc k e))]
abbrev pG (r : Gp α) : HP := Gr enc k e (slH r.h) r.xs (slH r.g) r.ys
/-- .. and what they grew to. -/
abbrev GrP (a : Value) (N : List (Gp α)) (vo : Value) (os : List Hd) : List HP := [RH eh a (N.map Gp.h), Stars (N.map (pG enc k e)), RH eh vo os]
end
section
variable {α : Type} {enc : α → List Value} {k e eh : Nat} {w W : World} {C : HP} {a b : Value} {rest : List HP}
theorem BkP.toMk {K : List (Kp α)} (o : Own w W (Stars (C :: (BkP enc k e eh a b K ++ rest)))) : Own w W (Stars (C :: (MkP enc k e eh a (K.map (fun p => (p.hu, p.xs))) ++ rest))) := by
  have o1 := Own.dropAt o 4 rfl
  have o2 := Own.dropAt o1 2 rfl
  have e1 : (K.map (fun p => ((p.hu, p.xs) : Hc α))).map Prod.fst = K.map Kp.hu := by rw [List.map_map]; rfl
  have e2 : (K.map (fun p => ((p.hu, p.xs) : Hc α))).map (pR enc k e) = K.map (pU enc k e) := by rw [List.map_map]; rfl
  unfold MkP
  rw [e1, e2]
  exact o2
theorem pr_at {M : List (Hc α)} {i : Nat} (hi : i < M.length) : (M.map (pR enc k e))[i]? = some (pR enc k e M[i]) := by rw [List.getElem?_map, List.getElem?_eq_getElem hi]; rfl
theorem pr_set (M : List (Hc α)) (i : Nat) (q : Hc α) : (M.map (pR enc k e)).set i (pR enc k e q) = (M.set i q).map (pR enc k e) := by rw [List.map_set]
theorem ri_len {A : Option Addr} {n c : Nat} {xs : List α} {F : Nat → Prop} (h : Rw enc k e (.slice A n c) xs W F) : xs.length = n := by
  obtain ⟨A1, c1, e⟩ := h.form
  injection e with _ e _
  exact e.symm
theorem put_one (hk : ∀ x, (enc x).length = k) {M : List (Hc α)} {i : Nat} {h : Hd} {ys : List α} (o : Own w W (Stars (C :: (MkP enc k e eh a (M.set i (h, ys)) ++ rest)))) (hi : i < M.length) (t : Nat) (ht : t < ys.length) (y : α) :
    ∃ g, h.1 = some ⟨g, 0, none⟩ ∧ (∀ r, r < k → ∃ u, W.cell? ⟨g, t * k + r, none⟩ = some u) ∧ (∀ r, W.frozen? ⟨g, r, none⟩ = false) ∧ Own w (W.setCells g (t * k) (enc y)) (Stars (C :: (MkP enc k e eh a (M.set i (h, ys.set t y)) ++ rest))) := by
  have hM : (M.set i (h, ys)).map Prod.fst = (M.set i (h, ys.set t y)).map Prod.fst := by rw [List.map_set, List.map_set]
  unfold MkP at o ⊢
  rw [hM] at o
  obtain ⟨g, W', ⟨h1, h2, h3, h4⟩, o2⟩ := Own.actAt (X := Nat) (p := fun g W' => h.1 = some ⟨g, 0, none⟩ ∧ (∀ r, r < k → ∃ u, W.cell? ⟨g, t * k + r, none⟩ = some u) ∧ (∀ r, W.frozen? ⟨g, r, none⟩ = false) ∧ W' = W.setCells g (t * k) (enc y)) (S' := fun _ => Stars ((M.set i (h, ys.set t y)).map (pR enc k e))) o 2 rfl (fun F hF => by
    obtain ⟨g, W', hp, hU⟩ := stars_act (X := Nat) (i := i) (S := pR enc k e (h, ys)) (S' := fun _ => pR enc k e (h, ys.set t y)) (p := fun g W' => h.1 = some ⟨g, 0, none⟩ ∧ (∀ r, r < k → ∃ u, W.cell? ⟨g, t * k + r, none⟩ = some u) ∧ (∀ r, W.frozen? ⟨g, r, none⟩ = false) ∧ W' = W.setCells g (t * k) (enc y)) (by rw [List.getElem?_map, List.getElem?_set_self hi]; rfl) hF (fun F h1 => by
      obtain ⟨g, c, hv, _, hc, hf, hU⟩ := RwAt.putK hk h1 t ht y
      injection hv with e1 e2 e3
      exact ⟨g, _, ⟨e1, hc, hf, rfl⟩, hU⟩)
    rw [pr_set, List.set_set] at hU
    exact ⟨g, W', hp, hU⟩)
  subst h4
  exact ⟨g, h1, h2, h3, o2⟩
theorem grow_start {M : List (Hc α)} (o : Own w W (Stars (C :: (MkP enc k e eh a M ++ rest)))) : Own w W (Stars (C :: (GrP enc k e eh a (M.map gp0) (.slice none 0 0) [] ++ rest))) := by
  have o1 := o.impAt (S' := Stars ((M.map gp0).map (pG enc k e))) 2 rfl (fun F h => by
    rw [List.map_map]
    exact stars_map (fun x F h => Gr.start h) M h)
  have o2 := o1.newAt (N := RH eh (.slice none 0 0) []) (Eff.refl _ _) (RwAt.nil _) (fun _ h => h.elim)
  have e1 : (M.map gp0).map Gp.h = M.map Prod.fst := by rw [List.map_map]; rfl
  unfold GrP
  rw [e1]
  refine o2.perm ?_
  show (C :: RH eh a (M.map Prod.fst) :: Stars ((M.map gp0).map (pG enc k e)) :: (rest ++ [RH eh (.slice none 0 0) []])).Perm (C :: RH eh a (M.map Prod.fst) :: Stars ((M.map gp0).map (pG enc k e)) :: RH eh (.slice none 0 0) [] :: rest)
  exact ((List.perm_append_singleton _ _).cons _).cons _ |>.cons _
theorem grow_one {P : Program} {t : Nat} (f : KF P t e k) (hk0 : 0 < k) (hk : ∀ x, (enc x).length = k) (hone : ∀ x, ∀ u ∈ enc x, u.oneCell' = true) {N : List (Gp α)} {i : Nat} {r : Gp α} {vo : Value} {os : List Hd} (o : Own w W (Stars (C :: (GrP enc k e eh a (N.set i r) vo os ++ rest)))) (hi : i < N.length) {x : Value} {zs : List α} {G : Nat → Prop} (hx : Rw enc k e x zs W G) (hm : r.ys.length + zs.length < 900000) :
    ∃ (q : Option Addr × Nat) (W' : World), (∀ ty, (Builtin.append_ #[t, t] ty #[slH r.g, x]).run P W = .ok (.slice q.1 (r.ys ++ zs).length q.2) W') ∧ Own w W' (Stars (C :: (GrP enc k e eh a (N.set i ⟨r.h, r.xs, (q.1, (r.ys ++ zs).length, q.2), r.ys ++ zs⟩) vo os ++ rest))) := by
  have hM : ∀ r' : Gp α, r'.h = r.h → (N.set i r').map Gp.h = (N.set i r).map Gp.h := fun r' h => by rw [List.map_set, List.map_set, h]
  obtain ⟨q, W', h1, o2⟩ := Own.actAt (X := Option Addr × Nat) (p := fun q W' => ∀ ty, (Builtin.append_ #[t, t] ty #[slH r.g, x]).run P W = .ok (.slice q.1 (r.ys ++ zs).length q.2) W') (S' := fun q => Stars ((N.set i ⟨r.h, r.xs, (q.1, (r.ys ++ zs).length, q.2), r.ys ++ zs⟩).map (pG enc k e))) o 2 rfl (fun F hF => by
    obtain ⟨q, W', hp, hU⟩ := stars_act (X := Option Addr × Nat) (i := i) (S := pG enc k e r) (S' := fun q => pG enc k e ⟨r.h, r.xs, (q.1, (r.ys ++ zs).length, q.2), r.ys ++ zs⟩) (p := fun q W' => ∀ ty, (Builtin.append_ #[t, t] ty #[slH r.g, x]).run P W = .ok (.slice q.1 (r.ys ++ zs).length q.2) W') (by rw [List.getElem?_map, List.getElem?_set_self hi]; rfl) hF (fun F h1 => by
      obtain ⟨q, W', hr, hU⟩ := row_join f hk0 hk hone h1 hx hm
      exact ⟨q, W', hr, hU⟩)
    rw [← List.map_set, List.set_set] at hU
    exact ⟨q, W', hp, hU⟩)
  refine ⟨q, W', h1, ?_⟩
  have := hM ⟨r.h, r.xs, (q.1, (r.ys ++ zs).length, q.2), r.ys ++ zs⟩ rfl
  unfold GrP
  rw [this]
  exact o2
theorem gr_head {N : List (Gp α)} {vo : Value} {os : List Hd} (o : Own w W (Stars (C :: (GrP enc k e eh a N vo os ++ rest)))) (i : Nat) (hi : i < N.length) : ∃ F, (pG enc k e N[i]).on W F := by
  obtain ⟨F, h⟩ := o.fact 2 rfl
  exact stars_at h i hi
/-- The header's cells of the grown, and of the elder lists; what they read. -/
theorem grown_facts (hk : ∀ x, (enc x).length = k) {mk : Nat → Nat → α} {M : List (Hc α)} {N : List (Gp α)} {A : Option Addr} {c : Nat} (o : Own w W (Stars (C :: (GrP enc k e eh a N (.slice A M.length c) (N.map Gp.g) ++ rest)))) (hG : Grn mk M N M.length) (hx : ∀ q ∈ M, q.1.2.1 < 600000) :
    (N.map Gp.g).length = M.length ∧ (∀ i (hi : i < (N.map Gp.g).length), ∃ g, A = some ⟨g, 0, none⟩ ∧ W.cell? ⟨g, i, none⟩ = some (slH (N.map Gp.g)[i])) ∧ (∀ i (hi : i < (N.map Gp.g).length), LieX enc k W (N.map Gp.g)[i].1 (markL mk i 0 (N.map Gp.g)[i].2.1)) ∧ ∀ h ∈ N.map Gp.g, h.2.1 < 600100 := by
  have hln : N.length = M.length := by have := congrArg List.length hG.1; simpa using this
  have hgl : ∀ i (hi : i < N.length), (N[i]).g.2.1 = (N[i]).h.2.1 + 72 ∧ LieX enc k W (N[i]).g.1 (markL mk i 0 (N[i]).g.2.1) := by
    intro i hi
    obtain ⟨_, hi', hm, hy⟩ := grn_at hG i hi
    obtain ⟨F, h⟩ := gr_head o i hi
    have hl := ri_len h.2.1
    rw [hy, markL_len] at hl
    have h3 := LieX.of_Rw hk h.2.1
    rw [hy, hl] at h3
    exact ⟨hl.symm, h3⟩
  refine ⟨by rw [List.length_map, hln], fun i hi => ?_, fun i hi => ?_, fun q hq => ?_⟩
  · obtain ⟨F, h⟩ := o.fact 3 rfl
    obtain ⟨g, d, e, _, x⟩ := hd_cell h.1 i hi
    injection e with e
    exact ⟨g, e, x⟩
  · rw [List.length_map] at hi
    rw [List.getElem_map]
    exact (hgl i hi).2
  · obtain ⟨r, hr, rfl⟩ := List.mem_map.1 hq
    obtain ⟨i, hi, rfl⟩ := List.getElem_of_mem hr
    obtain ⟨_, hi', hm, hy⟩ := grn_at hG i hi
    have h1 := (hgl i hi).1
    have h2 := hx _ (List.getElem_mem hi')
    rw [hm] at h2
    dsimp only at h2
    omega
theorem marked_facts (hk : ∀ x, (enc x).length = k) {mk : Nat → Nat → α} {M : List (Hc α)} {N : List (Gp α)} {A : Option Addr} {c : Nat} {vo : Value} {os : List Hd} (o : Own w W (Stars (C :: (GrP enc k e eh (.slice A M.length c) N vo os ++ rest)))) (hG : Grn mk M N M.length) (hm : Mkd mk M M.length) (hx : ∀ q ∈ M, q.1.2.1 < 600000) :
    (N.map Gp.h).length = M.length ∧ (∀ i (hi : i < (N.map Gp.h).length), ∃ g, A = some ⟨g, 0, none⟩ ∧ W.cell? ⟨g, i, none⟩ = some (slH (N.map Gp.h)[i])) ∧ (∀ i (hi : i < (N.map Gp.h).length), LieX enc k W (N.map Gp.h)[i].1 (markL mk i 0 (N.map Gp.h)[i].2.1)) ∧ ∀ h ∈ N.map Gp.h, h.2.1 < 600100 := by
  have hln : N.length = M.length := by have := congrArg List.length hG.1; simpa using this
  refine ⟨by rw [List.length_map, hln], fun i hi => ?_, fun i hi => ?_, fun q hq => ?_⟩
  · obtain ⟨F, h⟩ := o.fact 1 rfl
    obtain ⟨g, d, e, _, x⟩ := hd_cell h.1 i hi
    injection e with e
    exact ⟨g, e, x⟩
  · rw [List.length_map] at hi
    rw [List.getElem_map]
    obtain ⟨_, hi', hMi, hy⟩ := grn_at hG i hi
    have hxs := hm i hi' _ (List.getElem?_eq_getElem hi')
    rw [hMi] at hxs
    dsimp only at hxs
    obtain ⟨F, h⟩ := gr_head o i hi
    have h3 := LieX.of_Rw hk h.1
    rw [hxs] at h3
    exact h3
  · obtain ⟨r, hr, rfl⟩ := List.mem_map.1 hq
    obtain ⟨i, hi, rfl⟩ := List.getElem_of_mem hr
    obtain ⟨_, hi', hMi, hy⟩ := grn_at hG i hi
    have h2 := hx _ (List.getElem_mem hi')
    rw [hMi] at h2
    dsimp only at h2
    omega
/-- Nothing of a kind is kept. -/
theorem BkP.none_ (o : Own w W (Stars (C :: rest))) : Own w W (Stars (C :: (BkP enc k e eh (.slice none 0 0) (.slice none 0 0) [] ++ rest))) := by
  have o1 := o.newAt (N := RH eh (.slice none 0 0) []) (Eff.refl _ _) (RwAt.nil _) (fun _ h => h.elim)
  have o2 := o1.newAt (N := RH eh (.slice none 0 0) []) (Eff.refl _ _) (RwAt.nil _) (fun _ h => h.elim)
  have o3 := o2.newAt (N := Stars []) (F' := fun _ => False) (Eff.refl _ _) (fun _ h => h) (fun _ h => h.elim)
  have o4 := o3.newAt (N := Stars []) (F' := fun _ => False) (Eff.refl _ _) (fun _ h => h) (fun _ h => h.elim)
  refine o4.perm ?_
  have : ((C :: rest) ++ [RH eh (.slice none 0 0) []] ++ [RH eh (.slice none 0 0) []] ++ [Stars []] ++ [Stars []]) = C :: (rest ++ BkP enc k e eh (.slice none 0 0) (.slice none 0 0) ([] : List (Kp α))) := by simp
  rw [this]
  exact List.perm_append_comm.cons _
end
end Go.Proofs.YtcmepoakcffpaaaGreat.BK
namespace Go.Proofs.YtcmepoakcffpaaaGreat.BK
open Go Go.RowKit Go.Proofs.YtcmepoakcffpaaaGreatW.PrintWords Go.Proofs.YtcmepoakcffpaaaGreatW.PrintLast Go.Proofs.YtcmepoakcffpaaaGreatW.PrintMore Go.Proofs.YtcmepoakcffpaaaGreat.L
set_option linter.unusedVariables false
set_option linter.unusedSimpArgs false
/-! ### kinds of which the book holds none (printed by mkempty.py) -/
set_option maxHeartbeats 800000 in
set_option maxRecDepth 100000 in
theorem stillE_Ints (W : World) (bb : Nat) (x : W.cell? ⟨bb, 0, none⟩ = some (.slice none 0 0)) : Calls Tryz.prog 33 #[.pointer (some ⟨bb, 0, none⟩)] W fun e w' => e = .returned (.bool true) ∧ Eff0 W w' := by
  go_enter Tryz.func33, Tryz.ntmps33
  go_wp2_with fail
  go_loopg [3] 1 (fun k s3 wr => s3 = (.int .i64 0) ∧ Eff0 W wr ∧ wr.cell? ⟨bb, 0, none⟩ = some (.slice none 0 0))
  case atStart => exact ⟨rfl, Eff.refl _ _, x⟩
  case round =>
    obtain ⟨rfl, hw, x⟩ := hrel
    have HW := Aside0.mk hw
    clear hw
    go_wp2_with fail
    all_goals first | go_end0 | go_ret
    all_goals exact ⟨rfl, HW.out⟩
set_option maxHeartbeats 800000 in
set_option maxRecDepth 100000 in
theorem putE_Ints (W : World) (bb : Nat) (x : W.cell? ⟨bb, 0, none⟩ = some (.slice none 0 0)) : Calls Tryz.prog 43 #[.pointer (some ⟨bb, 0, none⟩)] W fun e w' => e = .returned (.tuple #[]) ∧ Eff0 W w' := by
  go_enter Tryz.func43, Tryz.ntmps43
  go_wp2_with fail
  go_loopg [2] 1 (fun k s2 wr => s2 = (.int .i64 0) ∧ Eff0 W wr ∧ wr.cell? ⟨bb, 0, none⟩ = some (.slice none 0 0))
  case atStart => exact ⟨rfl, Eff.refl _ _, x⟩
  case round =>
    obtain ⟨rfl, hw, x⟩ := hrel
    have HW := Aside0.mk hw
    clear hw
    go_wp2_with fail
    all_goals first | go_end0 | go_ret
    all_goals exact ⟨rfl, HW.out⟩
set_option maxHeartbeats 800000 in
set_option maxRecDepth 100000 in
theorem growE_Ints (W : World) (bb : Nat) (x : W.cell? ⟨bb, 0, none⟩ = some (.slice none 0 0)) : Calls Tryz.prog 51 #[.pointer (some ⟨bb, 0, none⟩)] W fun e w' => e = .returned (.slice none 0 0) ∧ Eff0 W w' := by
  go_enter Tryz.func51, Tryz.ntmps51
  go_wp2_with fail
  go_loopg [3, 4] 1 (fun k s3 s4 wr => s3 = (.slice none 0 0) ∧ s4 = (.int .i64 0) ∧ Eff0 W wr ∧ wr.cell? ⟨bb, 0, none⟩ = some (.slice none 0 0))
  case atStart => exact ⟨rfl, rfl, Eff.refl _ _, x⟩
  case round =>
    obtain ⟨rfl, rfl, hw, x⟩ := hrel
    have HW := Aside0.mk hw
    clear hw
    go_wp2_with fail
    all_goals first | go_end0 | go_ret
    all_goals exact ⟨rfl, HW.out⟩
set_option maxHeartbeats 800000 in
set_option maxRecDepth 100000 in
theorem markedE_Ints (W : World) : Calls Tryz.prog 60 #[.slice none 0 0] W fun e w' => e = .returned (.bool true) ∧ Eff0 W w' := by
  go_enter Tryz.func60, Tryz.ntmps60
  go_wp2_with fail
  go_loopg [3] 1 (fun k s3 wr => s3 = (.int .i64 0) ∧ Eff0 W wr)
  case atStart => exact ⟨rfl, Eff.refl _ _⟩
  case round =>
    obtain ⟨rfl, hw⟩ := hrel
    have HW := Aside0.mk hw
    clear hw
    go_wp2_with fail
    all_goals first | go_end0 | go_ret
    all_goals exact ⟨rfl, HW.out⟩
set_option maxHeartbeats 800000 in
set_option maxRecDepth 100000 in
theorem stillE_Texts (W : World) (bb : Nat) (x : W.cell? ⟨bb, 2, none⟩ = some (.slice none 0 0)) : Calls Tryz.prog 34 #[.pointer (some ⟨bb, 0, none⟩)] W fun e w' => e = .returned (.bool true) ∧ Eff0 W w' := by
  go_enter Tryz.func34, Tryz.ntmps34
  go_wp2_with fail
  go_loopg [3] 1 (fun k s3 wr => s3 = (.int .i64 0) ∧ Eff0 W wr ∧ wr.cell? ⟨bb, 2, none⟩ = some (.slice none 0 0))
  case atStart => exact ⟨rfl, Eff.refl _ _, x⟩
  case round =>
    obtain ⟨rfl, hw, x⟩ := hrel
    have HW := Aside0.mk hw
    clear hw
    go_wp2_with fail
    all_goals first | go_end0 | go_ret
    all_goals exact ⟨rfl, HW.out⟩
set_option maxHeartbeats 800000 in
set_option maxRecDepth 100000 in
theorem putE_Texts (W : World) (bb : Nat) (x : W.cell? ⟨bb, 2, none⟩ = some (.slice none 0 0)) : Calls Tryz.prog 44 #[.pointer (some ⟨bb, 0, none⟩)] W fun e w' => e = .returned (.tuple #[]) ∧ Eff0 W w' := by
  go_enter Tryz.func44, Tryz.ntmps44
  go_wp2_with fail
  go_loopg [2] 1 (fun k s2 wr => s2 = (.int .i64 0) ∧ Eff0 W wr ∧ wr.cell? ⟨bb, 2, none⟩ = some (.slice none 0 0))
  case atStart => exact ⟨rfl, Eff.refl _ _, x⟩
  case round =>
    obtain ⟨rfl, hw, x⟩ := hrel
    have HW := Aside0.mk hw
    clear hw
    go_wp2_with fail
    all_goals first | go_end0 | go_ret
    all_goals exact ⟨rfl, HW.out⟩
set_option maxHeartbeats 800000 in
set_option maxRecDepth 100000 in
theorem growE_Texts (W : World) (bb : Nat) (x : W.cell? ⟨bb, 2, none⟩ = some (.slice none 0 0)) : Calls Tryz.prog 52 #[.pointer (some ⟨bb, 0, none⟩)] W fun e w' => e = .returned (.slice none 0 0) ∧ Eff0 W w' := by
  go_enter Tryz.func52, Tryz.ntmps52
  go_wp2_with fail
  go_loopg [3, 4] 1 (fun k s3 s4 wr => s3 = (.slice none 0 0) ∧ s4 = (.int .i64 0) ∧ Eff0 W wr ∧ wr.cell? ⟨bb, 2, none⟩ = some (.slice none 0 0))
  case atStart => exact ⟨rfl, rfl, Eff.refl _ _, x⟩
  case round =>
    obtain ⟨rfl, rfl, hw, x⟩ := hrel
    have HW := Aside0.mk hw
    clear hw
    go_wp2_with fail
    all_goals first | go_end0 | go_ret
    all_goals exact ⟨rfl, HW.out⟩
set_option maxHeartbeats 800000 in
set_option maxRecDepth 100000 in
theorem markedE_Texts (W : World) : Calls Tryz.prog 61 #[.slice none 0 0] W fun e w' => e = .returned (.bool true) ∧ Eff0 W w' := by
  go_enter Tryz.func61, Tryz.ntmps61
  go_wp2_with fail
  go_loopg [3] 1 (fun k s3 wr => s3 = (.int .i64 0) ∧ Eff0 W wr)
  case atStart => exact ⟨rfl, Eff.refl _ _⟩
  case round =>
    obtain ⟨rfl, hw⟩ := hrel
    have HW := Aside0.mk hw
    clear hw
    go_wp2_with fail
    all_goals first | go_end0 | go_ret
    all_goals exact ⟨rfl, HW.out⟩
set_option maxHeartbeats 800000 in
set_option maxRecDepth 100000 in
theorem stillE_Cells (W : World) (bb : Nat) (x : W.cell? ⟨bb, 4, none⟩ = some (.slice none 0 0)) : Calls Tryz.prog 35 #[.pointer (some ⟨bb, 0, none⟩)] W fun e w' => e = .returned (.bool true) ∧ Eff0 W w' := by
  go_enter Tryz.func35, Tryz.ntmps35
  go_wp2_with fail
  go_loopg [3] 1 (fun k s3 wr => s3 = (.int .i64 0) ∧ Eff0 W wr ∧ wr.cell? ⟨bb, 4, none⟩ = some (.slice none 0 0))
  case atStart => exact ⟨rfl, Eff.refl _ _, x⟩
  case round =>
    obtain ⟨rfl, hw, x⟩ := hrel
    have HW := Aside0.mk hw
    clear hw
    go_wp2_with fail
    all_goals first | go_end0 | go_ret
    all_goals exact ⟨rfl, HW.out⟩
set_option maxHeartbeats 800000 in
set_option maxRecDepth 100000 in
theorem putE_Cells (W : World) (bb : Nat) (x : W.cell? ⟨bb, 4, none⟩ = some (.slice none 0 0)) : Calls Tryz.prog 45 #[.pointer (some ⟨bb, 0, none⟩)] W fun e w' => e = .returned (.tuple #[]) ∧ Eff0 W w' := by
  go_enter Tryz.func45, Tryz.ntmps45
  go_wp2_with fail
  go_loopg [2] 1 (fun k s2 wr => s2 = (.int .i64 0) ∧ Eff0 W wr ∧ wr.cell? ⟨bb, 4, none⟩ = some (.slice none 0 0))
  case atStart => exact ⟨rfl, Eff.refl _ _, x⟩
  case round =>
    obtain ⟨rfl, hw, x⟩ := hrel
    have HW := Aside0.mk hw
    clear hw
    go_wp2_with fail
    all_goals first | go_end0 | go_ret
    all_goals exact ⟨rfl, HW.out⟩
set_option maxHeartbeats 800000 in
set_option maxRecDepth 100000 in
theorem growE_Cells (W : World) (bb : Nat) (x : W.cell? ⟨bb, 4, none⟩ = some (.slice none 0 0)) : Calls Tryz.prog 53 #[.pointer (some ⟨bb, 0, none⟩)] W fun e w' => e = .returned (.slice none 0 0) ∧ Eff0 W w' := by
  go_enter Tryz.func53, Tryz.ntmps53
  go_wp2_with fail
  go_loopg [3, 4] 1 (fun k s3 s4 wr => s3 = (.slice none 0 0) ∧ s4 = (.int .i64 0) ∧ Eff0 W wr ∧ wr.cell? ⟨bb, 4, none⟩ = some (.slice none 0 0))
  case atStart => exact ⟨rfl, rfl, Eff.refl _ _, x⟩
  case round =>
    obtain ⟨rfl, rfl, hw, x⟩ := hrel
    have HW := Aside0.mk hw
    clear hw
    go_wp2_with fail
    all_goals first | go_end0 | go_ret
    all_goals exact ⟨rfl, HW.out⟩
set_option maxHeartbeats 800000 in
set_option maxRecDepth 100000 in
theorem markedE_Cells (W : World) : Calls Tryz.prog 62 #[.slice none 0 0] W fun e w' => e = .returned (.bool true) ∧ Eff0 W w' := by
  go_enter Tryz.func62, Tryz.ntmps62
  go_wp2_with fail
  go_loopg [3] 1 (fun k s3 wr => s3 = (.int .i64 0) ∧ Eff0 W wr)
  case atStart => exact ⟨rfl, Eff.refl _ _⟩
  case round =>
    obtain ⟨rfl, hw⟩ := hrel
    have HW := Aside0.mk hw
    clear hw
    go_wp2_with fail
    all_goals first | go_end0 | go_ret
    all_goals exact ⟨rfl, HW.out⟩
set_option maxHeartbeats 800000 in
set_option maxRecDepth 100000 in
theorem stillE_Pages (W : World) (bb : Nat) (x : W.cell? ⟨bb, 6, none⟩ = some (.slice none 0 0)) : Calls Tryz.prog 36 #[.pointer (some ⟨bb, 0, none⟩)] W fun e w' => e = .returned (.bool true) ∧ Eff0 W w' := by
  go_enter Tryz.func36, Tryz.ntmps36
  go_wp2_with fail
  go_loopg [3] 1 (fun k s3 wr => s3 = (.int .i64 0) ∧ Eff0 W wr ∧ wr.cell? ⟨bb, 6, none⟩ = some (.slice none 0 0))
  case atStart => exact ⟨rfl, Eff.refl _ _, x⟩
  case round =>
    obtain ⟨rfl, hw, x⟩ := hrel
    have HW := Aside0.mk hw
    clear hw
    go_wp2_with fail
    all_goals first | go_end0 | go_ret
    all_goals exact ⟨rfl, HW.out⟩
set_option maxHeartbeats 800000 in
set_option maxRecDepth 100000 in
theorem putE_Pages (W : World) (bb : Nat) (x : W.cell? ⟨bb, 6, none⟩ = some (.slice none 0 0)) : Calls Tryz.prog 46 #[.pointer (some ⟨bb, 0, none⟩)] W fun e w' => e = .returned (.tuple #[]) ∧ Eff0 W w' := by
  go_enter Tryz.func46, Tryz.ntmps46
  go_wp2_with fail
  go_loopg [2] 1 (fun k s2 wr => s2 = (.int .i64 0) ∧ Eff0 W wr ∧ wr.cell? ⟨bb, 6, none⟩ = some (.slice none 0 0))
  case atStart => exact ⟨rfl, Eff.refl _ _, x⟩
  case round =>
    obtain ⟨rfl, hw, x⟩ := hrel
    have HW := Aside0.mk hw
    clear hw
    go_wp2_with fail
    all_goals first | go_end0 | go_ret
    all_goals exact ⟨rfl, HW.out⟩
set_option maxHeartbeats 800000 in
set_option maxRecDepth 100000 in
theorem growE_Pages (W : World) (bb : Nat) (x : W.cell? ⟨bb, 6, none⟩ = some (.slice none 0 0)) : Calls Tryz.prog 54 #[.pointer (some ⟨bb, 0, none⟩)] W fun e w' => e = .returned (.slice none 0 0) ∧ Eff0 W w' := by
  go_enter Tryz.func54, Tryz.ntmps54
  go_wp2_with fail
  go_loopg [3, 4] 1 (fun k s3 s4 wr => s3 = (.slice none 0 0) ∧ s4 = (.int .i64 0) ∧ Eff0 W wr ∧ wr.cell? ⟨bb, 6, none⟩ = some (.slice none 0 0))
  case atStart => exact ⟨rfl, rfl, Eff.refl _ _, x⟩
  case round =>
    obtain ⟨rfl, rfl, hw, x⟩ := hrel
    have HW := Aside0.mk hw
    clear hw
    go_wp2_with fail
    all_goals first | go_end0 | go_ret
    all_goals exact ⟨rfl, HW.out⟩
set_option maxHeartbeats 800000 in
set_option maxRecDepth 100000 in
theorem markedE_Pages (W : World) : Calls Tryz.prog 63 #[.slice none 0 0] W fun e w' => e = .returned (.bool true) ∧ Eff0 W w' := by
  go_enter Tryz.func63, Tryz.ntmps63
  go_wp2_with fail
  go_loopg [3] 1 (fun k s3 wr => s3 = (.int .i64 0) ∧ Eff0 W wr)
  case atStart => exact ⟨rfl, Eff.refl _ _⟩
  case round =>
    obtain ⟨rfl, hw⟩ := hrel
    have HW := Aside0.mk hw
    clear hw
    go_wp2_with fail
    all_goals first | go_end0 | go_ret
    all_goals exact ⟨rfl, HW.out⟩
set_option maxHeartbeats 800000 in
set_option maxRecDepth 100000 in
theorem stillE_Patches (W : World) (bb : Nat) (x : W.cell? ⟨bb, 8, none⟩ = some (.slice none 0 0)) : Calls Tryz.prog 37 #[.pointer (some ⟨bb, 0, none⟩)] W fun e w' => e = .returned (.bool true) ∧ Eff0 W w' := by
  go_enter Tryz.func37, Tryz.ntmps37
  go_wp2_with fail
  go_loopg [3] 1 (fun k s3 wr => s3 = (.int .i64 0) ∧ Eff0 W wr ∧ wr.cell? ⟨bb, 8, none⟩ = some (.slice none 0 0))
  case atStart => exact ⟨rfl, Eff.refl _ _, x⟩
  case round =>
    obtain ⟨rfl, hw, x⟩ := hrel
    have HW := Aside0.mk hw
    clear hw
    go_wp2_with fail
    all_goals first | go_end0 | go_ret
    all_goals exact ⟨rfl, HW.out⟩
set_option maxHeartbeats 800000 in
set_option maxRecDepth 100000 in
theorem putE_Patches (W : World) (bb : Nat) (x : W.cell? ⟨bb, 8, none⟩ = some (.slice none 0 0)) : Calls Tryz.prog 47 #[.pointer (some ⟨bb, 0, none⟩)] W fun e w' => e = .returned (.tuple #[]) ∧ Eff0 W w' := by
  go_enter Tryz.func47, Tryz.ntmps47
  go_wp2_with fail
  go_loopg [2] 1 (fun k s2 wr => s2 = (.int .i64 0) ∧ Eff0 W wr ∧ wr.cell? ⟨bb, 8, none⟩ = some (.slice none 0 0))
  case atStart => exact ⟨rfl, Eff.refl _ _, x⟩
  case round =>
    obtain ⟨rfl, hw, x⟩ := hrel
    have HW := Aside0.mk hw
    clear hw
    go_wp2_with fail
    all_goals first | go_end0 | go_ret
    all_goals exact ⟨rfl, HW.out⟩
set_option maxHeartbeats 800000 in
set_option maxRecDepth 100000 in
theorem growE_Patches (W : World) (bb : Nat) (x : W.cell? ⟨bb, 8, none⟩ = some (.slice none 0 0)) : Calls Tryz.prog 55 #[.pointer (some ⟨bb, 0, none⟩)] W fun e w' => e = .returned (.slice none 0 0) ∧ Eff0 W w' := by
  go_enter Tryz.func55, Tryz.ntmps55
  go_wp2_with fail
  go_loopg [3, 4] 1 (fun k s3 s4 wr => s3 = (.slice none 0 0) ∧ s4 = (.int .i64 0) ∧ Eff0 W wr ∧ wr.cell? ⟨bb, 8, none⟩ = some (.slice none 0 0))
  case atStart => exact ⟨rfl, rfl, Eff.refl _ _, x⟩
  case round =>
    obtain ⟨rfl, rfl, hw, x⟩ := hrel
    have HW := Aside0.mk hw
    clear hw
    go_wp2_with fail
    all_goals first | go_end0 | go_ret
    all_goals exact ⟨rfl, HW.out⟩
set_option maxHeartbeats 800000 in
set_option maxRecDepth 100000 in
theorem markedE_Patches (W : World) : Calls Tryz.prog 64 #[.slice none 0 0] W fun e w' => e = .returned (.bool true) ∧ Eff0 W w' := by
  go_enter Tryz.func64, Tryz.ntmps64
  go_wp2_with fail
  go_loopg [3] 1 (fun k s3 wr => s3 = (.int .i64 0) ∧ Eff0 W wr)
  case atStart => exact ⟨rfl, Eff.refl _ _⟩
  case round =>
    obtain ⟨rfl, hw⟩ := hrel
    have HW := Aside0.mk hw
    clear hw
    go_wp2_with fail
    all_goals first | go_end0 | go_ret
    all_goals exact ⟨rfl, HW.out⟩
set_option maxHeartbeats 800000 in
set_option maxRecDepth 100000 in
theorem stillE_Dirty (W : World) (bb : Nat) (x : W.cell? ⟨bb, 10, none⟩ = some (.slice none 0 0)) : Calls Tryz.prog 38 #[.pointer (some ⟨bb, 0, none⟩)] W fun e w' => e = .returned (.bool true) ∧ Eff0 W w' := by
  go_enter Tryz.func38, Tryz.ntmps38
  go_wp2_with fail
  go_loopg [3] 1 (fun k s3 wr => s3 = (.int .i64 0) ∧ Eff0 W wr ∧ wr.cell? ⟨bb, 10, none⟩ = some (.slice none 0 0))
  case atStart => exact ⟨rfl, Eff.refl _ _, x⟩
  case round =>
    obtain ⟨rfl, hw, x⟩ := hrel
    have HW := Aside0.mk hw
    clear hw
    go_wp2_with fail
    all_goals first | go_end0 | go_ret
    all_goals exact ⟨rfl, HW.out⟩
set_option maxHeartbeats 800000 in
set_option maxRecDepth 100000 in
theorem putE_Dirty (W : World) (bb : Nat) (x : W.cell? ⟨bb, 10, none⟩ = some (.slice none 0 0)) : Calls Tryz.prog 48 #[.pointer (some ⟨bb, 0, none⟩)] W fun e w' => e = .returned (.tuple #[]) ∧ Eff0 W w' := by
  go_enter Tryz.func48, Tryz.ntmps48
  go_wp2_with fail
  go_loopg [2] 1 (fun k s2 wr => s2 = (.int .i64 0) ∧ Eff0 W wr ∧ wr.cell? ⟨bb, 10, none⟩ = some (.slice none 0 0))
  case atStart => exact ⟨rfl, Eff.refl _ _, x⟩
  case round =>
    obtain ⟨rfl, hw, x⟩ := hrel
    have HW := Aside0.mk hw
    clear hw
    go_wp2_with fail
    all_goals first | go_end0 | go_ret
    all_goals exact ⟨rfl, HW.out⟩
set_option maxHeartbeats 800000 in
set_option maxRecDepth 100000 in
theorem growE_Dirty (W : World) (bb : Nat) (x : W.cell? ⟨bb, 10, none⟩ = some (.slice none 0 0)) : Calls Tryz.prog 56 #[.pointer (some ⟨bb, 0, none⟩)] W fun e w' => e = .returned (.slice none 0 0) ∧ Eff0 W w' := by
  go_enter Tryz.func56, Tryz.ntmps56
  go_wp2_with fail
  go_loopg [3, 4] 1 (fun k s3 s4 wr => s3 = (.slice none 0 0) ∧ s4 = (.int .i64 0) ∧ Eff0 W wr ∧ wr.cell? ⟨bb, 10, none⟩ = some (.slice none 0 0))
  case atStart => exact ⟨rfl, rfl, Eff.refl _ _, x⟩
  case round =>
    obtain ⟨rfl, rfl, hw, x⟩ := hrel
    have HW := Aside0.mk hw
    clear hw
    go_wp2_with fail
    all_goals first | go_end0 | go_ret
    all_goals exact ⟨rfl, HW.out⟩
set_option maxHeartbeats 800000 in
set_option maxRecDepth 100000 in
theorem markedE_Dirty (W : World) : Calls Tryz.prog 65 #[.slice none 0 0] W fun e w' => e = .returned (.bool true) ∧ Eff0 W w' := by
  go_enter Tryz.func65, Tryz.ntmps65
  go_wp2_with fail
  go_loopg [3] 1 (fun k s3 wr => s3 = (.int .i64 0) ∧ Eff0 W wr)
  case atStart => exact ⟨rfl, Eff.refl _ _⟩
  case round =>
    obtain ⟨rfl, hw⟩ := hrel
    have HW := Aside0.mk hw
    clear hw
    go_wp2_with fail
    all_goals first | go_end0 | go_ret
    all_goals exact ⟨rfl, HW.out⟩
set_option maxHeartbeats 800000 in
set_option maxRecDepth 100000 in
theorem stillE_Entries (W : World) (bb : Nat) (x : W.cell? ⟨bb, 12, none⟩ = some (.slice none 0 0)) : Calls Tryz.prog 39 #[.pointer (some ⟨bb, 0, none⟩)] W fun e w' => e = .returned (.bool true) ∧ Eff0 W w' := by
  go_enter Tryz.func39, Tryz.ntmps39
  go_wp2_with fail
  go_loopg [3] 1 (fun k s3 wr => s3 = (.int .i64 0) ∧ Eff0 W wr ∧ wr.cell? ⟨bb, 12, none⟩ = some (.slice none 0 0))
  case atStart => exact ⟨rfl, Eff.refl _ _, x⟩
  case round =>
    obtain ⟨rfl, hw, x⟩ := hrel
    have HW := Aside0.mk hw
    clear hw
    go_wp2_with fail
    all_goals first | go_end0 | go_ret
    all_goals exact ⟨rfl, HW.out⟩
set_option maxHeartbeats 800000 in
set_option maxRecDepth 100000 in
theorem putE_Entries (W : World) (bb : Nat) (x : W.cell? ⟨bb, 12, none⟩ = some (.slice none 0 0)) : Calls Tryz.prog 49 #[.pointer (some ⟨bb, 0, none⟩)] W fun e w' => e = .returned (.tuple #[]) ∧ Eff0 W w' := by
  go_enter Tryz.func49, Tryz.ntmps49
  go_wp2_with fail
  go_loopg [2] 1 (fun k s2 wr => s2 = (.int .i64 0) ∧ Eff0 W wr ∧ wr.cell? ⟨bb, 12, none⟩ = some (.slice none 0 0))
  case atStart => exact ⟨rfl, Eff.refl _ _, x⟩
  case round =>
    obtain ⟨rfl, hw, x⟩ := hrel
    have HW := Aside0.mk hw
    clear hw
    go_wp2_with fail
    all_goals first | go_end0 | go_ret
    all_goals exact ⟨rfl, HW.out⟩
set_option maxHeartbeats 800000 in
set_option maxRecDepth 100000 in
theorem growE_Entries (W : World) (bb : Nat) (x : W.cell? ⟨bb, 12, none⟩ = some (.slice none 0 0)) : Calls Tryz.prog 57 #[.pointer (some ⟨bb, 0, none⟩)] W fun e w' => e = .returned (.slice none 0 0) ∧ Eff0 W w' := by
  go_enter Tryz.func57, Tryz.ntmps57
  go_wp2_with fail
  go_loopg [3, 4] 1 (fun k s3 s4 wr => s3 = (.slice none 0 0) ∧ s4 = (.int .i64 0) ∧ Eff0 W wr ∧ wr.cell? ⟨bb, 12, none⟩ = some (.slice none 0 0))
  case atStart => exact ⟨rfl, rfl, Eff.refl _ _, x⟩
  case round =>
    obtain ⟨rfl, rfl, hw, x⟩ := hrel
    have HW := Aside0.mk hw
    clear hw
    go_wp2_with fail
    all_goals first | go_end0 | go_ret
    all_goals exact ⟨rfl, HW.out⟩
set_option maxHeartbeats 800000 in
set_option maxRecDepth 100000 in
theorem markedE_Entries (W : World) : Calls Tryz.prog 66 #[.slice none 0 0] W fun e w' => e = .returned (.bool true) ∧ Eff0 W w' := by
  go_enter Tryz.func66, Tryz.ntmps66
  go_wp2_with fail
  go_loopg [3] 1 (fun k s3 wr => s3 = (.int .i64 0) ∧ Eff0 W wr)
  case atStart => exact ⟨rfl, Eff.refl _ _⟩
  case round =>
    obtain ⟨rfl, hw⟩ := hrel
    have HW := Aside0.mk hw
    clear hw
    go_wp2_with fail
    all_goals first | go_end0 | go_ret
    all_goals exact ⟨rfl, HW.out⟩
set_option maxHeartbeats 800000 in
set_option maxRecDepth 100000 in
theorem stillE_Pairs (W : World) (bb : Nat) (x : W.cell? ⟨bb, 14, none⟩ = some (.slice none 0 0)) : Calls Tryz.prog 40 #[.pointer (some ⟨bb, 0, none⟩)] W fun e w' => e = .returned (.bool true) ∧ Eff0 W w' := by
  go_enter Tryz.func40, Tryz.ntmps40
  go_wp2_with fail
  go_loopg [3] 1 (fun k s3 wr => s3 = (.int .i64 0) ∧ Eff0 W wr ∧ wr.cell? ⟨bb, 14, none⟩ = some (.slice none 0 0))
  case atStart => exact ⟨rfl, Eff.refl _ _, x⟩
  case round =>
    obtain ⟨rfl, hw, x⟩ := hrel
    have HW := Aside0.mk hw
    clear hw
    go_wp2_with fail
    all_goals first | go_end0 | go_ret
    all_goals exact ⟨rfl, HW.out⟩
set_option maxHeartbeats 800000 in
set_option maxRecDepth 100000 in
theorem putE_Pairs (W : World) (bb : Nat) (x : W.cell? ⟨bb, 14, none⟩ = some (.slice none 0 0)) : Calls Tryz.prog 50 #[.pointer (some ⟨bb, 0, none⟩)] W fun e w' => e = .returned (.tuple #[]) ∧ Eff0 W w' := by
  go_enter Tryz.func50, Tryz.ntmps50
  go_wp2_with fail
  go_loopg [2] 1 (fun k s2 wr => s2 = (.int .i64 0) ∧ Eff0 W wr ∧ wr.cell? ⟨bb, 14, none⟩ = some (.slice none 0 0))
  case atStart => exact ⟨rfl, Eff.refl _ _, x⟩
  case round =>
    obtain ⟨rfl, hw, x⟩ := hrel
    have HW := Aside0.mk hw
    clear hw
    go_wp2_with fail
    all_goals first | go_end0 | go_ret
    all_goals exact ⟨rfl, HW.out⟩
set_option maxHeartbeats 800000 in
set_option maxRecDepth 100000 in
theorem growE_Pairs (W : World) (bb : Nat) (x : W.cell? ⟨bb, 14, none⟩ = some (.slice none 0 0)) : Calls Tryz.prog 58 #[.pointer (some ⟨bb, 0, none⟩)] W fun e w' => e = .returned (.slice none 0 0) ∧ Eff0 W w' := by
  go_enter Tryz.func58, Tryz.ntmps58
  go_wp2_with fail
  go_loopg [3, 4] 1 (fun k s3 s4 wr => s3 = (.slice none 0 0) ∧ s4 = (.int .i64 0) ∧ Eff0 W wr ∧ wr.cell? ⟨bb, 14, none⟩ = some (.slice none 0 0))
  case atStart => exact ⟨rfl, rfl, Eff.refl _ _, x⟩
  case round =>
    obtain ⟨rfl, rfl, hw, x⟩ := hrel
    have HW := Aside0.mk hw
    clear hw
    go_wp2_with fail
    all_goals first | go_end0 | go_ret
    all_goals exact ⟨rfl, HW.out⟩
set_option maxHeartbeats 800000 in
set_option maxRecDepth 100000 in
theorem markedE_Pairs (W : World) : Calls Tryz.prog 67 #[.slice none 0 0] W fun e w' => e = .returned (.bool true) ∧ Eff0 W w' := by
  go_enter Tryz.func67, Tryz.ntmps67
  go_wp2_with fail
  go_loopg [3] 1 (fun k s3 wr => s3 = (.int .i64 0) ∧ Eff0 W wr)
  case atStart => exact ⟨rfl, Eff.refl _ _⟩
  case round =>
    obtain ⟨rfl, hw⟩ := hrel
    have HW := Aside0.mk hw
    clear hw
    go_wp2_with fail
    all_goals first | go_end0 | go_ret
    all_goals exact ⟨rfl, HW.out⟩
set_option maxHeartbeats 800000 in
set_option maxRecDepth 100000 in
theorem stillE_Txs (W : World) (bb : Nat) (x : W.cell? ⟨bb, 16, none⟩ = some (.slice none 0 0)) : Calls Tryz.prog 41 #[.pointer (some ⟨bb, 0, none⟩)] W fun e w' => e = .returned (.bool true) ∧ Eff0 W w' := by
  go_enter Tryz.func41, Tryz.ntmps41
  go_wp2_with fail
  go_loopg [3] 1 (fun k s3 wr => s3 = (.int .i64 0) ∧ Eff0 W wr ∧ wr.cell? ⟨bb, 16, none⟩ = some (.slice none 0 0))
  case atStart => exact ⟨rfl, Eff.refl _ _, x⟩
  case round =>
    obtain ⟨rfl, hw, x⟩ := hrel
    have HW := Aside0.mk hw
    clear hw
    go_wp2_with fail
    all_goals first | go_end0 | go_ret
    all_goals exact ⟨rfl, HW.out⟩
set_option maxHeartbeats 800000 in
set_option maxRecDepth 100000 in
theorem putE_Txs (W : World) (bb : Nat) (x : W.cell? ⟨bb, 16, none⟩ = some (.slice none 0 0)) : Calls Tryz.prog 42 #[.pointer (some ⟨bb, 0, none⟩)] W fun e w' => e = .returned (.tuple #[]) ∧ Eff0 W w' := by
  go_enter Tryz.func42, Tryz.ntmps42
  go_wp2_with fail
  go_loopg [2] 1 (fun k s2 wr => s2 = (.int .i64 0) ∧ Eff0 W wr ∧ wr.cell? ⟨bb, 16, none⟩ = some (.slice none 0 0))
  case atStart => exact ⟨rfl, Eff.refl _ _, x⟩
  case round =>
    obtain ⟨rfl, hw, x⟩ := hrel
    have HW := Aside0.mk hw
    clear hw
    go_wp2_with fail
    all_goals first | go_end0 | go_ret
    all_goals exact ⟨rfl, HW.out⟩
set_option maxHeartbeats 800000 in
set_option maxRecDepth 100000 in
theorem growE_Txs (W : World) (bb : Nat) (x : W.cell? ⟨bb, 16, none⟩ = some (.slice none 0 0)) : Calls Tryz.prog 59 #[.pointer (some ⟨bb, 0, none⟩)] W fun e w' => e = .returned (.slice none 0 0) ∧ Eff0 W w' := by
  go_enter Tryz.func59, Tryz.ntmps59
  go_wp2_with fail
  go_loopg [3, 4] 1 (fun k s3 s4 wr => s3 = (.slice none 0 0) ∧ s4 = (.int .i64 0) ∧ Eff0 W wr ∧ wr.cell? ⟨bb, 16, none⟩ = some (.slice none 0 0))
  case atStart => exact ⟨rfl, rfl, Eff.refl _ _, x⟩
  case round =>
    obtain ⟨rfl, rfl, hw, x⟩ := hrel
    have HW := Aside0.mk hw
    clear hw
    go_wp2_with fail
    all_goals first | go_end0 | go_ret
    all_goals exact ⟨rfl, HW.out⟩
set_option maxHeartbeats 800000 in
set_option maxRecDepth 100000 in
theorem markedE_Txs (W : World) : Calls Tryz.prog 68 #[.slice none 0 0] W fun e w' => e = .returned (.bool true) ∧ Eff0 W w' := by
  go_enter Tryz.func68, Tryz.ntmps68
  go_wp2_with fail
  go_loopg [3] 1 (fun k s3 wr => s3 = (.int .i64 0) ∧ Eff0 W wr)
  case atStart => exact ⟨rfl, Eff.refl _ _⟩
  case round =>
    obtain ⟨rfl, hw⟩ := hrel
    have HW := Aside0.mk hw
    clear hw
    go_wp2_with fail
    all_goals first | go_end0 | go_ret
    all_goals exact ⟨rfl, HW.out⟩
end Go.Proofs.YtcmepoakcffpaaaGreat.BK
namespace Go.Proofs.YtcmepoakcffpaaaGreat.BK
open Go Go.RowKit Go.Proofs.YtcmepoakcffpaaaGreatW.PrintWords Go.Proofs.YtcmepoakcffpaaaGreatW.PrintLast Go.Proofs.YtcmepoakcffpaaaGreatW.PrintMore Go.Proofs.YtcmepoakcffpaaaGreat.L
set_option linter.unusedVariables false
set_option linter.unusedSimpArgs false
/-! ### Cells: marks, copies, alike (printed by mkkind.py) -/
abbrev encCells (x : ByteArray × ByteArray × Int × Int) : List Value := [.string x.1, .string x.2.1, .int .i64 x.2.2.1, .int .i64 x.2.2.2]
theorem lenCells (x : ByteArray × ByteArray × Int × Int) : (encCells x).length = 4 := rfl
theorem oneCells (x : ByteArray × ByteArray × Int × Int) : ∀ u ∈ encCells x, u.oneCell' = true := by
  intro u hu
  simp only [encCells, List.mem_cons, List.not_mem_nil, or_false] at hu
  rcases hu with rfl | rfl | rfl | rfl <;> rfl
theorem kfCells : KF Tryz.prog 26 42 4 := KF.mk' (z := .agg #[.string ByteArray.empty, .string ByteArray.empty, .int .i64 0, .int .i64 0]) (b := 48) Tryz.underlying26 (by kernel_rfl) rfl (by decide)
theorem kfHCells : KF Tryz.prog 32 26 1 := KF.mk' (z := .slice none 0 0) (b := 24) Tryz.underlying32 (by kernel_rfl) rfl (by decide)
abbrev mkCells (i k : Nat) : ByteArray × ByteArray × Int × Int := (ByteArray.empty, ByteArray.empty, 0, -1000 * (i : Int) - (k : Int) - 1)
set_option maxHeartbeats 1600000 in
set_option maxRecDepth 100000 in
theorem markCells_calls (i f n : Nat) (hi : i < 900) (hf : f + n < 700000) (W : World) : Calls Tryz.prog 89 #[.int .i64 i, .int .i64 f, .int .i64 n] W fun e w' => ∃ A c, e = .returned (.slice A n c) ∧ Aside0 (Upd W (fun _ => False) (RwAt encCells 4 42 (.slice A n c) (markL mkCells i f n)) w') := by
  go_enter Tryz.func89, Tryz.ntmps89
  go_wp2
  go_loopg [7, 8] n (fun k s7 s8 wr => ∃ (j : Nat) (A : Option Addr) (c : Nat), s7 = .slice A j c ∧ s8 = .int .i64 ((f : Int) + (j : Int)) ∧ j + k = n ∧ Aside0 (Upd W (fun _ => False) (RwAt encCells 4 42 (.slice A j c) (markL mkCells i f j)) wr))
  case atStart => exact ⟨0, none, 0, rfl, by simp, by omega, Aside0.mk (Upd.same (RwAt.nil W) (Eff.refl _ _))⟩
  case round =>
    obtain ⟨j, A, c, rfl, rfl, hj, U⟩ := hrel
    by_cases hz : j < n
    · have p1 : ((f : Int) + (j : Int) < (f : Int) + (n : Int)) = True := eq_true (by omega)
      have p2 : ((j : Int) < (n : Int)) = True := eq_true (by omega)
      obtain ⟨F, hF, eF, kF⟩ := U.out
      obtain ⟨q, W', hr0, hU⟩ := row_add kfCells (by decide) lenCells oneCells hF (mkCells i (f + j)) (by rw [markL_len]; omega)
      rw [← markL_succ, markL_len] at hU
      rw [markL_len] at hr0
      have e1 : -1000 * (i : Int) - ((f + j : Nat) : Int) - 1 = -1000 * (i : Int) - ((f : Int) + (j : Int)) - 1 := by omega
      have hr : ∀ ty, (Builtin.append_ #[26, 26] ty #[.slice A j c, .slice (some ⟨wr.heap.size, 0, none⟩) 1 1]).run Tryz.prog (wr.alloc (.cells #[.string ByteArray.empty, .string ByteArray.empty, .int .i64 0, .int .i64 (-1000 * (i : Int) - ((f : Int) + (j : Int)) - 1)] 42)) = .ok (.slice q.1 (j + 1) q.2) W' := by
        rw [← e1]
        exact hr0
      have HU := Aside0.mk (upd_go eF kF hU)
      have HJ := Aside0.mk (And.intro hz hj)
      have hi9 : (i : Int) < 900 := by omega
      have hj9 : (j : Int) < 700000 := by omega
      have hf9 : (f : Int) < 700000 := by omega
      clear hz hj U hF eF kF hU e1 hr0
      go_wp2_with (at_builtin; refine Lib.wpList_append_run _ rfl (.tmp 17) (.tmp 24) 26 26 rfl _ _ rfl rfl _ _ (hr _) ?_)
      go_roundg (gk - 1)
      case measure => have := HJ.out; omega
      case rel => exact ⟨j + 1, _, _, rfl, by simp; omega, by have := HJ.out; omega, HU⟩
    · have p1 : ((f : Int) + (j : Int) < (f : Int) + (n : Int)) = False := eq_false (by omega)
      have p2 : ((j : Int) < (n : Int)) = False := eq_false (by omega)
      obtain rfl : j = n := by omega
      clear hz hj
      go_wp2
      go_ret
      exact ⟨_, _, rfl, U⟩
set_option maxHeartbeats 1600000 in
set_option maxRecDepth 100000 in
theorem copyCells_calls (xs : List (ByteArray × ByteArray × Int × Int)) (A : Option Addr) (c : Nat) (W : World) (h : LieX encCells 4 W A xs) (hm : xs.length < 800000) : Calls Tryz.prog 31 #[.slice A xs.length c] W fun e w' => ∃ A c, e = .returned (.slice A xs.length c) ∧ Aside0 (Upd W (fun _ => False) (RwAt encCells 4 42 (.slice A xs.length c) xs) w') := by
  obtain ⟨q, W', hr, hU⟩ := row_joinS kfCells (by decide) lenCells oneCells (RwAt.nil W) (LieX.src lenCells oneCells (by decide) Tryz.underlying26 c h) (by simp only [List.length_nil]; omega)
  rw [List.nil_append] at hr hU
  have HU := Aside0.mk hU
  clear hU h
  go_enter Tryz.func31, Tryz.ntmps31
  go_wp2_with (at_builtin; refine Lib.wpList_append_run _ rfl (.const (.slice none 0 0)) (.tmp 3) 26 26 rfl _ _ rfl rfl _ _ (hr _) ?_)
  go_ret
  exact ⟨_, _, rfl, HU⟩
theorem eqCells (d : Nat) (w : World) (v0 v1 : ByteArray) (v2 v3 : Int) :
    (Op.equalIn (d + 2) 42 (.agg #[.string v0, .string v1, .int .i64 v2, .int .i64 v3]) (.agg #[.string v0, .string v1, .int .i64 v2, .int .i64 v3])).run Tryz.prog w = .ok true w := by
  refine eqA_of Tryz.underlying42 (by kernel_rfl) ?_
  refine eqf_end (by rfl) (by go_simp; rfl) (by go_simp; rfl) (by go_simp) ?_
  refine eqf_end (by rfl) (by go_simp; rfl) (by go_simp; rfl) (by go_simp) ?_
  refine eqf_end (by rfl) (by go_simp; rfl) (by go_simp; rfl) (by go_simp) ?_
  exact eqf_last (by rfl) (by go_simp; rfl) (by go_simp; rfl) (by go_simp)
set_option maxHeartbeats 1600000 in
set_option maxRecDepth 100000 in
theorem sameCells_calls (xs : List (ByteArray × ByteArray × Int × Int)) (A B : Option Addr) (c d : Nat) (W : World) (hA : LieX encCells 4 W A xs) (hB : LieX encCells 4 W B xs) (hl : xs.length < 900000) : Calls Tryz.prog 17 #[.slice A xs.length c, .slice B xs.length d] W fun e w' => e = .returned (.bool true) ∧ Drawn0 W w' := by
  have H := Aside0.mk (And.intro hA hB)
  have hE := eqCells
  clear hA hB
  go_enter Tryz.func17, Tryz.ntmps17
  go_wp2_with fail
  go_loopg [5] xs.length (fun k s5 wr => ∃ (i : Nat), s5 = .int .i64 (i : Int) ∧ i + k = xs.length ∧ Drawn0 W wr)
  case atStart => exact ⟨0, rfl, by omega, Drawn0.refl _⟩
  case round =>
    obtain ⟨i, rfl, hik, hw⟩ := hrel
    by_cases hi : i < xs.length
    · have p4 : ((i : Int) < (xs.length : Int)) = True := eq_true (by omega)
      have p5 : (0 : Int) ≤ (i : Int) := by omega
      have hii : i < 900000 := by omega
      obtain ⟨a1, rfl, x0, xr⟩ := LieX.at_ (LieX.eff H.out.1 ((Eff.refl (fun _ => False) _).drawn hw).below0) i hi
      obtain ⟨b1, rfl, y0, yr⟩ := LieX.at_ (LieX.eff H.out.2 ((Eff.refl (fun _ => False) _).drawn hw).below0) i hi
      replace x0 := x0 _ rfl
      replace y0 := y0 _ rfl
      have x1 := xr 1 (by omega) _ rfl
      have y1 := yr 1 (by omega) _ rfl
      have x2 := xr 2 (by omega) _ rfl
      have y2 := yr 2 (by omega) _ rfl
      have x3 := xr 3 (by omega) _ rfl
      have y3 := yr 3 (by omega) _ rfl
      have HW := Aside0.mk (And.intro hw hik)
      generalize xs[i] = v at *
      obtain ⟨v0, v1, v2, v3⟩ := v
      clear hw hik xr yr
      dsimp only at x0 y0 x1 y1 x2 y2 x3 y3
      go_wp2_with fail
      go_quiet (fail)
      go_wp2_with fail
      go_roundg (gk - 1)
      case measure => have := HW.out.2; omega
      case rel => exact ⟨i + 1, by simp, by have := HW.out.2; omega, HW.out.1.step _⟩
    · have p4 : ((i : Int) < (xs.length : Int)) = False := eq_false (by omega)
      have HW := Aside0.mk hw
      clear hw
      go_wp2_with fail
      go_ret
      exact ⟨rfl, HW.out⟩
end Go.Proofs.YtcmepoakcffpaaaGreat.BK
namespace Go.Proofs.YtcmepoakcffpaaaGreat.BK
open Go Go.RowKit Go.Proofs.YtcmepoakcffpaaaGreatW.PrintWords Go.Proofs.YtcmepoakcffpaaaGreatW.PrintLast Go.Proofs.YtcmepoakcffpaaaGreatW.PrintMore Go.Proofs.YtcmepoakcffpaaaGreat.L
set_option linter.unusedVariables false
set_option linter.unusedSimpArgs false
/-! ### Cells: one more list (printed by mkkind.py) -/
set_option maxHeartbeats 1600000 in
set_option maxRecDepth 100000 in
theorem addCells_calls {w W : World} {bb : Nat} {cs : Array Value} {a b : Value} {K : List (Kp (ByteArray × ByteArray × Int × Int))} {A : Option Addr} {c : Nat} {xs : List (ByteArray × ByteArray × Int × Int)} {rest : List HP} (q0 : cs[4]? = some a) (q1 : cs[5]? = some b) (o : Own w W (Stars (CellsAt bb cs 40 :: (BkP encCells 4 42 26 a b K ++ (RwAt encCells 4 42 (.slice A xs.length c) xs :: rest))))) (hK : K.length < 250) (hx : xs.length < 700000) :
    Calls Tryz.prog 15 #[.pointer (some ⟨bb, 0, none⟩), .slice A xs.length c] W fun e w' => e = .returned (.tuple #[]) ∧ ∃ a' b' B d, Aside0 (Own w w' (Stars (CellsAt bb ((cs.setIfInBounds 4 a').setIfInBounds 5 b') 40 :: (BkP encCells 4 42 26 a' b' (K ++ [⟨A, c, B, d, xs⟩]) ++ rest)))) := by
  have hs0 : 4 < cs.size := (Array.getElem?_eq_some_iff.1 q0).1
  have hs1 : 5 < cs.size := (Array.getElem?_eq_some_iff.1 q1).1
  obtain ⟨F1, h1⟩ := o.fact 1 rfl
  obtain ⟨F2, h2⟩ := o.fact 2 rfl
  obtain ⟨A1, c1, ha⟩ := h1.1.form
  obtain ⟨A2, c2, hb⟩ := h2.1.form
  rw [List.length_map] at ha hb
  subst ha hb
  obtain ⟨hc, hf⟩ := o.cellsAt 0 rfl
  have x0 : W.cell? ⟨bb, 4, none⟩ = some (.slice A1 K.length c1) := (hc 4).trans q0
  have f0 := hf 4
  have p1 : ((K.length : Int) < 250) = True := eq_true (by omega)
  obtain ⟨r, W1, hr, o1⟩ := Own.actAt (X := Option Addr × Nat) (p := fun r W' => ∀ ty, (Builtin.append_ #[32, 32] ty #[.slice A1 K.length c1, .slice (some ⟨W.heap.size, 0, none⟩) 1 1]).run Tryz.prog (W.alloc (.cells #[.slice A xs.length c] 26)) = .ok (.slice r.1 (K.length + 1) r.2) W') (S' := fun r => RH 26 (.slice r.1 (K.length + 1) r.2) (K.map Kp.hu ++ [(A, xs.length, c)])) o 1 rfl (fun F hF => by
    obtain ⟨r, W', hr, hU⟩ := row_add kfHCells (by decide) lenH oneH hF (A, xs.length, c) (by rw [List.length_map]; omega)
    rw [List.length_map] at hr hU
    exact ⟨r, W', hr, hU⟩)
  obtain ⟨hc1, hf1⟩ := o1.cellsAt 0 rfl
  have y0 : ∃ u, W1.cell? ⟨bb, 4, none⟩ = some u := ⟨_, (hc1 4).trans q0⟩
  have g0 := hf1 4
  have o2 := o1.setCellAt 0 rfl 4 (.slice r.1 (K.length + 1) r.2)
  clear o o1 h1 h2 hc hf hc1 hf1
  obtain ⟨u0, y0⟩ := y0
  go_enter Tryz.func15, Tryz.ntmps15
  go_wp2_with (at_builtin; refine Lib.wpList_append_run _ rfl (.tmp 14) (.tmp 16) 32 32 rfl _ _ rfl rfl _ _ (hr _) ?_)
  generalize hwb : W1.setCell ⟨bb, 4, none⟩ (.slice r.1 (K.length + 1) r.2) = wb at *
  have HW := Aside0.mk hwb
  obtain ⟨cr, hcr⟩ : ∃ cr, cr = cs.setIfInBounds 4 (.slice r.1 (K.length + 1) r.2) := ⟨_, rfl⟩
  have q1' : cr[5]? = some (.slice A2 K.length c2) := by
    rw [hcr, Array.getElem?_setIfInBounds_ne (by decide)]
    exact q1
  have O2 : Own w wb (Stars (CellsAt bb cr 40 :: RH 26 (.slice r.1 (K.length + 1) r.2) (K.map Kp.hu ++ [(A, xs.length, c)]) :: RH 26 (.slice A2 K.length c2) (K.map Kp.hw) :: Stars (K.map (pU encCells 4 42)) :: Stars (K.map (pW encCells 4 42)) :: RwAt encCells 4 42 (.slice A xs.length c) xs :: rest)) := by
    rw [hcr]
    exact o2
  have CC : ∀ Wc, Eff0 wb Wc → Calls Tryz.prog 31 #[.slice A xs.length c] Wc fun e w' => ∃ B d, e = .returned (.slice B xs.length d) ∧ Aside0 (Own w w' (Stars (CellsAt bb cr 40 :: RH 26 (.slice r.1 (K.length + 1) r.2) (K.map Kp.hu ++ [(A, xs.length, c)]) :: RH 26 (.slice A2 K.length c2) (K.map Kp.hw) :: Stars (K.map (pU encCells 4 42)) :: Stars (K.map (pW encCells 4 42)) :: RwAt encCells 4 42 (.slice A xs.length c) xs :: (rest ++ [RwAt encCells 4 42 (.slice B xs.length d) xs])))) := by
    intro Wc d0
    have o3 := O2.after d0
    obtain ⟨F5, h5⟩ := o3.fact 5 rfl
    refine (copyCells_calls xs A c Wc (LieX.of_Rw lenCells h5.1) (by omega)).mono ?_
    rintro e w' ⟨B, d, rfl, hU⟩
    obtain ⟨F', hN, ef, hk⟩ := hU.out
    exact ⟨B, d, rfl, Aside0.mk (o3.newAt ef hN (fun k hk' => (hk k hk').elim (fun h => h.elim) id))⟩
  have NX : ∀ w' B d, Own w w' (Stars (CellsAt bb cr 40 :: RH 26 (.slice r.1 (K.length + 1) r.2) (K.map Kp.hu ++ [(A, xs.length, c)]) :: RH 26 (.slice A2 K.length c2) (K.map Kp.hw) :: Stars (K.map (pU encCells 4 42)) :: Stars (K.map (pW encCells 4 42)) :: RwAt encCells 4 42 (.slice A xs.length c) xs :: (rest ++ [RwAt encCells 4 42 (.slice B xs.length d) xs]))) →
      w'.cell? ⟨bb, 5, none⟩ = some (.slice A2 K.length c2) ∧ w'.frozen? ⟨bb, 5, none⟩ = false ∧ bb < w'.heap.size ∧ ∃ (r2 : Option Addr × Nat) (W3 : World), (∀ ty, (Builtin.append_ #[32, 32] ty #[.slice A2 K.length c2, .slice (some ⟨w'.heap.size, 0, none⟩) 1 1]).run Tryz.prog (w'.alloc (.cells #[.slice B xs.length d] 26)) = .ok (.slice r2.1 (K.length + 1) r2.2) W3) ∧ (∃ u, W3.cell? ⟨bb, 5, none⟩ = some u) ∧ W3.frozen? ⟨bb, 5, none⟩ = false ∧
        Aside0 (Own w (W3.setCell ⟨bb, 5, none⟩ (.slice r2.1 (K.length + 1) r2.2)) (Stars (CellsAt bb (cr.setIfInBounds 5 (.slice r2.1 (K.length + 1) r2.2)) 40 :: (BkP encCells 4 42 26 (.slice r.1 (K.length + 1) r.2) (.slice r2.1 (K.length + 1) r2.2) (K ++ [⟨A, c, B, d, xs⟩]) ++ rest)))) := by
    intro w' B d o4
    obtain ⟨hc4, hf4⟩ := o4.cellsAt 0 rfl
    obtain ⟨r2, W3, hr2, o5⟩ := Own.actAt (X := Option Addr × Nat) (p := fun r2 W' => ∀ ty, (Builtin.append_ #[32, 32] ty #[.slice A2 K.length c2, .slice (some ⟨w'.heap.size, 0, none⟩) 1 1]).run Tryz.prog (w'.alloc (.cells #[.slice B xs.length d] 26)) = .ok (.slice r2.1 (K.length + 1) r2.2) W') (S' := fun r2 => RH 26 (.slice r2.1 (K.length + 1) r2.2) (K.map Kp.hw ++ [(B, xs.length, d)])) o4 2 rfl (fun F hF => by
      obtain ⟨r, W', hr, hU⟩ := row_add kfHCells (by decide) lenH oneH hF (B, xs.length, d) (by rw [List.length_map]; omega)
      rw [List.length_map] at hr hU
      exact ⟨r, W', hr, hU⟩)
    obtain ⟨hc5, hf5⟩ := o5.cellsAt 0 rfl
    have o6 := o5.setCellAt 0 rfl 5 (.slice r2.1 (K.length + 1) r2.2)
    have hlt : bb < w'.heap.size := World.block_lt_of_cell? w' _ ((hc4 5).trans q1')
    refine ⟨(hc4 5).trans q1', hf4 5, hlt, r2, W3, hr2, ⟨_, (hc5 5).trans q1'⟩, hf5 5, Aside0.mk (o6.imp (fun F h => ?_))⟩
    refine Sep.imp h (fun _ h => h) (fun _ h => Sep.imp h (fun _ h => by simpa using h) (fun _ h => Sep.imp h (fun _ h => by simpa using h) (fun _ h => ?_)))
    have e : (Stars (K.map (pU encCells 4 42)) :: Stars (K.map (pW encCells 4 42)) :: RwAt encCells 4 42 (.slice A xs.length c) xs :: (rest ++ [RwAt encCells 4 42 (.slice B xs.length d) xs]) : List HP).Perm (Stars (K.map (pU encCells 4 42)) :: RwAt encCells 4 42 (.slice A xs.length c) xs :: Stars (K.map (pW encCells 4 42)) :: RwAt encCells 4 42 (.slice B xs.length d) xs :: rest) := List.Perm.cons _ ((List.Perm.swap _ _ _).trans (((List.perm_append_singleton _ _).cons _).cons _))
    have h2 := Stars.perm e h
    have h3 := Sep.assoc' h2
    refine Sep.imp h3 (fun _ h => ?_) (fun _ h => ?_)
    · rw [List.map_append]
      exact Stars.add h
    · refine Sep.imp (Sep.assoc' h) (fun _ h => ?_) (fun _ h => h)
      rw [List.map_append]
      exact Stars.add h
  obtain ⟨hc2, hf2⟩ := O2.cellsAt 0 rfl
  have x1 : wb.cell? ⟨bb, 5, none⟩ = some (.slice A2 K.length c2) := (hc2 5).trans q1'
  have f1 := hf2 5
  have HO := Aside0.mk O2
  have HCR := Aside0.mk hcr
  clear o2 O2 hc2 hf2 hwb x0 f0 g0 y0 hr hcr q1' q0 q1
  go_region_law (first
    | (go_simp; go_at_call 31; refine (CC _ (by first | exact (Eff.refl _ _).drew | exact Eff.refl _ _ | exact (Eff.refl _ _).drewN _)).mono ?_; rintro e w' ⟨B, d, rfl, o4⟩; obtain ⟨x1', f1', hlt', r2, W3, hr2, ⟨u3, y3⟩, g3, O6⟩ := NX _ _ _ o4.out)
    | (refine step_ap rfl (.tmp 24) (.tmp 27) 32 32 rfl _ _ (by simp [Act.eval, Act.put]) (by simp [Act.eval, Act.put]) (hr2 _) ?_)
    | fail)
  all_goals go_end0
  all_goals rw [HCR.out] at O6
  all_goals exact ⟨rfl, _, _, B, d, Aside0.mk (by first | exact O6.out | exact O6.out.drew | exact O6.out.drewN _)⟩
end Go.Proofs.YtcmepoakcffpaaaGreat.BK
namespace Go.Proofs.YtcmepoakcffpaaaGreat.BK
open Go Go.RowKit Go.Proofs.YtcmepoakcffpaaaGreatW.PrintWords Go.Proofs.YtcmepoakcffpaaaGreatW.PrintLast Go.Proofs.YtcmepoakcffpaaaGreatW.PrintMore Go.Proofs.YtcmepoakcffpaaaGreat.L
set_option linter.unusedVariables false
set_option linter.unusedSimpArgs false
/-! ### Cells: each list is what it was (printed by mkkind.py) -/
set_option maxHeartbeats 1600000 in
set_option maxRecDepth 100000 in
theorem stillCells_calls {w W : World} {bb : Nat} {cs : Array Value} {a b : Value} {K : List (Kp (ByteArray × ByteArray × Int × Int))} {rest : List HP} (q0 : cs[4]? = some a) (q1 : cs[5]? = some b) (o : Own w W (Stars (CellsAt bb cs 40 :: (BkP encCells 4 42 26 a b K ++ rest)))) (hK : K.length < 900000) (hx : ∀ p ∈ K, p.xs.length < 700000) :
    Calls Tryz.prog 35 #[.pointer (some ⟨bb, 0, none⟩)] W fun e w' => e = .returned (.bool true) ∧ Eff0 W w' := by
  obtain ⟨F1, h1⟩ := o.fact 1 rfl
  obtain ⟨F2, h2⟩ := o.fact 2 rfl
  obtain ⟨A1, c1, ha⟩ := h1.1.form
  obtain ⟨A2, c2, hb⟩ := h2.1.form
  rw [List.length_map] at ha hb
  subst ha hb
  have HO := Aside0.mk (And.intro o (And.intro q0 q1))
  clear o h1 h2 q0 q1
  go_enter Tryz.func35, Tryz.ntmps35
  go_wp2_with fail
  go_loopg [3] K.length (fun k s3 wr => ∃ (i : Nat), s3 = .int .i64 (i : Int) ∧ i + k = K.length ∧ Eff0 W wr)
  case atStart => exact ⟨0, rfl, by omega, Eff.refl _ _⟩
  case round =>
    obtain ⟨i, rfl, hik, hw⟩ := hrel
    obtain ⟨o, q0, q1⟩ := HO.out
    replace o := o.after hw
    obtain ⟨hc, _⟩ := o.cellsAt 0 rfl
    have z0 : wr.cell? ⟨bb, 4, none⟩ = some (.slice A1 K.length c1) := (hc 4).trans q0
    have z1 : wr.cell? ⟨bb, 5, none⟩ = some (.slice A2 K.length c2) := (hc 5).trans q1
    clear q0 q1
    by_cases hi : i < K.length
    · have p4 : ((i : Int) < (K.length : Int)) = True := eq_true (by omega)
      have p5 : (0 : Int) ≤ (i : Int) := by omega
      have hii : i < 900000 := by omega
      obtain ⟨F1, h1⟩ := o.fact 1 rfl
      obtain ⟨F2, h2⟩ := o.fact 2 rfl
      obtain ⟨F3, h3⟩ := o.fact 3 rfl
      obtain ⟨F4, h4⟩ := o.fact 4 rfl
      obtain ⟨g1, d1, e1, _, x0⟩ := hd_cell h1.1 i (by rw [List.length_map]; exact hi)
      obtain ⟨g2, d2, e2, _, y0⟩ := hd_cell h2.1 i (by rw [List.length_map]; exact hi)
      injection e1 with e1 q1 q2
      injection e2 with e2 q3 q4
      subst e1 e2
      clear q1 q2 q3 q4
      rw [List.getElem_map] at x0 y0
      obtain ⟨G3, h3'⟩ := stars_at h3 i hi
      obtain ⟨G4, h4'⟩ := stars_at h4 i hi
      have C1 := LieX.of_Rw lenCells h3'.1
      have C2 := LieX.of_Rw lenCells h4'.1
      have hxl := hx K[i] (List.getElem_mem hi)
      generalize K[i] = p at *
      dsimp only at x0 y0 C1 C2
      have CS := fun W' (d : Eff0 wr W') => sameCells_calls p.xs p.A p.B p.c p.d W' (LieX.eff C1 d.below0) (LieX.eff C2 d.below0) (by omega)
      have hX : ∀ W', Eff0 wr W' → W'.cell? ⟨bb, 4, none⟩ = some (.slice (some ⟨g1, 0, none⟩) K.length c1) ∧ W'.cell? ⟨bb, 5, none⟩ = some (.slice (some ⟨g2, 0, none⟩) K.length c2) ∧ W'.cell? ⟨g1, i, none⟩ = some (.slice p.A p.xs.length p.c) ∧ W'.cell? ⟨g2, i, none⟩ = some (.slice p.B p.xs.length p.d) := fun W' d =>
        ⟨(d.cell (World.block_lt_of_cell? wr _ z0) id).trans z0, (d.cell (World.block_lt_of_cell? wr _ z1) id).trans z1, (d.cell (World.block_lt_of_cell? wr _ x0) id).trans x0, (d.cell (World.block_lt_of_cell? wr _ y0) id).trans y0⟩
      have HX := Aside0.mk hX
      have HW := Aside0.mk (And.intro hw (And.intro hik hi))
      clear o hc h1 h2 h3 h4 h3' h4' C1 C2 hw hik hi hX
      go_wp2_with fail
      have sb : Eff0 wr wr.drew := (Eff.refl _ _).drew
      go_region_held3 (fun W' => Eff0 wr W' ∧ W'.cell? ⟨bb, 4, none⟩ = some (.slice (some ⟨g1, 0, none⟩) K.length c1) ∧ W'.cell? ⟨bb, 5, none⟩ = some (.slice (some ⟨g2, 0, none⟩) K.length c2) ∧ W'.cell? ⟨g1, i, none⟩ = some (.slice p.A p.xs.length p.c) ∧ W'.cell? ⟨g2, i, none⟩ = some (.slice p.B p.xs.length p.d)) ((refine keepS HX.out ?_; first | assumption | exact sb | exact And.left (by assumption)))
        (first | (go_at_call 17; refine (CS _ (by first | exact sb | exact And.left (by assumption) | assumption)).mono ?_; rintro e w' ⟨rfl, dn⟩; have en : Eff0 wr w' := Eff.drawn (by first | exact sb | exact And.left (by assumption) | assumption) dn; clear dn) | fail)
      go_wp2_with fail
      go_roundg (gk - 1)
      case measure => have := HW.out; omega
      case rel => exact ⟨i + 1, by simp, by have := HW.out; omega, HW.out.1.then0 en⟩
    · have p4 : ((i : Int) < (K.length : Int)) = False := eq_false (by omega)
      have HW := Aside0.mk hw
      clear hw o hc
      go_wp2_with fail
      go_ret
      exact ⟨rfl, HW.out⟩
end Go.Proofs.YtcmepoakcffpaaaGreat.BK
namespace Go.Proofs.YtcmepoakcffpaaaGreat.BK
open Go Go.RowKit Go.Proofs.YtcmepoakcffpaaaGreatW.PrintWords Go.Proofs.YtcmepoakcffpaaaGreatW.PrintLast Go.Proofs.YtcmepoakcffpaaaGreatW.PrintMore Go.Proofs.YtcmepoakcffpaaaGreat.L
set_option linter.unusedVariables false
set_option linter.unusedSimpArgs false
/-! ### Cells: marks are put into each list (printed by mkkind.py) -/
/-- The i-th list: its first t places are marked. -/
def InPCells (w wr : World) (bb : Nat) (cs : Array Value) (a : Value) (rest : List HP) (M : List (Hc (ByteArray × ByteArray × Int × Int))) (i : Nat) (h : Hd) (Am : Option Addr) (cm t : Nat) : Prop := ∃ ys : List (ByteArray × ByteArray × Int × Int), ys.length = h.2.1 ∧ (∀ u, u < t → ys[u]? = some (mkCells i u)) ∧ Own w wr (Stars (CellsAt bb cs 40 :: (MkP encCells 4 42 26 a (M.set i (h, ys)) ++ (rest ++ [RwAt encCells 4 42 (.slice Am h.2.1 cm) (markL mkCells i 0 h.2.1)]))))
set_option maxHeartbeats 1600000 in
set_option maxRecDepth 100000 in
theorem putCells_calls {w W : World} {bb : Nat} {cs : Array Value} {a : Value} {rest : List HP} {M : List (Hc (ByteArray × ByteArray × Int × Int))} (q0 : cs[4]? = some a) (o : Own w W (Stars (CellsAt bb cs 40 :: (MkP encCells 4 42 26 a M ++ rest)))) (hK : M.length < 800) (hx : ∀ q ∈ M, q.1.2.1 < 600000) :
    Calls Tryz.prog 45 #[.pointer (some ⟨bb, 0, none⟩)] W fun e w' => e = .returned (.tuple #[]) ∧ ∃ M' : List (Hc (ByteArray × ByteArray × Int × Int)), Aside0 (M'.map Prod.fst = M.map Prod.fst ∧ Mkd mkCells M' M.length ∧ Own w w' (Stars (CellsAt bb cs 40 :: (MkP encCells 4 42 26 a M' ++ rest)))) := by
  obtain ⟨F1, h1⟩ := o.fact 1 rfl
  obtain ⟨A1, c1, ha⟩ := h1.1.form
  rw [List.length_map] at ha
  subst ha
  have HO := Aside0.mk (And.intro o (And.intro hx q0))
  clear o h1 hx q0
  go_enter Tryz.func45, Tryz.ntmps45
  go_wp2_with fail
  go_loopg [2] M.length (fun k s2 wr => ∃ (i : Nat) (M' : List (Hc (ByteArray × ByteArray × Int × Int))), s2 = .int .i64 (i : Int) ∧ i + k = M.length ∧ Aside0 (M'.map Prod.fst = M.map Prod.fst ∧ Mkd mkCells M' i ∧ Own w wr (Stars (CellsAt bb cs 40 :: (MkP encCells 4 42 26 (.slice A1 M.length c1) M' ++ rest)))))
  case atStart => exact ⟨0, M, rfl, by omega, Aside0.mk ⟨rfl, fun _ h => absurd h (Nat.not_lt_zero _), HO.out.1⟩⟩
  case round =>
    rename Nat => gq
    obtain ⟨i, M', rfl, hik, S1⟩ := hrel
    rename World => wo
    obtain ⟨hf, hm, o⟩ := S1.out
    have hln : M'.length = M.length := by have := congrArg List.length hf; simpa using this
    obtain ⟨hc, _⟩ := o.cellsAt 0 rfl
    have z0 : wo.cell? ⟨bb, 4, none⟩ = some (.slice A1 M.length c1) := (hc 4).trans HO.out.2.2
    by_cases hi : i < M.length
    · have p4 : ((i : Int) < (M.length : Int)) = True := eq_true (by omega)
      have p5 : (0 : Int) ≤ (i : Int) := by omega
      have hii : i < 800 := by omega
      have hi' : i < M'.length := by omega
      obtain ⟨F1, h1⟩ := o.fact 1 rfl
      obtain ⟨g1, d1, e1, _, x0⟩ := hd_cell h1.1 i (by rw [List.length_map]; exact hi')
      injection e1 with e1 q1 q2
      subst e1
      clear q1 q2
      rw [List.getElem_map] at x0
      have hn6 : M'[i].1.2.1 < 600000 := by
        have : M'[i].1 ∈ M.map Prod.fst := by rw [← hf]; exact List.mem_map.2 ⟨_, List.getElem_mem hi', rfl⟩
        obtain ⟨q, hq, he⟩ := List.mem_map.1 this
        rw [← he]
        exact HO.out.2.1 q hq
      obtain ⟨q, hq⟩ : ∃ q, q = M'[i] := ⟨_, rfl⟩
      rw [← hq] at x0 hn6
      have hq' : M'[i]? = some q := by rw [hq]; exact List.getElem?_eq_getElem hi'
      obtain ⟨⟨Aq, nq, cq⟩, xs⟩ := q
      dsimp only at x0 hn6
      have CM := fun W => markCells_calls i 0 nq (by omega) (by omega) W
      have S2 := Aside0.mk (And.intro hf (And.intro hm (And.intro o (And.intro hln (And.intro hik (And.intro hi hq'))))))
      clear S1 hf hm o hln hc hik hi hi' hq hq' h1
      go_wp2_with (go_at_call 89; refine (CM _).mono ?_; rintro e w3 ⟨Am, cm, rfl, U1⟩)
      go_loopg [4] nq (fun k s4 wr => ∃ t : Nat, s4 = .int .i64 (t : Int) ∧ t + k = nq ∧ Aside0 (InPCells w wr bb cs (.slice (some ⟨g1, 0, none⟩) M.length c1) rest M' i (Aq, nq, cq) Am cm t))
      case atStart =>
        obtain ⟨hf, hm, o, hln, hik, hi, hq'⟩ := S2.out
        obtain ⟨F', hN, ef, hk⟩ := U1.out
        have o2 := o.newAt ef hN (fun k hk' => (hk k hk').elim (fun h => h.elim) id)
        have hi' : i < M'.length := by omega
        have e1 : M'.set i ((Aq, nq, cq), xs) = M' := by
          have : M'[i] = ((Aq, nq, cq), xs) := by
            rw [List.getElem?_eq_getElem hi'] at hq'
            injection hq'
          rw [← this, List.set_getElem_self]
        have hl : xs.length = nq := by
          obtain ⟨F3, h3⟩ := o.fact 2 rfl
          obtain ⟨G, h4⟩ := stars_at h3 i hi'
          rw [List.getElem?_eq_getElem hi'] at hq'
          injection hq' with hq'
          rw [hq'] at h4
          exact ri_len h4.1
        exact ⟨0, rfl, by omega, Aside0.mk ⟨xs, hl, fun _ h => absurd h (Nat.not_lt_zero _), by rw [e1]; exact o2⟩⟩
      case round =>
        obtain ⟨t, rfl, htk, P1⟩ := hrel
        obtain ⟨ys, hyl, hyt, o⟩ := P1.out
        obtain ⟨hf, hm, oo, hln, hik, hi, hq'⟩ := S2.out
        have hi' : i < M'.length := by omega
        by_cases ht : t < nq
        · have p6 : ((t : Int) < (nq : Int)) = True := eq_true (by omega)
          have p7 : (0 : Int) ≤ (t : Int) := by omega
          have ht6 : t < 600000 := by omega
          have o1 := o.drew
          obtain ⟨hc, _⟩ := o1.cellsAt 0 rfl
          have z0 : wr.drew.cell? ⟨bb, 4, none⟩ = some (.slice (some ⟨g1, 0, none⟩) M.length c1) := (hc 4).trans HO.out.2.2
          obtain ⟨F1, h1⟩ := o1.fact 1 rfl
          obtain ⟨g2, d2, e2, _, x1⟩ := hd_cell h1.1 i (by rw [List.length_map, List.length_set]; exact hi')
          injection e2 with e2 q1 q2
          injection e2 with e2
          injection e2 with e2
          subst e2
          rw [List.getElem_map, List.getElem_set_self] at x1
          obtain ⟨F3, h3⟩ := Own.fact (S := RwAt encCells 4 42 (.slice Am nq cm) (markL mkCells i 0 nq)) o1 (rest.length + 3) (by
            show ((rest ++ [_] : List HP))[rest.length]? = _
            simp)
          obtain ⟨g3, d3, e3, _, hm3⟩ := Rw.at_ lenCells h3.1 t (by rw [markL_len]; exact ht)
          injection e3 with e3 q3 q4
          rw [markL_getE] at hm3
          obtain ⟨g4, e4, hn3, hf3, o3⟩ := put_one lenCells o1 hi' t (by rw [hyl]; exact ht) (mkCells i t)
          dsimp only at e4 x1
          subst e3 e4
          replace x1 : wr.drew.cell? ⟨g1, i, none⟩ = some (.slice (some ⟨g4, 0, none⟩) nq cq) := x1
          have m0 : wr.drew.cell? ⟨g3, t * 4, none⟩ = some (.string ByteArray.empty) := by simpa using hm3 0 _ rfl
          have m1 : wr.drew.cell? ⟨g3, t * 4 + 1, none⟩ = some (.string ByteArray.empty) := by simpa using hm3 1 _ rfl
          have m2 : wr.drew.cell? ⟨g3, t * 4 + 2, none⟩ = some (.int .i64 0) := by simpa using hm3 2 _ rfl
          have m3 : wr.drew.cell? ⟨g3, t * 4 + 3, none⟩ = some (.int .i64 (-1000 * (i : Int) - (t : Int) - 1)) := by simpa using hm3 3 _ rfl
          obtain ⟨u0, n0⟩ : ∃ u, wr.drew.cell? ⟨g4, t * 4, none⟩ = some u := by simpa using hn3 0 (by decide)
          have f0 : wr.drew.frozen? ⟨g4, t * 4, none⟩ = false := hf3 _
          have n90 : wr.cell? ⟨g4, t * 4, none⟩ = some u0 := n0
          have f90 : wr.frozen? ⟨g4, t * 4, none⟩ = false := f0
          obtain ⟨u1, n1⟩ : ∃ u, wr.drew.cell? ⟨g4, t * 4 + 1, none⟩ = some u := by simpa using hn3 1 (by decide)
          have f1 : wr.drew.frozen? ⟨g4, t * 4 + 1, none⟩ = false := hf3 _
          have n91 : wr.cell? ⟨g4, t * 4 + 1, none⟩ = some u1 := n1
          have f91 : wr.frozen? ⟨g4, t * 4 + 1, none⟩ = false := f1
          obtain ⟨u2, n2⟩ : ∃ u, wr.drew.cell? ⟨g4, t * 4 + 2, none⟩ = some u := by simpa using hn3 2 (by decide)
          have f2 : wr.drew.frozen? ⟨g4, t * 4 + 2, none⟩ = false := hf3 _
          have n92 : wr.cell? ⟨g4, t * 4 + 2, none⟩ = some u2 := n2
          have f92 : wr.frozen? ⟨g4, t * 4 + 2, none⟩ = false := f2
          obtain ⟨u3, n3⟩ : ∃ u, wr.drew.cell? ⟨g4, t * 4 + 3, none⟩ = some u := by simpa using hn3 3 (by decide)
          have f3 : wr.drew.frozen? ⟨g4, t * 4 + 3, none⟩ = false := hf3 _
          have n93 : wr.cell? ⟨g4, t * 4 + 3, none⟩ = some u3 := n3
          have f93 : wr.frozen? ⟨g4, t * 4 + 3, none⟩ = false := f3
          have P2 : InPCells w ((((wr.drew.setCell ⟨g4, t * 4, none⟩ (.string ByteArray.empty)).setCell ⟨g4, t * 4 + 1, none⟩ (.string ByteArray.empty)).setCell ⟨g4, t * 4 + 2, none⟩ (.int .i64 0)).setCell ⟨g4, t * 4 + 3, none⟩ (.int .i64 (-1000 * (i : Int) - (t : Int) - 1))) bb cs (.slice (some ⟨g1, 0, none⟩) M.length c1) rest M' i (some ⟨g4, 0, none⟩, nq, cq) (some ⟨g3, 0, none⟩) cm (t + 1) := by
            refine ⟨ys.set t (mkCells i t), by rw [List.length_set]; exact hyl, fun u hu => ?_, by first | exact o3 | simpa using o3⟩
            by_cases hut : u = t
            · subst hut
              rw [List.getElem?_set_self (by rw [hyl]; exact ht)]
            · rw [List.getElem?_set_ne (by omega)]
              exact hyt u (by omega)
          have P3 := Aside0.mk P2
          have T1 := Aside0.mk (And.intro htk ht)
          generalize -1000 * (i : Int) - (t : Int) - 1 = yy at *
          clear P1 P2 o o1 o3 hc h1 h3 q1 q2 q3 q4 hyl hyt hf hm oo hln hik hi hq' hi' htk ht hm3 hn3 hf3
          go_wp2_with fail
          go_region_law (fail)
          all_goals go_wp2_with fail
          all_goals go_roundg (gk - 1)
          all_goals first
            | (have := T1.out; omega)
            | exact ⟨t + 1, by simp, by have := T1.out; omega, P3⟩
        · have p6 : ((t : Int) < (nq : Int)) = False := eq_false (by omega)
          obtain rfl : t = nq := by omega
          have hys := marked_full i t ys hyl hyt
          have R1 : Aside0 ((M'.set i ((Aq, t, cq), ys)).map Prod.fst = M.map Prod.fst ∧ Mkd mkCells (M'.set i ((Aq, t, cq), ys)) (i + 1) ∧ Own w wr (Stars (CellsAt bb cs 40 :: (MkP encCells 4 42 26 (.slice (some ⟨g1, 0, none⟩) M.length c1) (M'.set i ((Aq, t, cq), ys)) ++ rest)))) := by
            refine ⟨?_, fun j hj q hq => ?_, ?_⟩
            · rw [← hf]
              have h9 : M'[i] = ((Aq, t, cq), xs) := by
                rw [List.getElem?_eq_getElem hi'] at hq'
                injection hq'
              have := fst_set M' i hi' ys
              rw [h9] at this
              exact this
            · by_cases hji : j = i
              · subst hji
                rw [List.getElem?_set_self hi'] at hq
                injection hq with hq
                subst hq
                exact hys
              · exact (hm.set _) j (by omega) q hq
            · have o9 := Own.dropAt (S := RwAt encCells 4 42 (.slice Am t cm) (markL mkCells i 0 t)) o (rest.length + 3) (by
                show ((rest ++ [_] : List HP))[rest.length]? = _
                simp)
              have e9 : ((CellsAt bb cs 40 :: (MkP encCells 4 42 26 (.slice (some ⟨g1, 0, none⟩) M.length c1) (M'.set i ((Aq, t, cq), ys)) ++ (rest ++ [RwAt encCells 4 42 (.slice Am t cm) (markL mkCells i 0 t)]))) : List HP).eraseIdx (rest.length + 3) = CellsAt bb cs 40 :: (MkP encCells 4 42 26 (.slice (some ⟨g1, 0, none⟩) M.length c1) (M'.set i ((Aq, t, cq), ys)) ++ rest) := by
                show CellsAt bb cs 40 :: _ :: _ :: ((rest ++ [_] : List HP)).eraseIdx rest.length = _
                rw [List.eraseIdx_append_of_length_le (Nat.le_refl _)]
                simp
              rw [e9] at o9
              exact o9
          have T1 := Aside0.mk (And.intro hik hi)
          clear P1 o hf hm oo hln hik hi hq' hi' ht hyl hyt hys
          go_wp2_with fail
          go_roundg (gq - 1)
          case measure => have := T1.out; omega
          case rel => exact ⟨i + 1, _, by simp, by have := T1.out; omega, R1⟩
    · have p4 : ((i : Int) < (M.length : Int)) = False := eq_false (by omega)
      obtain rfl : i = M.length := by omega
      clear hf hm o hln hik hi hc
      go_wp2_with fail
      go_end0
      exact ⟨rfl, M', S1⟩
end Go.Proofs.YtcmepoakcffpaaaGreat.BK
namespace Go.Proofs.YtcmepoakcffpaaaGreat.BK
open Go Go.RowKit Go.Proofs.YtcmepoakcffpaaaGreatW.PrintWords Go.Proofs.YtcmepoakcffpaaaGreatW.PrintLast Go.Proofs.YtcmepoakcffpaaaGreatW.PrintMore Go.Proofs.YtcmepoakcffpaaaGreat.L
set_option linter.unusedVariables false
set_option linter.unusedSimpArgs false
/-! ### Cells: each list is grown (printed by mkkind.py) -/
set_option maxHeartbeats 1600000 in
set_option maxRecDepth 100000 in
theorem growCells_calls {w W : World} {bb : Nat} {cs : Array Value} {a : Value} {rest : List HP} {M : List (Hc (ByteArray × ByteArray × Int × Int))} (q0 : cs[4]? = some a) (o : Own w W (Stars (CellsAt bb cs 40 :: (MkP encCells 4 42 26 a M ++ rest)))) (hM : Mkd mkCells M M.length) (hK : M.length < 800) (hx : ∀ q ∈ M, q.1.2.1 < 600000) :
    Calls Tryz.prog 53 #[.pointer (some ⟨bb, 0, none⟩)] W fun e w' => ∃ (N : List (Gp (ByteArray × ByteArray × Int × Int))) (A : Option Addr) (c : Nat), e = .returned (.slice A M.length c) ∧ Aside0 (Grn mkCells M N M.length ∧ Own w w' (Stars (CellsAt bb cs 40 :: (GrP encCells 4 42 26 a N (.slice A M.length c) (N.map Gp.g) ++ rest)))) := by
  obtain ⟨F1, h1⟩ := o.fact 1 rfl
  obtain ⟨A1, c1, ha⟩ := h1.1.form
  rw [List.length_map] at ha
  subst ha
  have HO := Aside0.mk (And.intro (grow_start o) (And.intro hM (And.intro hx q0)))
  clear o h1 hx hM q0
  go_enter Tryz.func53, Tryz.ntmps53
  go_wp2_with fail
  go_loopg [3, 4] M.length (fun k s3 s4 wr => ∃ (i : Nat) (A : Option Addr) (c : Nat) (N : List (Gp (ByteArray × ByteArray × Int × Int))), s3 = .slice A i c ∧ s4 = .int .i64 (i : Int) ∧ i + k = M.length ∧ Aside0 (Grn mkCells M N i ∧ Own w wr (Stars (CellsAt bb cs 40 :: (GrP encCells 4 42 26 (.slice A1 M.length c1) N (.slice A i c) ((N.take i).map Gp.g) ++ rest)))))
  case atStart =>
    refine ⟨0, none, 0, M.map gp0, rfl, rfl, by omega, Aside0.mk ⟨⟨?_, fun _ h => absurd h (Nat.not_lt_zero _), fun j _ r hr => ?_⟩, HO.out.1⟩⟩
    · rw [List.map_map]
      exact List.map_id _
    · rw [List.getElem?_map] at hr
      obtain ⟨q, _, rfl⟩ := Option.map_eq_some_iff.1 hr
      exact ⟨rfl, rfl⟩
  case round =>
    rename Nat => gq
    obtain ⟨i, A, c, N, rfl, rfl, hik, S1⟩ := hrel
    rename World => wo
    obtain ⟨hG, o⟩ := S1.out
    have hln : N.length = M.length := by have := congrArg List.length hG.1; simpa using this
    obtain ⟨hc, _⟩ := o.cellsAt 0 rfl
    have z0 : wo.cell? ⟨bb, 4, none⟩ = some (.slice A1 M.length c1) := (hc 4).trans HO.out.2.2.2
    by_cases hi : i < M.length
    · have p4 : ((i : Int) < (M.length : Int)) = True := eq_true (by omega)
      have p5 : (0 : Int) ≤ (i : Int) := by omega
      have hii : i < 800 := by omega
      have hi' : i < N.length := by omega
      obtain ⟨F1, h1⟩ := o.fact 1 rfl
      obtain ⟨g1, d1, e1, _, x0⟩ := hd_cell h1.1 i (by rw [List.length_map]; exact hi')
      injection e1 with e1 q1 q2
      subst e1
      clear q1 q2
      rw [List.getElem_map] at x0
      obtain ⟨r, hr⟩ : ∃ r, r = N[i] := ⟨_, rfl⟩
      have hr' : N[i]? = some r := by rw [hr]; exact List.getElem?_eq_getElem hi'
      have hMi : M[i] = (r.h, r.xs) := by
        have h9 : (N.map (fun r => (r.h, r.xs)))[i]? = some (r.h, r.xs) := by rw [List.getElem?_map, hr']; rfl
        rw [hG.1, List.getElem?_eq_getElem hi] at h9
        injection h9
      have hn6 : r.h.2.1 < 600000 := by
        have := HO.out.2.2.1 _ (List.getElem_mem hi)
        rw [hMi] at this
        exact this
      have hxs : r.xs = markL mkCells i 0 r.h.2.1 := HO.out.2.1 i hi _ (by rw [List.getElem?_eq_getElem hi, hMi])
      obtain ⟨hg, hys⟩ := hG.2.2 i (Nat.le_refl _) r hr'
      have oS : Own w wo (Stars (CellsAt bb cs 40 :: (GrP encCells 4 42 26 (.slice (some ⟨g1, 0, none⟩) M.length c1)  (N.set i ⟨r.h, r.xs, (r.h.1, r.h.2.1 + 0, r.h.2.2), markL mkCells i 0 (r.h.2.1 + 0)⟩) (.slice A i c) ((N.take i).map Gp.g) ++ rest))) := by
        have e9 : N.set i ⟨r.h, r.xs, (r.h.1, r.h.2.1 + 0, r.h.2.2), markL mkCells i 0 (r.h.2.1 + 0)⟩ = N := by
          have : (⟨r.h, r.xs, (r.h.1, r.h.2.1 + 0, r.h.2.2), markL mkCells i 0 (r.h.2.1 + 0)⟩ : Gp (ByteArray × ByteArray × Int × Int)) = N[i] := by
            rw [← hr]
            obtain ⟨h, xs, g, ys⟩ := r
            dsimp only at hg hys hxs ⊢
            rw [hg, hys, hxs, Nat.add_zero]
          rw [this, List.set_getElem_self]
        rw [e9]
        exact o
      rw [← hr] at x0
      obtain ⟨⟨Aq, nq, cq⟩, xs, g, ys⟩ := r
      dsimp only at x0 hn6 hxs oS
      have S2 := Aside0.mk (And.intro hG (And.intro hr' (And.intro hln (And.intro hik hi))))
      have OS := Aside0.mk oS
      clear S1 hG o hln hc hik hi hi' h1 hr hr' hMi hxs hg hys oS
      go_wp2_with fail
      go_loopg [5, 6] 12 (fun k s5 s6 wr => ∃ (t : Nat) (A5 : Option Addr) (c5 : Nat), s5 = .slice A5 (nq + t) c5 ∧ s6 = .int .i64 (t : Int) ∧ t + k = 12 ∧ Aside0 (Own w wr (Stars (CellsAt bb cs 40 :: (GrP encCells 4 42 26 (.slice (some ⟨g1, 0, none⟩) M.length c1)  (N.set i ⟨(Aq, nq, cq), xs, (A5, nq + t, c5), markL mkCells i 0 (nq + t)⟩) (.slice A i c) ((N.take i).map Gp.g) ++ rest)))))
      case atStart => exact ⟨0, Aq, cq, rfl, rfl, rfl, OS⟩
      case round =>
        clear OS
        obtain ⟨t, A5, c5, rfl, rfl, htk, O5⟩ := hrel
        obtain ⟨hG, hr', hln, hik, hi⟩ := S2.out
        have hi' : i < N.length := by omega
        obtain ⟨m, hm⟩ : ∃ m, m = nq + t := ⟨_, rfl⟩
        rw [← hm] at O5 ⊢
        have hm7 : m < 600020 := by omega
        by_cases ht : t < 12
        · have p6 : ((t : Int) < 12) = True := eq_true (by omega)
          have ht6 : t < 12 := ht
          have CM := fun W => markCells_calls i m 1 (by omega) (by omega) W
          have T1 := Aside0.mk (And.intro htk (And.intro ht hm))
          have NX : ∀ w3 Am cm, Upd wr (fun _ => False) (RwAt encCells 4 42 (.slice Am 1 cm) (markL mkCells i m 1)) w3 → ∃ (q : Option Addr × Nat) (W' : World), (∀ ty, (Builtin.append_ #[26, 26] ty #[.slice A5 m c5, .slice Am 1 cm]).run Tryz.prog w3 = .ok (.slice q.1 (m + 1) q.2) W') ∧ Aside0 (Own w W' (Stars (CellsAt bb cs 40 :: (GrP encCells 4 42 26 (.slice (some ⟨g1, 0, none⟩) M.length c1)  (N.set i ⟨(Aq, nq, cq), xs, (q.1, m + 1, q.2), markL mkCells i 0 (m + 1)⟩) (.slice A i c) ((N.take i).map Gp.g) ++ rest)))) := by
            intro w3 Am cm hU
            obtain ⟨F', hN, ef, hk⟩ := hU
            have h := grow_one kfCells (by decide) lenCells oneCells (O5.out.after ef) hi' hN.1 (by simp only [markL_len]; omega)
            have e1 : markL mkCells i 0 m ++ markL mkCells i m 1 = markL mkCells i 0 (m + 1) := by
              have := markL_more (mk := mkCells) i 0 m 1
              rwa [Nat.zero_add] at this
            simp only [e1, markL_len] at h
            obtain ⟨q, W', hr, o⟩ := h
            exact ⟨q, W', hr, Aside0.mk o⟩
          clear hG hr' hln hik hi hi' hm htk ht
          go_wp2_with (first
            | (go_at_call 89; refine (CM _).mono ?_; rintro e w3 ⟨Am, cm, rfl, U1⟩; obtain ⟨q, W3, hr, O6⟩ := NX _ _ _ U1.out)
            | (at_builtin; refine Lib.wpList_append_run _ rfl (.tmp 27) (.tmp 31) 26 26 rfl _ _ rfl rfl _ _ (hr _) ?_))
          go_roundg (gk - 1)
          case measure => have := T1.out; omega
          case rel =>
            have e9 : nq + (t + 1) = m + 1 := by have := T1.out; omega
            exact ⟨t + 1, q.1, q.2, by rw [e9], by simp, by have := T1.out; omega, by rw [e9]; exact O6⟩
        · have p6 : ((t : Int) < 12) = False := eq_false (by omega)
          have e12 : t = 12 := by omega
          subst e12
          have CM := fun W => markCells_calls i m 60 (by omega) (by omega) W
          have T1 := Aside0.mk (And.intro hik (And.intro hi hm))
          have hA : ((N.take i).map Gp.g).length = i := by rw [List.length_map, List.length_take]; omega
          have NX : ∀ w3 Am cm, Upd wr (fun _ => False) (RwAt encCells 4 42 (.slice Am 60 cm) (markL mkCells i m 60)) w3 → ∃ (q : Option Addr × Nat) (W' : World), (∀ ty, (Builtin.append_ #[26, 26] ty #[.slice A5 m c5, .slice Am 60 cm]).run Tryz.prog w3 = .ok (.slice q.1 (m + 60) q.2) W') ∧ ∃ (q2 : Option Addr × Nat) (W2 : World), (∀ ty, (Builtin.append_ #[32, 32] ty #[.slice A i c, .slice (some ⟨W'.heap.size, 0, none⟩) 1 1]).run Tryz.prog (W'.alloc (.cells #[.slice q.1 (m + 60) q.2] 26)) = .ok (.slice q2.1 (i + 1) q2.2) W2) ∧
              Aside0 (Grn mkCells M (N.set i ⟨(Aq, nq, cq), xs, (q.1, m + 60, q.2), markL mkCells i 0 (m + 60)⟩) (i + 1) ∧ Own w W2 (Stars (CellsAt bb cs 40 :: (GrP encCells 4 42 26 (.slice (some ⟨g1, 0, none⟩) M.length c1)  (N.set i ⟨(Aq, nq, cq), xs, (q.1, m + 60, q.2), markL mkCells i 0 (m + 60)⟩) (.slice q2.1 (i + 1) q2.2) (((N.set i ⟨(Aq, nq, cq), xs, (q.1, m + 60, q.2), markL mkCells i 0 (m + 60)⟩).take (i + 1)).map Gp.g) ++ rest)))) := by
            intro w3 Am cm hU
            obtain ⟨F', hN, ef, hk⟩ := hU
            have h := grow_one kfCells (by decide) lenCells oneCells (O5.out.after ef) hi' hN.1 (by simp only [markL_len]; omega)
            have e1 : markL mkCells i 0 m ++ markL mkCells i m 60 = markL mkCells i 0 (m + 60) := by
              have := markL_more (mk := mkCells) i 0 m 60
              rwa [Nat.zero_add] at this
            simp only [e1, markL_len] at h
            obtain ⟨q, W', hr, o⟩ := h
            refine ⟨q, W', hr, ?_⟩
            obtain ⟨q2, W2, hr2, o2⟩ := Own.actAt (X := Option Addr × Nat) (p := fun q2 W2 => ∀ ty, (Builtin.append_ #[32, 32] ty #[.slice A i c, .slice (some ⟨W'.heap.size, 0, none⟩) 1 1]).run Tryz.prog (W'.alloc (.cells #[.slice q.1 (m + 60) q.2] 26)) = .ok (.slice q2.1 (i + 1) q2.2) W2) (S' := fun q2 => RH 26 (.slice q2.1 (i + 1) q2.2) ((N.take i).map Gp.g ++ [(q.1, m + 60, q.2)])) o 3 rfl (fun F hF => by
              obtain ⟨r, W2, hr, hU⟩ := row_add kfHCells (by decide) lenH oneH hF (q.1, m + 60, q.2) (by rw [hA]; omega)
              rw [hA] at hr hU
              exact ⟨r, W2, hr, hU⟩)
            refine ⟨q2, W2, hr2, Aside0.mk ⟨hG.step hi' _ ?_ ?_ ?_, ?_⟩⟩
            · rw [List.getElem?_eq_getElem hi'] at hr'
              injection hr' with hr'
              rw [hr']
            · rw [List.getElem?_eq_getElem hi'] at hr'
              injection hr' with hr'
              rw [hr']
            · show markL mkCells i 0 (m + 60) = markL mkCells i 0 (nq + 72)
              rw [hm]
            · have e7 := take_set_g N i hi' ⟨(Aq, nq, cq), xs, (q.1, m + 60, q.2), markL mkCells i 0 (m + 60)⟩
              unfold GrP
              rw [e7]
              exact o2
          clear hG hr' hln hik hi hi' hm htk ht hA
          go_wp2_with (first
            | (go_at_call 89; refine (CM _).mono ?_; rintro e w3 ⟨Am, cm, rfl, U1⟩; obtain ⟨q, W3, hr, q2, W2, hr2, O6⟩ := NX _ _ _ U1.out)
            | (at_builtin; refine Lib.wpList_append_run _ rfl (.tmp 34) (.tmp 38) 26 26 rfl _ _ rfl rfl _ _ (hr _) ?_)
            | (at_builtin; refine Lib.wpList_append_run _ rfl (.tmp 33) (.tmp 40) 32 32 rfl _ _ rfl rfl _ _ (hr2 _) ?_))
          go_roundg (gq - 1)
          case measure => have := T1.out; omega
          case rel => exact ⟨i + 1, q2.1, q2.2, _, rfl, by simp, by have := T1.out; omega, O6⟩
    · have p4 : ((i : Int) < (M.length : Int)) = False := eq_false (by omega)
      obtain rfl : i = M.length := by omega
      rw [← hln, List.take_length, hln] at S1
      clear hG o hln hik hi hc
      go_wp2_with fail
      go_ret
      exact ⟨N, A, c, rfl, S1⟩
end Go.Proofs.YtcmepoakcffpaaaGreat.BK
namespace Go.Proofs.YtcmepoakcffpaaaGreat.BK
open Go Go.RowKit Go.Proofs.YtcmepoakcffpaaaGreatW.PrintWords Go.Proofs.YtcmepoakcffpaaaGreatW.PrintLast Go.Proofs.YtcmepoakcffpaaaGreatW.PrintMore Go.Proofs.YtcmepoakcffpaaaGreat.L
set_option linter.unusedVariables false
set_option linter.unusedSimpArgs false
/-! ### Cells: all lists bear their marks (printed by mkkind.py) -/
set_option maxHeartbeats 1600000 in
set_option maxRecDepth 100000 in
theorem markedCells_calls {W : World} {A : Option Addr} {c : Nat} {hs : List Hd} (hc : ∀ i (hi : i < hs.length), ∃ g, A = some ⟨g, 0, none⟩ ∧ W.cell? ⟨g, i, none⟩ = some (slH hs[i])) (hC : ∀ i (hi : i < hs.length), LieX encCells 4 W hs[i].1 (markL mkCells i 0 hs[i].2.1)) (hn : ∀ h ∈ hs, h.2.1 < 600100) (hK : hs.length < 800) :
    Calls Tryz.prog 62 #[.slice A hs.length c] W fun e w' => e = .returned (.bool true) ∧ Eff0 W w' := by
  have HO := Aside0.mk (And.intro hc (And.intro hC hn))
  clear hc hC hn
  go_enter Tryz.func62, Tryz.ntmps62
  go_wp2_with fail
  go_loopg [3] hs.length (fun k s3 wr => ∃ (i : Nat), s3 = .int .i64 (i : Int) ∧ i + k = hs.length ∧ Eff0 W wr)
  case atStart => exact ⟨0, rfl, by omega, Eff.refl _ _⟩
  case round =>
    obtain ⟨i, rfl, hik, hw⟩ := hrel
    by_cases hi : i < hs.length
    · have p4 : ((i : Int) < (hs.length : Int)) = True := eq_true (by omega)
      have p5 : (0 : Int) ≤ (i : Int) := by omega
      have hii : i < 800 := by omega
      obtain ⟨g, rfl, x0⟩ := HO.out.1 i hi
      have C1 := HO.out.2.1 i hi
      have hn6 := HO.out.2.2 _ (List.getElem_mem hi)
      have x1 : wr.cell? ⟨g, i, none⟩ = some (slH hs[i]) := (hw.cell (World.block_lt_of_cell? W _ x0) id).trans x0
      have C2 := LieX.eff C1 hw.below0
      clear x0 C1
      generalize hs[i] = h at *
      obtain ⟨Ah, n, ch⟩ := h
      dsimp only at C2 hn6
      have x2 : wr.cell? ⟨g, i, none⟩ = some (.slice Ah n ch) := x1
      clear x1
      have CM := fun W => markCells_calls i 0 n (by omega) (by omega) W
      have CS : ∀ B d W', Eff0 wr W' → LieX encCells 4 W' B (markL mkCells i 0 n) → Calls Tryz.prog 17 #[.slice Ah n ch, .slice B n d] W' fun e w' => e = .returned (.bool true) ∧ Drawn0 W' w' := by
        intro B d W' e hB
        have hl := markL_len (mk := mkCells) i 0 n
        have := sameCells_calls (markL mkCells i 0 n) Ah B ch d W'
        rw [hl] at this
        exact this (LieX.eff C2 e.below0) hB (by omega)
      have NX : ∀ W' w3 B d, Eff0 wr W' → Upd W' (fun _ => False) (RwAt encCells 4 42 (.slice B n d) (markL mkCells i 0 n)) w3 → Eff0 wr w3 ∧ LieX encCells 4 w3 B (markL mkCells i 0 n) := by
        intro W' w3 B d e hU
        obtain ⟨F', hN, ef, hk⟩ := hU
        exact ⟨e.then0 ef, LieX.of_Rw lenCells hN.1⟩
      have hX : ∀ W', Eff0 wr W' → W'.cell? ⟨g, i, none⟩ = some (.slice Ah n ch) := fun W' d => (d.cell (World.block_lt_of_cell? wr _ x2) id).trans x2
      have HX := Aside0.mk hX
      have HW := Aside0.mk (And.intro hw (And.intro hik hi))
      clear C2 hw hik hi hX
      go_wp2_with fail
      have sb : Eff0 wr wr.drew := (Eff.refl _ _).drew
      go_region_held3 (fun W' => Eff0 wr W' ∧ W'.cell? ⟨g, i, none⟩ = some (.slice Ah n ch)) ((refine keepS HX.out ?_; first | assumption | exact sb | exact And.left (by assumption)))
        (first
          | (go_at_call 89; refine (CM _).mono ?_; rintro e w3 ⟨B3, d3, rfl, U3⟩; obtain ⟨en, C3⟩ := NX _ _ _ _ (by first | exact sb | exact And.left (by assumption) | assumption) U3.out; clear U3)
          | (go_at_call 17; refine (CS _ _ _ (by first | exact en | exact sb | exact And.left (by assumption) | assumption) (by first | exact C3 | exact LieX.eff C3 (Eff.refl (fun _ => False) _).below0)).mono ?_; rintro e w' ⟨rfl, dn⟩; have en2 : Eff0 wr w' := Eff.drawn (by first | exact en | assumption) dn; clear dn)
          | fail)
      go_wp2_with fail
      go_roundg (gk - 1)
      case measure => have := HW.out; omega
      case rel => exact ⟨i + 1, by simp, by have := HW.out; omega, HW.out.1.then0 en2⟩
    · have p4 : ((i : Int) < (hs.length : Int)) = False := eq_false (by omega)
      have HW := Aside0.mk hw
      clear hw
      go_wp2_with fail
      go_ret
      exact ⟨rfl, HW.out⟩
theorem markedGCells {w W : World} {C : HP} {a : Value} {rest : List HP} {M : List (Hc (ByteArray × ByteArray × Int × Int))} {N : List (Gp (ByteArray × ByteArray × Int × Int))} {A : Option Addr} {c : Nat} (o : Own w W (Stars (C :: (GrP encCells 4 42 26 a N (.slice A M.length c) (N.map Gp.g) ++ rest)))) (hG : Grn mkCells M N M.length) (hK : M.length < 800) (hx : ∀ q ∈ M, q.1.2.1 < 600000) : Calls Tryz.prog 62 #[.slice A M.length c] W fun e w' => e = .returned (.bool true) ∧ Eff0 W w' := by
  obtain ⟨h1, h2, h3, h4⟩ := grown_facts lenCells o hG hx
  have h := markedCells_calls (c := c) h2 h3 h4 (by omega)
  rw [h1] at h
  exact h
theorem markedBCells {w W : World} {C : HP} {vo : Value} {os : List Hd} {rest : List HP} {M : List (Hc (ByteArray × ByteArray × Int × Int))} {N : List (Gp (ByteArray × ByteArray × Int × Int))} {A : Option Addr} {c : Nat} (o : Own w W (Stars (C :: (GrP encCells 4 42 26 (.slice A M.length c) N vo os ++ rest)))) (hG : Grn mkCells M N M.length) (hm : Mkd mkCells M M.length) (hK : M.length < 800) (hx : ∀ q ∈ M, q.1.2.1 < 600000) : Calls Tryz.prog 62 #[.slice A M.length c] W fun e w' => e = .returned (.bool true) ∧ Eff0 W w' := by
  obtain ⟨h1, h2, h3, h4⟩ := marked_facts lenCells o hG hm hx
  have h := markedCells_calls (c := c) h2 h3 h4 (by omega)
  rw [h1] at h
  exact h
end Go.Proofs.YtcmepoakcffpaaaGreat.BK
namespace Go.Proofs.YtcmepoakcffpaaaGreat.BK
open Go Go.RowKit Go.Proofs.YtcmepoakcffpaaaGreatW.PrintWords Go.Proofs.YtcmepoakcffpaaaGreatW.PrintLast Go.Proofs.YtcmepoakcffpaaaGreatW.PrintMore Go.Proofs.YtcmepoakcffpaaaGreat.L
set_option linter.unusedVariables false
set_option linter.unusedSimpArgs false
/-! ### Apart, of a book that holds Cells alone (printed by mkapart.py) -/
set_option maxHeartbeats 6400000 in
set_option maxRecDepth 100000 in
theorem apart_calls {w W : World} {bb : Nat} {cs : Array Value} {rest : List HP} {a0 b0 : Value} {K0 : List (Kp (ByteArray × ByteArray × Int × Int))} (z0 : cs[0]? = some (.slice none 0 0)) (z2 : cs[2]? = some (.slice none 0 0)) (z6 : cs[6]? = some (.slice none 0 0)) (z8 : cs[8]? = some (.slice none 0 0)) (z10 : cs[10]? = some (.slice none 0 0)) (z12 : cs[12]? = some (.slice none 0 0)) (z14 : cs[14]? = some (.slice none 0 0)) (z16 : cs[16]? = some (.slice none 0 0)) (q0 : cs[4]? = some a0) (r0 : cs[5]? = some b0) (o : Own w W (Stars (CellsAt bb cs 40 :: (BkP encCells 4 42 26 a0 b0 K0 ++ rest)))) (hK0 : K0.length < 800) (hx0 : ∀ p ∈ K0, p.xs.length < 600000) :
    Calls Tryz.prog 19 #[.pointer (some ⟨bb, 0, none⟩)] W fun e w' => e = .returned (.bool true) ∧ Below w.heap.size w w' := by
  have CS0 : ∀ W', Eff0 W W' → Calls Tryz.prog 35 #[.pointer (some ⟨bb, 0, none⟩)] W' fun e w' => e = .returned (.bool true) ∧ Eff0 W' w' := fun W' e => stillCells_calls q0 r0 ((o.after e).perm (List.Perm.cons _ (List.Perm.refl _))) (by omega) (fun p hp => by have := hx0 p hp; omega)
  have HS0 := Aside0.mk CS0
  obtain ⟨M0, hMM0⟩ : ∃ M : List (Hc (ByteArray × ByteArray × Int × Int)), M = K0.map (fun p => (p.hu, p.xs)) := ⟨_, rfl⟩
  have hM0 : M0.length = K0.length := by rw [hMM0, List.length_map]
  have hxM0 : ∀ q ∈ M0, q.1.2.1 < 600000 := by
    intro q hq
    rw [hMM0] at hq
    obtain ⟨p, hp, rfl⟩ := List.mem_map.1 hq
    exact hx0 p hp
  have of0 := BkP.toMk (o.perm (List.Perm.cons _ (List.Perm.refl _)))
  rw [← hMM0] at of0
  have o0 : Own w W (Stars (CellsAt bb cs 40 :: (MkP encCells 4 42 26 a0 M0 ++ rest))) := of0.perm (List.Perm.cons _ (List.Perm.refl _).symm)
  have O : Aside0 (Own w W (Stars (CellsAt bb cs 40 :: (MkP encCells 4 42 26 a0 M0 ++ rest)))) := Aside0.mk o0
  have HM0 := Aside0.mk (And.intro (show M0.length < 800 by omega) (And.intro hxM0 q0))
  have HZ := Aside0.mk (And.intro z0 (And.intro z2 (And.intro z6 (And.intro z8 (And.intro z10 (And.intro z12 (And.intro z14 z16)))))))
  have E1 : Eff0 W W := Eff.refl _ _
  clear z0 z2 z6 z8 z10 z12 z14 z16 q0 r0 hK0 hx0 CS0 hM0 hxM0 hMM0 of0 o0 o
  go_enter Tryz.func19, Tryz.ntmps19
  go_wp2_with (first
    | (go_at_call 33; refine (stillE_Ints _ bb (((O.out.cellsAt 0 rfl).1 0).trans HZ.out.1)).mono ?_; rintro e w1 ⟨rfl, en⟩; replace E1 := E1.then0 en; replace O := Aside0.mk (O.out.after en); clear en)
    | (go_at_call 34; refine (stillE_Texts _ bb (((O.out.cellsAt 0 rfl).1 2).trans HZ.out.2.1)).mono ?_; rintro e w1 ⟨rfl, en⟩; replace E1 := E1.then0 en; replace O := Aside0.mk (O.out.after en); clear en)
    | (go_at_call 35; refine (HS0.out _ E1).mono ?_; rintro e w1 ⟨rfl, en⟩; replace E1 := E1.then0 en; replace O := Aside0.mk (O.out.after en); clear en)
    | (go_at_call 36; refine (stillE_Pages _ bb (((O.out.cellsAt 0 rfl).1 6).trans HZ.out.2.2.1)).mono ?_; rintro e w1 ⟨rfl, en⟩; replace E1 := E1.then0 en; replace O := Aside0.mk (O.out.after en); clear en)
    | (go_at_call 37; refine (stillE_Patches _ bb (((O.out.cellsAt 0 rfl).1 8).trans HZ.out.2.2.2.1)).mono ?_; rintro e w1 ⟨rfl, en⟩; replace E1 := E1.then0 en; replace O := Aside0.mk (O.out.after en); clear en)
    | (go_at_call 38; refine (stillE_Dirty _ bb (((O.out.cellsAt 0 rfl).1 10).trans HZ.out.2.2.2.2.1)).mono ?_; rintro e w1 ⟨rfl, en⟩; replace E1 := E1.then0 en; replace O := Aside0.mk (O.out.after en); clear en)
    | (go_at_call 39; refine (stillE_Entries _ bb (((O.out.cellsAt 0 rfl).1 12).trans HZ.out.2.2.2.2.2.1)).mono ?_; rintro e w1 ⟨rfl, en⟩; replace E1 := E1.then0 en; replace O := Aside0.mk (O.out.after en); clear en)
    | (go_at_call 40; refine (stillE_Pairs _ bb (((O.out.cellsAt 0 rfl).1 14).trans HZ.out.2.2.2.2.2.2.1)).mono ?_; rintro e w1 ⟨rfl, en⟩; replace E1 := E1.then0 en; replace O := Aside0.mk (O.out.after en); clear en)
    | (go_at_call 41; refine (stillE_Txs _ bb (((O.out.cellsAt 0 rfl).1 16).trans HZ.out.2.2.2.2.2.2.2)).mono ?_; rintro e w1 ⟨rfl, en⟩; replace E1 := E1.then0 en; replace O := Aside0.mk (O.out.after en); clear en)
    | (go_at_call 42; refine (putE_Txs _ bb (((O.out.cellsAt 0 rfl).1 16).trans HZ.out.2.2.2.2.2.2.2)).mono ?_; rintro e w1 ⟨rfl, en⟩; replace O := Aside0.mk (O.out.after en); clear en)
    | (go_at_call 43; refine (putE_Ints _ bb (((O.out.cellsAt 0 rfl).1 0).trans HZ.out.1)).mono ?_; rintro e w1 ⟨rfl, en⟩; replace O := Aside0.mk (O.out.after en); clear en)
    | (go_at_call 44; refine (putE_Texts _ bb (((O.out.cellsAt 0 rfl).1 2).trans HZ.out.2.1)).mono ?_; rintro e w1 ⟨rfl, en⟩; replace O := Aside0.mk (O.out.after en); clear en)
    | (go_at_call 45; refine (putCells_calls HM0.out.2.2 (O.out.perm (List.Perm.cons _ (List.Perm.refl _))) HM0.out.1 HM0.out.2.1).mono ?_; rintro e wp ⟨rfl, M0', PP0⟩
       replace O : Aside0 (Own w wp (Stars (CellsAt bb cs 40 :: (MkP encCells 4 42 26 a0 M0' ++ rest)))) := Aside0.mk (PP0.out.2.2.perm (List.Perm.cons _ (List.Perm.refl _).symm))
       have HN0 : Aside0 (Mkd mkCells M0' M0'.length ∧ M0'.length < 800 ∧ ∀ q ∈ M0', q.1.2.1 < 600000) := Aside0.mk (by
         obtain ⟨h1, h2, _⟩ := PP0.out
         have hl : M0'.length = M0.length := by have := congrArg List.length h1; simpa using this
         rw [hl]
         refine ⟨h2, HM0.out.1, fun q hq => ?_⟩
         have : q.1 ∈ M0.map Prod.fst := by rw [← h1]; exact List.mem_map.2 ⟨q, hq, rfl⟩
         obtain ⟨q', hq', he⟩ := List.mem_map.1 this
         rw [← he]
         exact HM0.out.2.1 q' hq')
       clear PP0)
    | (go_at_call 46; refine (putE_Pages _ bb (((O.out.cellsAt 0 rfl).1 6).trans HZ.out.2.2.1)).mono ?_; rintro e w1 ⟨rfl, en⟩; replace O := Aside0.mk (O.out.after en); clear en)
    | (go_at_call 47; refine (putE_Patches _ bb (((O.out.cellsAt 0 rfl).1 8).trans HZ.out.2.2.2.1)).mono ?_; rintro e w1 ⟨rfl, en⟩; replace O := Aside0.mk (O.out.after en); clear en)
    | (go_at_call 48; refine (putE_Dirty _ bb (((O.out.cellsAt 0 rfl).1 10).trans HZ.out.2.2.2.2.1)).mono ?_; rintro e w1 ⟨rfl, en⟩; replace O := Aside0.mk (O.out.after en); clear en)
    | (go_at_call 49; refine (putE_Entries _ bb (((O.out.cellsAt 0 rfl).1 12).trans HZ.out.2.2.2.2.2.1)).mono ?_; rintro e w1 ⟨rfl, en⟩; replace O := Aside0.mk (O.out.after en); clear en)
    | (go_at_call 50; refine (putE_Pairs _ bb (((O.out.cellsAt 0 rfl).1 14).trans HZ.out.2.2.2.2.2.2.1)).mono ?_; rintro e w1 ⟨rfl, en⟩; replace O := Aside0.mk (O.out.after en); clear en)
    | (go_at_call 51; refine (growE_Ints _ bb (((O.out.cellsAt 0 rfl).1 0).trans HZ.out.1)).mono ?_; rintro e w1 ⟨rfl, en⟩; replace O := Aside0.mk (O.out.after en); clear en)
    | (go_at_call 52; refine (growE_Texts _ bb (((O.out.cellsAt 0 rfl).1 2).trans HZ.out.2.1)).mono ?_; rintro e w1 ⟨rfl, en⟩; replace O := Aside0.mk (O.out.after en); clear en)
    | (go_at_call 53; refine (growCells_calls HM0.out.2.2 (O.out.perm (List.Perm.cons _ (List.Perm.refl _))) HN0.out.1 HN0.out.2.1 HN0.out.2.2).mono ?_; rintro e wg ⟨N0, Ag0, cg0, rfl, P3⟩
       obtain ⟨F9, h9⟩ := P3.out.2.fact 1 rfl
       obtain ⟨A90, c90, ha9⟩ := h9.1.form
       rw [List.length_map, show N0.length = M0'.length by (have := congrArg List.length P3.out.1.1; simpa using this)] at ha9
       subst ha9
       have HG0 := Aside0.mk P3.out.1
       replace O : Aside0 (Own w wg (Stars (CellsAt bb cs 40 :: (GrP encCells 4 42 26 (.slice A90 M0'.length c90) N0 (.slice Ag0 M0'.length cg0) (N0.map Gp.g) ++ rest)))) := Aside0.mk (P3.out.2.perm (List.Perm.cons _ (List.Perm.refl _).symm))
       clear h9 P3
       have FIRST0 := Aside0.mk trivial)
    | (go_at_call 54; refine (growE_Pages _ bb (((O.out.cellsAt 0 rfl).1 6).trans HZ.out.2.2.1)).mono ?_; rintro e w1 ⟨rfl, en⟩; replace O := Aside0.mk (O.out.after en); clear en)
    | (go_at_call 55; refine (growE_Patches _ bb (((O.out.cellsAt 0 rfl).1 8).trans HZ.out.2.2.2.1)).mono ?_; rintro e w1 ⟨rfl, en⟩; replace O := Aside0.mk (O.out.after en); clear en)
    | (go_at_call 56; refine (growE_Dirty _ bb (((O.out.cellsAt 0 rfl).1 10).trans HZ.out.2.2.2.2.1)).mono ?_; rintro e w1 ⟨rfl, en⟩; replace O := Aside0.mk (O.out.after en); clear en)
    | (go_at_call 57; refine (growE_Entries _ bb (((O.out.cellsAt 0 rfl).1 12).trans HZ.out.2.2.2.2.2.1)).mono ?_; rintro e w1 ⟨rfl, en⟩; replace O := Aside0.mk (O.out.after en); clear en)
    | (go_at_call 58; refine (growE_Pairs _ bb (((O.out.cellsAt 0 rfl).1 14).trans HZ.out.2.2.2.2.2.2.1)).mono ?_; rintro e w1 ⟨rfl, en⟩; replace O := Aside0.mk (O.out.after en); clear en)
    | (go_at_call 59; refine (growE_Txs _ bb (((O.out.cellsAt 0 rfl).1 16).trans HZ.out.2.2.2.2.2.2.2)).mono ?_; rintro e w1 ⟨rfl, en⟩; replace O := Aside0.mk (O.out.after en); clear en)
    | (go_at_call 60; refine (markedE_Ints _).mono ?_; rintro e w1 ⟨rfl, en⟩; replace O := Aside0.mk (O.out.after en); clear en; have y0 := ((O.out.cellsAt 0 rfl).1 0).trans HZ.out.1)
    | (go_at_call 61; refine (markedE_Texts _).mono ?_; rintro e w1 ⟨rfl, en⟩; replace O := Aside0.mk (O.out.after en); clear en; have y2 := ((O.out.cellsAt 0 rfl).1 2).trans HZ.out.2.1)
    | (go_at_call 62; clear FIRST0; refine (markedGCells (O.out.perm (List.Perm.cons _ (List.Perm.refl _))) HG0.out HN0.out.2.1 HN0.out.2.2).mono ?_; rintro e w1 ⟨rfl, en⟩; replace O := Aside0.mk (O.out.after en); clear en; have y4 := ((O.out.cellsAt 0 rfl).1 4).trans HM0.out.2.2)
    | (go_at_call 62; refine (markedBCells (O.out.perm (List.Perm.cons _ (List.Perm.refl _))) HG0.out HN0.out.1 HN0.out.2.1 HN0.out.2.2).mono ?_; rintro e w1 ⟨rfl, en⟩; replace O := Aside0.mk (O.out.after en); clear en y4)
    | (go_at_call 63; refine (markedE_Pages _).mono ?_; rintro e w1 ⟨rfl, en⟩; replace O := Aside0.mk (O.out.after en); clear en; have y6 := ((O.out.cellsAt 0 rfl).1 6).trans HZ.out.2.2.1)
    | (go_at_call 64; refine (markedE_Patches _).mono ?_; rintro e w1 ⟨rfl, en⟩; replace O := Aside0.mk (O.out.after en); clear en; have y8 := ((O.out.cellsAt 0 rfl).1 8).trans HZ.out.2.2.2.1)
    | (go_at_call 65; refine (markedE_Dirty _).mono ?_; rintro e w1 ⟨rfl, en⟩; replace O := Aside0.mk (O.out.after en); clear en; have y10 := ((O.out.cellsAt 0 rfl).1 10).trans HZ.out.2.2.2.2.1)
    | (go_at_call 66; refine (markedE_Entries _).mono ?_; rintro e w1 ⟨rfl, en⟩; replace O := Aside0.mk (O.out.after en); clear en; have y12 := ((O.out.cellsAt 0 rfl).1 12).trans HZ.out.2.2.2.2.2.1)
    | (go_at_call 67; refine (markedE_Pairs _).mono ?_; rintro e w1 ⟨rfl, en⟩; replace O := Aside0.mk (O.out.after en); clear en; have y14 := ((O.out.cellsAt 0 rfl).1 14).trans HZ.out.2.2.2.2.2.2.1)
    | (go_at_call 68; refine (markedE_Txs _).mono ?_; rintro e w1 ⟨rfl, en⟩; replace O := Aside0.mk (O.out.after en); clear en; have y16 := ((O.out.cellsAt 0 rfl).1 16).trans HZ.out.2.2.2.2.2.2.2))
  go_ret
  exact ⟨rfl, O.out.below⟩
end Go.Proofs.YtcmepoakcffpaaaGreat.BK
