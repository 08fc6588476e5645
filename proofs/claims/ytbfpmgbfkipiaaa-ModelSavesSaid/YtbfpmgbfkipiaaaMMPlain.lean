import Derived.Lib.Bytealg
import Derived.Test.YtbfpmgbfkipiaaaMBase
namespace Go.Proofs.Ytbfpmgbfkipiaaa.MD
open Go Go.RowKit Go.Proofs.YtbfpmgbfkipiaaaW.PrintWords Go.Proofs.YtbfpmgbfkipiaaaW.PrintLast Go.Proofs.YtbfpmgbfkipiaaaW.PrintMore Go.Proofs.Ytbfpmgbfkipiaaa.L
set_option linter.unusedVariables false
set_option linter.unusedSimpArgs false
/-! The plain law of a model: entries that rise by their keys. -/
theorem eq_of_data {a b : ByteArray} (h : a.data.toList = b.data.toList) : a = b := by
  cases a; cases b
  congr 1
  exact Array.toList_inj.1 h
abbrev bl (s : ByteArray) : List UInt8 := s.data.toList
theorem bl_inj {a b : ByteArray} : bl a = bl b ↔ a = b := ⟨eq_of_data, fun h => by rw [h]⟩
def Rises (l : List Ent) : Prop := l.Pairwise (fun a b => bl a.1 < bl b.1)
def insM (l : List Ent) (k v : ByteArray) : List Ent := l.filter (fun x => decide (bl x.1 < bl k)) ++ (k, v) :: l.filter (fun x => decide (bl k < bl x.1))
def delM (l : List Ent) (k : ByteArray) : List Ent := l.filter (fun x => decide (x.1 ≠ k))
def stepM (m : List Ent) (w : Wr) : List Ent := if w.gone then delM m w.key else insM m w.key w.val
def overL (m : List Ent) (l : List Wr) : List Ent := l.foldl stepM m
theorem lt_asymm' {a b : List UInt8} (h : a < b) : ¬ b < a := fun h2 => List.lt_irrefl a (List.lt_trans h h2)
theorem lt_ne' {a b : List UInt8} (h : a < b) : a ≠ b := fun e => List.lt_irrefl b (by rw [e] at h; exact h)
theorem lt_tri (a b : List UInt8) : a < b ∨ a = b ∨ b < a := by
  by_cases h : a < b
  · exact .inl h
  · rcases List.le_iff_lt_or_eq.mp (List.not_lt.mp h) with h2 | h2
    · exact .inr (.inr h2)
    · exact .inr (.inl h2.symm)
theorem Rises.sub {l m : List Ent} (h : Rises l) (hs : m.Sublist l) : Rises m := List.Pairwise.sublist hs h
theorem Rises.nodup {l : List Ent} (h : Rises l) : (l.map (·.1)).Nodup := by
  rw [List.Nodup, List.pairwise_map]
  exact h.imp (fun {a b} hab => fun e => lt_ne' hab (by rw [show a.1 = b.1 from e]))
theorem mem_insM {l : List Ent} {k v : ByteArray} {x : Ent} : x ∈ insM l k v ↔ x = (k, v) ∨ x ∈ l ∧ x.1 ≠ k := by
  unfold insM
  rw [List.mem_append, List.mem_cons, List.mem_filter, List.mem_filter]
  constructor
  · rintro (⟨h1, h2⟩ | h | ⟨h1, h2⟩)
    · exact .inr ⟨h1, fun e => lt_ne' (of_decide_eq_true h2) (by rw [e])⟩
    · exact .inl h
    · exact .inr ⟨h1, fun e => lt_ne' (of_decide_eq_true h2) (by rw [e])⟩
  · rintro (h | ⟨h1, h2⟩)
    · exact .inr (.inl h)
    · rcases lt_tri (bl x.1) (bl k) with h3 | h3 | h3
      · exact .inl ⟨h1, decide_eq_true h3⟩
      · exact absurd (bl_inj.1 h3) h2
      · exact .inr (.inr ⟨h1, decide_eq_true h3⟩)
theorem mem_delM {l : List Ent} {k : ByteArray} {x : Ent} : x ∈ delM l k ↔ x ∈ l ∧ x.1 ≠ k := by
  unfold delM
  rw [List.mem_filter]
  simp
theorem rises_insM {l : List Ent} (h : Rises l) (k v : ByteArray) : Rises (insM l k v) := by
  unfold insM Rises
  rw [List.pairwise_append]
  refine ⟨h.sub List.filter_sublist, ?_, ?_⟩
  · rw [List.pairwise_cons]
    exact ⟨fun x hx => of_decide_eq_true (List.mem_filter.mp hx).2, h.sub List.filter_sublist⟩
  · intro a ha b hb
    have h1 := of_decide_eq_true (List.mem_filter.mp ha).2
    rcases List.mem_cons.mp hb with rfl | hb
    · exact h1
    · exact List.lt_trans h1 (of_decide_eq_true (List.mem_filter.mp hb).2)
theorem rises_delM {l : List Ent} (h : Rises l) (k : ByteArray) : Rises (delM l k) := h.sub List.filter_sublist
theorem rises_stepM {l : List Ent} (h : Rises l) (w : Wr) : Rises (stepM l w) := by
  unfold stepM
  split
  · exact rises_delM h _
  · exact rises_insM h _ _
theorem rises_overL {m : List Ent} (h : Rises m) (l : List Wr) : Rises (overL m l) := by
  unfold overL
  induction l generalizing m with
  | nil => exact h
  | cons w l ih => exact ih (rises_stepM h w)
theorem lookM_some {l : List Ent} {k v : ByteArray} (hn : (l.map (·.1)).Nodup) : lookM l k = some v ↔ (k, v) ∈ l := by
  unfold lookM
  constructor
  · intro h
    cases hf : l.find? (fun p => decide (p.1 = k)) with
    | none => rw [hf] at h; cases h
    | some q =>
      rw [hf] at h
      have hq := List.mem_of_find?_eq_some hf
      have hqk : q.1 = k := by simpa using List.find?_some hf
      have hv : q.2 = v := by simpa using h
      have : q = (k, v) := by rw [← hqk, ← hv]
      rwa [this] at hq
  · intro h
    cases hf : l.find? (fun p => decide (p.1 = k)) with
    | none => exact absurd (show k = k from rfl) (by simpa using List.find?_eq_none.1 hf _ h)
    | some q =>
      have hq := List.mem_of_find?_eq_some hf
      have hqk : q.1 = k := by simpa using List.find?_some hf
      obtain ⟨i, hi⟩ := List.getElem?_of_mem hq
      obtain ⟨j, hj⟩ := List.getElem?_of_mem h
      have hij := nodup_at hn (a := k) (i := i) (j := j) (by rw [List.getElem?_map, hi, ← hqk]; rfl) (by rw [List.getElem?_map, hj]; rfl)
      subst hij
      rw [hi] at hj
      injection hj with hj
      rw [hj]
      rfl
theorem lookM_none {l : List Ent} {k : ByteArray} : lookM l k = none ↔ ∀ p ∈ l, p.1 ≠ k := by
  unfold lookM
  rw [Option.map_eq_none_iff, List.find?_eq_none]
  simp
theorem lookM_ins {l : List Ent} (h : Rises l) (k v k2 : ByteArray) : lookM (insM l k v) k2 = if k2 = k then some v else lookM l k2 := by
  by_cases hk : k2 = k
  · subst hk
    rw [if_pos rfl, lookM_some (rises_insM h _ _).nodup]
    exact mem_insM.2 (.inl rfl)
  · rw [if_neg hk]
    cases hf : lookM l k2 with
    | none =>
      rw [lookM_none] at hf ⊢
      intro x hx
      rcases mem_insM.1 hx with rfl | ⟨hx, _⟩
      · exact fun e => hk e.symm
      · exact hf x hx
    | some d =>
      rw [lookM_some h.nodup] at hf
      rw [lookM_some (rises_insM h _ _).nodup]
      exact mem_insM.2 (.inr ⟨hf, hk⟩)
theorem lookM_del {l : List Ent} (h : Rises l) (k k2 : ByteArray) : lookM (delM l k) k2 = if k2 = k then none else lookM l k2 := by
  by_cases hk : k2 = k
  · subst hk
    rw [if_pos rfl, lookM_none]
    exact fun x hx => (mem_delM.1 hx).2
  · rw [if_neg hk]
    cases hf : lookM l k2 with
    | none =>
      rw [lookM_none] at hf ⊢
      exact fun x hx => hf x (mem_delM.1 hx).1
    | some d =>
      rw [lookM_some h.nodup] at hf
      rw [lookM_some (rises_delM h _).nodup]
      exact mem_delM.2 ⟨hf, hk⟩
/-- What a key's last write says. -/
def lastW (l : List Wr) (k : ByteArray) : Option Wr := l.reverse.find? (fun w => decide (w.key = k))
theorem look_over {m : List Ent} (h : Rises m) (l : List Wr) (k : ByteArray) : lookM (overL m l) k = match lastW l k with | some w => if w.gone then none else some w.val | none => lookM m k := by
  unfold overL lastW
  induction l generalizing m with
  | nil => rfl
  | cons w l ih =>
    rw [List.foldl_cons, ih (rises_stepM h w), List.reverse_cons, List.find?_append]
    cases hf : l.reverse.find? (fun w => decide (w.key = k)) with
    | some x => rfl
    | none =>
      rw [Option.none_or, List.find?_cons]
      unfold stepM
      by_cases hk : w.key = k
      · subst hk
        simp only [decide_true]
        cases w.gone with
        | true => simp [lookM_del h]
        | false => simp [lookM_ins h]
      · have hk2 : ¬ k = w.key := fun e => hk e.symm
        simp only [decide_eq_false hk, List.find?_nil]
        cases w.gone with
        | true => simp [lookM_del h, hk2]
        | false => simp [lookM_ins h, hk2]
theorem Rises.ext : ∀ {l m : List Ent}, Rises l → Rises m → (∀ x, x ∈ l ↔ x ∈ m) → l = m
  | [], [], _, _, _ => rfl
  | [], b :: m, _, _, h => by have := (h b).2 (by simp); cases this
  | a :: l, [], _, _, h => by have := (h a).1 (by simp); cases this
  | a :: l, b :: m, hl, hm, h => by
    have hl2 := List.pairwise_cons.1 hl
    have hm2 := List.pairwise_cons.1 hm
    have hab : a = b := by
      rcases List.mem_cons.mp ((h a).1 (by simp)) with h1 | h1
      · exact h1
      · rcases List.mem_cons.mp ((h b).2 (by simp)) with h2 | h2
        · exact h2.symm
        · exact absurd (hl2.1 b h2) (lt_asymm' (hm2.1 a h1))
    subst hab
    rw [Rises.ext hl2.2 hm2.2 (fun x => ?_)]
    constructor
    · intro hx
      rcases List.mem_cons.mp ((h x).1 (by simp [hx])) with rfl | h1
      · exact absurd (hl2.1 x hx) (List.lt_irrefl _)
      · exact h1
    · intro hx
      rcases List.mem_cons.mp ((h x).2 (by simp [hx])) with rfl | h1
      · exact absurd (hm2.1 x hx) (List.lt_irrefl _)
      · exact h1
theorem Rises.ext_look {l m : List Ent} (hl : Rises l) (hm : Rises m) (h : ∀ k, lookM l k = lookM m k) : l = m :=
  Rises.ext hl hm (fun x => by
    obtain ⟨k, v⟩ := x
    rw [← lookM_some hl.nodup, ← lookM_some hm.nodup, h k])
theorem Rises.of_perm {l m : List Ent} (h : l.Perm m) (hm : Rises m) (hl : Rises l) : l = m := Rises.ext hl hm (fun x => h.mem_iff)
/-! ### the map in memory, in whatever order -/
def putE (l : List Ent) (k v : ByteArray) : List Ent := if (lookM l k).isSome then l.map (fun p => if p.1 = k then (k, v) else p) else l ++ [(k, v)]
theorem put_strs (l : List Ent) (k v : ByteArray) : L.put (strs l) k (.string v) = strs (putE l k v) := by
  unfold L.put putE
  rw [look_strs, Option.isSome_map]
  split
  · unfold strs
    rw [List.map_map, List.map_map]
    congr 1
    funext p
    simp only [Function.comp_apply]
    split <;> rfl
  · unfold strs
    rw [List.map_append]
    rfl
theorem del_strs (l : List Ent) (k : ByteArray) : L.del (strs l) k = strs (delM l k) := by
  unfold L.del delM strs
  rw [List.filter_map]
  rfl
theorem putE_keys {l : List Ent} (hn : (l.map (·.1)).Nodup) (k v : ByteArray) : ((putE l k v).map (·.1)).Nodup := by
  unfold putE
  cases hf : lookM l k with
  | some u =>
    rw [if_pos (show (some u).isSome = true from rfl), List.map_map]
    have : l.map ((fun x : Ent => x.1) ∘ fun p => if p.1 = k then (k, v) else p) = l.map (·.1) := by
      refine List.map_congr_left (fun p _ => ?_)
      simp only [Function.comp_apply]
      split
      · rename_i h; exact h.symm
      · rfl
    rw [this]
    exact hn
  | none =>
    rw [if_neg (by simp), List.map_append, List.nodup_append]
    refine ⟨hn, by simp, ?_⟩
    intro a ha b hb
    simp only [List.map_cons, List.map_nil, List.mem_singleton] at hb
    subst hb
    obtain ⟨p, hp, rfl⟩ := List.mem_map.1 ha
    exact lookM_none.1 hf p hp
theorem mem_putE {l : List Ent} {k v : ByteArray} {x : Ent} : x ∈ putE l k v ↔ x = (k, v) ∨ x ∈ l ∧ x.1 ≠ k := by
  unfold putE
  cases hf : lookM l k with
  | some u =>
    rw [if_pos (show (some u).isSome = true from rfl), List.mem_map]
    constructor
    · rintro ⟨p, hp, rfl⟩
      by_cases h : p.1 = k
      · rw [if_pos h]; exact .inl rfl
      · rw [if_neg h]; exact .inr ⟨hp, h⟩
    · rintro (rfl | ⟨h1, h2⟩)
      · unfold lookM at hf
        cases hq : l.find? (fun p => decide (p.1 = k)) with
        | none => rw [hq] at hf; cases hf
        | some q => exact ⟨q, List.mem_of_find?_eq_some hq, by rw [if_pos (by simpa using List.find?_some hq)]⟩
      · exact ⟨x, h1, by rw [if_neg h2]⟩
  | none =>
    rw [if_neg (by simp), List.mem_append, List.mem_singleton]
    constructor
    · rintro (h | h)
      · exact .inr ⟨h, lookM_none.1 hf x h⟩
      · exact .inl h
    · rintro (h | ⟨h, _⟩)
      · exact .inr h
      · exact .inl h
theorem nodup_of_keys {l : List Ent} (h : (l.map (·.1)).Nodup) : l.Nodup := by
  rw [List.Nodup, List.pairwise_map] at h
  exact h.imp (fun {a b} hab e => hab (by rw [e]))
theorem put_perm {l m : List Ent} (h : l.Perm m) (hm : Rises m) (k v : ByteArray) : (putE l k v).Perm (insM m k v) := by
  have hn : (l.map (·.1)).Nodup := (h.map _).nodup_iff.2 hm.nodup
  refine (List.perm_ext_iff_of_nodup (nodup_of_keys (putE_keys hn k v)) (nodup_of_keys (rises_insM hm k v).nodup)).2 (fun x => ?_)
  rw [mem_putE, mem_insM, h.mem_iff]
theorem del_perm' {l m : List Ent} (h : l.Perm m) (k : ByteArray) : (delM l k).Perm (delM m k) := h.filter _
/-- What a last write, and the map, say of a key. -/
def seenR (w : Option Wr) (d : Option ByteArray) : ByteArray × Bool := match w with
  | some w => (w.val, !w.gone)
  | none => (d.getD ⟨#[]⟩, d.isSome)
/-- What a transaction is told of a key. -/
def getR (s : Mod) (tx : Int) (k : ByteArray) : ByteArray × Bool := match getP s.t tx with
  | none => (⟨#[]⟩, false)
  | some p => seenR (lastW p.2.l k) (lookM s.m k)
end Go.Proofs.Ytbfpmgbfkipiaaa.MD
