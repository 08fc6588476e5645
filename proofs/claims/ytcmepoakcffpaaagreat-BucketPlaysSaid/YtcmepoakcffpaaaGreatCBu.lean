import Derived.Test.YtcmepoakcffpaaaGreatProg
import Derived.BigRegion
import Derived.BigQuiet
import Derived.Deep.QuietTactic
import Derived.Deep.AppendLies
import Derived.ChangeAlike
import Derived.Outline
import Derived.WalkKit
import Derived.KernelRfl
import Derived.Deep.LoopGhost
import Derived.Deep.RegionLaw
import Derived.Test.YtcmepoakcffpaaaGreatWMore
import Derived.Test.YtcmepoakcffpaaaGreatWKept
import Derived.Test.YtcmepoakcffpaaaGreatLSep
import Derived.Test.YtcmepoakcffpaaaGreatCCorr
import Derived.Test.YtcmepoakcffpaaaGreatShelf
import Derived.Sort.Walk0
import Derived.Laws.Cover1
import Derived.Test.YtcmepoakcffpaaaGreatBG
import Derived.Test.YtcmepoakcffpaaaGreatCPut
namespace Go.Proofs.YtcmepoakcffpaaaGreat.CP
open Go Go.RowKit Go.Proofs.YtcmepoakcffpaaaGreatW.PrintWords Go.Proofs.YtcmepoakcffpaaaGreatW.PrintLast Go.Proofs.YtcmepoakcffpaaaGreatW.PrintMore Go.Proofs.YtcmepoakcffpaaaGreat.CR Go.Proofs.YtcmepoakcffpaaaGreat.L
set_option linter.unusedVariables false
set_option linter.unusedSimpArgs false
/-! The plain law of a bucket: rising cells, one put in, one taken out. -/
abbrev B.kk (c : B) : List UInt8 := c.k.data.toList
def Rise (l : List B) : Prop := l.Pairwise (fun a b => a.kk < b.kk)
def posB (l : List B) (key : List UInt8) : Nat := l.countP (fun c => decide (c.kk < key))
def findB (l : List B) (key : List UInt8) : Option B := l.find? (fun c => decide (c.kk = key))
def setB (l : List B) (c : B) : List B := l.filter (fun x => decide (x.kk < c.kk)) ++ c :: l.filter (fun x => decide (c.kk < x.kk))
def cutB (l : List B) (key : List UInt8) : List B := l.filter (fun x => decide (x.kk ≠ key))
theorem Rise.tail {a : B} {l : List B} (h : Rise (a :: l)) : Rise l := (List.pairwise_cons.mp h).2
theorem Rise.head {a : B} {l : List B} (h : Rise (a :: l)) : ∀ x ∈ l, a.kk < x.kk := (List.pairwise_cons.mp h).1
theorem kk_lt_asymm {a b : List UInt8} (h : a < b) : ¬ b < a := fun h2 => List.lt_irrefl a (List.lt_trans h h2)
theorem kk_lt_ne {a b : List UInt8} (h : a < b) : a ≠ b := fun e => List.lt_irrefl b (by rw [e] at h; exact h)
theorem kk_tri (a b : List UInt8) : a < b ∨ a = b ∨ b < a := by
  by_cases h : a < b
  · exact .inl h
  · rcases List.le_iff_lt_or_eq.mp (List.not_lt.mp h) with h2 | h2
    · exact .inr (.inr h2)
    · exact .inr (.inl h2.symm)
theorem filter_none {l : List B} {p : B → Bool} (h : ∀ x ∈ l, p x = false) : l.filter p = [] := by
  rw [List.filter_eq_nil_iff]
  intro x hx
  rw [h x hx]; simp
theorem filter_all {l : List B} {p : B → Bool} (h : ∀ x ∈ l, p x = true) : l.filter p = l := List.filter_eq_self.mpr h
/-- Rising cells stand on both sides of a key's place. -/
theorem split_pos : ∀ {l : List B} (_ : Rise l) (key : List UInt8), l.take (posB l key) = l.filter (fun c => decide (c.kk < key)) ∧ l.drop (posB l key) = l.filter (fun c => !decide (c.kk < key))
  | [], _, _ => by simp [posB]
  | a :: l, h, key => by
    obtain ⟨h1, h2⟩ := split_pos h.tail key
    unfold posB at *
    by_cases ha : a.kk < key
    · rw [List.countP_cons_of_pos (by simpa using ha), List.take_succ_cons, List.drop_succ_cons, h1, h2]
      simp [ha]
    · have hn : ∀ x ∈ l, decide (x.kk < key) = false := fun x hx => decide_eq_false (fun hx2 => ha (List.lt_trans (h.head x hx) hx2))
      have hc : (a :: l).countP (fun c => decide (c.kk < key)) = 0 := by
        rw [List.countP_eq_zero]
        intro x hx
        rcases List.mem_cons.mp hx with rfl | hx
        · simpa using ha
        · rw [hn x hx]; simp
      rw [hc]
      simp only [List.take_zero, List.drop_zero]
      constructor
      · symm
        refine filter_none fun x hx => ?_
        rcases List.mem_cons.mp hx with rfl | hx
        · simpa using ha
        · exact hn x hx
      · symm
        refine filter_all fun x hx => ?_
        rcases List.mem_cons.mp hx with rfl | hx
        · simpa using ha
        · rw [hn x hx]; rfl
theorem posB_le (l : List B) (key : List UInt8) : posB l key ≤ l.length := List.countP_le_length
theorem Rise.sub {l m : List B} (h : Rise l) (hs : m.Sublist l) : Rise m := List.Pairwise.sublist hs h
/-- The cell at a key's place is the key's, or a greater one. -/
theorem drop_pos {l : List B} (h : Rise l) (key : List UInt8) :
    (∃ c, c.kk = key ∧ c ∈ l ∧ l.drop (posB l key) = c :: l.filter (fun x => decide (key < x.kk))) ∨ ((∀ x ∈ l, x.kk ≠ key) ∧ l.drop (posB l key) = l.filter (fun x => decide (key < x.kk))) := by
  have h2 := (split_pos h key).2
  have hm : ∀ x, x ∈ l.drop (posB l key) ↔ x ∈ l ∧ ¬ x.kk < key := fun x => by rw [h2, List.mem_filter]; simp
  have hr : Rise (l.drop (posB l key)) := h.sub (List.drop_sublist _ _)
  have hf : (l.drop (posB l key)).filter (fun x => decide (key < x.kk)) = l.filter (fun x => decide (key < x.kk)) := by
    rw [h2, List.filter_filter]
    congr 1
    funext x
    by_cases hx : key < x.kk
    · simp [hx, kk_lt_asymm hx]
    · simp [hx]
  by_cases hex : ∃ c ∈ l, c.kk = key
  · left
    obtain ⟨c, hc, hk⟩ := hex
    have hcd : c ∈ l.drop (posB l key) := (hm c).2 ⟨hc, by rw [hk]; exact List.lt_irrefl _⟩
    cases hd : l.drop (posB l key) with
    | nil => rw [hd] at hcd; cases hcd
    | cons a r =>
      rw [hd] at hcd hr hf
      have ha : ¬ a.kk < key := ((hm a).1 (by rw [hd]; simp)).2
      have hac : a = c := by
        rcases List.mem_cons.mp hcd with h3 | h3
        · exact h3.symm
        · exact absurd (hk ▸ hr.head c h3) ha
      subst hac
      refine ⟨a, hk, hc, ?_⟩
      rw [← hf, List.filter_cons_of_neg (by simp [hk, List.lt_irrefl]), filter_all fun x hx => ?_]
      have := hr.head x hx
      rw [hk] at this
      exact decide_eq_true this
  · right
    have hne : ∀ x ∈ l, x.kk ≠ key := fun x hx e => hex ⟨x, hx, e⟩
    refine ⟨hne, ?_⟩
    rw [← hf]
    symm
    refine filter_all fun x hx => ?_
    obtain ⟨hx1, hx2⟩ := (hm x).1 hx
    rcases kk_tri x.kk key with h3 | h3 | h3
    · exact absurd h3 hx2
    · exact absurd h3 (hne x hx1)
    · exact decide_eq_true h3
theorem findB_some {l : List B} {key : List UInt8} {c : B} (h : findB l key = some c) : c ∈ l ∧ c.kk = key := by
  unfold findB at h
  exact ⟨List.mem_of_find?_eq_some h, by simpa using List.find?_some h⟩
theorem findB_none {l : List B} {key : List UInt8} : findB l key = none ↔ ∀ x ∈ l, x.kk ≠ key := by
  unfold findB
  rw [List.find?_eq_none]
  simp
theorem Rise.inj {l : List B} (h : Rise l) {a b : B} (ha : a ∈ l) (hb : b ∈ l) (e : a.kk = b.kk) : a = b := by
  induction l with
  | nil => cases ha
  | cons c l ih =>
    rcases List.mem_cons.mp ha with ha1 | ha1
    · rcases List.mem_cons.mp hb with hb1 | hb1
      · rw [ha1, hb1]
      · rw [ha1] at e
        exact absurd e (kk_lt_ne (h.head b hb1))
    · rcases List.mem_cons.mp hb with hb1 | hb1
      · rw [hb1] at e
        exact absurd e.symm (kk_lt_ne (h.head a ha1))
      · exact ih h.tail ha1 hb1
theorem findB_mem {l : List B} (h : Rise l) {c : B} (hc : c ∈ l) : findB l c.kk = some c := by
  cases hf : findB l c.kk with
  | none => exact absurd rfl (findB_none.1 hf c hc)
  | some d =>
    obtain ⟨h1, h2⟩ := findB_some hf
    rw [h.inj h1 hc h2]
theorem findB_iff {l : List B} (h : Rise l) {key : List UInt8} {c : B} : findB l key = some c ↔ c ∈ l ∧ c.kk = key :=
  ⟨findB_some, fun ⟨h1, h2⟩ => by rw [← h2]; exact findB_mem h h1⟩
/-- What stands at the place of a key. -/
theorem pos_had {l : List B} (h : Rise l) {key : List UInt8} {c : B} (hf : findB l key = some c) :
    posB l key < l.length ∧ l[posB l key]? = some c ∧ l.take (posB l key) = l.filter (fun x => decide (x.kk < key)) ∧ l.drop (posB l key + 1) = l.filter (fun x => decide (key < x.kk)) := by
  obtain ⟨h1, h2⟩ := findB_some hf
  rcases drop_pos h key with ⟨d, hd, hdm, he⟩ | ⟨hn, _⟩
  · have hdc : d = c := h.inj hdm h1 (hd.trans h2.symm)
    subst hdc
    have hlt : posB l key < l.length := by
      rcases Nat.lt_or_ge (posB l key) l.length with h3 | h3
      · exact h3
      · rw [List.drop_eq_nil_of_le h3] at he; cases he
    refine ⟨hlt, ?_, (split_pos h key).1, ?_⟩
    · have := congrArg (fun x => x[0]?) he
      simpa using this
    · rw [List.drop_eq_getElem_cons hlt] at he
      exact (List.cons.inj he).2
  · exact absurd h2 (hn c h1)
theorem pos_none {l : List B} (h : Rise l) {key : List UInt8} (hf : findB l key = none) :
    l.take (posB l key) = l.filter (fun x => decide (x.kk < key)) ∧ l.drop (posB l key) = l.filter (fun x => decide (key < x.kk)) := by
  rcases drop_pos h key with ⟨d, hd, hdm, _⟩ | ⟨_, he⟩
  · exact absurd hd (findB_none.1 hf d hdm)
  · exact ⟨(split_pos h key).1, he⟩
theorem set_had {l : List B} (h : Rise l) {c d : B} (hf : findB l c.kk = some d) : l.set (posB l c.kk) c = setB l c := by
  obtain ⟨h1, _, h3, h4⟩ := pos_had h hf
  rw [List.set_eq_take_append_cons_drop, if_pos h1, h3, h4]
  rfl
theorem set_none {l : List B} (h : Rise l) {c : B} (hf : findB l c.kk = none) : l.take (posB l c.kk) ++ c :: l.drop (posB l c.kk) = setB l c := by
  obtain ⟨h3, h4⟩ := pos_none h hf
  rw [h3, h4]
  rfl
theorem cut_had {l : List B} (h : Rise l) {key : List UInt8} {d : B} (hf : findB l key = some d) : l.eraseIdx (posB l key) = cutB l key := by
  obtain ⟨h1, h2, h3, h4⟩ := pos_had h hf
  have hd := (findB_some hf).2
  rw [List.eraseIdx_eq_take_drop_succ]
  have hs : l = l.take (posB l key) ++ d :: l.drop (posB l key + 1) := by
    have : l.drop (posB l key) = d :: l.drop (posB l key + 1) := by
      rw [List.drop_eq_getElem_cons h1]
      rw [List.getElem?_eq_getElem h1] at h2
      rw [Option.some.inj h2]
    rw [← this, List.take_append_drop]
  unfold cutB
  conv => rhs; rw [hs]
  rw [List.filter_append, List.filter_cons_of_neg (by simp [hd])]
  congr 1
  · symm
    refine filter_all fun x hx => ?_
    rw [h3, List.mem_filter] at hx
    exact decide_eq_true (kk_lt_ne (of_decide_eq_true hx.2))
  · symm
    refine filter_all fun x hx => ?_
    rw [h4, List.mem_filter] at hx
    exact decide_eq_true (fun e => kk_lt_ne (of_decide_eq_true hx.2) e.symm)
theorem mem_setB {l : List B} {c x : B} : x ∈ setB l c ↔ x = c ∨ x ∈ l ∧ x.kk ≠ c.kk := by
  unfold setB
  rw [List.mem_append, List.mem_cons, List.mem_filter, List.mem_filter]
  constructor
  · rintro (⟨h1, h2⟩ | h | ⟨h1, h2⟩)
    · exact .inr ⟨h1, kk_lt_ne (of_decide_eq_true h2)⟩
    · exact .inl h
    · exact .inr ⟨h1, fun e => kk_lt_ne (of_decide_eq_true h2) e.symm⟩
  · rintro (h | ⟨h1, h2⟩)
    · exact .inr (.inl h)
    · rcases kk_tri x.kk c.kk with h3 | h3 | h3
      · exact .inl ⟨h1, decide_eq_true h3⟩
      · exact absurd h3 h2
      · exact .inr (.inr ⟨h1, decide_eq_true h3⟩)
theorem mem_cutB {l : List B} {key : List UInt8} {x : B} : x ∈ cutB l key ↔ x ∈ l ∧ x.kk ≠ key := by
  unfold cutB
  rw [List.mem_filter]
  simp
theorem rise_setB {l : List B} (h : Rise l) (c : B) : Rise (setB l c) := by
  unfold setB Rise
  rw [List.pairwise_append]
  refine ⟨h.sub List.filter_sublist, ?_, ?_⟩
  · rw [List.pairwise_cons]
    exact ⟨fun x hx => of_decide_eq_true (List.mem_filter.mp hx).2, h.sub List.filter_sublist⟩
  · intro a ha b hb
    have h1 := of_decide_eq_true (List.mem_filter.mp ha).2
    rcases List.mem_cons.mp hb with rfl | hb
    · exact h1
    · exact List.lt_trans h1 (of_decide_eq_true (List.mem_filter.mp hb).2)
theorem rise_cutB {l : List B} (h : Rise l) (key : List UInt8) : Rise (cutB l key) := h.sub List.filter_sublist
theorem find_setB {l : List B} (h : Rise l) (c : B) (key : List UInt8) : findB (setB l c) key = if key = c.kk then some c else findB l key := by
  by_cases hk : key = c.kk
  · subst hk
    rw [if_pos rfl]
    exact findB_mem (rise_setB h c) (mem_setB.2 (.inl rfl))
  · rw [if_neg hk]
    cases hf : findB l key with
    | none =>
      rw [findB_none] at hf ⊢
      intro x hx
      rcases mem_setB.1 hx with rfl | ⟨hx, _⟩
      · exact fun e => hk e.symm
      · exact hf x hx
    | some d =>
      rw [findB_iff h] at hf
      rw [findB_iff (rise_setB h c)]
      exact ⟨mem_setB.2 (.inr ⟨hf.1, by rw [hf.2]; exact hk⟩), hf.2⟩
theorem find_cutB {l : List B} (h : Rise l) (key k2 : List UInt8) : findB (cutB l key) k2 = if k2 = key then none else findB l k2 := by
  by_cases hk : k2 = key
  · subst hk
    rw [if_pos rfl, findB_none]
    exact fun x hx => (mem_cutB.1 hx).2
  · rw [if_neg hk]
    cases hf : findB l k2 with
    | none =>
      rw [findB_none] at hf ⊢
      exact fun x hx => hf x (mem_cutB.1 hx).1
    | some d =>
      rw [findB_iff h] at hf
      rw [findB_iff (rise_cutB h key)]
      exact ⟨mem_cutB.2 ⟨hf.1, by rw [hf.2]; exact hk⟩, hf.2⟩
/-- Rising cells are told by what is among them. -/
theorem Rise.ext : ∀ {l m : List B}, Rise l → Rise m → (∀ x, x ∈ l ↔ x ∈ m) → l = m
  | [], [], _, _, _ => rfl
  | [], b :: m, _, _, h => by have := (h b).2 (by simp); cases this
  | a :: l, [], _, _, h => by have := (h a).1 (by simp); cases this
  | a :: l, b :: m, hl, hm, h => by
    have hab : a = b := by
      rcases List.mem_cons.mp ((h a).1 (by simp)) with h1 | h1
      · exact h1
      · rcases List.mem_cons.mp ((h b).2 (by simp)) with h2 | h2
        · exact h2.symm
        · exact absurd (hl.head b h2) (kk_lt_asymm (hm.head a h1))
    subst hab
    rw [Rise.ext hl.tail hm.tail (fun x => ?_)]
    constructor
    · intro hx
      rcases List.mem_cons.mp ((h x).1 (by simp [hx])) with rfl | h1
      · exact absurd (hl.head x hx) (List.lt_irrefl _)
      · exact h1
    · intro hx
      rcases List.mem_cons.mp ((h x).2 (by simp [hx])) with rfl | h1
      · exact absurd (hm.head x hx) (List.lt_irrefl _)
      · exact h1
theorem cut_setB {l : List B} (h : Rise l) {c : B} (hf : findB l c.kk = none) : cutB (setB l c) c.kk = l := by
  refine Rise.ext (rise_cutB (rise_setB h c) _) h fun x => ?_
  rw [mem_cutB, mem_setB]
  rw [findB_none] at hf
  constructor
  · rintro ⟨rfl | ⟨h1, _⟩, h2⟩
    · exact absurd rfl h2
    · exact h1
  · exact fun hx => ⟨.inr ⟨hx, hf x hx⟩, hf x hx⟩
def tot (l : List B) : Nat := total (l.map B.cl)
theorem tot_nil : tot [] = 0 := rfl
theorem tot_cons (c : B) (l : List B) : tot (c :: l) = csize c.cl + tot l := by simp [tot, total]
theorem tot_append (l m : List B) : tot (l ++ m) = tot l + tot m := by simp [tot, total]
theorem perm_setB {l : List B} (h : Rise l) {c : B} (hf : findB l c.kk = none) : (setB l c).Perm (c :: l) := by
  rw [← set_none h hf]
  refine List.perm_middle.trans ?_
  rw [List.take_append_drop]
theorem tot_perm {l m : List B} (h : l.Perm m) : tot l = tot m := by
  unfold tot total
  exact ((h.map B.cl).map csize).sum_nat
theorem tot_set_none {l : List B} (h : Rise l) {c : B} (hf : findB l c.kk = none) : tot (setB l c) = tot l + csize c.cl := by
  rw [tot_perm (perm_setB h hf), tot_cons, Nat.add_comm]
theorem tot_set_had {l : List B} (h : Rise l) {c d : B} (hf : findB l c.kk = some d) : tot (setB l c) + csize d.cl = tot l + csize c.cl := by
  obtain ⟨h1, h2, h3, h4⟩ := pos_had h hf
  have hs : l = l.take (posB l c.kk) ++ d :: l.drop (posB l c.kk + 1) := by
    have : l.drop (posB l c.kk) = d :: l.drop (posB l c.kk + 1) := by
      rw [List.drop_eq_getElem_cons h1]
      rw [List.getElem?_eq_getElem h1] at h2
      rw [Option.some.inj h2]
    rw [← this, List.take_append_drop]
  have e1 : tot l = tot (l.filter (fun x => decide (x.kk < c.kk))) + (csize d.cl + tot (l.filter (fun x => decide (c.kk < x.kk)))) := by
    conv => lhs; rw [hs]
    rw [tot_append, tot_cons, h3, h4]
  rw [e1]
  unfold setB
  rw [tot_append, tot_cons]
  omega
theorem len_set_none {l : List B} (h : Rise l) {c : B} (hf : findB l c.kk = none) : (setB l c).length = l.length + 1 := (perm_setB h hf).length_eq
theorem tot_ge : ∀ (l : List B), 4 * l.length ≤ tot l
  | [] => by simp
  | c :: l => by
    have := tot_ge l
    have h2 : 4 ≤ csize c.cl := by unfold csize; omega
    rw [tot_cons, List.length_cons]
    omega
/-- Cells that can be written. -/
structure Good (l : List B) : Prop where
  rise : Rise l
  right : ∀ c ∈ l, right c.cl = true
theorem Good.nil : Good [] := ⟨List.Pairwise.nil, fun _ h => by cases h⟩
theorem Good.set {l : List B} (h : Good l) {c : B} (hc : CP.right c.cl = true) : Good (setB l c) := ⟨rise_setB h.rise c, fun x hx => by
  rcases mem_setB.1 hx with rfl | ⟨h1, _⟩
  · exact hc
  · exact h.right x h1⟩
theorem Good.cut {l : List B} (h : Good l) (key : List UInt8) : Good (cutB l key) := ⟨rise_cutB h.rise key, fun x hx => h.right x (mem_cutB.1 hx).1⟩
theorem Good.rises {l : List B} (h : Good l) : rises (l.map B.cl) = true := by
  refine rises_of (fun c hc => ?_) ?_
  · obtain ⟨b, hb, rfl⟩ := List.mem_map.1 hc
    exact h.right b hb
  · rw [List.map_map, List.pairwise_map]
    exact h.rise
theorem Good.put {l : List B} (h : Good l) : (tot l ≤ 239 → ∃ b, put (l.map B.cl) = some b) ∧ (¬ tot l ≤ 239 → put (l.map B.cl) = none) := by
  unfold CP.put
  have h1 := tot_ge l
  constructor
  · intro ht
    rw [if_pos ⟨by rw [List.length_map]; omega, h.rises, by unfold tot at ht; omega⟩]
    exact ⟨_, rfl⟩
  · intro ht
    rw [if_neg (fun hc => ht (by unfold tot; omega))]
theorem good_of_put {l : List B} {b : List UInt8} (h : CP.put (l.map B.cl) = some b) : Good l ∧ tot l ≤ 239 := by
  unfold CP.put at h
  split at h
  · rename_i hc
    refine ⟨⟨?_, fun c hc2 => rises_right hc.2.1 _ (List.mem_map_of_mem hc2)⟩, by unfold tot; omega⟩
    have := rises_nodup hc.2.1
    rw [List.map_map, List.pairwise_map] at this
    exact this
  · cases h
theorem good_of_get {s : ByteArray} {l : List B} (h : getF s = (l, true)) : Good l ∧ tot l ≤ 239 := good_of_put (putF_put (getF_true h))
theorem getF_false {s : ByteArray} {l : List B} (h : getF s = (l, false)) : l = [] := by
  unfold getF at h
  split at h
  · injection h with _ h2; cases h2
  · injection h with h1 _; exact h1.symm
theorem rise_getF (s : ByteArray) : Rise (getF s).1 := by
  rcases hg : getF s with ⟨l, b⟩
  cases b with
  | true => exact (good_of_get hg).1.rise
  | false => rw [getF_false hg]; exact List.Pairwise.nil
theorem len_getF (s : ByteArray) : (getF s).1.length < 300 := by
  rcases hg : getF s with ⟨l, b⟩
  cases b with
  | true => have := (good_of_get hg).2; have := tot_ge l; show l.length < 300; omega
  | false => rw [getF_false hg]; show 0 < 300; omega
/-- A page. -/
structure Pg where
  kind : Int
  depth : Int
  next : Int
  body : ByteArray
def Pg.none : Pg := ⟨0, 0, 0, ⟨#[]⟩⟩
def cellsP (p : Pg) : List B × Bool := if p.kind = 3 ∨ p.kind = 4 then getF p.body else ([], false)
def withP (p : Pg) (l : List B) : Pg × Int := if (putF (l.map B.cl)).2 then ({ p with body := (putF (l.map B.cl)).1 }, 0) else (Pg.none, 13)
def setP (p : Pg) (c : B) : Pg × Int := if (cellsP p).2 = false then (Pg.none, 2) else if right c.cl = false then (Pg.none, 1) else withP p (setB (cellsP p).1 c)
def cutP (p : Pg) (key : List UInt8) : Pg × Int := if (cellsP p).2 = false then (Pg.none, 2) else if (findB (cellsP p).1 key).isNone then (Pg.none, 3) else withP p (cutB (cellsP p).1 key)
def roomP (p : Pg) : Int := if (cellsP p).2 = false then 0 else 239 - (tot (cellsP p).1 : Nat)
theorem rise_cellsP (p : Pg) : Rise (cellsP p).1 := by
  unfold cellsP
  split
  · exact rise_getF _
  · exact List.Pairwise.nil
theorem len_cellsP (p : Pg) : (cellsP p).1.length < 300 := by
  unfold cellsP
  split
  · exact len_getF _
  · show 0 < 300; omega
end Go.Proofs.YtcmepoakcffpaaaGreat.CP
namespace Go.Proofs.YtcmepoakcffpaaaGreat.CP
open Go Go.RowKit Go.Proofs.YtcmepoakcffpaaaGreatW.PrintWords Go.Proofs.YtcmepoakcffpaaaGreatW.PrintLast Go.Proofs.YtcmepoakcffpaaaGreatW.PrintMore Go.Proofs.YtcmepoakcffpaaaGreat.CR Go.Proofs.YtcmepoakcffpaaaGreat.L
set_option linter.unusedVariables false
set_option linter.unusedSimpArgs false
theorem bytes_compare0 : ∀ (a b : List UInt8), (Lib.compareBytes a b = 0) ↔ a = b
  | [], [] => by simp [Lib.compareBytes]
  | [], _ :: _ => by simp [Lib.compareBytes]
  | _ :: _, [] => by simp [Lib.compareBytes]
  | a :: x, b :: y => by
    have ih := bytes_compare0 x y
    unfold Lib.compareBytes
    by_cases h1 : a < b
    · rw [if_pos h1]
      simp only [show ¬ ((-1 : Int) = 0) by decide, false_iff, List.cons.injEq, not_and]
      intro e
      subst e
      exact absurd h1 (UInt8.lt_irrefl a)
    · rw [if_neg h1]
      by_cases h2 : b < a
      · rw [if_pos h2]
        simp only [show ¬ ((1 : Int) = 0) by decide, false_iff, List.cons.injEq, not_and]
        intro e
        subst e
        exact absurd h2 h1
      · rw [if_neg h2, ih]
        have e : a = b := UInt8.le_antisymm (UInt8.not_lt.mp h2) (UInt8.not_lt.mp h1)
        simp [e]
theorem posB_of {l : List B} {key : List UInt8} {i : Nat} (hi : i ≤ l.length) (h1 : ∀ t, t < i → (l.getD t default).kk < key) (h2 : ∀ t, i ≤ t → t < l.length → ¬ (l.getD t default).kk < key) : posB l key = i := by
  have e : l = l.take i ++ l.drop i := (List.take_append_drop i l).symm
  unfold posB
  rw [e, List.countP_append]
  have c1 : (l.take i).countP (fun c => decide (c.kk < key)) = i := by
    rw [List.countP_eq_length.mpr, List.length_take, Nat.min_eq_left hi]
    intro x hx
    obtain ⟨t, ht, rfl⟩ := List.mem_iff_getElem.1 hx
    rw [List.length_take] at ht
    have := h1 t (by omega)
    rw [List.getElem_take]
    rw [List.getD_eq_getElem?_getD, List.getElem?_eq_getElem (by omega)] at this
    simpa using this
  have c2 : (l.drop i).countP (fun c => decide (c.kk < key)) = 0 := by
    rw [List.countP_eq_zero]
    intro x hx
    obtain ⟨t, ht, rfl⟩ := List.mem_iff_getElem.1 hx
    rw [List.length_drop] at ht
    have := h2 (i + t) (by omega) (by omega)
    rw [List.getElem_drop]
    rw [List.getD_eq_getElem?_getD, List.getElem?_eq_getElem (by omega)] at this
    simpa using this
  rw [c1, c2]
  omega
theorem found_at {l : List B} (h : Rise l) (key : List UInt8) : (findB l key).isSome = (decide (posB l key < l.length) && decide ((l.getD (posB l key) default).kk = key)) := by
  cases hf : findB l key with
  | some c =>
    obtain ⟨h1, h2, _, _⟩ := pos_had h hf
    have hk := (findB_some hf).2
    rw [decide_eq_true h1, List.getD_eq_getElem?_getD, h2]
    simp [hk]
  | none =>
    rw [findB_none] at hf
    by_cases h1 : posB l key < l.length
    · rw [decide_eq_true h1]
      have := hf l[posB l key] (List.getElem_mem h1)
      rw [List.getD_eq_getElem?_getD, List.getElem?_eq_getElem h1]
      simpa using this
    · rw [decide_eq_false h1]
      rfl
set_option maxHeartbeats 1600000 in
theorem cmpKey_calls (x : B) (key : ByteArray) (W : World) : Calls Tryz.prog 73 #[x.val, .string key] W fun e w' => e = .returned (.int .i64 (Lib.compareBytes x.kk key.data.toList)) ∧ Eff0 W w' := by
  have hcon := fun W' => Tryz.strings_Compare x.k key W'
  unfold B.kk
  generalize Lib.compareBytes x.k.data.toList key.data.toList = r at hcon ⊢
  go_enter Tryz.func73, Tryz.ntmps73
  go_wp2_with (go_at_call 74; refine (hcon _).mono ?_; rintro e w' ⟨rfl, rfl⟩)
  go_ret
  exact ⟨rfl, (Eff.refl _ _).alloc _⟩
/-- What the search knows. -/
def SeaS (w : World) (l : List B) (key : List UInt8) (lo hi : Nat) (wr : World) : Prop := Eff0 w wr ∧ (∀ t, t < lo → (l.getD t default).kk < key) ∧ (∀ t, hi ≤ t → t < l.length → ¬ (l.getD t default).kk < key)
theorem rise_getD {l : List B} (h : Rise l) {a b : Nat} (hab : a < b) (hb : b < l.length) : (l.getD a default).kk < (l.getD b default).kk := by
  have := (List.pairwise_iff_getElem.mp h) a b (by omega) hb hab
  rw [List.getD_eq_getElem?_getD, List.getD_eq_getElem?_getD, List.getElem?_eq_getElem hb, List.getElem?_eq_getElem (by omega)]
  exact this
set_option maxHeartbeats 1600000 in
set_option maxRecDepth 100000 in
theorem search_calls (w : World) (A : Option Addr) (c : Nat) (l : List B) (key : ByteArray) (hr : Kd.C kdB w A l.length l) (hm : l.length < 300) (hs : Rise l) :
    Calls Tryz.prog 72 #[.slice A l.length c, .string key, .func (.func 73) #[] #[]] w fun e w' => e = .returned (.tuple #[.int .i64 ((posB l key.data.toList : Nat) : Int), .bool (findB l key.data.toList).isSome]) ∧ Eff0 w w' := by
  have eg : ∀ args w, (callFunc 73 args).run Tryz.prog w = .ok (.enter 73 args) w := enters_of Tryz.func73 (by kernel_rfl) rfl
  have hfa := found_at hs key.data.toList
  have H := Aside0.mk (And.intro hr hs)
  obtain ⟨fb, hfb⟩ : ∃ fb, fb = (findB l key.data.toList).isSome := ⟨_, rfl⟩
  obtain ⟨i0, hi0⟩ : ∃ i0, i0 = posB l key.data.toList := ⟨_, rfl⟩
  rw [← hfb, ← hi0] at hfa
  rw [← hfb, ← hi0]
  have HF := Aside0.mk (And.intro hi0 hfa)
  clear hr hs hfa hfb hi0
  go_enter Tryz.func72, Tryz.ntmps72
  go_wp2
  go_loopg [9, 10] l.length (fun k s9 s10 wr => ∃ lo hi : Nat, s9 = .int .i64 lo ∧ s10 = .int .i64 hi ∧ lo ≤ hi ∧ hi ≤ l.length ∧ hi - lo ≤ k ∧ Aside0 (SeaS w l key.data.toList lo hi wr))
  case atStart => exact ⟨0, l.length, rfl, rfl, Nat.zero_le _, Nat.le_refl _, by omega, Aside0.mk ⟨Eff.refl _ _, fun t ht => absurd ht (Nat.not_lt_zero _), fun t h1 h2 => absurd h2 (by omega)⟩⟩
  case round =>
    obtain ⟨lo, hi, rfl, rfl, h1, h2, h3, A1⟩ := hrel
    by_cases hlt : lo < hi
    · have p1 : ((lo : Int) < (hi : Int)) = True := eq_true (by omega)
      obtain ⟨m, hmm⟩ : ∃ m : Nat, m = (lo + hi) / 2 := ⟨_, rfl⟩
      have pm : ((lo : Int) + (hi : Int)) / 2 = (m : Int) := by omega
      have b1 : m < l.length := by omega
      have b2 : lo ≤ m := by omega
      have b3 : m < hi := by omega
      have pmi : ((m : Int) < (l.length : Int)) = True := eq_true (by omega)
      obtain ⟨ad, ea, x0, x1, x2, x3⟩ := at_B (Kd.C_below H.out.1 A1.out.1.below0) m b1
      subst ea
      obtain ⟨q, hq⟩ : ∃ q, q = l.getD m default := ⟨_, rfl⟩
      rw [← hq] at x0 x1 x2 x3
      have A2 := Aside0.mk hq
      have C := fun W => cmpKey_calls q key W
      unfold B.val at C
      have hc := bytes_compare q.kk key.data.toList
      generalize Lib.compareBytes q.kk key.data.toList = r at C hc
      clear hmm hq h1
      by_cases hr0 : r < 0
      · have A3 := Aside0.mk (hc.1 hr0)
        clear hc
        go_wp2_with (go_at_fn 73; refine (C _).mono ?_; rintro e w2 ⟨rfl, e2⟩)
        go_roundg (hi - (m + 1))
        case measure => omega
        case rel =>
          refine ⟨m + 1, hi, by simp, rfl, by omega, h2, Nat.le_refl _, Aside0.mk ⟨A1.out.1.then0 (by first | exact e2 | exact ((Eff.refl _ _).alloc _).then0 e2), fun t ht => ?_, A1.out.2.2⟩⟩
          have hk := A3.out
          rw [A2.out] at hk
          rcases Nat.lt_or_ge t m with h4 | h4
          · exact List.lt_trans (rise_getD H.out.2 h4 b1) hk
          · rw [show t = m by omega]; exact hk
      · have A3 := Aside0.mk (fun h => hr0 (hc.2 h))
        clear hc
        go_wp2_with (go_at_fn 73; refine (C _).mono ?_; rintro e w2 ⟨rfl, e2⟩)
        go_roundg (m - lo)
        case measure => omega
        case rel =>
          refine ⟨lo, m, rfl, rfl, b2, by omega, Nat.le_refl _, Aside0.mk ⟨A1.out.1.then0 (by first | exact e2 | exact ((Eff.refl _ _).alloc _).then0 e2), A1.out.2.1, fun t ht htl hlt2 => ?_⟩⟩
          have hk := A3.out
          rw [A2.out] at hk
          rcases Nat.lt_or_ge m t with h4 | h4
          · exact hk (List.lt_trans (rise_getD H.out.2 h4 htl) hlt2)
          · rw [show t = m by omega] at hlt2; exact hk hlt2
    · have p1 : ((lo : Int) < (hi : Int)) = False := eq_false (by omega)
      obtain rfl : lo = hi := by omega
      have hp : posB l key.data.toList = lo := posB_of h2 A1.out.2.1 A1.out.2.2
      obtain ⟨HF1, HF2⟩ := HF.out
      obtain rfl : i0 = lo := HF1.trans hp
      clear hlt h1 h3 hp HF1 HF
      by_cases hn : i0 < l.length
      · have p2 : ((i0 : Int) < (l.length : Int)) = True := eq_true (by omega)
        obtain ⟨ad, ea, x0, x1, x2, x3⟩ := at_B (Kd.C_below H.out.1 A1.out.1.below0) i0 hn
        subst ea
        obtain ⟨q, hq⟩ : ∃ q, q = l.getD i0 default := ⟨_, rfl⟩
        rw [← hq] at x0 x1 x2 x3 HF2
        rw [decide_eq_true hn] at HF2
        have C := fun W => cmpKey_calls q key W
        unfold B.val at C
        have hc := bytes_compare0 q.kk key.data.toList
        generalize Lib.compareBytes q.kk key.data.toList = r at C hc
        obtain rfl : fb = decide (r = 0) := by
          rw [HF2, Bool.true_and]
          exact decide_eq_decide.mpr hc.symm
        clear HF2 hc hq
        go_wp2_with (go_at_fn 73; refine (C _).mono ?_; rintro e w2 ⟨rfl, e2⟩)
        go_ret2
        exact ⟨rfl, A1.out.1.then0 (by first | exact e2 | exact ((Eff.refl _ _).alloc _).then0 e2)⟩
      · have p2 : ((i0 : Int) < (l.length : Int)) = False := eq_false (by omega)
        rw [decide_eq_false hn, Bool.false_and] at HF2
        subst HF2
        go_wp2
        go_ret2
        exact ⟨rfl, A1.out.1⟩
set_option maxHeartbeats 1600000 in
theorem at_calls (w : World) (A : Option Addr) (c : Nat) (l : List B) (key : ByteArray) (hr : Kd.C kdB w A l.length l) (hm : l.length < 300) (hs : Rise l) :
    Calls Tryz.prog 24 #[.slice A l.length c, .string key] w fun e w' => e = .returned (.tuple #[.int .i64 ((posB l key.data.toList : Nat) : Int), .bool (findB l key.data.toList).isSome]) ∧ Eff0 w w' := by
  have C := search_calls w A c l key hr hm hs
  generalize (findB l key.data.toList).isSome = b at C ⊢
  generalize posB l key.data.toList = i at C ⊢
  clear hr hs
  go_enter Tryz.func24, Tryz.ntmps24
  go_wp2_with (go_at_call 72; refine C.mono ?_; rintro e w' ⟨rfl, e1⟩)
  go_ret2
  exact ⟨rfl, e1⟩
end Go.Proofs.YtcmepoakcffpaaaGreat.CP
namespace Go.Proofs.YtcmepoakcffpaaaGreat.CP
open Go Go.RowKit Go.Proofs.YtcmepoakcffpaaaGreatW.PrintWords Go.Proofs.YtcmepoakcffpaaaGreatW.PrintLast Go.Proofs.YtcmepoakcffpaaaGreatW.PrintMore Go.Proofs.YtcmepoakcffpaaaGreat.CR Go.Proofs.YtcmepoakcffpaaaGreat.L
set_option linter.unusedVariables false
set_option linter.unusedSimpArgs false
theorem lenB (x : B) : (cellsB x).length = 4 := rfl
abbrev RowB (w : World) (base g cap : Nat) (l : List B) : Prop := RowX cellsB 4 42 w base g cap l
theorem rowB_of {e base : Nat} {ok : Nat → Prop} {w : World} {g cap n : Nat} {l : List B} (h : kdB.R e w base ok (.slice (some ⟨g, 0, none⟩) n cap) l) : RowX cellsB 4 e w base g cap l := RowX.of_R (d := kdB) rfl (fun h => h) h
theorem rowB_to {w : World} {base g cap : Nat} {ok : Nat → Prop} {l : List B} (h : RowB w base g cap l) (hok : ok g) : kdB.R 42 w base ok (.slice (some ⟨g, 0, none⟩) l.length cap) l := RowX.toR (d := kdB) rfl lenB (fun _ _ _ _ => rfl) h hok
theorem oneB (l : List B) : ∀ u ∈ flatE cellsB l, u.oneCell' = true := by
  intro u hu
  obtain ⟨x, _, hx⟩ := List.mem_flatMap.1 hu
  simp only [cellsB, List.mem_cons, List.not_mem_nil, or_false] at hx
  rcases hx with rfl | rfl | rfl | rfl <;> rfl
theorem infoC0 : ∃ i0, Tryz.prog.info? 42 = some i0 ∧ i0.zero = some (.agg #[.string ⟨#[]⟩, .string ⟨#[]⟩, .int .i64 0, .int .i64 0]) ∧ i0.size = 4 ∧ i0.bytes = 48 := by
  obtain ⟨i0, hi, hz⟩ := Option.map_eq_some_iff.1 infoC
  simp only [Prod.mk.injEq] at hz
  exact ⟨i0, hi, hz.1, hz.2.1, hz.2.2⟩
set_option maxHeartbeats 1600000 in
set_option maxRecDepth 100000 in
/-- There is room: in place. -/
theorem insert_shift (w : World) (base g cap i vb : Nat) (l : List B) (c : B) (h : RowB w base g cap l) (hi : i < l.length) (hr : l.length + 1 ≤ cap) (hv : w.heap[vb]? = some (.cells (cellsB c).toArray 42 (0, 0))) (hne : vb ≠ g) :
    Calls Tryz.prog 25 #[.slice (some ⟨g, 0, none⟩) l.length cap, .int .i64 i, .slice (some ⟨vb, 0, none⟩) 1 1] w fun e w' => e = .returned (.slice (some ⟨g, 0, none⟩) (l.length + 1) cap) ∧ RowB w' base g cap (l.take i ++ c :: l.drop i) ∧ Eff (fun k => k = g) w w' := by
  obtain ⟨i0, hi0, hz0, hz1, hz2⟩ := infoC0
  have hcap : cap ≤ 9223372036854775807 := by have := h.max; simp only [maxLen] at this; omega
  obtain ⟨n, hn⟩ : ∃ n, n = l.length := ⟨_, rfl⟩
  obtain ⟨cur, rest, hh, hcur, hct⟩ := h.has
  have hov : ∀ lb cb, (callFunc 75 #[.slice (some ⟨vb, 0, none⟩) 1 1, .slice (some ⟨g, (i + 1) * 4, none⟩) lb cb]).run Tryz.prog w = .ok (.value (.bool false)) w := fun lb cb => by
    rw [run_callFunc_extern Tryz.func75 (by kernel_rfl) (by kernel_rfl) (by kernel_rfl) (e := Extern.SlicesOverlaps.overlaps #[26, 26] #[4]) (by kernel_rfl),
      Lib.run_overlaps_apart w 26 4 42 Tryz.underlying26 4 Tryz.sizeOf42 ⟨vb, 0, none⟩ ⟨g, (i + 1) * 4, none⟩ 1 1 lb cb hne 42 42 4 (cap * 4) (by simp [World.shape?, hv, cellsB]) (by simp [World.shape?, hh, hcur]) (by omega) (blk_frozen hv _) (blk_frozen hv _)]
    rfl
  have hcp1 : ∀ ty dc sc, (Builtin.copy_ #[26, 26] ty #[.slice (some ⟨g, (i + 1) * 4, none⟩) (n - i) dc, .slice (some ⟨g, i * 4, none⟩) (n + 1 - i) sc]).run Tryz.prog w.drew = .ok (goInt ((n - i : Nat) : Int)) (w.drew.setCells g ((i + 1) * 4) (flatE cellsB (l.drop i))) := fun ty dc sc => by
    have hmin : Nat.min (n + 1 - i) (n - i) = n - i := by simp only [Nat.min_def]; split <;> omega
    have hlen : (flatE cellsB (l.drop i)).length = (n - i) * 4 := by rw [flatE_length lenB, List.length_drop, ← hn]
    have := run_copyK (P := Tryz.prog) w.drew 26 26 ty 42 i0 4 Tryz.underlying26 hi0 hz1 g ((i + 1) * 4) (n - i) dc ⟨g, i * 4, none⟩ (n + 1 - i) sc (flatE cellsB (l.drop i)) (by rw [hmin, hlen])
      (fun j v hj => by
        rw [Addr.add_lit]
        refine h.cells (i * 4 + j) v ?_
        rw [flatE_parts l i, List.getElem?_append_right (by rw [flatE_length lenB, List.length_take]; omega), flatE_length lenB, List.length_take, Nat.min_eq_left (by omega), Nat.add_sub_cancel_left]
        exact hj)
      (fun j hj => h.some _ (by omega)) (fun j _ => h.free _) (oneB _)
    rw [hmin] at this
    exact this
  obtain ⟨W1, hW1⟩ : ∃ W1, W1 = w.drew.setCells g ((i + 1) * 4) (flatE cellsB (l.drop i)) := ⟨_, rfl⟩
  have e1 : Eff (fun k => k = g) w W1 := by rw [hW1]; exact (Eff.refl _ _).drew.trans (eff_setCells _ _ _ _) (fun _ h => .inl h)
  have hlen : (flatE cellsB (l.drop i)).length = (n - i) * 4 := by rw [flatE_length lenB, List.length_drop, ← hn]
  obtain ⟨cur1, h3, h4, h5⟩ := setCells_row (flatE cellsB (l.drop i)) ((i + 1) * 4) w.drew cur hh (by rw [hcur]; omega)
  rw [← hW1] at h3
  have hcp2 : ∀ ty dc, (Builtin.copy_ #[26, 26] ty #[.slice (some ⟨g, i * 4, none⟩) (n + 1 - i) dc, .slice (some ⟨vb, 0, none⟩) 1 1]).run Tryz.prog W1 = .ok (goInt ((1 : Nat) : Int)) (W1.setCells g (i * 4) (cellsB c)) := fun ty dc => by
    have hmin : Nat.min 1 (n + 1 - i) = 1 := by simp only [Nat.min_def]; split <;> omega
    have := run_copyK (P := Tryz.prog) W1 26 26 ty 42 i0 4 Tryz.underlying26 hi0 hz1 g (i * 4) (n + 1 - i) dc ⟨vb, 0, none⟩ 1 1 (cellsB c) (by rw [hmin]; rfl)
      (fun j v hj => by
        rw [Addr.add_lit, Nat.zero_add, e1.cell (blk_lt hv) (by exact hne), blk_cell hv j, List.getElem?_toArray]
        exact hj)
      (fun j hj => by rw [blk_cell h3]; simp only [cellsB, List.length_cons, List.length_nil] at hj; simp [h4, hcur]; omega) (fun j _ => blk_frozen h3 _) (by intro u hu; exact oneB [c] u (by simpa [flatE] using hu))
    rw [hmin] at this
    exact this
  have hfin : RowB (W1.setCells g (i * 4) (cellsB c)) base g cap (l.take i ++ c :: l.drop i) ∧ Eff (fun k => k = g) w (W1.setCells g (i * 4) (cellsB c)) := by
    refine ⟨?_, e1.trans (eff_setCells _ _ _ _) (fun _ h => .inl h)⟩
    rw [hW1]
    exact RowX.shift lenB (W := w.drew) ⟨h.le, h.len, h.max, cur, rest, hh, hcur, hct⟩ (by omega) hr c
  rw [← hn] at hi hr ⊢
  rw [← hW1] at hcp1
  have W0 := Aside0.mk hfin
  clear hn h hz0 hz1 hz2 hi0 hfin hW1 e1 h3 h4 h5 hlen hh hcur hct hv
  have p1 : ((i : Int) = (n : Int)) = False := eq_false (by omega)
  have p2 : ((n : Int) + 1 > (cap : Int)) = False := eq_false (by omega)
  have p3 : (0 ≤ (i : Int)) = True := eq_true (by omega)
  have p4 : ((i : Int) ≤ (n : Int)) = True := eq_true (by omega)
  have p5 : ((i : Int) ≤ (n : Int) + 1) = True := eq_true (by omega)
  have p6 : (0 ≤ (i : Int) + 1) = True := eq_true (by omega)
  have p8 : (cap = i) = False := eq_false (by omega)
  have p9 : (cap = i + 1) = False := eq_false (by omega)
  have p10 : ((i : Int) + 1).toNat = i + 1 := by omega
  have p11 : IntKind.i64.wrap ((i : Int) + 1) = (i : Int) + 1 := by rw [IntKind.wrap_i64]; omega
  have p12 : ((i : Int) + 1 ≤ (n : Int) + 1) = True := eq_true (by omega)
  have mixed : Tryz.prog.follows .mixedOrders = true := by kernel_rfl
  go_enter Tryz.func25, Tryz.ntmps25
  go_wp2
  go_region_law_o (refine step_bi rfl _ _ 26 26 rfl _ _ (by simp [Act.eval, Act.put]) (by simp [Act.eval, Act.put]) (hcp1 _ _ _) ?_)
  go_wp2_with (at_builtin; refine wpList_bi rfl _ _ 26 26 rfl _ _ rfl rfl (hcp2 _ _) ?_)
  go_ret
  exact ⟨rfl, W0.out⟩
end Go.Proofs.YtcmepoakcffpaaaGreat.CP
namespace Go.Proofs.YtcmepoakcffpaaaGreat.CP
open Go Go.RowKit Go.Proofs.YtcmepoakcffpaaaGreatW.PrintWords Go.Proofs.YtcmepoakcffpaaaGreatW.PrintLast Go.Proofs.YtcmepoakcffpaaaGreatW.PrintMore Go.Proofs.YtcmepoakcffpaaaGreat.CR Go.Proofs.YtcmepoakcffpaaaGreat.L
set_option linter.unusedVariables false
set_option linter.unusedSimpArgs false
theorem reads1 {w : World} {vb : Nat} {c : B} (hv : w.heap[vb]? = some (.cells (cellsB c).toArray 42 (0, 0))) : Kd.C kdB w (some ⟨vb, 0, none⟩) 1 [c] := by
  refine ⟨rfl, by omega, fun _ => ⟨_, rfl, fun j p hj => ?_⟩⟩
  have h0 : j = 0 := by
    rcases j with _ | j
    · rfl
    · simp at hj
  subst h0
  simp only [List.getElem?_cons_zero, Option.some.injEq] at hj
  subst hj
  refine ⟨cellsB c, rfl, rfl, fun i u hu => ?_⟩
  rw [Addr.add_lit, blk_cell hv, List.getElem?_toArray]
  simpa using hu
set_option maxHeartbeats 1600000 in
set_option maxRecDepth 100000 in
/-- At the end: an append. -/
theorem insert_end (w : World) (base : Nat) (A : Option Addr) (cap vb : Nat) (l : List B) (c : B) (h : kdB.R 42 w base (fun _ => True) (.slice A l.length cap) l) (hb : base ≤ w.heap.size) (hm : l.length < 900000) (hv : w.heap[vb]? = some (.cells (cellsB c).toArray 42 (0, 0))) :
    Calls Tryz.prog 25 #[.slice A l.length cap, .int .i64 l.length, .slice (some ⟨vb, 0, none⟩) 1 1] w fun e w' => ∃ v', e = .returned v' ∧ kdB.R 42 w' base (fun _ => True) v' (l ++ [c]) ∧ Eff (fun k => (Value.slice A l.length cap).ownBlock = some k) w w' := by
  have H := Aside0.mk h
  have HV := Aside0.mk (reads1 hv)
  clear h hv
  by_cases hc : cap = l.length
  · have pc : (cap = l.length) = True := eq_true hc
    clear hc
    go_enter Tryz.func25, Tryz.ntmps25
    go_wp2_with (first | (at_builtin; refine Kd.R_append_rows kdB (w0 := w) base rfl (.tmp 23) (.tmp 24) 26 42 (.agg #[.string ⟨#[]⟩, .string ⟨#[]⟩, .int .i64 0, .int .i64 0]) 48 rfl Tryz.underlying26 infoC rfl (by decide) (by omega) (.slice A l.length cap) l [c] (some ⟨vb, 0, none⟩) 1 1 (fun _ => True) (fun _ => False) rfl rfl H.out HV.out (fun _ _ h => h) (fun _ h => h.elim) (fun _ _ => trivial) (Below.refl _ _) hb (by omega) ?_; intro v1 w1 ho hb1 hg hat; have A1 := Aside0.mk (And.intro ho hg); clear ho hb1 hg hat))
    go_ret
    exact ⟨_, rfl, A1.out.1, Eff.of_grown A1.out.2 (fun i hi => hi)⟩
  · have pc : (cap = l.length) = False := eq_false hc
    clear hc
    go_enter Tryz.func25, Tryz.ntmps25
    go_wp2_with (first | (at_builtin; refine Kd.R_append_rows kdB (w0 := w) base rfl (.tmp 23) (.tmp 24) 26 42 (.agg #[.string ⟨#[]⟩, .string ⟨#[]⟩, .int .i64 0, .int .i64 0]) 48 rfl Tryz.underlying26 infoC rfl (by decide) (by omega) (.slice A l.length cap) l [c] (some ⟨vb, 0, none⟩) 1 1 (fun _ => True) (fun _ => False) rfl rfl H.out HV.out (fun _ _ h => h) (fun _ h => h.elim) (fun _ _ => trivial) (Below.refl _ _) hb (by omega) ?_; intro v1 w1 ho hb1 hg hat; have A1 := Aside0.mk (And.intro ho hg); clear ho hb1 hg hat))
    go_ret
    exact ⟨_, rfl, A1.out.1, Eff.of_grown A1.out.2 (fun i hi => hi)⟩
set_option maxHeartbeats 1600000 in
set_option maxRecDepth 100000 in
/-- There is no room: a new row. -/
theorem insert_grow (w : World) (base g cap i vb : Nat) (l : List B) (c : B) (h : RowB w base g cap l) (hb : base ≤ w.heap.size) (hi : i < l.length) (hr : cap < l.length + 1) (hm : l.length < 900000) (hv : w.heap[vb]? = some (.cells (cellsB c).toArray 42 (0, 0))) :
    Calls Tryz.prog 25 #[.slice (some ⟨g, 0, none⟩) l.length cap, .int .i64 i, .slice (some ⟨vb, 0, none⟩) 1 1] w fun e w' => ∃ g' cap', e = .returned (.slice (some ⟨g', 0, none⟩) (l.length + 1) cap') ∧ RowB w' base g' cap' (l.take i ++ c :: l.drop i) ∧ Eff0 w w' := by
  obtain ⟨i0, hi0, hz0, hz1, hz2⟩ := infoC0
  obtain ⟨n, hn⟩ : ∃ n, n = l.length := ⟨_, rfl⟩
  have hcn : n = cap := by have := h.len; omega
  subst hcn
  obtain ⟨q, hq⟩ : ∃ q, i + q = n + 1 := ⟨n + 1 - i, by omega⟩
  have lT : (flatE cellsB (l.take i)).length = i * 4 := by rw [flatE_length lenB, List.length_take, Nat.min_eq_left (by omega)]
  have lD : (flatE cellsB (l.drop i)).length = (n - i) * 4 := by rw [flatE_length lenB, List.length_drop, ← hn]
  have hold : (Builtin.firstCells i0.size i (.slice (some ⟨g, 0, none⟩) i n)).run Tryz.prog w.drew = .ok (flatE cellsB (l.take i)).toArray w.drew := by
    refine run_firstCells_some (P := Tryz.prog) w.drew i0.size i ⟨g, 0, none⟩ i n _ (by rw [lT, hz1]) (fun j u hj => ?_)
    rw [Addr.add_lit, Nat.zero_add]
    refine h.cells j u ?_
    rw [flatE_parts l i, List.getElem?_append_left (List.getElem?_eq_some_iff.1 hj).1, hj]
  obtain ⟨cap', hcap⟩ : ∃ cap', cap' = grownCap w (i + q) n 42 := ⟨_, rfl⟩
  have hc1 : i + q ≤ cap' := by rw [hcap]; exact grownCap_ge w (i + q) n _
  have hc2 : cap' ≤ maxLen := by rw [hcap]; exact grownCap_le_maxLen w (i + q) n _ (by simp only [maxLen]; omega)
  have hrun : ∀ ty, (Builtin.append_ #[26, 3] ty #[.slice (some ⟨g, 0, none⟩) i n, .int .i64 q]).run Tryz.prog w = _ := fun ty => Lib.run_append_grow_zeros w 26 3 ty 42 i0 (.agg #[.string ⟨#[]⟩, .string ⟨#[]⟩, .int .i64 0, .int .i64 0]) .i64 .i64 Tryz.underlying26 Tryz.underlying3 hi0 hz0 (some ⟨g, 0, none⟩) i n _ hold q (by omega) (by rw [hz1]; decide) (by omega) (by omega) (by rw [hz2]; omega) (growslice_fits (bytes := i0.bytes) (by omega) (by rw [hz2]; omega))
  rw [← hcap] at hrun
  have lZ : (Builtin.zeroCells (Value.agg #[.string ⟨#[]⟩, .string ⟨#[]⟩, .int .i64 0, .int .i64 0]).cells q).size = q * 4 := by rw [size_zeroCells]; rfl
  have lY : (Builtin.zeroCells (Value.agg #[.string ⟨#[]⟩, .string ⟨#[]⟩, .int .i64 0, .int .i64 0]).cells (cap' - (i + q))).size = (cap' - (i + q)) * 4 := by rw [size_zeroCells]; rfl
  obtain ⟨cur, hcur⟩ : ∃ cur, cur = (flatE cellsB (l.take i)).toArray ++ Builtin.zeroCells (Value.agg #[.string ⟨#[]⟩, .string ⟨#[]⟩, .int .i64 0, .int .i64 0]).cells q ++ Builtin.zeroCells (Value.agg #[.string ⟨#[]⟩, .string ⟨#[]⟩, .int .i64 0, .int .i64 0]).cells (cap' - (i + q)) := ⟨_, rfl⟩
  rw [← hcur] at hrun
  have hcs : cur.size = cap' * 4 := by rw [hcur, Array.size_append, Array.size_append, lZ, lY, List.size_toArray, lT]; omega
  have hct : ∃ rest, cur.toList = flatE cellsB (l.take i) ++ rest := ⟨_, by rw [hcur, Array.toList_append, Array.toList_append, List.append_assoc]⟩
  clear hcur lZ lY
  obtain ⟨rest, hct⟩ := hct
  have e1 : Eff0 w (w.drew.alloc (.cells cur 42)) := (Eff.refl _ _).drew.alloc _
  have hh : (w.drew.alloc (.cells cur 42)).heap[w.heap.size]? = some (.cells cur 42 (0, 0)) := heap_alloc_new w.drew _
  have hgl : g < w.heap.size := by obtain ⟨cur0, _, hh0, _⟩ := h.has; exact blk_lt hh0
  obtain ⟨G, hG⟩ : ∃ G, G = w.heap.size := ⟨_, rfl⟩
  obtain ⟨W1, hW1⟩ : ∃ W1, W1 = w.drew.alloc (.cells cur 42) := ⟨_, rfl⟩
  rw [← hG, ← hW1] at hrun
  rw [← hG, ← hW1] at hh
  rw [← hW1] at e1
  have hcp1 : ∀ ty dc, (Builtin.copy_ #[26, 26] ty #[.slice (some ⟨G, i * 4, none⟩) (n + 1 - i) dc, .slice (some ⟨vb, 0, none⟩) 1 1]).run Tryz.prog W1 = .ok (goInt ((1 : Nat) : Int)) (W1.setCells G (i * 4) (cellsB c)) := fun ty dc => by
    rw [show n + 1 - i = q by omega]
    have hmin : Nat.min 1 q = 1 := by simp only [Nat.min_def]; split <;> omega
    have := run_copyK (P := Tryz.prog) W1 26 26 ty 42 i0 4 Tryz.underlying26 hi0 hz1 G (i * 4) q dc ⟨vb, 0, none⟩ 1 1 (cellsB c) (by rw [hmin]; rfl)
      (fun j v hj => by
        rw [Addr.add_lit, Nat.zero_add, e1.cell (blk_lt hv) id, blk_cell hv j, List.getElem?_toArray]
        exact hj)
      (fun j hj => by rw [blk_cell hh]; simp only [cellsB, List.length_cons, List.length_nil] at hj; simp [hcs]; omega) (fun j _ => blk_frozen hh _) (by intro u hu; exact oneB [c] u (by simpa [flatE] using hu))
    rw [hmin] at this
    exact this
  obtain ⟨W2, hW2⟩ : ∃ W2, W2 = W1.setCells G (i * 4) (cellsB c) := ⟨_, rfl⟩
  rw [← hW2] at hcp1
  have e2 : Eff (fun k => k = G) w W2 := by rw [hW2]; exact (e1.any _).trans (eff_setCells _ _ _ _) (fun _ h => .inl h)
  obtain ⟨cur2, g3, g4, g5⟩ := setCells_row (cellsB c) (i * 4) W1 cur hh (by rw [hcs]; simp only [cellsB, List.length_cons, List.length_nil]; omega)
  rw [← hW2] at g3
  have hcp2 : ∀ ty dc sc, (Builtin.copy_ #[26, 26] ty #[.slice (some ⟨G, (i + 1) * 4, none⟩) (n - i) dc, .slice (some ⟨g, i * 4, none⟩) (n - i) sc]).run Tryz.prog W2.drew = .ok (goInt ((n - i : Nat) : Int)) (W2.drew.setCells G ((i + 1) * 4) (flatE cellsB (l.drop i))) := fun ty dc sc => by
    have hmin : Nat.min (n - i) (n - i) = n - i := Nat.min_self _
    have := run_copyK (P := Tryz.prog) W2.drew 26 26 ty 42 i0 4 Tryz.underlying26 hi0 hz1 G ((i + 1) * 4) (n - i) dc ⟨g, i * 4, none⟩ (n - i) sc (flatE cellsB (l.drop i)) (by rw [hmin, lD])
      (fun j v hj => by
        rw [Addr.add_lit]
        show W2.cell? _ = _
        rw [e2.cell hgl (by omega)]
        refine h.cells (i * 4 + j) v ?_
        rw [flatE_parts l i, List.getElem?_append_right (by omega), lT, Nat.add_sub_cancel_left]
        exact hj)
      (fun j hj => by show (W2.cell? _).isSome = true; rw [blk_cell g3]; simp [g4, hcs]; omega) (fun j _ => blk_frozen (w := W2) g3 _) (oneB _)
    rw [hmin] at this
    exact this
  have hfin : RowB (W2.drew.setCells G ((i + 1) * 4) (flatE cellsB (l.drop i))) base G cap' (l.take i ++ c :: l.drop i) ∧ Eff0 w (W2.drew.setCells G ((i + 1) * 4) (flatE cellsB (l.drop i))) := by
    refine ⟨?_, ⟨?_, ?_, ?_, ?_, ?_⟩⟩
    · rw [hW2, drew_setCells]
      exact rowX_grow (W := W1.drew) lenB (by omega) hh hcs hct (by omega) (by omega) hc2 c
    all_goals
      have e3 : Eff (fun k => k = G) w (W2.drew.setCells G ((i + 1) * 4) (flatE cellsB (l.drop i))) := e2.drew.trans (eff_setCells _ _ _ _) (fun _ h => .inl h)
    · exact e3.os
    · exact e3.tape
    · exact e3.output
    · exact e3.size
    · exact fun k hk _ => e3.block k hk (by omega)
  have W0 := Aside0.mk hfin
  rw [← hn] at hi hm ⊢
  clear h hfin hz0 hz1 hz2 hi0 hW1 hW2 e1 e2 g3 g4 g5 hh hcs hct hv hold lT lD hcap hn hr hG hgl
  have p1 : ((i : Int) = (n : Int)) = False := eq_false (by omega)
  have p2 : ((n : Int) + 1 > (n : Int)) = True := eq_true (by omega)
  have p3 : (0 ≤ (i : Int)) = True := eq_true (by omega)
  have p4 : ((i : Int) ≤ (n : Int)) = True := eq_true (by omega)
  have p5 : (n : Int) + 1 - (i : Int) = (q : Int) := by omega
  have p6 : (0 ≤ (i : Int) + 1) = True := eq_true (by omega)
  have p8 : (n = i) = False := eq_false (by omega)
  have p9 : (cap' = i + 1) = False := eq_false (by omega)
  have p13 : (cap' = i) = False := eq_false (by omega)
  have p10 : ((i : Int) + 1).toNat = i + 1 := by omega
  have p11 : IntKind.i64.wrap ((i : Int) + 1) = (i : Int) + 1 := by rw [IntKind.wrap_i64]; omega
  have p12 : ((i : Int) + 1 ≤ (n : Int) + 1) = True := eq_true (by omega)
  have p14 : ((i : Int) ≤ (n : Int) + 1) = True := eq_true (by omega)
  rw [hq] at hrun
  clear hq
  have mixed : Tryz.prog.follows .mixedOrders = true := by kernel_rfl
  go_enter Tryz.func25, Tryz.ntmps25
  go_wp2_with (first
    | (at_builtin; refine Lib.wpList_append_run _ rfl _ _ _ _ rfl _ _ rfl rfl _ _ (hrun _) ?_)
    | (at_builtin; refine wpList_bi rfl _ _ 26 26 rfl _ _ rfl rfl (hcp1 _ _) ?_))
  go_region_law_o (refine step_bi rfl _ _ 26 26 rfl _ _ (by simp [Act.eval, Act.put]) (by simp [Act.eval, Act.put]) (hcp2 _ _ _) ?_)
  go_wp2
  go_ret
  exact ⟨G, cap', rfl, W0.out⟩
end Go.Proofs.YtcmepoakcffpaaaGreat.CP
namespace Go.Proofs.YtcmepoakcffpaaaGreat.CP
open Go Go.RowKit Go.Proofs.YtcmepoakcffpaaaGreatW.PrintWords Go.Proofs.YtcmepoakcffpaaaGreatW.PrintLast Go.Proofs.YtcmepoakcffpaaaGreatW.PrintMore Go.Proofs.YtcmepoakcffpaaaGreat.CR Go.Proofs.YtcmepoakcffpaaaGreat.L
set_option linter.unusedVariables false
set_option linter.unusedSimpArgs false
abbrev zB : B := ⟨⟨#[]⟩, ⟨#[]⟩, 0, 0⟩
theorem zeroB : (Builtin.zeroCells (Value.agg #[.string ⟨#[]⟩, .string ⟨#[]⟩, .int .i64 0, .int .i64 0]).cells 1).toList = cellsB zB := by
  simp [Builtin.zeroCells, Value.cells, Array.range, cellsB]
theorem infoSz : (Tryz.prog.info? 42).map (·.size) = some kdB.sz := by
  obtain ⟨i0, hi0, hz0, hz1, hz2⟩ := infoC0
  rw [hi0]
  exact congrArg some hz1
set_option maxHeartbeats 1600000 in
set_option maxRecDepth 100000 in
theorem delete_calls (w : World) (base g cap i m : Nat) (l : List B) (h : kdB.R 42 w base (fun _ => True) (.slice (some ⟨g, 0, none⟩) (m + 1) cap) l) (hb : base ≤ w.heap.size) (hi : i < m + 1) (hm : m < 900000) :
    Calls Tryz.prog 30 #[.slice (some ⟨g, 0, none⟩) (m + 1) cap, .int .i64 i, .int .i64 ((i : Int) + 1)] w fun e w' => e = .returned (.slice (some ⟨g, 0, none⟩) m cap) ∧ kdB.R 42 w' base (fun _ => True) (.slice (some ⟨g, 0, none⟩) m cap) (l.eraseIdx i) ∧ Eff (fun k => k = g) w w' := by
  obtain ⟨hl, hlc, _⟩ := Kd.R_reads' h
  have CL : ∀ w1, kdB.R 42 w1 base (fun _ => True) (.slice (some ⟨g, 0, none⟩) (m + 1 - 1) cap) (l.eraseIdx i) → w.drew.grownBy w1 (some g) → (∀ ty c2, (Builtin.clear_ #[26] ty #[.slice (some ⟨g, m * 4, none⟩) 1 c2]).run Tryz.prog w1 = .ok (.tuple #[]) (w1.setCells g (m * 4) (cellsB zB))) ∧
      Aside0 (kdB.R 42 (w1.setCells g (m * 4) (cellsB zB)) base (fun _ => True) (.slice (some ⟨g, 0, none⟩) m cap) (l.eraseIdx i) ∧ Eff (fun k => k = g) w (w1.setCells g (m * 4) (cellsB zB))) := by
    intro w1 h1 hg
    rw [show m + 1 - 1 = m by omega] at h1
    have hr := rowB_of h1
    have hle : (l.eraseIdx i).length = m := by rw [List.length_eraseIdx_of_lt (by omega)]; omega
    refine ⟨fun ty c2 => by
      have := run_clearK (P := Tryz.prog) (n := 1) w1 26 42 ty _ Tryz.underlying26 Tryz.zeroValue42 (by rw [zeroB]; exact fun u hu => oneB [zB] u (by simpa [flatE] using hu)) g (m * 4) c2 (by decide) (fun j hj => by rw [zeroB, lenB] at hj; exact hr.some _ (by omega)) (fun j _ => hr.free _)
      rwa [zeroB] at this, Aside0.mk ⟨?_, ?_⟩⟩
    · have h2 := rowB_to (ok := fun _ => True) (RowX.behind lenB hr (o := m * 4) (vs := (cellsB zB)) (by omega) (by rw [lenB]; omega)) trivial
      rwa [hle] at h2
    · exact ((Eff.refl _ w).drew.trans (Eff.of_grown hg (S := fun k => k = g) (fun k hk => by injection hk with hk; exact hk.symm)) (fun _ h => .inl h)).trans (eff_setCells _ _ _ _) (fun _ h => .inl h)
  have H := Aside0.mk (Kd.R_drew h)
  clear h
  have p1 : ((i : Int) = (i : Int) + 1) = False := eq_false (by omega)
  have p2 : ((i : Int) ≤ (m : Int) + 1) = True := eq_true (by omega)
  have p3 : (0 ≤ (i : Int)) = True := eq_true (by omega)
  have p4 : ((i : Int) ≤ (i : Int) + 1) = True := eq_true (by omega)
  have p5 : ((i : Int) + 1 ≤ (m : Int) + 1) = True := eq_true (by omega)
  have p6 : (0 ≤ (i : Int) + 1) = True := eq_true (by omega)
  have p7 : ((m : Int) + 1 ≤ (cap : Int)) = True := eq_true (by omega)
  have p8 : ((i : Int) ≤ (cap : Int)) = True := eq_true (by omega)
  have p10 : ((i : Int) + 1).toNat = i + 1 := by omega
  have p12 : (cap = m) = False := eq_false (by omega)
  have p13 : (cap = i) = False := eq_false (by omega)
  have mixed : Tryz.prog.follows .mixedOrders = true := by kernel_rfl
  clear hl hlc
  by_cases hc : cap = i + 1
  · have pc : (cap = i + 1) = True := eq_true hc
    have HC := Aside0.mk hc
    clear hc
    go_enter Tryz.func30, Tryz.ntmps30
    go_wp2
    go_region_law_o (refine Kd.R_delete_step kdB (w0 := w.drew) base rfl (.tmp 22) (.tmp 25) 26 42 rfl Tryz.underlying26 infoSz (g := g) (n := m + 1) (c := cap) (k := i) (by simp [Act.eval, Act.put]) (by simp [Act.eval, Act.put]; exact ⟨rfl, rfl, rfl⟩) (by simp [HC.out]) (by omega) H.out hi (Below.refl _ _) hb ?_; intro w1 h1 _ hg; obtain ⟨hcl, A1⟩ := CL w1 h1 hg; clear CL h1 hg)
    go_wp2
    go_ret
    exact ⟨rfl, A1.out⟩
  · have pc : (cap = i + 1) = False := eq_false hc
    have HC := Aside0.mk hc
    clear hc
    go_enter Tryz.func30, Tryz.ntmps30
    go_wp2
    go_region_law_o (refine Kd.R_delete_step kdB (w0 := w.drew) base rfl (.tmp 22) (.tmp 25) 26 42 rfl Tryz.underlying26 infoSz (g := g) (n := m + 1) (c := cap) (k := i) (by simp [Act.eval, Act.put]) (by simp [Act.eval, Act.put]; exact ⟨rfl, rfl, rfl⟩) (by rw [if_neg HC.out, Option.map_some, Addr.add_lit, Nat.zero_add]; rfl) (by omega) H.out hi (Below.refl _ _) hb ?_; intro w1 h1 _ hg; obtain ⟨hcl, A1⟩ := CL w1 h1 hg; clear CL h1 hg)
    go_wp2
    go_ret
    exact ⟨rfl, A1.out⟩
end Go.Proofs.YtcmepoakcffpaaaGreat.CP
namespace Go.Proofs.YtcmepoakcffpaaaGreat.CP
open Go Go.RowKit Go.Proofs.YtcmepoakcffpaaaGreatW.PrintWords Go.Proofs.YtcmepoakcffpaaaGreatW.PrintLast Go.Proofs.YtcmepoakcffpaaaGreatW.PrintMore Go.Proofs.YtcmepoakcffpaaaGreat.CR Go.Proofs.YtcmepoakcffpaaaGreat.L
set_option linter.unusedVariables false
set_option linter.unusedSimpArgs false
abbrev Pg.val (p : Pg) : Value := .agg #[.int .i64 p.kind, .int .i64 p.depth, .int .i64 p.next, .string p.body]
set_option maxHeartbeats 1600000 in
set_option maxRecDepth 100000 in
theorem cells_calls (w : World) (p : Pg) : Calls Tryz.prog 22 #[p.val] w fun e w' => ∃ v, e = .returned (.tuple #[v, .bool (cellsP p).2]) ∧ kdB.R 42 w' w.heap.size (fun _ => True) v (cellsP p).1 ∧ Below w.heap.size w w' := by
  have CG := fun W => get_calls W p.body
  unfold cellsP
  by_cases h : p.kind = 3 ∨ p.kind = 4
  · rw [if_pos h]
    have CG2 : ∀ W, Eff0 w W → Calls Tryz.prog 70 #[.string p.body] W fun e w' => ∃ v, e = .returned (.tuple #[v, .bool (getF p.body).2]) ∧ Aside0 (kdB.R 42 w' w.heap.size (fun _ => True) v (getF p.body).1 ∧ Below w.heap.size w w') := fun W e0 => (CG W).mono fun e w' ⟨v, he, hR, hB⟩ => ⟨v, he, Aside0.mk ⟨Kd.R_lower hR e0.size, (e0.then0 (Eff.of_below hB)).below0⟩⟩
    clear CG
    generalize getF p.body = r at CG2 ⊢
    obtain ⟨r1, r2⟩ := r
    dsimp only at CG2 ⊢
    obtain ⟨k, dp, nx, body⟩ := p
    dsimp only at h CG2 ⊢
    rcases h with rfl | rfl
    all_goals
      go_enter Tryz.func22, Tryz.ntmps22
      go_wp2_with (go_at_call 70; refine (CG2 _ ((Eff.refl _ _).alloc _)).mono ?_; rintro e w1 ⟨v, rfl, A1⟩)
      go_ret2
      exact ⟨v, rfl, A1.out⟩
  · rw [if_neg h]
    clear CG
    obtain ⟨k, dp, nx, body⟩ := p
    have h3 : (k = 3) = False := eq_false (fun e => h (.inl e))
    have h4 : (k = 4) = False := eq_false (fun e => h (.inr e))
    have h5 : (k != 3) = true := bne_iff_ne.mpr (fun e => h (.inl e))
    have h6 : (k != 4) = true := bne_iff_ne.mpr (fun e => h (.inr e))
    clear h
    go_enter Tryz.func22, Tryz.ntmps22
    go_wp2
    go_ret2
    exact ⟨_, rfl, Kd.R_nil _ _ _ _ _, below_alloc (Below.refl _ _) _⟩

/-- What a page's cells are, for the walks: the row, and the reading's end. -/
def CellsS (w w' : World) (v : Value) (l : List B) : Prop := kdB.R 42 w' w.heap.size (fun _ => True) v l ∧ Below w.heap.size w w'
theorem CellsS.R {w w' : World} {v : Value} {l : List B} (h : CellsS w w' v l) : kdB.R 42 w' w.heap.size (fun _ => True) v l := h.1
theorem cells_from (w W : World) (e0 : Eff0 w W) (p : Pg) : Calls Tryz.prog 22 #[p.val] W fun e w' => ∃ A c, e = .returned (.tuple #[.slice A (cellsP p).1.length c, .bool (cellsP p).2]) ∧ Aside0 (kdB.R 42 w' W.heap.size (fun _ => True) (.slice A (cellsP p).1.length c) (cellsP p).1 ∧ Eff0 W w') := by
  refine (cells_calls W p).mono ?_
  rintro e w' ⟨v, he, hR, hB⟩
  obtain ⟨A, c, rfl⟩ := Kd.R_slice hR
  exact ⟨A, c, he, Aside0.mk ⟨hR, Eff.of_below hB⟩⟩
set_option maxHeartbeats 1600000 in
set_option maxRecDepth 100000 in
theorem bcells_calls (w : World) (p : Pg) : Calls Tryz.prog 14 #[p.val] w fun e w' => ∃ v, e = .returned v ∧ kdB.R 42 w' w.heap.size (fun _ => True) v (cellsP p).1 ∧ Below w.heap.size w w' := by
  have C := fun W e0 => cells_from w W e0 p
  generalize (cellsP p).1 = l at C ⊢
  generalize (cellsP p).2 = b at C ⊢
  unfold Pg.val at C
  go_enter Tryz.func14, Tryz.ntmps14
  go_wp2_with (go_at_call 22; refine (C _ ((Eff.refl _ _).alloc _)).mono ?_; rintro e w1 ⟨A, c, rfl, A1⟩)
  go_ret
  exact ⟨_, rfl, Kd.R_lower A1.out.1 (by simp), ((((Eff.refl _ _).alloc _).then0 A1.out.2)).below0⟩
/-- Two pages of the call's own: the one that came in, and the answer's. -/
structure TwoP (w : World) (p q : Pg) (w1 : World) : Prop where
  a : w1.heap[w.heap.size]? = some (.cells #[.int .i64 p.kind, .int .i64 p.depth, .int .i64 p.next, .string p.body] 23 (0, 0))
  b : w1.heap[w.heap.size + 1]? = some (.cells #[.int .i64 q.kind, .int .i64 q.depth, .int .i64 q.next, .string q.body] 23 (0, 0))
  e : Eff0 w w1
theorem TwoP.made (w : World) (p : Pg) {w1 : World} (e1 : Eff0 ((w.alloc (.cells #[.int .i64 p.kind, .int .i64 p.depth, .int .i64 p.next, .string p.body] 23 (0, 0))).alloc (.cells #[.int .i64 0, .int .i64 0, .int .i64 0, .string ⟨#[]⟩] 23 (0, 0))) w1) : TwoP w p Pg.none w1 := by
  have h1 := heap_alloc2_old w (.cells #[.int .i64 p.kind, .int .i64 p.depth, .int .i64 p.next, .string p.body] 23 (0, 0)) (.cells #[.int .i64 0, .int .i64 0, .int .i64 0, .string ⟨#[]⟩] 23 (0, 0))
  have h2 := heap_alloc2_new w (.cells #[.int .i64 p.kind, .int .i64 p.depth, .int .i64 p.next, .string p.body] 23 (0, 0)) (.cells #[.int .i64 0, .int .i64 0, .int .i64 0, .string ⟨#[]⟩] 23 (0, 0))
  refine ⟨?_, ?_, ((Eff.refl _ _).alloc _ |>.alloc _).then0 e1⟩
  · rw [e1.block _ (blk_lt h1) id]; exact h1
  · rw [e1.block _ (blk_lt h2) id]; exact h2
theorem four_set {w : World} {b t : Nat} {x0 x1 x2 x3 : Value} (h : w.heap[b]? = some (.cells #[x0, x1, x2, x3] t (0, 0))) (y0 y1 y2 y3 : Value) : ((((w.setCell ⟨b, 0, none⟩ y0).setCell ⟨b, 1, none⟩ y1).setCell ⟨b, 2, none⟩ y2).setCell ⟨b, 3, none⟩ y3).heap[b]? = some (.cells #[y0, y1, y2, y3] t (0, 0)) :=
  blk_set (blk_set (blk_set (blk_set h 0 y0) 1 y1) 2 y2) 3 y3
theorem far_set {w : World} {b b' o : Nat} {x : Option Obj} (h : w.heap[b]? = x) (hne : b' ≠ b) (v : Value) : (w.setCell ⟨b', o, none⟩ v).heap[b]? = x := (Below.heap_setCell w ⟨b', o, none⟩ v b (fun e => hne e.symm)).trans h
theorem eff_four {S : Nat → Prop} {w w1 : World} (h : Eff S w w1) {b : Nat} (hb : w.heap.size ≤ b) (y0 y1 y2 y3 : Value) : Eff S w ((((w1.setCell ⟨b, 0, none⟩ y0).setCell ⟨b, 1, none⟩ y1).setCell ⟨b, 2, none⟩ y2).setCell ⟨b, 3, none⟩ y3) :=
  (((h.set _ _ (.inr hb)).set _ _ (.inr hb)).set _ _ (.inr hb)).set _ _ (.inr hb)
set_option maxHeartbeats 1600000 in
set_option maxRecDepth 100000 in
theorem with_calls (w : World) (p : Pg) (A : Option Addr) (c : Nat) (l : List B) (hC : Kd.C kdB w A l.length l) :
    Calls Tryz.prog 26 #[p.val, .slice A l.length c] w fun e w' => e = .returned (.tuple #[(withP p l).1.val, .int .i64 (withP p l).2]) ∧ Eff0 w w' := by
  have hw : withP p l = if (putF (l.map B.cl)).2 then ({ p with body := (putF (l.map B.cl)).1 }, 0) else (Pg.none, 13) := rfl
  have CP : Calls Tryz.prog 77 #[.slice A l.length c] ((w.alloc (.cells #[.int .i64 p.kind, .int .i64 p.depth, .int .i64 p.next, .string p.body] 23 (0, 0))).alloc (.cells #[.int .i64 0, .int .i64 0, .int .i64 0, .string ⟨#[]⟩] 23 (0, 0))) fun e w' => e = .returned (.tuple #[.string (putF (l.map B.cl)).1, .bool (putF (l.map B.cl)).2]) ∧ Aside0 (TwoP w p Pg.none w') := by
    refine (put_many _ A c l (Kd.C_alloc (Kd.C_alloc hC _) _)).mono ?_
    rintro e w' ⟨he, e1⟩
    exact ⟨he, Aside0.mk (TwoP.made w p e1)⟩
  clear hC
  generalize putF (l.map B.cl) = r at CP hw
  obtain ⟨r1, r2⟩ := r
  obtain ⟨k, d, n, s⟩ := p
  dsimp only at CP hw
  cases r2 with
  | true =>
    rw [if_pos rfl] at hw
    rw [hw]
    clear hw
    go_enter Tryz.func26, Tryz.ntmps26
    go_wp2_with (go_at_call 77; refine CP.mono ?_; rintro e w1 ⟨rfl, T1⟩; have a0 := blk_cell T1.out.a 0; have a1 := blk_cell T1.out.a 1; have a2 := blk_cell T1.out.a 2; have a3 := blk_cell T1.out.a 3; have b0 := blk_cell T1.out.b 0; have b1 := blk_cell T1.out.b 1; have b2 := blk_cell T1.out.b 2; have b3 := blk_cell T1.out.b 3; have fa : ∀ j, w1.frozen? ⟨w.heap.size, j, none⟩ = false := fun j => blk_frozen T1.out.a j; have fb : ∀ j, w1.frozen? ⟨w.heap.size + 1, j, none⟩ = false := fun j => blk_frozen T1.out.b j; clear CP)
    refine bodyPost_ret (results_ct rfl _ _ (w.heap.size + 1) 23 #[.int .i64 k, .int .i64 d, .int .i64 n, .string r1] (0, 0) _ rfl (four_set (far_set T1.out.b (by omega) _) _ _ _ _) Tryz.underlying23 rfl (by kernel_rfl)) rfl ?_
    exact ⟨rfl, eff_four (T1.out.e.set _ _ (.inr (Nat.le_refl _))) (by omega) _ _ _ _⟩
  | false =>
    rw [if_neg (by simp)] at hw
    rw [hw]
    clear hw
    go_enter Tryz.func26, Tryz.ntmps26
    go_wp2_with (go_at_call 77; refine CP.mono ?_; rintro e w1 ⟨rfl, T1⟩; have a0 := blk_cell T1.out.a 0; have a1 := blk_cell T1.out.a 1; have a2 := blk_cell T1.out.a 2; have a3 := blk_cell T1.out.a 3; have b0 := blk_cell T1.out.b 0; have b1 := blk_cell T1.out.b 1; have b2 := blk_cell T1.out.b 2; have b3 := blk_cell T1.out.b 3; have fa : ∀ j, w1.frozen? ⟨w.heap.size, j, none⟩ = false := fun j => blk_frozen T1.out.a j; have fb : ∀ j, w1.frozen? ⟨w.heap.size + 1, j, none⟩ = false := fun j => blk_frozen T1.out.b j; clear CP)
    refine bodyPost_ret (results_ct rfl _ _ (w.heap.size + 1) 23 #[.int .i64 0, .int .i64 0, .int .i64 0, .string ⟨#[]⟩] (0, 0) _ rfl (four_set T1.out.b _ _ _ _) Tryz.underlying23 rfl (by kernel_rfl)) rfl ?_
    exact ⟨rfl, eff_four T1.out.e (by omega) _ _ _ _⟩
end Go.Proofs.YtcmepoakcffpaaaGreat.CP
namespace Go.Proofs.YtcmepoakcffpaaaGreat.CP
open Go Go.RowKit Go.Proofs.YtcmepoakcffpaaaGreatW.PrintWords Go.Proofs.YtcmepoakcffpaaaGreatW.PrintLast Go.Proofs.YtcmepoakcffpaaaGreatW.PrintMore Go.Proofs.YtcmepoakcffpaaaGreat.CR Go.Proofs.YtcmepoakcffpaaaGreat.L
set_option linter.unusedVariables false
set_option linter.unusedSimpArgs false
/-- slices.Insert of one cell into a row of one's own. -/
theorem insert_calls (w : World) (base : Nat) (A : Option Addr) (cap i vb : Nat) (l : List B) (c : B) (h : kdB.R 42 w base (fun _ => True) (.slice A l.length cap) l) (hb : base ≤ w.heap.size) (hi : i ≤ l.length) (hm : l.length < 900000) (hv : w.heap[vb]? = some (.cells (cellsB c).toArray 42 (0, 0))) (hne : A.map Addr.block ≠ some vb) :
    Calls Tryz.prog 25 #[.slice A l.length cap, .int .i64 i, .slice (some ⟨vb, 0, none⟩) 1 1] w fun e w' => ∃ A' c', e = .returned (.slice A' (l.length + 1) c') ∧ kdB.R 42 w' base (fun _ => True) (.slice A' (l.length + 1) c') (l.take i ++ c :: l.drop i) ∧ Eff (fun k => base ≤ k) w w' := by
  have hlen : (l.take i ++ c :: l.drop i).length = l.length + 1 := by simp; omega
  rcases Nat.lt_or_ge i l.length with hlt | hge
  · obtain ⟨g, cap', hv', hbg, hgl, cells, hc⟩ := Kd.R_form h (by omega)
    injection hv' with ha _ hcap
    subst ha hcap
    have hr := rowB_of h
    by_cases hroom : l.length + 1 ≤ cap
    · refine (insert_shift w base g cap i vb l c hr hlt hroom hv (fun e => hne (by rw [e]; rfl))).mono ?_
      rintro e w' ⟨rfl, h1, h2⟩
      have := rowB_to (ok := fun _ => True) h1 trivial
      rw [hlen] at this
      exact ⟨_, _, rfl, this, h2.mono (fun k hk => by rw [hk]; exact hbg)⟩
    · refine (insert_grow w base g cap i vb l c hr hb hlt (by omega) hm hv).mono ?_
      rintro e w' ⟨g', cap', rfl, h1, h2⟩
      have := rowB_to (ok := fun _ => True) h1 trivial
      rw [hlen] at this
      exact ⟨_, _, rfl, this, h2.any _⟩
  · obtain rfl : i = l.length := by omega
    refine (insert_end w base A cap vb l c h hb hm hv).mono ?_
    rintro e w' ⟨v', rfl, h1, h2⟩
    have e1 : l.take l.length ++ c :: l.drop l.length = l ++ [c] := by rw [List.take_length, List.drop_length]
    obtain ⟨A', c', rfl⟩ := Kd.R_slice h1
    rw [e1]
    have hl2 : (l ++ [c]).length = l.length + 1 := by simp
    rw [hl2] at h1 ⊢
    exact ⟨A', c', rfl, h1, h2.mono (fun k hk => Kd.R_base h k hk)⟩
def findD (l : List B) (key : List UInt8) : B := (findB l key).getD zB
structure FndS (w : World) (W : World) : Prop where
  r : W.heap[w.heap.size + 1]? = some (.cells #[.string ⟨#[]⟩, .string ⟨#[]⟩, .int .i64 0, .int .i64 0] 42 (0, 0))
  e : Eff0 w W
set_option maxHeartbeats 1600000 in
set_option maxRecDepth 100000 in
theorem find_calls (w : World) (p : Pg) (key : ByteArray) : Calls Tryz.prog 13 #[p.val, .string key] w fun e w' => e = .returned (.tuple #[(findD (cellsP p).1 key.data.toList).val, .bool (findB (cellsP p).1 key.data.toList).isSome]) ∧ Eff0 w w' := by
  have hrise := rise_cellsP p
  have hlen := len_cellsP p
  have CC : ∀ W, W = (w.alloc (.cells #[.int .i64 p.kind, .int .i64 p.depth, .int .i64 p.next, .string p.body] 23 (0, 0))).alloc (.cells #[.string ⟨#[]⟩, .string ⟨#[]⟩, .int .i64 0, .int .i64 0] 42 (0, 0)) → Calls Tryz.prog 22 #[p.val] W fun e w' => ∃ A c, e = .returned (.tuple #[.slice A (cellsP p).1.length c, .bool (cellsP p).2]) ∧ Kd.C kdB w' A (cellsP p).1.length (cellsP p).1 ∧ Aside0 (FndS w w') := by
    rintro W rfl
    refine (cells_calls _ p).mono ?_
    rintro e w' ⟨v, he, hR, hB⟩
    obtain ⟨A, c, rfl, _, hC⟩ := Kd.R_reads hR
    have h2 := heap_alloc2_new w (.cells #[.int .i64 p.kind, .int .i64 p.depth, .int .i64 p.next, .string p.body] 23 (0, 0)) (.cells #[.string ⟨#[]⟩, .string ⟨#[]⟩, .int .i64 0, .int .i64 0] 42 (0, 0))
    have e1 : Eff0 _ w' := Eff.of_below hB
    exact ⟨A, c, he, hC, Aside0.mk ⟨by rw [e1.block _ (blk_lt h2) id]; exact h2, ((Eff.refl _ _).alloc _ |>.alloc _).then0 e1⟩⟩
  unfold Pg.val at CC
  have CA : ∀ W A c, Kd.C kdB W A (cellsP p).1.length (cellsP p).1 → Aside0 (FndS w W) → Calls Tryz.prog 24 #[.slice A (cellsP p).1.length c, .string key] W fun e w' => e = .returned (.tuple #[.int .i64 ((posB (cellsP p).1 key.data.toList : Nat) : Int), .bool (findB (cellsP p).1 key.data.toList).isSome]) ∧ Aside0 (FndS w w') ∧ Aside0 (Kd.C kdB w' A (cellsP p).1.length (cellsP p).1) := by
    intro W A c hC hS
    refine (at_calls W A c _ key hC hlen hrise).mono ?_
    rintro e w' ⟨he, e1⟩
    exact ⟨he, Aside0.mk ⟨by rw [e1.block _ (blk_lt hS.out.r) id]; exact hS.out.r, hS.out.e.then0 e1⟩, Aside0.mk (Kd.C_below hC e1.below0)⟩
  have hfd : findD (cellsP p).1 key.data.toList = (findB (cellsP p).1 key.data.toList).getD zB := rfl
  cases hf : findB (cellsP p).1 key.data.toList with
  | none =>
    rw [hf] at hfd CA
    rw [hfd]
    clear hfd hf hrise hlen
    generalize (cellsP p).1 = l at CC CA
    generalize (cellsP p).2 = b at CC
    generalize posB l key.data.toList = i at CA
    dsimp only [Option.isSome, Option.getD] at CA ⊢
    go_enter Tryz.func13, Tryz.ntmps13
    go_wp2_with (first
      | (go_at_call 22; refine (CC _ rfl).mono ?_; rintro e w1 ⟨A, c, rfl, hC, T1⟩; clear CC)
      | (go_at_call 24; refine (CA _ _ _ hC T1).mono ?_; rintro e w2 ⟨rfl, T2, _⟩; have b0 := blk_cell T2.out.r 0; have b1 := blk_cell T2.out.r 1; have b2 := blk_cell T2.out.r 2; have b3 := blk_cell T2.out.r 3; have fb : ∀ j, w2.frozen? ⟨w.heap.size + 1, j, none⟩ = false := fun j => blk_frozen T2.out.r j; clear CA T1 hC))
    refine bodyPost_ret (results_ct rfl _ _ (w.heap.size + 1) 42 #[.string ⟨#[]⟩, .string ⟨#[]⟩, .int .i64 0, .int .i64 0] (0, 0) _ rfl (four_set T2.out.r _ _ _ _) Tryz.underlying42 rfl (by kernel_rfl)) rfl ?_
    exact ⟨rfl, eff_four T2.out.e (by omega) _ _ _ _⟩
  | some d =>
    obtain ⟨hlt, hget, _, _⟩ := pos_had hrise hf
    have hgd : (cellsP p).1.getD (posB (cellsP p).1 key.data.toList) default = d := by rw [List.getD_eq_getElem?_getD, hget]; rfl
    rw [hf] at hfd CA
    rw [hfd]
    clear hfd hf hrise hlen hget
    generalize (cellsP p).1 = l at CC CA hlt hgd
    generalize (cellsP p).2 = b at CC
    generalize posB l key.data.toList = i at CA hlt hgd
    dsimp only [Option.isSome, Option.getD] at CA ⊢
    have p1 : ((i : Int) < (l.length : Int)) = True := eq_true (by omega)
    have p2 : (0 ≤ (i : Int)) = True := eq_true (by omega)
    have HG := Aside0.mk hgd
    clear hgd
    go_enter Tryz.func13, Tryz.ntmps13
    go_wp2_with (first
      | (go_at_call 22; refine (CC _ rfl).mono ?_; rintro e w1 ⟨A, c, rfl, hC, T1⟩; clear CC)
      | (go_at_call 24; refine (CA _ _ _ hC T1).mono ?_; rintro e w2 ⟨rfl, T2, T3⟩; have b0 := blk_cell T2.out.r 0; have b1 := blk_cell T2.out.r 1; have b2 := blk_cell T2.out.r 2; have b3 := blk_cell T2.out.r 3; have fb : ∀ j, w2.frozen? ⟨w.heap.size + 1, j, none⟩ = false := fun j => blk_frozen T2.out.r j; clear CA T1 hC; obtain ⟨ad, ea, x0, x1, x2, x3⟩ := at_B T3.out i hlt; subst ea; rw [HG.out] at x0 x1 x2 x3))
    refine bodyPost_ret (results_ct rfl _ _ (w.heap.size + 1) 42 (cellsB d).toArray (0, 0) _ rfl (four_set T2.out.r _ _ _ _) Tryz.underlying42 rfl (by kernel_rfl)) rfl ?_
    exact ⟨rfl, eff_four T2.out.e (by omega) _ _ _ _⟩
end Go.Proofs.YtcmepoakcffpaaaGreat.CP
namespace Go.Proofs.YtcmepoakcffpaaaGreat.CP
open Go Go.RowKit Go.Proofs.YtcmepoakcffpaaaGreatW.PrintWords Go.Proofs.YtcmepoakcffpaaaGreatW.PrintLast Go.Proofs.YtcmepoakcffpaaaGreatW.PrintMore Go.Proofs.YtcmepoakcffpaaaGreat.CR Go.Proofs.YtcmepoakcffpaaaGreat.L
set_option linter.unusedVariables false
set_option linter.unusedSimpArgs false
theorem size_calls (w : World) (c : B) (h : right c.cl = true) : Calls Tryz.prog 32 #[c.val] w fun e w' => e = .returned (.int .i64 ((csize c.cl : Nat) : Int)) ∧ Eff0 w w' := by
  refine (cell_Size.calls c.k c.v c.bl c.sz ((csize c.cl : Nat) : Int) w ?_).mono fun e w' ⟨he, hb⟩ => ⟨he, Eff.of_below hb⟩
  simp only [right, decide_eq_true_eq] at h
  obtain ⟨h1, h2, h3⟩ := h
  have e1 : c.cl.k.length = c.k.size := by rw [size_data]; rfl
  have e2 : c.cl.v.length = c.v.size := by rw [size_data]; rfl
  have e3 : c.cl.bl = c.bl := rfl
  rw [e1] at h1 h2
  rw [e2, e3] at h3
  unfold cell_Size.f csize
  rw [e1, e2, e3]
  unfold wrap64
  by_cases hb : c.bl = 0
  · rw [if_pos hb] at h3
    simp only [hb, if_true, ne_eq, not_true_eq_false, if_false, Option.some.injEq]; omega
  · rw [if_neg hb] at h3
    simp only [hb, if_false, ne_eq, not_false_eq_true, if_true, Option.some.injEq]; omega
theorem tot_take (l : List B) (i : Nat) (h : i < l.length) : tot (l.take (i + 1)) = tot (l.take i) + csize (l.getD i default).cl := by
  rw [List.take_succ_eq_append_getElem h, tot_append, tot_cons, tot_nil, List.getD_eq_getElem?_getD, List.getElem?_eq_getElem h]
  rfl
theorem tot_take_le (l : List B) (i : Nat) : tot (l.take i) ≤ tot l := by
  have := tot_append (l.take i) (l.drop i)
  rw [List.take_append_drop] at this
  omega
theorem good_cellsP (p : Pg) : Good (cellsP p).1 ∧ tot (cellsP p).1 ≤ 239 := by
  unfold cellsP
  split
  · rcases hg : getF p.body with ⟨l, b⟩
    cases b with
    | true => exact good_of_get hg
    | false => rw [getF_false hg]; exact ⟨Good.nil, by rw [tot_nil]; omega⟩
  · exact ⟨Good.nil, by rw [tot_nil]; omega⟩
set_option maxHeartbeats 1600000 in
set_option maxRecDepth 100000 in
theorem room_calls (w : World) (p : Pg) : Calls Tryz.prog 18 #[p.val] w fun e w' => e = .returned (.int .i64 (roomP p)) ∧ Eff0 w w' := by
  obtain ⟨hgood, htot⟩ := good_cellsP p
  have hlen := len_cellsP p
  have CC : ∀ W, Eff0 w W → Calls Tryz.prog 22 #[p.val] W fun e w' => ∃ A c, e = .returned (.tuple #[.slice A (cellsP p).1.length c, .bool (cellsP p).2]) ∧ Aside0 (Kd.C kdB w' A (cellsP p).1.length (cellsP p).1 ∧ Eff0 w w') := by
    rintro W e0
    refine (cells_calls _ p).mono ?_
    rintro e w' ⟨v, he, hR, hB⟩
    obtain ⟨A, c, rfl, _, hC⟩ := Kd.R_reads hR
    exact ⟨A, c, he, Aside0.mk ⟨hC, e0.then0 (Eff.of_below hB)⟩⟩
  unfold Pg.val at CC
  have hr : roomP p = if (cellsP p).2 = false then 0 else 239 - ((tot (cellsP p).1 : Nat) : Int) := rfl
  generalize (cellsP p).1 = l at *
  generalize (cellsP p).2 = b at *
  cases b with
  | false =>
    rw [if_pos rfl] at hr
    rw [hr]
    clear hr hgood
    go_enter Tryz.func18, Tryz.ntmps18
    go_wp2_with (go_at_call 22; refine (CC _ ((Eff.refl _ _).alloc _)).mono ?_; rintro e w1 ⟨A, c, rfl, T1⟩; clear CC)
    go_ret
    exact ⟨rfl, T1.out.2⟩
  | true =>
    rw [if_neg (by simp)] at hr
    obtain ⟨rm, hrm⟩ : ∃ rm, rm = roomP p := ⟨_, rfl⟩
    rw [← hrm] at hr ⊢
    have HG := Aside0.mk (And.intro hgood hr)
    clear hr hgood hrm
    go_enter Tryz.func18, Tryz.ntmps18
    go_wp2_with (go_at_call 22; refine (CC _ ((Eff.refl _ _).alloc _)).mono ?_; rintro e w1 ⟨A, c, rfl, T1⟩; clear CC)
    go_loopg [5, 17] l.length (fun k s5 s17 wr => ∃ i t : Nat, s5 = .int .i64 t ∧ s17 = .int .i64 i ∧ i + k = l.length ∧ t ≤ 239 ∧ Aside0 (t + tot (l.take i) = 239 ∧ Eff0 w1 wr))
    case atStart => exact ⟨0, 239, by rfl, rfl, by omega, by omega, Aside0.mk ⟨by simp [tot_nil], Eff.refl _ _⟩⟩
    case round =>
      obtain ⟨i, t, rfl, rfl, h1, h2, A1⟩ := hrel
      by_cases hi : i < l.length
      · have p1 : ((i : Int) < (l.length : Int)) = True := eq_true (by omega)
        obtain ⟨ad, ea, x0, x1, x2, x3⟩ := at_B (Kd.C_below T1.out.1 A1.out.2.below0) i hi
        subst ea
        have hq : right (l.getD i default).cl = true := HG.out.1.right _ (by rw [List.getD_eq_getElem?_getD, List.getElem?_eq_getElem hi]; exact List.getElem_mem hi)
        have A2 := Aside0.mk (tot_take l i hi)
        have A3 := Aside0.mk (tot_take_le l (i + 1))
        generalize l.getD i default = q at *
        have C := fun W => size_calls W q hq
        unfold B.val at C
        generalize csize q.cl = s at *
        clear hq
        have hs : s ≤ t := by have a := A1.out.1; have b := A2.out; have c := A3.out; omega
        have p3 : (t : Int) - (s : Int) = ((t - s : Nat) : Int) := by omega
        have p4 : wrap64 ((t : Int) - (s : Int)) = ((t - s : Nat) : Int) := by unfold wrap64; omega
        have p5 : IntKind.i64.wrap ((t : Int) - (s : Int)) = ((t - s : Nat) : Int) := by rw [IntKind.wrap_i64]; omega
        go_wp2_with (go_at_call 32; refine (C _).mono ?_; rintro e w2 ⟨rfl, e2⟩; clear C)
        go_roundg (gk - 1)
        case measure => omega
        case rel => exact ⟨i + 1, t - s, by simp, by simp, by omega, by omega, Aside0.mk ⟨by have a := A1.out.1; have b := A2.out; omega, (A1.out.2.alloc _).then0 e2⟩⟩
      · have p1 : ((i : Int) < (l.length : Int)) = False := eq_false (by omega)
        obtain rfl : i = l.length := by omega
        have hrm : rm = (t : Int) := by
          have := A1.out.1
          rw [List.take_length] at this
          rw [HG.out.2]
          omega
        subst hrm
        go_wp2
        go_ret
        exact ⟨rfl, T1.out.2.then0 A1.out.2⟩
end Go.Proofs.YtcmepoakcffpaaaGreat.CP
namespace Go.Proofs.YtcmepoakcffpaaaGreat.CP
open Go Go.RowKit Go.Proofs.YtcmepoakcffpaaaGreatW.PrintWords Go.Proofs.YtcmepoakcffpaaaGreatW.PrintLast Go.Proofs.YtcmepoakcffpaaaGreatW.PrintMore Go.Proofs.YtcmepoakcffpaaaGreat.CR Go.Proofs.YtcmepoakcffpaaaGreat.L
set_option linter.unusedVariables false
set_option linter.unusedSimpArgs false
/-- Set's own blocks: the page, the cell, the answer; and the row. -/
structure SetS (w : World) (p : Pg) (c : B) (v : Value) (l : List B) (W : World) : Prop where
  a : W.heap[w.heap.size]? = some (.cells #[.int .i64 p.kind, .int .i64 p.depth, .int .i64 p.next, .string p.body] 23 (0, 0))
  b : W.heap[w.heap.size + 1]? = some (.cells #[.string c.k, .string c.v, .int .i64 c.bl, .int .i64 c.sz] 42 (0, 0))
  r : W.heap[w.heap.size + 2]? = some (.cells #[.int .i64 0, .int .i64 0, .int .i64 0, .string ⟨#[]⟩] 23 (0, 0))
  row : kdB.R 42 W (w.heap.size + 3) (fun _ => True) v l
  e : Eff0 w W
theorem SetS.eff {w W W1 : World} {p : Pg} {c : B} {v : Value} {l : List B} {S : Nat → Prop} (h : SetS w p c v l W) (e1 : Eff S W W1) (hS : ∀ k, S k → w.heap.size + 3 ≤ k) {v' : Value} {l' : List B} (hR : kdB.R 42 W1 (w.heap.size + 3) (fun _ => True) v' l') : SetS w p c v' l' W1 :=
  ⟨by rw [e1.block _ (blk_lt h.a) (fun hk => by have := hS _ hk; omega)]; exact h.a, by rw [e1.block _ (blk_lt h.b) (fun hk => by have := hS _ hk; omega)]; exact h.b, by rw [e1.block _ (blk_lt h.r) (fun hk => by have := hS _ hk; omega)]; exact h.r, hR,
    ⟨e1.os.trans h.e.os, e1.tape.trans h.e.tape, e1.output.trans h.e.output, Nat.le_trans h.e.size e1.size, fun k hk _ => by rw [e1.block k (Nat.lt_of_lt_of_le hk h.e.size) (fun hq => by have := hS _ hq; omega)]; exact h.e.block k hk id⟩⟩
theorem SetS.eff0 {w W W1 : World} {p : Pg} {c : B} {v : Value} {l : List B} (h : SetS w p c v l W) (e1 : Eff0 W W1) : SetS w p c v l W1 := h.eff e1 (fun _ h => h.elim) (Kd.R_step h.row (fun k _ hk => e1.block k hk id))
theorem SetS.three {w W : World} {p : Pg} {c : B} {v : Value} {l : List B} (h : SetS w p c v l W) : w.heap.size + 3 ≤ W.heap.size := by have := blk_lt h.r; omega
/-- The world of Set behind its first region. -/
abbrev set0 (w : World) (p : Pg) (c : B) : World := ((w.alloc (.cells #[.int .i64 p.kind, .int .i64 p.depth, .int .i64 p.next, .string p.body] 23 (0, 0))).alloc (.cells #[.string c.k, .string c.v, .int .i64 c.bl, .int .i64 c.sz] 42 (0, 0))).alloc (.cells #[.int .i64 0, .int .i64 0, .int .i64 0, .string ⟨#[]⟩] 23 (0, 0))
theorem SetS.made (w : World) (p : Pg) (c : B) {W : World} {v : Value} {l : List B} (hB : Below (set0 w p c).heap.size (set0 w p c) W) (hR : kdB.R 42 W (set0 w p c).heap.size (fun _ => True) v l) : SetS w p c v l W := by
  have hs : (set0 w p c).heap.size = w.heap.size + 3 := by simp [set0]
  have h1 : (set0 w p c).heap[w.heap.size]? = some (.cells #[.int .i64 p.kind, .int .i64 p.depth, .int .i64 p.next, .string p.body] 23 (0, 0)) := by
    have := heap_alloc2_old w (.cells #[.int .i64 p.kind, .int .i64 p.depth, .int .i64 p.next, .string p.body] 23 (0, 0)) (.cells #[.string c.k, .string c.v, .int .i64 c.bl, .int .i64 c.sz] 42 (0, 0))
    rw [Go.heap_alloc_old _ _ (blk_lt this)]
    exact this
  have h2 : (set0 w p c).heap[w.heap.size + 1]? = some (.cells #[.string c.k, .string c.v, .int .i64 c.bl, .int .i64 c.sz] 42 (0, 0)) := by
    have := heap_alloc2_new w (.cells #[.int .i64 p.kind, .int .i64 p.depth, .int .i64 p.next, .string p.body] 23 (0, 0)) (.cells #[.string c.k, .string c.v, .int .i64 c.bl, .int .i64 c.sz] 42 (0, 0))
    rw [Go.heap_alloc_old _ _ (blk_lt this)]
    exact this
  have h3 : (set0 w p c).heap[w.heap.size + 2]? = some (.cells #[.int .i64 0, .int .i64 0, .int .i64 0, .string ⟨#[]⟩] 23 (0, 0)) := by
    have := heap_alloc2_new (w.alloc (.cells #[.int .i64 p.kind, .int .i64 p.depth, .int .i64 p.next, .string p.body] 23 (0, 0))) (.cells #[.string c.k, .string c.v, .int .i64 c.bl, .int .i64 c.sz] 42 (0, 0)) (.cells #[.int .i64 0, .int .i64 0, .int .i64 0, .string ⟨#[]⟩] 23 (0, 0))
    have hs1 : (w.alloc (.cells #[.int .i64 p.kind, .int .i64 p.depth, .int .i64 p.next, .string p.body] 23 (0, 0))).heap.size + 1 = w.heap.size + 2 := by simp
    rw [hs1] at this
    exact this
  refine ⟨by rw [hB.block _ (blk_lt h1)]; exact h1, by rw [hB.block _ (blk_lt h2)]; exact h2, by rw [hB.block _ (blk_lt h3)]; exact h3, by rw [← hs]; exact hR, ?_⟩
  exact (((Eff.refl _ _).alloc _ |>.alloc _).alloc _).then0 (Eff.of_below hB)
theorem SetS.blk0 {w W : World} {p : Pg} {c : B} {v : Value} {l : List B} (h : SetS w p c v l W) : (∀ j, W.cell? ⟨w.heap.size, j, none⟩ = (#[.int .i64 p.kind, .int .i64 p.depth, .int .i64 p.next, .string p.body] : Array Value)[j]?) ∧ (∀ j, W.cell? ⟨w.heap.size + 1, j, none⟩ = (#[.string c.k, .string c.v, .int .i64 c.bl, .int .i64 c.sz] : Array Value)[j]?) ∧ (∀ j, W.cell? ⟨w.heap.size + 2, j, none⟩ = (#[.int .i64 0, .int .i64 0, .int .i64 0, .string ⟨#[]⟩] : Array Value)[j]?) ∧ (∀ j, W.frozen? ⟨w.heap.size + 2, j, none⟩ = false) :=
  ⟨fun j => blk_cell h.a j, fun j => blk_cell h.b j, fun j => blk_cell h.r j, fun j => blk_frozen h.r j⟩
set_option maxHeartbeats 1600000 in
set_option maxRecDepth 100000 in
/-- No such page. -/
theorem set_form (w : World) (p : Pg) (c : B) (hb : (cellsP p).2 = false) : Calls Tryz.prog 6 #[p.val, c.val] w fun e w' => e = .returned (.tuple #[Pg.none.val, .int .i64 2]) ∧ Eff0 w w' := by
  have CC : Calls Tryz.prog 22 #[p.val] (set0 w p c) fun e w' => ∃ A n m, e = .returned (.tuple #[.slice A n m, .bool false]) ∧ Aside0 (SetS w p c (.slice A n m) (cellsP p).1 w') := by
    refine (cells_calls _ p).mono ?_
    rintro e w' ⟨v, he, hR, hB⟩
    rw [hb] at he
    obtain ⟨A, c, rfl⟩ := Kd.R_slice hR
    exact ⟨A, _, c, he, Aside0.mk (SetS.made w p _ hB hR)⟩
  clear hb
  unfold Pg.val set0 at CC
  generalize (cellsP p).1 = l at CC
  go_enter Tryz.func6, Tryz.ntmps6
  go_wp2_with (go_at_call 22; refine CC.mono ?_; rintro e w1 ⟨A, n, m, rfl, T1⟩; obtain ⟨_, _, b2, f2⟩ := T1.out.blk0; have b20 := b2 0; have b21 := b2 1; have b22 := b2 2; have b23 := b2 3; clear b2 CC)
  refine bodyPost_ret (results_ct rfl _ _ (w.heap.size + 2) 23 #[.int .i64 0, .int .i64 0, .int .i64 0, .string ⟨#[]⟩] (0, 0) _ rfl (four_set T1.out.r _ _ _ _) Tryz.underlying23 rfl (by kernel_rfl)) rfl ?_
  exact ⟨rfl, eff_four T1.out.e (by omega) _ _ _ _⟩
set_option maxHeartbeats 1600000 in
set_option maxRecDepth 100000 in
/-- No such cell. -/
theorem set_arg (w : World) (p : Pg) (c : B) (hb : (cellsP p).2 = true) (hr : right c.cl = false) : Calls Tryz.prog 6 #[p.val, c.val] w fun e w' => e = .returned (.tuple #[Pg.none.val, .int .i64 1]) ∧ Eff0 w w' := by
  have CC : Calls Tryz.prog 22 #[p.val] (set0 w p c) fun e w' => ∃ A n m, e = .returned (.tuple #[.slice A n m, .bool true]) ∧ Aside0 (SetS w p c (.slice A n m) (cellsP p).1 w') := by
    refine (cells_calls _ p).mono ?_
    rintro e w' ⟨v, he, hR, hB⟩
    rw [hb] at he
    obtain ⟨A, c, rfl⟩ := Kd.R_slice hR
    exact ⟨A, _, c, he, Aside0.mk (SetS.made w p _ hB hR)⟩
  have CR : ∀ W v l, Aside0 (SetS w p c v l W) → Calls Tryz.prog 23 #[.agg #[.string c.k, .string c.v, .int .i64 c.bl, .int .i64 c.sz]] W fun e w' => e = .returned (.bool false) ∧ Aside0 (SetS w p c v l w') := fun W v l h => (right_calls W c).mono fun e w' ⟨he, e1⟩ => ⟨by rw [he, hr], Aside0.mk (h.out.eff0 e1)⟩
  clear hb hr
  unfold Pg.val set0 at CC
  generalize (cellsP p).1 = l at CC
  go_enter Tryz.func6, Tryz.ntmps6
  go_wp2_with (first
    | (go_at_call 22; refine CC.mono ?_; rintro e w1 ⟨A, n, m, rfl, T1⟩; obtain ⟨_, b1, _, _⟩ := T1.out.blk0; have b10 := b1 0; have b11 := b1 1; have b12 := b1 2; have b13 := b1 3; clear b1 CC)
    | (go_at_call 23; refine (CR _ _ _ T1).mono ?_; rintro e w2 ⟨rfl, T2⟩; obtain ⟨_, _, b2, f2⟩ := T2.out.blk0; have b20 := b2 0; have b21 := b2 1; have b22 := b2 2; have b23 := b2 3; clear b2 CR))
  refine bodyPost_ret (results_ct rfl _ _ (w.heap.size + 2) 23 #[.int .i64 0, .int .i64 0, .int .i64 0, .string ⟨#[]⟩] (0, 0) _ rfl (four_set T2.out.r _ _ _ _) Tryz.underlying23 rfl (by kernel_rfl)) rfl ?_
  exact ⟨rfl, eff_four T2.out.e (by omega) _ _ _ _⟩
end Go.Proofs.YtcmepoakcffpaaaGreat.CP
namespace Go.Proofs.YtcmepoakcffpaaaGreat.CP
open Go Go.RowKit Go.Proofs.YtcmepoakcffpaaaGreatW.PrintWords Go.Proofs.YtcmepoakcffpaaaGreatW.PrintLast Go.Proofs.YtcmepoakcffpaaaGreatW.PrintMore Go.Proofs.YtcmepoakcffpaaaGreat.CR Go.Proofs.YtcmepoakcffpaaaGreat.L
set_option linter.unusedVariables false
set_option linter.unusedSimpArgs false
/-- The row with one element written over. -/
theorem SetS.over {w W : World} {p : Pg} {c : B} {g m i : Nat} {l : List B} (h : SetS w p c (.slice (some ⟨g, 0, none⟩) l.length m) l W) (hi : i < l.length) (x : B) :
    SetS w p c (.slice (some ⟨g, 0, none⟩) l.length m) (l.set i x) ((((W.setCell ⟨g, i * 4, none⟩ (.string x.k)).setCell ⟨g, i * 4 + 1, none⟩ (.string x.v)).setCell ⟨g, i * 4 + 2, none⟩ (.int .i64 x.bl)).setCell ⟨g, i * 4 + 3, none⟩ (.int .i64 x.sz)) := by
  obtain ⟨cc, h1, h2, h3, h4⟩ := Kd.R_elem h.row default (i : Int) (by omega) (by omega)
  obtain ⟨h5, h6⟩ := Kd.R_seg (seg := cellsB x) (j := 0) (x' := x) (okp := fun k => True ∧ k ≠ g) h.row (i : Int) (by omega) (by omega) h1 h3 (Nat.le_refl _) (by
    show _ = cellsB x
    have : cc.length = 4 := h1
    simp [cellsB, this]) (fun k hk => hk)
  have hg : w.heap.size + 3 ≤ g := Kd.R_base h.row g (by simp [Value.ownBlock])
  exact h.eff (S := fun k => k = g) (Eff.of_grown h6 (fun k hk => by injection hk with hk; exact hk.symm)) (by rintro k rfl; exact hg) h5
set_option maxHeartbeats 1600000 in
set_option maxRecDepth 100000 in
/-- The key is there. -/
theorem set_over (w : World) (p : Pg) (c d : B) (hb : (cellsP p).2 = true) (hr : right c.cl = true) (hf : findB (cellsP p).1 c.kk = some d) : Calls Tryz.prog 6 #[p.val, c.val] w fun e w' => e = .returned (.tuple #[(withP p (setB (cellsP p).1 c)).1.val, .int .i64 (withP p (setB (cellsP p).1 c)).2]) ∧ Eff0 w w' := by
  have hrise := rise_cellsP p
  have hlen := len_cellsP p
  obtain ⟨hlt, _, _, _⟩ := pos_had hrise hf
  have CC : Calls Tryz.prog 22 #[p.val] (set0 w p c) fun e w' => ∃ g m, e = .returned (.tuple #[.slice (some ⟨g, 0, none⟩) (cellsP p).1.length m, .bool true]) ∧ Aside0 (SetS w p c (.slice (some ⟨g, 0, none⟩) (cellsP p).1.length m) (cellsP p).1 w') := by
    refine (cells_calls _ p).mono ?_
    rintro e w' ⟨v, he, hR, hB⟩
    rw [hb] at he
    obtain ⟨g, m, rfl, _⟩ := Kd.R_form hR (by omega)
    exact ⟨g, m, he, Aside0.mk (SetS.made w p _ hB hR)⟩
  have CR : ∀ W v l, Aside0 (SetS w p c v l W) → Calls Tryz.prog 23 #[.agg #[.string c.k, .string c.v, .int .i64 c.bl, .int .i64 c.sz]] W fun e w' => e = .returned (.bool true) ∧ Aside0 (SetS w p c v l w') := fun W v l h => (right_calls W c).mono fun e w' ⟨he, e1⟩ => ⟨by rw [he, hr], Aside0.mk (h.out.eff0 e1)⟩
  have CA : ∀ W g m, Aside0 (SetS w p c (.slice (some ⟨g, 0, none⟩) (cellsP p).1.length m) (cellsP p).1 W) → Calls Tryz.prog 24 #[.slice (some ⟨g, 0, none⟩) (cellsP p).1.length m, .string c.k] W fun e w' => e = .returned (.tuple #[.int .i64 ((posB (cellsP p).1 c.kk : Nat) : Int), .bool true]) ∧ Aside0 (SetS w p c (.slice (some ⟨g, 0, none⟩) (cellsP p).1.length m) (cellsP p).1 w') := by
    intro W g m hS
    obtain ⟨_, _, hC⟩ := Kd.R_reads' hS.out.row
    refine (at_calls W _ m _ c.k hC hlen hrise).mono ?_
    rintro e w' ⟨he, e1⟩
    exact ⟨by rw [he]; unfold B.kk at hf; rw [hf]; rfl, Aside0.mk (hS.out.eff0 e1)⟩
  have CW : ∀ W g m, Aside0 (SetS w p c (.slice (some ⟨g, 0, none⟩) (cellsP p).1.length m) (cellsP p).1 W) → Calls Tryz.prog 26 #[p.val, .slice (some ⟨g, 0, none⟩) (cellsP p).1.length m] ((((W.setCell ⟨g, posB (cellsP p).1 c.kk * 4, none⟩ (.string c.k)).setCell ⟨g, posB (cellsP p).1 c.kk * 4 + 1, none⟩ (.string c.v)).setCell ⟨g, posB (cellsP p).1 c.kk * 4 + 2, none⟩ (.int .i64 c.bl)).setCell ⟨g, posB (cellsP p).1 c.kk * 4 + 3, none⟩ (.int .i64 c.sz)) fun e w' => e = .returned (.tuple #[(withP p (setB (cellsP p).1 c)).1.val, .int .i64 (withP p (setB (cellsP p).1 c)).2]) ∧ Aside0 (SetS w p c (.slice (some ⟨g, 0, none⟩) (cellsP p).1.length m) ((cellsP p).1.set (posB (cellsP p).1 c.kk) c) w') := by
    intro W g m hS
    have h2 := hS.out.over hlt c
    obtain ⟨h3, _, hC⟩ := Kd.R_reads' h2.row
    rw [h3]
    refine (with_calls _ p _ m _ hC).mono ?_
    rintro e w' ⟨he, e1⟩
    rw [← h3]
    exact ⟨by rw [he, set_had hrise hf], Aside0.mk (h2.eff0 e1)⟩
  unfold Pg.val at CC CW ⊢
  unfold set0 at CC
  generalize withP p (setB (cellsP p).1 c) = res at CW ⊢
  obtain ⟨⟨qk, qd, qn, qs⟩, qe⟩ := res
  dsimp only at CW ⊢
  clear hb hr hf hrise
  have CE : ∀ W g m, Aside0 (SetS w p c (.slice (some ⟨g, 0, none⟩) (cellsP p).1.length m) (cellsP p).1 W) → (∃ u0 u1 u2 u3, W.cell? ⟨g, posB (cellsP p).1 c.kk * 4, none⟩ = some u0 ∧ W.cell? ⟨g, posB (cellsP p).1 c.kk * 4 + 1, none⟩ = some u1 ∧ W.cell? ⟨g, posB (cellsP p).1 c.kk * 4 + 2, none⟩ = some u2 ∧ W.cell? ⟨g, posB (cellsP p).1 c.kk * 4 + 3, none⟩ = some u3) ∧ (∀ j, W.frozen? ⟨g, j, none⟩ = false) ∧ w.heap.size ≠ g ∧ w.heap.size + 1 ≠ g ∧ w.heap.size + 2 ≠ g := by
    intro W g m hS
    have hr := rowB_of hS.out.row
    have hl := hr.len
    have hg := hr.le
    obtain ⟨u0, h0⟩ := Option.isSome_iff_exists.1 (hr.some (posB (cellsP p).1 c.kk * 4) (by omega))
    obtain ⟨u1, h1⟩ := Option.isSome_iff_exists.1 (hr.some (posB (cellsP p).1 c.kk * 4 + 1) (by omega))
    obtain ⟨u2, h2⟩ := Option.isSome_iff_exists.1 (hr.some (posB (cellsP p).1 c.kk * 4 + 2) (by omega))
    obtain ⟨u3, h3⟩ := Option.isSome_iff_exists.1 (hr.some (posB (cellsP p).1 c.kk * 4 + 3) (by omega))
    exact ⟨⟨u0, u1, u2, u3, h0, h1, h2, h3⟩, hr.free, by omega, by omega, by omega⟩
  generalize (cellsP p).1 = l at *
  generalize posB l c.kk = i at *
  have p1 : ((i : Int) < (l.length : Int)) = True := eq_true (by omega)
  have p2 : (0 ≤ (i : Int)) = True := eq_true (by omega)
  clear hlen
  go_enter Tryz.func6, Tryz.ntmps6
  go_wp2_with (first
    | (go_at_call 22; refine CC.mono ?_; rintro e w1 ⟨g, m, rfl, T1⟩; obtain ⟨_, b1, _, _⟩ := T1.out.blk0; have b10 := b1 0; have b11 := b1 1; have b12 := b1 2; have b13 := b1 3; clear b1 CC)
    | (go_at_call 23; refine (CR _ _ _ T1).mono ?_; rintro e w2 ⟨rfl, T2⟩; obtain ⟨_, b1, _, _⟩ := T2.out.blk0; have b10 := b1 0; have b11 := b1 1; have b12 := b1 2; have b13 := b1 3; clear b1 CR T1)
    | (go_at_call 24; refine (CA _ _ _ T2).mono ?_; rintro e w3 ⟨rfl, T3⟩; obtain ⟨b0, b1, _, _⟩ := T3.out.blk0; have b00 := b0 0; have b01 := b0 1; have b02 := b0 2; have b03 := b0 3; have b10 := b1 0; have b11 := b1 1; have b12 := b1 2; have b13 := b1 3; clear b0 b1 CA T2; obtain ⟨⟨u0, u1, u2, u3, x0, x1, x2, x3⟩, fx, n0, n1, n2⟩ := CE _ _ _ T3; have CW2 := CW _ _ _ T3; clear CW CE)
    | (go_at_call 26; refine CW2.mono ?_; rintro e w4 ⟨rfl, T4⟩; obtain ⟨_, _, b2, f2⟩ := T4.out.blk0; have b20 := b2 0; have b21 := b2 1; have b22 := b2 2; have b23 := b2 3; clear b2 CW2))
  refine bodyPost_ret (results_ct rfl _ _ (w.heap.size + 2) 23 #[.int .i64 qk, .int .i64 qd, .int .i64 qn, .string qs] (0, 0) _ rfl (four_set T4.out.r _ _ _ _) Tryz.underlying23 rfl (by kernel_rfl)) rfl ?_
  exact ⟨rfl, eff_four T4.out.e (by omega) _ _ _ _⟩
set_option maxHeartbeats 1600000 in
set_option maxRecDepth 100000 in
/-- The key is not there. -/
theorem set_new (w : World) (p : Pg) (c : B) (hb : (cellsP p).2 = true) (hr : right c.cl = true) (hf : findB (cellsP p).1 c.kk = none) : Calls Tryz.prog 6 #[p.val, c.val] w fun e w' => e = .returned (.tuple #[(withP p (setB (cellsP p).1 c)).1.val, .int .i64 (withP p (setB (cellsP p).1 c)).2]) ∧ Eff0 w w' := by
  have hrise := rise_cellsP p
  have hlen := len_cellsP p
  have hle := posB_le (cellsP p).1 c.kk
  have CC : Calls Tryz.prog 22 #[p.val] (set0 w p c) fun e w' => ∃ A m, e = .returned (.tuple #[.slice A (cellsP p).1.length m, .bool true]) ∧ Aside0 (SetS w p c (.slice A (cellsP p).1.length m) (cellsP p).1 w') := by
    refine (cells_calls _ p).mono ?_
    rintro e w' ⟨v, he, hR, hB⟩
    rw [hb] at he
    obtain ⟨A, m, rfl⟩ := Kd.R_slice hR
    exact ⟨A, m, he, Aside0.mk (SetS.made w p _ hB hR)⟩
  have CR : ∀ W v l, Aside0 (SetS w p c v l W) → Calls Tryz.prog 23 #[.agg #[.string c.k, .string c.v, .int .i64 c.bl, .int .i64 c.sz]] W fun e w' => e = .returned (.bool true) ∧ Aside0 (SetS w p c v l w') := fun W v l h => (right_calls W c).mono fun e w' ⟨he, e1⟩ => ⟨by rw [he, hr], Aside0.mk (h.out.eff0 e1)⟩
  have CA : ∀ W A m, Aside0 (SetS w p c (.slice A (cellsP p).1.length m) (cellsP p).1 W) → Calls Tryz.prog 24 #[.slice A (cellsP p).1.length m, .string c.k] W fun e w' => e = .returned (.tuple #[.int .i64 ((posB (cellsP p).1 c.kk : Nat) : Int), .bool false]) ∧ Aside0 (SetS w p c (.slice A (cellsP p).1.length m) (cellsP p).1 w') := by
    intro W A m hS
    obtain ⟨_, _, hC⟩ := Kd.R_reads' hS.out.row
    refine (at_calls W _ m _ c.k hC hlen hrise).mono ?_
    rintro e w' ⟨he, e1⟩
    exact ⟨by rw [he]; unfold B.kk at hf; rw [hf]; rfl, Aside0.mk (hS.out.eff0 e1)⟩
  have CI : ∀ W A m, Aside0 (SetS w p c (.slice A (cellsP p).1.length m) (cellsP p).1 W) → Calls Tryz.prog 25 #[.slice A (cellsP p).1.length m, .int .i64 ((posB (cellsP p).1 c.kk : Nat) : Int), .slice (some ⟨W.heap.size, 0, none⟩) 1 1] (W.alloc (.cells #[.string c.k, .string c.v, .int .i64 c.bl, .int .i64 c.sz] 42 (0, 0))) fun e w' => ∃ A' n' m', e = .returned (.slice A' n' m') ∧ Aside0 (SetS w p c (.slice A' n' m') (setB (cellsP p).1 c) w') := by
    intro W A m hS
    have e0 : Eff0 W (W.alloc (.cells #[.string c.k, .string c.v, .int .i64 c.bl, .int .i64 c.sz] 42 (0, 0))) := (Eff.refl _ _).alloc _
    have h2 := hS.out.eff0 e0
    have h3 := hS.out.three
    refine (insert_calls _ (w.heap.size + 3) A m _ W.heap.size _ c h2.row (by have := e0.size; omega) hle (by omega) (heap_alloc_new W _) (fun hA => ?_)).mono ?_
    · cases A with
      | none => cases hA
      | some a =>
        have := Kd.R_lt hS.out.row a.block rfl
        injection hA with hA
        omega
    · rintro e w' ⟨A', c', rfl, h4, h5⟩
      rw [set_none hrise hf] at h4
      exact ⟨A', _, c', rfl, Aside0.mk (h2.eff h5 (fun k hk => hk) h4)⟩
  have CW : ∀ W A n m, Aside0 (SetS w p c (.slice A n m) (setB (cellsP p).1 c) W) → Calls Tryz.prog 26 #[p.val, .slice A n m] W fun e w' => e = .returned (.tuple #[(withP p (setB (cellsP p).1 c)).1.val, .int .i64 (withP p (setB (cellsP p).1 c)).2]) ∧ Aside0 (SetS w p c (.slice A n m) (setB (cellsP p).1 c) w') := by
    intro W A n m hS
    obtain ⟨h3, _, hC⟩ := Kd.R_reads' hS.out.row
    subst h3
    refine (with_calls _ p _ m _ hC).mono ?_
    rintro e w' ⟨he, e1⟩
    exact ⟨he, Aside0.mk (hS.out.eff0 e1)⟩
  unfold Pg.val at CC CW ⊢
  unfold set0 at CC
  generalize withP p (setB (cellsP p).1 c) = res at CW ⊢
  obtain ⟨⟨qk, qd, qn, qs⟩, qe⟩ := res
  dsimp only at CW ⊢
  clear hb hr hf hrise
  generalize setB (cellsP p).1 c = l2 at *
  generalize (cellsP p).1 = l at *
  generalize posB l c.kk = i at *
  clear hlen
  go_enter Tryz.func6, Tryz.ntmps6
  go_wp2_with (first
    | (go_at_call 22; refine CC.mono ?_; rintro e w1 ⟨g, m, rfl, T1⟩; obtain ⟨_, b1, _, _⟩ := T1.out.blk0; have b10 := b1 0; have b11 := b1 1; have b12 := b1 2; have b13 := b1 3; clear b1 CC)
    | (go_at_call 23; refine (CR _ _ _ T1).mono ?_; rintro e w2 ⟨rfl, T2⟩; obtain ⟨_, b1, _, _⟩ := T2.out.blk0; have b10 := b1 0; have b11 := b1 1; have b12 := b1 2; have b13 := b1 3; clear b1 CR T1)
    | (go_at_call 24; refine (CA _ _ _ T2).mono ?_; rintro e w3 ⟨rfl, T3⟩; obtain ⟨b0, b1, _, _⟩ := T3.out.blk0; have b10 := b1 0; have b11 := b1 1; have b12 := b1 2; have b13 := b1 3; clear b0 b1 CA T2)
    | (go_at_call 25; refine (CI _ _ _ T3).mono ?_; rintro e w4 ⟨A', n', m', rfl, T4⟩; obtain ⟨b0, _, _, _⟩ := T4.out.blk0; have b00 := b0 0; have b01 := b0 1; have b02 := b0 2; have b03 := b0 3; clear b0 CI T3)
    | (go_at_call 26; refine (CW _ _ _ _ T4).mono ?_; rintro e w5 ⟨rfl, T5⟩; obtain ⟨_, _, b2, f2⟩ := T5.out.blk0; have b20 := b2 0; have b21 := b2 1; have b22 := b2 2; have b23 := b2 3; clear b2 CW))
  refine bodyPost_ret (results_ct rfl _ _ (w.heap.size + 2) 23 #[.int .i64 qk, .int .i64 qd, .int .i64 qn, .string qs] (0, 0) _ rfl (four_set T5.out.r _ _ _ _) Tryz.underlying23 rfl (by kernel_rfl)) rfl ?_
  exact ⟨rfl, eff_four T5.out.e (by omega) _ _ _ _⟩
theorem set_calls (w : World) (p : Pg) (c : B) : Calls Tryz.prog 6 #[p.val, c.val] w fun e w' => e = .returned (.tuple #[(setP p c).1.val, .int .i64 (setP p c).2]) ∧ Eff0 w w' := by
  unfold setP
  cases hb : (cellsP p).2 with
  | false => rw [if_pos rfl]; exact set_form w p c hb
  | true =>
    rw [if_neg (by simp)]
    cases hr : right c.cl with
    | false => rw [if_pos rfl]; exact set_arg w p c hb hr
    | true =>
      rw [if_neg (by simp)]
      cases hf : findB (cellsP p).1 c.kk with
      | none => exact set_new w p c hb hr hf
      | some d => exact set_over w p c d hb hr hf
end Go.Proofs.YtcmepoakcffpaaaGreat.CP
namespace Go.Proofs.YtcmepoakcffpaaaGreat.CP
open Go Go.RowKit Go.Proofs.YtcmepoakcffpaaaGreatW.PrintWords Go.Proofs.YtcmepoakcffpaaaGreatW.PrintLast Go.Proofs.YtcmepoakcffpaaaGreatW.PrintMore Go.Proofs.YtcmepoakcffpaaaGreat.CR Go.Proofs.YtcmepoakcffpaaaGreat.L
set_option linter.unusedVariables false
set_option linter.unusedSimpArgs false
/-- Cut's own blocks: the page and the answer; and the row. -/
structure CutS (w : World) (p : Pg) (v : Value) (l : List B) (W : World) : Prop where
  a : W.heap[w.heap.size]? = some (.cells #[.int .i64 p.kind, .int .i64 p.depth, .int .i64 p.next, .string p.body] 23 (0, 0))
  r : W.heap[w.heap.size + 1]? = some (.cells #[.int .i64 0, .int .i64 0, .int .i64 0, .string ⟨#[]⟩] 23 (0, 0))
  row : kdB.R 42 W (w.heap.size + 2) (fun _ => True) v l
  e : Eff0 w W
theorem CutS.eff {w W W1 : World} {p : Pg} {v : Value} {l : List B} {S : Nat → Prop} (h : CutS w p v l W) (e1 : Eff S W W1) (hS : ∀ k, S k → w.heap.size + 2 ≤ k) {v' : Value} {l' : List B} (hR : kdB.R 42 W1 (w.heap.size + 2) (fun _ => True) v' l') : CutS w p v' l' W1 :=
  ⟨by rw [e1.block _ (blk_lt h.a) (fun hk => by have := hS _ hk; omega)]; exact h.a, by rw [e1.block _ (blk_lt h.r) (fun hk => by have := hS _ hk; omega)]; exact h.r, hR,
    ⟨e1.os.trans h.e.os, e1.tape.trans h.e.tape, e1.output.trans h.e.output, Nat.le_trans h.e.size e1.size, fun k hk _ => by rw [e1.block k (Nat.lt_of_lt_of_le hk h.e.size) (fun hq => by have := hS _ hq; omega)]; exact h.e.block k hk id⟩⟩
theorem CutS.eff0 {w W W1 : World} {p : Pg} {v : Value} {l : List B} (h : CutS w p v l W) (e1 : Eff0 W W1) : CutS w p v l W1 := h.eff e1 (fun _ h => h.elim) (Kd.R_step h.row (fun k _ hk => e1.block k hk id))
abbrev cut0 (w : World) (p : Pg) : World := (w.alloc (.cells #[.int .i64 p.kind, .int .i64 p.depth, .int .i64 p.next, .string p.body] 23 (0, 0))).alloc (.cells #[.int .i64 0, .int .i64 0, .int .i64 0, .string ⟨#[]⟩] 23 (0, 0))
theorem CutS.made (w : World) (p : Pg) {W : World} {v : Value} {l : List B} (hB : Below (cut0 w p).heap.size (cut0 w p) W) (hR : kdB.R 42 W (cut0 w p).heap.size (fun _ => True) v l) : CutS w p v l W := by
  have hs : (cut0 w p).heap.size = w.heap.size + 2 := by simp [cut0]
  have T := TwoP.made w p (Eff.of_below hB)
  exact ⟨T.a, T.b, by rw [← hs]; exact hR, T.e⟩
theorem CutS.blk0 {w W : World} {p : Pg} {v : Value} {l : List B} (h : CutS w p v l W) : (∀ j, W.cell? ⟨w.heap.size, j, none⟩ = (#[.int .i64 p.kind, .int .i64 p.depth, .int .i64 p.next, .string p.body] : Array Value)[j]?) ∧ (∀ j, W.cell? ⟨w.heap.size + 1, j, none⟩ = (#[.int .i64 0, .int .i64 0, .int .i64 0, .string ⟨#[]⟩] : Array Value)[j]?) ∧ (∀ j, W.frozen? ⟨w.heap.size + 1, j, none⟩ = false) :=
  ⟨fun j => blk_cell h.a j, fun j => blk_cell h.r j, fun j => blk_frozen h.r j⟩
set_option maxHeartbeats 1600000 in
set_option maxRecDepth 100000 in
theorem cut_form (w : World) (p : Pg) (key : ByteArray) (hb : (cellsP p).2 = false) : Calls Tryz.prog 11 #[p.val, .string key] w fun e w' => e = .returned (.tuple #[Pg.none.val, .int .i64 2]) ∧ Eff0 w w' := by
  have CC : Calls Tryz.prog 22 #[p.val] (cut0 w p) fun e w' => ∃ A n m, e = .returned (.tuple #[.slice A n m, .bool false]) ∧ Aside0 (CutS w p (.slice A n m) (cellsP p).1 w') := by
    refine (cells_calls _ p).mono ?_
    rintro e w' ⟨v, he, hR, hB⟩
    rw [hb] at he
    obtain ⟨A, c, rfl⟩ := Kd.R_slice hR
    exact ⟨A, _, c, he, Aside0.mk (CutS.made w p hB hR)⟩
  clear hb
  unfold Pg.val cut0 at CC
  generalize (cellsP p).1 = l at CC
  go_enter Tryz.func11, Tryz.ntmps11
  go_wp2_with (go_at_call 22; refine CC.mono ?_; rintro e w1 ⟨A, n, m, rfl, T1⟩; obtain ⟨_, b2, f2⟩ := T1.out.blk0; have b20 := b2 0; have b21 := b2 1; have b22 := b2 2; have b23 := b2 3; clear b2 CC)
  refine bodyPost_ret (results_ct rfl _ _ (w.heap.size + 1) 23 #[.int .i64 0, .int .i64 0, .int .i64 0, .string ⟨#[]⟩] (0, 0) _ rfl (four_set T1.out.r _ _ _ _) Tryz.underlying23 rfl (by kernel_rfl)) rfl ?_
  exact ⟨rfl, eff_four T1.out.e (by omega) _ _ _ _⟩
set_option maxHeartbeats 1600000 in
set_option maxRecDepth 100000 in
theorem cut_none (w : World) (p : Pg) (key : ByteArray) (hb : (cellsP p).2 = true) (hf : findB (cellsP p).1 key.data.toList = none) : Calls Tryz.prog 11 #[p.val, .string key] w fun e w' => e = .returned (.tuple #[Pg.none.val, .int .i64 3]) ∧ Eff0 w w' := by
  have hrise := rise_cellsP p
  have hlen := len_cellsP p
  have CC : Calls Tryz.prog 22 #[p.val] (cut0 w p) fun e w' => ∃ A m, e = .returned (.tuple #[.slice A (cellsP p).1.length m, .bool true]) ∧ Aside0 (CutS w p (.slice A (cellsP p).1.length m) (cellsP p).1 w') := by
    refine (cells_calls _ p).mono ?_
    rintro e w' ⟨v, he, hR, hB⟩
    rw [hb] at he
    obtain ⟨A, m, rfl⟩ := Kd.R_slice hR
    exact ⟨A, m, he, Aside0.mk (CutS.made w p hB hR)⟩
  have CA : ∀ W A m, Aside0 (CutS w p (.slice A (cellsP p).1.length m) (cellsP p).1 W) → Calls Tryz.prog 24 #[.slice A (cellsP p).1.length m, .string key] W fun e w' => e = .returned (.tuple #[.int .i64 ((posB (cellsP p).1 key.data.toList : Nat) : Int), .bool false]) ∧ Aside0 (CutS w p (.slice A (cellsP p).1.length m) (cellsP p).1 w') := by
    intro W A m hS
    obtain ⟨_, _, hC⟩ := Kd.R_reads' hS.out.row
    refine (at_calls W _ m _ key hC hlen hrise).mono ?_
    rintro e w' ⟨he, e1⟩
    exact ⟨by rw [he, hf]; rfl, Aside0.mk (hS.out.eff0 e1)⟩
  clear hb hf hrise
  unfold Pg.val cut0 at CC
  generalize (cellsP p).1 = l at *
  generalize posB l key.data.toList = i at *
  clear hlen
  go_enter Tryz.func11, Tryz.ntmps11
  go_wp2_with (first
    | (go_at_call 22; refine CC.mono ?_; rintro e w1 ⟨A, m, rfl, T1⟩; clear CC)
    | (go_at_call 24; refine (CA _ _ _ T1).mono ?_; rintro e w2 ⟨rfl, T2⟩; obtain ⟨_, b2, f2⟩ := T2.out.blk0; have b20 := b2 0; have b21 := b2 1; have b22 := b2 2; have b23 := b2 3; clear b2 CA))
  refine bodyPost_ret (results_ct rfl _ _ (w.heap.size + 1) 23 #[.int .i64 0, .int .i64 0, .int .i64 0, .string ⟨#[]⟩] (0, 0) _ rfl (four_set T2.out.r _ _ _ _) Tryz.underlying23 rfl (by kernel_rfl)) rfl ?_
  exact ⟨rfl, eff_four T2.out.e (by omega) _ _ _ _⟩
set_option maxHeartbeats 1600000 in
set_option maxRecDepth 100000 in
theorem cut_one (w : World) (p : Pg) (key : ByteArray) (d : B) (hb : (cellsP p).2 = true) (hf : findB (cellsP p).1 key.data.toList = some d) : Calls Tryz.prog 11 #[p.val, .string key] w fun e w' => e = .returned (.tuple #[(withP p (cutB (cellsP p).1 key.data.toList)).1.val, .int .i64 (withP p (cutB (cellsP p).1 key.data.toList)).2]) ∧ Eff0 w w' := by
  have hrise := rise_cellsP p
  have hlen := len_cellsP p
  obtain ⟨hlt, -, -, -⟩ := pos_had hrise hf
  have CC : Calls Tryz.prog 22 #[p.val] (cut0 w p) fun e w' => ∃ g m, e = .returned (.tuple #[.slice (some ⟨g, 0, none⟩) (cellsP p).1.length m, .bool true]) ∧ Aside0 (CutS w p (.slice (some ⟨g, 0, none⟩) (cellsP p).1.length m) (cellsP p).1 w') := by
    refine (cells_calls _ p).mono ?_
    rintro e w' ⟨v, he, hR, hB⟩
    rw [hb] at he
    obtain ⟨g, m, rfl, _⟩ := Kd.R_form hR (by omega)
    exact ⟨g, m, he, Aside0.mk (CutS.made w p hB hR)⟩
  have CA : ∀ W g m, Aside0 (CutS w p (.slice (some ⟨g, 0, none⟩) (cellsP p).1.length m) (cellsP p).1 W) → Calls Tryz.prog 24 #[.slice (some ⟨g, 0, none⟩) (cellsP p).1.length m, .string key] W fun e w' => e = .returned (.tuple #[.int .i64 ((posB (cellsP p).1 key.data.toList : Nat) : Int), .bool true]) ∧ Aside0 (CutS w p (.slice (some ⟨g, 0, none⟩) (cellsP p).1.length m) (cellsP p).1 w') := by
    intro W g m hS
    obtain ⟨_, _, hC⟩ := Kd.R_reads' hS.out.row
    refine (at_calls W _ m _ key hC hlen hrise).mono ?_
    rintro e w' ⟨he, e1⟩
    exact ⟨by rw [he, hf]; rfl, Aside0.mk (hS.out.eff0 e1)⟩
  have CD : ∀ W g m, Aside0 (CutS w p (.slice (some ⟨g, 0, none⟩) (cellsP p).1.length m) (cellsP p).1 W) → Calls Tryz.prog 30 #[.slice (some ⟨g, 0, none⟩) (cellsP p).1.length m, .int .i64 ((posB (cellsP p).1 key.data.toList : Nat) : Int), .int .i64 (((posB (cellsP p).1 key.data.toList : Nat) : Int) + 1)] W fun e w' => ∃ n', e = .returned (.slice (some ⟨g, 0, none⟩) n' m) ∧ Aside0 (CutS w p (.slice (some ⟨g, 0, none⟩) n' m) (cutB (cellsP p).1 key.data.toList) w') := by
    intro W g m hS
    have hS2 := hS.out
    have hd := cut_had hrise hf
    obtain ⟨n, hn⟩ : ∃ n, (cellsP p).1.length = n + 1 := ⟨(cellsP p).1.length - 1, by omega⟩
    rw [hn] at hS2 ⊢
    have hg : w.heap.size + 2 ≤ g := Kd.R_base hS2.row g (by simp [Value.ownBlock])
    have hsz := blk_lt hS2.r
    refine (delete_calls W (w.heap.size + 2) g m _ n _ hS2.row (by omega) (by omega) (by omega)).mono ?_
    rintro e w' ⟨rfl, h4, h5⟩
    rw [hd] at h4
    exact ⟨n, rfl, Aside0.mk (hS2.eff h5 (by rintro k rfl; exact hg) h4)⟩
  have CW : ∀ W A n m, Aside0 (CutS w p (.slice A n m) (cutB (cellsP p).1 key.data.toList) W) → Calls Tryz.prog 26 #[p.val, .slice A n m] W fun e w' => e = .returned (.tuple #[(withP p (cutB (cellsP p).1 key.data.toList)).1.val, .int .i64 (withP p (cutB (cellsP p).1 key.data.toList)).2]) ∧ Aside0 (CutS w p (.slice A n m) (cutB (cellsP p).1 key.data.toList) w') := by
    intro W A n m hS
    obtain ⟨h3, _, hC⟩ := Kd.R_reads' hS.out.row
    subst h3
    refine (with_calls _ p _ m _ hC).mono ?_
    rintro e w' ⟨he, e1⟩
    exact ⟨he, Aside0.mk (hS.out.eff0 e1)⟩
  unfold Pg.val at CC CW ⊢
  unfold cut0 at CC
  generalize withP p (cutB (cellsP p).1 key.data.toList) = res at CW ⊢
  obtain ⟨⟨qk, qd, qn, qs⟩, qe⟩ := res
  dsimp only at CW ⊢
  clear hb hf hrise
  generalize cutB (cellsP p).1 key.data.toList = l2 at *
  generalize (cellsP p).1 = l at *
  generalize posB l key.data.toList = i at *
  have p1 : wrap64 ((i : Int) + 1) = (i : Int) + 1 := by unfold wrap64; omega
  have p2 : IntKind.i64.wrap ((i : Int) + 1) = (i : Int) + 1 := by rw [IntKind.wrap_i64]; omega
  clear hlen
  have DR : ∀ W v l, Aside0 (CutS w p v l W) → Aside0 (CutS w p v l W.drew) := fun W v l h => Aside0.mk (h.out.eff0 (Eff.refl _ _).drew)
  go_enter Tryz.func11, Tryz.ntmps11
  go_wp2_with (first
    | (go_at_call 22; refine CC.mono ?_; rintro e w1 ⟨A, m, rfl, T1⟩; clear CC)
    | (go_at_call 24; refine (CA _ _ _ T1).mono ?_; rintro e w2 ⟨rfl, T2⟩; replace T2 := DR _ _ _ T2; obtain ⟨b0, _, _⟩ := T2.out.blk0; have b00 := b0 0; have b01 := b0 1; have b02 := b0 2; have b03 := b0 3; clear b0 CA T1))
  go_region_with (first
    | (go_at_call 30; refine (CD _ _ _ T2).mono ?_; rintro e w3 ⟨n', rfl, T3⟩; obtain ⟨b0, _, _⟩ := T3.out.blk0; have b00 := b0 0; have b01 := b0 1; have b02 := b0 2; have b03 := b0 3; clear b0)
    | (go_at_call 26; refine (CW _ _ _ _ T3).mono ?_; rintro e w4 ⟨rfl, T4⟩; obtain ⟨_, b2, f2⟩ := T4.out.blk0; have b20 := b2 0; have b21 := b2 1; have b22 := b2 2; have b23 := b2 3; clear b2))
  all_goals
    go_wp2
    refine bodyPost_ret (results_ct rfl _ _ (w.heap.size + 1) 23 #[.int .i64 qk, .int .i64 qd, .int .i64 qn, .string qs] (0, 0) _ rfl (four_set T4.out.r _ _ _ _) Tryz.underlying23 rfl (by kernel_rfl)) rfl ?_
    exact ⟨rfl, eff_four T4.out.e (by omega) _ _ _ _⟩
theorem cut_calls (w : World) (p : Pg) (key : ByteArray) : Calls Tryz.prog 11 #[p.val, .string key] w fun e w' => e = .returned (.tuple #[(cutP p key.data.toList).1.val, .int .i64 (cutP p key.data.toList).2]) ∧ Eff0 w w' := by
  unfold cutP
  cases hb : (cellsP p).2 with
  | false => rw [if_pos rfl]; exact cut_form w p key hb
  | true =>
    rw [if_neg (by simp)]
    cases hf : findB (cellsP p).1 key.data.toList with
    | none => rw [if_pos (show (none : Option B).isNone = true from rfl)]; exact cut_none w p key hb hf
    | some d => rw [if_neg (show ¬ (some d).isNone = true by simp)]; exact cut_one w p key d hb hf
end Go.Proofs.YtcmepoakcffpaaaGreat.CP
namespace Go.Proofs.YtcmepoakcffpaaaGreat.CP
open Go Go.RowKit Go.Proofs.YtcmepoakcffpaaaGreatW.PrintWords Go.Proofs.YtcmepoakcffpaaaGreatW.PrintLast Go.Proofs.YtcmepoakcffpaaaGreatW.PrintMore Go.Proofs.YtcmepoakcffpaaaGreat.CR Go.Proofs.YtcmepoakcffpaaaGreat.L
set_option linter.unusedVariables false
set_option linter.unusedSimpArgs false
/-- A page that holds just these cells. -/
structure IsP (p : Pg) (l : List B) : Prop where
  kind : p.kind = 3 ∨ p.kind = 4
  good : Good l
  le : tot l ≤ 239
  body : putF (l.map B.cl) = (p.body, true)
theorem IsP.cells {p : Pg} {l : List B} (h : IsP p l) : cellsP p = (l, true) := by
  unfold cellsP
  rw [if_pos h.kind]
  have h1 := putF_put h.body
  have h2 := getF_put h1
  have e : (⟨p.body.data.toList.toArray⟩ : ByteArray) = p.body := by rw [Array.toArray_toList]
  rwa [e] at h2
theorem IsP.of_cells {p : Pg} {l : List B} (h : cellsP p = (l, true)) : IsP p l := by
  unfold cellsP at h
  split at h
  · rename_i hk
    exact ⟨hk, (good_of_get h).1, (good_of_get h).2, getF_true h⟩
  · injection h with _ h2; cases h2
theorem put_of_good {l : List B} (h : Good l) (ht : tot l ≤ 239) : ∃ b, putF (l.map B.cl) = (b, true) := by
  obtain ⟨b, hb⟩ := h.put.1 ht
  exact ⟨_, by unfold putF; rw [hb]⟩
theorem put_of_long {l : List B} (h : Good l) (ht : ¬ tot l ≤ 239) : putF (l.map B.cl) = (⟨#[]⟩, false) := by unfold putF; rw [h.put.2 ht]
theorem with_fits (p : Pg) (hk : p.kind = 3 ∨ p.kind = 4) {l : List B} (h : Good l) (ht : tot l ≤ 239) : ∃ b, withP p l = (⟨p.kind, p.depth, p.next, b⟩, 0) ∧ IsP ⟨p.kind, p.depth, p.next, b⟩ l := by
  obtain ⟨b, hb⟩ := put_of_good h ht
  refine ⟨b, ?_, hk, h, ht, hb⟩
  unfold withP
  rw [hb]
  rfl
theorem with_long (p : Pg) {l : List B} (h : Good l) (ht : ¬ tot l ≤ 239) : withP p l = (Pg.none, 13) := by
  unfold withP
  rw [put_of_long h ht]
  rfl
theorem IsP.set {p : Pg} {l : List B} (h : IsP p l) {c : B} (hc : right c.cl = true) (ht : tot (setB l c) ≤ 239) : ∃ b, setP p c = (⟨p.kind, p.depth, p.next, b⟩, 0) ∧ IsP ⟨p.kind, p.depth, p.next, b⟩ (setB l c) := by
  unfold setP
  rw [h.cells]
  dsimp only
  rw [if_neg (by simp), if_neg (by rw [hc]; simp)]
  exact with_fits p h.kind (h.good.set hc) ht
theorem IsP.set_long {p : Pg} {l : List B} (h : IsP p l) {c : B} (hc : right c.cl = true) (ht : ¬ tot (setB l c) ≤ 239) : setP p c = (Pg.none, 13) := by
  unfold setP
  rw [h.cells]
  dsimp only
  rw [if_neg (by simp), if_neg (by rw [hc]; simp)]
  exact with_long p (h.good.set hc) ht
theorem IsP.set_arg {p : Pg} {l : List B} (h : IsP p l) {c : B} (hc : right c.cl = false) : setP p c = (Pg.none, 1) := by
  unfold setP
  rw [h.cells]
  dsimp only
  rw [if_neg (by simp), if_pos hc]
theorem tot_cut_le (l : List B) (key : List UInt8) : tot (cutB l key) ≤ tot l := by
  unfold cutB
  induction l with
  | nil => simp
  | cons a l ih =>
    rw [List.filter_cons]
    split
    · rw [tot_cons, tot_cons]; omega
    · rw [tot_cons]; omega
theorem IsP.cut {p : Pg} {l : List B} (h : IsP p l) {key : List UInt8} {d : B} (hf : findB l key = some d) : ∃ b, cutP p key = (⟨p.kind, p.depth, p.next, b⟩, 0) ∧ IsP ⟨p.kind, p.depth, p.next, b⟩ (cutB l key) := by
  unfold cutP
  rw [h.cells]
  dsimp only
  rw [if_neg (by simp), hf, if_neg (by simp)]
  exact with_fits p h.kind (h.good.cut key) (Nat.le_trans (tot_cut_le l key) h.le)
theorem IsP.cut_none {p : Pg} {l : List B} (h : IsP p l) {key : List UInt8} (hf : findB l key = none) : cutP p key = (Pg.none, 3) := by
  unfold cutP
  rw [h.cells]
  dsimp only
  rw [if_neg (by simp), hf, if_pos (by simp)]
theorem IsP.eq {p q : Pg} {l : List B} (h : IsP p l) (h' : IsP q l) (h1 : p.kind = q.kind) (h2 : p.depth = q.depth) (h3 : p.next = q.next) : p = q := by
  obtain ⟨a, b, c, d⟩ := p
  obtain ⟨a', b', c', d'⟩ := q
  have := h.body.symm.trans h'.body
  injection this with h4
  simp only at h1 h2 h3 h4
  rw [h1, h2, h3, h4]
theorem IsP.room {p : Pg} {l : List B} (h : IsP p l) : roomP p = 239 - ((tot l : Nat) : Int) := by
  unfold roomP
  rw [h.cells]
  dsimp only
  rw [if_neg (by simp)]
theorem putF_of {l : List Cl} {b : List UInt8} (h : put l = some b) : putF l = (⟨b.toArray⟩, true) := by simp [putF, h]
/-- A body of zeros. -/
def zeros240 : ByteArray := strOfNums (List.replicate 240 0)
theorem zeros_data : zeros240.data.toList = List.replicate 240 0 := by
  unfold zeros240
  rw [strOfNums_data, List.map_replicate]
  rfl
theorem isP_empty (k d n : Int) (hk : k = 3 ∨ k = 4) : IsP ⟨k, d, n, zeros240⟩ [] := by
  refine ⟨hk, Good.nil, by rw [tot_nil]; omega, ?_⟩
  have hz := zeros_data
  have : put ([] : List Cl) = some (List.replicate 240 0) := by decide +kernel
  have h2 := putF_of this
  generalize List.replicate 240 (0 : UInt8) = r at *
  rw [List.map_nil, h2]
  congr 1
  exact eq_of_data hz.symm
theorem set_nil (c : B) : setB [] c = [c] := rfl
theorem cut_one_nil (c : B) : cutB [c] c.kk = [] := by simp [cutB]
def kv : B := ⟨⟨#[107]⟩, ⟨#[118]⟩, 0, 0⟩
theorem alive_facts : ∃ b, setP ⟨3, 1, 5, zeros240⟩ kv = (⟨3, 1, 5, b⟩, 0) ∧ findD (cellsP ⟨3, 1, 5, b⟩).1 kv.kk = kv ∧ findB (cellsP ⟨3, 1, 5, b⟩).1 kv.kk = some kv ∧ roomP ⟨3, 1, 5, b⟩ = 233 ∧ cutP ⟨3, 1, 5, b⟩ kv.kk = (⟨3, 1, 5, zeros240⟩, 0) := by
  have h0 := isP_empty 3 1 5 (.inl rfl)
  have hr : right kv.cl = true := by decide
  have ht : tot (setB [] kv) = 6 := by decide
  obtain ⟨b, h1, h2⟩ := h0.set hr (by rw [ht]; omega)
  have hf : findB (setB [] kv) kv.kk = some kv := by rw [find_setB List.Pairwise.nil, if_pos rfl]
  have hc := h2.cells
  refine ⟨b, h1, ?_, ?_, ?_, ?_⟩
  · rw [hc]; unfold findD; rw [hf]; rfl
  · rw [hc]; exact hf
  · rw [h2.room, ht]; rfl
  · obtain ⟨b', h3, h4⟩ := h2.cut hf
    rw [set_nil, cut_one_nil] at h4
    rw [h3, IsP.eq h4 h0 rfl rfl rfl]
end Go.Proofs.YtcmepoakcffpaaaGreat.CP
