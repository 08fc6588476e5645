import Derived.Test.YtiagbkpggeglgaaRK2
import Derived.Test.YtiagbkpggeglgaaProg
import Derived.BigRegion
import Derived.BigQuiet
import Derived.Deep.QuietTactic
import Derived.Deep.AppendLies
import Derived.ChangeAlike
import Derived.Outline
import Derived.WalkKit
import Derived.KernelRfl
import Derived.Deep.LoopGhost
import Derived.Deep.RegionLaw
import Derived.Test.YtiagbkpggeglgaaWMore
import Derived.Test.YtiagbkpggeglgaaWKept
import Derived.Test.YtiagbkpggeglgaaLSep
namespace Go.Proofs.Ytiagbkpggeglgaa.RS
open Go Go.RowKit Go.Proofs.YtiagbkpggeglgaaW.PrintWords Go.Proofs.YtiagbkpggeglgaaW.PrintLast Go.Proofs.YtiagbkpggeglgaaW.PrintMore Go.Proofs.Ytiagbkpggeglgaa.L
set_option linter.unusedVariables false
set_option linter.unusedSimpArgs false
/-! ### states that tell the same, in whatever order -/
theorem any_perm {α : Type} {l m : List α} (h : l.Perm m) (p : α → Bool) : l.any p = m.any p := by
  rw [Bool.eq_iff_iff, List.any_eq_true, List.any_eq_true]
  exact ⟨fun ⟨x, hx, hp⟩ => ⟨x, h.mem_iff.1 hx, hp⟩, fun ⟨x, hx, hp⟩ => ⟨x, h.mem_iff.2 hx, hp⟩⟩
theorem find_nodup {α : Type} : ∀ {l : List (Int × α)}, (l.map (·.1)).Nodup → ∀ {p : Int × α}, p ∈ l → l.find? (fun q => decide (q.1 = p.1)) = some p
  | [], _, _, h => by cases h
  | x :: l, hn, p, h => by
    rw [List.map_cons, List.nodup_cons] at hn
    rcases List.mem_cons.1 h with rfl | h
    · rw [List.find?_cons_of_pos (by simp)]
    · have hne : x.1 ≠ p.1 := fun e => hn.1 (List.mem_map.2 ⟨p, h, e.symm⟩)
      rw [List.find?_cons_of_neg (by simpa using hne)]
      exact find_nodup hn.2 h
theorem find_perm {α : Type} {l m : List (Int × α)} (h : l.Perm m) (hn : (l.map (·.1)).Nodup) (k : Int) : l.find? (fun q => decide (q.1 = k)) = m.find? (fun q => decide (q.1 = k)) := by
  have hm : (m.map (·.1)).Nodup := (h.map _).nodup_iff.1 hn
  cases hf : l.find? (fun q => decide (q.1 = k)) with
  | none =>
    rw [eq_comm, List.find?_eq_none]
    intro x hx
    exact List.find?_eq_none.1 hf x (h.mem_iff.2 hx)
  | some p =>
    have h1 := List.mem_of_find?_eq_some hf
    have h2 : p.1 = k := by simpa using List.find?_some hf
    subst h2
    exact (find_nodup hm (h.mem_iff.1 h1)).symm
theorem getP_perm {l m : List (Int × Tp)} (h : l.Perm m) (hn : (l.map (·.1)).Nodup) (k : Int) : getP l k = getP m k := by
  unfold getP
  rw [find_perm h hn]
theorem putP_form {l : List (Int × Tp)} (hn : (l.map (·.1)).Nodup) (k : Int) (v : Tp) : (putP l k v).Perm ((k, v) :: delP l k) := by
  unfold putP
  by_cases ha : l.any (fun p => decide (p.1 = k)) = true
  · rw [if_pos ha]
    obtain ⟨q, hq, hk⟩ := List.any_eq_true.1 ha
    have hk2 : q.1 = k := by simpa using hk
    subst hk2
    have h1 := perm_draw (fun p : Int × Tp => p.1) hn hq
    refine (h1.map _).trans ?_
    rw [List.map_cons, if_pos rfl]
    refine List.Perm.cons _ ?_
    unfold delP
    rw [List.map_congr_left (g := id) (fun p hp => ?_), List.map_id]
    have := (List.mem_filter.1 hp).2
    simp only [decide_eq_true_eq] at this
    rw [if_neg this]
    rfl
  · rw [if_neg ha]
    have hd : delP l k = l := by
      unfold delP
      rw [List.filter_eq_self.2]
      intro p hp
      simp only [decide_eq_true_eq]
      exact fun e => ha (List.any_eq_true.2 ⟨p, hp, by simpa using e⟩)
    rw [hd]
    exact List.perm_append_comm
theorem delP_nodup {l : List (Int × Tp)} (hn : (l.map (·.1)).Nodup) (k : Int) : ((delP l k).map (·.1)).Nodup := hn.sublist (List.Sublist.map _ List.filter_sublist)
theorem putP_nodup {l : List (Int × Tp)} (hn : (l.map (·.1)).Nodup) (k : Int) (v : Tp) : ((putP l k v).map (·.1)).Nodup := by
  rw [((putP_form hn k v).map _).nodup_iff, List.map_cons, List.nodup_cons]
  refine ⟨fun h => ?_, delP_nodup hn k⟩
  obtain ⟨p, hp, he⟩ := List.mem_map.1 h
  have := (List.mem_filter.1 hp).2
  simp only [decide_eq_true_eq] at this
  exact this he
/-- Each is known by its number. -/
def Keyed (t : List (Int × Tp)) : Prop := ∀ p ∈ t, p.2.tx = p.1
theorem putP_keyed {l : List (Int × Tp)} (hn : (l.map (·.1)).Nodup) (hk : Keyed l) (k : Int) (v : Tp) (hv : v.tx = k) : Keyed (putP l k v) := by
  intro p hp
  rcases List.mem_cons.1 ((putP_form hn k v).mem_iff.1 hp) with rfl | hp
  · exact hv
  · exact hk p (List.mem_filter.1 hp).1
theorem readT_ok {t : List (Int × Tp)} (hn : (t.map (·.1)).Nodup) (hk : Keyed t) (lsn : Int) (r : Rc) : ((readT t lsn r).map (·.1)).Nodup ∧ Keyed (readT t lsn r) := by
  unfold readT
  split
  · exact ⟨delP_nodup hn _, fun p hp => hk p (List.mem_filter.1 hp).1⟩
  · split
    · exact ⟨putP_nodup hn _ _, putP_keyed hn hk _ _ rfl⟩
    · split
      · exact ⟨putP_nodup hn _ _, putP_keyed hn hk _ _ rfl⟩
      · exact ⟨hn, hk⟩
theorem putP_perm {l m : List (Int × Tp)} (h : l.Perm m) (hn : (l.map (·.1)).Nodup) (k : Int) (v : Tp) : (putP l k v).Perm (putP m k v) :=
  (putP_form hn k v).trans (((h.filter _).cons _).trans (putP_form ((h.map _).nodup_iff.1 hn) k v).symm)
theorem readT_perm {t u : List (Int × Tp)} (h : t.Perm u) (hn : (t.map (·.1)).Nodup) (lsn : Int) (r : Rc) : (readT t lsn r).Perm (readT u lsn r) := by
  unfold readT
  split
  · exact h.filter _
  · split
    · exact putP_perm h hn _ _
    · split
      · rw [getP_perm h hn]
        exact putP_perm h hn _ _
      · exact h
theorem dirtF_perm {d e : List (Int × Int)} (h : d.Perm e) (n lsn : Int) : (dirtF d n lsn).Perm (dirtF e n lsn) := by
  unfold dirtF
  rw [any_perm h]
  split
  · exact h
  · exact h.append_right _
theorem dirtsF_perm (lsn : Int) : ∀ (l : List Int) {d e : List (Int × Int)}, d.Perm e → (dirtsF d l lsn).Perm (dirtsF e l lsn)
  | [], _, _, h => h
  | n :: l, _, _, h => dirtsF_perm lsn l (dirtF_perm h n lsn)
/-- Two states tell the same. -/
structure Eqv (a b : Ab) : Prop where
  t : a.t.Perm b.t
  d : a.d.Perm b.d
/-- A state as it may be. -/
structure Fine (a : Ab) : Prop where
  t : (a.t.map (·.1)).Nodup
  k : Keyed a.t
  d : (a.d.map (·.1)).Nodup
theorem Fine.nil : Fine ⟨[], []⟩ := ⟨by simp, (fun p h => by cases h), by simp⟩
theorem Fine.read {a : Ab} (h : Fine a) (lsn : Int) (r : Rc) : Fine (readA a lsn r) := ⟨(readT_ok h.t h.k lsn r).1, (readT_ok h.t h.k lsn r).2, dirtsF_nodup _ _ h.d⟩
theorem Fine.go : ∀ (l : List Rc) {a : Ab} (k : Int), Fine a → Fine (goA a k l)
  | [], _, _, h => h
  | r :: l, _, k, h => Fine.go l (k + 1) (h.read (k + 1) r)
theorem Eqv.go : ∀ (l : List Rc) {a b : Ab} (k : Int), Fine a → Eqv a b → Eqv (goA a k l) (goA b k l)
  | [], _, _, _, _, h => h
  | r :: l, _, _, k, f, h => Eqv.go l (k + 1) (f.read (k + 1) r) ⟨readT_perm h.t f.t (k + 1) r, dirtsF_perm _ _ h.d⟩
theorem put_all : ∀ (ts : List Tv) (acc : List (Int × Tp)), ((acc ++ ts.map (fun x => (x.tx, x.ab))).map (·.1)).Nodup → ts.foldl (fun t x => putP t x.tx x.ab) acc = acc ++ ts.map (fun x => (x.tx, x.ab))
  | [], acc, _ => by simp
  | x :: ts, acc, h => by
    have e : putP acc x.tx x.ab = acc ++ [(x.tx, x.ab)] := by
      unfold putP
      rw [if_neg]
      intro ha
      obtain ⟨q, hq, hk⟩ := List.any_eq_true.1 ha
      have hk2 : q.1 = x.tx := by simpa using hk
      rw [List.map_append, List.nodup_append] at h
      exact h.2.2 q.1 (List.mem_map.2 ⟨q, hq, rfl⟩) x.tx (by simp) hk2
    rw [List.foldl_cons, e, put_all ts _ (by simpa using h)]
    simp
theorem dirt_all : ∀ (ds acc : List (Int × Int)), ((acc ++ ds).map (·.1)).Nodup → ds.foldl (fun d x => dirtF d x.1 x.2) acc = acc ++ ds
  | [], acc, _ => by simp
  | x :: ds, acc, h => by
    have e : dirtF acc x.1 x.2 = acc ++ [x] := by
      unfold dirtF
      rw [if_neg]
      intro ha
      obtain ⟨q, hq, hk⟩ := List.any_eq_true.1 ha
      have hk2 : q.1 = x.1 := by simpa using hk
      rw [List.map_append, List.nodup_append] at h
      exact h.2.2 q.1 (List.mem_map.2 ⟨q, hq, rfl⟩) x.1 (by simp) hk2
    rw [List.foldl_cons, e, dirt_all ds _ (by simpa using h)]
    simp
theorem touch_nil2 : touchF [] = [] := by
  unfold touchF sortI
  simp [Go.Lib.compact, Go.Lib.compactUpTo, List.mergeSort]
theorem ana_zero (l : List Rc) : anaA 0 l = goA ⟨[], []⟩ 0 l := by unfold anaA startA; rw [if_pos rfl]; rfl
/-- A checkpoint that tells what the records ahead of it tell changes nothing. -/
theorem check_same (l m : List Rc) (c : Rc) (hk : c.kd = 7) (hp : c.ps = []) (ht : (c.ts.map Tv.ab).Perm ((anaA 0 l).t.map (·.2))) (hd : c.ds.Perm (anaA 0 l).d) : Eqv (anaA ((l.length : Int) + 1) (l ++ c :: m)) (anaA 0 (l ++ c :: m)) ∧ Fine (anaA 0 (l ++ c :: m)) := by
  have f := Fine.go l 0 Fine.nil
  have e0 : anaA 0 l = goA ⟨[], []⟩ 0 l := ana_zero l
  rw [e0] at ht hd
  have hg : ((l ++ c :: m).getD (((l.length : Int) + 1).toNat - 1) default) = c := by
    rw [show ((l.length : Int) + 1).toNat - 1 = l.length by omega]
    simp [List.getD]
  have hm : (c.ts.map (fun x => (x.tx, x.ab))).Perm (goA ⟨[], []⟩ 0 l).t := by
    have h1 := ht.map (fun v : Tp => (v.tx, v))
    rw [List.map_map, List.map_map] at h1
    refine h1.trans ?_
    rw [List.map_congr_left (g := id) (fun p hp => ?_), List.map_id]
    show (p.2.tx, p.2) = p
    rw [f.k p hp]
  have hs : Eqv (startA ((l.length : Int) + 1) (l ++ c :: m)) (goA ⟨[], []⟩ 0 l) := by
    unfold startA
    rw [if_neg (by omega), hg]
    refine ⟨?_, ?_⟩
    · show (c.ts.foldl (fun t x => putP t x.tx x.ab) []).Perm _
      rw [put_all c.ts [] (by rw [List.nil_append]; exact (hm.map _).nodup_iff.2 f.t), List.nil_append]
      exact hm
    · show (c.ds.foldl (fun d x => dirtF d x.1 x.2) []).Perm _
      rw [dirt_all c.ds [] (by rw [List.nil_append]; exact (hd.map _).nodup_iff.2 f.d), List.nil_append]
      exact hd
  have hc : readA (goA ⟨[], []⟩ 0 l) ((l.length : Int) + 1) c = goA ⟨[], []⟩ 0 l := by
    unfold readA readT
    rw [if_neg (by rw [hk]; decide), if_neg (by rw [hk]; decide), if_neg (by rw [hk]; decide), hp, touch_nil2]
    rfl
  have e1 : anaA 0 (l ++ c :: m) = goA (goA ⟨[], []⟩ 0 l) ((l.length : Int) + 1) m := by
    rw [ana_zero, goA_append, Int.zero_add]
    show goA (readA (goA ⟨[], []⟩ 0 l) ((l.length : Int) + 1) c) ((l.length : Int) + 1) m = _
    rw [hc]
  have e2 : (l ++ c :: m).drop (((l.length : Int) + 1).toNat) = m := by
    rw [show ((l.length : Int) + 1).toNat = l.length + 1 by omega]
    simp
  rw [e1]
  refine ⟨?_, Fine.go m _ f⟩
  unfold anaA
  rw [e2]
  have fs : Fine (startA ((l.length : Int) + 1) (l ++ c :: m)) := ⟨(hs.t.map _).nodup_iff.2 f.t, fun p hp => f.k p (hs.t.mem_iff.1 hp), (hs.d.map _).nodup_iff.2 f.d⟩
  exact Eqv.go m _ fs hs
theorem same_of {a b : Ab} (h : Eqv a b) (f : Fine b) {xa xb : List Tv} {da db : List (Int × Int)} (ta : (xa.map Tv.ab).Perm (a.t.map (·.2))) (tb : (xb.map Tv.ab).Perm (b.t.map (·.2))) (sa : xa.Pairwise (fun a b => a.tx ≤ b.tx)) (sb : xb.Pairwise (fun a b => a.tx ≤ b.tx)) (ea : da.Perm a.d) (eb : db.Perm b.d) (pa : da.Pairwise (fun a b => a.1 ≤ b.1)) (pb : db.Pairwise (fun a b => a.1 ≤ b.1)) :
    xa.map Tv.ab = xb.map Tv.ab ∧ da = db ∧ fromL (a.d.map (·.2)) = fromL (b.d.map (·.2)) := by
  have hn : ((b.t.map (·.2)).map (fun v : Tp => v.tx)).Nodup := by
    have e : List.map ((fun v : Tp => v.tx) ∘ fun x : Int × Tp => x.2) b.t = b.t.map (·.1) := List.map_congr_left (fun p hp => f.k p hp)
    rw [List.map_map, e]
    exact f.t
  refine ⟨?_, ?_, fromL_perm (h.d.map _)⟩
  · have hp : (xa.map Tv.ab).Perm (xb.map Tv.ab) := ta.trans ((h.t.map _).trans tb.symm)
    refine sort_unique (fun v : Tp => v.tx) hp ?_ ?_ ?_
    · rw [List.pairwise_map]; exact sa
    · rw [List.pairwise_map]; exact sb
    · exact (((ta.trans (h.t.map _)).map _).nodup_iff).2 hn
  · exact sort_unique (fun p : Int × Int => p.1) (ea.trans (h.d.trans eb.symm)) pa pb (((ea.trans h.d).map _).nodup_iff.2 f.d)
end Go.Proofs.Ytiagbkpggeglgaa.RS
