import Derived.Test.YtcmepoakcffpaaaGreatCBu
import Derived.Test.YtcmepoakcffpaaaGreatCRf
import Derived.BigQuiet
import Derived.Deep.CutBlock
import Derived.Test.YtcmepoakcffpaaaGreatProg
import Derived.BigRegion
import Derived.Deep.QuietTactic
import Derived.Deep.AppendLies
import Derived.ChangeAlike
import Derived.Outline
import Derived.WalkKit
import Derived.KernelRfl
import Derived.Deep.LoopGhost
import Derived.Deep.RegionLaw
import Derived.Test.YtcmepoakcffpaaaGreatWMore
import Derived.Test.YtcmepoakcffpaaaGreatWKept
import Derived.Test.YtcmepoakcffpaaaGreatLSep
import Derived.Test.YtcmepoakcffpaaaGreatBKC
import Derived.Test.YtcmepoakcffpaaaGreatCAlive
import Derived.Test.YtcmepoakcffpaaaGreatBPx0
namespace Go.Proofs.YtcmepoakcffpaaaGreat.CP
open Go Go.RowKit Go.Proofs.YtcmepoakcffpaaaGreatW.PrintWords Go.Proofs.YtcmepoakcffpaaaGreatW.PrintLast Go.Proofs.YtcmepoakcffpaaaGreatW.PrintMore Go.Proofs.YtcmepoakcffpaaaGreat.L
set_option linter.unusedVariables false
set_option linter.unusedSimpArgs false
/-! ### the document's With, Without: the plain law -/
def wIn (c : B) (l : List B) (i : Nat) : Bool := (l.take i).any (fun x => !decide (x.kk < c.kk))
def wOut (c : B) (l : List B) (i : Nat) : List B := (l.take i).filter (fun x => decide (x.kk < c.kk)) ++ (if wIn c l i then c :: (l.take i).filter (fun x => decide (c.kk < x.kk)) else [])
theorem wIn_step (c : B) (l : List B) (i : Nat) (h : i < l.length) : wIn c l (i + 1) = (wIn c l i || !decide (l[i].kk < c.kk)) := by
  unfold wIn
  rw [List.take_succ_eq_append_getElem h, List.any_append]
  simp
theorem wIn_ge {c : B} {l : List B} {i : Nat} (hr : Rise l) (h : i < l.length) (hi : wIn c l i = true) : c.kk < l[i].kk := by
  unfold wIn at hi
  obtain ⟨x, hx, hc⟩ := List.any_eq_true.1 hi
  have hc2 : ¬ x.kk < c.kk := of_decide_eq_false (Bool.not_eq_true' _ |>.mp hc)
  have hlt : x.kk < l[i].kk := by
    obtain ⟨j, hj, rfl⟩ := List.getElem_of_mem hx
    rw [List.length_take] at hj
    rw [List.getElem_take]
    exact (List.pairwise_iff_getElem.1 hr) j i (by omega) h (by omega)
  rcases List.le_iff_lt_or_eq.mp (List.not_lt.mp hc2) with h1 | h1
  · exact List.lt_trans h1 hlt
  · rw [h1]; exact hlt
theorem no_gt {c : B} {l : List B} {i : Nat} (hi : wIn c l i = false) : (l.take i).filter (fun x => decide (c.kk < x.kk)) = [] := by
  rw [List.filter_eq_nil_iff]
  intro x hx
  unfold wIn at hi
  have := List.any_eq_false.1 hi x hx
  have h2 : x.kk < c.kk := by
    by_cases h : x.kk < c.kk
    · exact h
    · exact absurd (by rw [decide_eq_false h]; rfl) this
  intro h3
  exact kk_lt_asymm h2 (of_decide_eq_true h3)
theorem filter_one {p : B → Bool} (x : B) : [x].filter p = if p x = true then [x] else [] := by cases h : p x <;> simp [h]
/-- A step of With. -/
theorem wOut_step {c : B} {l : List B} (hr : Rise l) (i : Nat) (h : i < l.length) :
    wOut c l (i + 1) = (if (!wIn c l i && !decide (l[i].kk < c.kk)) = true then wOut c l i ++ [c] else wOut c l i) ++ (if l[i].kk = c.kk then [] else [l[i]]) := by
  have ht := List.take_succ_eq_append_getElem h
  have hw := wIn_step c l i h
  have hge := fun hi => wIn_ge (c := c) hr h hi
  have hno := fun hi => no_gt (c := c) (l := l) (i := i) hi
  unfold wOut
  rw [hw, ht, List.filter_append, List.filter_append, filter_one, filter_one]
  generalize l[i] = x at *
  generalize List.take i l = T at *
  generalize wIn c l i = b at *
  generalize hA : T.filter (fun x => decide (x.kk < c.kk)) = A at *
  generalize hG : T.filter (fun x => decide (c.kk < x.kk)) = G at *
  clear hw ht hr h hA hG
  cases b with
  | true =>
    have hg := hge rfl
    have hn : ¬ x.kk < c.kk := kk_lt_asymm hg
    have hne : ¬ x.kk = c.kk := fun e => by rw [e] at hg; exact absurd hg (List.lt_irrefl _)
    rw [decide_eq_false hn, decide_eq_true hg, if_neg hne, if_neg (by simp), if_pos (by simp), if_pos rfl, if_neg (by simp), if_pos rfl]
    simp
  | false =>
    have hG0 : G = [] := hno rfl
    subst hG0
    by_cases hlt : x.kk < c.kk
    · have hne : ¬ x.kk = c.kk := fun e => by rw [e] at hlt; exact absurd hlt (List.lt_irrefl _)
      rw [decide_eq_true hlt, if_pos rfl, if_neg (by simp), if_neg (by simp), if_neg (by simp), if_neg hne]
      simp
    · by_cases he : x.kk = c.kk
      · have hng : ¬ c.kk < x.kk := by rw [he]; exact List.lt_irrefl _
        have d1 : decide (x.kk < c.kk) = false := decide_eq_false hlt
        have d2 : decide (c.kk < x.kk) = false := decide_eq_false hng
        rw [d1, d2, if_pos he]
        simp only [Bool.not_false, Bool.or_true, Bool.and_self, Bool.false_eq_true, if_false, if_true, List.append_nil, List.nil_append, List.append_assoc]
      · have hg : c.kk < x.kk := (List.le_iff_lt_or_eq.mp (List.not_lt.mp hlt)).resolve_right (fun e => he e.symm)
        rw [decide_eq_false hlt, decide_eq_true hg, if_neg (by simp), if_pos (by simp), if_pos rfl, if_pos (by simp), if_neg (by simp), if_neg he]
        simp
theorem wOut_end {c : B} {l : List B} : (if wIn c l l.length = true then wOut c l l.length else wOut c l l.length ++ [c]) = setB l c := by
  unfold setB
  by_cases hi : wIn c l l.length = true
  · rw [if_pos hi]
    unfold wOut
    rw [hi, List.take_length]
    rfl
  · have hi0 : wIn c l l.length = false := by simpa using hi
    rw [if_neg hi]
    have := no_gt hi0
    rw [List.take_length] at this
    unfold wOut
    rw [hi0, List.take_length, this]
    simp
theorem wOut_len (c : B) (l : List B) (i : Nat) : (wOut c l i).length ≤ 2 * i + 1 := by
  unfold wOut
  have h1 := List.length_filter_le (fun x : B => decide (x.kk < c.kk)) (l.take i)
  have h2 := List.length_filter_le (fun x : B => decide (c.kk < x.kk)) (l.take i)
  have h3 : (l.take i).length ≤ i := by rw [List.length_take]; omega
  rw [List.length_append]
  split
  · rw [List.length_cons]; omega
  · rw [List.length_nil]; omega
theorem cut_step (key : List UInt8) (l : List B) (i : Nat) (h : i < l.length) : cutB (l.take (i + 1)) key = cutB (l.take i) key ++ (if l[i].kk = key then [] else [l[i]]) := by
  unfold cutB
  rw [List.take_succ_eq_append_getElem h, List.filter_append]
  by_cases e : l[i].kk = key <;> simp [e]
theorem cut_lt {l : List B} {key : List UInt8} : (cutB l key).length < l.length ↔ (findB l key).isSome = true := by
  cases hf : findB l key with
  | none =>
    rw [findB_none] at hf
    have : cutB l key = l := by
      unfold cutB
      rw [List.filter_eq_self]
      intro x hx
      simpa using hf x hx
    rw [this]
    simp
  | some d =>
    have hd : d ∈ l ∧ d.kk = key := by
      unfold findB at hf
      have h1 := List.find?_some hf
      exact ⟨List.mem_of_find?_eq_some hf, by simpa using h1⟩
    refine ⟨fun _ => rfl, fun _ => ?_⟩
    rcases Nat.lt_or_ge (cutB l key).length l.length with h | h
    · exact h
    · exfalso
      have h2 : cutB l key = l := List.filter_sublist.eq_of_length_le h
      have h3 : d ∈ cutB l key := by rw [h2]; exact hd.1
      exact (mem_cutB.1 h3).2 hd.2
end Go.Proofs.YtcmepoakcffpaaaGreat.CP
namespace Go.Proofs.YtcmepoakcffpaaaGreat.CP
open Go Go.RowKit Go.Proofs.YtcmepoakcffpaaaGreatW.PrintWords Go.Proofs.YtcmepoakcffpaaaGreatW.PrintLast Go.Proofs.YtcmepoakcffpaaaGreatW.PrintMore Go.Proofs.YtcmepoakcffpaaaGreat.L Go.Proofs.YtcmepoakcffpaaaGreat.MR
set_option linter.unusedVariables false
set_option linter.unusedSimpArgs false
/-! ### the document's Cells, With, Without, walked -/
set_option maxHeartbeats 1600000 in
set_option maxRecDepth 100000 in
theorem refcells_calls (w : World) (p : Pg) : Calls Tryz.prog 5 #[p.val] w fun e w' => ∃ A c, e = .returned (.tuple #[.slice A (cellsP p).1.length c, .bool (cellsP p).2]) ∧ Aside0 (Upd w (fun _ => False) (RB (.slice A (cellsP p).1.length c) (cellsP p).1) w') := by
  obtain ⟨k, d, n, s⟩ := p
  by_cases hk : k = 3 ∨ k = 4
  · have hc : cellsP ⟨k, d, n, s⟩ = getF s := by unfold cellsP; rw [if_pos hk]
    have CG : ∀ W, Eff0 w W → Calls Tryz.prog 21 #[.string s] W fun e w' => ∃ A c, e = .returned (.tuple #[.slice A (getF s).1.length c, .bool (getF s).2]) ∧ Aside0 (Upd w (fun _ => False) (RB (.slice A (getF s).1.length c) (getF s).1) w') := by
      intro W e
      have h := refget_calls W s
      rw [rget_is] at h
      refine h.mono ?_
      rintro e' w' ⟨A, c, rfl, hU⟩
      exact ⟨A, c, rfl, Aside0.mk (Upd.of e hU.out)⟩
    have HC := Aside0.mk hc
    have HG := Aside0.mk CG
    rw [hc]
    have e0 : Eff0 w (w.alloc (.cells #[.int .i64 k, .int .i64 d, .int .i64 n, .string s] 23)) := (Eff.refl _ _).alloc _
    clear hc CG
    generalize getF s = g at *
    rcases hk with rfl | rfl
    all_goals
      go_enter Tryz.func5, Tryz.ntmps5
      go_wp2_with (go_at_call 21; refine (HG.out _ e0).mono ?_; rintro e w' ⟨A, c, rfl, hU⟩)
      go_ret2
      exact ⟨A, c, rfl, hU⟩
  · have hc : cellsP ⟨k, d, n, s⟩ = ([], false) := by unfold cellsP; rw [if_neg hk]
    have k3 : (k = 3) = False := eq_false (fun h => hk (.inl h))
    have k4 : (k = 4) = False := eq_false (fun h => hk (.inr h))
    have k3n : (k != 3) = true := by simpa using fun h => hk (.inl h)
    have k4n : (k != 4) = true := by simpa using fun h => hk (.inr h)
    have k3b : (k == 3) = false := by simpa using fun h => hk (.inl h)
    have k4b : (k == 4) = false := by simpa using fun h => hk (.inr h)
    have e0 : Eff0 w (w.alloc (.cells #[.int .i64 k, .int .i64 d, .int .i64 n, .string s] 23)) := (Eff.refl _ _).alloc _
    have HC := Aside0.mk hc
    rw [hc]
    clear hk hc
    go_enter Tryz.func5, Tryz.ntmps5
    go_wp2_with fail
    go_ret2
    exact ⟨none, 0, rfl, Aside0.mk (Upd.same (RwAt.nil _) e0)⟩
theorem rb_grow {w wr W9 : World} {A : Option Addr} {c : Nat} {xs : List B} (U : Upd w (fun _ => False) (RB (.slice A xs.length c) xs) wr) (e : Eff0 wr W9) (x : B) (hm : xs.length < 700000) : ∃ (q : Option Addr × Nat) (W' : World), (∀ ty, (Builtin.append_ #[26, 26] ty #[.slice A xs.length c, .slice (some ⟨W9.heap.size, 0, none⟩) 1 1]).run Tryz.prog (W9.alloc (.cells #[.string x.k, .string x.v, .int .i64 x.bl, .int .i64 x.sz] 42)) = .ok (.slice q.1 (xs.length + 1) q.2) W') ∧ Upd w (fun _ => False) (RB (.slice q.1 (xs ++ [x]).length q.2) (xs ++ [x])) W' := by
  obtain ⟨F, hF, eF, kF⟩ := U
  obtain ⟨q, W', hr, hU⟩ := BK.row_add BK.kfCells (by decide) lenR oneR (HP.eff0 hF e) x (by omega)
  refine ⟨q, W', hr, ?_⟩
  rw [List.length_append, List.length_singleton]
  exact upd_go (eF.then0 e) kF hU
set_option maxHeartbeats 3200000 in
set_option maxRecDepth 100000 in
theorem without_calls (w : World) (A : Option Addr) (c : Nat) (l : List B) (key : ByteArray) (hr : Kd.C kdB w A l.length l) (hl : l.length < 600) :
    Calls Tryz.prog 12 #[.slice A l.length c, .string key] w fun e w' => ∃ A' c', e = .returned (.tuple #[.slice A' (cutB l key.data.toList).length c', .bool (findB l key.data.toList).isSome]) ∧ Aside0 (Upd w (fun _ => False) (RB (.slice A' (cutB l key.data.toList).length c') (cutB l key.data.toList)) w') := by
  have H := Aside0.mk hr
  clear hr
  go_enter Tryz.func12, Tryz.ntmps12
  go_wp2_with fail
  go_loopg [6, 7] l.length (fun k s6 s7 wr => ∃ (i c' : Nat) (A' : Option Addr) (xs : List B), s6 = .slice A' xs.length c' ∧ s7 = .int .i64 (i : Int) ∧ i + k = l.length ∧ xs.length ≤ i ∧ Aside0 (xs = cutB (l.take i) key.data.toList ∧ Upd w (fun _ => False) (RB (.slice A' xs.length c') xs) wr))
  case atStart => exact ⟨0, 0, none, [], rfl, rfl, by omega, Nat.le_refl _, Aside0.mk ⟨rfl, Upd.same (RwAt.nil w) (Eff.refl _ _)⟩⟩
  case round =>
    obtain ⟨i, c', A', xs, rfl, rfl, hik, hxi, U⟩ := hrel
    by_cases hi : i < l.length
    · have p1 : ((i : Int) < (l.length : Int)) = True := eq_true (by omega)
      have p0 : (0 ≤ (i : Int)) = True := eq_true (by omega)
      have hi6 : i < 600 := by omega
      obtain ⟨-, F, hF, eF, kF⟩ := U.out
      obtain ⟨ad, rfl, x0, x1, x2, x3⟩ := at_B (Kd.C_below H.out eF.below0) i hi
      have hq : l.getD i default = l[i] := by simp [List.getD_eq_getElem?_getD, hi]
      have hst := cut_step key.data.toList l i hi
      rw [← hq] at hst
      generalize l.getD i default = q at *
      have hke : q.k.toList = key.toList ↔ q.kk = key.data.toList := by rw [Lib.toList_data, Lib.toList_data]
      obtain ⟨Q, W', hr, hU⟩ := rb_grow U.out.2 (Eff.refl _ _) q (by omega)
      have U2 := Aside0.mk hU
      have T1 := Aside0.mk (And.intro hik (And.intro hi hst))
      clear hF eF kF hU hik hi hst hq
      by_cases he : q.kk = key.data.toList
      · have hs : (q.k.toList = key.toList) = True := eq_true (hke.2 he)
        have hsb : (q.k.toList == key.toList) = true := by simpa using hke.2 he
        have hkk : q.k = key := eq_of_data he
        have hsk : (q.k = key) = True := eq_true hkk
        have HE := Aside0.mk he
        clear hke he hr hkk
        go_wp2_with fail
        go_roundg (gk - 1)
        case measure => have := T1.out; omega
        case rel =>
          refine ⟨i + 1, c', A', xs, rfl, by simp, by have := T1.out; omega, by omega, Aside0.mk ⟨?_, U.out.2⟩⟩
          rw [T1.out.2.2, if_pos HE.out, List.append_nil]
          exact U.out.1
      · have hs : (q.k.toList = key.toList) = False := eq_false (fun h => he (hke.1 h))
        have hsb : (q.k.toList == key.toList) = false := by
          have : ¬ q.k.toList = key.toList := fun h => he (hke.1 h)
          simpa using this
        have hsk : (q.k = key) = False := eq_false (fun h => he (congrArg (fun b : ByteArray => b.data.toList) h))
        have HE := Aside0.mk he
        clear hke he
        go_wp2_with (at_builtin; refine Lib.wpList_append_run _ rfl (.tmp 21) (.tmp 26) 26 26 rfl _ _ rfl rfl _ _ (hr _) ?_)
        go_roundg (gk - 1)
        case measure => have := T1.out; omega
        case rel =>
          refine ⟨i + 1, Q.2, Q.1, xs ++ [q], by rw [List.length_append, List.length_singleton], by simp, by have := T1.out; omega, by rw [List.length_append, List.length_singleton]; omega, Aside0.mk ⟨?_, U2.out⟩⟩
          rw [T1.out.2.2, if_neg HE.out, ← U.out.1]
    · have p1 : ((i : Int) < (l.length : Int)) = False := eq_false (by omega)
      obtain rfl : i = l.length := by omega
      have hx : xs = cutB l key.data.toList := by have := U.out.1; rwa [List.take_length] at this
      have hb : decide (xs.length < l.length) = (findB l key.data.toList).isSome := by
        rw [hx]
        have := cut_lt (l := l) (key := key.data.toList)
        cases hh : (findB l key.data.toList).isSome
        · rw [hh] at this
          exact decide_eq_false (fun h => by have := this.1 (by omega); cases this)
        · rw [hh] at this
          exact decide_eq_true (by have := this.2 rfl; omega)
      have HB := Aside0.mk (And.intro hx hb)
      clear hx hb hik hi
      go_wp2_with fail
      go_ret2
      refine ⟨A', c', ?_, ?_⟩
      · rw [← HB.out.2, ← HB.out.1]
        rfl
      · rw [← HB.out.1]
        exact Aside0.mk U.out.2
end Go.Proofs.YtcmepoakcffpaaaGreat.CP
namespace Go.Proofs.YtcmepoakcffpaaaGreat.CP
open Go Go.RowKit Go.Proofs.YtcmepoakcffpaaaGreatW.PrintWords Go.Proofs.YtcmepoakcffpaaaGreatW.PrintLast Go.Proofs.YtcmepoakcffpaaaGreatW.PrintMore Go.Proofs.YtcmepoakcffpaaaGreat.L Go.Proofs.YtcmepoakcffpaaaGreat.MR
set_option linter.unusedVariables false
set_option linter.unusedSimpArgs false
set_option maxHeartbeats 3200000 in
set_option maxRecDepth 100000 in
theorem refwith_calls (w : World) (A : Option Addr) (c : Nat) (l : List B) (q : B) (hr : Kd.C kdB w A l.length l) (hs : Rise l) (hl : l.length < 300) :
    Calls Tryz.prog 7 #[.slice A l.length c, q.val] w fun e w' => ∃ A' c', e = .returned (.slice A' (setB l q).length c') ∧ Aside0 (Upd w (fun _ => False) (RB (.slice A' (setB l q).length c') (setB l q)) w') := by
  have e0 : Eff0 w (w.alloc (.cells #[.string q.k, .string q.v, .int .i64 q.bl, .int .i64 q.sz] 42)) := (Eff.refl _ _).alloc _
  obtain ⟨w1, hw1⟩ : ∃ w1, w1 = w.alloc (.cells #[.string q.k, .string q.v, .int .i64 q.bl, .int .i64 q.sz] 42) := ⟨_, rfl⟩
  have hbox : w1.heap[w.heap.size]? = some (.cells #[.string q.k, .string q.v, .int .i64 q.bl, .int .i64 q.sz] 42 (0, 0)) := by rw [hw1]; exact heap_alloc_new w _
  have H := Aside0.mk (And.intro (Kd.C_below hr e0.below0) (And.intro hs e0))
  rw [← hw1] at H
  have HW1 := Aside0.mk hw1
  have HBOX := Aside0.mk (And.intro hbox (show w.heap.size < w1.heap.size by rw [hw1]; simp))
  clear hr hs e0 hbox
  go_enter Tryz.func7, Tryz.ntmps7
  go_wp2_with fail
  rw [← hw1]
  clear hw1
  go_loopg [5, 6, 7] l.length (fun k s5 s6 s7 wr => ∃ (i c' : Nat) (A' : Option Addr) (xs : List B), s5 = .slice A' xs.length c' ∧ s6 = .bool (wIn q l i) ∧ s7 = .int .i64 (i : Int) ∧ i + k = l.length ∧ xs.length ≤ 2 * i + 1 ∧ Aside0 (xs = wOut q l i ∧ Upd w1 (fun _ => False) (RB (.slice A' xs.length c') xs) wr))
  case atStart => exact ⟨0, 0, none, [], rfl, rfl, rfl, by omega, by simp, Aside0.mk ⟨rfl, Upd.same (RwAt.nil w1) (Eff.refl _ _)⟩⟩
  case round =>
    rename Nat => gq
    obtain ⟨i, c', A', xs, rfl, rfl, rfl, hik, hxi, U⟩ := hrel
    obtain ⟨-, F, hF, eF, kF⟩ := U.out
    have hbx : wr.heap[w.heap.size]? = some (.cells #[.string q.k, .string q.v, .int .i64 q.bl, .int .i64 q.sz] 42 (0, 0)) := (eF.block _ HBOX.out.2 id).trans HBOX.out.1
    have b0 : wr.cell? ⟨w.heap.size, 0, none⟩ = some (.string q.k) := blk_cell hbx 0
    have b1 : wr.cell? ⟨w.heap.size, 1, none⟩ = some (.string q.v) := blk_cell hbx 1
    have b2 : wr.cell? ⟨w.heap.size, 2, none⟩ = some (.int .i64 q.bl) := blk_cell hbx 2
    have b3 : wr.cell? ⟨w.heap.size, 3, none⟩ = some (.int .i64 q.sz) := blk_cell hbx 3
    have hlt9 : w.heap.size < wr.heap.size := World.block_lt_of_cell? wr _ b0
    by_cases hi : i < l.length
    · have p1 : ((i : Int) < (l.length : Int)) = True := eq_true (by omega)
      have p0 : (0 ≤ (i : Int)) = True := eq_true (by omega)
      have hi3 : i < 300 := by omega
      obtain ⟨ad, rfl, x0, x1, x2, x3⟩ := at_B (Kd.C_below H.out.1 eF.below0) i hi
      have hxe : l.getD i default = l[i] := by simp [List.getD_eq_getElem?_getD, hi]
      have hst := wOut_step (c := q) H.out.2.1 i hi
      have hin := wIn_step q l i hi
      rw [← hxe] at hst hin
      obtain ⟨x, hx9⟩ : ∃ x, x = l.getD i default := ⟨_, rfl⟩
      rw [← hx9] at x0 x1 x2 x3 hst hin
      have HXE := Aside0.mk hx9.symm
      have T1 := Aside0.mk (And.intro hik (And.intro hi hxi))
      have hL0 : Op.bytesLess x.k.toList q.k.toList = decide (x.kk < q.kk) := by rw [bytesLess_eq, Lib.toList_data, Lib.toList_data]
      have HST := Aside0.mk hst
      have HIN := Aside0.mk hin
      obtain ⟨lt, hlt⟩ : ∃ lt, lt = decide (x.kk < q.kk) := ⟨_, rfl⟩
      rw [← hlt] at hL0
      have hL1 : (Op.bytesLess q.k.toList x.k.toList || q.k.toList == x.k.toList) = !lt := by
        rw [hlt, bytesLess_eq, Lib.toList_data, Lib.toList_data]
        by_cases h : x.kk < q.kk
        · have h1 : ¬ q.kk < x.kk := kk_lt_asymm h
          have h2 : ¬ q.kk = x.kk := fun e => by rw [e] at h; exact absurd h (List.lt_irrefl _)
          rw [decide_eq_true h]
          have h3 : (q.k.data.toList == x.k.data.toList) = false := by
            have : ¬ q.k.data.toList = x.k.data.toList := h2
            exact beq_eq_false_iff_ne.2 this
          rw [h3]
          have h4 : decide (q.k.data.toList < x.k.data.toList) = false := decide_eq_false h1
          rw [h4]; rfl
        · rw [decide_eq_false h]
          rcases List.le_iff_lt_or_eq.mp (List.not_lt.mp h) with h1 | h1
          · have h4 : decide (q.k.data.toList < x.k.data.toList) = true := decide_eq_true h1
            rw [h4]; rfl
          · have h3 : (q.k.data.toList == x.k.data.toList) = true := beq_iff_eq.2 h1
            rw [h3, Bool.or_true]; rfl
      have HLT := Aside0.mk hlt
      obtain ⟨bi, hbi⟩ : ∃ bi, bi = wIn q l i := ⟨_, rfl⟩
      rw [← hbi]
      have HBI := Aside0.mk hbi
      clear hst hin hlt hbi hik hi hxe hF eF kF hx9
      go_upto_region 6 with (fail)
      go_cut [25] (fun v wx => v = .bool (!bi && !lt) ∧ Aside0 (∃ n, wx = wr.drewN n))
      case first =>
        cases bi with
        | true =>
          go_quiet (fail)
          go_wp2
          go_meet
          case rel => exact ⟨by first | rfl | simp, Aside0.mk ⟨_, rfl⟩⟩
        | false =>
          go_quiet (fail)
          go_wp2
          go_meet
          case rel => exact ⟨by first | rfl | simp, Aside0.mk ⟨_, rfl⟩⟩
      case rest =>
        obtain ⟨rfl, HN⟩ := hcut
        obtain ⟨n1, hn1⟩ := HN.out
        subst hn1
        clear HN
        have e1 : Eff0 wr (wr.drewN n1) := (Eff.refl _ _).drewN n1
        go_upto_if 25 with (fail)
        go_cut [5, 6] (fun s5 s6 wx => ∃ (c1 : Nat) (A1 : Option Addr) (xs1 : List B), s5 = .slice A1 xs1.length c1 ∧ s6 = .bool (bi || !lt) ∧ Aside0 (xs1.length ≤ 2 * i + 2 ∧ xs1 = (if (!bi && !lt) = true then xs ++ [q] else xs) ∧ Upd w1 (fun _ => False) (RB (.slice A1 xs1.length c1) xs1) wx))
        case first =>
          have hm : xs.length < 700000 := by omega
          obtain ⟨Q, W', hr, hU⟩ := rb_grow U.out.2 e1 q hm
          have U2 := Aside0.mk hU
          have U3 := Aside0.mk (Upd.after U.out.2 e1)
          clear hU hm e1
          cases bi with
          | true =>
            clear hr
            cases lt
            all_goals
              go_wp2_with fail
              go_meet
              case rel => exact ⟨c', A', xs, rfl, by first | rfl | simp, Aside0.mk ⟨by have := T1.out; omega, rfl, U3.out⟩⟩
          | false =>
            cases lt with
            | true =>
              clear hr
              go_wp2_with fail
              go_meet
              case rel => exact ⟨c', A', xs, rfl, by first | rfl | simp, Aside0.mk ⟨by have := T1.out; omega, rfl, U3.out⟩⟩
            | false =>
              go_wp2_with (at_builtin; refine Lib.wpList_append_run _ rfl (.tmp 26) (.tmp 28) 26 26 rfl _ _ rfl rfl _ _ (hr _) ?_)
              go_meet
              case rel => exact ⟨Q.2, Q.1, xs ++ [q], by rw [List.length_append, List.length_singleton], by first | rfl | simp, Aside0.mk ⟨by have := T1.out; rw [List.length_append, List.length_singleton]; omega, rfl, U2.out⟩⟩
        case rest =>
          obtain ⟨c1, A1, xs1, rfl, rfl, HC⟩ := hcut
          obtain ⟨wx, rfl⟩ : ∃ wx : World, wx = wc := ⟨_, rfl⟩
          clear b0 b1 b2 b3 x0 x1 x2 x3 hlt9 hbx e1
          have hi : i < l.length := T1.out.2.1
          have hl1 : xs1.length < 700000 := by have := HC.out.1; omega
          obtain ⟨-, -, F1, hF1, eF1, kF1⟩ := HC.out
          have hbx : wx.heap[w.heap.size]? = some (.cells #[.string q.k, .string q.v, .int .i64 q.bl, .int .i64 q.sz] 42 (0, 0)) := (eF1.block _ HBOX.out.2 id).trans HBOX.out.1
          have b0 : wx.cell? ⟨w.heap.size, 0, none⟩ = some (.string q.k) := blk_cell hbx 0
          have hlt9 : w.heap.size < wx.heap.size := World.block_lt_of_cell? wx _ b0
          obtain ⟨ad2, had, x0, x1, x2, x3⟩ := at_B (Kd.C_below H.out.1 eF1.below0) i hi
          cases had
          rw [HXE.out] at x0 x1 x2 x3
          have hke : x.k.toList = q.k.toList ↔ x.kk = q.kk := by rw [Lib.toList_data, Lib.toList_data]
          have hxi2 := HC.out.1
          have hi2 : wIn q l (i + 1) = (bi || !lt) := by rw [HIN.out, ← HBI.out, ← HLT.out]
          have HI2 := Aside0.mk hi2
          have hst2 := HST.out
          rw [← HBI.out, ← HLT.out, ← U.out.1, ← HC.out.2.1] at hst2
          clear hF1 eF1 kF1 hi hbx hi2
          have HL := Aside0.mk (And.intro hxi2 hxi)
          clear hxi2
          by_cases he : x.kk = q.kk
          · have hs : (x.k.toList = q.k.toList) = True := eq_true (hke.2 he)
            have hsb : (x.k.toList == q.k.toList) = true := by simpa using hke.2 he
            have hkk : x.k = q.k := eq_of_data he
            have hsk : (x.k = q.k) = True := eq_true hkk
            rw [if_pos he, List.append_nil] at hst2
            have HS2 := Aside0.mk hst2
            clear hke he hkk hst2
            go_upto_region 9 with (fail)
            go_quiet (fail)
            go_wp2_with fail
            go_roundg (gq - 1)
            case measure => have := T1.out; omega
            case rel =>
              refine ⟨i + 1, c1, A1, xs1, rfl, by rw [HI2.out], by simp, by have := T1.out; omega, by have := HL.out; omega, Aside0.mk ⟨HS2.out.symm, Upd.after HC.out.2.2 ((Eff.refl _ _).drewN _)⟩⟩
          · have hs : (x.k.toList = q.k.toList) = False := eq_false (fun h => he (hke.1 h))
            have hsb : (x.k.toList == q.k.toList) = false := by
              have : ¬ x.k.toList = q.k.toList := fun h => he (hke.1 h)
              simpa using this
            have hsk : (x.k = q.k) = False := eq_false (fun h => he (congrArg (fun b : ByteArray => b.data.toList) h))
            rw [if_neg he] at hst2
            have HS2 := Aside0.mk hst2
            clear hke he hst2
            go_upto_region 9 with (fail)
            go_quiet (fail)
            obtain ⟨Q, W', hr, hU⟩ := rb_grow HC.out.2.2 ((Eff.refl _ _).drewN nq) x hl1
            have U2 := Aside0.mk hU
            clear hU
            go_wp2_with (at_builtin; refine Lib.wpList_append_run _ rfl (.tmp 38) (.tmp 43) 26 26 rfl _ _ rfl rfl _ _ (hr _) ?_)
            go_roundg (gq - 1)
            case measure => have := T1.out; omega
            case rel =>
              refine ⟨i + 1, Q.2, Q.1, xs1 ++ [x], by rw [List.length_append, List.length_singleton], by rw [HI2.out], by simp, by have := T1.out; omega, by have := HL.out; rw [List.length_append, List.length_singleton]; omega, Aside0.mk ⟨HS2.out.symm, U2.out⟩⟩
    · have p1 : ((i : Int) < (l.length : Int)) = False := eq_false (by omega)
      obtain rfl : i = l.length := by omega
      have hx : (if wIn q l l.length = true then xs else xs ++ [q]) = setB l q := by
        rw [U.out.1]; exact wOut_end
      have hm : xs.length < 700000 := by omega
      obtain ⟨Q, W', hr, hU⟩ := rb_grow U.out.2 (Eff.refl _ _) q hm
      have U2 := Aside0.mk hU
      have HX := Aside0.mk hx
      clear hx hm hU hik hi
      cases hb : wIn q l l.length with
      | true =>
        have HBB := Aside0.mk hb
        clear hr
        go_wp2_with fail
        go_ret
        refine ⟨A', c', ?_, ?_⟩
        · rw [← HX.out, if_pos HBB.out]
          rfl
        · have h := HX.out
          rw [if_pos HBB.out] at h
          rw [← h]
          exact Aside0.mk (Upd.of H.out.2.2 U.out.2)
      | false =>
        have HBB := Aside0.mk hb
        go_wp2_with (at_builtin; refine Lib.wpList_append_run _ rfl (.tmp 47) (.tmp 49) 26 26 rfl _ _ rfl rfl _ _ (hr _) ?_)
        go_ret
        refine ⟨Q.1, Q.2, ?_, ?_⟩
        · rw [← HX.out, if_neg (by rw [HBB.out]; decide), List.length_append, List.length_singleton]
          rfl
        · have h := HX.out
          rw [if_neg (by rw [HBB.out]; decide)] at h
          rw [← h]
          exact Aside0.mk (Upd.of H.out.2.2 U2.out)
end Go.Proofs.YtcmepoakcffpaaaGreat.CP
namespace Go.Proofs.YtcmepoakcffpaaaGreat.CP
open Go Go.RowKit Go.Proofs.YtcmepoakcffpaaaGreatW.PrintWords Go.Proofs.YtcmepoakcffpaaaGreatW.PrintLast Go.Proofs.YtcmepoakcffpaaaGreatW.PrintMore Go.Proofs.YtcmepoakcffpaaaGreat.CR Go.Proofs.YtcmepoakcffpaaaGreat.L Go.Proofs.YtcmepoakcffpaaaGreat.MR
set_option linter.unusedVariables false
set_option linter.unusedSimpArgs false
/-! ### the law BucketPlays: its parts -/
abbrev b8 (x : BP.S42) : B := ⟨x.f0, x.f1, x.f2, x.f3⟩
abbrev pS (x : BP.S23) : Pg := ⟨x.f0, x.f1, x.f2, x.f3⟩
abbrev tupB (b : B) : ByteArray × ByteArray × Int × Int := (b.k, b.v, b.bl, b.sz)
theorem flat_tup (l : List B) : flatE BK.encCells (l.map tupB) = flatE cellsB l := by
  unfold flatE
  rw [List.flatMap_map]
  rfl
theorem Rw.tup {v : Value} {xs : List B} {W : World} {F : Nat → Prop} (h : Rw cellsB 4 42 v xs W F) : Rw BK.encCells 4 42 v (xs.map tupB) W F := by
  rcases h with ⟨h, rfl⟩ | ⟨g, cap, h1, h2, h3⟩
  · exact .inl ⟨h, rfl⟩
  · refine .inr ⟨g, cap, by rw [List.length_map]; exact h1, ⟨h2.le, by rw [List.length_map]; exact h2.len, h2.max, ?_⟩, h3⟩
    obtain ⟨cur, rest, hh, hc, ht⟩ := h2.has
    exact ⟨cur, rest, hh, hc, by rw [flat_tup]; exact ht⟩
theorem Rw.untup {v : Value} {xs : List B} {W : World} {F : Nat → Prop} (h : Rw BK.encCells 4 42 v (xs.map tupB) W F) : Rw cellsB 4 42 v xs W F := by
  rcases h with ⟨h, h0⟩ | ⟨g, cap, h1, h2, h3⟩
  · exact .inl ⟨h, by simpa using h0⟩
  · refine .inr ⟨g, cap, by rw [List.length_map] at h1; exact h1, ⟨h2.le, by have := h2.len; rwa [List.length_map] at this, h2.max, ?_⟩, h3⟩
    obtain ⟨cur, rest, hh, hc, ht⟩ := h2.has
    exact ⟨cur, rest, hh, hc, by rw [flat_tup] at ht; exact ht⟩
abbrev RE (v : Value) (xs : List (ByteArray × ByteArray × Int × Int)) : HP := RwAt BK.encCells 4 42 v xs
theorem lie_kB {W : World} {A : Option Addr} {l : List B} (h : Kd.C kdB W A l.length l) : BK.LieX BK.encCells 4 W A (l.map tupB) := fun i hi => by
  rw [List.length_map] at hi
  obtain ⟨ad, c, e, _, hK, hc0⟩ := Kd.C_get h (default : B) (i : Int) (by omega) (by omega)
  have hc : ∀ j u, c[j]? = some u → W.cell? (ad.add (i * 4 + j)) = some u := hc0
  have hK2 : c = cellsB (l.getD i default) := hK
  subst hK2
  refine ⟨ad, e, fun r u hu => hc r u ?_⟩
  have e2 : (l.map tupB)[i]'(by rw [List.length_map]; exact hi) = tupB (l.getD i default) := by
    rw [List.getElem_map, List.getD_eq_getElem?_getD, List.getElem?_eq_getElem hi]
    rfl
  rw [e2] at hu
  exact hu
abbrev nilB : Array Value := #[.slice none 0 0, .slice none 0 0, .slice none 0 0, .slice none 0 0, .slice none 0 0, .slice none 0 0, .slice none 0 0, .slice none 0 0, .slice none 0 0, .slice none 0 0, .slice none 0 0, .slice none 0 0, .slice none 0 0, .slice none 0 0, .slice none 0 0, .slice none 0 0, .slice none 0 0, .slice none 0 0]
theorem own_new {wo W : World} {l : List HP} {m : HP} {W' : World} (o : Own wo W (Stars l)) (U : Upd W (fun _ => False) m W') : Own wo W' (Stars (l ++ [m])) := by
  obtain ⟨F', hN, ef, hk⟩ := U
  exact o.newAt ef hN (fun k hk' => (hk k hk').elim (fun h => h.elim) id)
/-- The page's box; the operation's; the whole state: the book, the page, the cells at hand, and more. -/
abbrev Bx (b : Nat) (P : Pg) : HP := CellsAt b #[.int .i64 P.kind, .int .i64 P.depth, .int .i64 P.next, .string P.body] 23
abbrev Ox (b : Nat) (k : Int) (c : B) : HP := CellsAt b #[.int .i64 k, .string c.k, .string c.v, .int .i64 c.bl, .int .i64 c.sz] 44
abbrev Cx (b : Nat) (c : B) : HP := CellsAt b #[.string c.k, .string c.v, .int .i64 c.bl, .int .i64 c.sz] 42
abbrev bkC (a b : Value) : Array Value := (nilB.setIfInBounds 4 a).setIfInBounds 5 b
abbrev KpB := BK.Kp (ByteArray × ByteArray × Int × Int)
abbrev ST (bb b2 : Nat) (a b : Value) (K : List KpB) (P : Pg) (v : Value) (l : List B) (X : List HP) : List HP := CellsAt bb (bkC a b) 40 :: (BK.BkP BK.encCells 4 42 26 a b K ++ (Bx b2 P :: RE v (l.map tupB) :: X))
section
variable {wo W W' : World} {bb b2 : Nat} {a b v v' : Value} {K : List KpB} {P : Pg} {l l' : List B} {X : List HP}
theorem st_page (o : Own wo W (Stars (ST bb b2 a b K P v l X))) : (∀ j, W.cell? ⟨b2, j, none⟩ = (#[.int .i64 P.kind, .int .i64 P.depth, .int .i64 P.next, .string P.body] : Array Value)[j]?) ∧ (∀ j, W.frozen? ⟨b2, j, none⟩ = false) := o.cellsAt 5 rfl
theorem st_row {n c : Nat} {A : Option Addr} (o : Own wo W (Stars (ST bb b2 a b K P (.slice A n c) l X))) : n = l.length ∧ l.length ≤ c ∧ Kd.C kdB W A l.length l := by
  obtain ⟨F, h⟩ := o.fact 6 rfl
  exact RB_C (Rw.untup h.1)
theorem st_body (o : Own wo W (Stars (ST bb b2 a b K P v l X))) (s : ByteArray) : Own wo (W.setCell ⟨b2, 3, none⟩ (.string s)) (Stars (ST bb b2 a b K ⟨P.kind, P.depth, P.next, s⟩ v l X)) := o.setCellAt 5 rfl 3 (.string s)
theorem st_new {m : HP} (o : Own wo W (Stars (ST bb b2 a b K P v l X))) (U : Upd W (fun _ => False) m W') : Own wo W' (Stars (ST bb b2 a b K P v l (X ++ [m]))) := own_new o U
theorem st_newrow {n c : Nat} {A : Option Addr} {ys : List B} (o : Own wo W (Stars (ST bb b2 a b K P v l X))) (U : Upd W (fun _ => False) (RB (.slice A n c) ys) W') : Own wo W' (Stars (ST bb b2 a b K P v l (X ++ [RE (.slice A n c) (ys.map tupB)]))) :=
  st_new o (U.imp (fun _ h => ⟨Rw.tup h.1, h.2⟩))
theorem st_cells (o : Own wo W (Stars (ST bb b2 a b K P v l X))) (cs : Array Value) (t : Nat) : Own wo (W.alloc (.cells cs t)) (Stars (ST bb b2 a b K P v l (X ++ [CellsAt W.heap.size cs t]))) := o.cellsNew cs t
theorem st_swap {m : HP} (o : Own wo W (Stars (ST bb b2 a b K P v l [m, RE v' (l'.map tupB)]))) : Own wo W (Stars (ST bb b2 a b K P v' l' [m])) := by
  have o2 := o.dropAt 6 rfl
  exact o2.perm ((((List.Perm.swap _ _ _).cons _).append_left (BK.BkP BK.encCells 4 42 26 a b K)).cons _)
theorem st_drop {m m' : HP} (o : Own wo W (Stars (ST bb b2 a b K P v l [m, m']))) : Own wo W (Stars (ST bb b2 a b K P v l [m])) := o.dropAt 8 rfl
theorem st_none {m : HP} (o : Own wo W (Stars (ST bb b2 a b K P v l [m]))) : Own wo W (Stars (ST bb b2 a b K P v l [])) := o.dropAt 7 rfl
theorem st_drop2 {m m' m2 : HP} (o : Own wo W (Stars (ST bb b2 a b K P v l [m, m', m2]))) : Own wo W (Stars (ST bb b2 a b K P v l [m])) := (o.dropAt 9 rfl).dropAt 8 rfl
theorem st_facts {g : Nat} {kd : Int} {c : B} (o : Own wo W (Stars (ST bb b2 a b K P v l (Ox g kd c :: X)))) : (W.cell? ⟨b2, 0, none⟩ = some (.int .i64 P.kind) ∧ W.cell? ⟨b2, 1, none⟩ = some (.int .i64 P.depth) ∧ W.cell? ⟨b2, 2, none⟩ = some (.int .i64 P.next) ∧ W.cell? ⟨b2, 3, none⟩ = some (.string P.body) ∧ W.frozen? ⟨b2, 3, none⟩ = false ∧ b2 < W.heap.size) ∧ W.cell? ⟨g, 0, none⟩ = some (.int .i64 kd) ∧ W.cell? ⟨g, 1, none⟩ = some (.string c.k) ∧ W.cell? ⟨g, 2, none⟩ = some (.string c.v) ∧ W.cell? ⟨g, 3, none⟩ = some (.int .i64 c.bl) ∧ W.cell? ⟨g, 4, none⟩ = some (.int .i64 c.sz) ∧ g < W.heap.size := by
  obtain ⟨h1, h2⟩ := st_page o
  have h3 : (∀ j, W.cell? ⟨g, j, none⟩ = (#[.int .i64 kd, .string c.k, .string c.v, .int .i64 c.bl, .int .i64 c.sz] : Array Value)[j]?) ∧ _ := o.cellsAt 7 rfl
  exact ⟨⟨h1 0, h1 1, h1 2, h1 3, h2 3, World.block_lt_of_cell? W _ (h1 0)⟩, h3.1 0, h3.1 1, h3.1 2, h3.1 3, h3.1 4, World.block_lt_of_cell? W _ (h3.1 0)⟩
theorem st_n {m : HP} {n c : Nat} {A : Option Addr} {ys : List B} (o : Own wo W (Stars (ST bb b2 a b K P v l [m, RE (.slice A n c) (ys.map tupB)]))) : n = ys.length ∧ ys.length ≤ c ∧ Kd.C kdB W A ys.length ys := by
  obtain ⟨F, h⟩ := o.fact 8 rfl
  exact RB_C (Rw.untup h.1)
/-- One more list into the book. -/
theorem st_cellsin {m : HP} {A : Option Addr} {n c : Nat} {ys : List B} (hn : n = ys.length) (o : Own wo W (Stars (ST bb b2 a b K P v l [m, RE (.slice A n c) (ys.map tupB)]))) (hK : K.length < 250) (hx : ys.length < 700000) : Calls Tryz.prog 15 #[.pointer (some ⟨bb, 0, none⟩), .slice A n c] W fun e w' => e = .returned (.tuple #[]) ∧ ∃ a' b' B d, Aside0 (Own wo w' (Stars (ST bb b2 a' b' (K ++ [⟨A, c, B, d, ys.map tupB⟩]) P v l [m]))) := by
  subst hn
  have hn2 : ys.length = (ys.map tupB).length := by rw [List.length_map]
  have o2 := o.perm (((List.perm_middle (l₁ := [Bx b2 P, RE v (l.map tupB), m]) (l₂ := []) (a := RE (.slice A ys.length c) (ys.map tupB))).append_left (BK.BkP BK.encCells 4 42 26 a b K)).cons _)
  have h : Calls Tryz.prog 15 #[.pointer (some ⟨bb, 0, none⟩), .slice A (ys.map tupB).length c] W fun e w' => e = .returned (.tuple #[]) ∧ ∃ a' b' B d, Aside0 (Own wo w' (Stars (CellsAt bb (((bkC a b).setIfInBounds 4 a').setIfInBounds 5 b') 40 :: (BK.BkP BK.encCells 4 42 26 a' b' (K ++ [⟨A, c, B, d, ys.map tupB⟩]) ++ ([Bx b2 P, RE v (l.map tupB), m] ++ []))))) := by
    refine BK.addCells_calls rfl rfl ?_ hK (by rw [List.length_map]; exact hx)
    rw [← hn2]
    exact o2
  rw [← hn2] at h
  exact h
theorem st_bcells {m : HP} {good : Bool} (o : Own wo W (Stars (ST bb b2 a b K P v l [m]))) (hP : cellsP P = (l, good)) : Calls Tryz.prog 14 #[P.val] W fun e w' => ∃ A c, e = .returned (.slice A l.length c) ∧ Aside0 (Own wo w' (Stars (ST bb b2 a b K P v l [m, RE (.slice A l.length c) (l.map tupB)]))) := by
  refine (bcells_calls W P).mono ?_
  rintro e w' ⟨v2, rfl, hR, hb⟩
  rw [hP] at hR
  have h1 := RwAt.of_R (d := kdB) (enc := cellsB) (k := 4) rfl (fun h => h) hR
  obtain ⟨A, c, hv⟩ := h1.1.form
  subst hv
  refine ⟨A, c, rfl, Aside0.mk ?_⟩
  exact o.newAt (Eff.of_below hb) (N := RE (.slice A l.length c) (l.map tupB)) ⟨Rw.tup h1.1, h1.2⟩ (fun k hk => ((Kd.R_bound hR).1 k hk).2.1)
theorem st_same {A Y : Option Addr} {n c e : Nat} {B : Option Addr} {d : Nat} (o : Own wo W (Stars (ST bb b2 a b (K ++ [⟨A, c, B, d, l.map tupB⟩]) P (.slice Y l.length e) l X))) (hx : l.length < 700000) (hn : n = l.length) : Calls Tryz.prog 17 #[.slice A n c, .slice Y l.length e] W fun e w' => e = .returned (.bool true) ∧ Drawn0 W w' := by
  subst hn
  obtain ⟨F3, h3⟩ := o.fact 3 rfl
  obtain ⟨G, h4⟩ := BK.stars_at h3 K.length (by simp)
  rw [List.getElem_append_right (Nat.le_refl _)] at h4
  obtain ⟨F6, h6⟩ := o.fact 6 rfl
  have h7 : Rw BK.encCells 4 42 (.slice Y (l.map tupB).length e) (l.map tupB) W F6 := by rw [List.length_map]; exact h6.1
  have h8 := BK.sameCells_calls (l.map tupB) A Y c e W (BK.LieX.of_Rw BK.lenCells (n := (l.map tupB).length) (by have h5 := h4.1; simp only [Nat.sub_self, List.getElem_cons_zero] at h5; exact h5)) (BK.LieX.of_Rw BK.lenCells h7) (by rw [List.length_map]; omega)
  rw [List.length_map] at h8
  exact h8
theorem st_apart (o : Own wo W (Stars (ST bb b2 a b K P v l X))) (hK : K.length < 200) (hx : ∀ p ∈ K, p.xs.length < 1000) : Calls Tryz.prog 19 #[.pointer (some ⟨bb, 0, none⟩)] W fun e w' => e = .returned (.bool true) ∧ Below wo.heap.size wo w' := BK.apart_calls rfl rfl rfl rfl rfl rfl rfl rfl rfl rfl o (by omega) (fun p hp => Nat.lt_trans (hx p hp) (by omega))
end
theorem st_start {wo w1 w2 : World} {b2 : Nat} {P : Pg} {l : List B} (o : Own wo w1 (Stars [Bx b2 P])) {n c : Nat} {A : Option Addr} (U : Upd w1 (fun _ => False) (RB (.slice A n c) l) w2) : Own wo (w2.alloc (.cells nilB 40)) (Stars (ST w2.heap.size b2 (.slice none 0 0) (.slice none 0 0) [] P (.slice A n c) l [])) := by
  have o1 := own_new o (U.imp (T := RE (.slice A n c) (l.map tupB)) (fun _ h => ⟨Rw.tup h.1, h.2⟩))
  have o2 := o1.cellsNew nilB 40
  exact BK.BkP.none_ (o2.perm (List.perm_append_singleton _ _))
/-! the plain law -/
theorem findB_step {l : List B} (hr : Rise l) (key : List UInt8) (i : Nat) (h : i < l.length) : findB (l.take (i + 1)) key = if l[i].kk = key then some l[i] else findB (l.take i) key := by
  unfold findB
  rw [List.take_succ_eq_append_getElem h, List.find?_append]
  by_cases e : l[i].kk = key
  · rw [if_pos e]
    have hn : (l.take i).find? (fun c => decide (c.kk = key)) = none := by
      rw [List.find?_eq_none]
      intro x hx
      obtain ⟨j, hj, rfl⟩ := List.getElem_of_mem hx
      rw [List.length_take] at hj
      rw [List.getElem_take]
      have := (List.pairwise_iff_getElem.1 hr) j i (by omega) h (by omega)
      have hne : ¬ l[j].kk = key := fun e2 => kk_lt_ne this (e2.trans e.symm)
      simpa using hne
    rw [hn]
    simp [e]
  · rw [if_neg e]
    cases (l.take i).find? (fun c => decide (c.kk = key)) <;> simp [e]
theorem tot_step (l : List B) (i : Nat) (h : i < l.length) : tot (l.take (i + 1)) = tot (l.take i) + csize l[i].cl := by
  rw [List.take_succ_eq_append_getElem h, tot_append, tot_cons, tot_nil, Nat.add_zero]
theorem fits_of {l : List B} (h : Good l) (b : Bool) (hb : fits (l.map B.cl) = b) : b = decide (tot l ≤ 239) := by
  subst hb
  by_cases ht : tot l ≤ 239
  · rw [decide_eq_true ht]
    obtain ⟨b, hb⟩ := h.put.1 ht
    exact fits_put hb
  · rw [decide_eq_false ht]
    have : ¬ (1 + total (l.map B.cl) ≤ 240) := by unfold tot at ht; omega
    simp [fits, this]
theorem setP_bad {P : Pg} {l : List B} {c : B} (h : cellsP P = (l, false)) : setP P c = (Pg.none, 2) := by unfold setP; rw [h]; rfl
theorem cutP_bad {P : Pg} {l : List B} {key : List UInt8} (h : cellsP P = (l, false)) : cutP P key = (Pg.none, 2) := by unfold cutP; rw [h]; rfl
theorem roomP_bad {P : Pg} {l : List B} (h : cellsP P = (l, false)) : roomP P = 0 := by unfold roomP; rw [h]; rfl
theorem cellsP_bad {P : Pg} {l : List B} (h : cellsP P = (l, false)) : l = [] := by
  unfold cellsP at h
  split at h
  · exact getF_false h
  · injection h with h _; exact h.symm
theorem len_setB_le (l : List B) (c : B) : (setB l c).length ≤ 2 * l.length + 1 := by
  unfold setB
  rw [List.length_append, List.length_cons]
  have h1 := List.length_filter_le (fun x : B => decide (x.kk < c.kk)) l
  have h2 := List.length_filter_le (fun x : B => decide (c.kk < x.kk)) l
  omega
theorem len_cutB_le (l : List B) (key : List UInt8) : (cutB l key).length ≤ l.length := List.length_filter_le _ _
end Go.Proofs.YtcmepoakcffpaaaGreat.CP
