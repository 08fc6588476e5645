import Derived.Test.YtlakklaaapfpeaaProg
import Derived.BigRegion
import Derived.BigQuiet
import Derived.Deep.QuietTactic
import Derived.Deep.AppendLies
import Derived.ChangeAlike
import Derived.Outline
import Derived.WalkKit
import Derived.KernelRfl
import Derived.Deep.LoopGhost
import Derived.Deep.RegionLaw
import Derived.Test.YtlakklaaapfpeaaWMore
import Derived.Test.YtlakklaaapfpeaaWKept
import Derived.Test.YtlakklaaapfpeaaLSep
import Derived.Test.YtlakklaaapfpeaaK2
import Derived.Test.YtlakklaaapfpeaaLMapO
import Derived.Test.YtlakklaaapfpeaaLSortRow
import Derived.Test.YtlakklaaapfpeaaShelf
namespace Go.Proofs.Ytlakklaaapfpeaa.LK
open Go Go.RowKit Go.Proofs.YtlakklaaapfpeaaW.PrintWords Go.Proofs.YtlakklaaapfpeaaW.PrintLast Go.Proofs.YtlakklaaapfpeaaW.PrintMore Go.Proofs.Ytlakklaaapfpeaa.L
set_option linter.unusedVariables false
set_option linter.unusedSimpArgs false
variable {n : Bool}
theorem perm_draw {α β : Type} [DecidableEq β] (f : α → β) : ∀ {l : List α}, (l.map f).Nodup → ∀ {q : α}, q ∈ l → l.Perm (q :: l.filter (fun x => decide (f x ≠ f q)))
  | [], _, _, h => by cases h
  | a :: l, hn, q, hq => by
    rw [List.map_cons, List.nodup_cons] at hn
    rcases List.mem_cons.1 hq with rfl | hq'
    · rw [List.filter_cons_of_neg (by simp), List.filter_eq_self.2]
      intro x hx
      simp only [ne_eq, decide_not, Bool.not_eq_eq_eq_not, Bool.not_true, decide_eq_false_iff_not]
      exact fun e => hn.1 (List.mem_map.2 ⟨x, hx, e⟩)
    · have hne : f a ≠ f q := fun e => hn.1 (List.mem_map.2 ⟨q, hq', e.symm⟩)
      rw [List.filter_cons_of_pos (by simpa using hne)]
      exact ((perm_draw f hn.2 hq').cons a).trans (List.Perm.swap _ _ _)
abbrev Pk := ByteArray × Nat × Le
theorem ptrs_draw {lf : List Pk} (hn : (lf.map (·.1)).Nodup) {p : ByteArray × Value} (hp : p ∈ ptrs lf) : ∃ q ∈ lf, p = (q.1, .pointer (some ⟨q.2.1, 0, none⟩)) ∧ L.del (ptrs lf) p.1 = ptrs (delP lf q.1) ∧ lf.Perm (q :: delP lf q.1) ∧ ((delP lf q.1).map (·.1)).Nodup := by
  unfold ptrs at hp
  obtain ⟨q, hq, rfl⟩ := List.mem_map.1 hp
  refine ⟨q, hq, rfl, ?_, perm_draw (fun p : Pk => p.1) hn hq, hn.sublist (List.Sublist.map _ List.filter_sublist)⟩
  unfold L.del ptrs delP
  rw [List.filter_map]
  rfl
abbrev hasB (tx : Int) (q : Pk) : Bool := decide (0 < getI q.2.2.h tx)
theorem held_abs (t : Tb) (tx : Int) : heldA (absT t) tx = (t.k.filter (hasB tx)).map (·.1) := by
  unfold heldA absT
  dsimp only
  rw [List.filter_map, List.map_map]
  rfl
/-- An entry of the table, from its key. -/
theorem TabAt.ent {b : Nat} {t : Tb} {W : World} {F : Nat → Prop} (h : (TabAt b t).on W F) {q : Pk} (hq : q ∈ t.k) : ∃ hb A c G, W.cell? ⟨q.2.1, 0, none⟩ = some (.map (some hb)) ∧ W.cell? ⟨q.2.1, 1, none⟩ = some (.slice A q.2.2.q.length c) ∧ MapAt keyInt W hb (ints q.2.2.h) ∧ (QAt (.slice A q.2.2.q.length c) q.2.2.q).on W G := by
  obtain ⟨_, _, _, ⟨G, hP, _⟩, _⟩ := TabAt.facts h
  have hn := PMap.nodup hP
  have hg : getP t.k q.1 = some (q.2.1, q.2.2) := by
    unfold getP
    cases hf : t.k.find? (fun p => decide (p.1 = q.1)) with
    | none => exact absurd (List.find?_eq_none.1 hf q hq) (by simp)
    | some p =>
      have h1 := List.mem_of_find?_eq_some hf
      have h2 : p.1 = q.1 := by simpa using List.find?_some hf
      obtain ⟨i, hi⟩ := List.getElem?_of_mem h1
      obtain ⟨j, hj⟩ := List.getElem?_of_mem hq
      have hij : i = j := nodup_at hn (a := q.1) (by rw [List.getElem?_map, hi, ← h2]; rfl) (by rw [List.getElem?_map, hj]; rfl)
      subst hij
      rw [hi] at hj
      injection hj with hj
      rw [hj]
      rfl
  obtain ⟨F1, hE, _⟩ := TabAt.focus h hg
  obtain ⟨hb, vq, G1, d0, d1, f, hM, hQ, _⟩ := EntAt.facts hE
  obtain ⟨A, c, rfl, _⟩ := QAt.reads hQ
  exact ⟨hb, A, c, G1, d0, d1, hM, hQ⟩
theorem TabAt.maps2 {b : Nat} {t : Tb} {W : World} {F : Nat → Prop} (h : (TabAt b t).on W F) : MapO keyStr W t.kb (ptrs t.k) ∧ ∀ mk, t.kb = some mk → mk < W.heap.size := by
  obtain ⟨_, _, _, ⟨G, ⟨G1, G2, g1, _⟩, _⟩, _⟩ := TabAt.facts h
  refine ⟨MapPart.mapO g1, fun mk hmk => ?_⟩
  rw [hmk] at g1
  exact MapAt.lt g1.1
theorem infoStr : (Try.prog.info? 9).map (fun i => (i.zero, i.size, i.bytes)) = some (some (.string ⟨#[]⟩), 1, 16) := by kernel_rfl
structure KsIn (W : World) (tx : Int) (t : Tb) (lf : List Pk) (xs : List ByteArray) (v : Value) (wr : World) : Prop where
  e : Eff0 W wr
  p : (xs ++ (lf.filter (hasB tx)).map (·.1)).Perm (heldA (absT t) tx)
  r : Kd.string.R 9 wr W.heap.size (fun k => k ≠ W.heap.size) v xs
  n : (lf.map (·.1)).Nodup
  s : ∀ q ∈ lf, q ∈ t.k
set_option maxHeartbeats 1600000 in
set_option maxRecDepth 100000 in
theorem keys_calls (b : Nat) (s : St ByteArray) (W : World) (F : Nat → Prop) (tx : Int) (h : (TabA b n s).on W F) (hl : (heldA s tx).length < 900000)
    (CS : ∀ w1 v xs, Kd.string.R 9 w1 W.heap.size (fun k => k ≠ W.heap.size) v xs → xs.length < 900000 → Calls Try.prog 28 #[v] w1 fun e w' => e = .returned (.tuple #[]) ∧ Aside0 (∃ ys, xs.Perm ys ∧ ys.Pairwise (fun a b => ¬ b.data.toList < a.data.toList) ∧ Kd.string.R 9 w' W.heap.size (fun k => k ≠ W.heap.size) v ys ∧ Eff (fun k => v.ownBlock = some k) w1 w')) :
    Calls Try.prog 18 #[.pointer (some ⟨b, 0, none⟩), .int .i64 tx] W fun e w' => ∃ v ys, e = .returned v ∧ Aside0 (ys.Perm (heldA s tx) ∧ ys.Pairwise (fun a b => ¬ b.data.toList < a.data.toList) ∧ Kd.string.R 9 w' W.heap.size (fun k => k ≠ W.heap.size) v ys ∧ Eff0 W w') := by
  obtain ⟨t, rfl, hk, ht⟩ := TabA.open_ h
  obtain ⟨c0, _⟩ := TabAt.facts ht
  obtain ⟨hM, hlt⟩ := TabAt.maps2 ht
  have hnd : (t.k.map (·.1)).Nodup := by
    obtain ⟨_, _, _, ⟨G, hP, _⟩, _⟩ := TabAt.facts ht
    exact PMap.nodup hP
  have H := Aside0.mk (And.intro ht (And.intro hlt (And.intro hl hnd)))
  have HCS := Aside0.mk CS
  clear h ht hk hlt hl CS hnd
  go_enter Try.func18, Try.ntmps18
  go_wp2_with (at_range; refine wpList_range_mapO rfl (.tmp 13) rfl rfl hM Try.underlying25 ?_; intro o' hI)
  go_frame
  go_loopg [5] t.k.length (fun k s5 wr => ∃ (lf : List Pk) (xs : List ByteArray), IterO keyStr wr W.heap.size t.kb (ptrs t.k) (ptrs lf) ∧ lf.length ≤ k ∧ Aside0 (KsIn W tx t lf xs s5 wr))
  case atStart => exact ⟨t.k, [], hI, Nat.le_refl _, Aside0.mk ⟨(Eff.refl _ _).alloc _, by rw [held_abs, List.nil_append], Kd.R_nil _ _ _ _ _, H.out.2.2.2, fun _ h => h⟩⟩
  case round =>
    obtain ⟨lf, xs, hI, hk, A1⟩ := hrel
    go_wp2_with (at_next; refine wpList_next_mapO rfl (.tmp 14) rfl rfl hI ?_ ?_)
    · intro h0
      have hlf : lf = [] := by cases lf with | nil => rfl | cons _ _ => cases h0
      subst hlf
      have hp := A1.out.p
      rw [List.filter_nil, List.map_nil, List.append_nil] at hp
      obtain ⟨A5, c5, hv⟩ := Kd.R_slice A1.out.r
      subst hv
      have C := HCS.out wr _ xs A1.out.r (by rw [hp.length_eq]; exact H.out.2.2.1)
      have HP1 := Aside0.mk hp
      clear h0 hI hM hk hp
      go_wp2_with (go_at_call 28; refine C.mono ?_; rintro e w2 ⟨rfl, A2⟩; clear C)
      go_ret
      obtain ⟨ys, h1, h2, h3, h4⟩ := A2.out
      refine ⟨_, ys, rfl, Aside0.mk ⟨h1.symm.trans HP1.out, h2, h3, A1.out.e.trans h4 (fun k hk => .inr (Kd.R_base A1.out.r k hk))⟩⟩
    · intro k0 v0 w' hp hI' hg hs hen
      obtain ⟨q, hq, he, hd, hpm, hnd⟩ := ptrs_draw A1.out.n hp
      obtain ⟨rfl, rfl⟩ := Prod.mk.inj he
      clear he
      have E2 : Eff (fun k => k = W.heap.size) wr w' := Eff.of_grown hg (fun k hk => by injection hk with hk; exact hk.symm)
      have E3 : Eff0 W w' := A1.out.e.trans E2 (fun k hk => .inr (by rw [hk]; exact Nat.le_refl _))
      obtain ⟨hb, A, c, G, d0, d1, hM2, hQ⟩ := TabAt.ent (HP.eff0 H.out.1 E3) (A1.out.s q hq)
      have hL := look_h hM2 tx
      have hR := Kd.R_step (w1 := w') A1.out.r (fun k hk hlt => E2.block k hlt hk)
      obtain ⟨A5, c5, hv⟩ := Kd.R_slice A1.out.r
      subst hv
      have hen2 : (Instr.entry (.pointer (some ⟨W.heap.size, 0, none⟩))).run Try.prog w' = .ok (.tuple #[.string q.1, .pointer (some ⟨q.2.1, 0, none⟩)]) w' := hen
      have hdl := hpm.length_eq
      rw [List.length_cons] at hdl
      dsimp only at hd hI'
      rw [hd] at hI'
      have hp2 := (((hpm.filter (hasB tx)).map (·.1)).append_left xs).symm.trans A1.out.p
      have hs2 : ∀ x ∈ delP lf q.1, x ∈ t.k := fun x hx => A1.out.s x (hpm.mem_iff.2 (List.mem_cons_of_mem _ hx))
      have hxl : xs.length < 900000 := by
        have := A1.out.p.length_eq
        rw [List.length_append] at this
        have := H.out.2.2.1
        omega
      have hit : W.heap.size < w'.heap.size := hI'.lt
      have A3 := Aside0.mk (And.intro hI' (And.intro hp2 (And.intro hnd (And.intro hs2 (And.intro hR E3)))))
      have HL := Aside0.mk (And.intro hdl hk)
      clear hp hI' hg hs hen hd hpm hnd E2 E3 hM2 hQ hp2 hs2 hdl hI hk hR d1
      generalize delP lf q.1 = lf' at *
      obtain ⟨qk, eb, x⟩ := q
      dsimp only at d0 hL hen2 A3
      rw [show keyStr.enc qk = .string qk from rfl]
      generalize hgx : getI x.h tx = gx at *
      by_cases h0 : 0 < gx
      · have p1 : (gx > 0) = True := eq_true h0
        have HX := Aside0.mk (show (hasB tx (qk, eb, x)) = true by unfold hasB; dsimp only; rw [hgx]; exact decide_eq_true h0)
        clear hgx h0
        go_wp2_with (at_builtin; go_loud (refine Kd.R_append Kd.string (W := w') (w0 := W) W.heap.size rfl (.tmp 27) (.tmp 29) 37 9 (.string ⟨#[]⟩) 16 rfl Try.underlying37 infoStr rfl (by decide) (by decide) (.slice A5 xs.length c5) xs qk [.string qk] (fun k => k ≠ W.heap.size) (fun _ => False) rfl rfl rfl (fun _ hk => hk.elim) (fun k hk => by omega) A3.out.2.2.2.2.1 A3.out.2.2.2.2.2.below0 A3.out.2.2.2.2.2.size (by omega) ?_); intro v1 w3 r1 b1 g1 o1; have A4 := Aside0.mk (And.intro r1 (And.intro b1 g1)); clear r1 b1 g1 o1)
        go_roundg (gk - 1)
        case measure => have := HL.out; omega
        case rel =>
          obtain ⟨a1, a2, a3, a4, a5, a6⟩ := A3.out
          obtain ⟨r1, b1, g1⟩ := A4.out
          have E : Eff (fun k => (Value.slice A5 xs.length c5).ownBlock = some k) w' w3 := Eff.of_grown g1 (fun i hi => hi)
          rw [List.filter_cons_of_pos HX.out] at a2
          refine ⟨lf', xs ++ [qk], a1.move (fun mk hmk => ?_) ?_, by have := HL.out; omega, Aside0.mk ⟨Eff.of_below b1, by rw [List.append_assoc]; exact a2, r1, a3, a4⟩⟩
          · have hl := H.out.2.1 mk hmk
            refine E.block mk (Nat.lt_of_lt_of_le hl a6.size) (fun hk => ?_)
            have := Kd.R_base a5 mk hk
            omega
          · exact E.block _ hit (fun hk => a5.1 _ hk rfl)
      · have p1 : (gx > 0) = False := eq_false h0
        have p2 : (0 < gx) = False := eq_false h0
        have HX := Aside0.mk (show (hasB tx (qk, eb, x)) = false by unfold hasB; dsimp only; rw [hgx]; exact decide_eq_false h0)
        clear hgx h0
        go_wp2
        go_roundg (gk - 1)
        case measure => have := HL.out; omega
        case rel =>
          obtain ⟨a1, a2, a3, a4, a5, a6⟩ := A3.out
          rw [List.filter_cons_of_neg (by rw [HX.out]; simp)] at a2
          exact ⟨lf', xs, a1, by have := HL.out; omega, Aside0.mk ⟨a6, a2, a5, a3, a4⟩⟩
end Go.Proofs.Ytlakklaaapfpeaa.LK
namespace Go.Proofs.Ytlakklaaapfpeaa.LK
open Go Go.RowKit Go.Proofs.YtlakklaaapfpeaaW.PrintWords Go.Proofs.YtlakklaaapfpeaaW.PrintLast Go.Proofs.YtlakklaaapfpeaaW.PrintMore Go.Proofs.Ytlakklaaapfpeaa.L
set_option linter.unusedVariables false
set_option linter.unusedSimpArgs false
open Go.Sort
abbrev encS (s : ByteArray) : List Value := [.string s]
theorem bl_mk (l : List UInt8) : (⟨l.toArray⟩ : ByteArray).data.toList = l := rfl
theorem mk_bl (s : ByteArray) : (⟨s.data.toList.toArray⟩ : ByteArray) = s := by cases s; rfl
theorem flatS (l : List ByteArray) (j : Nat) : (flatE encS l)[j]? = l[j]?.map Value.string := by
  have : flatE encS l = l.map Value.string := by
    unfold flatE encS
    induction l with
    | nil => rfl
    | cons a l ih => rw [List.flatMap_cons, List.map_cons, ih]; rfl
  rw [this, List.getElem?_map]
/-- The texts, sorted. -/
def sortS (xs : List ByteArray) : List ByteArray := ((xs.map (·.data.toList)).mergeSort (fun x y => decide (x ≤ y))).map (fun l => ⟨l.toArray⟩)
theorem sortS_perm (xs : List ByteArray) : xs.Perm (sortS xs) := by
  have h := (List.mergeSort_perm (xs.map (·.data.toList)) (fun x y => decide (x ≤ y))).map (fun l => (⟨l.toArray⟩ : ByteArray))
  rw [List.map_map] at h
  have e : ((fun l => (⟨l.toArray⟩ : ByteArray)) ∘ fun (s : ByteArray) => s.data.toList) = id := by funext s; exact mk_bl s
  rw [e, List.map_id] at h
  exact h.symm
theorem sortS_sorted (xs : List ByteArray) : (sortS xs).Pairwise (fun a b => ¬ b.data.toList < a.data.toList) := by
  unfold sortS
  rw [List.pairwise_map]
  have h := List.pairwise_mergeSort (le := fun (x y : List UInt8) => decide (x ≤ y)) (fun a b c h1 h2 => by simp only [decide_eq_true_eq] at *; exact List.le_trans h1 h2) (fun a b => by simp only [Bool.or_eq_true, decide_eq_true_eq]; exact List.le_total a b) (xs.map (·.data.toList))
  exact h.imp (fun {a b} h => by simpa using h)
theorem sortS_calls (base : Nat) (ok : Nat → Prop) (w1 : World) (v : Value) (xs : List ByteArray) (h : Kd.string.R 9 w1 base ok v xs) (hl : xs.length < 900000) :
    Calls Try.prog 28 #[v] w1 fun e w' => e = .returned (.tuple #[]) ∧ Aside0 (∃ ys, xs.Perm ys ∧ ys.Pairwise (fun a b => ¬ b.data.toList < a.data.toList) ∧ Kd.string.R 9 w' base ok v ys ∧ Eff (fun k => v.ownBlock = some k) w1 w') := by
  rcases Kd.R_own h with ⟨inner, ho⟩
  rcases ho.2 with ⟨hv, h0⟩ | ⟨g, cap, cur, hv, hg, _⟩
  · have hnil : xs = [] := List.length_eq_zero_iff.mp h0
    subst hnil
    subst hv
    refine (Try.slices_Sort_string_none none 0 w1).mono ?_
    rintro e w' ⟨rfl, rfl⟩
    exact ⟨rfl, Aside0.mk ⟨[], List.Perm.refl _, List.Pairwise.nil, h, Eff.refl _ _⟩⟩
  · subst hv
    have hX : RowX encS 1 9 w1 base g cap xs := RowX.of_R (d := Kd.string) rfl (fun h => h) h
    have hH : Holds encStr w1 g 0 (xs.map (·.data.toList)).toArray := by
      intro j hj
      have hj2 : j < xs.length := by simpa using hj
      refine ⟨?_, hX.free _⟩
      rw [Nat.zero_add]
      refine (hX.cells j (.string xs[j]) (by rw [flatS, List.getElem?_eq_getElem hj2]; rfl)).trans ?_
      congr 1
      simp [encStr, hj2, mk_bl]
    have hlen : (xs.map (·.data.toList)).length = xs.length := by simp
    have hc := Try.slices_Sort_string g 0 cap (xs.map (·.data.toList)) w1 hH (by obtain ⟨cu, re, hh, _⟩ := hX.has; exact blk_lt hh) (by rw [hlen]; omega)
    rw [hlen] at hc
    refine hc.mono ?_
    rintro e w' ⟨rfl, n, os, rfl⟩
    have hsl : (sortS xs).length = xs.length := (sortS_perm xs).length_eq.symm
    have hd : ((xs.map (·.data.toList)).mergeSort (fun x y => decide (x ≤ y))).toArray.size = (sortS xs).length * 1 := by
      unfold sortS; simp
    have hX2 := rowX_sort1 (enc := encS) (k := 1) (f := encStr) (fun _ => rfl) hX n ((xs.map (·.data.toList)).mergeSort (fun x y => decide (x ≤ y))).toArray os hsl hd (fun j hj => by
      rw [flatS]
      unfold sortS
      rw [List.getElem?_map, Option.map_map]
      have hj2 : j < ((xs.map (·.data.toList)).mergeSort (fun x y => decide (x ≤ y))).length := by simpa using hj
      simp only [encStr, List.getElem!_toArray, List.getElem!_eq_getElem?_getD, List.getElem?_eq_getElem hj2, Option.getD_some, Option.map_some]
      rfl)
    have hR : Kd.string.R 9 _ base ok (.slice (some ⟨g, 0, none⟩) (sortS xs).length cap) (sortS xs) := RowX.toR (d := Kd.string) rfl (fun _ => rfl) (fun _ _ _ _ => rfl) hX2 (h.1 g (by simp [Value.ownBlock]))
    rw [hsl] at hR
    exact ⟨rfl, Aside0.mk ⟨sortS xs, sortS_perm xs, sortS_sorted xs, hR, (putRow_eff n _ os).mono (fun k hk => by subst hk; simp [Value.ownBlock])⟩⟩
end Go.Proofs.Ytlakklaaapfpeaa.LK
namespace Go.Proofs.Ytlakklaaapfpeaa.LK
open Go Go.RowKit Go.Proofs.YtlakklaaapfpeaaW.PrintWords Go.Proofs.YtlakklaaapfpeaaW.PrintLast Go.Proofs.YtlakklaaapfpeaaW.PrintMore Go.Proofs.Ytlakklaaapfpeaa.L
set_option linter.unusedVariables false
set_option linter.unusedSimpArgs false
/-! ### all that one holds is let go -/
section
variable {K : Type} [DecidableEq K]
set_option linter.unusedSectionVars false
def updK (l : List (K × Le)) (key : K) (o : Option Le) : List (K × Le) := match o with
  | none => delK l key
  | some x => setK l key x
def fEnt (tx : Int) (x : Le) : Option Le := if (grantF (delI x.h tx) x.q).1 = [] ∧ (grantF (delI x.h tx) x.q).2.1 = [] then none else some ⟨(grantF (delI x.h tx) x.q).1, (grantF (delI x.h tx) x.q).2.1⟩
def fOut (tx : Int) (x : Le) : List Int := (grantF (delI x.h tx) x.q).2.2
theorem setK_setK (l : List (K × Le)) (key : K) (x y : Le) : setK (setK l key x) key y = setK l key y := by
  unfold setK
  rw [List.map_map]
  refine List.map_congr_left (fun p _ => ?_)
  simp only [Function.comp_apply]
  split
  · rename_i h; simp [h]
  · rename_i h; simp [h]
theorem delK_setK (l : List (K × Le)) (key : K) (x : Le) : delK (setK l key x) key = delK l key := by
  unfold delK setK
  induction l with
  | nil => rfl
  | cons p k ih =>
    rw [List.map_cons]
    by_cases h : p.1 = key
    · rw [if_pos h, List.filter_cons_of_neg (by simp [h]), List.filter_cons_of_neg (by simp [h]), ih]
    · rw [if_neg h, List.filter_cons_of_pos (by simp [h]), List.filter_cons_of_pos (by simp [h]), ih]
theorem freeA_eq (s : St K) (tx : Int) (key : K) : freeA s tx key = match getK s.k key with
    | none => s
    | some x => ⟨updK s.k key (fEnt tx x), offK s.w (fOut tx x)⟩ := by
  unfold freeA
  cases hg : getK s.k key with
  | none => rfl
  | some x =>
    dsimp only
    unfold settleA
    dsimp only
    rw [getK_setK, hg]
    simp only [Option.map_some, if_true]
    unfold fEnt fOut updK
    congr 1
    split
    · rw [delK_setK]
    · rw [setK_setK]
theorem getK_updK (l : List (K × Le)) (key : K) (o : Option Le) (key' : K) : getK (updK l key o) key' = if key' = key then (getK l key').bind (fun _ => o) else getK l key' := by
  unfold updK
  cases o with
  | none =>
    dsimp only
    rw [getK_delK]
    split
    · cases getK l key' <;> rfl
    · rfl
  | some x =>
    dsimp only
    rw [getK_setK]
    cases hg : getK l key' with
    | none => simp
    | some y =>
      by_cases h : key' = key
      · simp [h]
      · simp [h]
theorem getK_free (s : St K) (tx : Int) (key key' : K) (h : key' ≠ key) : getK (freeA s tx key).k key' = getK s.k key' := by
  rw [freeA_eq]
  cases hg : getK s.k key with
  | none => rfl
  | some x => dsimp only; rw [getK_updK, if_neg h]
theorem getK_frees (tx : Int) (key : K) : ∀ (l : List K) (s : St K), key ∉ l → getK (l.foldl (fun s key => freeA s tx key) s).k key = getK s.k key
  | [], _, _ => rfl
  | a :: l, s, h => by
    have hne : key ≠ a := fun e => h (by rw [e]; exact List.mem_cons_self)
    rw [List.foldl_cons, getK_frees tx key l _ (fun hm => h (List.mem_cons_of_mem _ hm)), getK_free _ _ _ _ hne]
theorem upd_comm (l : List (K × Le)) (a b : K) (h : a ≠ b) (o o' : Option Le) : updK (updK l a o) b o' = updK (updK l b o') a o := by
  unfold updK
  cases o with
  | none =>
    cases o' with
    | none =>
      dsimp only
      unfold delK
      rw [List.filter_filter, List.filter_filter]
      exact List.filter_congr (fun p _ => Bool.and_comm _ _)
    | some y =>
      dsimp only
      unfold delK setK
      induction l with
      | nil => rfl
      | cons p l ih =>
        by_cases h1 : p.1 = a
        · rw [List.filter_cons_of_neg (by simp [h1]), ih, List.map_cons, List.filter_cons_of_neg (by rw [if_neg (by rw [h1]; exact h)]; simp [h1])]
        · rw [List.filter_cons_of_pos (by simp [h1]), List.map_cons, List.map_cons, List.filter_cons_of_pos (by split <;> simp [h1]), ih]
  | some x =>
    cases o' with
    | none =>
      dsimp only
      unfold delK setK
      induction l with
      | nil => rfl
      | cons p l ih =>
        by_cases h1 : p.1 = b
        · rw [List.filter_cons_of_neg (by simp [h1]), List.map_cons, List.filter_cons_of_neg (by rw [if_neg (by rw [h1]; exact h.symm)]; simp [h1]), ih]
        · rw [List.filter_cons_of_pos (by simp [h1]), List.map_cons, List.map_cons, List.filter_cons_of_pos (by split <;> simp [h1]), ih]
    | some y =>
      dsimp only
      unfold setK
      rw [List.map_map, List.map_map]
      refine List.map_congr_left (fun p _ => ?_)
      simp only [Function.comp_apply]
      by_cases h1 : p.1 = a
      · have h2 : ¬ p.1 = b := fun e => h (h1.symm.trans e)
        simp [h1, h2, h]
      · by_cases h2 : p.1 = b
        · simp [h2, Ne.symm h]
        · simp [h1, h2]
theorem off_comm (w : List (Int × K)) (a b : List Int) : offK (offK w a) b = offK (offK w b) a := by
  unfold offK
  rw [List.filter_filter, List.filter_filter]
  exact List.filter_congr (fun p _ => Bool.and_comm _ _)
theorem free_comm (s : St K) (tx : Int) (a b : K) : freeA (freeA s tx a) tx b = freeA (freeA s tx b) tx a := by
  by_cases h : a = b
  · rw [h]
  have ha := getK_free s tx b a h
  have hb := getK_free s tx a b (Ne.symm h)
  rw [freeA_eq (freeA s tx a), freeA_eq (freeA s tx b), ha, hb, freeA_eq s tx a, freeA_eq s tx b]
  cases hga : getK s.k a with
  | none => cases hgb : getK s.k b <;> rfl
  | some x =>
    cases hgb : getK s.k b with
    | none => rfl
    | some y =>
      dsimp only
      rw [upd_comm _ _ _ h, off_comm]
/-- All keys of l are let go. -/
def freesA (s : St K) (tx : Int) (l : List K) : St K := l.foldl (fun s key => freeA s tx key) s
theorem frees_perm {l l' : List K} (h : l.Perm l') (s : St K) (tx : Int) : freesA s tx l = freesA s tx l' := by
  unfold freesA
  exact h.foldl_eq' (fun x _ y _ z => free_comm z tx x y) s
theorem Ok.frees {N : Nat} (tx : Int) : ∀ (l : List K) {s : St K}, Ok N s → Ok N (freesA s tx l)
  | [], _, h => h
  | a :: l, _, h => Ok.frees tx l (h.free tx a)
/-- What is left when one lets all go. -/
def relA (s : St K) (tx : Int) : St K := freesA (stopA s tx) tx (heldA (stopA s tx) tx)
theorem Ok.rel {N : Nat} {s : St K} (h : Ok N s) (tx : Int) : Ok N (relA s tx) := Ok.frees tx _ (h.stop tx)
theorem held_get {s : St K} {N : Nat} (ho : Ok N s) {tx : Int} {key : K} (h : key ∈ heldA s tx) : ∃ x, getK s.k key = some x ∧ 0 < getI x.h tx := by
  unfold heldA at h
  obtain ⟨p, hp, rfl⟩ := List.mem_map.1 h
  obtain ⟨hp1, hp2⟩ := List.mem_filter.1 hp
  refine ⟨p.2, ?_, by simpa using hp2⟩
  have hn := ho.k
  unfold getK
  cases hf : s.k.find? (fun q => decide (q.1 = p.1)) with
  | none => exact absurd (List.find?_eq_none.1 hf p hp1) (by simp)
  | some q =>
    have h1 := List.mem_of_find?_eq_some hf
    have h2 : q.1 = p.1 := by simpa using List.find?_some hf
    obtain ⟨i, hi⟩ := List.getElem?_of_mem h1
    obtain ⟨j, hj⟩ := List.getElem?_of_mem hp1
    have hij : i = j := by
      have hi2 : (s.k.map (·.1))[i]? = some p.1 := by rw [List.getElem?_map, hi, ← h2]; rfl
      have hj2 : (s.k.map (·.1))[j]? = some p.1 := by rw [List.getElem?_map, hj]; rfl
      obtain ⟨hi1, hi3⟩ := List.getElem?_eq_some_iff.1 hi2
      obtain ⟨hj1, hj3⟩ := List.getElem?_eq_some_iff.1 hj2
      rcases Nat.lt_trichotomy i j with hlt | he | hlt
      · exact absurd (hi3.trans hj3.symm) (List.pairwise_iff_getElem.1 hn i j hi1 hj1 hlt)
      · exact he
      · exact absurd (hj3.trans hi3.symm) (List.pairwise_iff_getElem.1 hn j i hj1 hi1 hlt)
    subst hij
    rw [hi] at hj
    injection hj with hj
    rw [hj]
    rfl
theorem held_nodup {s : St K} {N : Nat} (ho : Ok N s) (tx : Int) : (heldA s tx).Nodup := ho.k.sublist (List.Sublist.map _ List.filter_sublist)
end
end Go.Proofs.Ytlakklaaapfpeaa.LK
namespace Go.Proofs.Ytlakklaaapfpeaa.LK
open Go Go.RowKit Go.Proofs.YtlakklaaapfpeaaW.PrintWords Go.Proofs.YtlakklaaapfpeaaW.PrintLast Go.Proofs.YtlakklaaapfpeaaW.PrintMore Go.Proofs.Ytlakklaaapfpeaa.L
set_option linter.unusedVariables false
set_option linter.unusedSimpArgs false
variable {n : Bool} {W w : World} {F : Nat → Prop} {b : Nat} {s : St ByteArray}
theorem Upd.thenL {P : Program} {f : FuncId} {args : Array Value} {W w : World} {F : Nat → Prop} {S T R : HP} {r : Ending → Prop} (u : Upd W F (Sep S R) w) (c : ∀ G, S.on w G → Calls P f args w fun e w' => r e ∧ Aside0 (Upd w G T w')) : Calls P f args w fun e w' => r e ∧ Aside0 (Upd W F (Sep T R) w') := by
  obtain ⟨G, h1, e1, k1⟩ := u
  obtain ⟨G1, hS, _, lift⟩ := Sep.focus h1
  refine (c G1 hS).mono ?_
  rintro e w' ⟨he, U⟩
  exact ⟨he, Aside0.mk (Upd.go e1 k1 (lift _ _ U.out))⟩
theorem u_keys (u : UT W F b n s w) (tx : Int) (hl : (heldA s tx).length < 900000) :
    Calls Try.prog 18 #[.pointer (some ⟨b, 0, none⟩), .int .i64 tx] w fun e w' => ∃ v ys, e = .returned v ∧ Aside0 (ys.Perm (heldA s tx) ∧ ys.Pairwise (fun a b => ¬ b.data.toList < a.data.toList) ∧ Upd W F (Sep (TabA b n s) (RowAt Kd.string 9 v ys)) w') := by
  obtain ⟨G, h1, e1, k1⟩ := u.out
  refine (keys_calls b s w G tx h1 hl (fun w1 v xs h hx => sortS_calls _ _ w1 v xs h hx)).mono ?_
  rintro e w' ⟨v, ys, rfl, A⟩
  obtain ⟨a1, a2, a3, a4⟩ := A.out
  refine ⟨v, ys, rfl, Aside0.mk ⟨a1, a2, ?_⟩⟩
  refine Upd.go e1 k1 (Upd.new h1 a4 (F' := fun k => w.heap.size ≤ k ∧ k < w'.heap.size) ⟨Kd.R_lower (Kd.R_mono (Kd.R_bound a3) (fun k hk => ⟨hk.2.1, hk.2.2.1⟩)) (Nat.zero_le _), fun k hk => hk.2⟩ (fun k hk => hk.1))
theorem at_str {w : World} {A : Option Addr} {n : Nat} {xs : List ByteArray} (h : Kd.C Kd.string w A n xs) (i : Nat) (h1 : i < n) :
    ∃ ad, A = some ad ∧ w.cell? (ad.add i) = some (.string (xs.getD i default)) := by
  obtain ⟨ad, c, e, _, hK, hc0⟩ := Kd.C_get h (default : ByteArray) (i : Int) (by omega) (by omega)
  have hc : ∀ j u, c[j]? = some u → w.cell? (ad.add (i * 1 + j)) = some u := hc0
  have hK2 : c = [.string (xs.getD i default)] := hK
  subst hK2
  have := hc 0 _ rfl
  rw [Nat.mul_one, Nat.add_zero] at this
  exact ⟨ad, e, this⟩
/-- One no more holds a key. -/
theorem EntAt.delH {eb : Nat} {x : Le} {w : World} {F : Nat → Prop} (h : (EntAt eb x).on w F) (tx : Int) : ∃ hb w', w.cell? ⟨eb, 0, none⟩ = some (.map (some hb)) ∧ (∀ ty, (Builtin.delete_ #[56, 3] ty #[.map (some hb), .int .i64 tx]).run Try.prog w = .ok (.tuple #[]) w') ∧ Upd w F (EntAt eb ⟨delI x.h tx, x.q⟩) w' := by
  obtain ⟨⟨hb, vq⟩, h0⟩ := h
  have h00 := h0
  obtain ⟨F1, F2, g1, ⟨K1, K2, k1, k2, kd, kF⟩, gd, gF⟩ := h00
  obtain ⟨w', hrun, hM, hg, hs⟩ := k1.1.drop (P := Try.prog) Try.underlying56 Try.underlying3 tx 0
  rw [ints_del] at hM
  refine ⟨hb, w', CellsAt.cell g1 0, fun ty => hrun, ?_⟩
  obtain ⟨G1, s1, t1, u1⟩ := Sep.focusR h0
  obtain ⟨G2, s2, t2, u2⟩ := Sep.focus s1
  exact (u1 _ _ (u2 _ _ (MapHP.upd (κ := keyInt) s2 hM hg))).imp (fun G hG => ⟨(hb, vq), hG⟩)
theorem u_delH {R : HP} (u : Upd W F (Sep (TabA b n s) R) w) {key : ByteArray} {x : Le} (hg : getK s.k key = some x) (tx : Int) : ∃ mk eb hb w', w.cell? ⟨b, 0, none⟩ = some (.map (some mk)) ∧ (Instr.lookup 25 (.map (some mk)) (.string key) false).run Try.prog w = .ok (.pointer (some ⟨eb, 0, none⟩)) w ∧ w.cell? ⟨eb, 0, none⟩ = some (.map (some hb)) ∧
    (∀ ty, (Builtin.delete_ #[56, 3] ty #[.map (some hb), .int .i64 tx]).run Try.prog w = .ok (.tuple #[]) w') ∧ Upd W F (Sep (TabA b n ⟨setK s.k key ⟨delI x.h tx, x.q⟩, s.w⟩) R) w' := by
  obtain ⟨G, h1, e1, k1⟩ := u
  obtain ⟨G1, hS, _, lift⟩ := Sep.focus h1
  obtain ⟨t, rfl, hk, ht⟩ := TabA.open_ hS
  obtain ⟨eb, hg2⟩ := abs_some hg
  obtain ⟨mk, m, hmk, hm⟩ := TabAt.maps ht hg2 hk
  obtain ⟨c0, _⟩ := TabAt.facts ht
  have hL := TabAt.lookK ht key
  rw [hg2, hmk] at hL
  rw [hmk] at c0
  obtain ⟨F1, hE, hF1, lift2⟩ := TabAt.focus0 ht hg2
  obtain ⟨hb, w', d0, hrun, U⟩ := EntAt.delH hE tx
  refine ⟨mk, eb, hb, w', c0, hL, d0, hrun, Upd.go e1 k1 (lift _ _ (Upd.ab (lift2 _ _ U) ?_ hk))⟩
  unfold absT
  dsimp only
  rw [abs_set]
theorem Upd.rowS {W w : World} {F : Nat → Prop} {S : HP} {v : Value} {xs : List ByteArray} (u : Upd W F (Sep S (RowAt Kd.string 9 v xs)) w) : ∃ A c, v = .slice A xs.length c ∧ Kd.C Kd.string w A xs.length xs := by
  obtain ⟨G, ⟨G1, G2, _, g2, _⟩, _⟩ := u
  obtain ⟨A, c, hv, _, hC⟩ := RowAt.reads g2
  exact ⟨A, c, hv, hC⟩
theorem frees_snoc (s : St ByteArray) (tx : Int) (l : List ByteArray) (a : ByteArray) : freesA s tx (l ++ [a]) = freeA (freesA s tx l) tx a := by unfold freesA; rw [List.foldl_append, List.foldl_cons, List.foldl_nil]
theorem free_some {s : St ByteArray} {tx : Int} {key : ByteArray} {x : Le} (h : getK s.k key = some x) : freeA s tx key = settleA ⟨setK s.k key ⟨delI x.h tx, x.q⟩, s.w⟩ key := by unfold freeA; rw [h]
set_option maxHeartbeats 1600000 in
set_option maxRecDepth 100000 in
theorem release_calls (u : UT W F b n s w) (ho : Ok 899999 s) (tx : Int) (hl : (heldA (stopA s tx) tx).length < 900000) :
    Calls Try.prog 15 #[.pointer (some ⟨b, 0, none⟩), .int .i64 tx] w fun e w' => e = .returned (.int .i64 (heldA (stopA s tx) tx).length) ∧ UT W F b n (relA s tx) w' := by
  have CT := Aside0.mk (u_stop u ho tx)
  have HO := Aside0.mk (ho.stop tx)
  have HR := Aside0.mk (show relA s tx = freesA (stopA s tx) tx (heldA (stopA s tx) tx) from rfl)
  have CK := Aside0.mk (fun w (u : UT W F b n (stopA s tx) w) => u_keys u tx hl)
  have HL := Aside0.mk hl
  clear hl ho u
  generalize (waitK s.w tx).isSome = r1 at *
  generalize stopA s tx = s1 at *
  go_enter Try.func15, Try.ntmps15
  go_wp2_with (go_at_call 14; refine CT.out.mono ?_; rintro e w2 ⟨rfl, U2⟩; clear CT)
  go_wp2_with (go_at_call 18; refine (CK.out _ U2).mono ?_; rintro e w3 ⟨v, ys, rfl, A3⟩; clear CK; obtain ⟨A, c, rfl, _⟩ := Upd.rowS A3.out.2.2)
  have HP1 := Aside0.mk A3.out.1
  have U3 := Aside0.mk A3.out.2.2
  have HF := Aside0.mk (show freesA s1 tx ys = freesA s1 tx (heldA s1 tx) from frees_perm A3.out.1 s1 tx)
  have hlen : ys.length < 900000 := by rw [A3.out.1.length_eq]; exact HL.out
  have hnd : ys.Nodup := A3.out.1.nodup_iff.2 (held_nodup HO.out tx)
  have HN := Aside0.mk hnd
  clear hnd A3
  go_loopg [16] ys.length (fun k s16 wr => ∃ i : Nat, s16 = .int .i64 i ∧ i + k = ys.length ∧ Aside0 (Upd W F (Sep (TabA b n (freesA s1 tx (ys.take i))) (RowAt Kd.string 9 (.slice A ys.length c) ys)) wr))
  case atStart => exact ⟨0, rfl, by omega, U3⟩
  case round =>
    obtain ⟨i, rfl, hik, A1⟩ := hrel
    by_cases hi : i < ys.length
    · have p1 : ((i : Int) < (ys.length : Int)) = True := eq_true (by omega)
      obtain ⟨A', c', hv, hC⟩ := Upd.rowS A1.out
      injection hv with ha _ hcc
      subst ha hcc
      obtain ⟨ad, rfl, x0⟩ := at_str hC i hi
      have hki : ys.getD i default = ys[i] := by rw [List.getD_eq_getElem?_getD, List.getElem?_eq_getElem hi]; rfl
      have hmem : ys[i] ∈ heldA s1 tx := HP1.out.mem_iff.1 (List.getElem_mem hi)
      obtain ⟨x, hx, _⟩ := held_get HO.out hmem
      have hnt : ys[i] ∉ ys.take i := by
        intro hm
        obtain ⟨j, hj, he⟩ := List.mem_take_iff_getElem.1 hm
        have h1 : j < i := by omega
        exact List.pairwise_iff_getElem.1 HN.out j i (by omega) hi h1 he
      have hgx : getK (freesA s1 tx (ys.take i)).k ys[i] = some x := by unfold freesA; rw [getK_frees tx _ _ _ hnt]; exact hx
      have hos : Ok 899999 (freesA s1 tx (ys.take i)) := HO.out.frees tx _
      have hq : x.q.length < 900000 := by have := hos.l _ (getK_mem hgx); dsimp only at this; omega
      have hst : freesA s1 tx (ys.take (i + 1)) = settleA ⟨setK (freesA s1 tx (ys.take i)).k ys[i] ⟨delI x.h tx, x.q⟩, (freesA s1 tx (ys.take i)).w⟩ ys[i] := by
        rw [List.take_succ_eq_append_getElem hi, frees_snoc, free_some hgx]
      rw [hki] at x0
      clear hmem hnt hos hx hC hki
      generalize ys[i] = key at *
      generalize freesA s1 tx (ys.take i) = s2 at *
      obtain ⟨mk, eb, hb, w4, c0, hLk, d0, hdel, U4⟩ := u_delH A1.out hgx tx
      have hgs : getK (⟨setK s2.k key ⟨delI x.h tx, x.q⟩, s2.w⟩ : St ByteArray).k key = some ⟨delI x.h tx, x.q⟩ := by dsimp only; rw [getK_setK, hgx]; simp
      have CS := Aside0.mk (Upd.thenL (r := fun e => e = .returned (.tuple #[])) U4 (fun G h => settleA_calls b _ w4 G key _ h hgs hq))
      have HST := Aside0.mk hst
      clear hgs U4 hgx hst hq
      go_wp2_with (go_at_call 24; refine CS.out.mono ?_; rintro e w5 ⟨rfl, U5⟩)
      go_roundg (gk - 1)
      case measure => omega
      case rel => exact ⟨i + 1, by simp, by omega, Aside0.mk (by rw [HST.out]; exact U5.out)⟩
    · have p1 : ((i : Int) < (ys.length : Int)) = False := eq_false (by omega)
      obtain rfl : i = ys.length := by omega
      have hll := HP1.out.length_eq
      have HLL := Aside0.mk hll
      clear hll
      go_wp2
      go_ret
      refine ⟨by rw [← HLL.out]; rfl, Aside0.mk ?_⟩
      have h := A1.out
      rw [List.take_length, HF.out] at h
      rw [HR.out]
      exact Upd.drop h
end Go.Proofs.Ytlakklaaapfpeaa.LK
namespace Go.Proofs.Ytlakklaaapfpeaa.LK
open Go Go.RowKit Go.Proofs.YtlakklaaapfpeaaW.PrintWords Go.Proofs.YtlakklaaapfpeaaW.PrintLast Go.Proofs.YtlakklaaapfpeaaW.PrintMore Go.Proofs.Ytlakklaaapfpeaa.L
set_option linter.unusedVariables false
set_option linter.unusedSimpArgs false
abbrev Pr := Int × Int
/-- Strictly less. -/
def ltP (a b : Pr) : Bool := decide (a.1 < b.1) || (decide (a.1 = b.1) && decide (a.2 < b.2))
/-- Those that are as the one ahead of them are left out. -/
def cF : Option Pr → List Pr → List Pr
  | _, [] => []
  | o, a :: l => if o = some a then cF (some a) l else a :: cF (some a) l
theorem cF_snoc : ∀ (l : List Pr) (o : Option Pr) (a : Pr), cF o (l ++ [a]) = cF o l ++ (if (l.getLast?.or o) = some a then [] else [a])
  | [], o, a => by
    by_cases h : o = some a
    · have h2 : (([] : List Pr).getLast?.or o) = some a := h
      rw [if_pos h2, List.nil_append]
      show (if o = some a then cF (some a) [] else a :: cF (some a) []) = _
      rw [if_pos h]
      rfl
    · have h2 : ¬ (([] : List Pr).getLast?.or o) = some a := h
      rw [if_neg h2, List.nil_append]
      show (if o = some a then cF (some a) [] else a :: cF (some a) []) = _
      rw [if_neg h]
      rfl
  | b :: l, o, a => by
    rw [List.cons_append, cF, cF, cF_snoc l (some b) a]
    have e : (b :: l).getLast?.or o = l.getLast?.or (some b) := by
      cases l with
      | nil => simp
      | cons c l =>
        rw [List.getLast?_cons_cons]
        have h : (c :: l).getLast?.isSome := by simp
        obtain ⟨z, hz⟩ := Option.isSome_iff_exists.1 h
        rw [hz]
        rfl
    rw [e]
    split
    · rfl
    · rfl
theorem ltP_irrefl (a : Pr) : ltP a a = false := by unfold ltP; simp
theorem ltP_trans {a b c : Pr} (h1 : ltP a b = true) (h2 : ltP b c = true) : ltP a c = true := by
  unfold ltP at *
  simp only [Bool.or_eq_true, Bool.and_eq_true, decide_eq_true_eq] at *
  omega
theorem ltP_total {a b : Pr} (h1 : ltP a b = false) (h2 : ltP b a = false) : a = b := by
  unfold ltP at *
  simp only [Bool.or_eq_false_iff, Bool.and_eq_false_iff, decide_eq_false_iff_not] at *
  obtain ⟨a1, a2⟩ := a
  obtain ⟨b1, b2⟩ := b
  dsimp only at *
  have e1 : a1 = b1 := by omega
  subst e1
  have e2 : a2 = b2 := by omega
  rw [e2]
theorem ltP_le_trans {a b c : Pr} (h1 : ltP b a = false) (h2 : ltP b c = true) : ltP a c = true := by
  by_cases h : a = b
  · rw [h]; exact h2
  · cases h3 : ltP a b with
    | true => exact ltP_trans h3 h2
    | false => exact absurd (ltP_total h3 h1) h
theorem cF_mem : ∀ (l : List Pr) (o : Option Pr) (x : Pr), x ∈ cF o l → x ∈ l
  | [], _, _, h => by cases h
  | a :: l, o, x, h => by
    unfold cF at h
    split at h
    · exact List.mem_cons_of_mem _ (cF_mem l _ x h)
    · rcases List.mem_cons.1 h with rfl | h
      · exact List.mem_cons_self
      · exact List.mem_cons_of_mem _ (cF_mem l _ x h)
theorem cF_has : ∀ (l : List Pr) (o : Option Pr) (x : Pr), x ∈ l → x ∈ cF o l ∨ o = some x
  | [], _, _, h => by cases h
  | a :: l, o, x, h => by
    unfold cF
    rcases List.mem_cons.1 h with rfl | h
    · split
      · rename_i h2; exact .inr h2
      · exact .inl List.mem_cons_self
    · rcases cF_has l (some a) x h with h3 | h3
      · split
        · exact .inl h3
        · exact .inl (List.mem_cons_of_mem _ h3)
      · injection h3 with h3
        subst h3
        split
        · rename_i h2; exact .inr h2
        · exact .inl List.mem_cons_self
/-- Of a sorted row: strictly sorted. -/
theorem cF_sorted : ∀ (l : List Pr) (o : Option Pr), l.Pairwise (fun a b => ltP b a = false) → (∀ p, o = some p → ∀ x ∈ l, ltP x p = false) → (cF o l).Pairwise (fun a b => ltP a b = true) ∧ ∀ p, o = some p → ∀ x ∈ cF o l, ltP p x = true
  | [], _, _, _ => ⟨List.Pairwise.nil, fun _ _ _ h => by cases h⟩
  | a :: l, o, h, ho => by
    rw [List.pairwise_cons] at h
    obtain ⟨h1, h2⟩ := cF_sorted l (some a) h.2 (fun p hp x hx => by injection hp with hp; subst hp; exact h.1 x hx)
    unfold cF
    split
    · rename_i he
      exact ⟨h1, fun p hp x hx => h2 p (by rw [← hp, he]) x hx⟩
    · rename_i he
      refine ⟨List.pairwise_cons.2 ⟨fun x hx => h2 a rfl x hx, h1⟩, fun p hp x hx => ?_⟩
      have hpa : ltP p a = true := by
        cases h3 : ltP p a with
        | true => rfl
        | false => exact absurd (by rw [hp, ltP_total h3 (ho p hp a List.mem_cons_self)]) he
      rcases List.mem_cons.1 hx with rfl | hx
      · exact hpa
      · exact ltP_trans hpa (h2 a rfl x hx)
/-- In strict order, each once. -/
def insU (p : Pr) : List Pr → List Pr
  | [] => [p]
  | a :: l => if ltP p a then p :: a :: l else if p = a then a :: l else a :: insU p l
def sortU (l : List Pr) : List Pr := l.foldr insU []
theorem mem_insU (p x : Pr) : ∀ l : List Pr, x ∈ insU p l ↔ x = p ∨ x ∈ l
  | [] => by simp [insU]
  | a :: l => by
    unfold insU
    split
    · simp
    · split
      · rename_i h; subst h; simp
      · simp only [List.mem_cons, mem_insU p x l]
        constructor
        · rintro (h | h | h)
          · exact .inr (.inl h)
          · exact .inl h
          · exact .inr (.inr h)
        · rintro (h | h | h)
          · exact .inr (.inl h)
          · exact .inl h
          · exact .inr (.inr h)
theorem insU_sorted (p : Pr) : ∀ {l : List Pr}, l.Pairwise (fun a b => ltP a b = true) → (insU p l).Pairwise (fun a b => ltP a b = true)
  | [], _ => by simp [insU]
  | a :: l, h => by
    rw [List.pairwise_cons] at h
    unfold insU
    split
    · rename_i hp
      refine List.pairwise_cons.2 ⟨fun x hx => ?_, List.pairwise_cons.2 h⟩
      rcases List.mem_cons.1 hx with rfl | hx
      · exact hp
      · exact ltP_trans hp (h.1 x hx)
    · rename_i hp
      split
      · exact List.pairwise_cons.2 h
      · rename_i hne
        refine List.pairwise_cons.2 ⟨fun x hx => ?_, insU_sorted p h.2⟩
        rcases (mem_insU p x l).1 hx with rfl | hx
        · cases h3 : ltP a x with
          | true => rfl
          | false => exact absurd (ltP_total (by simpa using hp) h3) hne
        · exact h.1 x hx
theorem mem_sortU (x : Pr) : ∀ l : List Pr, x ∈ sortU l ↔ x ∈ l
  | [] => by simp [sortU]
  | a :: l => by
    have := mem_sortU x l
    unfold sortU at this ⊢
    rw [List.foldr_cons, mem_insU, this, List.mem_cons]
theorem sortU_sorted : ∀ l : List Pr, (sortU l).Pairwise (fun a b => ltP a b = true)
  | [] => List.Pairwise.nil
  | a :: l => insU_sorted a (sortU_sorted l)
theorem strict_eq : ∀ {l l' : List Pr}, l.Pairwise (fun a b => ltP a b = true) → l'.Pairwise (fun a b => ltP a b = true) → (∀ x, x ∈ l ↔ x ∈ l') → l = l'
  | [], [], _, _, _ => rfl
  | [], b :: l', _, _, h => by have := (h b).2 List.mem_cons_self; cases this
  | a :: l, [], _, _, h => by have := (h a).1 List.mem_cons_self; cases this
  | a :: l, b :: l', h1, h2, h => by
    rw [List.pairwise_cons] at h1 h2
    have hab : a = b := by
      rcases List.mem_cons.1 ((h a).1 List.mem_cons_self) with e | e
      · exact e
      · rcases List.mem_cons.1 ((h b).2 List.mem_cons_self) with e2 | e2
        · exact e2.symm
        · have h3 := ltP_trans (h2.1 a e) (h1.1 b e2)
          rw [ltP_irrefl] at h3
          cases h3
    subst hab
    congr 1
    refine strict_eq h1.2 h2.2 (fun x => ?_)
    have := h x
    rw [List.mem_cons, List.mem_cons] at this
    constructor
    · intro hx
      rcases this.1 (.inr hx) with rfl | h3
      · have := h1.1 x hx; rw [ltP_irrefl] at this; cases this
      · exact h3
    · intro hx
      rcases this.2 (.inr hx) with rfl | h3
      · have := h2.1 x hx; rw [ltP_irrefl] at this; cases this
      · exact h3
/-- What the sort and the compaction of pairs come to. -/
theorem sort_compact {l ys : List Pr} (hp : l.Perm ys) (hs : ys.Pairwise (fun a b => ltP b a = false)) : cF none ys = sortU l := by
  refine strict_eq (cF_sorted ys none hs (fun p h => by cases h)).1 (sortU_sorted l) (fun x => ?_)
  rw [mem_sortU]
  constructor
  · intro h; exact hp.mem_iff.2 (cF_mem ys none x h)
  · intro h
    rcases cF_has ys none x (hp.mem_iff.1 h) with h | h
    · exact h
    · cases h
end Go.Proofs.Ytlakklaaapfpeaa.LK
namespace Go.Proofs.Ytlakklaaapfpeaa.LK
open Go Go.RowKit Go.Proofs.YtlakklaaapfpeaaW.PrintWords Go.Proofs.YtlakklaaapfpeaaW.PrintLast Go.Proofs.YtlakklaaapfpeaaW.PrintMore Go.Proofs.Ytlakklaaapfpeaa.L
set_option linter.unusedVariables false
set_option linter.unusedSimpArgs false
def cellsP (c : Pr) : List Value := [.int .i64 c.1, .int .i64 c.2]
def kdP : Kd Pr where
  sz := 2
  E := []
  K := fun _ x cs => cs = cellsP x
  M := fun _ _ _ x cs => cs = cellsP x
  K_len := by rintro w x cs rfl; rfl
  K_one := by
    rintro w x cs rfl u hu
    simp only [cellsP, List.mem_cons, List.not_mem_nil, or_false] at hu
    rcases hu with rfl | rfl <;> rfl
  K_below := fun _ h => h
  K_of_M := fun h => h
  M_mono := fun _ h => h
  M_bound := fun h => h
  M_move := fun _ h => h
  M_lower := fun _ h => h
theorem infoP : (Try.prog.info? 47).map (fun i => (i.zero, i.size, i.bytes)) = some (some (.agg #[.int .i64 0, .int .i64 0]), 2, 16) := by kernel_rfl
/-! ### who waits for whom -/
/-- For whom one that waits waits: for those that hold what it wants, and for all ahead of it. -/
def holdsE (h : List (Int × Int)) (w : Wt) : List Pr := (h.filter (fun p => !okP w p)).map (fun p => (w.tx, p.1))
def aheadE (q : List Wt) (w : Wt) : List Pr := q.map (fun x => (w.tx, x.tx))
def oneE (h : List (Int × Int)) (q : List Wt) (i : Nat) : List Pr := holdsE h (q.getD i default) ++ aheadE (q.take i) (q.getD i default)
def pairsQ (x : Le) : List Pr := (List.range x.q.length).flatMap (oneE x.h x.q)
def pairsA {K : Type} (s : St K) : List Pr := s.k.flatMap (fun p => pairsQ p.2)
theorem pairs_abs (t : Tb) : pairsA (absT t) = t.k.flatMap (fun p => pairsQ p.2.2) := by
  unfold pairsA absT
  dsimp only
  rw [List.flatMap_map]
/-- What is known within: the row of pairs, and the keys that are still to come. -/
structure Ed (W : World) (t : Tb) (lf : List Pk) (v : Value) (xs : List Pr) (wr : World) : Prop where
  e : Eff0 W wr
  r : kdP.R 47 wr W.heap.size (fun _ => True) v xs
  it : IterO keyStr wr W.heap.size t.kb (ptrs t.k) (ptrs lf)
  mb : ∀ b, t.kb = some b → b < W.heap.size
theorem Ed.own {W : World} {t : Tb} {lf : List Pk} {v : Value} {xs : List Pr} {wr : World} (h : Ed W t lf v xs wr) {g : Nat} (hg : v.ownBlock = some g) : W.heap.size ≤ g ∧ ∃ cells, wr.heap[g]? = some (.cells cells 47 (0, 0)) := by
  obtain ⟨inner, ho⟩ := Kd.R_own h.r
  exact ⟨Kd.R_base h.r g hg, own_typed ho g hg⟩
/-- An object of another kind stays when the row grows. -/
theorem Ed.keeps {W : World} {t : Tb} {lf : List Pk} {v : Value} {xs : List Pr} {wr w' : World} (h : Ed W t lf v xs wr) (hg : wr.grownBy w' v.ownBlock) {k : Nat} {o : Obj} (hk : wr.heap[k]? = some o) (ho : ∀ cells, o ≠ .cells cells 47 (0, 0)) : w'.heap[k]? = some o := by
  rw [← hk]
  refine hg.block k (Array.getElem?_eq_some_iff.1 hk).1 (fun e => ?_)
  obtain ⟨_, cells, hc⟩ := h.own e.symm
  rw [hk] at hc
  injection hc with hc
  exact ho cells hc
theorem IterO.obj {K : Type} [DecidableEq K] {κ : Key K} {w : World} {r : Nat} {mb : Option Nat} {l left : List (K × Value)} (h : IterO κ w r mb l left) : ∃ a c s c2, w.heap[r]? = some (.mapIter a c s c2) := by
  cases mb with
  | none =>
    obtain ⟨⟨c, s, c2, h1⟩, _⟩ := h
    exact ⟨_, c, s, c2, h1⟩
  | some b =>
    obtain ⟨es, clock, seen, c0, _, _, _, h4, _⟩ := h
    exact ⟨_, _, _, _, h4⟩
theorem Iter.obj {K : Type} [DecidableEq K] {κ : Key K} {w : World} {r b : Nat} {l left : List (K × Value)} (h : Iter κ w r b l left) : ∃ a c s c2, w.heap[r]? = some (.mapIter a c s c2) := by
  obtain ⟨es, clock, seen, c0, _, _, _, h4, _⟩ := h
  exact ⟨_, _, _, _, h4⟩
/-- Nothing old is written. -/
theorem Ed.after {W : World} {t : Tb} {lf : List Pk} {v : Value} {xs : List Pr} {wr w' : World} (h : Ed W t lf v xs wr) (e : Eff0 wr w') : Ed W t lf v xs w' :=
  ⟨h.e.trans e (fun _ h => h.elim), Kd.R_step h.r (fun k _ hk => e.block k hk id), h.it.move (fun b hb => e.block b (Nat.lt_of_lt_of_le (h.mb b hb) h.e.size) id) (e.block _ h.it.lt id), h.mb⟩
/-- The row grew. -/
theorem Ed.grown {W : World} {t : Tb} {lf : List Pk} {v v' : Value} {xs xs' : List Pr} {wr w' : World} (h : Ed W t lf v xs wr) (hg : wr.grownBy w' v.ownBlock) (hr : kdP.R 47 w' W.heap.size (fun _ => True) v' xs') : Ed W t lf v' xs' w' := by
  refine ⟨h.e.trans (Eff.of_grown hg (S := fun k => v.ownBlock = some k) (fun i hi => hi)) (fun k hk => .inr (h.own hk).1), hr, h.it.move (fun b hb => ?_) ?_, h.mb⟩
  · refine hg.block b (Nat.lt_of_lt_of_le (h.mb b hb) h.e.size) (fun e => ?_)
    have := (h.own e.symm).1
    have := h.mb b hb
    omega
  · obtain ⟨a, c, s, c2, ho⟩ := IterO.obj h.it
    rw [ho]
    exact h.keeps hg ho (fun _ e => by cases e)
/-- An iterator or a map of old stays. -/
theorem Ed.iter {K : Type} [DecidableEq K] {κ : Key K} {W : World} {t : Tb} {lf : List Pk} {v : Value} {xs : List Pr} {wr w' : World} (h : Ed W t lf v xs wr) (hg : wr.grownBy w' v.ownBlock) {r b : Nat} {l left : List (K × Value)} (hi : Iter κ wr r b l left) (hb : b < W.heap.size) : Iter κ w' r b l left := by
  refine hi.move (hg.block b (Nat.lt_of_lt_of_le hb h.e.size) (fun e => ?_)) ?_
  · have := (h.own e.symm).1
    omega
  · obtain ⟨a, c, s, c2, ho⟩ := Iter.obj hi
    rw [ho]
    exact h.keeps hg ho (fun _ e => by cases e)
theorem Ed.nextG {W : World} {t : Tb} {lf lf' : List Pk} {v : Value} {xs : List Pr} {wr w' : World} (h : Ed W t lf v xs wr) {r : Nat} (hg : wr.grownBy w' (some r)) (hr : ∃ a c s c2, wr.heap[r]? = some (.mapIter a c s c2)) (hW : W.heap.size ≤ r) (hit : IterO keyStr w' W.heap.size t.kb (ptrs t.k) (ptrs lf')) : Ed W t lf' v xs w' := by
  obtain ⟨a, c, s, c2, ho⟩ := hr
  have E2 : Eff (fun k => k = r) wr w' := Eff.of_grown hg (fun k hk => by injection hk with hk; exact hk.symm)
  refine ⟨h.e.trans E2 (fun k hk => .inr (by rw [hk]; exact hW)), ?_, hit, h.mb⟩
  refine Kd.R_mono (Kd.R_step (Kd.R_bound h.r) (fun k hk hlt => E2.block k hlt (fun e => ?_))) (fun _ _ => trivial)
  obtain ⟨_, _, _, q, _, cells, hc⟩ := hk
  rw [e, ho] at hc
  cases hc
theorem Ed.next {W : World} {t : Tb} {lf : List Pk} {v : Value} {xs : List Pr} {wr w' : World} (h : Ed W t lf v xs wr) {r : Nat} (hg : wr.grownBy w' (some r)) (hr : ∃ a c s c2, wr.heap[r]? = some (.mapIter a c s c2)) (hW : W.heap.size < r) : Ed W t lf v xs w' := by
  have E2 : Eff (fun k => k = r) wr w' := Eff.of_grown hg (fun k hk => by injection hk with hk; exact hk.symm)
  exact h.nextG hg hr (Nat.le_of_lt hW) (h.it.move (fun b hb => E2.block b (Nat.lt_of_lt_of_le (h.mb b hb) h.e.size) (fun e => by have := h.mb b hb; omega)) (E2.block _ h.it.lt (by omega)))
theorem range_le (f : Nat → List Pr) {i n : Nat} (hi : i ≤ n) : ((List.range i).flatMap f).length ≤ ((List.range n).flatMap f).length := by
  obtain ⟨k, rfl⟩ := Nat.exists_eq_add_of_le hi
  rw [List.range_add, List.flatMap_append, List.length_append]
  omega
theorem pairsQ_at (x : Le) (i : Nat) (hi : i < x.q.length) : (List.range (i + 1)).flatMap (oneE x.h x.q) = (List.range i).flatMap (oneE x.h x.q) ++ (holdsE x.h (x.q.getD i default) ++ aheadE (x.q.take i) (x.q.getD i default)) := by
  rw [List.range_succ, List.flatMap_append]
  simp [oneE]
theorem ahead_at (q : List Wt) (w : Wt) (j : Nat) (hj : j < q.length) : aheadE (q.take (j + 1)) w = aheadE (q.take j) w ++ [(w.tx, (q.getD j default).tx)] := by
  unfold aheadE
  rw [List.take_succ_eq_append_getElem hj, List.map_append]
  simp [List.getD, hj]
theorem pairsQ_bound (x : Le) (i : Nat) (hi : i < x.q.length) : ((List.range i).flatMap (oneE x.h x.q)).length + (holdsE x.h (x.q.getD i default)).length + (aheadE (x.q.take i) (x.q.getD i default)).length ≤ (pairsQ x).length := by
  have := range_le (oneE x.h x.q) (show i + 1 ≤ x.q.length from hi)
  rw [pairsQ_at x i hi, List.length_append, List.length_append] at this
  unfold pairsQ
  omega
end Go.Proofs.Ytlakklaaapfpeaa.LK
namespace Go.Proofs.Ytlakklaaapfpeaa.LK
open Go Go.RowKit Go.Proofs.YtlakklaaapfpeaaW.PrintWords Go.Proofs.YtlakklaaapfpeaaW.PrintLast Go.Proofs.YtlakklaaapfpeaaW.PrintMore Go.Proofs.Ytlakklaaapfpeaa.L
set_option linter.unusedVariables false
set_option linter.unusedSimpArgs false
variable {n : Bool}
theorem holds_draw {h h' : List (Int × Int)} {p : Int × Int} (w : Wt) (hp : h.Perm (p :: h')) : (holdsE h w).Perm (if okP w p then holdsE h' w else (w.tx, p.1) :: holdsE h' w) := by
  unfold holdsE
  refine ((hp.filter (fun p => !okP w p)).map (fun p => (w.tx, p.1))).trans ?_
  cases ho : okP w p with
  | true => rw [List.filter_cons_of_neg (by simp [ho]), if_pos rfl]
  | false => rw [List.filter_cons_of_pos (by simp [ho]), if_neg (by simp), List.map_cons]
def edgesA {K : Type} (s : St K) : List Pr := sortU (pairsA s)
set_option maxHeartbeats 1600000 in
set_option maxRecDepth 100000 in
theorem edges_calls (b : Nat) (s : St ByteArray) (W : World) (F : Nat → Prop) (h : (TabA b n s).on W F) (ho : Ok 899999 s) (hl : (pairsA s).length < 900000)
    (CS : ∀ w1 v xs, kdP.R 47 w1 W.heap.size (fun _ => True) v xs → xs.length < 900000 → Calls Try.prog 29 #[v, .func (.func 30) #[] #[]] w1 fun e w' => e = .returned (.tuple #[]) ∧ Aside0 (∃ ys, xs.Perm ys ∧ ys.Pairwise (fun a b => ltP b a = false) ∧ kdP.R 47 w' W.heap.size (fun _ => True) v ys ∧ Eff (fun k => v.ownBlock = some k) w1 w'))
    (CC : ∀ w1 v xs, kdP.R 47 w1 W.heap.size (fun _ => True) v xs → xs.length < 900000 → Calls Try.prog 33 #[v] w1 fun e w' => ∃ v', e = .returned v' ∧ Aside0 (kdP.R 47 w' W.heap.size (fun _ => True) v' (cF none xs) ∧ Eff (fun k => v.ownBlock = some k) w1 w')) :
    Calls Try.prog 19 #[.pointer (some ⟨b, 0, none⟩)] W fun e w' => ∃ v, e = .returned v ∧ Aside0 (kdP.R 47 w' W.heap.size (fun _ => True) v (edgesA s) ∧ Eff0 W w') := by
  obtain ⟨t, rfl, hk, ht⟩ := TabA.open_ h
  obtain ⟨c0, _⟩ := TabAt.facts ht
  obtain ⟨hM, hlt⟩ := TabAt.maps2 ht
  have hnd : (t.k.map (·.1)).Nodup := by
    obtain ⟨_, _, _, ⟨G, hP, _⟩, _⟩ := TabAt.facts ht
    exact PMap.nodup hP
  have hqs : ∀ q ∈ t.k, q.2.2.q.length < 900000 := fun q hq => by
    have := ho.l (q.1, q.2.2) (List.mem_map.2 ⟨q, hq, rfl⟩)
    dsimp only at this
    omega
  have H := Aside0.mk (And.intro ht (And.intro hlt (And.intro hl (And.intro hnd hqs))))
  have HCS := Aside0.mk CS
  have HCC := Aside0.mk CC
  clear h ht hk hlt hl CS CC hnd hqs ho
  go_enter Try.func19, Try.ntmps19
  go_wp2_with (at_range; refine wpList_range_mapO rfl (.tmp 17) rfl rfl hM Try.underlying25 ?_; intro o' hI)
  try go_frame
  go_loopg [3] t.k.length (fun k s3 wr => ∃ (lf : List Pk) (xs : List Pr), lf.length ≤ k ∧ Aside0 (Ed W t lf s3 xs wr ∧ (xs ++ lf.flatMap (fun p => pairsQ p.2.2)).Perm (pairsA (absT t)) ∧ (lf.map (·.1)).Nodup ∧ ∀ q ∈ lf, q ∈ t.k))
  case atStart => exact ⟨t.k, [], Nat.le_refl _, Aside0.mk ⟨⟨(Eff.refl _ _).alloc _, Kd.R_nil _ _ _ _ _, hI, H.out.2.1⟩, by rw [pairs_abs, List.nil_append], H.out.2.2.2.1, fun _ h => h⟩⟩
  case round =>
    obtain ⟨lf, xs, hk, A1⟩ := hrel
    have hI2 := A1.out.1.it
    clear hI hM
    go_wp2_with (at_next; refine wpList_next_mapO rfl (.tmp 18) rfl rfl hI2 ?_ ?_)
    · intro h0
      have hlf : lf = [] := by cases lf with | nil => rfl | cons _ _ => cases h0
      subst hlf
      have hp := A1.out.2.1
      rw [List.flatMap_nil, List.append_nil] at hp
      have hxl : xs.length < 900000 := by rw [hp.length_eq]; exact H.out.2.2.1
      have C := Aside0.mk (HCS.out wr _ xs A1.out.1.r hxl)
      obtain ⟨A5, c5, hv⟩ := Kd.R_slice A1.out.1.r
      subst hv
      have HP1 := Aside0.mk (And.intro hp hxl)
      clear h0 hI2 hk hp hxl
      go_wp2_with (go_at_call 29; refine C.out.mono ?_; rintro e w2 ⟨rfl, A2⟩)
      obtain ⟨ys, h1, h2, h3, h4⟩ := A2.out
      have C2 := Aside0.mk (HCC.out w2 _ ys h3 (by rw [← h1.length_eq]; exact HP1.out.2))
      have HY := Aside0.mk (And.intro h1 (And.intro h2 h4))
      clear h1 h2 h3 h4
      go_wp2_with (go_at_call 33; refine C2.out.mono ?_; rintro e w3 ⟨v3, rfl, A3⟩; obtain ⟨A6, c6, hv3⟩ := Kd.R_slice A3.out.1; subst hv3)
      go_ret
      obtain ⟨a1, a2⟩ := A3.out
      obtain ⟨h1, h2, h4⟩ := HY.out
      refine ⟨_, rfl, Aside0.mk ⟨?_, ?_⟩⟩
      · have e : cF none ys = edgesA (absT t) := by
          unfold edgesA
          exact sort_compact (HP1.out.1.symm.trans h1) h2
        rw [← e]
        exact a1
      · exact (A1.out.1.e.trans h4 (fun k hk => .inr (A1.out.1.own hk).1)).trans a2 (fun k hk => .inr (A1.out.1.own hk).1)
    · intro k0 v0 w' hp hI' hg hs hen
      obtain ⟨q, hq, he, hd, hpm, hnd⟩ := ptrs_draw A1.out.2.2.1 hp
      obtain ⟨rfl, rfl⟩ := Prod.mk.inj he
      clear he
      dsimp only at hd
      rw [hd] at hI'
      have D1 := A1.out.1.nextG hg (IterO.obj hI2) (Nat.le_refl _) hI'
      have hq0 := A1.out.2.2.2 q hq
      obtain ⟨hb, A, c, G, d0W, d1W, hMW, hQW⟩ := TabAt.ent H.out.1 hq0
      have hql := H.out.2.2.2.2 q hq0
      have hnh := hMW.nodup
      rw [ints_keys] at hnh
      have hp2 := ((hpm.flatMap_right (fun p => pairsQ p.2.2)).append_left xs).symm.trans A1.out.2.1
      rw [List.flatMap_cons, ← List.append_assoc] at hp2
      have hbd : xs.length + (pairsQ q.2.2).length < 900000 := by
        have := hp2.length_eq
        rw [List.length_append, List.length_append] at this
        have := H.out.2.2.1
        omega
      have hs2 : ∀ x ∈ delP lf q.1, x ∈ t.k := fun x hx => A1.out.2.2.2 x (hpm.mem_iff.2 (List.mem_cons_of_mem _ hx))
      have hdl := hpm.length_eq
      rw [List.length_cons] at hdl
      obtain ⟨A5, c5, hv5⟩ := Kd.R_slice D1.r
      subst hv5
      have HD := Aside0.mk (And.intro D1 (And.intro hp2 (And.intro hnd (And.intro hs2 (And.intro hdl hk)))))
      have hen2 : (Instr.entry (.pointer (some ⟨W.heap.size, 0, none⟩))).run Try.prog w' = .ok (.tuple #[.string q.1, .pointer (some ⟨q.2.1, 0, none⟩)]) w' := hen
      clear hp hI' hg hs hen hd hpm hnd hp2 hs2 hdl hI2 hk D1 A1 hq hq0
      generalize delP lf q.1 = lf' at *
      obtain ⟨qk, eb, x⟩ := q
      dsimp only at hbd hen2 d0W d1W hMW hQW hql hnh HD
      rw [show keyStr.enc qk = .string qk from rfl]
      have d1 := cell_eff d1W HD.out.1.e
      have hcl : x.q.length ≤ c := by
        obtain ⟨A', c', hv, hc, _⟩ := QAt.reads hQW
        injection hv with _ _ hcc
        omega
      have HW := Aside0.mk (And.intro d0W (And.intro d1W (And.intro hMW (And.intro hQW (And.intro hnh (And.intro hbd hcl))))))
      clear d0W d1W hMW hQW hnh hbd hcl
      obtain ⟨g1, rfl⟩ : ∃ g1 : Nat, g1 = gk := ⟨_, rfl⟩
      go_wp2_with fail
      go_loopg [3, 28] x.q.length (fun k s3 s28 wq => ∃ (i : Nat) (xs2 : List Pr), s28 = .int .i64 i ∧ i + k = x.q.length ∧ Aside0 (Ed W t lf' s3 xs2 wq ∧ xs2.Perm (xs ++ (List.range i).flatMap (oneE x.h x.q))))
      case atStart => exact ⟨0, xs, rfl, by omega, Aside0.mk ⟨HD.out.1, by simp⟩⟩
      case round =>
        obtain ⟨i, xs2, rfl, hik, B1⟩ := hrel
        obtain ⟨wq, rfl⟩ : ∃ wq : World, wq = wr := ⟨_, rfl⟩
        by_cases hi : i < x.q.length
        · have p1 : ((i : Int) < (x.q.length : Int)) = True := eq_true (by omega)
          obtain ⟨A', c', hv, _, hR⟩ := QAt.reads (HP.eff0 HW.out.2.2.2.1 B1.out.1.e)
          injection hv with ha _ hcc
          subst ha hcc
          obtain ⟨bg, og, rfl, x0, x1, x2⟩ := hR i hi
          have e0 := cell_eff HW.out.1 B1.out.1.e
          have heb : eb < wq.heap.size := World.block_lt_of_cell? _ _ e0
          have hMq := HW.out.2.2.1.move (B1.out.1.e.block _ HW.out.2.2.1.lt id)
          have hM1 : ∀ o : Obj, MapAt keyInt (wq.alloc o) hb (ints x.h) := fun o => hMq.move (((Eff.refl (fun _ => False) _).alloc o).block _ hMq.lt id)
          have hbd := pairsQ_bound x i hi
          have HB := Aside0.mk (And.intro hbd (And.intro hMq.lt (And.intro B1 (show i < 900000 by omega))))
          clear hR hMq hbd
          generalize hww : x.q.getD i default = ww at *
          obtain ⟨tx, all, own⟩ := ww
          dsimp only at x0 x1 x2
          have HWW := Aside0.mk hww
          clear hww
          have hsz : ∀ o, (wq.alloc o).heap.size = wq.heap.size + 1 := fun o => by simp
          go_wp2_with (at_range; refine wpList_range_map rfl (.tmp 36) rfl rfl (hM1 _) Try.underlying56 ?_; intro o'' hJ; rw [hsz] at hJ; rw [hsz])
          try go_frame
          obtain ⟨g2, rfl⟩ : ∃ g2 : Nat, g2 = gk := ⟨_, rfl⟩
          go_loopg [3] x.h.length (fun k s3 wr => ∃ (lh : List (Int × Int)) (xs3 : List Pr), Iter keyInt wr (wq.heap.size + 1) hb (ints x.h) (ints lh) ∧ lh.length ≤ k ∧ wr.cell? ⟨wq.heap.size, 0, none⟩ = some (.int .i64 tx) ∧ wr.cell? ⟨wq.heap.size, 1, none⟩ = some (.bool all) ∧ Aside0 (wr.heap[wq.heap.size]? = some (.cells #[.int .i64 tx, .bool all, .bool own] 62 (0, 0)) ∧ Ed W t lf' s3 xs3 wr ∧ (xs3 ++ holdsE lh ⟨tx, all, own⟩).Perm (xs2 ++ holdsE x.h ⟨tx, all, own⟩) ∧ (lh.map (·.1)).Nodup ∧ wq.heap.size + 1 < wr.heap.size))
          case atStart =>
            have hbx : ((wq.alloc (.cells #[.int .i64 tx, .bool all, .bool own] 62)).alloc o'').heap[wq.heap.size]? = some (.cells #[.int .i64 tx, .bool all, .bool own] 62 (0, 0)) := heap_alloc2_old wq _ _
            refine ⟨x.h, xs2, hJ, Nat.le_refl _, blk_cell hbx 0, blk_cell hbx 1, Aside0.mk ⟨hbx, HB.out.2.2.1.out.1.after (((Eff.refl _ _).alloc _).alloc _), List.Perm.refl _, HW.out.2.2.2.2.1, by simp⟩⟩
          case round =>
            obtain ⟨lh, xs3, hJ2, hlk, y0, y1, C1⟩ := hrel
            clear hJ x0 x1 x2 e0 heb hM1
            obtain ⟨w3, rfl⟩ : ∃ w3 : World, w3 = wr := ⟨_, rfl⟩
            go_wp2_with (at_next; refine wpList_next_map rfl (.tmp 37) rfl rfl hJ2 ?_ ?_)
            · intro h0
              have hlf : lh = [] := by cases lh with | nil => rfl | cons _ _ => cases h0
              subst hlf
              have hp3 := C1.out.2.2.1
              rw [show holdsE [] ⟨tx, all, own⟩ = [] from rfl, List.append_nil] at hp3
              have d3 := cell_eff HW.out.2.1 C1.out.2.1.e
              have s1 : (0 ≤ (i : Int)) = True := eq_true (by omega)
              have hcl := HW.out.2.2.2.2.2.2
              have s2 : ((i : Int) ≤ (c : Int)) = True := eq_true (by omega)
              have HI := HB.out.2.2.2
              have HP3 := Aside0.mk (And.intro hp3 (And.intro C1.out.1 (And.intro C1.out.2.1 (And.intro C1.out.2.2.2.2 hi))))
              clear h0 hJ2 hlk C1 hp3 y1 y0 hcl
              go_wp2_with fail
              obtain ⟨g3, rfl⟩ : ∃ g3 : Nat, g3 = gk := ⟨_, rfl⟩
              go_loopg [3, 69] i (fun k s3 s69 wr => ∃ (j : Nat) (xs4 : List Pr), s69 = .int .i64 j ∧ j + k = i ∧ wr.cell? ⟨wq.heap.size, 0, none⟩ = some (.int .i64 tx) ∧ Aside0 (wr.heap[wq.heap.size]? = some (.cells #[.int .i64 tx, .bool all, .bool own] 62 (0, 0)) ∧ Ed W t lf' s3 xs4 wr ∧ xs4.Perm (xs2 ++ holdsE x.h ⟨tx, all, own⟩ ++ aheadE (x.q.take j) ⟨tx, all, own⟩)))
              case atStart => exact ⟨0, xs3, rfl, by omega, blk_cell HP3.out.2.1 0, Aside0.mk ⟨HP3.out.2.1, HP3.out.2.2.1, by rw [List.take_zero, show aheadE [] ⟨tx, all, own⟩ = [] from rfl, List.append_nil]; exact HP3.out.1⟩⟩
              case round =>
                obtain ⟨j, xs4, rfl, hjk, z0, F1⟩ := hrel
                obtain ⟨w5, rfl⟩ : ∃ w5 : World, w5 = wr := ⟨_, rfl⟩
                clear d3
                by_cases hj : j < i
                · have q1 : ((j : Int) < (i : Int)) = True := eq_true (by omega)
                  obtain ⟨A', c', hv, _, hR⟩ := QAt.reads (HP.eff0 HW.out.2.2.2.1 F1.out.2.1.e)
                  injection hv with ha _ hcc
                  subst ha hcc
                  obtain ⟨bg', og', he, v0, v1, v2⟩ := hR j (by omega)
                  injection he with he
                  injection he with he1 he2
                  subst he1 he2
                  have hb5 : (xs4.length + 1) * 16 ≤ 140737488355328 := by
                    have h1 := F1.out.2.2.length_eq
                    have h2 := HB.out.2.2.1.out.2.length_eq
                    have h3 := HB.out.1
                    have h4 := HW.out.2.2.2.2.2.1
                    have h5 : (aheadE (x.q.take j) ⟨tx, all, own⟩).length ≤ (aheadE (x.q.take i) ⟨tx, all, own⟩).length := by
                      unfold aheadE
                      rw [List.length_map, List.length_map, List.length_take, List.length_take]
                      omega
                    rw [List.length_append, List.length_append] at h1
                    rw [List.length_append] at h2
                    omega
                  have ha := ahead_at x.q ⟨tx, all, own⟩ j (by omega)
                  obtain ⟨A7, c7, hv7⟩ := Kd.R_slice F1.out.2.1.r
                  subst hv7
                  have HA := Aside0.mk (And.intro ha (And.intro hb5 F1.out))
                  have hjj : j < 900000 := by have := HI; omega
                  clear hR ha hb5 F1 hj
                  generalize x.q.getD j default = wj at *
                  obtain ⟨tj, aj, oj⟩ := wj
                  dsimp only at v0 v1 v2
                  have hz : wq.heap.size < w5.heap.size := World.block_lt_of_cell? _ _ z0
                  have D6 := fun o : Obj => HA.out.2.2.2.1.after ((Eff.refl (fun _ => False) w5).alloc o)
                  have HD6 := Aside0.mk (D6 (.cells #[.int .i64 tj, .bool aj, .bool oj] 62))
                  clear D6
                  go_wp2_with (at_builtin; go_loud (refine Kd.R_append kdP (W := w5.alloc (.cells #[.int .i64 tj, .bool aj, .bool oj] 62)) (w0 := W) W.heap.size rfl (.tmp 73) (.tmp 79) 39 47 (.agg #[.int .i64 0, .int .i64 0]) 16 rfl Try.underlying39 infoP rfl (by decide) (by decide) (.slice A7 xs4.length c7) xs4 (tx, tj) [.int .i64 tx, .int .i64 tj] (fun _ => True) (fun _ => False) rfl (by simp [Act.eval, Act.put]) rfl (fun _ hk => hk.elim) (fun _ _ => trivial) HD6.out.r HD6.out.e.below0 HD6.out.e.size HA.out.2.1 ?_); intro v5 w7 r1 b1 gr1 o1; have A4 := Aside0.mk (And.intro r1 gr1); clear r1 b1 gr1 o1)
                  go_roundg (gk - 1)
                  case measure => have := of_eq_true q1; omega
                  case rel =>
                    obtain ⟨r1, gr1⟩ := A4.out
                    have hbx6 : (w5.alloc (.cells #[.int .i64 tj, .bool aj, .bool oj] 62)).heap[wq.heap.size]? = some (.cells #[.int .i64 tx, .bool all, .bool own] 62 (0, 0)) := (((Eff.refl (fun _ => False) w5).alloc _).block _ hz id).trans HA.out.2.2.1
                    have hbx7 := HD6.out.keeps gr1 hbx6 (fun _ e => by cases e)
                    have hjlt := of_eq_true q1
                    refine ⟨j + 1, xs4 ++ [(tx, tj)], by simp, by omega, blk_cell hbx7 0, Aside0.mk ⟨hbx7, HD6.out.grown gr1 r1, ?_⟩⟩
                    rw [HA.out.1, ← List.append_assoc]
                    exact HA.out.2.2.2.2.append_right _
                · have q1 : ((j : Int) < (i : Int)) = False := eq_false (by omega)
                  obtain rfl : j = i := by omega
                  have HZ := Aside0.mk (show xs4.Perm (xs ++ (List.range (j + 1)).flatMap (oneE x.h x.q)) by
                    refine F1.out.2.2.trans ?_
                    rw [pairsQ_at x j HP3.out.2.2.2.2, HWW.out, ← List.append_assoc, ← List.append_assoc]
                    exact (HB.out.2.2.1.out.2.append_right _).append_right _)
                  clear hj z0
                  go_wp2
                  go_roundg (g2 - 1)
                  case measure => omega
                  case rel => exact ⟨j + 1, xs4, by simp, by omega, Aside0.mk ⟨F1.out.2.1, HZ.out⟩⟩
            · intro k2 v2 w4 hp hJ3 hg hs hen3
              obtain ⟨v, hv, hd, hpm⟩ := ints_draw C1.out.2.2.2.1 hp
              dsimp only at hv hd hpm
              subst hv
              rw [hd] at hJ3
              have hWq : W.heap.size ≤ wq.heap.size := HB.out.2.2.1.out.1.e.size
              have D4 := C1.out.2.1.next hg (Iter.obj hJ2) (by omega)
              have E4 : Eff (fun k => k = wq.heap.size + 1) w3 w4 := Eff.of_grown hg (fun k hk => by injection hk with hk; exact hk.symm)
              have hbx4 := (E4.block wq.heap.size (blk_lt C1.out.1) (by omega)).trans C1.out.1
              have hpf := ((holds_draw ⟨tx, all, own⟩ hpm).append_left xs3).symm.trans C1.out.2.2.1
              have hnd4 := delI_nodup C1.out.2.2.2.1 k2
              have hlen := hpm.length_eq
              rw [List.length_cons] at hlen
              have hb5 : (xs3.length + 1) * 16 ≤ 140737488355328 := by
                have h1 := C1.out.2.2.1.length_eq
                have h2 := HB.out.2.2.1.out.2.length_eq
                have h3 := HB.out.1
                have h4 := HW.out.2.2.2.2.2.1
                rw [List.length_append, List.length_append] at h1
                rw [List.length_append] at h2
                omega
              obtain ⟨A7, c7, hv7⟩ := Kd.R_slice D4.r
              subst hv7
              have hen4 : (Instr.entry (.pointer (some ⟨wq.heap.size + 1, 0, none⟩))).run Try.prog w4 = .ok (.tuple #[.int .i64 k2, .int .i64 v]) w4 := hen3
              have z0 := blk_cell hbx4 0
              have z1 := blk_cell hbx4 1
              have HE := Aside0.mk (And.intro D4 (And.intro hbx4 (And.intro hJ3 (And.intro hpf (And.intro hnd4 (And.intro (Nat.lt_of_lt_of_le C1.out.2.2.2.2 (Nat.le_of_eq hs.symm)) (And.intro hb5 (show (delI lh k2).length + 1 ≤ gk by omega))))))))
              clear hp hd hpm hJ3 hg hs hen3 D4 E4 hbx4 hpf hnd4 hlen hb5 hJ2 y0 y1 C1 hlk hWq
              rw [show keyInt.enc k2 = .int .i64 k2 from rfl]
              generalize delI lh k2 = lh' at *
              simp only [List.getElem?_toArray, List.getElem?_cons_zero, List.getElem?_cons_succ, Array.getElem?_push] at z0 z1
              by_cases hk0 : k2 = tx
              · subst hk0
                have HO1 := Aside0.mk (show okP ⟨k2, all, own⟩ (k2, v) = true by simp [okP])
                go_wp2
                go_roundg (gk - 1)
                case measure => have := HE.out.2.2.2.2.2.2.2; omega
                case rel =>
                  obtain ⟨D4, hbx4, hJ4, hpf, hnd4, hs4, _, hlk4⟩ := HE.out
                  refine ⟨lh', xs3, hJ4, by omega, blk_cell hbx4 0, blk_cell hbx4 1, Aside0.mk ⟨hbx4, D4, ?_, hnd4, hs4⟩⟩
                  rw [HO1.out, if_pos rfl] at hpf
                  exact hpf
              · have n1 : (k2 == tx) = false := beq_eq_false_iff_ne.mpr hk0
                have n2 : (k2 = tx) = False := eq_false hk0
                cases all with
                | true =>
                  have HO1 := Aside0.mk (show okP ⟨tx, true, own⟩ (k2, v) = false by simp [okP, hk0])
                  clear hk0
                  go_wp2_with (at_builtin; go_loud (refine Kd.R_append kdP (W := w4) (w0 := W) W.heap.size rfl (.tmp 55) (.tmp 60) 39 47 (.agg #[.int .i64 0, .int .i64 0]) 16 rfl Try.underlying39 infoP rfl (by decide) (by decide) (.slice A7 xs3.length c7) xs3 (tx, k2) [.int .i64 tx, .int .i64 k2] (fun _ => True) (fun _ => False) rfl rfl rfl (fun _ hk => hk.elim) (fun _ _ => trivial) HE.out.1.r HE.out.1.e.below0 HE.out.1.e.size HE.out.2.2.2.2.2.2.1 ?_); intro v5 w5 r1 b1 gr1 o1; have A4 := Aside0.mk (And.intro r1 gr1); clear r1 b1 gr1 o1)
                  go_roundg (gk - 1)
                  case measure => have := HE.out.2.2.2.2.2.2.2; omega
                  case rel =>
                    obtain ⟨D4, hbx4, hJ4, hpf, hnd4, hs4, _, hlk4⟩ := HE.out
                    obtain ⟨r1, gr1⟩ := A4.out
                    have hbx5 := D4.keeps gr1 hbx4 (fun _ e => by cases e)
                    refine ⟨lh', xs3 ++ [(tx, k2)], D4.iter gr1 hJ4 HW.out.2.2.1.lt, by omega, blk_cell hbx5 0, blk_cell hbx5 1, Aside0.mk ⟨hbx5, D4.grown gr1 r1, ?_, hnd4, Nat.lt_of_lt_of_le hs4 gr1.size⟩⟩
                    rw [HO1.out, if_neg (by simp)] at hpf
                    rw [List.append_assoc]
                    exact hpf
                | false =>
                  by_cases hv2 : v = 2
                  · subst hv2
                    have HO1 := Aside0.mk (show okP ⟨tx, false, own⟩ (k2, 2) = false by simp [okP, hk0])
                    clear hk0
                    go_wp2_with (at_builtin; go_loud (refine Kd.R_append kdP (W := w4) (w0 := W) W.heap.size rfl (.tmp 55) (.tmp 60) 39 47 (.agg #[.int .i64 0, .int .i64 0]) 16 rfl Try.underlying39 infoP rfl (by decide) (by decide) (.slice A7 xs3.length c7) xs3 (tx, k2) [.int .i64 tx, .int .i64 k2] (fun _ => True) (fun _ => False) rfl rfl rfl (fun _ hk => hk.elim) (fun _ _ => trivial) HE.out.1.r HE.out.1.e.below0 HE.out.1.e.size HE.out.2.2.2.2.2.2.1 ?_); intro v5 w5 r1 b1 gr1 o1; have A4 := Aside0.mk (And.intro r1 gr1); clear r1 b1 gr1 o1)
                    go_roundg (gk - 1)
                    case measure => have := HE.out.2.2.2.2.2.2.2; omega
                    case rel =>
                      obtain ⟨D4, hbx4, hJ4, hpf, hnd4, hs4, _, hlk4⟩ := HE.out
                      obtain ⟨r1, gr1⟩ := A4.out
                      have hbx5 := D4.keeps gr1 hbx4 (fun _ e => by cases e)
                      refine ⟨lh', xs3 ++ [(tx, k2)], D4.iter gr1 hJ4 HW.out.2.2.1.lt, by omega, blk_cell hbx5 0, blk_cell hbx5 1, Aside0.mk ⟨hbx5, D4.grown gr1 r1, ?_, hnd4, Nat.lt_of_lt_of_le hs4 gr1.size⟩⟩
                      rw [HO1.out, if_neg (by simp)] at hpf
                      rw [List.append_assoc]
                      exact hpf
                  · have n3 : (v == 2) = false := beq_eq_false_iff_ne.mpr hv2
                    have n4 : (v = 2) = False := eq_false hv2
                    have HO1 := Aside0.mk (show okP ⟨tx, false, own⟩ (k2, v) = true by simp [okP, hv2])
                    clear hk0 hv2
                    go_wp2
                    go_roundg (gk - 1)
                    case measure => have := HE.out.2.2.2.2.2.2.2; omega
                    case rel =>
                      obtain ⟨D4, hbx4, hJ4, hpf, hnd4, hs4, _, hlk4⟩ := HE.out
                      refine ⟨lh', xs3, hJ4, by omega, blk_cell hbx4 0, blk_cell hbx4 1, Aside0.mk ⟨hbx4, D4, ?_, hnd4, hs4⟩⟩
                      rw [HO1.out, if_pos rfl] at hpf
                      exact hpf
        · have p1 : ((i : Int) < (x.q.length : Int)) = False := eq_false (by omega)
          obtain rfl : i = x.q.length := by omega
          have HZ := Aside0.mk (show (xs2 ++ lf'.flatMap (fun p => pairsQ p.2.2)).Perm (pairsA (absT t)) from (B1.out.2.append_right _).trans (by have := HD.out.2.1; unfold pairsQ at this ⊢; exact this))
          clear hi hik
          go_wp2
          go_roundg (g1 - 1)
          case measure => have := HD.out.2.2.2.2; omega
          case rel => exact ⟨lf', xs2, by have := HD.out.2.2.2.2; omega, Aside0.mk ⟨B1.out.1, HZ.out, HD.out.2.2.1, HD.out.2.2.2.1⟩⟩
end Go.Proofs.Ytlakklaaapfpeaa.LK
