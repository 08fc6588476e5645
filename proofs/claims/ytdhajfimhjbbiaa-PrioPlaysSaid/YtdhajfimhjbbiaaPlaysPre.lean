import Derived.Test.YtdhajfimhjbbiaaPPx0
import Derived.Test.YtdhajfimhjbbiaaPQ
import Derived.Test.YtdhajfimhjbbiaaQAlive
import Derived.Test.YtdhajfimhjbbiaaBKI
import Derived.Deep.CutBlock
import Derived.Test.YtdhajfimhjbbiaaProg
import Derived.BigRegion
import Derived.BigQuiet
import Derived.Deep.QuietTactic
import Derived.Deep.AppendLies
import Derived.ChangeAlike
import Derived.Outline
import Derived.WalkKit
import Derived.KernelRfl
import Derived.Deep.LoopGhost
import Derived.Deep.RegionLaw
import Derived.Test.YtdhajfimhjbbiaaWMore
import Derived.Test.YtdhajfimhjbbiaaWKept
import Derived.Test.YtdhajfimhjbbiaaLSep
import Derived.OwnWalk
import Derived.Deep.RegionHeld3
namespace Go.Proofs.Ytdhajfimhjbbiaa.Pure
open Go Go.RowKit Go.Proofs.YtdhajfimhjbbiaaW.PrintWords Go.Proofs.YtdhajfimhjbbiaaW.PrintLast Go.Proofs.YtdhajfimhjbbiaaW.PrintMore Go.Proofs.Ytdhajfimhjbbiaa.L Go.Proofs.Ytdhajfimhjbbiaa.BK Go.Proofs.Ytdhajfimhjbbiaa.PL Go.Proofs.Ytdhajfimhjbbiaa.PF Go.Proofs.Ytdhajfimhjbbiaa.PP Go.Proofs.Ytdhajfimhjbbiaa.BO
set_option linter.unusedVariables false
set_option linter.unusedSimpArgs false
/-! ### PrioPlays: the walk -/
open Go.Proofs.Ytdhajfimhjbbiaa.Q (leB leB_iff leB_trans leB_refl leB_antisymm lessB Srt hd insL insL_perm NewT QEff keepL fallL fallL_eq)
theorem rd30 (xs : List S30) (i : Nat) (h : i < xs.length) : rd_T30 xs (i : Int) = xs[i] := by unfold rd_T30; simp [List.getD, h]
/-- The state of the plays: what was put in lies in the row and in the queue. -/
def St (w2 wr : World) (bq : Nat) (v : Value) (its : List S48) : Prop := HR wr v its ∧ ∃ ql, NewT w2 wr bq ql ∧ ql.Perm (its.map pr) ∧ Below w2.heap.size w2 wr
theorem box3 {wo w3 : World} {a b c : Value} {t : Nat} (d : Drawn0 (wo.alloc (.cells #[a, b, c] t)) w3) : wo.heap.size < w3.heap.size ∧ w3.cell? ⟨wo.heap.size, 0, none⟩ = some a ∧ w3.cell? ⟨wo.heap.size, 1, none⟩ = some b ∧ w3.cell? ⟨wo.heap.size, 2, none⟩ = some c ∧ w3.heap[wo.heap.size]? = some (.cells #[a, b, c] t (0, 0)) := by
  have e := (Eff.refl (fun _ => False) (wo.alloc (.cells #[a, b, c] t))).drawn d
  have hs : wo.heap.size < (wo.alloc (.cells #[a, b, c] t)).heap.size := by simp
  have hc : ∀ j, w3.cell? ⟨wo.heap.size, j, none⟩ = (#[a, b, c] : Array Value)[j]? := fun j => (e.cell hs id).trans (World.cell?_alloc_new _ _ _ j)
  exact ⟨Nat.lt_of_lt_of_le hs e.size, hc 0, hc 1, hc 2, (e.block _ hs id).trans (heap_alloc_new wo _)⟩
theorem item_at {W : World} {A : Option Addr} {its : List S48} {j : Nat} (h : Kd.C k48 W A its.length its) (hj : j < its.length) : ∃ ad, A = some ad ∧ W.cell? (ad.add (j * 2)) = some (.int .i64 (its.getD j z48).f0) ∧ W.cell? ⟨(ad.add (j * 2)).block, (ad.add (j * 2)).off + 1, none⟩ = some (.int .i64 (its.getD j z48).f1) := by
  obtain ⟨ad, e, z0, z1⟩ := at_T48 h (j : Int) (by omega) (by omega)
  rw [rd48, Int.toNat_natCast] at z0 z1
  exact ⟨ad, e, z0, z1⟩
/-- A box of which the queue knows nothing. -/
theorem box_q {w W W' : World} {b t : Nat} {cs : Array Value} (h : W.heap[b]? = some (.cells cs t (0, 0))) (e : QEff w W W') (ht : t ∉ [28, 67]) : W'.heap[b]? = some (.cells cs t (0, 0)) := by
  rw [e.block b (Array.getElem?_eq_some_iff.1 h).1 (fun hh => by
    obtain ⟨_, cells, t', h2, h3⟩ := hh
    rw [h] at h2
    injection h2 with h2
    injection h2 with _ h2
    subst h2
    exact ht h3), h]
theorem box_cell {W : World} {b t : Nat} {cs : Array Value} (h : W.heap[b]? = some (.cells cs t (0, 0))) (j : Nat) : W.cell? ⟨b, j, none⟩ = cs[j]? := by
  unfold World.cell?
  rw [h]
  rfl
theorem box_eff {W W' : World} {b t : Nat} {cs : Array Value} (h : W.heap[b]? = some (.cells cs t (0, 0))) (e : Eff0 W W') : W'.heap[b]? = some (.cells cs t (0, 0)) := (e.block b (Array.getElem?_eq_some_iff.1 h).1 id).trans h
/-- have = append(append(nil, have...), Item{..}) -/
theorem have_push {W : World} {A : Option Addr} {c : Nat} {its : List S48} (h : HR W (.slice A its.length c) its) (x : S48) (hm : its.length < 700000) :
    ∃ (q : Option Addr × Nat) (W6 : World) (q2 : Option Addr × Nat) (W7 : World), (∀ ty, (Builtin.append_ #[45, 45] ty #[.slice none 0 0, .slice A its.length c]).run Try.prog W = .ok (.slice q.1 its.length q.2) W6) ∧ Eff0 W W6 ∧
      (∀ ty, (Builtin.append_ #[45, 45] ty #[.slice q.1 its.length q.2, .slice (some ⟨W6.heap.size, 0, none⟩) 1 1]).run Try.prog (W6.alloc (.cells #[.int .i64 x.f0, .int .i64 x.f1] 48)) = .ok (.slice q2.1 (its.length + 1) q2.2) W7) ∧ Eff0 W W7 ∧ HR W7 (.slice q2.1 (its.length + 1) q2.2) (its ++ [x]) := by
  obtain ⟨A', c', e, _, hC⟩ := h.C
  injection e with e1 e2 e3
  subst e1
  obtain ⟨q, W6, hr, F6, hF6, ef6, k6⟩ := it_join (c := c) (RwAt.nil W) hC (by simp only [List.length_nil]; omega)
  rw [List.nil_append] at hr hF6
  obtain ⟨q2, W7, hr2, hU⟩ := it_add hF6 x (by omega)
  obtain ⟨F7, hF7, ef7, k7⟩ := upd_go ef6 k6 hU
  exact ⟨q, W6, q2, W7, hr, ef6, hr2, ef7, F7, hF7⟩
/-- .. the item laid first. -/
theorem have_push2 {W : World} {A : Option Addr} {c : Nat} {its : List S48} (h : HR W (.slice A its.length c) its) (x : S48) (hm : its.length < 700000) :
    ∃ (q : Option Addr × Nat) (W6 : World) (q2 : Option Addr × Nat) (W7 : World), (∀ ty, (Builtin.append_ #[45, 45] ty #[.slice none 0 0, .slice A its.length c]).run Try.prog (W.alloc (.cells #[.int .i64 x.f0, .int .i64 x.f1] 48)) = .ok (.slice q.1 its.length q.2) W6) ∧ Eff0 W W6 ∧
      (∀ ty, (Builtin.append_ #[45, 45] ty #[.slice q.1 its.length q.2, .slice (some ⟨W.heap.size, 0, none⟩) 1 1]).run Try.prog W6 = .ok (.slice q2.1 (its.length + 1) q2.2) W7) ∧ Eff0 W W7 ∧ HR W7 (.slice q2.1 (its.length + 1) q2.2) (its ++ [x]) := by
  have e0 : Eff0 W (W.alloc (.cells #[.int .i64 x.f0, .int .i64 x.f1] 48)) := (Eff.refl _ _).alloc _
  obtain ⟨A', c', e, _, hC⟩ := (h.eff0 e0).C
  injection e with e1 e2 e3
  subst e1
  obtain ⟨q, W6, hr, F6, hF6, ef6, k6⟩ := it_join (c := c) (RwAt.nil _) hC (by simp only [List.length_nil]; omega)
  rw [List.nil_append] at hr hF6
  obtain ⟨i0, hi, hzr, hs, hb⟩ := infoIt
  have hl : W6.heap[W.heap.size]? = some (.cells (flatE encIt [x]).toArray 48 (0, 0)) := (ef6.block _ (by simp) id).trans (heap_alloc_new W _)
  have hsrc := lit_src (P := Try.prog) (enc := encIt) (tx := 45) (size := i0.size) (zs := [x]) lenIt oneIt Try.underlying45 hs hl 1
  obtain ⟨A2, c2, W7, hr2, hU⟩ := RwAt.append (P := Try.prog) (t := 45) (tx := 45) (by decide) lenIt oneIt Try.underlying45 hi hzr rfl hs (by omega) hF6 hsrc (by simp only [List.length_singleton]; omega)
  rw [List.length_append, List.length_singleton] at hr2 hU
  obtain ⟨F7, hF7, ef7, k7⟩ := upd_go ef6 k6 hU
  exact ⟨q, W6, (A2, c2), W7, hr, e0.then0 ef6, hr2, e0.then0 ef7, F7, hF7⟩
/-- have = append(append(nil, have[:j]...), have[j+1:]...) -/
theorem have_del {W : World} {A : Option Addr} {c : Nat} {its : List S48} (h : HR W (.slice A its.length c) its) (j : Nat) (hj : j < its.length) (hc : its.length ≤ c) (hm : its.length < 700000) :
    ∃ (q : Option Addr × Nat) (W6 : World) (q2 : Option Addr × Nat) (W7 : World), (∀ ty, (Builtin.append_ #[45, 45] ty #[.slice none 0 0, .slice A j c]).run Try.prog W = .ok (.slice q.1 j q.2) W6) ∧ Eff0 W W6 ∧
      (∀ ty, (Builtin.append_ #[45, 45] ty #[.slice q.1 j q.2, .slice (if c = j + 1 then A else A.map (·.add ((j + 1) * 2))) (its.length - (j + 1)) (c - (j + 1))]).run Try.prog W6 = .ok (.slice q2.1 (its.length - 1) q2.2) W7) ∧ Eff0 W W7 ∧ HR W7 (.slice q2.1 (its.length - 1) q2.2) (its.take j ++ its.drop (j + 1)) := by
  obtain ⟨A', c', e, _, hC⟩ := h.C
  injection e with e1 e2 e3
  subst e1
  have hT := Kd.C_take hC (m := j) (by omega)
  have hD := Kd.C_drop hC (m := j + 1) (c := c) (by omega) hc
  have lT : (its.take j).length = j := by rw [List.length_take]; omega
  have lD : (its.drop (j + 1)).length = its.length - (j + 1) := by rw [List.length_drop]
  obtain ⟨q, W6, hr, F6, hF6, ef6, k6⟩ := it_join (c := c) (RwAt.nil W) hT (by simp only [List.length_nil]; omega)
  rw [List.nil_append] at hr hF6
  obtain ⟨q2, W7, hr2, hU⟩ := it_join (c := c - (j + 1)) hF6 (Kd.C_below hD ef6.below0) (by omega)
  obtain ⟨F7, hF7, ef7, k7⟩ := upd_go ef6 k6 hU
  have l7 : (its.take j ++ its.drop (j + 1)).length = its.length - 1 := by rw [List.length_append, lT, lD]; omega
  rw [lT] at hr
  rw [l7, lD, lT] at hr2
  rw [l7] at hF7
  exact ⟨q, W6, q2, W7, hr, ef6, hr2, ef7, F7, hF7⟩
/-- What holds behind a play. -/
def Aft (w2 W7 : World) (bq : Nat) (v : Value) (its : List S48) (ql : List (Int × Int)) : Prop := HR W7 v its ∧ NewT w2 W7 bq ql ∧ ql.Perm (its.map pr) ∧ Below w2.heap.size w2 W7 ∧ ql.length = its.length
theorem Aft.eff {w2 w5 W7 : World} {bq : Nat} {v v' : Value} {its its' : List S48} {ql : List (Int × Int)} (e : Eff0 w5 W7) (h : HR W7 v' its') (hN : NewT w2 w5 bq ql) (hp : ql.Perm (its'.map pr)) (hB : Below w2.heap.size w2 w5) : Aft w2 W7 bq v' its' ql :=
  ⟨h, hN.after (q_of_l e), hp, hB.trans (Below.mono e.below0 (by have := hB.size; exact this)), by rw [hp.length_eq, List.length_map]⟩
theorem hd_best {ql : List (Int × Int)} {its : List S48} {j : Nat} (hs : Srt ql) (hp : ql.Perm (its.map pr)) (hj : j < its.length) (hb : ∀ p, p < its.length → leB (pr (its.getD j z48)) (pr (its.getD p z48)) = true) : hd ql = pr (its.getD j z48) ∧ 0 < ql.length := by
  have hl : ql.length = its.length := by rw [hp.length_eq, List.length_map]
  cases ql with
  | nil => simp at hl; omega
  | cons y t =>
    refine ⟨?_, by simp⟩
    show y = _
    have ej : its.getD j z48 = its[j] := by simp [List.getD_eq_getElem?_getD, hj]
    have h1 : y ∈ its.map pr := hp.mem_iff.1 List.mem_cons_self
    obtain ⟨z, hz, hz2⟩ := List.mem_map.1 h1
    obtain ⟨p, hpl, hpe⟩ := List.getElem_of_mem hz
    have h2 := hb p hpl
    have ep : its.getD p z48 = z := by simp [List.getD_eq_getElem?_getD, hpl, hpe]
    rw [ep, hz2] at h2
    have h3 : pr (its.getD j z48) ∈ y :: t := hp.mem_iff.2 (List.mem_map.2 ⟨its[j], List.getElem_mem hj, by rw [ej]⟩)
    rcases List.mem_cons.1 h3 with h4 | h4
    · exact h4.symm
    · have h5 := (List.pairwise_cons.1 hs).1 _ h4
      exact leB_antisymm h5 h2
theorem newT_srt {w W : World} {b : Nat} {l : List (Int × Int)} (h : NewT w W b l) : Srt l := by
  obtain ⟨v, xs, _, q⟩ := h
  exact q.srt
/-! ### behind the loop -/
abbrev nilB : Array Value := #[.slice none 0 0, .slice none 0 0, .slice none 0 0, .slice none 0 0, .slice none 0 0, .slice none 0 0, .slice none 0 0, .slice none 0 0, .slice none 0 0, .slice none 0 0, .slice none 0 0, .slice none 0 0, .slice none 0 0, .slice none 0 0, .slice none 0 0, .slice none 0 0, .slice none 0 0, .slice none 0 0]
abbrev RN (v : Value) (xs : List Int) : HP := RwAt encInts 1 3 v xs
theorem lie_of_C {W : World} {A : Option Addr} {xs : List Int} (h : Kd.C (Kd.int .i64) W A xs.length xs) : LieX encInts 1 W A xs := fun i hi => by
  obtain ⟨ad, e, x0⟩ := Kd.at_int h (i : Int) (by omega) (by omega)
  refine ⟨ad, e, fun r u hu => ?_⟩
  have hr : r = 0 := by
    have := (List.getElem?_eq_some_iff.1 hu).1
    simp only [encInts, List.length_singleton] at this
    omega
  subst hr
  injection hu with hu
  subst hu
  have e2 : rd xs (i : Int) = xs[i] := by unfold rd; simp [List.getD_eq_getElem?_getD, hi]
  rw [e2, Int.toNat_natCast] at x0
  rw [Nat.mul_one, Nat.add_zero]
  exact x0
theorem C_of_row {W : World} {A : Option Addr} {n c : Nat} {xs : List Int} {F : Nat → Prop} (h : Rw encInts 1 3 (.slice A n c) xs W F) : n = xs.length ∧ Kd.C (Kd.int .i64) W A xs.length xs := by
  obtain ⟨A1, c1, hv, _, hC⟩ := Rw.C (d := Kd.int .i64) rfl lenInts (fun _ _ _ _ => rfl) h
  injection hv with e1 e2 e3
  subst e1
  exact ⟨e2, hC⟩
theorem book0 {wo w4 : World} {m : HP} (U : Upd wo (fun _ => False) m w4) : Own wo (w4.alloc (.cells nilB 61)) (Stars (CellsAt w4.heap.size nilB 61 :: (BkP encInts 1 3 36 (.slice none 0 0) (.slice none 0 0) [] ++ [m]))) := by
  obtain ⟨F', hN, ef, hk⟩ := U
  have o1 : Own wo w4 (Stars [m]) := Own.newAt (l := []) (Own.start wo) ef hN (fun k hk' => (hk k hk').elim (fun h => h.elim) id)
  have o2 := o1.cellsNew nilB 61
  exact BkP.none_ (o2.perm (List.Perm.swap _ _ _))
theorem own_sorted {wo w5 w6 : World} {v : Value} {xs : List Int} {l : List HP} (o : Own wo w5 (Stars l)) (hR : Kd.R (Kd.int .i64) 3 w6 w5.heap.size (fun _ => True) v xs) (hb : Below w5.heap.size w5 w6) : ∃ A c, v = .slice A xs.length c ∧ Own wo w6 (Stars (l ++ [RN v xs])) := by
  have h1 := RwAt.of_R (d := Kd.int .i64) (enc := encInts) (k := 1) rfl (fun h => h) hR
  obtain ⟨A, c, hv⟩ := h1.1.form
  exact ⟨A, c, hv, o.newAt (Eff.of_below hb) h1 (fun k hk => ((Kd.R_bound hR).1 k hk).2.1)⟩
/-- What the boxes hold behind First. -/
def Bxs (wo wx : World) (b8 b10 : Nat) (f0 f1 f2 : Int) (x : S48) : Prop := Eff0 wo wx ∧ wx.heap[b8]? = some (.cells #[.int .i64 f0, .int .i64 f1, .int .i64 f2] 30 (0, 0)) ∧ wx.heap[b10]? = some (.cells #[.int .i64 x.f0, .int .i64 x.f1] 48 (0, 0))
theorem Bxs.mk {wo w3 : World} {f0 f1 f2 : Int} {x : S48} (d : Drawn0 (wo.alloc (.cells #[.int .i64 f0, .int .i64 f1, .int .i64 f2] 30)) w3) : Bxs wo (w3.alloc (.cells #[.int .i64 x.f0, .int .i64 x.f1] 48)) wo.heap.size w3.heap.size f0 f1 f2 x := by
  obtain ⟨hw3, _, _, _, bh⟩ := box3 d
  have E3 : Eff0 wo w3 := ((Eff.refl _ wo).alloc _).drawn d
  exact ⟨E3.alloc _, (((Eff.refl (fun _ => False) w3).alloc _).block _ hw3 id).trans bh, heap_alloc_new w3 _⟩
theorem hd_none {ql : List (Int × Int)} {its : List S48} (hp : ql.Perm (its.map pr)) (h : its = []) : ql = [] := by
  subst h
  exact List.Perm.eq_nil hp
theorem keep_len {ql : List (Int × Int)} {its : List S48} (hp : ql.Perm (its.map pr)) (id : Int) : (keepL id ql).Perm ((its.filter (fun x => decide (x.f1 ≠ id))).map pr) := by
  have h := hp.filter (fun o => !decide (o.2 = id))
  rw [List.filter_map] at h
  have e : keepL id ql = ql.filter (fun o => !decide (o.2 = id)) := by unfold keepL; refine List.filter_congr (fun o _ => ?_); by_cases ho : o.2 = id <;> simp [ho]
  rw [e]
  refine h.trans (List.Perm.of_eq ?_)
  congr 1
  refine List.filter_congr (fun x _ => ?_)
  by_cases ho : x.f1 = id <;> simp [pr, ho]
/-- What Drop leaves. -/
def restL (its : List S48) (i : Nat) (id : Int) : List S48 := (its.take i).filter (fun x => decide (x.f1 ≠ id))
theorem restL_step (its : List S48) (i : Nat) (id : Int) (h : i < its.length) : restL its (i + 1) id = if its[i].f1 = id then restL its i id else restL its i id ++ [its[i]] := by
  unfold restL
  rw [List.take_succ_eq_append_getElem h, List.filter_append]
  by_cases e : its[i].f1 = id <;> simp [e]
section
variable {wo w5 : World} {c0 c1 c2 c3 c4 : HP} {l : List HP} {B : Option Addr} {d : Nat} {n : List Int}
theorem m_row (O : Own wo w5 (Stars (c0 :: c1 :: c2 :: c3 :: c4 :: RN (.slice B (n.length + 1) d) (n ++ [lentInts]) :: l))) : ∃ F, Rw encInts 1 3 (.slice B (n.length + 1) d) (n ++ [lentInts]) w5 F := by
  obtain ⟨F, h⟩ := O.fact 5 rfl
  exact ⟨F, h.1⟩
theorem c_sorted (O : Own wo w5 (Stars (c0 :: c1 :: c2 :: c3 :: c4 :: RN (.slice B (n.length + 1) d) (n ++ [lentInts]) :: l))) (hn : n.length ≤ 60) : Calls Try.prog 15 #[.slice B n.length d] w5 fun e w6 => ∃ A c, e = .returned (.slice A n.length c) ∧ Aside0 (Own wo w6 (Stars (c0 :: c1 :: c2 :: c3 :: c4 :: RN (.slice B (n.length + 1) d) (n ++ [lentInts]) :: (l ++ [RN (.slice A n.length c) (fallL n)])))) := by
  obtain ⟨F, h⟩ := m_row O
  have hC := Kd.C_take (C_of_row h).2 (m := n.length) (by simp)
  rw [List.take_left] at hC
  refine (Go.Proofs.Ytdhajfimhjbbiaa.Q.sorted_calls w5 B d n hC (by omega)).mono ?_
  rintro e w6 ⟨v, rfl, hR, hb⟩
  obtain ⟨A, c, rfl, O2⟩ := own_sorted O hR hb
  have hl : (fallL n).length = n.length := (Go.Proofs.Ytdhajfimhjbbiaa.Q.fallL_perm n).length_eq
  rw [hl] at O2 ⊢
  exact ⟨A, c, rfl, Aside0.mk O2⟩
end
section
variable {wo w5 : World} {bb : Nat} {cs : Array Value} {a b : Value} {K : List (Kp Int)} {m : HP} {l : List HP} {n : List Int}
theorem c_ints {A : Option Addr} {c : Nat} (q0 : cs[0]? = some a) (q1 : cs[1]? = some b) (O : Own wo w5 (Stars (CellsAt bb cs 61 :: (BkP encInts 1 3 36 a b K ++ (m :: RN (.slice A n.length c) (fallL n) :: l))))) (hn : n.length ≤ 60) (hK : K.length < 250) : Calls Try.prog 20 #[.pointer (some ⟨bb, 0, none⟩), .slice A n.length c] w5 fun e w' => e = .returned (.tuple #[]) ∧ ∃ a' b' B d, Aside0 (Own wo w' (Stars (CellsAt bb ((cs.setIfInBounds 0 a').setIfInBounds 1 b') 61 :: (BkP encInts 1 3 36 a' b' (K ++ [⟨A, c, B, d, fallL n⟩]) ++ (m :: l))))) := by
  have hl : (fallL n).length = n.length := (Go.Proofs.Ytdhajfimhjbbiaa.Q.fallL_perm n).length_eq
  have O2 := O.perm (((List.Perm.swap _ _ _).append_left (BkP encInts 1 3 36 a b K)).cons _)
  rw [← hl] at O2 ⊢
  exact addInts_calls q0 q1 O2 hK (by omega)
theorem c_refsort {A1 : Option Addr} {c1 : Nat} (O : Own wo w5 (Stars (CellsAt bb cs 61 :: (BkP encInts 1 3 36 a b K ++ [m])))) (hC : Kd.C (Kd.int .i64) w5 A1 n.length n) (hn : n.length ≤ 60) : Calls Try.prog 21 #[.slice A1 n.length c1] w5 fun e w' => ∃ B d, e = .returned (.slice B n.length d) ∧ Aside0 (Own wo w' (Stars (CellsAt bb cs 61 :: (BkP encInts 1 3 36 a b K ++ [m, RN (.slice B n.length d) (fallL n)])))) := by
  refine (refsort_calls n A1 c1 w5 hC (by omega)).mono ?_
  rintro e w' ⟨B, d, ys, rfl, hU⟩
  obtain ⟨hp, hw, F', hN, ef, hk⟩ := hU.out
  obtain rfl := fallL_eq hp hw
  exact ⟨B, d, rfl, Aside0.mk (O.newAt ef hN (fun k hk' => (hk k hk').elim (fun h => h.elim) id))⟩
theorem c_same {p : Kp Int} {B : Option Addr} {d : Nat} (O : Own wo w5 (Stars (CellsAt bb cs 61 :: (BkP encInts 1 3 36 a b (p :: K) ++ [m, RN (.slice B n.length d) (fallL n)])))) (hp : p.xs = fallL n) (hn : n.length ≤ 60) : Calls Try.prog 16 #[.slice p.A n.length p.c, .slice B n.length d] w5 fun e w' => e = .returned (.bool true) ∧ Drawn0 w5 w' := by
  have hl : (fallL n).length = n.length := (Go.Proofs.Ytdhajfimhjbbiaa.Q.fallL_perm n).length_eq
  obtain ⟨F3, h3⟩ := O.fact 3 rfl
  obtain ⟨G, h4⟩ := stars_at h3 0 (by simp)
  obtain ⟨F6, h6⟩ := O.fact 6 rfl
  have L1 := LieX.of_Rw lenInts h4.1
  have L2 := LieX.of_Rw lenInts h6.1
  have L1' : LieX encInts 1 w5 p.A (fallL n) := by rw [← hp]; exact L1
  have := sameInts_calls (fallL n) p.A B p.c d w5 L1' L2 (by omega)
  rw [hl] at this
  exact this
theorem c_stays {A1 B : Option Addr} {c1 d : Nat} (O : Own wo w5 (Stars (CellsAt bb cs 61 :: (BkP encInts 1 3 36 a b K ++ (RN (.slice B (n.length + 1) d) (n ++ [lentInts]) :: l))))) (hC : Kd.C (Kd.int .i64) w5 A1 n.length n) (hn : n.length ≤ 60) : Calls Try.prog 22 #[.slice B n.length d, .slice A1 n.length c1] w5 fun e w' => e = .returned (.bool true) ∧ Drawn0 w5 w' := by
  obtain ⟨F, h⟩ := O.fact 5 rfl
  exact staysInts_calls n A1 B c1 d w5 F h.1 (lie_of_C hC) (by omega)
end
theorem c_apart {wo w5 : World} {bb : Nat} {a1 b1 a2 b2 : Value} {p q : Kp Int} {l : List HP} {n : List Int} (O : Own wo w5 (Stars (CellsAt bb ((((nilB.setIfInBounds 0 a1).setIfInBounds 1 b1).setIfInBounds 0 a2).setIfInBounds 1 b2) 61 :: (BkP encInts 1 3 36 a2 b2 [p, q] ++ l)))) (hp : p.xs = fallL n) (hq : q.xs = fallL n) (hn : n.length ≤ 60) : Calls Try.prog 23 #[.pointer (some ⟨bb, 0, none⟩)] w5 fun e w' => e = .returned (.bool true) ∧ Below wo.heap.size wo w' := by
  have hl : (fallL n).length = n.length := (Go.Proofs.Ytdhajfimhjbbiaa.Q.fallL_perm n).length_eq
  refine apart_calls (K0 := [p, q]) rfl rfl rfl rfl rfl rfl rfl rfl rfl rfl O (by simp) ?_
  intro r hr
  simp only [List.mem_cons, List.not_mem_nil, or_false] at hr
  rcases hr with rfl | rfl
  · rw [hp]; omega
  · rw [hq]; omega
end Go.Proofs.Ytdhajfimhjbbiaa.Pure
