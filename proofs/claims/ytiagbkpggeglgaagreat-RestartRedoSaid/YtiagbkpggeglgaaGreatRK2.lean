import Derived.Test.YtiagbkpggeglgaaGreatRK1
import Derived.Test.YtiagbkpggeglgaaGreatProg
import Derived.BigRegion
import Derived.BigQuiet
import Derived.Deep.QuietTactic
import Derived.Deep.AppendLies
import Derived.ChangeAlike
import Derived.Outline
import Derived.WalkKit
import Derived.KernelRfl
import Derived.Deep.LoopGhost
import Derived.Deep.RegionLaw
import Derived.Test.YtiagbkpggeglgaaGreatWMore
import Derived.Test.YtiagbkpggeglgaaGreatWKept
import Derived.Test.YtiagbkpggeglgaaGreatLSep
import Derived.Test.YtiagbkpggeglgaaGreatQK
import Derived.Deep.CutBlock
import Derived.Test.YtiagbkpggeglgaaGreatWEqStruct
import Derived.Deep.RegionHeld3
import Derived.StillTailTactics
namespace Go.Proofs.YtiagbkpggeglgaaGreat.RS
open Go Go.RowKit Go.Proofs.YtiagbkpggeglgaaGreatW.PrintWords Go.Proofs.YtiagbkpggeglgaaGreatW.PrintLast Go.Proofs.YtiagbkpggeglgaaGreatW.PrintMore Go.Proofs.YtiagbkpggeglgaaGreat.L
set_option linter.unusedVariables false
set_option linter.unusedSimpArgs false
def kdRc : Kd Rc := kdOf 14 encR (fun _ => rfl) (by
  intro x u hu
  simp only [encR, List.mem_cons, List.not_mem_nil, or_false] at hu
  rcases hu with rfl | rfl | rfl | rfl | rfl | rfl | rfl | rfl | rfl | rfl | rfl | rfl | rfl | rfl <;> rfl)
/-! ### what a log comes to, told plainly -/
def readA (s : Ab) (lsn : Int) (r : Rc) : Ab := ⟨readT s.t lsn r, dirtsF s.d (touchF r.ps) lsn⟩
def startA (ck : Int) (rs : List Rc) : Ab := if ck = 0 then ⟨[], []⟩ else ⟨(rs.getD (ck.toNat - 1) default).ts.foldl (fun t x => putP t x.tx x.ab) [], (rs.getD (ck.toNat - 1) default).ds.foldl (fun d x => dirtF d x.1 x.2) []⟩
def goA (s : Ab) (k : Int) : List Rc → Ab
  | [] => s
  | r :: l => goA (readA s (k + 1) r) (k + 1) l
theorem goA_snoc (r : Rc) : ∀ (l : List Rc) (s : Ab) (k : Int), goA s k (l ++ [r]) = readA (goA s k l) (k + l.length + 1) r
  | [], s, k => by simp [goA]
  | x :: l, s, k => by
    show goA (readA s (k + 1) x) (k + 1) (l ++ [r]) = readA (goA (readA s (k + 1) x) (k + 1) l) _ r
    rw [goA_snoc r l, List.length_cons]
    congr 1
    omega
theorem goA_take (s : Ab) (k : Int) (l : List Rc) (i : Nat) (h : i < l.length) : goA s k (l.take (i + 1)) = readA (goA s k (l.take i)) (k + i + 1) (l.getD i default) := by
  rw [List.take_add_one, List.getElem?_eq_getElem h]
  show goA s k (l.take i ++ [l[i]]) = _
  rw [goA_snoc, List.length_take, Nat.min_eq_left (by omega), List.getD_eq_getElem?_getD, List.getElem?_eq_getElem h]
  rfl
def anaA (ck : Int) (rs : List Rc) : Ab := goA (startA ck rs) ck (rs.drop ck.toNat)
theorem foldl_take {α β : Type} [Inhabited β] (f : α → β → α) (a : α) (l : List β) (i : Nat) (h : i < l.length) : (l.take (i + 1)).foldl f a = f ((l.take i).foldl f a) (l.getD i default) := by
  rw [List.take_add_one, List.foldl_append, List.getD_eq_getElem?_getD]
  simp [h]
section
variable {w W : World} {l : List HP}
theorem Own.sgNew {n m k : Nat} (o : Own w W (Stars l)) (hn : W.heap.size = n) (hm : W.heap.size + 1 = m) (hk : W.heap.size + 2 = k) : Own w (((W.alloc (.map #[] 0)).alloc (.map #[] 0)).alloc (.cells #[.map (some n), .map (some m)] 95)) (St k ⟨n, m, [], []⟩ [] l) := by
  have oa := Own.newMap keyInt o
  have ob := Own.newMap keyInt oa
  have oc := Own.newCells ob #[.map (some n), .map (some m)] 95
  rw [show (W.alloc (.map #[] 0)).heap.size = m by rw [← hm]; simp] at oc
  rw [show ((W.alloc (.map #[] 0)).alloc (.map #[] 0)).heap.size = k by rw [← hk]; simp] at oc
  rw [hn] at oc
  have od := oc.comm
  have oe : Own w _ (Sep (SgAt k ⟨n, m, [], []⟩) (Stars l)) := od.imp (fun F h => Sep.assoc' (Sep.imp h (fun _ h => h) (fun _ h => Sep.comm (Sep.assoc h))))
  have of : Own w _ (Stars ((SgAt k ⟨n, m, [], []⟩ :: l) ++ [PgsAt []])) := Own.newAt (l := SgAt k ⟨n, m, [], []⟩ :: l) oe (Eff.refl _ _) (PgsAt.none _) (fun _ h => h.elim)
  exact of.perm (List.Perm.cons _ List.perm_append_comm)
theorem cells_of {α : Type} [Inhabited α] {k : Nat} {enc : α → List Value} {hl : ∀ x, (enc x).length = k} {h1 : ∀ x, ∀ u ∈ enc x, u.oneCell' = true} {A : Option Addr} {n : Nat} {xs : List α} (o : Below w.heap.size w W) (h : (kdOf k enc hl h1).C w A n xs) : (kdOf k enc hl h1).C W A n xs := Kd.C_below h o
theorem Tells.start (n m : Nat) : Tells ⟨n, m, [], []⟩ [] [] := ⟨rfl, fun _ h => by cases h⟩
end
theorem RcAt.keep {w W : World} {r : Rc} (h : RcAt w r) (o : Below w.heap.size w W) : RcAt W r :=
  ⟨Kd.C_below h.g o, Kd.C_below h.p o, Kd.C_below h.t o, fun t ht => ⟨Kd.C_below (h.tp t ht).1 o, (h.tp t ht).2⟩, Kd.C_below h.d o, h.gl, h.pl⟩
theorem infoRc : (Tryz.prog.info? 44).map (fun i => i.size) = some 14 := by kernel_rfl
theorem cutRc (A : Option Addr) (n c : Nat) (j : Int) (h0 : 0 ≤ j) (hm : j ≤ n) : ∀ W : World, (Instr.slice 36 (.slice A n c) (some (.int .i64 j)) none none).run Tryz.prog W = .ok (.slice (if c = j.toNat then A else A.map (·.add (j.toNat * 14))) (n - j.toNat) (c - j.toNat)) W := by
  obtain ⟨i, hi, hs⟩ := Option.map_eq_some_iff.1 infoRc
  exact cut_from 36 44 .i64 Tryz.underlying36 hi 14 hs A n c j h0 hm
end Go.Proofs.YtiagbkpggeglgaaGreat.RS
namespace Go.Proofs.YtiagbkpggeglgaaGreat.RS
open Go Go.RowKit Go.Proofs.YtiagbkpggeglgaaGreatW.PrintWords Go.Proofs.YtiagbkpggeglgaaGreatW.PrintLast Go.Proofs.YtiagbkpggeglgaaGreatW.PrintMore Go.Proofs.YtiagbkpggeglgaaGreat.L
set_option linter.unusedVariables false
set_option linter.unusedSimpArgs false
/-- Is the call one that may be? -/
def okA (ck : Int) (rs : List Rc) : Prop := 0 ≤ ck ∧ ck ≤ rs.length ∧ (0 < ck → (rs.getD (ck.toNat - 1) default).kd = 7)
/-- What a log comes to, as it lies there. -/
def An (w : World) (ck : Int) (rs : List Rc) (e : Ending) (w' : World) : Prop :=
  ∃ (A : Option Addr) (c : Nat) (ts : List Tv) (B : Option Addr) (cB : Nat) (ds : List (Int × Int)), e = .returned (.tuple #[.agg #[.slice A ts.length c, .slice B ds.length cB, .int .i64 (fromL ((anaA ck rs).d.map (·.2)))], .bool true]) ∧ (ts.map Tv.ab).Perm ((anaA ck rs).t.map (·.2)) ∧ ts.Pairwise (fun a b => a.tx ≤ b.tx) ∧ ds.Perm (anaA ck rs).d ∧ ds.Pairwise (fun a b => a.1 ≤ b.1) ∧
    Own w w' (Stars [PgsAt ts, RowAt kdT 85 (.slice A ts.length c) ts, RowAt kdD 87 (.slice B ds.length cB) ds])
set_option maxHeartbeats 1600000 in
set_option maxRecDepth 100000 in
theorem analyse_calls (w : World) (ck : Int) (A : Option Addr) (c : Nat) (rs : List Rc) (hC : kdRc.C w A rs.length rs) (hcap : rs.length ≤ c) (hr : ∀ r ∈ rs, RcAt w r) (hl : rs.length < 900000) (hb1 : (anaA ck rs).t.length < 900000) (hb2 : (anaA ck rs).d.length < 900000) (hok : okA ck rs) (hts : 0 < ck → (rs.getD (ck.toNat - 1) default).ts.length < 900000) (hds : 0 < ck → (rs.getD (ck.toNat - 1) default).ds.length < 900000) :
    Calls Tryz.prog 13 #[.int .i64 ck, .slice A rs.length c] w (An w ck rs) := by
  obtain ⟨k0, k1, k2⟩ := hok
  have H := Aside0.mk (And.intro hC (And.intro hcap (And.intro hr (And.intro hl (And.intro hb1 hb2)))))
  have HQ0 := Aside0.mk (And.intro k0 k1)
  have o1 := Own.cellsNew (l := []) (Own.start w) #[.slice none 0 0, .slice none 0 0, .int .i64 0] 47
  have o2 := Own.sgNew (n := w.heap.size + 1) (m := w.heap.size + 2) (k := w.heap.size + 3) o1 (by simp) (by simp) (by simp)
  have hm2 : ck ≤ 900000 := by omega
  have p1 : (ck < 0) = False := eq_false (by omega)
  have p2 : (ck > (rs.length : Int)) = False := eq_false (by omega)
  have p3 : ((rs.length : Int) < ck) = False := eq_false (by omega)
  rcases Int.lt_or_eq_of_le k0 with h0 | h0
  · have hts := hts h0
    have hds := hds h0
    have hi : (ck.toNat - 1) < rs.length := by omega
    obtain ⟨ad, rfl, z0, zj⟩ := kdOf_at hC (ck.toNat - 1) hi
    have hR := hr _ (show rs.getD (ck.toNat - 1) default ∈ rs by rw [List.getD_eq_getElem?_getD, List.getElem?_eq_getElem hi]; exact List.getElem_mem hi)
    have hkd := k2 h0
    generalize hr0 : rs.getD (ck.toNat - 1) default = r0 at *
    obtain ⟨kd, tx, pv, nx, key, had, rk, cv, cb, cs, gA, gc, gs, pA, pc, ps, tA, tc, ts, dA, dc, ds⟩ := r0
    dsimp only at hkd hts hds
    subst hkd
    have y0 := cell_below (Own.below o1) (z0 _ rfl)
    have y12 := cell_below (Own.below o2) (zj 12 (by omega) _ rfl)
    have Y13 := Aside0.mk (zj 13 (by omega) _ rfl)
    have HR := Aside0.mk hR
    have HR0 := Aside0.mk hr0
    have O2 := Aside0.mk o2
    have q0 : (ck > 0) = True := eq_true h0
    have q1 : (0 < ck) = True := eq_true h0
    have q2 : 0 ≤ ck - 1 := by omega
    have q3 : ck - 1 < rs.length := by omega
    have HQ := Aside0.mk (And.intro q2 q3)
    clear hC hcap hr hl hb1 hb2 k2 z0 zj hR hr0 h0 o1 o2 p3 k0 k1
    have hmm := @run_makeMap Tryz.prog
    generalize hbS : w.heap.size + 3 = bS at *
    go_enter Tryz.func13, Tryz.ntmps13
    go_wp2_with fail
    clear y0 y12 hmm q0 q1 q2 q3
    go_loopg [47] ts.length (fun k s47 wr => ∃ (i : Nat) (s : Sg) (us : List Tv), s47 = .int .i64 (i : Int) ∧ i + k = ts.length ∧ Aside0 (Tells s us ((ts.take i).foldl (fun t x => putP t x.tx x.ab) []) ∧ s.d = []) ∧ Aside0 (Own w wr (St bS s us [CellsAt w.heap.size #[.slice none 0 0, .slice none 0 0, .int .i64 0] 47])))
    case atStart => exact ⟨0, _, [], rfl, by omega, Aside0.mk ⟨Tells.start _ _, rfl⟩, O2⟩
    case round =>
      obtain ⟨i, s, us, rfl, hik, HT, O3⟩ := hrel
      by_cases hi : i < ts.length
      · have p4 : ((i : Int) < (ts.length : Int)) = True := eq_true (by omega)
        have p5 : (0 : Int) ≤ (i : Int) := by omega
        have hii : i < 900000 := by omega
        obtain ⟨ad2, rfl, u0, uj⟩ := kdOf_at (cells_of (Own.below O3.out) HR.out.t) i hi
        have htm : ts.getD i default ∈ ts := by rw [List.getD_eq_getElem?_getD, List.getElem?_eq_getElem hi]; exact List.getElem_mem hi
        have hpg := HR.out.tp _ htm
        have hfold := foldl_take (fun (t : List (Int × Tp)) (x : Tv) => putP t x.tx x.ab) [] ts i hi
        generalize ts.getD i default = v at *
        obtain ⟨vx, vl, vc, vA, vcc, vp⟩ := v
        dsimp only at hpg hfold
        have x0 := u0 _ rfl
        have x1 := uj 1 (by omega) _ rfl
        have x2 := uj 2 (by omega) _ rfl
        have x3 := uj 3 (by omega) _ rfl
        have o4 := Own.cellsNew O3.out #[.int .i64 vx, .int .i64 vl, .bool vc, .slice vA vp.length vcc] 85
        have CC := Aside0.mk (clone_own o4 (C_below_own o4 hpg.1) vcc hpg.2)
        have HF := Aside0.mk hfold
        have HI := Aside0.mk (And.intro hi hik)
        clear u0 uj hpg hfold o4 htm hi hik
        go_wp2_with (go_at_call 36; refine CC.out.mono ?_; rintro e w2 ⟨A2, c2, rfl, o5⟩; have o6 := Own.swapLast (o5 vx vl vc).out; obtain ⟨d, f⟩ := Own.cells (Own.last o6); have v0 := d 0; have v1 := d 1; have v2 := d 2; have v3 := d 3; have f3 := f 3; have o7 := Own.lastSet o6 (fun F h => CellsAt.set h 3 (.slice A2 vp.length c2)); obtain ⟨d7, _⟩ := Own.cells (Own.last o7); have e0 := d7 0; have e1 := d7 1; have e2 := d7 2; have e3 := d7 3; simp only [Array.setIfInBounds, List.getElem?_toArray] at e0 e1 e2 e3; have o8 := Own.mergeP (Own.init o7); obtain ⟨n0, _⟩ := Own.sgFacts o8; obtain ⟨wd, hrun, od⟩ := Own.putT o8 vx ⟨vx, vl, vc, A2, c2, vp⟩ (us' := us ++ [⟨vx, vl, vc, A2, c2, vp⟩]) (fun u hu => .inr ⟨u, hu, rfl, rfl⟩); dsimp only [Tv.v] at hrun; have OD := Aside0.mk od; clear d f o5 o6 d7 o7 o8 od)
        go_roundg (gk - 1)
        case measure => have := HI.out; omega
        case rel =>
          refine ⟨i + 1, ⟨s.mt, s.md, RS.putT s.t vx ⟨vx, vl, vc, A2, c2, vp⟩, s.d⟩, us ++ [⟨vx, vl, vc, A2, c2, vp⟩], by simp, by have := HI.out; omega, Aside0.mk ⟨?_, HT.out.2⟩, OD⟩
          rw [HF.out]
          exact HT.out.1.put vx (v := ⟨vx, vl, vc, A2, c2, vp⟩) (.inr ⟨_, List.mem_append_right _ (List.mem_singleton.2 rfl), rfl, rfl⟩) (fun _ h => List.mem_append_left _ h)
      · have p4 : ((i : Int) < (ts.length : Int)) = False := eq_false (by omega)
        obtain rfl : i = ts.length := by omega
        have HT2 := Aside0.mk (show Tells s us (ts.foldl (fun t x => putP t x.tx x.ab) []) ∧ s.d = [] by have := HT.out; rwa [List.take_length] at this)
        have y13 := cell_below (Own.below O3.out) Y13.out
        have q2 : 0 ≤ ck - 1 := HQ.out.1
        have q3 : ck - 1 < rs.length := HQ.out.2
        clear hi hik HT
        go_wp2_with fail
        clear y13 q2 q3
        go_loopg [68] ds.length (fun k s68 wr => ∃ (i : Nat) (d : List (Int × Int)), s68 = .int .i64 (i : Int) ∧ i + k = ds.length ∧ Aside0 (d = (ds.take i).foldl (fun d x => dirtF d x.1 x.2) []) ∧ Aside0 (Own w wr (St bS ⟨s.mt, s.md, s.t, d⟩ us [CellsAt w.heap.size #[.slice none 0 0, .slice none 0 0, .int .i64 0] 47])))
        case atStart => exact ⟨0, [], rfl, by omega, Aside0.mk rfl, Aside0.mk (by have := O3.out; rw [← HT2.out.2]; exact this)⟩
        case round =>
          obtain ⟨i, d, rfl, hik, HD, O4⟩ := hrel
          by_cases hi : i < ds.length
          · have p4 : ((i : Int) < (ds.length : Int)) = True := eq_true (by omega)
            have p5 : (0 : Int) ≤ (i : Int) := by omega
            have hii : i < 900000 := by omega
            obtain ⟨ad3, rfl, u0, uj⟩ := kdOf_at (cells_of (Own.below O4.out) HR.out.d) i hi
            have hfold := foldl_take (fun (d : List (Int × Int)) (x : Int × Int) => dirtF d x.1 x.2) [] ds i hi
            generalize ds.getD i default = v at *
            obtain ⟨vp, vl⟩ := v
            dsimp only at hfold
            have x0 := u0 _ rfl
            have x1 := uj 1 (by omega) _ rfl
            have o5 := Own.alloc O4.out (.cells #[.int .i64 vp, .int .i64 vl] 87)
            have CD := Aside0.mk (Own.dirt o5 vp vl)
            have HF := Aside0.mk hfold
            have HI := Aside0.mk (And.intro hi hik)
            clear u0 uj hfold o5 hi hik
            go_wp2_with (go_at_call 37; refine CD.out.mono ?_; rintro e w5 ⟨rfl, o6⟩)
            go_roundg (gk - 1)
            case measure => have := HI.out; omega
            case rel => exact ⟨i + 1, dirtF d vp vl, by simp, by have := HI.out; omega, Aside0.mk (by rw [HF.out, HD.out]), Aside0.mk o6⟩
          · have p4 : ((i : Int) < (ds.length : Int)) = False := eq_false (by omega)
            obtain rfl : i = ds.length := by omega
            have HT3 := Aside0.mk (show Tells ⟨s.mt, s.md, s.t, d⟩ us (startA ck rs).t ∧ (⟨s.mt, s.md, s.t, d⟩ : Sg).d = (startA ck rs).d by
              have h1 := HD.out
              rw [List.take_length] at h1
              unfold startA
              rw [if_neg (by have := HQ.out.1; omega), HR0.out]
              exact ⟨⟨HT2.out.1.t, HT2.out.1.u⟩, h1⟩)
            have O5 := O4
            clear hi hik HD
            generalize (⟨s.mt, s.md, s.t, d⟩ : Sg) = s2 at *
            clear p4 hts hds
            have hC3 := Kd.C_drop (c := c) H.out.1 (m := ck.toNat) (by have := HQ0.out; omega) H.out.2.1
            obtain ⟨A3, hA3⟩ : ∃ A3 : Option Addr, A3 = (if c = ck.toNat then (some ad) else Option.map (fun x => x.add (ck.toNat * 14)) (some ad)) := ⟨_, rfl⟩
            have hcs : ∀ W : World, (Instr.slice 36 (.slice (some ad) rs.length c) (some (.int .i64 ck)) none none).run Tryz.prog W = .ok (.slice A3 (rs.drop ck.toNat).length (c - ck.toNat)) W := by
              intro W
              rw [List.length_drop, hA3]
              exact cutRc _ _ _ _ (by have := HQ0.out; omega) (by have := HQ0.out; omega) W
            have hC4 : kdRc.C w A3 (rs.drop ck.toNat).length (rs.drop ck.toNat) := by rw [hA3]; exact hC3
            have hls : (rs.drop ck.toNat).length < 900000 := by rw [List.length_drop]; have := H.out.2.2.2.1; omega
            have hlm : ∀ r ∈ rs.drop ck.toNat, RcAt w r := fun r hr => H.out.2.2.1 r (List.mem_of_mem_drop hr)
            have HA := Aside0.mk (show anaA ck rs = goA (startA ck rs) ck (rs.drop ck.toNat) from rfl)
            have HC4 := Aside0.mk (And.intro hC4 (And.intro hls hlm))
            generalize rs.drop ck.toNat = ls at *
            generalize startA ck rs = S0 at *
            clear hC3 hC4 hls hlm hA3
            go_wp2_with fail
            go_loopg [82] ls.length (fun k s82 wr => ∃ (i : Nat) (s : Sg) (us : List Tv), s82 = .int .i64 (i : Int) ∧ i + k = ls.length ∧ Aside0 (Tells s us (goA S0 ck (ls.take i)).t ∧ s.d = (goA S0 ck (ls.take i)).d) ∧ Aside0 (Own w wr (St bS s us [CellsAt w.heap.size #[.slice none 0 0, .slice none 0 0, .int .i64 0] 47])))
            case atStart => exact ⟨0, s2, us, rfl, by omega, HT3, O5⟩
            case round =>
              clear HT3 O5
              obtain ⟨i, s, us, rfl, hik, HT, O6⟩ := hrel
              by_cases hi : i < ls.length
              · have p4 : ((i : Int) < (ls.length : Int)) = True := eq_true (by omega)
                have p5 : (0 : Int) ≤ (i : Int) := by omega
                have hii : i < 900000 := by have := HC4.out.2.1; omega
                have p6 : 0 ≤ ck := HQ0.out.1
                obtain ⟨ad7, rfl, u0, uj⟩ := kdOf_at (cells_of (Own.below O6.out) HC4.out.1) i hi
                have hrm : RcAt w (ls.getD i default) := HC4.out.2.2 _ (by rw [List.getD_eq_getElem?_getD, List.getElem?_eq_getElem hi]; exact List.getElem_mem hi)
                have hgo := goA_take S0 ck ls i hi
                have CR := Aside0.mk (fun (o' : Obj) => read_calls w (wr.alloc o') bS s us [CellsAt w.heap.size #[.slice none 0 0, .slice none 0 0, .int .i64 0] 47] _ (ck + (i : Int) + 1) (ls.getD i default) hrm HT.out.1 (Own.alloc O6.out o'))
                generalize ls.getD i default = r at *
                have HG := Aside0.mk (And.intro hgo (And.intro hi hik))
                obtain ⟨kd, tx, pv, nx, key, had, rk, cv, cb, cs, gA, gc, gs, pA, pc, ps, tA, tc, ts, dA, dc, ds⟩ := r
                dsimp only [Rc.v] at CR
                have x0 := u0 _ rfl
                have x1 := uj 1 (by omega) _ rfl
                have x2 := uj 2 (by omega) _ rfl
                have x3 := uj 3 (by omega) _ rfl
                have x4 := uj 4 (by omega) _ rfl
                have x5 := uj 5 (by omega) _ rfl
                have x6 := uj 6 (by omega) _ rfl
                have x7 := uj 7 (by omega) _ rfl
                have x8 := uj 8 (by omega) _ rfl
                have x9 := uj 9 (by omega) _ rfl
                have x10 := uj 10 (by omega) _ rfl
                have x11 := uj 11 (by omega) _ rfl
                have x12 := uj 12 (by omega) _ rfl
                have x13 := uj 13 (by omega) _ rfl
                clear u0 uj hrm hgo hi hik
                go_wp2_with (go_at_call 38; refine (CR.out _).mono ?_; rintro e w5 ⟨rfl, s', us', ht', hd', o'⟩; have HN := Aside0.mk (And.intro ht' (And.intro hd' o')); clear ht' hd' o')
                go_roundg (gk - 1)
                case measure => have := HG.out.2; omega
                case rel =>
                  refine ⟨i + 1, s', us', by simp, by have := HG.out.2; omega, Aside0.mk ?_, Aside0.mk HN.out.2.2⟩
                  rw [HG.out.1]
                  refine ⟨HN.out.1, ?_⟩
                  rw [HN.out.2.1, HT.out.2]
                  rfl
              · have p4 : ((i : Int) < (ls.length : Int)) = False := eq_false (by omega)
                obtain rfl : i = ls.length := by omega
                have HT4 := Aside0.mk (show Tells s us (anaA ck rs).t ∧ s.d = (anaA ck rs).d by rw [HA.out]; have := HT.out; rwa [List.take_length] at this)
                have CP := Aside0.mk (plan_calls w wr bS s us _ (by have h1 := H.out.2.2.2.2.1; rw [← HT4.out.1.t] at h1; unfold abL at h1; rwa [List.length_map] at h1) (by rw [HT4.out.2]; exact H.out.2.2.2.2.2) O6.out)
                clear hi hik HT HA
                go_wp2_with (go_at_call 39; refine CP.out.mono ?_; rintro e w6 ⟨A5, c5, ts5, B5, cB5, ds5, rfl, h1, h2, h3, h4, o7⟩; obtain ⟨d, f⟩ := Own.cells (o7.at_ 2 rfl); have d0 := d 0; have d1 := d 1; have d2 := d 2; have f0 := f 0; have f1 := f 1; have f2 := f 2; have H7 := Aside0.mk (And.intro h1 (And.intro h2 (And.intro h3 (And.intro h4 o7)))); clear CP h1 h2 h3 h4 o7 d f)
                obtain ⟨h1, h2, h3, h4, o7⟩ := H7.out
                have o8 := Own.setAt (Own.setAt (Own.setAt o7 2 rfl (fun F h => CellsAt.set h 0 (.slice A5 ts5.length c5))) 2 rfl (fun F h => CellsAt.set h 1 (.slice B5 ds5.length cB5))) 2 rfl (fun F h => CellsAt.set h 2 (.int .i64 (fromL (s.d.map (·.2)))))
                obtain ⟨r9, _⟩ := Own.cells (o8.at_ 2 rfl)
                have r90 := r9 0
                have r91 := r9 1
                have r92 := r9 2
                simp only [Array.setIfInBounds, List.getElem?_toArray] at r90 r91 r92
                refine bodyPost_ret (v := .tuple #[.agg #[.slice A5 ts5.length c5, .slice B5 ds5.length cB5, .int .i64 (fromL (s.d.map (·.2)))], .bool true]) (by simp [results, Tryz.results13, go_sem, r90, r91, r92]) rfl ?_
                have o9 := Own.dropAt (Own.dropAt o8 0 rfl) 1 rfl
                refine ⟨A5, c5, ts5, B5, cB5, ds5, by rw [HT4.out.2], ?_, h2, by rw [← HT4.out.2]; exact h3, h4, ?_⟩
                · have h5 := h1.map Tv.ab
                  rw [← HT4.out.1.t]
                  unfold abL
                  rw [List.map_map]
                  rw [List.map_map] at h5
                  exact h5
                · exact Own.impAt (S' := PgsAt ts5) o9 0 rfl (fun _ h => PgsAt.of h (fun u hu => HT4.out.1.u u (h1.mem_iff.1 hu)))
  · have HK0 := Aside0.mk h0
    have HT3 := Aside0.mk (show Tells ⟨w.heap.size + 1, w.heap.size + 2, [], []⟩ [] (startA ck rs).t ∧ (⟨w.heap.size + 1, w.heap.size + 2, [], []⟩ : Sg).d = (startA ck rs).d by
      unfold startA
      rw [if_pos h0.symm]
      exact ⟨Tells.start _ _, rfl⟩)
    have q0 : (ck > 0) = False := eq_false (by omega)
    have q1 : (0 < ck) = False := eq_false (by omega)
    have O5 := Aside0.mk o2
    have hmm := @run_makeMap Tryz.prog
    clear hC hcap hr hl hb1 hb2 k2 h0 o1 o2 p3 k0 k1 hts hds
    generalize hbS : w.heap.size + 3 = bS at *
    obtain ⟨us, hus⟩ : ∃ us : List Tv, us = [] := ⟨_, rfl⟩
    rw [← hus] at HT3 O5
    generalize hs2 : (⟨w.heap.size + 1, w.heap.size + 2, [], []⟩ : Sg) = s2 at *
    have HS2 := Aside0.mk (And.intro hs2 hus)
    clear hs2 hus
    go_enter Tryz.func13, Tryz.ntmps13
    go_upto_region 16 with (fail)
    clear hmm q0 q1
    have hC3 := Kd.C_drop (c := c) H.out.1 (m := ck.toNat) (by have := HQ0.out; omega) H.out.2.1
    obtain ⟨A3, hA3⟩ : ∃ A3 : Option Addr, A3 = (if c = ck.toNat then A else Option.map (fun x => x.add (ck.toNat * 14)) A) := ⟨_, rfl⟩
    have hcs : ∀ W : World, (Instr.slice 36 (.slice A rs.length c) (some (.int .i64 ck)) none none).run Tryz.prog W = .ok (.slice A3 (rs.drop ck.toNat).length (c - ck.toNat)) W := by
      intro W
      rw [List.length_drop, hA3]
      exact cutRc _ _ _ _ (by have := HQ0.out; omega) (by have := HQ0.out; omega) W
    have hC4 : kdRc.C w A3 (rs.drop ck.toNat).length (rs.drop ck.toNat) := by rw [hA3]; exact hC3
    have hls : (rs.drop ck.toNat).length < 900000 := by rw [List.length_drop]; have := H.out.2.2.2.1; omega
    have hlm : ∀ r ∈ rs.drop ck.toNat, RcAt w r := fun r hr => H.out.2.2.1 r (List.mem_of_mem_drop hr)
    have HA := Aside0.mk (show anaA ck rs = goA (startA ck rs) ck (rs.drop ck.toNat) from rfl)
    have HC4 := Aside0.mk (And.intro hC4 (And.intro hls hlm))
    generalize rs.drop ck.toNat = ls at *
    generalize startA ck rs = S0 at *
    clear hC3 hC4 hls hlm hA3
    go_wp2_with fail
    go_loopg [82] ls.length (fun k s82 wr => ∃ (i : Nat) (s : Sg) (us : List Tv), s82 = .int .i64 (i : Int) ∧ i + k = ls.length ∧ Aside0 (Tells s us (goA S0 ck (ls.take i)).t ∧ s.d = (goA S0 ck (ls.take i)).d) ∧ Aside0 (Own w wr (St bS s us [CellsAt w.heap.size #[.slice none 0 0, .slice none 0 0, .int .i64 0] 47])))
    case atStart => exact ⟨0, s2, us, rfl, by omega, HT3, O5⟩
    case round =>
      clear HT3 O5
      obtain ⟨i, s, us, rfl, hik, HT, O6⟩ := hrel
      by_cases hi : i < ls.length
      · have p4 : ((i : Int) < (ls.length : Int)) = True := eq_true (by omega)
        have p5 : (0 : Int) ≤ (i : Int) := by omega
        have hii : i < 900000 := by have := HC4.out.2.1; omega
        have p6 : 0 ≤ ck := HQ0.out.1
        obtain ⟨ad7, rfl, u0, uj⟩ := kdOf_at (cells_of (Own.below O6.out) HC4.out.1) i hi
        have hrm : RcAt w (ls.getD i default) := HC4.out.2.2 _ (by rw [List.getD_eq_getElem?_getD, List.getElem?_eq_getElem hi]; exact List.getElem_mem hi)
        have hgo := goA_take S0 ck ls i hi
        have CR := Aside0.mk (fun (o' : Obj) => read_calls w (wr.alloc o') bS s us [CellsAt w.heap.size #[.slice none 0 0, .slice none 0 0, .int .i64 0] 47] _ (ck + (i : Int) + 1) (ls.getD i default) hrm HT.out.1 (Own.alloc O6.out o'))
        generalize ls.getD i default = r at *
        have HG := Aside0.mk (And.intro hgo (And.intro hi hik))
        obtain ⟨kd, tx, pv, nx, key, had, rk, cv, cb, cs, gA, gc, gs, pA, pc, ps, tA, tc, ts, dA, dc, ds⟩ := r
        dsimp only [Rc.v] at CR
        have x0 := u0 _ rfl
        have x1 := uj 1 (by omega) _ rfl
        have x2 := uj 2 (by omega) _ rfl
        have x3 := uj 3 (by omega) _ rfl
        have x4 := uj 4 (by omega) _ rfl
        have x5 := uj 5 (by omega) _ rfl
        have x6 := uj 6 (by omega) _ rfl
        have x7 := uj 7 (by omega) _ rfl
        have x8 := uj 8 (by omega) _ rfl
        have x9 := uj 9 (by omega) _ rfl
        have x10 := uj 10 (by omega) _ rfl
        have x11 := uj 11 (by omega) _ rfl
        have x12 := uj 12 (by omega) _ rfl
        have x13 := uj 13 (by omega) _ rfl
        clear u0 uj hrm hgo hi hik
        go_wp2_with (go_at_call 38; refine (CR.out _).mono ?_; rintro e w5 ⟨rfl, s', us', ht', hd', o'⟩; have HN := Aside0.mk (And.intro ht' (And.intro hd' o')); clear ht' hd' o')
        go_roundg (gk - 1)
        case measure => have := HG.out.2; omega
        case rel =>
          refine ⟨i + 1, s', us', by simp, by have := HG.out.2; omega, Aside0.mk ?_, Aside0.mk HN.out.2.2⟩
          rw [HG.out.1]
          refine ⟨HN.out.1, ?_⟩
          rw [HN.out.2.1, HT.out.2]
          rfl
      · have p4 : ((i : Int) < (ls.length : Int)) = False := eq_false (by omega)
        obtain rfl : i = ls.length := by omega
        have HT4 := Aside0.mk (show Tells s us (anaA ck rs).t ∧ s.d = (anaA ck rs).d by rw [HA.out]; have := HT.out; rwa [List.take_length] at this)
        have CP := Aside0.mk (plan_calls w wr bS s us _ (by have h1 := H.out.2.2.2.2.1; rw [← HT4.out.1.t] at h1; unfold abL at h1; rwa [List.length_map] at h1) (by rw [HT4.out.2]; exact H.out.2.2.2.2.2) O6.out)
        clear hi hik HT HA
        go_wp2_with (go_at_call 39; refine CP.out.mono ?_; rintro e w6 ⟨A5, c5, ts5, B5, cB5, ds5, rfl, h1, h2, h3, h4, o7⟩; obtain ⟨d, f⟩ := Own.cells (o7.at_ 2 rfl); have d0 := d 0; have d1 := d 1; have d2 := d 2; have f0 := f 0; have f1 := f 1; have f2 := f 2; have H7 := Aside0.mk (And.intro h1 (And.intro h2 (And.intro h3 (And.intro h4 o7)))); clear CP h1 h2 h3 h4 o7 d f)
        obtain ⟨h1, h2, h3, h4, o7⟩ := H7.out
        have o8 := Own.setAt (Own.setAt (Own.setAt o7 2 rfl (fun F h => CellsAt.set h 0 (.slice A5 ts5.length c5))) 2 rfl (fun F h => CellsAt.set h 1 (.slice B5 ds5.length cB5))) 2 rfl (fun F h => CellsAt.set h 2 (.int .i64 (fromL (s.d.map (·.2)))))
        obtain ⟨r9, _⟩ := Own.cells (o8.at_ 2 rfl)
        have r90 := r9 0
        have r91 := r9 1
        have r92 := r9 2
        simp only [Array.setIfInBounds, List.getElem?_toArray] at r90 r91 r92
        refine bodyPost_ret (v := .tuple #[.agg #[.slice A5 ts5.length c5, .slice B5 ds5.length cB5, .int .i64 (fromL (s.d.map (·.2)))], .bool true]) (by simp [results, Tryz.results13, go_sem, r90, r91, r92]) rfl ?_
        have o9 := Own.dropAt (Own.dropAt o8 0 rfl) 1 rfl
        refine ⟨A5, c5, ts5, B5, cB5, ds5, by rw [HT4.out.2], ?_, h2, by rw [← HT4.out.2]; exact h3, h4, ?_⟩
        · have h5 := h1.map Tv.ab
          rw [← HT4.out.1.t]
          unfold abL
          rw [List.map_map]
          rw [List.map_map] at h5
          exact h5
        · exact Own.impAt (S' := PgsAt ts5) o9 0 rfl (fun _ h => PgsAt.of h (fun u hu => HT4.out.1.u u (h1.mem_iff.1 hu)))
end Go.Proofs.YtiagbkpggeglgaaGreat.RS
namespace Go.Proofs.YtiagbkpggeglgaaGreat.RS
open Go Go.RowKit Go.Proofs.YtiagbkpggeglgaaGreatW.PrintWords Go.Proofs.YtiagbkpggeglgaaGreatW.PrintLast Go.Proofs.YtiagbkpggeglgaaGreatW.PrintMore Go.Proofs.YtiagbkpggeglgaaGreat.L
set_option linter.unusedVariables false
set_option linter.unusedSimpArgs false
/-- A queue in blocks of its own. -/
def QHP (b : Nat) (xs : List (Int × Int)) : HP where
  on := fun W F => ∃ v, Q.Row W 0 b v xs ∧ F b ∧ (∀ k, v.ownBlock = some k → F k) ∧ ∀ k, F k → k < W.heap.size
  frame := by
    rintro W W' F ⟨v, r, hb, hv, hl⟩ hk
    refine ⟨v, ⟨(hk b hb).trans r.blk, Nat.zero_le _, ?_⟩, hb, hv, fun k hF => lt_of_same (hl k hF) (hk k hF)⟩
    exact Kd.R_mono (Kd.R_step (Kd.R_tight rfl r.row) (fun k h1 hlt => hk k (hv k h1.symm))) (fun _ _ => trivial)
  lt := by
    rintro W F k ⟨v, r, hb, hv, hl⟩ hk
    exact hl k hk
theorem QHP.post {W W' : World} {b : Nat} {v : Value} {ys : List (Int × Int)} {F : Nat → Prop} (hb : F b) (hv : ∀ k, v.ownBlock = some k → F k) (hl : ∀ k, F k → k < W.heap.size) (p : Q.Post W 0 b v ys W') : Upd W F (QHP b ys) W' := by
  obtain ⟨v', r', e, hk⟩ := p
  have e2 : Eff F W W' := ⟨e.os, e.tape, e.output, e.size, fun k hk' hn => e.block k hk' (fun h => h.elim (fun h => hn (h ▸ hb)) (fun h => hn (hv k h)))⟩
  refine ⟨fun k => F k ∨ v'.ownBlock = some k, ⟨v', r', .inl hb, fun k h => .inr h, fun k h => ?_⟩, e2, fun k h => ?_⟩
  · rcases h with h | h
    · exact Nat.lt_of_lt_of_le (hl k h) e.size
    · exact Q.Row.own_lt r' k h
  · rcases h with h | h
    · exact .inl h
    · exact (hk k h).imp (hv k) id
section
variable {w0 W : World} {b : Nat} {xs : List (Int × Int)} {l : List HP}
theorem Own.qnew (o : Own w0 W (Stars l)) : Own w0 (W.alloc (.cells #[.slice none 0 0] 107)) (Stars (l ++ [QHP W.heap.size []])) := by
  refine Own.newAt o ((Eff.refl _ _).alloc _) (F' := fun k => k = W.heap.size) ⟨.slice none 0 0, ⟨heap_alloc_new W _, Nat.zero_le _, Kd.R_nil _ _ _ _ _⟩, rfl, fun k h => by simp [Value.ownBlock] at h, ?_⟩ ?_
  · rintro k rfl
    simp
  · rintro k rfl
    exact Nat.le_refl _
theorem Own.qpush (o : Own w0 W (Stars l)) (i : Nat) (hi : l[i]? = some (QHP b xs)) (hm : xs.length < 900000) (x y : Int) : Calls Tryz.prog 46 #[.pointer (some ⟨b, 0, none⟩), .int .i64 x, .int .i64 y] W fun e w' => e = .returned (.tuple #[]) ∧ Own w0 w' (Stars (l.set i (QHP b (Q.heapPushL xs (x, y))))) := by
  refine (Own.callAt (X := Unit) (S' := fun _ => QHP b (Q.heapPushL xs (x, y))) (E := fun _ e _ => e = .returned (.tuple #[])) o i hi ?_).mono (fun e w' ⟨_, h1, h2⟩ => ⟨h1, h2⟩)
  rintro F ⟨v, r, hb, hv, hl⟩
  exact (Q.qpush_calls W 0 b v xs x y r (Nat.zero_le _) hm).mono (fun e w' ⟨h1, h2⟩ => ⟨(), h1, QHP.post hb hv hl h2⟩)
theorem Own.qpop (o : Own w0 W (Stars l)) (i : Nat) (hi : l[i]? = some (QHP b xs)) (hm : xs.length < 900000) : Calls Tryz.prog 48 #[.pointer (some ⟨b, 0, none⟩)] W fun e w' => e = .returned (.tuple #[.int .i64 (Q.rdp xs (0 : Nat)).1, .int .i64 (Q.rdp xs (0 : Nat)).2, .bool (decide (0 < xs.length))]) ∧ Own w0 w' (Stars (l.set i (QHP b (Q.popL xs)))) := by
  refine (Own.callAt (X := Unit) (S' := fun _ => QHP b (Q.popL xs)) (E := fun _ e _ => e = .returned (.tuple #[.int .i64 (Q.rdp xs (0 : Nat)).1, .int .i64 (Q.rdp xs (0 : Nat)).2, .bool (decide (0 < xs.length))])) o i hi ?_).mono (fun e w' ⟨_, h1, h2⟩ => ⟨h1, h2⟩)
  rintro F ⟨v, r, hb, hv, hl⟩
  exact (Q.qpop_calls W 0 b v xs r hm).mono (fun e w' ⟨h1, h2⟩ => ⟨(), h1, QHP.post hb hv hl h2⟩)
theorem Own.qlen (o : Own w0 W (Stars l)) (i : Nat) (hi : l[i]? = some (QHP b xs)) : Calls Tryz.prog 47 #[.pointer (some ⟨b, 0, none⟩)] W fun e w' => e = .returned (.int .i64 xs.length) ∧ Own w0 w' (Stars (l.set i (QHP b xs))) := by
  refine (Own.callAt (X := Unit) (S' := fun _ => QHP b xs) (E := fun _ e _ => e = .returned (.int .i64 xs.length)) o i hi ?_).mono (fun e w' ⟨_, h1, h2⟩ => ⟨h1, h2⟩)
  rintro F ⟨v, r, hb, hv, hl⟩
  refine (Q.qlen_calls W 0 b v xs r).mono (fun e w' ⟨h1, h2⟩ => ⟨(), h1, ?_⟩)
  exact Upd.same (S := QHP b xs) ⟨v, r, hb, hv, hl⟩ ((Eff.refl _ _).drawn h2)
end
/-! ### who is to be undone, and in which order -/
def losS (ts : List Tv) : List (Int × Int) := ts.foldl (fun l t => if t.com then l else Q.insL (t.last, t.tx) l) []
def losL (ts : List Tv) : List Int := (losS ts).map (·.2)
theorem losS_len (ts : List Tv) : (losS ts).length ≤ ts.length := by
  have h : ∀ (ts : List Tv) (l : List (Int × Int)), (ts.foldl (fun l t => if t.com then l else Q.insL (t.last, t.tx) l) l).length ≤ l.length + ts.length := by
    intro ts
    induction ts with
    | nil => intro l; simp
    | cons t ts ih =>
      intro l
      simp only [List.foldl_cons, List.length_cons]
      refine Nat.le_trans (ih _) ?_
      split
      · omega
      · rw [Q.insL_length]; omega
  have := h ts []
  rw [List.length_nil, Nat.zero_add] at this
  exact this
theorem losS_take (ts : List Tv) (i : Nat) (h : i < ts.length) : losS (ts.take (i + 1)) = if (ts.getD i default).com then losS (ts.take i) else Q.insL ((ts.getD i default).last, (ts.getD i default).tx) (losS (ts.take i)) := by
  unfold losS
  rw [List.take_add_one, List.foldl_append, List.getD_eq_getElem?_getD]
  simp [h]
theorem infoIn : (Tryz.prog.info? 3).map (fun i => (i.zero, i.size, i.bytes)) = some (some (.int .i64 0), 1, 8) := by kernel_rfl
/-- The answer of Losers. -/
def Lo (W : World) (ts : List Tv) (e : Ending) (w' : World) : Prop := ∃ A c, e = .returned (.slice A (losL ts).length c) ∧ Own W w' (RowAt kdI 3 (.slice A (losL ts).length c) (losL ts))
set_option maxHeartbeats 1600000 in
set_option maxRecDepth 100000 in
theorem losers_calls (W : World) (A : Option Addr) (c : Nat) (ts : List Tv) (hC : kdT.C W A ts.length ts) (hl : ts.length < 900000) (B : Option Addr) (nB cB : Nat) (f : Int) :
    Calls Tryz.prog 19 #[.agg #[.slice A ts.length c, .slice B nB cB, .int .i64 f]] W (Lo W ts) := by
  have o1 := Own.cellsNew (l := []) (Own.start W) #[.slice A ts.length c, .slice B nB cB, .int .i64 f] 47
  have o2 := Own.qnew o1
  rw [show (W.alloc (.cells #[.slice A ts.length c, .slice B nB cB, .int .i64 f] 47)).heap.size = W.heap.size + 1 by simp] at o2
  have O2 := Aside0.mk o2
  have HC := Aside0.mk (And.intro hC hl)
  clear o1 o2 hC
  generalize hbQ : W.heap.size + 1 = bq at *
  go_enter Tryz.func19, Tryz.ntmps19
  go_wp2_with fail
  go_loopg [13] ts.length (fun k s13 wr => ∃ (i : Nat) (xs : List (Int × Int)), s13 = .int .i64 (i : Int) ∧ i + k = ts.length ∧ Aside0 (Q.QS xs (losS (ts.take i))) ∧ Aside0 (Own W wr (Stars [CellsAt W.heap.size #[.slice A ts.length c, .slice B nB cB, .int .i64 f] 47, QHP bq xs])))
  case atStart => exact ⟨0, [], rfl, by omega, Aside0.mk Q.QS.nil, O2⟩
  case round =>
    clear O2
    obtain ⟨i, xs, rfl, hik, HS, O3⟩ := hrel
    have hxs : xs.length ≤ ts.length := by
      rw [HS.out.length]
      exact Nat.le_trans (losS_len _) (by rw [List.length_take]; omega)
    by_cases hi : i < ts.length
    · have p4 : ((i : Int) < (ts.length : Int)) = True := eq_true (by omega)
      have p5 : (0 : Int) ≤ (i : Int) := by omega
      have hii : i < 900000 := by omega
      obtain ⟨ad, rfl, u0, uj⟩ := kdOf_at (cells_of' (Own.below O3.out) HC.out.1) i hi
      have hnx := losS_take ts i hi
      generalize ts.getD i default = v at *
      obtain ⟨vx, vl, vc, vA, vcc, vp⟩ := v
      dsimp only at hnx
      have x0 := u0 _ rfl
      have x1 := uj 1 (by omega) _ rfl
      have x2 := uj 2 (by omega) _ rfl
      have x3 := uj 3 (by omega) _ rfl
      have o4 := Own.alloc O3.out (.cells #[.int .i64 vx, .int .i64 vl, .bool vc, .slice vA vp.length vcc] 85)
      have CP := Aside0.mk (Own.qpush o4 1 rfl (by omega) vl vx)
      have HN := Aside0.mk (And.intro hnx (And.intro hi hik))
      have O4 := Aside0.mk o4
      clear u0 uj hnx hi hik o4 hxs
      cases vc with
      | true =>
        go_wp2_with fail
        go_roundg (gk - 1)
        case measure => have := HN.out.2; omega
        case rel => exact ⟨i + 1, xs, by simp, by have := HN.out.2; omega, Aside0.mk (by rw [HN.out.1, if_pos trivial]; exact HS.out), O4⟩
      | false =>
        go_wp2_with (go_at_call 46; refine CP.out.mono ?_; rintro e w5 ⟨rfl, o5⟩)
        go_roundg (gk - 1)
        case measure => have := HN.out.2; omega
        case rel => exact ⟨i + 1, Q.heapPushL xs (vl, vx), by simp, by have := HN.out.2; omega, Aside0.mk (by rw [HN.out.1, if_neg (by simp)]; exact HS.out.push (vl, vx)), Aside0.mk o5⟩
    · have p4 : ((i : Int) < (ts.length : Int)) = False := eq_false (by omega)
      obtain rfl : i = ts.length := by omega
      have HS2 := Aside0.mk (show Q.QS xs (losS ts) by have := HS.out; rwa [List.take_length] at this)
      have HX := Aside0.mk hxs
      have hll := losS_len ts
      obtain ⟨ls, hls⟩ : ∃ ls, ls = losS ts := ⟨_, rfl⟩
      rw [← hls] at HS2 hll
      have HLS := Aside0.mk hls
      have HX2 := Aside0.mk (show ls.length < 900000 by omega)
      clear hi hik HS hxs hls
      go_wp2_with fail
      have O5 := Aside0.mk (Own.nilLast kdI 3 O3.out)
      clear O3
      go_loopg [6] ls.length (fun k s6 wr => ∃ (out : List Int) (rest xs : List (Int × Int)) (A6 : Option Addr) (c6 : Nat), s6 = .slice A6 out.length c6 ∧ rest.length = k ∧ Aside0 (Q.QS xs rest ∧ out ++ rest.map (·.2) = ls.map (·.2)) ∧ Aside0 (Own W wr (Stars ([CellsAt W.heap.size #[.slice A ts.length c, .slice B nB cB, .int .i64 f] 47, QHP bq xs] ++ [RowAt kdI 3 (.slice A6 out.length c6) out]))))
      case atStart => exact ⟨[], ls, xs, none, 0, rfl, rfl, Aside0.mk ⟨HS2.out, rfl⟩, O5⟩
      case round =>
        clear O5 HS2 HX
        obtain ⟨out, rest, xs, A6, c6, rfl, hk, HS, O6⟩ := hrel
        have CL := Aside0.mk (Own.qlen O6.out 1 rfl)
        have hxl := HS.out.1.length
        cases rest with
        | nil =>
          have q1 : xs.length = 0 := hxl
          have q2 : ((xs.length : Int) > 0) = False := eq_false (by omega)
          have q3 : ((0 : Int) < (xs.length : Int)) = False := eq_false (by omega)
          have q4 : (0 < xs.length) = False := eq_false (by omega)
          have HO := Aside0.mk (show out = losL ts by have := HS.out.2; rw [List.map_nil, List.append_nil] at this; rw [this, HLS.out]; rfl)
          clear hxl hk q1
          go_wp2_with (go_at_call 47; refine CL.out.mono ?_; rintro e w5 ⟨rfl, o5⟩; have O7 := Aside0.mk o5; clear o5)
          refine bodyPost_ret (results_tmp rfl _ _ _) rfl ?_
          have o8 := Own.last (l := [CellsAt W.heap.size #[.slice A ts.length c, .slice B nB cB, .int .i64 f] 47, QHP bq xs]) O7.out
          rw [HO.out] at o8 ⊢
          exact ⟨A6, c6, rfl, o8⟩
        | cons r rest =>
          obtain ⟨ra, rb⟩ := r
          have hpop := HS.out.1.pop
          rw [List.length_cons] at hxl
          have q2 : ((xs.length : Int) > 0) = True := eq_true (by omega)
          have q3 : ((0 : Int) < (xs.length : Int)) = True := eq_true (by omega)
          have q4 : (0 < xs.length) = True := eq_true (by omega)
          rw [List.length_cons] at hk
          have hol : (out.length + 1) * 8 ≤ 140737488355328 := by
            have h1 := congrArg List.length HS.out.2
            simp only [List.length_append, List.length_map, List.length_cons] at h1
            omega
          have HP1 : ∀ w5, Own W w5 (Stars ([CellsAt W.heap.size #[.slice A ts.length c, .slice B nB cB, .int .i64 f] 47, QHP bq xs] ++ [RowAt kdI 3 (.slice A6 out.length c6) out])) → Calls Tryz.prog 48 #[.pointer (some ⟨bq, 0, none⟩)] w5 fun e w' => e = .returned (.tuple #[.int .i64 ra, .int .i64 rb, .bool true]) ∧ Aside0 (Own W w' (Stars ([CellsAt W.heap.size #[.slice A ts.length c, .slice B nB cB, .int .i64 f] 47, QHP bq (Q.popL xs)] ++ [RowAt kdI 3 (.slice A6 out.length c6) out]))) := by
            intro w5 o5
            refine (Own.qpop o5 1 rfl (by have := HX2.out; have h1 := congrArg List.length HS.out.2; simp only [List.length_append, List.length_map, List.length_cons] at h1; omega)).mono ?_
            rintro e w' ⟨h1, h2⟩
            rw [Q.rdp_nat, hpop.1, decide_eq_true (by omega)] at h1
            exact ⟨h1, Aside0.mk h2⟩
          have CP := Aside0.mk HP1
          have HN := Aside0.mk (And.intro hpop.2 (And.intro hk (show (out ++ [rb]) ++ rest.map (·.2) = ls.map (·.2) by rw [← HS.out.2]; simp)))
          clear hpop hxl hk HP1
          go_wp2_with (first
            | (go_at_call 47; refine CL.out.mono ?_; rintro e w5 ⟨rfl, o5⟩; have O7 := Aside0.mk o5; clear o5)
            | (go_at_call 48; refine (CP.out _ O7.out).mono ?_; rintro e w6 ⟨rfl, O8⟩; obtain ⟨ok, hR, hok, hgo⟩ := Own.growLast (l := [CellsAt W.heap.size #[.slice A ts.length c, .slice B nB cB, .int .i64 f] 47, QHP bq (Q.popL xs)]) O8.out; have HGO := Aside0.mk (And.intro hR (And.intro hok hgo)); clear hR hok hgo)
            | (at_builtin; go_loud (refine Kd.R_append kdI (W := w6) (w0 := w6) 0 rfl (.tmp 33) (.tmp 35) 39 3 (.int .i64 0) 8 rfl Tryz.underlying39 infoIn rfl (by decide) (by decide) (.slice A6 out.length c6) out rb [.int .i64 rb] ok (fun _ => False) (by simp [Act.eval, Act.put]) (by simp [Act.eval, Act.put]) rfl (fun _ hk => hk.elim) HGO.out.2.1 HGO.out.1 (Below.refl _ _) (Nat.zero_le _) hol ?_); intro v1 w8 r1 b1 h1 k1; have o8 := HGO.out.2.2 v1 w8 _ r1 h1; obtain ⟨A8, c8, hv⟩ := Kd.R_slice r1; subst hv; have O9 := Aside0.mk o8; clear r1 b1 h1 k1 o8))
          go_roundg (gk - 1)
          case measure => have := HN.out.2.1; omega
          case rel => exact ⟨out ++ [rb], rest, Q.popL xs, A8, c8, by simp, by have := HN.out.2.1; omega, Aside0.mk ⟨HN.out.1, HN.out.2.2⟩, O9⟩
end Go.Proofs.YtiagbkpggeglgaaGreat.RS
namespace Go.Proofs.YtiagbkpggeglgaaGreat.RS
open Go Go.RowKit Go.Proofs.YtiagbkpggeglgaaGreatW.PrintWords Go.Proofs.YtiagbkpggeglgaaGreatW.PrintLast Go.Proofs.YtiagbkpggeglgaaGreatW.PrintMore Go.Proofs.YtiagbkpggeglgaaGreat.L
set_option linter.unusedVariables false
set_option linter.unusedSimpArgs false
/-- Sorted by f, each value once: told by what is in it. -/
theorem sort_unique {α : Type} (f : α → Int) : ∀ {l m : List α}, l.Perm m → l.Pairwise (fun a b => f a ≤ f b) → m.Pairwise (fun a b => f a ≤ f b) → (l.map f).Nodup → l = m
  | [], m, h, _, _, _ => by rw [List.nil_perm] at h; exact h.symm
  | x :: l, [], h, _, _, _ => by rw [List.perm_nil] at h; cases h
  | x :: l, y :: m, h, hl, hm, hn => by
    have a := List.pairwise_cons.1 hl
    have b := List.pairwise_cons.1 hm
    rw [List.map_cons, List.nodup_cons] at hn
    have e : x = y := by
      rcases List.mem_cons.1 (h.mem_iff.1 (List.mem_cons_self (a := x) (l := l))) with e | e
      · exact e
      · rcases List.mem_cons.1 (h.mem_iff.2 (List.mem_cons_self (a := y) (l := m))) with g | g
        · exact g.symm
        · have h1 := a.1 y g
          have h2 := b.1 x e
          have h3 : f y = f x := by omega
          exact absurd (List.mem_map.2 ⟨y, g, h3⟩) hn.1
    subst e
    rw [sort_unique f h.cons_inv a.2 b.2 hn.2]
/-- One alone is to be undone. -/
theorem losL_two {a b : Tv} (ha : a.com = false) (hb : b.com = true) : losL [a, b] = [a.tx] := by
  unfold losL losS
  simp [ha, hb, Q.insL]
end Go.Proofs.YtiagbkpggeglgaaGreat.RS
namespace Go.Proofs.YtiagbkpggeglgaaGreat.RS
open Go Go.RowKit Go.Proofs.YtiagbkpggeglgaaGreatW.PrintWords Go.Proofs.YtiagbkpggeglgaaGreatW.PrintLast Go.Proofs.YtiagbkpggeglgaaGreatW.PrintMore Go.Proofs.YtiagbkpggeglgaaGreat.L
set_option linter.unusedVariables false
set_option linter.unusedSimpArgs false
set_option maxHeartbeats 1600000 in
set_option maxRecDepth 100000 in
theorem sameInts_calls (w : World) (A B : Option Addr) (c c' : Nat) (xs : List Int) (hA : kdI.C w A xs.length xs) (hB : kdI.C w B xs.length xs) (hl : xs.length ≤ 17592186043904) :
    Calls Tryz.prog 23 #[.slice A xs.length c, .slice B xs.length c'] w fun e w' => e = .returned (.bool true) ∧ ∃ n, w' = w.drewN n := by
  have H := Aside0.mk (And.intro hA hB)
  clear hA hB
  go_enter Tryz.func23, Tryz.ntmps23
  go_wp2_with fail
  go_loopg [5] xs.length (fun k s5 wr => ∃ (i : Nat) (n : Nat), s5 = .int .i64 (i : Int) ∧ i + k = xs.length ∧ wr = w.drewN n)
  case atStart => exact ⟨0, 0, rfl, by omega, rfl⟩
  case round =>
    obtain ⟨i, n, rfl, hik, hw⟩ := hrel
    by_cases hi : i < xs.length
    · have p4 : ((i : Int) < (xs.length : Int)) = True := eq_true (by omega)
      have p5 : (0 : Int) ≤ (i : Int) := by omega
      have hii : i < 17592186043904 := by omega
      obtain ⟨a1, rfl, x0⟩ := at_I (Kd.C_drewN H.out.1 n) i hi
      obtain ⟨b1, rfl, y0⟩ := at_I (Kd.C_drewN H.out.2 n) i hi
      rw [← hw] at x0 y0
      have HW := Aside0.mk (And.intro hw hik)
      generalize xs.getD i default = v at *
      clear hw hik
      go_wp2_with fail
      go_quiet (fail)
      go_wp2_with fail
      go_roundg (gk - 1)
      case measure => have := HW.out.2; omega
      case rel => exact ⟨i + 1, n + nq, by simp, by have := HW.out.2; omega, by rw [HW.out.1]; exact World.drewN_drewN _ _ _⟩
    · have p4 : ((i : Int) < (xs.length : Int)) = False := eq_false (by omega)
      have HW := Aside0.mk hw
      clear hw
      go_wp2_with fail
      go_ret
      exact ⟨rfl, n, HW.out⟩
theorem eqD (d : Nat) (w : World) (x0 y0 x1 y1 : Int) :
    (Op.equalIn (d + 2) 87 (.agg #[.int .i64 x0, .int .i64 x1]) (.agg #[.int .i64 y0, .int .i64 y1])).run Tryz.prog w = .ok (x0 == y0 && (x1 == y1)) w := by
  refine eqA_of Tryz.underlying87 (by kernel_rfl) ?_
  refine eqf_cons (by rfl) (by go_simp; rfl) (by go_simp; rfl) (by go_simp) ?_
  exact eqf_last (by rfl) (by go_simp; rfl) (by go_simp; rfl) (by go_simp)
set_option maxHeartbeats 1600000 in
set_option maxRecDepth 100000 in
theorem sameDirty_calls (w : World) (A B : Option Addr) (c c' : Nat) (xs : List (Int × Int)) (hA : kdD.C w A xs.length xs) (hB : kdD.C w B xs.length xs) (hl : xs.length < 900000) :
    Calls Tryz.prog 22 #[.slice A xs.length c, .slice B xs.length c'] w fun e w' => e = .returned (.bool true) ∧ ∃ n, w' = w.drewN n := by
  have H := Aside0.mk (And.intro hA hB)
  have hE := eqD
  clear hA hB
  go_enter Tryz.func22, Tryz.ntmps22
  go_wp2_with fail
  go_loopg [5] xs.length (fun k s5 wr => ∃ (i : Nat) (n : Nat), s5 = .int .i64 (i : Int) ∧ i + k = xs.length ∧ wr = w.drewN n)
  case atStart => exact ⟨0, 0, rfl, by omega, rfl⟩
  case round =>
    obtain ⟨i, n, rfl, hik, hw⟩ := hrel
    by_cases hi : i < xs.length
    · have p4 : ((i : Int) < (xs.length : Int)) = True := eq_true (by omega)
      have p5 : (0 : Int) ≤ (i : Int) := by omega
      have hii : i < 900000 := by omega
      obtain ⟨a1, rfl, u0, uj⟩ := kdOf_at (Kd.C_drewN H.out.1 n) i hi
      obtain ⟨b1, rfl, v0, vj⟩ := kdOf_at (Kd.C_drewN H.out.2 n) i hi
      have x0 := u0 _ rfl
      have x1 := uj 1 (by omega) _ rfl
      have y0 := v0 _ rfl
      have y1 := vj 1 (by omega) _ rfl
      rw [← hw] at x0 y0 x1 y1
      have HW := Aside0.mk (And.intro hw hik)
      generalize xs.getD i default = v at *
      obtain ⟨va, vb⟩ := v
      dsimp only at x0 y0 x1 y1
      clear hw hik u0 uj v0 vj
      go_wp2_with fail
      go_quiet (fail)
      go_wp2_with fail
      go_roundg (gk - 1)
      case measure => have := HW.out.2; omega
      case rel => exact ⟨i + 1, n + nq, by simp, by have := HW.out.2; omega, by rw [HW.out.1]; exact World.drewN_drewN _ _ _⟩
    · have p4 : ((i : Int) < (xs.length : Int)) = False := eq_false (by omega)
      have HW := Aside0.mk hw
      clear hw
      go_wp2_with fail
      go_ret
      exact ⟨rfl, n, HW.out⟩
set_option maxHeartbeats 1600000 in
set_option maxRecDepth 100000 in
theorem sameTx_calls (w : World) (t u : Tv) (he : t.ab = u.ab) (ht : kdI.C w t.A t.p.length t.p) (hu : kdI.C w u.A u.p.length u.p) (hl : t.p.length ≤ 17592186043904) :
    Calls Tryz.prog 50 #[t.v, u.v] w fun e w' => e = .returned (.bool true) ∧ Eff0 w w' := by
  obtain ⟨x, l, c, A, ca, p⟩ := t
  obtain ⟨x', l', c', B, cb, p'⟩ := u
  unfold Tv.ab at he
  injection he with h1 h2 h3 h4
  dsimp only at h1 h2 h3 h4 ht hu hl
  subst h1 h2 h3 h4
  have C := fun w' (e : Below w.heap.size w w') => sameInts_calls w' A B ca cb p (Kd.C_below ht e) (Kd.C_below hu e) hl
  have CI := Aside0.mk (C _ ((((Eff.refl (fun _ => False) w).alloc (.cells #[.int .i64 x, .int .i64 l, .bool c, .slice A p.length ca] 85)).alloc (.cells #[.int .i64 x, .int .i64 l, .bool c, .slice B p.length cb] 85)).below0))
  clear ht hu C
  go_enter Tryz.func50, Tryz.ntmps50
  go_wp2_with (go_at_call 23; refine CI.out.mono ?_; rintro e w5 ⟨rfl, n, rfl⟩)
  go_ret
  exact ⟨rfl, (((Eff.refl _ _).alloc _).alloc _).drewN n⟩
set_option maxHeartbeats 1600000 in
set_option maxRecDepth 100000 in
theorem sameTxs_calls (w : World) (A B : Option Addr) (c c' : Nat) (ts us : List Tv) (he : ts.map Tv.ab = us.map Tv.ab) (hA : kdT.C w A ts.length ts) (hB : kdT.C w B us.length us) (hpa : ∀ t ∈ ts, kdI.C w t.A t.p.length t.p ∧ t.p.length ≤ 17592186043904) (hpb : ∀ t ∈ us, kdI.C w t.A t.p.length t.p) (hl : ts.length < 900000) :
    Calls Tryz.prog 21 #[.slice A ts.length c, .slice B us.length c'] w fun e w' => e = .returned (.bool true) ∧ Eff0 w w' := by
  have hlen : us.length = ts.length := by have := congrArg List.length he; simpa using this.symm
  rw [hlen] at hB ⊢
  have H := Aside0.mk (And.intro hA (And.intro hB (And.intro hpa (And.intro hpb (And.intro he hlen)))))
  clear hA hB hpa hpb he hlen
  go_enter Tryz.func21, Tryz.ntmps21
  go_wp2_with fail
  go_loopg [5] ts.length (fun k s5 wr => ∃ (i : Nat), s5 = .int .i64 (i : Int) ∧ i + k = ts.length ∧ Aside0 (Eff0 w wr))
  case atStart => exact ⟨0, rfl, by omega, Aside0.mk (Eff.refl _ _)⟩
  case round =>
    obtain ⟨i, rfl, hik, HE⟩ := hrel
    by_cases hi : i < ts.length
    · have p4 : ((i : Int) < (ts.length : Int)) = True := eq_true (by omega)
      have p5 : (0 : Int) ≤ (i : Int) := by omega
      have hii : i < 900000 := by omega
      have hiu : i < us.length := by have := H.out.2.2.2.2.2; omega
      obtain ⟨a1, rfl, u0, uj⟩ := kdOf_at (cells_of' HE.out.below0 H.out.1) i hi
      obtain ⟨b1, rfl, v0, vj⟩ := kdOf_at (cells_of' HE.out.below0 H.out.2.1) i hi
      have ht := H.out.2.2.1 (ts.getD i default) (by rw [List.getD_eq_getElem?_getD, List.getElem?_eq_getElem hi]; exact List.getElem_mem hi)
      have hu := H.out.2.2.2.1 (us.getD i default) (by rw [List.getD_eq_getElem?_getD, List.getElem?_eq_getElem hiu]; exact List.getElem_mem hiu)
      have hab : (ts.getD i default).ab = (us.getD i default).ab := by
        have := congrArg (fun l : List Tp => l[i]?) H.out.2.2.2.2.1
        simp only [List.getElem?_map, List.getElem?_eq_getElem hi, List.getElem?_eq_getElem hiu, Option.map_some, Option.some.injEq] at this
        rw [List.getD_eq_getElem?_getD, List.getD_eq_getElem?_getD, List.getElem?_eq_getElem hi, List.getElem?_eq_getElem hiu]
        exact this
      have x0 := u0 _ rfl
      have x1 := uj 1 (by omega) _ rfl
      have x2 := uj 2 (by omega) _ rfl
      have x3 := uj 3 (by omega) _ rfl
      have y0 := v0 _ rfl
      have y1 := vj 1 (by omega) _ rfl
      have y2 := vj 2 (by omega) _ rfl
      have y3 := vj 3 (by omega) _ rfl
      have C := fun w' (e : Eff0 wr w') => sameTx_calls w' _ _ hab (Kd.C_below ht.1 (HE.out.then0 e).below0) (Kd.C_below hu (HE.out.then0 e).below0) ht.2
      generalize ts.getD i default = t at *
      generalize us.getD i default = u at *
      obtain ⟨x, l, cc, tA, ca, p⟩ := t
      obtain ⟨x', l', cc', uA, cb, p'⟩ := u
      dsimp only [Tv.v] at C x0 x1 x2 x3 y0 y1 y2 y3
      have HI := Aside0.mk (And.intro hi hik)
      clear u0 uj v0 vj ht hu hab hi hik hiu
      go_wp2_with fail
      have s0 : Eff0 wr wr.drew := (Eff.refl _ _).drew
      go_still_tail 8, (by kernel_rfl)
      have CS := Aside0.mk (C _ s0)
      clear C s0
      go_wp2_with (go_at_call 50; refine CS.out.mono ?_; rintro e w5 ⟨rfl, e5⟩; have E5 := Aside0.mk e5; clear e5)
      go_roundg (gk - 1)
      case measure => have := HI.out; omega
      case rel => exact ⟨i + 1, by simp, by have := HI.out; omega, Aside0.mk ((HE.out.then0 ((Eff.refl _ _).drew)).then0 E5.out)⟩
    · have p4 : ((i : Int) < (ts.length : Int)) = False := eq_false (by omega)
      go_wp2_with fail
      go_ret
      exact ⟨rfl, HE.out⟩
end Go.Proofs.YtiagbkpggeglgaaGreat.RS
