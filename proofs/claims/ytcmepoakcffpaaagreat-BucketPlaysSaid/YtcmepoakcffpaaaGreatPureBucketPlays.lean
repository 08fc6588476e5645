/- The law BucketPlays of the given program: a page of cells under any row of sets, cuts and finds: as a plain list of cells kept in order; what was handed out stays. Its walk. Conditions: none beyond the row's own. -/
import Derived.Test.YtcmepoakcffpaaaGreatCWi
import Derived.Deep.CutBlock
import Derived.BigQuiet
import Derived.Test.YtcmepoakcffpaaaGreatProg
import Derived.BigRegion
import Derived.Deep.QuietTactic
import Derived.Deep.AppendLies
import Derived.ChangeAlike
import Derived.Outline
import Derived.WalkKit
import Derived.KernelRfl
import Derived.Deep.LoopGhost
import Derived.Deep.RegionLaw
import Derived.Test.YtcmepoakcffpaaaGreatWMore
import Derived.Test.YtcmepoakcffpaaaGreatWKept
import Derived.Test.YtcmepoakcffpaaaGreatLSep
namespace Go.Proofs.YtcmepoakcffpaaaGreat.Pure
open Go Go.RowKit Go.Proofs.YtcmepoakcffpaaaGreatW.PrintWords Go.Proofs.YtcmepoakcffpaaaGreatW.PrintLast Go.Proofs.YtcmepoakcffpaaaGreatW.PrintMore Go.Proofs.YtcmepoakcffpaaaGreat.CP Go.Proofs.YtcmepoakcffpaaaGreat.L Go.Proofs.YtcmepoakcffpaaaGreat.BP
set_option linter.unusedVariables false
set_option linter.unusedSimpArgs false
set_option maxHeartbeats 6400000 in
set_option maxRecDepth 100000 in
theorem BucketPlays_walk (a0 : S23) (A1 : Option Addr) (c1 : Nat) (l : List S44) (W : World) (t0 : (Lit.int .i64 a0.f0).wf = true ∧ (Lit.int .i64 a0.f1).wf = true ∧ (Lit.int .i64 a0.f2).wf = true ∧ a0.f3.size ≤ maxLen) (t1 : l.length ≤ maxLen ∧ ∀ a_ ∈ l, ((Lit.int .i64 a_.f0).wf = true ∧ (a_.f1.f0.size ≤ maxLen ∧ a_.f1.f1.size ≤ maxLen ∧ (Lit.int .i64 a_.f1.f2).wf = true ∧ (Lit.int .i64 a_.f1.f3).wf = true))) (y1 : l.length * 56 ≤ 140737488351232) (hr1 : Kd.C k44 W A1 l.length l) (hc1 : l.length ≤ c1) :
    Calls Tryz.prog 3 #[.agg #[.int .i64 a0.f0, .int .i64 a0.f1, .int .i64 a0.f2, .string a0.f3], .slice A1 l.length c1] W fun e w' => e = .returned (.bool true) ∧ Below W.heap.size W w' := by
  obtain ⟨f0, f1, f2, f3⟩ := a0
  dsimp only at t0 ⊢
  have e0 : Eff0 W (W.alloc (.cells #[.int .i64 f0, .int .i64 f1, .int .i64 f2, .string f3] 23)) := (Eff.refl _ _).alloc _
  by_cases h300 : f3.size > 300
  · have p1 : ((f3.size : Int) > 300) = True := eq_true (by omega)
    clear t0 t1 y1 hr1 hc1 h300
    go_enter Tryz.func3, Tryz.ntmps3
    go_wp2_with (go_at_call 4; refine (alive_calls _).mono ?_; rintro e w2 ⟨rfl, e2⟩)
    go_ret
    exact ⟨rfl, (e0.then0 e2).below0⟩
  have p1 : ((f3.size : Int) > 300) = False := eq_false (by omega)
  by_cases h60 : l.length > 60
  · have p2 : ((l.length : Int) > 60) = True := eq_true (by omega)
    clear t0 t1 y1 hr1 hc1 h60 h300
    go_enter Tryz.func3, Tryz.ntmps3
    go_wp2_with (go_at_call 4; refine (alive_calls _).mono ?_; rintro e w2 ⟨rfl, e2⟩)
    go_ret
    exact ⟨rfl, (e0.then0 e2).below0⟩
  have p2 : ((l.length : Int) > 60) = False := eq_false (by omega)
  have H := Aside0.mk (And.intro hr1 (And.intro t1.2 (show l.length ≤ 60 by omega)))
  have O1 : Own W (W.alloc (.cells #[.int .i64 f0, .int .i64 f1, .int .i64 f2, .string f3] 23)) (Stars [Bx W.heap.size ⟨f0, f1, f2, f3⟩]) := Own.cellsNew (l := []) (Own.start W) _ _
  have O1A := Aside0.mk O1
  have CC := fun w => refcells_calls w ⟨f0, f1, f2, f3⟩
  obtain ⟨C, hC⟩ : ∃ C, C = cellsP ⟨f0, f1, f2, f3⟩ := ⟨_, rfl⟩
  rw [← hC] at CC
  obtain ⟨xs0, good⟩ := C
  have HC := Aside0.mk hC
  have CC2 := Aside0.mk CC
  have hz0 : W.heap.size < (W.alloc (.cells #[.int .i64 f0, .int .i64 f1, .int .i64 f2, .string f3] 23)).heap.size := by simp
  have hcell : ∀ w2 (_ : Eff0 (W.alloc (.cells #[.int .i64 f0, .int .i64 f1, .int .i64 f2, .string f3] 23)) w2) (j : Nat), w2.cell? ⟨W.heap.size, j, none⟩ = (#[.int .i64 f0, .int .i64 f1, .int .i64 f2, .string f3] : Array Value)[j]? := fun w2 e j => (e.cell hz0 id).trans (blk_cell (heap_alloc_new W _) j)
  have HCELL := Aside0.mk hcell
  unfold Pg.val at CC
  dsimp only at CC
  have CC3 := Aside0.mk CC
  clear t0 t1 y1 hr1 hc1 h60 h300 O1 CC CC2 hC e0 hcell
  go_enter Tryz.func3, Tryz.ntmps3
  go_wp2_with (first
    | (go_at_call 4; refine (alive_calls _).mono ?_; rintro e w2 ⟨rfl, e2⟩; have d0 := HCELL.out w2 e2 0; have d1 := HCELL.out w2 e2 1; have d2 := HCELL.out w2 e2 2; have d3 := HCELL.out w2 e2 3; have E2 := Aside0.mk e2; clear e2; simp only [List.getElem?_toArray, List.getElem?_cons_zero, List.getElem?_cons_succ] at d0 d1 d2 d3)
    | (go_at_call 5; go_loud (refine (CC3.out _).mono ?_; rintro e w3 ⟨A, c, rfl, U3⟩; have O3 := Aside0.mk (st_start (O1A.out.after E2.out) U3.out))))
  clear HCELL CC3 d0 d1 d2 d3 U3 E2
  go_loopg [5, 52] l.length (fun k s5 s52 wr => ∃ (i c : Nat) (A : Option Addr) (xs : List B), s5 = .slice A xs.length c ∧ s52 = .int .i64 (i : Int) ∧ i + k = l.length ∧ Aside0 (∃ a b K P, Own W wr (Stars (ST w3.heap.size W.heap.size a b K P (.slice A xs.length c) xs [])) ∧ cellsP P = (xs, good) ∧ K.length ≤ i ∧ ∀ p ∈ K, p.xs.length < 1000))
  case atStart => exact ⟨0, c, A, xs0, rfl, rfl, by omega, Aside0.mk ⟨_, _, [], _, O3.out, HC.out.symm, Nat.le_refl _, by intro p hp; cases hp⟩⟩
  case round =>
    rename Nat => gq
    obtain ⟨i, c', A', xs, rfl, rfl, hik, S1⟩ := hrel
    clear O3 HC O1A
    obtain ⟨a, b, K, P, O, hP, hK, hx⟩ := S1.out
    by_cases hi : i < l.length
    · have p4 : ((i : Int) < (l.length : Int)) = True := eq_true (by omega)
      have p5 : (0 : Int) ≤ (i : Int) := by omega
      have hi9 : i < 60 := by have := H.out.2.2; omega
      obtain ⟨ad, rfl, x0, x1, x2, x3, x4⟩ := at_T44 (Kd.C_below H.out.1 O.below) (i : Int) (by omega) (by omega)
      rw [Int.toNat_natCast] at x0 x1 x2 x3 x4
      obtain ⟨o, ho⟩ : ∃ o, o = rd_T44 l (i : Int) := ⟨_, rfl⟩
      rw [← ho] at x0 x1 x2 x3 x4
      clear ho
      obtain ⟨kd, q0, q1, q2, q3⟩ := o
      dsimp only at x0 x1 x2 x3 x4
      obtain ⟨sm, pw⟩ : ∃ sm, IntKind.i64.wrap ((q0.size : Int) + (q1.size : Int)) = sm := ⟨_, rfl⟩
      have pw2 : wrap64 ((q0.size : Int) + (q1.size : Int)) = sm := by rw [← pw, IntKind.wrap_i64]; unfold wrap64; omega
      have T1 := Aside0.mk (And.intro hik (And.intro hi (And.intro hP (And.intro hK hx))))
      have O5 := Aside0.mk (st_cells O #[.int .i64 kd, .string q0, .string q1, .int .i64 q2, .int .i64 q3] 44)
      have SB := Aside0.mk (st_page O).1
      clear hik hi hP hK hx O S1
      by_cases hbig : sm > 600
      · have p6 : (sm > 600) = True := eq_true hbig
        clear hbig
        go_wp2_with fail
        go_ret
        exact ⟨rfl, O5.out.below⟩
      · have p6 : (sm > 600) = False := eq_false hbig
        clear hbig
        go_upto_block 2 with (fail)
        obtain ⟨w5, hw5⟩ : ∃ w5, w5 = wr.alloc (.cells #[.int .i64 kd, .string q0, .string q1, .int .i64 q2, .int .i64 q3] 44) := ⟨_, rfl⟩
        rw [← hw5]
        have O6 : Aside0 (Own W w5 (Stars (ST w3.heap.size W.heap.size a b K P (.slice A' xs.length c') xs [Ox wr.heap.size kd ⟨q0, q1, q2, q3⟩]))) := Aside0.mk (by rw [hw5]; exact O5.out)
        clear O5 hw5 x0 x1 x2 x3 x4 pw pw2 p6
        generalize wr.heap.size = g at *
        obtain ⟨⟨y0, y1, y2, y3, y4, y5⟩, z0, z1, z2, z3, z4, z5⟩ := st_facts O6.out
        dsimp only at y0 y1 y2 y3 z0 z1 z2 z3 z4
        go_cut [5] (fun s5 wx => ∃ (A2 : Option Addr) (n2 c2 : Nat) (xs2 : List B), s5 = .slice A2 n2 c2 ∧ Aside0 (n2 = xs2.length ∧ ∃ P2, Own W wx (Stars (ST w3.heap.size W.heap.size a b K P2 (.slice A2 n2 c2) xs2 [Ox g kd ⟨q0, q1, q2, q3⟩])) ∧ cellsP P2 = (xs2, good)))
        case first =>
          have hlen : xs.length < 300 := by have := len_cellsP P; rw [T1.out.2.2.1] at this; exact this
          have hri : Rise xs := by have := rise_cellsP P; rw [T1.out.2.2.1] at this; exact this
          have HRI := Aside0.mk (And.intro hri T1.out.2.2.1)
          obtain ⟨pk, pd, pn, ps⟩ := P
          obtain ⟨c, hc⟩ : ∃ c : B, c = ⟨q0, q1, q2, q3⟩ := ⟨_, rfl⟩
          have HCC := Aside0.mk hc
          clear hri
          by_cases k1 : kd = 1
          · subst k1
            have CS : ∀ w, _ := fun w => set_calls w ⟨pk, pd, pn, ps⟩ c
            have CW := Aside0.mk (fun (w : World) (hr : Kd.C kdB w A' xs.length xs) => refwith_calls w A' c' xs c hr HRI.out.1 hlen)
            have CR2 := fun w => (MR.honeycombref1_CellRight.calls c.k c.v c.bl c.sz _ w (rright (sOf c)))
            have hrr : clS (sOf c) = c.cl := rfl
            rw [hrr] at CR2
            cases good with
            | false =>
              as_aux_lemma =>
                rw [setP_bad HRI.out.2] at CS
                unfold Pg.none at CS
                generalize setB xs c = ys at *
                rw [hc] at CS CW CR2
                unfold B.val at CS CW
                unfold Pg.val at CS
                dsimp only at CS CW CR2 y0 y1 y2 y3
                clear hc hrr
                go_wp2_with (first
                  | (go_at_call 6; refine (CS _).mono ?_; rintro e w6 ⟨rfl, e6⟩; have O7 := Aside0.mk (O6.out.after e6); clear y0 y1 y2 y3 y4 y5 z0 z1 z2 z3 z4 z5; obtain ⟨⟨y0, y1, y2, y3, y4, y5⟩, z0, z1, z2, z3, z4, z5⟩ := st_facts O7.out; dsimp only at y0 y1 y2 y3 z0 z1 z2 z3 z4; have hn1 : (w6.heap.size = W.heap.size) = False := eq_false (by omega); have hn2 : (W.heap.size = w6.heap.size) = False := eq_false (by omega))
                  | (go_at_call 7; refine (CW.out _ (st_row (O7.out.alloc _)).2.2).mono ?_; rintro e w7 ⟨A2, c2, rfl, U7⟩; have O8 := Aside0.mk (st_newrow (O7.out.alloc _) U7.out); obtain ⟨F7, hF7, e7, kF7⟩ := U7.out; clear hF7 kF7; have v0 : w7.cell? ⟨w6.heap.size, 0, none⟩ = some (.int .i64 0) := held e7 (blk_cell (heap_alloc_new w6 _) 0); have v1 : w7.cell? ⟨w6.heap.size, 1, none⟩ = some (.int .i64 0) := held e7 (blk_cell (heap_alloc_new w6 _) 1); have v2 : w7.cell? ⟨w6.heap.size, 2, none⟩ = some (.int .i64 0) := held e7 (blk_cell (heap_alloc_new w6 _) 2); have v3 : w7.cell? ⟨w6.heap.size, 3, none⟩ = some (.string ⟨#[]⟩) := held e7 (blk_cell (heap_alloc_new w6 _) 3); clear y0 y1 y2 y3 y4 y5 z0 z1 z2 z3 z4 z5; obtain ⟨⟨y0, y1, y2, y3, y4, y5⟩, z0, z1, z2, z3, z4, z5⟩ := st_facts O8.out; dsimp only at y0 y1 y2 y3 z0 z1 z2 z3 z4; have hz8 := World.block_lt_of_cell? _ _ v0))
                go_meet
                case rel => exact ⟨A', xs.length, c', xs, rfl, Aside0.mk ⟨rfl, _, st_drop O8.out, HRI.out.2⟩⟩
            | true =>
              have hI := IsP.of_cells HRI.out.2
              have hyl : (setB xs c).length < 900000 := by have := len_setB_le xs c; omega
              have CF := Aside0.mk (fun (w : World) (A2 : Option Addr) (c2 : Nat) (hr : Kd.C kdB w A2 (setB xs c).length (setB xs c)) (hc : (setB xs c).length ≤ c2) => reffits_calls w A2 c2 (setB xs c) hr hc hyl)
              have CPu := Aside0.mk (fun (w : World) (A2 : Option Addr) (c2 : Nat) (hr : Kd.C kdB w A2 (setB xs c).length (setB xs c)) (hc : (setB xs c).length ≤ c2) => refput_calls w A2 c2 (setB xs c) hr hc hyl)
              clear hyl
              by_cases hrt : right c.cl = true
              · skip
                by_cases ht : tot (setB xs c) ≤ 239
                · skip
                  as_aux_lemma =>
                    have hf := fits_of (hI.good.set hrt) _ rfl
                    rw [decide_eq_true ht] at hf
                    obtain ⟨b', hs, hI2⟩ := hI.set hrt ht
                    dsimp only at hs hI2
                    rw [hs] at CS
                    rw [hrt] at CR2
                    simp only [hf] at CF
                    simp only [hI2.body] at CPu
                    have HI2 := Aside0.mk hI2
                    have qb : (b'.toList == b'.toList) = true := beq_self_eq_true _
                    clear hI hI2 hrt ht hf hs
                    generalize setB xs c = ys at *
                    rw [hc] at CS CW CR2
                    unfold B.val at CS CW
                    unfold Pg.val at CS
                    dsimp only at CS CW CR2 y0 y1 y2 y3
                    clear hc hrr
                    go_wp2_with (first
                      | (go_at_call 6; refine (CS _).mono ?_; rintro e w6 ⟨rfl, e6⟩; have O7 := Aside0.mk (O6.out.after e6); clear y0 y1 y2 y3 y4 y5 z0 z1 z2 z3 z4 z5; obtain ⟨⟨y0, y1, y2, y3, y4, y5⟩, z0, z1, z2, z3, z4, z5⟩ := st_facts O7.out; dsimp only at y0 y1 y2 y3 z0 z1 z2 z3 z4; have hn1 : (w6.heap.size = W.heap.size) = False := eq_false (by omega); have hn2 : (W.heap.size = w6.heap.size) = False := eq_false (by omega))
                      | (go_at_call 7; refine (CW.out _ (st_row (O7.out.alloc _)).2.2).mono ?_; rintro e w7 ⟨A2, c2, rfl, U7⟩; have O8 := Aside0.mk (st_newrow (O7.out.alloc _) U7.out); obtain ⟨F7, hF7, e7, kF7⟩ := U7.out; clear hF7 kF7; have v0 : w7.cell? ⟨w6.heap.size, 0, none⟩ = some (.int .i64 pk) := held e7 (blk_cell (heap_alloc_new w6 _) 0); have v1 : w7.cell? ⟨w6.heap.size, 1, none⟩ = some (.int .i64 pd) := held e7 (blk_cell (heap_alloc_new w6 _) 1); have v2 : w7.cell? ⟨w6.heap.size, 2, none⟩ = some (.int .i64 pn) := held e7 (blk_cell (heap_alloc_new w6 _) 2); have v3 : w7.cell? ⟨w6.heap.size, 3, none⟩ = some (.string b') := held e7 (blk_cell (heap_alloc_new w6 _) 3); clear y0 y1 y2 y3 y4 y5 z0 z1 z2 z3 z4 z5; obtain ⟨⟨y0, y1, y2, y3, y4, y5⟩, z0, z1, z2, z3, z4, z5⟩ := st_facts O8.out; dsimp only at y0 y1 y2 y3 z0 z1 z2 z3 z4; have hz8 := World.block_lt_of_cell? _ _ v0)
                      | (go_at_call 8; refine (CR2 _).mono ?_; rintro e w8 ⟨rfl, en⟩; have O9 := Aside0.mk (O8.out.after (Eff.of_below en)); replace v0 := held (Eff.of_below en) v0; replace v1 := held (Eff.of_below en) v1; replace v2 := held (Eff.of_below en) v2; replace v3 := held (Eff.of_below en) v3; clear y0 y1 y2 y3 y4 y5 z0 z1 z2 z3 z4 z5; obtain ⟨⟨y0, y1, y2, y3, y4, y5⟩, z0, z1, z2, z3, z4, z5⟩ := st_facts O9.out; dsimp only at y0 y1 y2 y3 z0 z1 z2 z3 z4; have hzw8 := World.block_lt_of_cell? _ _ v0; clear en)
                      | (go_at_call 9; refine (CF.out _ A2 c2 (st_n O9.out).2.2 (st_n O9.out).2.1).mono ?_; rintro e w9 ⟨rfl, en⟩; have O10 := Aside0.mk (O9.out.after en); replace v0 := held en v0; replace v1 := held en v1; replace v2 := held en v2; replace v3 := held en v3; clear y0 y1 y2 y3 y4 y5 z0 z1 z2 z3 z4 z5; obtain ⟨⟨y0, y1, y2, y3, y4, y5⟩, z0, z1, z2, z3, z4, z5⟩ := st_facts O10.out; dsimp only at y0 y1 y2 y3 z0 z1 z2 z3 z4; have hzw9 := World.block_lt_of_cell? _ _ v0; clear en)
                      | (go_at_call 10; refine (CPu.out _ A2 c2 (st_n O10.out).2.2 (st_n O10.out).2.1).mono ?_; rintro e w10 ⟨rfl, en⟩; have O11 := Aside0.mk (O10.out.after en); replace v0 := held en v0; replace v1 := held en v1; replace v2 := held en v2; replace v3 := held en v3; clear y0 y1 y2 y3 y4 y5 z0 z1 z2 z3 z4 z5; obtain ⟨⟨y0, y1, y2, y3, y4, y5⟩, z0, z1, z2, z3, z4, z5⟩ := st_facts O11.out; dsimp only at y0 y1 y2 y3 z0 z1 z2 z3 z4; have hzw10 := World.block_lt_of_cell? _ _ v0; clear en))
                    go_meet
                    case rel => exact ⟨A2, ys.length, c2, ys, rfl, Aside0.mk ⟨rfl, _, st_swap (st_body O11.out b'), HI2.out.cells⟩⟩
                · skip
                  as_aux_lemma =>
                    have hf := fits_of (hI.good.set hrt) _ rfl
                    rw [decide_eq_false ht] at hf
                    rw [hI.set_long hrt ht] at CS
                    rw [hrt] at CR2
                    simp only [hf] at CF
                    unfold Pg.none at CS
                    clear CPu hI hrt ht hf
                    generalize setB xs c = ys at *
                    rw [hc] at CS CW CR2
                    unfold B.val at CS CW
                    unfold Pg.val at CS
                    dsimp only at CS CW CR2 y0 y1 y2 y3
                    clear hc hrr
                    go_wp2_with (first
                      | (go_at_call 6; refine (CS _).mono ?_; rintro e w6 ⟨rfl, e6⟩; have O7 := Aside0.mk (O6.out.after e6); clear y0 y1 y2 y3 y4 y5 z0 z1 z2 z3 z4 z5; obtain ⟨⟨y0, y1, y2, y3, y4, y5⟩, z0, z1, z2, z3, z4, z5⟩ := st_facts O7.out; dsimp only at y0 y1 y2 y3 z0 z1 z2 z3 z4; have hn1 : (w6.heap.size = W.heap.size) = False := eq_false (by omega); have hn2 : (W.heap.size = w6.heap.size) = False := eq_false (by omega))
                      | (go_at_call 7; refine (CW.out _ (st_row (O7.out.alloc _)).2.2).mono ?_; rintro e w7 ⟨A2, c2, rfl, U7⟩; have O8 := Aside0.mk (st_newrow (O7.out.alloc _) U7.out); obtain ⟨F7, hF7, e7, kF7⟩ := U7.out; clear hF7 kF7; have v0 : w7.cell? ⟨w6.heap.size, 0, none⟩ = some (.int .i64 0) := held e7 (blk_cell (heap_alloc_new w6 _) 0); have v1 : w7.cell? ⟨w6.heap.size, 1, none⟩ = some (.int .i64 0) := held e7 (blk_cell (heap_alloc_new w6 _) 1); have v2 : w7.cell? ⟨w6.heap.size, 2, none⟩ = some (.int .i64 0) := held e7 (blk_cell (heap_alloc_new w6 _) 2); have v3 : w7.cell? ⟨w6.heap.size, 3, none⟩ = some (.string ⟨#[]⟩) := held e7 (blk_cell (heap_alloc_new w6 _) 3); clear y0 y1 y2 y3 y4 y5 z0 z1 z2 z3 z4 z5; obtain ⟨⟨y0, y1, y2, y3, y4, y5⟩, z0, z1, z2, z3, z4, z5⟩ := st_facts O8.out; dsimp only at y0 y1 y2 y3 z0 z1 z2 z3 z4; have hz8 := World.block_lt_of_cell? _ _ v0)
                      | (go_at_call 8; refine (CR2 _).mono ?_; rintro e w8 ⟨rfl, en⟩; have O9 := Aside0.mk (O8.out.after (Eff.of_below en)); replace v0 := held (Eff.of_below en) v0; replace v1 := held (Eff.of_below en) v1; replace v2 := held (Eff.of_below en) v2; replace v3 := held (Eff.of_below en) v3; clear y0 y1 y2 y3 y4 y5 z0 z1 z2 z3 z4 z5; obtain ⟨⟨y0, y1, y2, y3, y4, y5⟩, z0, z1, z2, z3, z4, z5⟩ := st_facts O9.out; dsimp only at y0 y1 y2 y3 z0 z1 z2 z3 z4; have hzw8 := World.block_lt_of_cell? _ _ v0; clear en)
                      | (go_at_call 9; refine (CF.out _ A2 c2 (st_n O9.out).2.2 (st_n O9.out).2.1).mono ?_; rintro e w9 ⟨rfl, en⟩; have O10 := Aside0.mk (O9.out.after en); replace v0 := held en v0; replace v1 := held en v1; replace v2 := held en v2; replace v3 := held en v3; clear y0 y1 y2 y3 y4 y5 z0 z1 z2 z3 z4 z5; obtain ⟨⟨y0, y1, y2, y3, y4, y5⟩, z0, z1, z2, z3, z4, z5⟩ := st_facts O10.out; dsimp only at y0 y1 y2 y3 z0 z1 z2 z3 z4; have hzw9 := World.block_lt_of_cell? _ _ v0; clear en))
                    go_meet
                    case rel => exact ⟨A', xs.length, c', xs, rfl, Aside0.mk ⟨rfl, _, st_drop O10.out, HRI.out.2⟩⟩
              · replace hrt : right c.cl = false := by simpa using hrt
                rw [hI.set_arg hrt] at CS
                rw [hrt] at CR2
                unfold Pg.none at CS
                clear CF CPu hI hrt
                generalize setB xs c = ys at *
                rw [hc] at CS CW CR2
                unfold B.val at CS CW
                unfold Pg.val at CS
                dsimp only at CS CW CR2 y0 y1 y2 y3
                clear hc hrr
                go_wp2_with (first
                  | (go_at_call 6; refine (CS _).mono ?_; rintro e w6 ⟨rfl, e6⟩; have O7 := Aside0.mk (O6.out.after e6); clear y0 y1 y2 y3 y4 y5 z0 z1 z2 z3 z4 z5; obtain ⟨⟨y0, y1, y2, y3, y4, y5⟩, z0, z1, z2, z3, z4, z5⟩ := st_facts O7.out; dsimp only at y0 y1 y2 y3 z0 z1 z2 z3 z4; have hn1 : (w6.heap.size = W.heap.size) = False := eq_false (by omega); have hn2 : (W.heap.size = w6.heap.size) = False := eq_false (by omega))
                  | (go_at_call 7; refine (CW.out _ (st_row (O7.out.alloc _)).2.2).mono ?_; rintro e w7 ⟨A2, c2, rfl, U7⟩; have O8 := Aside0.mk (st_newrow (O7.out.alloc _) U7.out); obtain ⟨F7, hF7, e7, kF7⟩ := U7.out; clear hF7 kF7; have v0 : w7.cell? ⟨w6.heap.size, 0, none⟩ = some (.int .i64 0) := held e7 (blk_cell (heap_alloc_new w6 _) 0); have v1 : w7.cell? ⟨w6.heap.size, 1, none⟩ = some (.int .i64 0) := held e7 (blk_cell (heap_alloc_new w6 _) 1); have v2 : w7.cell? ⟨w6.heap.size, 2, none⟩ = some (.int .i64 0) := held e7 (blk_cell (heap_alloc_new w6 _) 2); have v3 : w7.cell? ⟨w6.heap.size, 3, none⟩ = some (.string ⟨#[]⟩) := held e7 (blk_cell (heap_alloc_new w6 _) 3); clear y0 y1 y2 y3 y4 y5 z0 z1 z2 z3 z4 z5; obtain ⟨⟨y0, y1, y2, y3, y4, y5⟩, z0, z1, z2, z3, z4, z5⟩ := st_facts O8.out; dsimp only at y0 y1 y2 y3 z0 z1 z2 z3 z4; have hz8 := World.block_lt_of_cell? _ _ v0)
                  | (go_at_call 8; refine (CR2 _).mono ?_; rintro e w8 ⟨rfl, en⟩; have O9 := Aside0.mk (O8.out.after (Eff.of_below en)); replace v0 := held (Eff.of_below en) v0; replace v1 := held (Eff.of_below en) v1; replace v2 := held (Eff.of_below en) v2; replace v3 := held (Eff.of_below en) v3; clear y0 y1 y2 y3 y4 y5 z0 z1 z2 z3 z4 z5; obtain ⟨⟨y0, y1, y2, y3, y4, y5⟩, z0, z1, z2, z3, z4, z5⟩ := st_facts O9.out; dsimp only at y0 y1 y2 y3 z0 z1 z2 z3 z4; have hzw8 := World.block_lt_of_cell? _ _ v0; clear en))
                go_meet
                case rel => exact ⟨A', xs.length, c', xs, rfl, Aside0.mk ⟨rfl, _, st_drop O9.out, HRI.out.2⟩⟩
          by_cases k2 : kd = 2
          · skip
            subst k2
            have CS : ∀ w, _ := fun w => cut_calls w ⟨pk, pd, pn, ps⟩ q0
            have CW := Aside0.mk (fun (w : World) (hr : Kd.C kdB w A' xs.length xs) => without_calls w A' c' xs q0 hr (by omega))
            have k1b : ((2 : Int) = 1) = False := eq_false (by omega)
            cases good with
            | false =>
              as_aux_lemma =>
                rw [cutP_bad HRI.out.2] at CS
                unfold Pg.none at CS
                generalize (findB xs q0.data.toList).isSome = hb at *
                generalize cutB xs q0.data.toList = ys at *
                unfold Pg.val at CS
                dsimp only at CS CW y0 y1 y2 y3
                clear hc
                go_wp2_with (first
                  | (go_at_call 11; refine (CS _).mono ?_; rintro e w6 ⟨rfl, e6⟩; have O7 := Aside0.mk (O6.out.after e6); clear y0 y1 y2 y3 y4 y5 z0 z1 z2 z3 z4 z5; obtain ⟨⟨y0, y1, y2, y3, y4, y5⟩, z0, z1, z2, z3, z4, z5⟩ := st_facts O7.out; dsimp only at y0 y1 y2 y3 z0 z1 z2 z3 z4; have hn1 : (w6.heap.size = W.heap.size) = False := eq_false (by omega); have hn2 : (W.heap.size = w6.heap.size) = False := eq_false (by omega))
                  | (go_at_call 12; refine (CW.out _ (st_row (O7.out.alloc _)).2.2).mono ?_; rintro e w7 ⟨A2, c2, rfl, U7⟩; have O8 := Aside0.mk (st_newrow (O7.out.alloc _) U7.out); obtain ⟨F7, hF7, e7, kF7⟩ := U7.out; clear hF7 kF7; have v0 : w7.cell? ⟨w6.heap.size, 0, none⟩ = some (.int .i64 0) := held e7 (blk_cell (heap_alloc_new w6 _) 0); have v1 : w7.cell? ⟨w6.heap.size, 1, none⟩ = some (.int .i64 0) := held e7 (blk_cell (heap_alloc_new w6 _) 1); have v2 : w7.cell? ⟨w6.heap.size, 2, none⟩ = some (.int .i64 0) := held e7 (blk_cell (heap_alloc_new w6 _) 2); have v3 : w7.cell? ⟨w6.heap.size, 3, none⟩ = some (.string ⟨#[]⟩) := held e7 (blk_cell (heap_alloc_new w6 _) 3); clear y0 y1 y2 y3 y4 y5 z0 z1 z2 z3 z4 z5; obtain ⟨⟨y0, y1, y2, y3, y4, y5⟩, z0, z1, z2, z3, z4, z5⟩ := st_facts O8.out; dsimp only at y0 y1 y2 y3 z0 z1 z2 z3 z4; have hz8 := World.block_lt_of_cell? _ _ v0))
                go_meet
                case rel => exact ⟨A', xs.length, c', xs, rfl, Aside0.mk ⟨rfl, _, st_drop O8.out, HRI.out.2⟩⟩
            | true =>
              have hI := IsP.of_cells HRI.out.2
              cases hfb : findB xs q0.data.toList with
              | none =>
                as_aux_lemma =>
                  rw [hI.cut_none hfb] at CS
                  simp only [hfb, Option.isSome] at CW
                  unfold Pg.none at CS
                  clear hI hfb
                  generalize cutB xs q0.data.toList = ys at *
                  unfold Pg.val at CS
                  dsimp only at CS CW y0 y1 y2 y3
                  clear hc
                  go_wp2_with (first
                    | (go_at_call 11; refine (CS _).mono ?_; rintro e w6 ⟨rfl, e6⟩; have O7 := Aside0.mk (O6.out.after e6); clear y0 y1 y2 y3 y4 y5 z0 z1 z2 z3 z4 z5; obtain ⟨⟨y0, y1, y2, y3, y4, y5⟩, z0, z1, z2, z3, z4, z5⟩ := st_facts O7.out; dsimp only at y0 y1 y2 y3 z0 z1 z2 z3 z4; have hn1 : (w6.heap.size = W.heap.size) = False := eq_false (by omega); have hn2 : (W.heap.size = w6.heap.size) = False := eq_false (by omega))
                    | (go_at_call 12; refine (CW.out _ (st_row (O7.out.alloc _)).2.2).mono ?_; rintro e w7 ⟨A2, c2, rfl, U7⟩; have O8 := Aside0.mk (st_newrow (O7.out.alloc _) U7.out); obtain ⟨F7, hF7, e7, kF7⟩ := U7.out; clear hF7 kF7; have v0 : w7.cell? ⟨w6.heap.size, 0, none⟩ = some (.int .i64 0) := held e7 (blk_cell (heap_alloc_new w6 _) 0); have v1 : w7.cell? ⟨w6.heap.size, 1, none⟩ = some (.int .i64 0) := held e7 (blk_cell (heap_alloc_new w6 _) 1); have v2 : w7.cell? ⟨w6.heap.size, 2, none⟩ = some (.int .i64 0) := held e7 (blk_cell (heap_alloc_new w6 _) 2); have v3 : w7.cell? ⟨w6.heap.size, 3, none⟩ = some (.string ⟨#[]⟩) := held e7 (blk_cell (heap_alloc_new w6 _) 3); clear y0 y1 y2 y3 y4 y5 z0 z1 z2 z3 z4 z5; obtain ⟨⟨y0, y1, y2, y3, y4, y5⟩, z0, z1, z2, z3, z4, z5⟩ := st_facts O8.out; dsimp only at y0 y1 y2 y3 z0 z1 z2 z3 z4; have hz8 := World.block_lt_of_cell? _ _ v0))
                  go_meet
                  case rel => exact ⟨A', xs.length, c', xs, rfl, Aside0.mk ⟨rfl, _, st_drop O8.out, HRI.out.2⟩⟩
              | some d =>
                as_aux_lemma =>
                  obtain ⟨b', hs, hI2⟩ := hI.cut hfb
                  dsimp only at hs hI2
                  rw [hs] at CS
                  simp only [hfb, Option.isSome] at CW
                  have hyl : (cutB xs q0.data.toList).length < 900000 := by have := len_cutB_le xs q0.data.toList; omega
                  have CPu := Aside0.mk (fun (w : World) (A2 : Option Addr) (c2 : Nat) (hr : Kd.C kdB w A2 (cutB xs q0.data.toList).length (cutB xs q0.data.toList)) (hc : (cutB xs q0.data.toList).length ≤ c2) => refput_calls w A2 c2 (cutB xs q0.data.toList) hr hc hyl)
                  simp only [hI2.body] at CPu
                  have HI2 := Aside0.mk hI2
                  have qb : (b'.toList == b'.toList) = true := beq_self_eq_true _
                  clear hI hI2 hfb hs hyl
                  generalize cutB xs q0.data.toList = ys at *
                  unfold Pg.val at CS
                  dsimp only at CS CW y0 y1 y2 y3
                  clear hc
                  go_wp2_with (first
                    | (go_at_call 11; refine (CS _).mono ?_; rintro e w6 ⟨rfl, e6⟩; have O7 := Aside0.mk (O6.out.after e6); clear y0 y1 y2 y3 y4 y5 z0 z1 z2 z3 z4 z5; obtain ⟨⟨y0, y1, y2, y3, y4, y5⟩, z0, z1, z2, z3, z4, z5⟩ := st_facts O7.out; dsimp only at y0 y1 y2 y3 z0 z1 z2 z3 z4; have hn1 : (w6.heap.size = W.heap.size) = False := eq_false (by omega); have hn2 : (W.heap.size = w6.heap.size) = False := eq_false (by omega))
                    | (go_at_call 12; refine (CW.out _ (st_row (O7.out.alloc _)).2.2).mono ?_; rintro e w7 ⟨A2, c2, rfl, U7⟩; have O8 := Aside0.mk (st_newrow (O7.out.alloc _) U7.out); obtain ⟨F7, hF7, e7, kF7⟩ := U7.out; clear hF7 kF7; have v0 : w7.cell? ⟨w6.heap.size, 0, none⟩ = some (.int .i64 pk) := held e7 (blk_cell (heap_alloc_new w6 _) 0); have v1 : w7.cell? ⟨w6.heap.size, 1, none⟩ = some (.int .i64 pd) := held e7 (blk_cell (heap_alloc_new w6 _) 1); have v2 : w7.cell? ⟨w6.heap.size, 2, none⟩ = some (.int .i64 pn) := held e7 (blk_cell (heap_alloc_new w6 _) 2); have v3 : w7.cell? ⟨w6.heap.size, 3, none⟩ = some (.string b') := held e7 (blk_cell (heap_alloc_new w6 _) 3); clear y0 y1 y2 y3 y4 y5 z0 z1 z2 z3 z4 z5; obtain ⟨⟨y0, y1, y2, y3, y4, y5⟩, z0, z1, z2, z3, z4, z5⟩ := st_facts O8.out; dsimp only at y0 y1 y2 y3 z0 z1 z2 z3 z4; have hz8 := World.block_lt_of_cell? _ _ v0)
                    | (go_at_call 10; refine (CPu.out _ A2 c2 (st_n O8.out).2.2 (st_n O8.out).2.1).mono ?_; rintro e w8 ⟨rfl, en⟩; have O9 := Aside0.mk (O8.out.after en); replace v0 := held en v0; replace v1 := held en v1; replace v2 := held en v2; replace v3 := held en v3; clear y0 y1 y2 y3 y4 y5 z0 z1 z2 z3 z4 z5; obtain ⟨⟨y0, y1, y2, y3, y4, y5⟩, z0, z1, z2, z3, z4, z5⟩ := st_facts O9.out; dsimp only at y0 y1 y2 y3 z0 z1 z2 z3 z4; have hzw8 := World.block_lt_of_cell? _ _ v0; clear en))
                  go_meet
                  case rel => exact ⟨A2, ys.length, c2, ys, rfl, Aside0.mk ⟨rfl, _, st_swap (st_body O9.out b'), HI2.out.cells⟩⟩
          by_cases k3 : kd = 3
          · skip
            as_aux_lemma =>
              subst k3
              have CS : ∀ w, _ := fun w => find_calls w ⟨pk, pd, pn, ps⟩ q0
              rw [HRI.out.2] at CS
              dsimp only at CS
              obtain ⟨fd, hfd⟩ : ∃ fd, fd = findD xs q0.data.toList := ⟨_, rfl⟩
              obtain ⟨fb, hfb⟩ : ∃ fb, fb = (findB xs q0.data.toList).isSome := ⟨_, rfl⟩
              rw [← hfd, ← hfb] at CS
              obtain ⟨fk, fv, fbl, fsz⟩ := fd
              have HF := Aside0.mk (And.intro hfd hfb)
              unfold Pg.val B.val at CS
              dsimp only at CS y0 y1 y2 y3
              have qk : (fk.toList == fk.toList) = true := beq_self_eq_true _
              have qv : (fv.toList == fv.toList) = true := beq_self_eq_true _
              clear hfd hfb hc
              go_wp2_with (go_at_call 13; refine (CS _).mono ?_; rintro e w6 ⟨rfl, e6⟩; have O7 := Aside0.mk (O6.out.after e6); clear y0 y1 y2 y3 y4 y5 z0 z1 z2 z3 z4 z5; obtain ⟨⟨y0, y1, y2, y3, y4, y5⟩, z0, z1, z2, z3, z4, z5⟩ := st_facts O7.out; dsimp only at y0 y1 y2 y3 z0 z1 z2 z3 z4; clear e6)
              have O8 : Aside0 (Own W ((w6.alloc (.cells #[.string fk, .string fv, .int .i64 fbl, .int .i64 fsz] 42)).alloc (.cells #[.string ByteArray.empty, .string ByteArray.empty, .int .i64 0, .int .i64 0] 42)) (Stars (ST w3.heap.size W.heap.size a b K ⟨pk, pd, pn, ps⟩ (.slice A' xs.length c') xs [Ox g 3 ⟨q0, q1, q2, q3⟩, Cx w6.heap.size ⟨fk, fv, fbl, fsz⟩, Cx (w6.alloc (.cells #[.string fk, .string fv, .int .i64 fbl, .int .i64 fsz] 42)).heap.size zB]))) := Aside0.mk (st_cells (st_cells O7.out _ _) _ _)
              have hsz : (w6.alloc (.cells #[.string fk, .string fv, .int .i64 fbl, .int .i64 fsz] 42)).heap.size = w6.heap.size + 1 := by simp
              have HSZ := Aside0.mk hsz
              clear hsz y0 y1 y2 y3 y4 y5 z0 z1 z2 z3 z4 z5
              go_loopg [22, 178] xs.length (fun k s22 s178 wr => ∃ (i2 : Nat) (x : B), s22 = .bool (findB (xs.take i2) q0.data.toList).isSome ∧ s178 = .int .i64 (i2 : Int) ∧ i2 + k = xs.length ∧ Aside0 (Own W wr (Stars (ST w3.heap.size W.heap.size a b K ⟨pk, pd, pn, ps⟩ (.slice A' xs.length c') xs [Ox g 3 ⟨q0, q1, q2, q3⟩, Cx w6.heap.size ⟨fk, fv, fbl, fsz⟩, Cx (w6.heap.size + 1) x])) ∧ x = findD (xs.take i2) q0.data.toList))
              case atStart => exact ⟨0, zB, rfl, rfl, by omega, Aside0.mk ⟨by have := O8.out; rw [HSZ.out] at this; exact this, rfl⟩⟩
              case round =>
                obtain ⟨i2, x, rfl, rfl, hik2, O9⟩ := hrel
                obtain ⟨oo, hx9⟩ := O9.out
                clear O8 O7
                have hg : (∀ j, wr.cell? ⟨g, j, none⟩ = (#[.int .i64 3, .string q0, .string q1, .int .i64 q2, .int .i64 q3] : Array Value)[j]?) ∧ _ := oo.cellsAt 7 rfl
                have z1 : wr.cell? ⟨g, 1, none⟩ = some (.string q0) := hg.1 1
                have z5 := World.block_lt_of_cell? wr _ z1
                have h8 : (∀ j, wr.cell? ⟨w6.heap.size, j, none⟩ = (#[.string fk, .string fv, .int .i64 fbl, .int .i64 fsz] : Array Value)[j]?) ∧ _ := oo.cellsAt 8 rfl
                have h9 : (∀ j, wr.cell? ⟨w6.heap.size + 1, j, none⟩ = (#[.string x.k, .string x.v, .int .i64 x.bl, .int .i64 x.sz] : Array Value)[j]?) ∧ (∀ j, wr.frozen? ⟨w6.heap.size + 1, j, none⟩ = false) := oo.cellsAt 9 rfl
                by_cases hi2 : i2 < xs.length
                · have p8 : ((i2 : Int) < (xs.length : Int)) = True := eq_true (by omega)
                  have p9 : (0 : Int) ≤ (i2 : Int) := by omega
                  have hi29 : i2 < 300 := by omega
                  obtain ⟨ad2, rfl, v0, v1, v2, v3⟩ := at_B (st_row oo).2.2 i2 hi2
                  have hq : xs.getD i2 default = xs[i2] := by simp [List.getD_eq_getElem?_getD, hi2]
                  have hst := findB_step HRI.out.1 q0.data.toList i2 hi2
                  rw [← hq] at hst
                  generalize xs.getD i2 default = y at *
                  have t0 : wr.cell? ⟨w6.heap.size + 1, 0, none⟩ = some (.string x.k) := h9.1 0
                  have t1 : wr.cell? ⟨w6.heap.size + 1, 1, none⟩ = some (.string x.v) := h9.1 1
                  have t2 : wr.cell? ⟨w6.heap.size + 1, 2, none⟩ = some (.int .i64 x.bl) := h9.1 2
                  have t3 : wr.cell? ⟨w6.heap.size + 1, 3, none⟩ = some (.int .i64 x.sz) := h9.1 3
                  have f0' := h9.2 0
                  have f1' := h9.2 1
                  have f2' := h9.2 2
                  have f3' := h9.2 3
                  have t5 := World.block_lt_of_cell? wr _ t0
                  dsimp only at t5
                  have hn1 : (wr.heap.size = w6.heap.size + 1) = False := eq_false (by omega)
                  have hn2 : (w6.heap.size + 1 = wr.heap.size) = False := eq_false (by omega)
                  have hke : y.k.toList = q0.toList ↔ y.kk = q0.data.toList := by rw [Lib.toList_data, Lib.toList_data]
                  have O10 := Aside0.mk (oo.alloc (.cells #[.string y.k, .string y.v, .int .i64 y.bl, .int .i64 y.sz] 42))
                  have OO := Aside0.mk oo
                  have T2 := Aside0.mk (And.intro hik2 (And.intro hi2 (And.intro hx9 hst)))
                  clear hq hst hg h8 h9 hik2 hi2 oo hx9
                  by_cases he : y.kk = q0.data.toList
                  · have hs : (y.k.toList = q0.toList) = True := eq_true (hke.2 he)
                    have hsb : (y.k.toList == q0.toList) = true := by simpa using hke.2 he
                    have hkk : y.k = q0 := eq_of_data he
                    have HE := Aside0.mk (And.intro he hkk)
                    have hsk : (y.k = q0) = True := eq_true hkk
                    clear hke he hkk
                    go_wp2_with fail
                    go_roundg (gk - 1)
                    case measure => have := T2.out; omega
                    case rel =>
                      have h9 := T2.out.2.2.2
                      rw [if_pos HE.out.1] at h9
                      have o1 := OO.out.setCellAt 9 rfl 0 (.string y.k)
                      have o2 := o1.setCellAt 9 rfl 1 (.string y.v)
                      have o3 := o2.setCellAt 9 rfl 2 (.int .i64 y.bl)
                      have o4 := o3.setCellAt 9 rfl 3 (.int .i64 y.sz)
                      have o5 := o4.alloc (.cells #[.string y.k, .string y.v, .int .i64 y.bl, .int .i64 y.sz] 42)
                      exact ⟨i2 + 1, y, by rw [h9]; rfl, by simp, by have := T2.out; omega, Aside0.mk ⟨o5, by unfold findD; rw [h9]; rfl⟩⟩
                  · have hs : (y.k.toList = q0.toList) = False := eq_false (fun h => he (hke.1 h))
                    have hsb : (y.k.toList == q0.toList) = false := by
                      have : ¬ y.k.toList = q0.toList := fun h => he (hke.1 h)
                      simpa using this
                    have hsk : (y.k = q0) = False := eq_false (fun h => he (congrArg (fun b : ByteArray => b.data.toList) h))
                    have HE := Aside0.mk he
                    clear hke he
                    go_wp2_with fail
                    go_roundg (gk - 1)
                    case measure => have := T2.out; omega
                    case rel =>
                      have h9 := T2.out.2.2.2
                      rw [if_neg HE.out] at h9
                      exact ⟨i2 + 1, x, by rw [h9], by simp, by have := T2.out; omega, Aside0.mk ⟨O10.out, by rw [T2.out.2.2.1]; unfold findD; rw [h9]⟩⟩
                · have p8 : ((i2 : Int) < (xs.length : Int)) = False := eq_false (by omega)
                  obtain rfl : i2 = xs.length := by omega
                  rw [List.take_length, ← HF.out.1] at hx9
                  subst hx9
                  have hbb : (findB (xs.take xs.length) q0.data.toList).isSome = fb := by rw [List.take_length]; exact HF.out.2.symm
                  rw [hbb]
                  have a0 : wr.cell? ⟨w6.heap.size, 0, none⟩ = some (.string fk) := h8.1 0
                  have a1 : wr.cell? ⟨w6.heap.size, 1, none⟩ = some (.string fv) := h8.1 1
                  have a2 : wr.cell? ⟨w6.heap.size, 2, none⟩ = some (.int .i64 fbl) := h8.1 2
                  have a3 : wr.cell? ⟨w6.heap.size, 3, none⟩ = some (.int .i64 fsz) := h8.1 3
                  have t0 : wr.cell? ⟨w6.heap.size + 1, 0, none⟩ = some (.string fk) := h9.1 0
                  have t1 : wr.cell? ⟨w6.heap.size + 1, 1, none⟩ = some (.string fv) := h9.1 1
                  have t2 : wr.cell? ⟨w6.heap.size + 1, 2, none⟩ = some (.int .i64 fbl) := h9.1 2
                  have t3 : wr.cell? ⟨w6.heap.size + 1, 3, none⟩ = some (.int .i64 fsz) := h9.1 3
                  have O11 := Aside0.mk (st_drop2 oo)
                  clear hg h8 h9 hik2 hi2 hbb oo
                  go_wp2_with fail
                  go_meet
                  case rel => exact ⟨A', xs.length, c', xs, rfl, Aside0.mk ⟨rfl, _, O11.out, HRI.out.2⟩⟩
          as_aux_lemma =>
            have g1 : (kd = 1) = False := eq_false k1
            have g2 : (kd = 2) = False := eq_false k2
            have g3 : (kd = 3) = False := eq_false k3
            have g1b : (kd == 1) = false := by simpa using k1
            have g2b : (kd == 2) = false := by simpa using k2
            have g3b : (kd == 3) = false := by simpa using k3
            go_wp2_with fail
            go_meet
            case rel => exact ⟨A', xs.length, c', xs, rfl, Aside0.mk ⟨rfl, _, O6.out, HRI.out.2⟩⟩
        case rest =>
          obtain ⟨A2, n2, c2, xs2, rfl, HA⟩ := hcut
          obtain ⟨hn2, P2, hO, hP2⟩ := HA.out
          subst hn2
          obtain ⟨w7, rfl⟩ : ∃ w7 : World, w7 = wc := ⟨_, rfl⟩
          clear y0 y1 y2 y3 y4 y5 z0 z1 z2 z3 z4 z5
          obtain ⟨⟨y0, y1, y2, y3, y4, y5⟩, z0, z1, z2, z3, z4, z5⟩ := st_facts hO
          have hlen : xs2.length < 300 := by have := len_cellsP P2; rw [hP2] at this; exact this
          have CB := st_bcells hO hP2
          have hKl : K.length < 250 := by have := T1.out.2.2.2.1; omega
          have O7 := Aside0.mk hO
          have HP2 := Aside0.mk hP2
          obtain ⟨pk, pd, pn, ps⟩ := P2
          unfold Pg.val at CB
          dsimp only at CB y0 y1 y2 y3
          clear hO hP2 z0 z1 z2 z3 z4 z5 O6
          obtain ⟨bs, hbs⟩ : ∃ bs : Int, bs = if good then 239 else 0 := ⟨_, rfl⟩
          have HBS := Aside0.mk hbs
          have hgr : ∀ x ∈ xs2, right x.cl = true := by
            intro x hx
            cases good with
            | false => rw [cellsP_bad HP2.out] at hx; cases hx
            | true => exact (IsP.of_cells HP2.out).good.right x hx
          have hto : (tot xs2 : Int) ≤ bs := by
            cases good with
            | false => rw [cellsP_bad HP2.out, hbs, tot_nil]; decide
            | true => have := (IsP.of_cells HP2.out).le; rw [hbs]; simp; omega
          have hbs9 : bs ≤ 239 := by rw [hbs]; split <;> omega
          have hrm : roomP ⟨pk, pd, pn, ps⟩ = bs - (tot xs2 : Int) := by
            cases good with
            | false => rw [roomP_bad HP2.out, cellsP_bad HP2.out, hbs, tot_nil]; rfl
            | true => rw [(IsP.of_cells HP2.out).room, hbs]; rfl
          have HRM := Aside0.mk (And.intro hrm (And.intro hto (And.intro hgr hbs9)))
          clear hrm hto hgr hbs9
          have GB := Aside0.mk hbs
          cases good with
          | false =>
            have hb0 : bs = 0 := by rw [hbs]; rfl
            clear hbs
            as_aux_lemma =>
              have hr0 := roomP_bad HP2.out
              have CRo := fun w => room_calls w ⟨pk, pd, pn, ps⟩
              rw [hr0] at CRo
              unfold Pg.val at CRo
              dsimp only at CRo
              clear hr0
              go_wp2_with (first
                | (go_at_call 14; refine CB.mono ?_; rintro e w8 ⟨A3, c3, rfl, O8⟩; clear CB)
                | (go_at_call 15; refine (st_cellsin rfl O8.out hKl (by omega)).mono ?_; rintro e w9 ⟨rfl, a', b', B3, d3, O9⟩; clear O8)
                | (go_at_call 17; refine (st_same O9.out (by omega) rfl).mono ?_; rintro e w13 ⟨rfl, dn⟩; have O13 := Aside0.mk (O9.out.drawn dn); clear y0 y1 y2 y3 y4 y5; obtain ⟨⟨y0, y1, y2, y3, y4, y5⟩, z0, z1, z2, z3, z4, z5⟩ := st_facts O13.out; dsimp only at y0 y1 y2 y3; clear dn z0 z1 z2 z3 z4 z5)
                | (go_at_call 18; refine (CRo _).mono ?_; rintro e w14 ⟨rfl, e14⟩; have O14 := Aside0.mk (O13.out.after e14); clear e14))
              go_roundg (gq - 1)
              case measure => have := T1.out; omega
              case rel => exact ⟨i + 1, c2, A2, xs2, rfl, by simp, by have := T1.out; omega, Aside0.mk ⟨_, _, _, _, st_none O14.out, HP2.out, by have := T1.out; rw [List.length_append, List.length_singleton]; omega, by
                intro p hp
                rcases List.mem_append.1 hp with h | h
                · exact T1.out.2.2.2.2 p h
                · rw [List.mem_singleton] at h
                  subst h
                  show (xs2.map tupB).length < 1000
                  rw [List.length_map]
                  omega⟩⟩
          | true =>
            have hb0 : bs = 239 := by rw [hbs]; rfl
            clear hbs
            as_aux_lemma =>
              go_wp2_with (first
                | (go_at_call 14; refine CB.mono ?_; rintro e w8 ⟨A3, c3, rfl, O8⟩; clear CB)
                | (go_at_call 15; refine (st_cellsin rfl O8.out hKl (by omega)).mono ?_; rintro e w9 ⟨rfl, a', b', B3, d3, O9⟩; clear O8))
              clear y0 y1 y2 y3 y4 y5
              go_loopg [26, 206] xs2.length (fun k s26 s206 wr => ∃ i2 : Nat, s26 = .int .i64 (239 - (tot (xs2.take i2) : Int)) ∧ s206 = .int .i64 (i2 : Int) ∧ i2 + k = xs2.length ∧ Aside0 (Own W wr (Stars (ST w3.heap.size W.heap.size a' b' (K ++ [⟨A3, c3, B3, d3, xs2.map tupB⟩]) ⟨pk, pd, pn, ps⟩ (.slice A2 xs2.length c2) xs2 [Ox g kd ⟨q0, q1, q2, q3⟩]))))
              case atStart => exact ⟨0, by rw [List.take_zero, tot_nil]; rfl, rfl, by omega, O9⟩
              case round =>
                obtain ⟨i2, rfl, rfl, hik2, O10⟩ := hrel
                clear O9
                by_cases hi2 : i2 < xs2.length
                · have p8 : ((i2 : Int) < (xs2.length : Int)) = True := eq_true (by omega)
                  have p9 : (0 : Int) ≤ (i2 : Int) := by omega
                  obtain ⟨ad2, rfl, v0, v1, v2, v3⟩ := at_B (st_row O10.out).2.2 i2 hi2
                  have hq : xs2.getD i2 default = xs2[i2] := by simp [List.getD_eq_getElem?_getD, hi2]
                  have hst := tot_step xs2 i2 hi2
                  have hle := tot_take_le xs2 (i2 + 1)
                  have hto := HRM.out.2.1
                  have hrx := HRM.out.2.2.1 _ (List.getElem_mem hi2)
                  rw [← hq] at hst hrx
                  generalize xs2.getD i2 default = x at *
                  have CSz := fun w => MR.honeycombref1_CellSize.calls x.k x.v x.bl x.sz _ w (rsize (sOf x) hrx)
                  have hrr : clS (sOf x) = x.cl := rfl
                  rw [hrr] at CSz
                  have pw : IntKind.i64.wrap ((239 - (tot (xs2.take i2) : Int)) - (csize x.cl : Int)) = 239 - (tot (xs2.take (i2 + 1)) : Int) := by rw [IntKind.wrap_i64, hst]; rw [hb0] at hto; omega
                  have pw2 : wrap64 ((239 - (tot (xs2.take i2) : Int)) - (csize x.cl : Int)) = 239 - (tot (xs2.take (i2 + 1)) : Int) := by rw [← pw, IntKind.wrap_i64]; unfold wrap64; omega
                  have T2 := Aside0.mk (And.intro hik2 hi2)
                  have O11 := Aside0.mk (O10.out.alloc (.cells #[.string x.k, .string x.v, .int .i64 x.bl, .int .i64 x.sz] 42))
                  clear hq hst hle hto hrx hrr hik2 hi2 O10
                  obtain ⟨t9, ht9⟩ : ∃ t9, t9 = tot (xs2.take (i2 + 1)) := ⟨_, rfl⟩
                  rw [← ht9] at pw pw2
                  have HT9 := Aside0.mk ht9
                  have hi29 : i2 < 300 := by have := T2.out.2; omega
                  clear ht9
                  generalize tot (xs2.take i2) = t8 at *
                  generalize csize x.cl = z8 at *
                  go_wp2_with (go_at_call 16; refine (CSz _).mono ?_; rintro e w12 ⟨rfl, e12⟩; have O12 := Aside0.mk (O11.out.after (Eff.of_below e12)); clear e12)
                  go_roundg (gk - 1)
                  case measure => have := T2.out; omega
                  case rel => exact ⟨i2 + 1, by rw [HT9.out], by simp, by have := T2.out; omega, O12⟩
                · have p8 : ((i2 : Int) < (xs2.length : Int)) = False := eq_false (by omega)
                  obtain rfl : i2 = xs2.length := by omega
                  have CSa := Aside0.mk (fun w (O : Own W w (Stars (ST w3.heap.size W.heap.size a' b' (K ++ [⟨A3, c3, B3, d3, xs2.map tupB⟩]) ⟨pk, pd, pn, ps⟩ (.slice A2 xs2.length c2) xs2 [Ox g kd ⟨q0, q1, q2, q3⟩]))) => st_same O (by omega) (n := xs2.length) rfl)
                  have CRo := fun w => room_calls w ⟨pk, pd, pn, ps⟩
                  have hrm := HRM.out.1
                  rw [hb0] at hrm
                  rw [hrm] at CRo
                  unfold Pg.val at CRo
                  dsimp only at CRo
                  rw [List.take_length]
                  generalize tot xs2 = t9 at *
                  clear hik2 hi2 hrm
                  go_wp2_with (first
                    | (go_at_call 17; refine (CSa.out _ O10.out).mono ?_; rintro e w13 ⟨rfl, dn⟩; have O13 := Aside0.mk (O10.out.drawn dn); obtain ⟨⟨y0, y1, y2, y3, y4, y5⟩, z0, z1, z2, z3, z4, z5⟩ := st_facts O13.out; dsimp only at y0 y1 y2 y3; clear dn z0 z1 z2 z3 z4 z5)
                    | (go_at_call 18; refine (CRo _).mono ?_; rintro e w14 ⟨rfl, e14⟩; have O14 := Aside0.mk (O13.out.after e14); clear e14))
                  go_roundg (gq - 1)
                  case measure => have := T1.out; omega
                  case rel => exact ⟨i + 1, c2, A2, xs2, rfl, by simp, by have := T1.out; omega, Aside0.mk ⟨_, _, _, _, st_none O14.out, HP2.out, by have := T1.out; rw [List.length_append, List.length_singleton]; omega, by
                    intro p hp
                    rcases List.mem_append.1 hp with h | h
                    · exact T1.out.2.2.2.2 p h
                    · rw [List.mem_singleton] at h
                      subst h
                      show (xs2.map tupB).length < 1000
                      rw [List.length_map]
                      omega⟩⟩
    · skip
      have p4 : ((i : Int) < (l.length : Int)) = False := eq_false (by omega)
      have CA := st_apart O (by have := H.out.2.2; omega) hx
      clear hik hi hP hK hx O S1
      go_wp2_with (go_at_call 19; refine CA.mono ?_; rintro e w9 ⟨rfl, bl⟩)
      go_ret
      exact ⟨rfl, bl⟩
end Go.Proofs.YtcmepoakcffpaaaGreat.Pure
