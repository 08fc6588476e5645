/- The law CellTells of the given program: every cell, whether it may be, how large it is; every cells as a body; every body; what is handed in stays; lists kept, marked, grown. Its walk. Conditions: none beyond the row's own. -/
import Derived.Test.YtlbdodopodgokaaGreatCTellsPre
import Derived.Test.YtlbdodopodgokaaGreatCAliveZ
import Derived.Deep.RegionHeld3
import Derived.Deep.CutBlock
import Derived.BigQuiet
import Derived.Test.YtlbdodopodgokaaGreatProg
import Derived.BigRegion
import Derived.Deep.QuietTactic
import Derived.Deep.AppendLies
import Derived.ChangeAlike
import Derived.Outline
import Derived.WalkKit
import Derived.KernelRfl
import Derived.Deep.LoopGhost
import Derived.Deep.RegionLaw
import Derived.Test.YtlbdodopodgokaaGreatWMore
import Derived.Test.YtlbdodopodgokaaGreatWKept
import Derived.Test.YtlbdodopodgokaaGreatLSep
namespace Go.Proofs.YtlbdodopodgokaaGreat.Pure
open Go Go.RowKit Go.Proofs.YtlbdodopodgokaaGreatW.PrintWords Go.Proofs.YtlbdodopodgokaaGreatW.PrintLast Go.Proofs.YtlbdodopodgokaaGreatW.PrintMore Go.Proofs.YtlbdodopodgokaaGreat.CP Go.Proofs.YtlbdodopodgokaaGreat.L Go.Proofs.YtlbdodopodgokaaGreat.CT
set_option linter.unusedVariables false
set_option linter.unusedSimpArgs false
set_option maxHeartbeats 6400000 in
set_option maxRecDepth 100000 in
theorem CellTells_walk (A0 : Option Addr) (c0 : Nat) (l : List S25) (a1 : ByteArray) (W : World) (t0 : l.length ≤ maxLen ∧ ∀ a_ ∈ l, (a_.f0.size ≤ maxLen ∧ a_.f1.size ≤ maxLen ∧ (Lit.int .i64 a_.f2).wf = true ∧ (Lit.int .i64 a_.f3).wf = true)) (y0 : l.length * 48 ≤ 140737488351232) (w1 : a1.size ≤ 140737488351232) (hr0 : Kd.C k25 W A0 l.length l) (hc0 : l.length ≤ c0) :
    Calls Tryz.prog 3 #[.slice A0 l.length c0, .string a1] W fun e w' => e = .returned (.bool true) ∧ Below W.heap.size W w' := by
  by_cases h60 : l.length > 60
  · have p1 : ((l.length : Int) > 60) = True := eq_true (by omega)
    clear t0 y0 hr0 hc0 h60 w1
    go_enter Tryz.func3, Tryz.ntmps3
    go_wp2_with (go_at_call 4; refine (alive_calls _).mono ?_; rintro e w2 ⟨rfl, e2⟩)
    go_ret
    exact ⟨rfl, e2.below0⟩
  have p1 : ((l.length : Int) > 60) = False := eq_false (by omega)
  by_cases h300 : a1.size > 300
  · have p2 : ((a1.size : Int) > 300) = True := eq_true (by omega)
    clear t0 y0 hr0 hc0 h60 h300 w1
    go_enter Tryz.func3, Tryz.ntmps3
    go_wp2_with (go_at_call 4; refine (alive_calls _).mono ?_; rintro e w2 ⟨rfl, e2⟩)
    go_ret
    exact ⟨rfl, e2.below0⟩
  have p2 : ((a1.size : Int) > 300) = False := eq_false (by omega)
  obtain ⟨lB, hlB⟩ : ∃ lB, lB = l.map bS := ⟨_, rfl⟩
  have hll : lB.length = l.length := by rw [hlB, List.length_map]
  have hC := kB_of hr0
  rw [← hlB] at hC
  have hsz : ∀ q ∈ lB, q.k.size ≤ maxLen ∧ q.v.size ≤ maxLen := by
    intro q hq
    rw [hlB] at hq
    obtain ⟨x, hx, rfl⟩ := List.mem_map.1 hq
    exact ⟨(t0.2 x hx).1, (t0.2 x hx).2.1⟩
  have H := Aside0.mk (And.intro hC (And.intro hll (And.intro hsz (And.intro hc0 (show l.length ≤ 60 by omega)))))
  clear t0 y0 w1 hr0 hc0 h60 h300 hlB hll hC hsz
  go_enter Tryz.func3, Tryz.ntmps3
  go_wp2_with (go_at_call 4; refine (alive_calls _).mono ?_; rintro e w2 ⟨rfl, e2⟩)
  have E2 := Aside0.mk e2
  clear e2
  go_loopg [34] l.length (fun k s34 wr => ∃ i : Nat, s34 = .int .i64 (i : Int) ∧ i + k = l.length ∧ Aside0 (Eff0 W wr))
  case atStart => exact ⟨0, rfl, by omega, E2⟩
  case round =>
    obtain ⟨i, rfl, hik, E3⟩ := hrel
    by_cases hi : i < l.length
    · have p4 : ((i : Int) < (l.length : Int)) = True := eq_true (by omega)
      have p5 : (0 : Int) ≤ (i : Int) := by omega
      have hi9 : i < 60 := by have := H.out.2.2.2.2; omega
      obtain ⟨ad, rfl, x0, x1, x2, x3⟩ := at_B (Kd.C_below H.out.1 E3.out.below0) i hi
      have hqm : lB.getD i default ∈ lB := by
        have hi2 : i < lB.length := by rw [H.out.2.1]; exact hi
        rw [List.getD_eq_getElem?_getD, List.getElem?_eq_getElem hi2]
        exact List.getElem_mem hi2
      obtain ⟨hs1, hs2⟩ := H.out.2.2.1 _ hqm
      generalize lB.getD i default = q at *
      obtain ⟨sm, pw⟩ : ∃ sm, IntKind.i64.wrap ((q.k.size : Int) + (q.v.size : Int)) = sm := ⟨_, rfl⟩
      have pw2 : wrap64 ((q.k.size : Int) + (q.v.size : Int)) = sm := by rw [← pw, IntKind.wrap_i64]; unfold wrap64; omega
      have T1 := Aside0.mk (And.intro hik hi)
      obtain ⟨bb, hbb⟩ : ∃ bb, bb = decide (sm > 600) := ⟨_, rfl⟩
      have HBB := Aside0.mk hbb
      clear hqm hs1 hs2 hik hi
      go_upto_region 6 with (fail)
      go_cut [59] (fun v wx => v = .bool bb ∧ Aside0 (Bq wr wx wr.heap.size q))
      case first =>
        have hbox := heap_alloc_new wr (.cells #[.string q.k, .string q.v, .int .i64 q.bl, .int .i64 q.sz] 25 (0, 0))
        have b0 := blk_cell hbox 0
        have b1 := blk_cell hbox 1
        have b2 := blk_cell hbox 2
        have b3 := blk_cell hbox 3
        have hbx : wr.heap.size < (wr.alloc (.cells #[.string q.k, .string q.v, .int .i64 q.bl, .int .i64 q.sz] 25 (0, 0))).heap.size := by simp
        have e0 : Aside0 (Eff0 wr (wr.alloc (.cells #[.string q.k, .string q.v, .int .i64 q.bl, .int .i64 q.sz] 25 (0, 0)))) := Aside0.mk ((Eff.refl _ _).alloc _)
        have BH := Aside0.mk hbox
        clear hbox
        by_cases hbig : sm > 600
        · have p6 : (sm > 600) = True := eq_true hbig
          have hb2 : bb = true := by rw [hbb]; exact decide_eq_true hbig
          clear hbb hbig
          subst hb2
          generalize wr.alloc (.cells #[.string q.k, .string q.v, .int .i64 q.bl, .int .i64 q.sz] 25 (0, 0)) = wq at *
          go_quiet (fail)
          go_wp2
          go_meet
          case rel => exact ⟨rfl, Aside0.mk ⟨e0.out.drewN _, BH.out⟩⟩
        · have p6 : (sm > 600) = False := eq_false hbig
          have hb2 : bb = false := by rw [hbb]; exact decide_eq_false hbig
          clear hbb hbig
          subst hb2
          generalize wr.alloc (.cells #[.string q.k, .string q.v, .int .i64 q.bl, .int .i64 q.sz] 25 (0, 0)) = wq at *
          have b0' : wq.cell? ⟨wr.heap.size, 0, none⟩ = some (.string q.k) := b0
          have b1' : wq.cell? ⟨wr.heap.size, 1, none⟩ = some (.string q.v) := b1
          have b2' : wq.cell? ⟨wr.heap.size, 2, none⟩ = some (.int .i64 q.bl) := b2
          have b3' : wq.cell? ⟨wr.heap.size, 3, none⟩ = some (.int .i64 q.sz) := b3
          have hX : ∀ W', Eff0 wq W' → W'.cell? ⟨wr.heap.size, 0, none⟩ = some (.string q.k) ∧ W'.cell? ⟨wr.heap.size, 1, none⟩ = some (.string q.v) ∧ W'.cell? ⟨wr.heap.size, 2, none⟩ = some (.int .i64 q.bl) ∧ W'.cell? ⟨wr.heap.size, 3, none⟩ = some (.int .i64 q.sz) := fun W' d => ⟨(d.cell hbx id).trans b0', (d.cell hbx id).trans b1', (d.cell hbx id).trans b2', (d.cell hbx id).trans b3'⟩
          have HX := Aside0.mk hX
          have CR1 := fun w => right_calls w q
          have CR2 := fun w => (MR.honeycombref1_CellRight.calls q.k q.v q.bl q.sz _ w (rright (sOf q)))
          obtain ⟨r, hr⟩ : ∃ r, MR.honeycombref1_CellSize.f q.k q.v q.bl q.sz = some r := by unfold MR.honeycombref1_CellSize.f; split <;> exact ⟨_, rfl⟩
          have CS1 := fun w => CR.cell_Size.calls q.k q.v q.bl q.sz r w hr
          have CS2 := fun w => MR.honeycombref1_CellSize.calls q.k q.v q.bl q.sz r w hr
          have hrr : clS (sOf q) = q.cl := rfl
          rw [hrr] at CR2
          generalize right q.cl = rb at *
          have sb : Eff0 wq wq.drew := (Eff.refl _ _).drew
          clear hr hX b0 b1 b2 b3 x0 x1 x2 x3 hrr
          go_region_held3 (fun W' => Eff0 wq W' ∧ W'.cell? ⟨wr.heap.size, 0, none⟩ = some (.string q.k) ∧ W'.cell? ⟨wr.heap.size, 1, none⟩ = some (.string q.v) ∧ W'.cell? ⟨wr.heap.size, 2, none⟩ = some (.int .i64 q.bl) ∧ W'.cell? ⟨wr.heap.size, 3, none⟩ = some (.int .i64 q.sz)) ((refine BK.keepS HX.out ?_; first | assumption | exact sb | exact And.left (by assumption)))
            (first
              | (go_at_call 5; refine (CR1 _).mono ?_; rintro e w' ⟨rfl, e1⟩; have en1 : Eff0 wq w' := Eff.then0 (by first | exact sb | exact And.left (by assumption) | assumption) e1; clear e1)
              | (go_at_call 6; refine (CR2 _).mono ?_; rintro e w' ⟨rfl, e1⟩; have en2 : Eff0 wq w' := Eff.then0 (by first | exact sb | exact And.left (by assumption) | assumption) (Eff.of_below e1); clear e1)
              | (go_at_call 7; refine (CS1 _).mono ?_; rintro e w' ⟨rfl, e1⟩; have en3 : Eff0 wq w' := Eff.then0 (by first | exact sb | exact And.left (by assumption) | assumption) (Eff.of_below e1); clear e1)
              | (go_at_call 8; refine (CS2 _).mono ?_; rintro e w' ⟨rfl, e1⟩; have en4 : Eff0 wq w' := Eff.then0 (by first | exact sb | exact And.left (by assumption) | assumption) (Eff.of_below e1); clear e1)
              | fail)
          all_goals go_wp2_with fail
          all_goals go_meet
          all_goals exact ⟨by first | rfl | simp, Aside0.mk (Bq.of e0.out BH.out hbx (by first | assumption | exact Eff.drew (by assumption) | exact Eff.drewN (by assumption) _))⟩
      case rest =>
        obtain ⟨rfl, HC⟩ := hcut
        obtain ⟨w5, rfl⟩ : ∃ w5 : World, w5 = wc := ⟨_, rfl⟩
        have d0 : w5.cell? ⟨wr.heap.size, 0, none⟩ = some (.string q.k) := blk_cell HC.out.2 0
        have d1 : w5.cell? ⟨wr.heap.size, 1, none⟩ = some (.string q.v) := blk_cell HC.out.2 1
        clear x0 x1 x2 x3 hbb
        cases bb with
        | true =>
          have p6 : (sm > 600) = True := eq_true (of_decide_eq_true HBB.out.symm)
          go_wp2_with fail
          go_ret
          exact ⟨rfl, (E3.out.then0 HC.out.1).below0⟩
        | false =>
          clear pw pw2 d0 d1
          go_wp2_with fail
          go_roundg (gk - 1)
          case measure => have := T1.out; omega
          case rel => exact ⟨i + 1, by simp, by have := T1.out; omega, Aside0.mk (E3.out.then0 HC.out.1)⟩
    · have p4 : ((i : Int) < (l.length : Int)) = False := eq_false (by omega)
      rename World => wo
      have hll : lB.length = l.length := H.out.2.1
      have h60 : l.length ≤ 60 := H.out.2.2.2.2
      have hnc : l.length ≤ c0 := H.out.2.2.2.1
      have HC : Aside0 (∀ w', Below wo.heap.size wo w' → Kd.C kdB w' A0 l.length lB) := Aside0.mk (fun w' h => Kd.C_below H.out.1 (E3.out.below0.trans (Below.mono h E3.out.size)))
      have O0 : Own wo wo (Stars []) := Own.start wo
      have CL := lentB_calls (c := c0) O0 lB (by rw [hll]; exact HC.out wo (Below.refl _ _)) (by omega)
      rw [hll] at CL
      have CP := Aside0.mk (fun w' (A : Option Addr) (c : Nat) (h : Kd.C kdB w' A l.length lB) => (show Calls Tryz.prog 10 #[.slice A l.length c] w' fun e w2 => e = .returned (.tuple #[.string (putF (lB.map B.cl)).1, .bool (putF (lB.map B.cl)).2]) ∧ Eff0 w' w2 from by
        have := put_many w' A c lB (by rw [hll]; exact h)
        rw [hll] at this
        exact this))
      have CR := Aside0.mk (fun w' (h : Kd.C kdB w' A0 l.length lB) => (show Calls Tryz.prog 11 #[.slice A0 l.length c0] w' fun e w2 => e = .returned (.tuple #[.string (putF (lB.map B.cl)).1, .bool (putF (lB.map B.cl)).2]) ∧ Eff0 w' w2 from by
        have := refput_calls w' A0 c0 lB (by rw [hll]; exact h) (by rw [hll]; exact hnc) (by omega)
        rw [hll] at this
        exact this))
      have CF := Aside0.mk (fun w' (A : Option Addr) (c : Nat) (h : Kd.C kdB w' A l.length lB) => (show Calls Tryz.prog 15 #[.slice A l.length c] w' fun e w2 => e = .returned (.bool (fits (lB.map B.cl))) ∧ Below w'.heap.size w' w2 from by
        have := fits_calls w' A c lB (by rw [hll]; exact h) (by omega)
        rw [hll] at this
        exact this))
      have CG := Aside0.mk (fun w' (h : Kd.C kdB w' A0 l.length lB) => (show Calls Tryz.prog 16 #[.slice A0 l.length c0] w' fun e w2 => e = .returned (.bool (fits (lB.map B.cl))) ∧ Eff0 w' w2 from by
        have := reffits_calls w' A0 c0 lB (by rw [hll]; exact h) (by rw [hll]; exact hnc) (by omega)
        rw [hll] at this
        exact this))
      have HLL := Aside0.mk hll
      have hgl : (getF a1).1.length ≤ 240 := getF_len a1
      have CGet := Aside0.mk (fun (w' : World) (L : List HP) (o : Own wo w' (Stars L)) => get_own o a1)
      have CRef := Aside0.mk (fun (w' : World) (L : List HP) (o : Own wo w' (Stars L)) => refget_own o a1)
      obtain ⟨gx, hgx⟩ : ∃ gx, gx = getF a1 := ⟨_, rfl⟩
      rw [← hgx] at hgl CGet CRef
      clear hgx
      obtain ⟨xs, xb⟩ := gx
      dsimp only at hgl CGet CRef
      generalize putF (lB.map B.cl) = P at *
      generalize fits (lB.map B.cl) = fb at *
      obtain ⟨pt, pb⟩ := P
      dsimp only at CP CR
      have HXL := Aside0.mk (show xs.length = (xs.map tupB).length by rw [List.length_map])
      clear hll hik hi O0
      go_wp2_with (first
        | (go_at_call 9; refine CL.mono ?_; rintro e w4 ⟨B, d, rfl, O⟩; clear CL)
        | (go_at_call 10; refine (CP.out _ B d (by obtain ⟨F, h⟩ := O.out.fact 0 rfl; exact m_kB h HLL.out)).mono ?_; rintro e w5 ⟨rfl, en⟩; replace O := Aside0.mk (O.out.after en); clear en)
        | (go_at_call 11; refine (CR.out _ (HC.out _ O.out.below)).mono ?_; rintro e w6 ⟨rfl, en⟩; replace O := Aside0.mk (O.out.after en); clear en)
        | (go_at_call 12; refine (CGet.out _ _ O3.out).mono ?_; rintro e w9 ⟨Az, cz, rfl, O4⟩; clear O3)
        | (go_at_call 12; refine (CGet.out _ _ O.out).mono ?_; rintro e w7 ⟨Ax, cx, rfl, O2⟩; clear O)
        | (go_at_call 13; refine (CRef.out _ _ O2.out).mono ?_; rintro e w8 ⟨Ay, cy, rfl, O3⟩; clear O2)
        | (go_at_call 14; refine (cells_own (r1 := [_, _]) (r2 := []) HXL.out rfl rfl O5.out (by simp) (by omega)).mono ?_; rintro e w11 ⟨rfl, a2, b2, B2, d2, O6⟩; clear O5)
        | (go_at_call 14; refine (cells_own (r1 := [_]) (r2 := [_, _]) HXL.out rfl rfl (book_new O4.out) (by simp) (by omega)).mono ?_; rintro e w10 ⟨rfl, a1', b1', B1, d1, O5⟩; clear O4)
        | (go_at_call 15; refine (CF.out _ B d (by obtain ⟨F, h⟩ := O6.out.fact 5 rfl; exact m_kB h HLL.out)).mono ?_; rintro e w12 ⟨rfl, en⟩; replace O6 := Aside0.mk (O6.out.after (Eff.of_below en)); clear en)
        | (go_at_call 16; refine (CG.out _ (HC.out _ O6.out.below)).mono ?_; rintro e w13 ⟨rfl, en⟩; replace O6 := Aside0.mk (O6.out.after en); clear en)
        | (go_at_call 17; refine (stays_own O6.out HLL.out (HC.out _ O6.out.below) h60).mono ?_; rintro e w14 ⟨rfl, dn⟩; replace O6 := Aside0.mk (O6.out.drawn dn); clear dn)
        | (go_at_call 18; refine (same_own O6.out HXL.out (by omega)).mono ?_; rintro e w15 ⟨rfl, dn⟩; replace O6 := Aside0.mk (O6.out.drawn dn); clear dn)
        | (go_at_call 19; refine (apart_own O6.out (by rw [List.length_map]; omega) (by rw [List.length_map]; omega)).mono ?_; rintro e w16 ⟨rfl, bl⟩))
      go_ret
      exact ⟨rfl, E3.out.below0.trans (Below.mono bl E3.out.size)⟩
end Go.Proofs.YtlbdodopodgokaaGreat.Pure
