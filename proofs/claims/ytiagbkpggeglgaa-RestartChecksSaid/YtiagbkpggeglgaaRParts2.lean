import Derived.Test.YtiagbkpggeglgaaRParts
import Derived.Test.YtiagbkpggeglgaaProg
import Derived.BigRegion
import Derived.BigQuiet
import Derived.Deep.QuietTactic
import Derived.Deep.AppendLies
import Derived.ChangeAlike
import Derived.Outline
import Derived.WalkKit
import Derived.KernelRfl
import Derived.Deep.LoopGhost
import Derived.Deep.RegionLaw
import Derived.Test.YtiagbkpggeglgaaWMore
import Derived.Test.YtiagbkpggeglgaaWKept
import Derived.Test.YtiagbkpggeglgaaLSep
namespace Go.Proofs.Ytiagbkpggeglgaa.RS
open Go Go.RowKit Go.Proofs.YtiagbkpggeglgaaW.PrintWords Go.Proofs.YtiagbkpggeglgaaW.PrintLast Go.Proofs.YtiagbkpggeglgaaW.PrintMore Go.Proofs.Ytiagbkpggeglgaa.L Go.Proofs.Ytiagbkpggeglgaa.MR
set_option linter.unusedVariables false
set_option linter.unusedSimpArgs false
theorem parts_d (rs : List Rc) (s : Nat) (hs : s ≤ rs.length) : More (s : Int) (anaA 0 (rs.take s)).d (anaA 0 rs).d ∧ ((anaA 0 rs).d.map (·.1)).Nodup := by
  have h0 : ∀ l : List Rc, anaA 0 l = goA ⟨[], []⟩ 0 l := fun l => by unfold anaA startA; rw [if_pos rfl]; rfl
  rw [h0, h0]
  refine ⟨?_, goA_nodup _ _ _ (by simp)⟩
  conv => rhs; rw [← List.take_append_drop s rs]
  rw [goA_append, List.length_take, Nat.min_eq_left hs]
  exact More.go _ _ _ (by omega)
theorem modk (at_ : Int) (n : Nat) : ∃ (s : Nat) (m1 : Int), s ≤ n ∧ at_.tmod ((n : Int) + 1) = m1 ∧ -((n : Int) + 1) < m1 ∧ m1 < (n : Int) + 1 ∧ (m1 + (n : Int) + 1).tmod ((n : Int) + 1) = (s : Int) := by
  have h1 := Int.tmod_lt_of_pos at_ (show (0 : Int) < (n : Int) + 1 by omega)
  have h2 := Int.lt_tmod_of_pos at_ (show (0 : Int) < (n : Int) + 1 by omega)
  have h3 : (at_.tmod ((n : Int) + 1) + n + 1).tmod ((n : Int) + 1) = (at_.tmod ((n : Int) + 1) + n + 1) % ((n : Int) + 1) := Int.tmod_eq_emod_of_nonneg (by omega)
  have h4 := Int.emod_nonneg (at_.tmod ((n : Int) + 1) + n + 1) (show ((n : Int) + 1) ≠ 0 by omega)
  have h5 := Int.emod_lt_of_pos (at_.tmod ((n : Int) + 1) + n + 1) (show (0 : Int) < (n : Int) + 1 by omega)
  exact ⟨((at_.tmod ((n : Int) + 1) + n + 1) % ((n : Int) + 1)).toNat, _, by omega, rfl, h2, h1, by rw [h3]; omega⟩
theorem cutTo (A : Option Addr) (n c : Nat) (j : Int) (h0 : 0 ≤ j) (hm : j ≤ n) (hc : n ≤ c) : ∀ W : World, (Instr.slice 22 (.slice A n c) none (some (.int .i64 j)) none).run Try.prog W = .ok (.slice A j.toNat c) W := by
  obtain ⟨i, hi, hs⟩ := Option.map_eq_some_iff.1 infoRc
  exact cut_to 22 31 .i64 Try.underlying22 hi A n c j h0 hm hc
set_option maxHeartbeats 1600000 in
set_option maxRecDepth 100000 in
theorem parts_walk (w : World) (A : Option Addr) (c : Nat) (rs : List Rc) (at_ : Int) (hC : kdRc.C w A rs.length rs) (hcap : rs.length ≤ c) (hr : ∀ r ∈ rs, r.ps.length < 900000 → RcAt w r) :
    Calls Try.prog 7 #[.slice A rs.length c, .int .i64 at_] w fun e w' => e = .returned (.bool true) ∧ Below w.heap.size w w' := by
  have H := Aside0.mk (And.intro hC (And.intro hcap hr))
  clear hC hcap hr
  by_cases hlen : rs.length ≤ 30
  · have p1 : ((rs.length : Int) > 30) = False := eq_false (by omega)
    have p2 : ((30 : Int) < (rs.length : Int)) = False := eq_false (by omega)
    go_enter Try.func7, Try.ntmps7
    go_wp2_with (go_at_call 8; refine (alive_calls _).mono ?_; rintro e w1 ⟨rfl, b1⟩; have B1 := Aside0.mk b1; clear b1)
    go_loopg [24] rs.length (fun k s24 wr => ∃ i : Nat, s24 = .int .i64 (i : Int) ∧ i + k = rs.length ∧ wr = w1 ∧ Aside0 (∀ j, j < i → (rs.getD j default).ps.length ≤ 20 ∧ (rs.getD j default).kd ≠ 7))
    case atStart => exact ⟨0, rfl, by omega, rfl, Aside0.mk (fun j h => by omega)⟩
    case round =>
      obtain ⟨i, rfl, hik, hw, HG⟩ := hrel
      subst hw
      by_cases hi : i < rs.length
      · have p4 : ((i : Int) < (rs.length : Int)) = True := eq_true (by omega)
        have p5 : (0 : Int) ≤ (i : Int) := by omega
        obtain ⟨ad, rfl, u0, uj⟩ := kdOf_at (Kd.C_below H.out.1 B1.out) i hi
        have x0 := u0 _ rfl
        have x11 := uj 11 (by omega) _ rfl
        have HI := Aside0.mk (And.intro hi hik)
        have HL := Aside0.mk hlen
        have hii : i < 900000 := by omega
        generalize hrr : rs.getD i default = r at *
        have HR := Aside0.mk hrr
        clear u0 uj hrr hi hik hlen
        by_cases h20 : r.ps.length > 20
        · have q1 : ((r.ps.length : Int) > 20) = True := eq_true (by omega)
          have q2 : ((20 : Int) < (r.ps.length : Int)) = True := eq_true (by omega)
          go_wp2_with fail
          go_ret
          exact ⟨rfl, B1.out⟩
        · have q1 : ((r.ps.length : Int) > 20) = False := eq_false (by omega)
          have q2 : ((20 : Int) < (r.ps.length : Int)) = False := eq_false (by omega)
          by_cases h7 : r.kd = 7
          · have q3 : (r.kd == 7) = true := by rw [h7]; rfl
            have q4 : (r.kd = 7) = True := eq_true h7
            clear h20 h7
            go_wp2_with fail
            go_ret
            exact ⟨rfl, B1.out⟩
          · have q3 : (r.kd == 7) = false := beq_eq_false_iff_ne.mpr h7
            have q4 : (r.kd = 7) = False := eq_false h7
            have HN := Aside0.mk (And.intro h20 h7)
            clear h20 h7
            go_wp2_with fail
            go_roundg (gk - 1)
            case measure => have := HI.out; omega
            case rel =>
              refine ⟨i + 1, by simp, by have := HI.out; omega, rfl, Aside0.mk (fun j hj => ?_)⟩
              rcases Nat.lt_or_ge j i with h | h
              · exact HG.out j h
              · obtain rfl : j = i := by omega
                rw [HR.out]
                exact ⟨by have := HN.out.1; omega, HN.out.2⟩
      · have p4 : ((i : Int) < (rs.length : Int)) = False := eq_false (by omega)
        obtain rfl : i = rs.length := by omega
        clear hi hik p4
        have hps : ∀ r ∈ rs, r.ps.length ≤ 20 := fun r hr => by
          obtain ⟨j, hj, rfl⟩ := List.mem_iff_getElem.1 hr
          have := (HG.out j hj).1
          rwa [List.getD_eq_getElem?_getD, List.getElem?_eq_getElem hj] at this
        obtain ⟨s, m1, hs, e1, l1, l2, e2⟩ := modk at_ rs.length
        have hst : (rs.take s).length = s := by rw [List.length_take]; omega
        have hat : ∀ W, Below w.heap.size w W → ∀ r ∈ rs, RcAt W r := fun W hW r hr => (H.out.2.2 r hr (by have := hps r hr; omega)).keep hW
        have CA1 := ana0 wr A c (rs.take s) (Kd.C_take (Kd.C_below H.out.1 B1.out) hs) (by have := H.out.2.1; omega) (fun r hr => hat wr B1.out r (List.mem_of_mem_take hr)) (by omega) (fun r hr => by have := hps r (List.mem_of_mem_take hr); omega)
        rw [hst] at CA1
        have CA2 := fun W (hW : Below w.heap.size w W) => ana0 W A c rs (Kd.C_below H.out.1 hW) H.out.2.1 (hat W hW) (by omega) (fun r hr => by have := hps r hr; omega)
        have hcs := cutTo A rs.length c (s : Int) (by omega) (by omega) H.out.2.1
        rw [Int.toNat_natCast] at hcs
        have d1 : ((rs.length : Int) + 1 = 0) = False := eq_false (by omega)
        have d2 : ((rs.length : Int) + 1 == 0) = false := beq_eq_false_iff_ne.mpr (by omega)
        have C1 := Aside0.mk CA1
        have C2 := Aside0.mk CA2
        have HS := Aside0.mk (And.intro hs (And.intro hst hps))
        clear CA1 CA2 hat hps hst HG
        go_wp2_with (first
          | (go_at_call 9; refine C1.out.mono ?_; rintro e w2 ⟨A2, c2, ts, B2, cB, ds, rfl, h1, h2, h3, h4, h5, h6, h7⟩; have HA := Aside0.mk (And.intro h1 (And.intro h2 (And.intro h3 (And.intro h4 (And.intro h5 (And.intro h6 h7)))))); clear h1 h2 h3 h4 h5 h6 h7 C1; have C3 := Aside0.mk (C2.out (w2.alloc (.cells #[.slice A2 ts.length c2, .slice B2 ds.length cB, .int .i64 (fromL ((anaA 0 (rs.take s)).d.map (·.2)))] 33)) (((Eff.of_below (S := fun _ => False) B1.out).then0 (Eff.of_below HA.out.2.2.2.2.2.2)).alloc _).below0))
          | (go_at_call 9; refine C3.out.mono ?_; rintro e w3 ⟨A3, c3, us, B3, cB3, es, rfl, h1, h2, h3, h4, h5, h6, h7⟩; have HB := Aside0.mk (And.intro h1 (And.intro h2 (And.intro h3 (And.intro h4 (And.intro h5 (And.intro h6 h7)))))); clear h1 h2 h3 h4 h5 h6 h7 C3)
          | fail)
        have hX : ∀ W, Below (w3.alloc (.cells #[.slice A3 us.length c3, .slice B3 es.length cB3, .int .i64 (fromL ((anaA 0 rs).d.map (·.2)))] 33)).heap.size (w3.alloc (.cells #[.slice A3 us.length c3, .slice B3 es.length cB3, .int .i64 (fromL ((anaA 0 rs).d.map (·.2)))] 33)) W → Eff0 w W ∧ W.cell? ⟨w2.heap.size, 1, none⟩ = some (.slice B2 ds.length cB) ∧ W.cell? ⟨w3.heap.size, 0, none⟩ = some (.slice A3 us.length c3) ∧ W.cell? ⟨w3.heap.size, 1, none⟩ = some (.slice B3 es.length cB3) ∧ W.cell? ⟨w3.heap.size, 2, none⟩ = some (.int .i64 (fromL ((anaA 0 rs).d.map (·.2)))) ∧ kdD.C W B2 ds.length ds ∧ kdD.C W B3 es.length es ∧ kdT.C W A3 us.length us := by
          intro W hW
          have e3 := ((Eff.refl (fun _ => False) w3).alloc (.cells #[.slice A3 us.length c3, .slice B3 es.length cB3, .int .i64 (fromL ((anaA 0 rs).d.map (·.2)))] 33)).then0 (Eff.of_below (S := fun _ => False) hW)
          have e2 := (Eff.of_below (S := fun _ => False) HB.out.2.2.2.2.2.2).then0 e3
          have e1 := ((Eff.refl (fun _ => False) w2).alloc (.cells #[.slice A2 ts.length c2, .slice B2 ds.length cB, .int .i64 (fromL ((anaA 0 (rs.take s)).d.map (·.2)))] 33)).then0 e2
          exact ⟨((Eff.of_below B1.out).then0 (Eff.of_below HA.out.2.2.2.2.2.2)).then0 e1, box_keep e2.below0 1, box_keep hW 0, box_keep hW 1, box_keep hW 2, Kd.C_below HA.out.2.2.2.2.2.1 e1.below0, Kd.C_below HB.out.2.2.2.2.2.1 e3.below0, Kd.C_below HB.out.2.2.2.2.1 e3.below0⟩
        have HX := Aside0.mk hX
        obtain ⟨hm, hnd⟩ := parts_d rs s HS.out.1
        have hf := part_filter hm hnd HA.out.2.2.1 HB.out.2.2.1 HA.out.2.2.2.1 HB.out.2.2.2.1
        have hel : es.length < 900000 := by
          have h1 := HB.out.2.2.1.length_eq
          have h0 : anaA 0 rs = goA ⟨[], []⟩ 0 rs := by unfold anaA startA; rw [if_pos rfl]; rfl
          have h2 := (goA_len 20 rs ⟨[], []⟩ 0 HS.out.2.2).2
          rw [← h0, List.length_nil] at h2
          omega
        have hdl : ds.length ≤ es.length := by rw [hf]; exact List.length_filter_le _ _
        have HP := Aside0.mk (And.intro hm (And.intro hnd hf))
        clear hX hm hnd hf hcs d1 d2 e1 e2
        generalize hw4 : w3.alloc (.cells #[.slice A3 us.length c3, .slice B3 es.length cB3, .int .i64 (fromL ((anaA 0 rs).d.map (·.2)))] 33) = w4 at *
        have HW4 := Aside0.mk hw4
        clear hw4
        go_loopg [11, 77] es.length (fun k s11 s77 wr => ∃ i j : Nat, s11 = .int .i64 (i : Int) ∧ s77 = .int .i64 (j : Int) ∧ j + k = es.length ∧ i ≤ ds.length ∧ Aside0 (ds.drop i = (es.drop j).filter (fun p => decide (p ∈ (anaA 0 (rs.take s)).d))) ∧ Aside0 (Eff0 w4 wr))
        case atStart => exact ⟨0, 0, rfl, rfl, by omega, Nat.zero_le _, Aside0.mk (by simpa using HP.out.2.2), Aside0.mk (Eff.refl _ _)⟩
        case round =>
          obtain ⟨i, j, rfl, rfl, hjk, hid, HD, HE⟩ := hrel
          obtain ⟨e0, x1, y0, y1, y2, cD, cE, cT⟩ := HX.out _ HE.out.below0
          by_cases hj : j < es.length
          · have p4 : ((j : Int) < (es.length : Int)) = True := eq_true (by omega)
            have p5 : (0 : Int) ≤ (j : Int) := by omega
            have p6 : (0 : Int) ≤ (i : Int) := by omega
            have hjj : j < 900000 := by omega
            have hii0 : i < 900000 := by omega
            obtain ⟨ad3, rfl, u0, uj⟩ := kdOf_at cE j hj
            have hdr : es.drop j = es.getD j default :: es.drop (j + 1) := by rw [List.drop_eq_getElem_cons hj, List.getD_eq_getElem?_getD, List.getElem?_eq_getElem hj]; rfl
            have hme : es.getD j default ∈ es := by rw [List.getD_eq_getElem?_getD, List.getElem?_eq_getElem hj]; exact List.getElem_mem hj
            generalize es.getD j default = d at *
            obtain ⟨pg, lsn⟩ := d
            have z0 := u0 _ rfl
            have z1 := uj 1 (by omega) _ rfl
            have o1 := HX.out _ (HE.out.alloc (.cells #[.int .i64 pg, .int .i64 lsn] 53)).below0
            obtain ⟨_, x1', _, _, _, cD', _, _⟩ := o1
            have hmb : (pg, lsn) ∈ (anaA 0 rs).d := HB.out.2.2.1.mem_iff.1 hme
            have hdrop := HD.out
            rw [hdr] at hdrop
            have HJ := Aside0.mk (And.intro hj (And.intro hjk hid))
            clear u0 uj hdr hme
            by_cases hin : (pg, lsn) ∈ (anaA 0 (rs.take s)).d
            · rw [List.filter_cons_of_pos (by simpa using hin)] at hdrop
              have hi : i < ds.length := by
                rcases Nat.lt_or_ge i ds.length with h | h
                · exact h
                · rw [List.drop_eq_nil_of_le h] at hdrop; cases hdrop
              rw [List.drop_eq_getElem_cons hi] at hdrop
              injection hdrop with hd1 hd2
              obtain ⟨ad2, rfl, v0, vj⟩ := kdOf_at cD' i hi
              have hg : ds.getD i default = (pg, lsn) := by rw [List.getD_eq_getElem?_getD, List.getElem?_eq_getElem hi]; exact hd1
              rw [hg] at v0 vj
              have t0 := v0 _ rfl
              have t1 := vj 1 (by omega) _ rfl
              have q1 : ((i : Int) < (ds.length : Int)) = True := eq_true (by omega)
              have hii : i < 900000 := by omega
              have HZ := Aside0.mk hd2
              have HI2 := Aside0.mk hi
              clear v0 vj hd1 hd2 hi hj hjk hid hg hin hmb e0 cD cE cT cD'
              have hE := eqD
              go_wp2_with fail
              go_quiet (fail)
              go_wp2_with fail
              go_quiet (fail)
              go_wp2_with fail
              go_roundg (gk - 1)
              case measure => have := HJ.out; omega
              case rel => exact ⟨i + 1, j + 1, by simp, by simp, by have := HJ.out; omega, by have := HI2.out; omega, Aside0.mk HZ.out, Aside0.mk ((HE.out.alloc _).drewN _)⟩
            · rw [List.filter_cons_of_neg (by simpa using hin)] at hdrop
              have hlsn : (s : Int) < lsn := by
                obtain ⟨e, he, hy⟩ := HP.out.1
                rw [he] at hmb
                rcases List.mem_append.1 hmb with h | h
                · exact absurd h hin
                · exact hy _ h
              have q5 : (lsn ≤ (s : Int)) = False := eq_false (by omega)
              have HZ := Aside0.mk hdrop
              by_cases hi : i < ds.length
              · obtain ⟨ad2, rfl, v0, vj⟩ := kdOf_at cD' i hi
                have hym : ds.getD i default ∈ (anaA 0 (rs.take s)).d := HA.out.2.2.1.mem_iff.1 (by rw [List.getD_eq_getElem?_getD, List.getElem?_eq_getElem hi]; exact List.getElem_mem hi)
                generalize ds.getD i default = y at *
                obtain ⟨ya, yb⟩ := y
                have hne : ya ≠ pg := by
                  intro h
                  subst h
                  obtain ⟨e, he, _⟩ := HP.out.1
                  have hyb : (ya, yb) ∈ (anaA 0 rs).d := by rw [he]; exact List.mem_append_left _ hym
                  obtain ⟨m, hm, hme⟩ := List.mem_iff_getElem.1 hyb
                  obtain ⟨n, hn, hne⟩ := List.mem_iff_getElem.1 hmb
                  have hmn : m = n := by
                    refine nodup_at HP.out.2.1 (a := ya) ?_ ?_
                    · rw [List.getElem?_map, List.getElem?_eq_getElem hm, hme]; rfl
                    · rw [List.getElem?_map, List.getElem?_eq_getElem hn, hne]; rfl
                  subst hmn
                  rw [hme] at hne
                  exact hin (hne ▸ hym)
                have t0 := v0 _ rfl
                have t1 := vj 1 (by omega) _ rfl
                have q1 : ((i : Int) < (ds.length : Int)) = True := eq_true (by omega)
                have q2 : (ya == pg) = false := beq_eq_false_iff_ne.mpr hne
                have q3 : (ya = pg) = False := eq_false hne
                have hii : i < 900000 := by omega
                clear v0 vj hdrop hi hj hjk hid hin hmb e0 cD cE cT cD' hym hne hlsn
                go_wp2_with fail
                go_quiet (fail)
                go_wp2_with fail
                go_roundg (gk - 1)
                case measure => have := HJ.out; omega
                case rel => exact ⟨i, j + 1, rfl, by simp, by have := HJ.out; omega, HJ.out.2.2, Aside0.mk HZ.out, Aside0.mk ((HE.out.alloc _).drewN _)⟩
              · have q1 : ((i : Int) < (ds.length : Int)) = False := eq_false (by omega)
                have q2 : decide ((i : Int) < (ds.length : Int)) = false := decide_eq_false (by omega)
                clear hdrop hi hj hjk hid hin hmb e0 cD cE cT cD' hlsn
                go_wp2_with fail
                go_quiet (fail)
                go_wp2_with fail
                go_roundg (gk - 1)
                case measure => have := HJ.out; omega
                case rel => exact ⟨i, j + 1, rfl, by simp, by have := HJ.out; omega, HJ.out.2.2, Aside0.mk HZ.out, Aside0.mk ((HE.out.alloc _).drewN _)⟩
          · have p4 : ((j : Int) < (es.length : Int)) = False := eq_false (by omega)
            obtain rfl : j = es.length := by omega
            obtain rfl : i = ds.length := by
              have := HD.out
              rw [List.drop_length, List.filter_nil] at this
              have h2 := congrArg List.length this
              rw [List.length_drop, List.length_nil] at h2
              omega
            have hul : us.length < 900000 := by
              have h1 := HB.out.1.length_eq
              rw [List.length_map, List.length_map] at h1
              have h0 : anaA 0 rs = goA ⟨[], []⟩ 0 rs := by unfold anaA startA; rw [if_pos rfl]; rfl
              have h2 := (goA_len 20 rs ⟨[], []⟩ 0 HS.out.2.2).1
              rw [← h0, List.length_nil] at h2
              omega
            have CL : ∀ W', Eff0 wr W' → Calls Try.prog 16 #[.agg #[.slice A3 us.length c3, .slice B3 es.length cB3, .int .i64 (fromL ((anaA 0 rs).d.map (·.2)))]] W' (fun e w' => ∃ A c, e = .returned (.slice A (losL us).length c) ∧ Eff0 wr w' ∧ w'.cell? ⟨w2.heap.size, 1, none⟩ = some (.slice B2 ds.length cB) ∧ w'.cell? ⟨w3.heap.size, 0, none⟩ = some (.slice A3 us.length c3) ∧ w'.cell? ⟨w3.heap.size, 1, none⟩ = some (.slice B3 es.length cB3) ∧ w'.cell? ⟨w3.heap.size, 2, none⟩ = some (.int .i64 (fromL ((anaA 0 rs).d.map (·.2))))) := by
              intro W' hW'
              refine (losers_calls W' A3 c3 us (Kd.C_below cT hW'.below0) hul B3 es.length cB3 _).mono ?_
              rintro e w' ⟨A', c', rfl, o⟩
              have e2 := hW'.then0 (Eff.of_below (S := fun _ => False) o.below)
              exact ⟨A', c', rfl, e2, cell_below e2.below0 x1, cell_below e2.below0 y0, cell_below e2.below0 y1, cell_below e2.below0 y2⟩
            have hlu : (losL us).length ≤ us.length := by unfold losL; rw [List.length_map]; exact losS_len us
            have q1 : (((losL us).length : Int) ≤ (us.length : Int)) = True := eq_true (by omega)
            have CL2 := Aside0.mk CL
            have s0 : Eff0 wr wr.drew := (Eff.refl _ _).drew
            have E0 := Aside0.mk e0
            clear hj hjk hid cD cE cT CL hlu hul e0
            go_wp2_with fail
            go_region_held3 (fun W' => Eff0 wr W' ∧ W'.cell? ⟨w2.heap.size, 1, none⟩ = some (.slice B2 ds.length cB) ∧ W'.cell? ⟨w3.heap.size, 0, none⟩ = some (.slice A3 us.length c3) ∧ W'.cell? ⟨w3.heap.size, 1, none⟩ = some (.slice B3 es.length cB3) ∧ W'.cell? ⟨w3.heap.size, 2, none⟩ = some (.int .i64 (fromL ((anaA 0 rs).d.map (·.2))))) ((first | (refine ⟨?_, ?_, ?_, ?_, ?_⟩ <;> assumption) | (refine ⟨?_, ?_, ?_, ?_, ?_⟩ <;> first | assumption | (exact Eff.drew (by assumption))) | go_keep))
              (first | (go_at_call 16; refine (CL2.out _ (by assumption)).mono ?_; rintro e w' ⟨A6, c6, rfl, t0, t1, t2, t3, t4⟩))
            go_wp2_with fail
            go_ret
            exact ⟨rfl, (E0.out.then0 t0).below0⟩
  · have p1 : ((rs.length : Int) > 30) = True := eq_true (by omega)
    have p2 : ((30 : Int) < (rs.length : Int)) = True := eq_true (by omega)
    clear hlen
    go_enter Try.func7, Try.ntmps7
    go_wp2_with (go_at_call 8; refine (alive_calls _).mono ?_; rintro e w1 ⟨rfl, b1⟩)
    go_ret
    exact ⟨rfl, b1⟩
end Go.Proofs.Ytiagbkpggeglgaa.RS
