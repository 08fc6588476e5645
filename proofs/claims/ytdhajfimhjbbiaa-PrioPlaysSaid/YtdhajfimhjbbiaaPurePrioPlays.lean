/- The law PrioPlays of the given program: whatever is put in, taken, dropped: the greatest first; its walk. Conditions: none beyond the row's own. -/
import Derived.Test.YtdhajfimhjbbiaaPlaysPre
import Derived.Test.YtdhajfimhjbbiaaProg
import Derived.BigRegion
import Derived.BigQuiet
import Derived.Deep.QuietTactic
import Derived.Deep.AppendLies
import Derived.ChangeAlike
import Derived.Outline
import Derived.WalkKit
import Derived.KernelRfl
import Derived.Deep.LoopGhost
import Derived.Deep.RegionLaw
import Derived.Test.YtdhajfimhjbbiaaWMore
import Derived.Test.YtdhajfimhjbbiaaWKept
import Derived.Test.YtdhajfimhjbbiaaLSep
import Derived.OwnWalk
import Derived.Deep.RegionHeld3
namespace Go.Proofs.Ytdhajfimhjbbiaa.Pure
open Go Go.RowKit Go.Proofs.YtdhajfimhjbbiaaW.PrintWords Go.Proofs.YtdhajfimhjbbiaaW.PrintLast Go.Proofs.YtdhajfimhjbbiaaW.PrintMore Go.Proofs.Ytdhajfimhjbbiaa.L Go.Proofs.Ytdhajfimhjbbiaa.BK Go.Proofs.Ytdhajfimhjbbiaa.PL Go.Proofs.Ytdhajfimhjbbiaa.PF Go.Proofs.Ytdhajfimhjbbiaa.PP Go.Proofs.Ytdhajfimhjbbiaa.BO
set_option linter.unusedVariables false
set_option linter.unusedSimpArgs false
open Go.Proofs.Ytdhajfimhjbbiaa.Q (leB leB_iff leB_trans leB_refl leB_antisymm lessB Srt hd insL insL_perm NewT QEff keepL fallL fallL_eq)
set_option maxHeartbeats 6400000 in
set_option maxRecDepth 100000 in
theorem PrioPlays_walk (A0 : Option Addr) (c0 : Nat) (l : List S30) (A1 : Option Addr) (c1 : Nat) (n : List Int) (W : World) (t0 : l.length ≤ maxLen ∧ ∀ a_ ∈ l, ((Lit.int .i64 a_.f0).wf = true ∧ (Lit.int .i64 a_.f1).wf = true ∧ (Lit.int .i64 a_.f2).wf = true)) (y0 : l.length * 24 ≤ 140737488351232) (t1 : n.length ≤ maxLen ∧ ∀ a_ ∈ n, (Lit.int .i64 a_).wf = true) (y1 : n.length * 8 ≤ 140737488351232) (hr0 : Kd.C k30 W A0 l.length l) (hc0 : l.length ≤ c0) (hr1 : Kd.C (Kd.int .i64) W A1 n.length n) (hc1 : n.length ≤ c1) :
    Calls Try.prog 9 #[.slice A0 l.length c0, .slice A1 n.length c1] W fun e w' => e = .returned (.bool true) ∧ Below W.heap.size W w' := by
  by_cases h150 : l.length > 150
  · have p1 : ((l.length : Int) > 150) = True := eq_true (by omega)
    clear t0 y0 t1 y1 hr0 hc0 hr1 hc1 h150
    go_enter Try.func9, Try.ntmps9
    go_wp2_with (go_at_call 10; refine (Go.Proofs.Ytdhajfimhjbbiaa.Q.alive_calls _).mono ?_; rintro e w2 ⟨rfl, e2⟩)
    go_ret
    exact ⟨rfl, (l_of_q e2).below0⟩
  have p1 : ((l.length : Int) > 150) = False := eq_false (by omega)
  by_cases h60 : n.length > 60
  · have p2 : ((n.length : Int) > 60) = True := eq_true (by omega)
    clear t0 y0 t1 y1 hr0 hc0 hr1 hc1 h150 h60
    go_enter Try.func9, Try.ntmps9
    go_wp2_with (go_at_call 10; refine (Go.Proofs.Ytdhajfimhjbbiaa.Q.alive_calls _).mono ?_; rintro e w2 ⟨rfl, e2⟩)
    go_ret
    exact ⟨rfl, (l_of_q e2).below0⟩
  have p2 : ((n.length : Int) > 60) = False := eq_false (by omega)
  have H := Aside0.mk (And.intro hr0 (And.intro hr1 (And.intro (show l.length ≤ 150 by omega) (show n.length ≤ 60 by omega))))
  clear t0 y0 t1 y1 hr0 hc0 hr1 h150 h60
  have HC1 := Aside0.mk hc1
  clear hc1
  go_enter Try.func9, Try.ntmps9
  go_wp2_with (go_at_call 10; refine (Go.Proofs.Ytdhajfimhjbbiaa.Q.alive_calls _).mono ?_; rintro e w2 ⟨rfl, e2⟩)
  have E2 := Aside0.mk (l_of_q e2)
  clear e2
  go_loopg [6, 48] l.length (fun k s6 s48 wr => ∃ (i m c : Nat) (A : Option Addr) (its : List S48), s6 = .slice A m c ∧ s48 = .int .i64 (i : Int) ∧ i + k = l.length ∧ Aside0 (m = its.length ∧ m ≤ i ∧ St w2 wr w2.heap.size (.slice A m c) its))
  case atStart =>
    exact ⟨0, 0, 0, none, [], rfl, rfl, by omega, Aside0.mk ⟨rfl, Nat.le_refl _, HR.nil _, [], NewT.mk w2 w2 (Nat.le_refl _), List.Perm.refl _, below_alloc (Below.refl _ _) _⟩⟩
  case round =>
    rename Nat => gq
    obtain ⟨i, m, c, A, its, rfl, rfl, hik, S1⟩ := hrel
    rename World => wo
    by_cases hi : i < l.length
    · have p4 : ((i : Int) < (l.length : Int)) = True := eq_true (by omega)
      have p5 : (0 : Int) ≤ (i : Int) := by omega
      obtain ⟨hml, hmi, hH, ql, hN, hq, hB⟩ := S1.out
      have hmm : m ≤ 150 := by have := H.out; omega
      have hi9 : i < 150 := by have := H.out; omega
      have hsz := hB.size
      have hWw : Below W.heap.size W wo := (E2.out.below0).trans (Below.mono hB E2.out.size)
      obtain ⟨ad, rfl, x0, x1, x2⟩ := at_T30 (Kd.C_below H.out.1 hWw) (i : Int) (by omega) (by omega)
      rw [rd30 l i hi] at x0 x1 x2
      rw [Int.toNat_natCast] at x0 x1 x2
      obtain ⟨o, ho⟩ : ∃ o, o = l[i] := ⟨_, rfl⟩
      rw [← ho] at x0 x1 x2
      clear ho
      subst hml
      obtain ⟨A', c', e', hcl, hC⟩ := hH.C
      injection e' with e1 e2 e3
      subst e1 e3
      clear e2
      obtain ⟨kk, r, hf, hrr⟩ := first_f its (by omega)
      have CF : ∀ W', Eff0 wo W' → _ := fun W' e => honeycombref1_First.calls kk A c its r W' (Kd.C_below hC e.below0) hcl hf
      obtain ⟨f0, f1, f2⟩ := o
      dsimp only at x0 x1 x2
      have T1 := Aside0.mk (And.intro hik (And.intro hi hmi))
      have NQ := Aside0.mk (And.intro hN (And.intro hq hB))
      have HI := Aside0.mk (And.intro hH (And.intro hC hcl))
      have hh2 : w2.heap.size < wo.heap.size := hN.lt
      obtain ⟨x, hx⟩ : ∃ x, (its = [] ∧ r = -1 ∧ x = z48) ∨ ∃ j : Nat, r = (j : Int) ∧ j < its.length ∧ x = its.getD j z48 ∧ ∀ p, p < its.length → leB (pr (its.getD j z48)) (pr (its.getD p z48)) = true := by
        rcases hrr with ⟨h0, hr⟩ | ⟨j, hr, hj, hb⟩
        · exact ⟨_, .inl ⟨h0, hr, rfl⟩⟩
        · exact ⟨_, .inr ⟨j, hr, hj, rfl, hb⟩⟩
      have HX := Aside0.mk hx
      clear hx hrr hH hC hcl hN hq hB hf hik hi hmi S1
      go_upto_if 56 with (go_at_call 18; refine (CF _ ((Eff.refl _ _).alloc _)).mono ?_; rintro e w3 ⟨rfl, d3⟩; have D3 := Aside0.mk d3; have hw3 : wo.heap.size < w3.heap.size := (box3 d3).1; have E3 : Eff0 wo w3 := ((Eff.refl _ wo).alloc _).drawn d3; clear x0 x1 x2 d3)
      clear CF
      go_cut [] (fun wx => Aside0 (Bxs wo wx wo.heap.size w3.heap.size f0 f1 f2 x))
      case first =>
        rcases HX.out with ⟨h0, rfl, hx⟩ | ⟨j, rfl, hj, hx, _⟩
        · have p6 : ((-1 : Int) ≥ 0) = False := eq_false (by omega)
          have HX0 := Aside0.mk hx
          clear h0 hx
          go_wp2_with fail
          go_meet
          case rel =>
            rw [HX0.out]
            exact Aside0.mk (Bxs.mk (x := z48) D3.out)
        · have p6 : ((j : Int) ≥ 0) = True := eq_true (by omega)
          have p6' : (0 : Int) ≤ (j : Int) := by omega
          have p6'' : ((j : Int) < (its.length : Int)) = True := eq_true (by omega)
          obtain ⟨ad2, rfl, z0, z1⟩ := item_at (Kd.C_below HI.out.2.1 (E3.alloc (.cells #[.int .i64 0, .int .i64 0] 48)).below0) hj
          rw [← hx] at z0 z1
          have HJ := Aside0.mk hj
          clear hx hj
          go_wp2_with fail
          go_meet
          case rel => exact Aside0.mk (Bxs.mk D3.out)
      case rest =>
        obtain ⟨E4, B8, B10⟩ := hcut.out
        obtain ⟨w4, rfl⟩ : ∃ w4 : World, w4 = wc := ⟨_, rfl⟩
        have x0 : w4.cell? ⟨wo.heap.size, 0, none⟩ = some (.int .i64 f0) := box_cell B8 0
        have x1 : w4.cell? ⟨wo.heap.size, 1, none⟩ = some (.int .i64 f1) := box_cell B8 1
        have x2 : w4.cell? ⟨wo.heap.size, 2, none⟩ = some (.int .i64 f2) := box_cell B8 2
        have E4A := Aside0.mk E4
        have BB := Aside0.mk (And.intro B8 B10)
        have hql : ql.length = its.length := by have h := NQ.out.2.1.length_eq; rw [List.length_map] at h; exact h
        clear E4 B8 B10 hcut E3
        go_upto_block 2 with (fail)
        go_cut [6] (fun v6 wx => ∃ (its' : List S48) (A' : Option Addr) (c' : Nat) (ql' : List (Int × Int)), v6 = .slice A' its'.length c' ∧ Aside0 (Aft w2 wx w2.heap.size (.slice A' its'.length c') its' ql' ∧ its'.length ≤ its.length + 1))
        case first =>
          by_cases k1 : f0 = 1
          · subst k1
            go_wp2_with (go_at_call 11; refine (NewT.push (NQ.out.1.after (q_of_l E4A.out)) (Nat.le_trans hsz E4A.out.size) (by omega) f1 f2).mono ?_; rintro e w5 ⟨rfl, N5, Q5⟩; have H5 := (HI.out.1.eff0 E4A.out).q Q5; have B5 := box_q BB.out.1 Q5 (by decide); have L5 : Below w2.heap.size w2 w5 := Go.Proofs.Ytdhajfimhjbbiaa.Q.below_q (NQ.out.2.2.trans (Below.mono E4A.out.below0 hsz)) Q5)
            obtain ⟨q1, W6, q2, W7, r1, e6, r2, e7, H7⟩ := have_push (W := w5.drew) (H5.eff0 ((Eff.refl _ w5).drew)) (⟨f1, f2⟩ : S48) (by omega)
            have c1' : w5.drew.cell? ⟨wo.heap.size, 1, none⟩ = some (.int .i64 f1) := box_cell B5 1
            have c2' : w5.drew.cell? ⟨wo.heap.size, 2, none⟩ = some (.int .i64 f2) := box_cell B5 2
            have d1' : W6.cell? ⟨wo.heap.size, 1, none⟩ = some (.int .i64 f1) := box_cell (box_eff B5 ((Eff.refl _ w5).drew.then0 e6)) 1
            have d2' : W6.cell? ⟨wo.heap.size, 2, none⟩ = some (.int .i64 f2) := box_cell (box_eff B5 ((Eff.refl _ w5).drew.then0 e6)) 2
            obtain ⟨q3, W8, q4, W9, r3, e8, r4, e9, H9⟩ := have_push2 (W := w5.drew) (H5.eff0 ((Eff.refl _ w5).drew)) (⟨f1, f2⟩ : S48) (by omega)
            have P7 : (insL (f1, f2) ql).Perm ((its ++ [(⟨f1, f2⟩ : S48)]).map pr) := by
              rw [List.map_append]
              exact (insL_perm _ _).trans ((NQ.out.2.1.cons _).trans (List.perm_append_comm (l₁ := [(f1, f2)])))
            have S7 := Aside0.mk (Aft.eff (v := .slice none 0 0) (its := []) ((Eff.refl _ w5).drew.then0 e7) H7 N5 P7 L5)
            have S9 := Aside0.mk (Aft.eff (v := .slice none 0 0) (its := []) ((Eff.refl _ w5).drew.then0 e9) H9 N5 P7 L5)
            clear H7 H9 P7 e6 e7 e8 e9 B5 H5 N5 Q5 L5
            go_region_law (first
              | (refine step_ap rfl (.const (.slice none 0 0)) (.tmp 71) 45 45 rfl (.slice none 0 0) (.slice A its.length c) (by first | rfl | simp [Act.eval, Act.put]) (by first | rfl | simp [Act.eval, Act.put]) (r1 _) ?_)
              | (refine step_ap rfl (.const (.slice none 0 0)) (.tmp 71) 45 45 rfl (.slice none 0 0) (.slice A its.length c) (by first | rfl | simp [Act.eval, Act.put]) (by first | rfl | simp [Act.eval, Act.put]) (r3 _) ?_)
              | (refine step_ap rfl (.tmp 72) (.tmp 78) 45 45 rfl _ _ (by simp [Act.eval, Act.put]) (by simp [Act.eval, Act.put]) (r2 _) ?_; have SX := S7)
              | (refine step_ap rfl (.tmp 72) (.tmp 78) 45 45 rfl _ _ (by simp [Act.eval, Act.put]) (by simp [Act.eval, Act.put]) (r4 _) ?_; have SX := S9)
              | fail)
            all_goals go_wp2_with fail
            all_goals go_meet
            all_goals exact ⟨its ++ [(⟨f1, f2⟩ : S48)], _, _, _, by rw [List.length_append, List.length_singleton], by rw [List.length_append, List.length_singleton]; exact Aside0.mk ⟨SX.out, Nat.le_refl _⟩⟩
          have g1 : (f0 = 1) = False := eq_false k1
          have g1' : (f0 == 1) = false := by simpa using k1
          have y0 : w4.cell? ⟨w3.heap.size, 0, none⟩ = some (.int .i64 x.f0) := box_cell BB.out.2 0
          have y1 : w4.cell? ⟨w3.heap.size, 1, none⟩ = some (.int .i64 x.f1) := box_cell BB.out.2 1
          by_cases k3 : f0 = 3
          · subst k3
            have PK := NewT.peek (NQ.out.1.after (q_of_l E4A.out))
            have N3 := Aside0.mk (show ∀ w5, NewT w2 w5 w2.heap.size ql → QEff w2 w4 w5 → Aft w2 w5 w2.heap.size (.slice A its.length c) its ql from fun w5 N5 Q5 => ⟨(HI.out.1.eff0 E4A.out).q Q5, N5, NQ.out.2.1, Go.Proofs.Ytdhajfimhjbbiaa.Q.below_q (NQ.out.2.2.trans (Below.mono E4A.out.below0 hsz)) Q5, hql⟩)
            rcases HX.out with ⟨h0, rfl, hx⟩ | ⟨j, rfl, hj, hx, hb⟩
            · rw [hd_none NQ.out.2.1 h0] at PK
              have PK2 : Calls Try.prog 12 #[.pointer (some ⟨w2.heap.size, 0, none⟩)] w4 fun e w' => e = .returned (.tuple #[.int .i64 x.f0, .int .i64 x.f1, .bool false]) ∧ NewT w2 w' w2.heap.size ql ∧ QEff w2 w4 w' := by
                rw [hx, hd_none NQ.out.2.1 h0]
                exact PK
              have p6 : ((-1 : Int) ≥ 0) = False := eq_false (by omega)
              clear PK hx h0
              go_wp2_with (go_at_call 12; refine PK2.mono ?_; rintro e w5 ⟨rfl, N5, Q5⟩; have y0' : w5.cell? ⟨w3.heap.size, 0, none⟩ = some (.int .i64 x.f0) := box_cell (box_q BB.out.2 Q5 (by decide)) 0; have y1' : w5.cell? ⟨w3.heap.size, 1, none⟩ = some (.int .i64 x.f1) := box_cell (box_q BB.out.2 Q5 (by decide)) 1; have N6 := Aside0.mk (N3.out _ N5 Q5); clear N5 Q5 y0 y1 x0 x1 x2)
              go_meet
              case rel => exact ⟨its, A, c, ql, rfl, Aside0.mk ⟨N6.out, by omega⟩⟩
            · obtain ⟨h1, h2⟩ := hd_best (newT_srt NQ.out.1) NQ.out.2.1 hj hb
              rw [h1, decide_eq_true h2, ← hx] at PK
              have p6 : ((j : Int) ≥ 0) = True := eq_true (by omega)
              have p6' : (0 : Int) ≤ (j : Int) := by omega
              clear hx hb h1 h2
              go_wp2_with (go_at_call 12; refine PK.mono ?_; rintro e w5 ⟨rfl, N5, Q5⟩; have y0' : w5.cell? ⟨w3.heap.size, 0, none⟩ = some (.int .i64 x.f0) := box_cell (box_q BB.out.2 Q5 (by decide)) 0; have y1' : w5.cell? ⟨w3.heap.size, 1, none⟩ = some (.int .i64 x.f1) := box_cell (box_q BB.out.2 Q5 (by decide)) 1; have N6 := Aside0.mk (N3.out _ N5 Q5); clear N5 Q5 y0 y1 x0 x1 x2)
              go_meet
              case rel => exact ⟨its, A, c, ql, rfl, Aside0.mk ⟨N6.out, by omega⟩⟩
          have g3 : (f0 = 3) = False := eq_false k3
          have g3' : (f0 == 3) = false := by simpa using k3
          by_cases k2 : f0 = 2
          · subst k2
            have PK := NewT.pop (NQ.out.1.after (q_of_l E4A.out)) (by omega)
            have N3 := Aside0.mk (show ∀ w5, NewT w2 w5 w2.heap.size ql.tail → QEff w2 w4 w5 → HR w5 (.slice A its.length c) its ∧ Below w2.heap.size w2 w5 from fun w5 N5 Q5 => ⟨(HI.out.1.eff0 E4A.out).q Q5, Go.Proofs.Ytdhajfimhjbbiaa.Q.below_q (NQ.out.2.2.trans (Below.mono E4A.out.below0 hsz)) Q5⟩)
            rcases HX.out with ⟨h0, rfl, hx⟩ | ⟨j, rfl, hj, hx, hb⟩
            · have hq0 := hd_none NQ.out.2.1 h0
              have PK2 : Calls Try.prog 13 #[.pointer (some ⟨w2.heap.size, 0, none⟩)] w4 fun e w' => e = .returned (.tuple #[.int .i64 x.f0, .int .i64 x.f1, .bool false]) ∧ NewT w2 w' w2.heap.size ql.tail ∧ QEff w2 w4 w' := by
                rw [hx]
                rw [hq0] at PK ⊢
                exact PK
              have p6 : ((-1 : Int) ≥ 0) = False := eq_false (by omega)
              have HQ0 := Aside0.mk (And.intro hq0 h0)
              clear PK hx h0 hq0
              go_wp2_with (go_at_call 13; refine PK2.mono ?_; rintro e w5 ⟨rfl, N5, Q5⟩; have y0' : w5.cell? ⟨w3.heap.size, 0, none⟩ = some (.int .i64 x.f0) := box_cell (box_q BB.out.2 Q5 (by decide)) 0; have y1' : w5.cell? ⟨w3.heap.size, 1, none⟩ = some (.int .i64 x.f1) := box_cell (box_q BB.out.2 Q5 (by decide)) 1; have N6 := Aside0.mk (And.intro N5 (N3.out _ N5 Q5)); clear N5 Q5 y0 y1 x0 x1 x2)
              go_meet
              case rel => exact ⟨its, A, c, ql, rfl, Aside0.mk ⟨⟨N6.out.2.1, by have := N6.out.1; rw [HQ0.out.1] at this ⊢; exact this, NQ.out.2.1, N6.out.2.2, hql⟩, by omega⟩⟩
            · obtain ⟨h1, h2⟩ := hd_best (newT_srt NQ.out.1) NQ.out.2.1 hj hb
              have hpt : ql.tail.Perm ((its.take j ++ its.drop (j + 1)).map pr) := by
                have h3 : ql = hd ql :: ql.tail := by
                  cases ql with
                  | nil => exact absurd h2 (by simp)
                  | cons y t => rfl
                have ej : its.getD j z48 = its[j] := by simp [List.getD_eq_getElem?_getD, hj]
                have h4 := ((take_drop_pop its j hj).map pr).symm
                rw [List.map_cons] at h4
                have h5 := NQ.out.2.1.trans h4
                rw [h3, h1, ej] at h5
                exact (List.perm_cons _).1 h5
              rw [h1, decide_eq_true h2, ← hx] at PK
              have p6 : ((j : Int) ≥ 0) = True := eq_true (by omega)
              have p6' : (0 : Int) ≤ (j : Int) := by omega
              have hcl : its.length ≤ c := HI.out.2.2
              have hjc : (j : Int) ≤ (c : Int) := by omega
              have hjc2 : (j : Int) + 1 ≤ (its.length : Int) := by omega
              have hj0 : (0 : Int) ≤ (j : Int) + 1 := by omega
              have pw : IntKind.i64.wrap ((j : Int) + 1) = (j : Int) + 1 := by rw [IntKind.wrap_i64]; omega
              have PT := Aside0.mk hpt
              obtain ⟨ad2, rfl⟩ : ∃ ad2, A = some ad2 := by
                obtain ⟨ad2, e, _⟩ := item_at HI.out.2.1 hj
                exact ⟨ad2, e⟩
              clear hx hb h1 h2 hpt
              go_wp2_with (go_at_call 13; refine PK.mono ?_; rintro e w5 ⟨rfl, N5, Q5⟩; have y0' : w5.cell? ⟨w3.heap.size, 0, none⟩ = some (.int .i64 x.f0) := box_cell (box_q BB.out.2 Q5 (by decide)) 0; have y1' : w5.cell? ⟨w3.heap.size, 1, none⟩ = some (.int .i64 x.f1) := box_cell (box_q BB.out.2 Q5 (by decide)) 1; have N6 := Aside0.mk (And.intro N5 (N3.out _ N5 Q5)); clear N5 Q5 y0 y1 x0 x1 x2)
              obtain ⟨q1, W6, q2, W7, r1, e6, r2, e7, H7⟩ := have_del (W := w5.drew) (N6.out.2.1.eff0 ((Eff.refl _ w5).drew)) j hj hcl (by omega)
              have SX := Aside0.mk (Aft.eff (v := .slice none 0 0) (its := []) ((Eff.refl _ w5).drew.then0 e7) H7 N6.out.1 PT.out N6.out.2.2)
              clear H7 e6 e7
              go_region_law (first
                | (refine step_ap rfl (.const (.slice none 0 0)) (.tmp 108) 45 45 rfl (.slice none 0 0) (.slice (some ad2) j c) (by first | rfl | simp [Act.eval, Act.put]) (by first | rfl | simp [Act.eval, Act.put]) (r1 _) ?_)
                | (refine step_ap rfl (.tmp 109) (.tmp 113) 45 45 rfl _ _ (by simp [Act.eval, Act.put]) (by simp [Act.eval, Act.put]) (r2 _) ?_)
                | fail)
              all_goals go_wp2_with fail
              all_goals go_meet
              all_goals
                have hl9 : (its.take j ++ its.drop (j + 1)).length = its.length - 1 := by rw [List.length_append, List.length_take, List.length_drop]; omega
                exact ⟨its.take j ++ its.drop (j + 1), _, _, ql.tail, by rw [hl9], by rw [hl9]; exact Aside0.mk ⟨SX.out, by omega⟩⟩
          have g2 : (f0 = 2) = False := eq_false k2
          have g2' : (f0 == 2) = false := by simpa using k2
          by_cases k4 : f0 = 4
          · subst k4
            go_wp2_with fail
            go_loopg [17, 143] its.length (fun k s17 s143 wr => ∃ (i2 c2 : Nat) (A2 : Option Addr) (R : List S48), s17 = .slice A2 R.length c2 ∧ s143 = .int .i64 (i2 : Int) ∧ i2 + k = its.length ∧ Aside0 (R = restL its i2 f2 ∧ R.length ≤ i2 ∧ Upd w4 (fun _ => False) (RIt (.slice A2 R.length c2) R) wr))
            case atStart => exact ⟨0, 0, none, [], rfl, rfl, by omega, Aside0.mk ⟨rfl, Nat.le_refl _, Upd.same (RwAt.nil w4) (Eff.refl _ _)⟩⟩
            case round =>
              obtain ⟨i2, c2, A2, R, rfl, rfl, hik2, U⟩ := hrel
              obtain ⟨hR, hRl, F, hF, eF, kF⟩ := U.out
              have x2' : wr.cell? ⟨wo.heap.size, 2, none⟩ = some (.int .i64 f2) := box_cell (box_eff BB.out.1 eF) 2
              have hlt2 : wo.heap.size < wr.heap.size := World.block_lt_of_cell? wr _ x2'
              by_cases hi2 : i2 < its.length
              · have p8 : ((i2 : Int) < (its.length : Int)) = True := eq_true (by omega)
                have p9 : (0 : Int) ≤ (i2 : Int) := by omega
                have hi29 : i2 < 150 := by omega
                obtain ⟨ad2, hA2, z0, z1⟩ := item_at (Kd.C_below HI.out.2.1 (E4A.out.then0 eF).below0) hi2
                subst hA2
                have hst := restL_step its i2 f2 hi2
                have hey : its.getD i2 z48 = its[i2] := by simp [List.getD_eq_getElem?_getD, hi2]
                rw [← hey] at hst
                generalize its.getD i2 z48 = y at *
                have hsz2 : (wr.alloc (.cells #[.int .i64 y.f0, .int .i64 y.f1] 48)).heap.size = wr.heap.size + 1 := by simp
                obtain ⟨q, W', hr, hU⟩ := it_add (HP.eff0 hF ((Eff.refl (fun _ => False) wr).alloc (.cells #[.int .i64 y.f0, .int .i64 y.f1] 48))) y (by omega)
                rw [hsz2] at hr
                have U1 := Aside0.mk (show Upd w4 (fun _ => False) (RIt (.slice A2 R.length c2) R) (wr.alloc (.cells #[.int .i64 y.f0, .int .i64 y.f1] 48)) from ⟨F, HP.eff0 hF ((Eff.refl (fun _ => False) wr).alloc _), eF.then0 ((Eff.refl (fun _ => False) wr).alloc _), kF⟩)
                have U2 := Aside0.mk (upd_go (eF.then0 ((Eff.refl (fun _ => False) wr).alloc (.cells #[.int .i64 y.f0, .int .i64 y.f1] 48))) kF hU)
                have T2 := Aside0.mk (And.intro hik2 (And.intro hi2 (And.intro hR (And.intro hRl hst))))
                clear hey hst hi2 hik2 hR hRl hF eF kF hU hsz2 U x0 x1 x2
                by_cases hy : y.f1 = f2
                · have HY := Aside0.mk hy
                  have hy1 : (y.f1 == f2) = true := by simpa using hy
                  clear hr
                  go_wp2_with fail
                  go_roundg (gk - 1)
                  case measure => have := T2.out; omega
                  case rel =>
                    refine ⟨i2 + 1, c2, A2, R, rfl, by simp, by have := T2.out; omega, Aside0.mk ⟨?_, by have := T2.out; omega, by first | exact U1.out | (have h9 := U1.out; rw [HY.out] at h9; exact h9)⟩⟩
                    rw [T2.out.2.2.2.2, if_pos HY.out]
                    exact T2.out.2.2.1
                · have HY := Aside0.mk hy
                  have hy1 : (y.f1 == f2) = false := by simpa using hy
                  have hy2 : (y.f1 = f2) = False := eq_false hy
                  clear hy
                  go_wp2_with (at_builtin; refine Lib.wpList_append_run _ rfl (.tmp 152) (.tmp 154) 45 45 rfl _ _ rfl rfl _ _ (hr _) ?_)
                  go_roundg (gk - 1)
                  case measure => have := T2.out; omega
                  case rel =>
                    refine ⟨i2 + 1, q.2, q.1, R ++ [y], by rw [List.length_append, List.length_singleton], by simp, by have := T2.out; omega, Aside0.mk ⟨?_, by rw [List.length_append, List.length_singleton]; have := T2.out; omega, by rw [List.length_append, List.length_singleton]; exact U2.out⟩⟩
                    rw [T2.out.2.2.2.2, if_neg HY.out, ← T2.out.2.2.1]
              · have p8 : ((i2 : Int) < (its.length : Int)) = False := eq_false (by omega)
                obtain rfl : i2 = its.length := by omega
                have hk := keep_len NQ.out.2.1 f2
                rw [show its.filter (fun x => decide (x.f1 ≠ f2)) = R from by rw [hR]; unfold restL; rw [List.take_length]] at hk
                have hkl : (keepL f2 ql).length = R.length := by rw [hk.length_eq, List.length_map]
                have PD := NewT.drop (NQ.out.1.after (q_of_l (E4A.out.then0 eF))) (Nat.le_trans hsz (E4A.out.then0 eF).size) (by omega) f2
                rw [hkl, hql] at PD
                have pw : IntKind.i64.wrap ((its.length : Int) - (R.length : Int)) = (its.length : Int) - (R.length : Int) := by rw [IntKind.wrap_i64]; omega
                have HK := Aside0.mk hk
                have HE := Aside0.mk (And.intro hRl eF)
                clear hk hR hF kF p8 x0 x1 x2 hik2 eF hkl
                go_wp2_with (go_at_call 17; refine PD.mono ?_; rintro e w9 ⟨rfl, N9, Q9⟩; have H9 : HR w9 (.slice A2 R.length c2) R := (show HR wr (.slice A2 R.length c2) R from ⟨_, U.out.2.2.choose_spec.1⟩).q Q9; have L9 := Go.Proofs.Ytdhajfimhjbbiaa.Q.below_q (NQ.out.2.2.trans (Below.mono (E4A.out.then0 HE.out.2).below0 hsz)) Q9)
                go_meet
                case rel => exact ⟨R, A2, c2, keepL f2 ql, rfl, Aside0.mk ⟨⟨H9, N9, HK.out, L9, by rw [HK.out.length_eq, List.length_map]⟩, by have := HE.out.1; omega⟩⟩
          have g4 : (f0 = 4) = False := eq_false k4
          have g4' : (f0 == 4) = false := by simpa using k4
          go_wp2_with fail
          go_meet
          case rel => exact ⟨its, A, c, ql, rfl, Aside0.mk ⟨⟨HI.out.1.eff0 E4A.out, NQ.out.1.after (q_of_l E4A.out), NQ.out.2.1, NQ.out.2.2.trans (Below.mono E4A.out.below0 hsz), hql⟩, by omega⟩⟩
        case rest =>
          obtain ⟨its', A', c', ql', rfl, HA⟩ := hcut
          obtain ⟨w7, rfl⟩ : ∃ w7 : World, w7 = wc := ⟨_, rfl⟩
          have NL := NewT.len HA.out.1.2.1
          rw [HA.out.1.2.2.2.2] at NL
          have hl7 : its'.length ≤ 151 := by have := HA.out.2; omega
          clear x0 x1 x2 hql
          go_wp2_with (go_at_call 14; refine NL.mono ?_; rintro e w8 ⟨rfl, N8, Q8⟩)
          go_roundg (gq - 1)
          case measure => have := T1.out; omega
          case rel => exact ⟨i + 1, its'.length, _, _, its', rfl, by simp, by have := T1.out; omega, Aside0.mk ⟨rfl, by have := T1.out; have := HA.out.2; omega, HA.out.1.1.q Q8, ql', N8, HA.out.1.2.2.1, Go.Proofs.Ytdhajfimhjbbiaa.Q.below_q HA.out.1.2.2.2.1 Q8⟩⟩
    · obtain ⟨hml, hmi, hH, ql, hN, hq, hB⟩ := S1.out
      have p4 : ((i : Int) < (l.length : Int)) = False := eq_false (by omega)
      have hWw : Below W.heap.size W wo := (E2.out.below0).trans (Below.mono hB E2.out.size)
      have hn6 : n.length ≤ 60 := H.out.2.2.2
      have CC := Aside0.mk (fun w' (h : Below wo.heap.size wo w') => Kd.C_below H.out.2.1 (hWw.trans (Below.mono h hWw.size)))
      have CL := lentInts_calls n A1 c1 wo (lie_of_C (CC.out wo (Below.refl _ _))) (by omega)
      have HWW := Aside0.mk hWw
      clear hml hmi hH hN hq hB hik hi S1 hWw
      go_wp2_with (first
        | (go_at_call 19; refine CL.mono ?_; rintro e w4 ⟨B, d, rfl, hd, U4⟩; have O5 := Aside0.mk (book0 U4.out); clear U4)
        | (go_at_call 15; refine (c_sorted O6.out hn6).mono ?_; rintro e w7 ⟨Ab, cb, rfl, O7⟩; clear O6)
        | (go_at_call 15; refine (c_sorted O5.out hn6).mono ?_; rintro e w6 ⟨Aa, ca, rfl, O6⟩; clear O5)
        | (go_at_call 20; refine (c_ints rfl rfl O8.out hn6 (by simp)).mono ?_; rintro e w9 ⟨rfl, a2, b2, B2, d2, O⟩; clear O8)
        | (go_at_call 20; refine (c_ints rfl rfl O7.out hn6 (by simp)).mono ?_; rintro e w8 ⟨rfl, a1, b1, B1, d1, O8⟩; clear O7)
        | (go_at_call 11; refine (push_none _ _ _).mono ?_; rintro e w10 ⟨rfl, en⟩; replace O := Aside0.mk (O.out.after en); clear en)
        | (go_at_call 13; refine (pop_none _).mono ?_; rintro e w11 ⟨rfl, en⟩; replace O := Aside0.mk (O.out.after en); clear en)
        | (go_at_call 12; refine (peek_none _).mono ?_; rintro e w12 ⟨rfl, en⟩; replace O := Aside0.mk (O.out.after en); clear en)
        | (go_at_call 21; refine (c_refsort O.out (CC.out _ O.out.below) hn6).mono ?_; rintro e w13 ⟨B3, d3, rfl, O13⟩; clear O)
        | (go_at_call 16; refine (c_same O13.out rfl hn6).mono ?_; rintro e w14 ⟨rfl, dn⟩; have O14 := Aside0.mk (O13.out.drawn dn); clear dn O13)
        | (go_at_call 22; refine (c_stays O14.out (CC.out _ O14.out.below) hn6).mono ?_; rintro e w15 ⟨rfl, dn⟩; have O15 := Aside0.mk (O14.out.drawn dn); clear dn O14)
        | (go_at_call 14; refine (len_none _).mono ?_; rintro e w16 ⟨rfl, en⟩; replace O15 := Aside0.mk (O15.out.after en); clear en)
        | (go_at_call 17; refine (drop_none _ _).mono ?_; rintro e w17 ⟨rfl, en⟩; replace O15 := Aside0.mk (O15.out.after en); clear en)
        | (go_at_call 23; refine (c_apart O15.out rfl rfl hn6).mono ?_; rintro e w18 ⟨rfl, bl⟩))
      go_ret
      exact ⟨rfl, HWW.out.trans (Below.mono bl HWW.out.size)⟩
end Go.Proofs.Ytdhajfimhjbbiaa.Pure
