import Derived.Test.YtdhajfimhjbbiaaQMapSep
import Derived.Test.YtdhajfimhjbbiaaQAlive
import Derived.Test.YtdhajfimhjbbiaaMx0
namespace Go.Proofs.Ytdhajfimhjbbiaa.Pure
open Go Go.RowKit Go.Proofs.Ytdhajfimhjbbiaa.Q Go.Proofs.Ytdhajfimhjbbiaa.M Go.Proofs.YtdhajfimhjbbiaaW.PrintWords Go.Proofs.YtdhajfimhjbbiaaW.PrintLast Go.Proofs.YtdhajfimhjbbiaaW.PrintMore
set_option linter.unusedVariables false
open Go.Proofs.Ytdhajfimhjbbiaa.L
theorem zeroB (w : World) : (zeroValue 4).run Try.prog w = .ok (.bool false) w := by kernel_rfl
set_option maxHeartbeats 4000000 in
set_option maxRecDepth 100000 in
theorem PrioFalls_walk (A : Option Addr) (c : Nat) (l : List Int) (w : World) (h0 : (l.length ≤ maxLen ∧ ∀ a_ ∈ l, (Lit.int .i64 a_).wf = true)) (h1 : l.length * 8 ≤ 140737488351232) (hr : Kd.C (Kd.int .i64) w A l.length l) (hc : l.length ≤ c) :
    Calls Try.prog 5 #[.slice A l.length c] w fun e w' => e = .returned (.bool true) ∧ Below w.heap.size w w' := by
  by_cases hlong : 100 < l.length
  · have p1 : (100 < (l.length : Int)) = True := eq_true (by omega)
    clear h0 h1
    go_enter Try.func5, Try.ntmps5
    go_wp2_with (go_at_call 10; refine (alive_calls _).mono ?_; rintro e w1 ⟨rfl, e1⟩)
    go_ret
    exact ⟨rfl, e1.below (Nat.le_refl _) (fun _ h => h.elim)⟩
  · have p1 : (100 < (l.length : Int)) = False := eq_false (by omega)
    have B : l.length ≤ 100 := by omega
    have H := Aside0.mk hr
    clear h0 h1 hr hlong
    go_enter Try.func5, Try.ntmps5
    go_wp2_with (go_at_call 10; refine (alive_calls _).mono ?_; rintro e w1 ⟨rfl, e1⟩; have N0 := NewS.mk w e1; generalize hb : w1.heap.size = b at N0)
    go_loopg [27] l.length (fun k s27 wr => ∃ (i : Nat), s27 = .int .i64 i ∧ i + k = l.length ∧ NewS w wr b (pushed (l.take i)))
    case atStart => exact ⟨0, rfl, by omega, N0⟩
    case round =>
      obtain ⟨i, rfl, h1, N1⟩ := hrel
      clear N0 hb e1
      have hlen := pushed_length (l.take i)
      rw [List.length_take] at hlen
      have A1 := Aside0.mk hlen
      clear hlen
      by_cases hz : i < l.length
      · have p2 : ((i : Int) < (l.length : Int)) = True := eq_true (by omega)
        have B2 : i < 100 := by omega
        obtain ⟨ad, rfl, x1⟩ := Kd.at_int (Kd.C_below H.out N1.below) (i : Int) (by omega) (by omega)
        have e2 : (i : Int).toNat = i := by omega
        rw [e2] at x1
        go_wp2_with (go_at_call 11; refine (NewS.push N1 (by rw [A1.out]; omega) _ _).mono ?_; rintro e w2 ⟨rfl, N2⟩)
        go_roundg (gk - 1)
        case measure => omega
        case rel => exact ⟨i + 1, by simp, by omega, by rw [takeRd l i hz, pushed_snoc, List.length_take, Nat.min_eq_left (by omega)]; exact N2⟩
      · have p2 : ((i : Int) < (l.length : Int)) = False := eq_false (by omega)
        rw [List.take_of_length_le (by omega)] at N1 A1
        have hmm := @run_makeMap Try.prog
        go_wp2_with (go_at_call 15; refine (sorted_calls _ _ _ _ (Kd.C_below H.out N1.below) (by omega)).mono ?_; rintro e w2 ⟨v, rfl, HS, B2⟩; obtain ⟨A2, c2, hv, hc2, HC⟩ := Kd.R_reads HS; rw [fallL_length] at hv hc2 HC; subst hv; have N2 := (NewS.toT N1).after ((Eff.of_below (S := fun _ => False) B2)); have B3 := below_then N1.below N1.below.size B2; have M3 := MapAt.made keyInt w2; have N3 := NewT.alloc N2 (.map #[] 0); have HS3 := Kd.R_alloc HS (.map #[] 0); have B4 := below_alloc B3 (.map #[] 0); generalize hmb : w2.heap.size = mb at M3)
        have hmw : w.heap.size ≤ mb := by rw [← hmb]; exact B3.size
        have hrw : w.heap.size ≤ wr.heap.size := N1.below.size
        clear N1 HS HC N2 B3 B2 hmb hc2
        generalize hwr' : wr = wr' at hrw HS3
        generalize w2.alloc (.map #[] 0) = w3 at M3 N3 HS3 B4
        go_loopg [42] l.length (fun k s42 wrr => ∃ (j : Nat) (done rest : List (Int × Int)), s42 = .int .i64 j ∧ j + k = l.length ∧ Aside0 (done ++ rest = pushed l) ∧ done.length = j ∧ NewT w wrr b rest ∧ Below w.heap.size w wrr ∧ Kd.R (Kd.int .i64) 3 wrr wr'.heap.size (fun _ => True) (.slice A2 l.length c2) (fallL l) ∧ MapAt keyInt wrr mb (done.map (fun p => (p.2, Value.bool true))))
        case atStart => exact ⟨0, [], pushed l, rfl, by omega, Aside0.mk rfl, rfl, N3, B4, HS3, M3⟩
        case round =>
          clear N3 B4 HS3 M3 p2
          obtain ⟨j, done, rest, rfl, h2, A3, h3, N4, B4, HS4, M4⟩ := hrel
          by_cases hj : j < l.length
          · have p2 : ((j : Int) < (l.length : Int)) = True := eq_true (by omega)
            have B5 : j < 100 := by omega
            cases rest with
            | nil =>
              have := A3.out
              rw [List.append_nil] at this
              have := congrArg List.length this
              rw [pushed_length] at this
              omega
            | cons x rest =>
              have hfst : rd (fallL l) (j : Int) = x.1 := by
                rw [← pushed_fst, ← A3.out]
                unfold rd
                simp [List.getD_eq_getElem?_getD, h3]
              obtain ⟨q1, q2, q3⟩ := pushed_mem (l := l) (x := x) (by rw [← A3.out]; simp)
              have hnew : ∀ p ∈ done, p.2 ≠ x.2 := by
                have := pushed_ids l
                rw [← A3.out, List.map_append, List.nodup_append] at this
                exact fun p hp => this.2.2 p.2 (List.mem_map.2 ⟨p, hp, rfl⟩) x.2 (by simp)
              have d1 : decide (0 < (x :: rest).length) = true := decide_eq_true (by simp)
              have hln : (x :: rest).length < 900000 := by
                have := congrArg List.length A3.out
                rw [pushed_length, List.length_append] at this
                omega
              have C := NewT.pop N4 hln
              rw [d1] at C
              simp only [hd, List.getD_cons_zero, List.tail_cons] at C
              obtain ⟨xa, xi⟩ := x
              dsimp only at hfst q1 q2 q3 hnew C
              obtain ⟨ad2, rfl, _⟩ := Kd.at_int (Kd.R_reads' HS4).2.2 (j : Int) (by omega) (by rw [fallL_length]; omega)
              obtain ⟨ad1, rfl, _⟩ := Kd.at_int (Kd.C_below H.out B4) xi q1 q2
              have C2 : Calls Try.prog 13 #[.pointer (some ⟨b, 0, none⟩)] wr fun e w' => e = .returned (.tuple #[.int .i64 xa, .int .i64 xi, .bool true]) ∧ NewT w w' b rest ∧ Below w.heap.size w w' ∧ Aside0 (Kd.R (Kd.int .i64) 3 w' wr'.heap.size (fun _ => True) (.slice (some ad2) l.length c2) (fallL l)) ∧ MapAt keyInt w' mb (done.map (fun p => (p.2, Value.bool true))) ∧
                  w'.cell? (ad2.add j) = some (.int .i64 xa) ∧ w'.cell? (ad1.add xi.toNat) = some (.int .i64 xa) ∧ (Instr.lookup 39 (.map (some mb)) (.int .i64 xi) false).run Try.prog w' = .ok (.bool false) w' := by
                refine C.mono fun e w' ⟨he, N5, Q5⟩ => ?_
                have HS5 := R_q HS4 Q5 (by decide) (by decide)
                have B5 := below_q B4 Q5
                have M5 := M4.afterT Q5
                obtain ⟨ad2', e2, y2⟩ := Kd.at_int (Kd.R_reads' HS5).2.2 (j : Int) (by omega) (by rw [fallL_length]; omega)
                obtain ⟨ad1', e1, y1⟩ := Kd.at_int (Kd.C_below H.out B5) xi q1 q2
                injection e1 with e1
                injection e2 with e2
                subst e1 e2
                rw [hfst] at y2
                rw [q3] at y1
                have hL := M5.lookup (P := Try.prog) Try.underlying39 Try.underlying3 (zeroB w') xi false
                rw [look_none (by
                  intro p hp
                  obtain ⟨p', hp', rfl⟩ := List.mem_map.1 hp
                  exact hnew p' hp')] at hL
                exact ⟨he, N5, B5, Aside0.mk HS5, M5, y2, y1, hL⟩
              clear C d1 hln hfst q3 HS4 M4 N4 B4
              go_wp2_with (first | (go_at_call 13; refine C2.mono ?_; rintro e w4 ⟨rfl, N5, B6, HS5, M5, y2, y1, hL⟩; obtain ⟨w5, hU, M6, g6, _⟩ := M5.update (P := Try.prog) Try.underlying39 Try.underlying3 xi (.bool true); have hU2 : (Instr.mapUpdate 39 (.map (some mb)) (.int .i64 xi) (.bool true)).run Try.prog w4 = .ok () w5 := hU; clear hU) | fail)
              go_roundg (gk - 1)
              case measure => omega
              case rel =>
                refine ⟨j + 1, done ++ [(xa, xi)], rest, by simp, by omega, Aside0.mk (by rw [← A3.out]; simp), by simp [h3], N5.map M5 g6, below_map B6 (Nat.le_refl _) g6 (by omega), R_map HS5.out M5 g6, ?_⟩
                unfold put at M6
                rw [look_none (by
                  intro p hp
                  obtain ⟨p', hp', rfl⟩ := List.mem_map.1 hp
                  exact hnew p' hp')] at M6
                simpa using M6
          · have p2 : ((j : Int) < (l.length : Int)) = False := eq_false (by omega)
            obtain rfl : rest = [] := by
              have := congrArg List.length A3.out
              rw [pushed_length, List.length_append] at this
              exact List.eq_nil_of_length_eq_zero (by omega)
            go_wp2_with (first | (go_at_call 13; refine (NewT.pop N4 (by simp)).mono ?_; rintro e w4 ⟨rfl, N5, Q5⟩) | fail)
            go_ret
            exact ⟨rfl, below_q B4 Q5⟩
end Go.Proofs.Ytdhajfimhjbbiaa.Pure
