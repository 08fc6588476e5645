/- What one transaction does changes nothing of another one (TxnOthers). Conditions: none beyond the given row's own. -/
import Derived.Test.YtcgncdcihglgdaaTAlive
import Derived.Test.YtcgncdcihglgdaaTTwo
namespace Go.Proofs.Ytcgncdcihglgdaa.Pure
open Go Go.RowKit Go.Proofs.YtcgncdcihglgdaaW.PrintWords Go.Proofs.YtcgncdcihglgdaaW.PrintLast Go.Proofs.YtcgncdcihglgdaaW.PrintMore Go.Proofs.Ytcgncdcihglgdaa.L Go.Proofs.Ytcgncdcihglgdaa.M Go.Proofs.Ytcgncdcihglgdaa.T
set_option linter.unusedVariables false
set_option linter.unusedSimpArgs false
set_option maxHeartbeats 1600000 in
set_option maxRecDepth 100000 in
theorem TxnOthers_walk (A : Option Addr) (c : Nat) (l : List S44) (w : World) (h0 : (l.length ≤ maxLen ∧ ∀ a_ ∈ l, ((Lit.int .i64 a_.f0).wf = true ∧ (Lit.int .i64 a_.f1).wf = true ∧ (Lit.int .i64 a_.f2).wf = true ∧ (a_.f3.length ≤ maxLen ∧ ∀ b_ ∈ a_.f3, (Lit.int .i64 b_).wf = true)))) (h1 : l.length * 48 ≤ 140737488351232) (hr : Kd.C k44 w A l.length l) (hc : l.length ≤ c) :
    Calls Try.prog 5 #[.slice A l.length c] w fun e w' => e = .returned (.bool true) ∧ Below w.heap.size w w' := by
  by_cases hs : 60 < l.length
  · have p1 : ((l.length : Int) > 60) = True := eq_true (by omega)
    clear h0 h1
    go_enter Try.func5, Try.ntmps5
    go_wp2_with (go_at_call 7; refine (alive_calls _).mono ?_; rintro e w1 ⟨rfl, e1⟩)
    go_ret
    exact ⟨rfl, e1.below⟩
  have p1 : ((l.length : Int) > 60) = False := eq_false (by omega)
  have B : l.length ≤ 60 := by omega
  have H := Aside0.mk hr
  clear h0 h1 hr hs
  go_enter Try.func5, Try.ntmps5
  go_wp2_with (first
    | (go_at_call 7; refine (alive_calls _).mono ?_; rintro e w1 ⟨rfl, e1⟩; have N0 := T0.made e1; clear e1)
    | (go_at_call 8; refine (T0.begin N0).mono ?_; rintro e w2 ⟨rfl, m, b, N1⟩; clear N0)
    | (go_at_call 9; refine (T1.log N1 77).mono ?_; rintro e w3 ⟨rfl, N2⟩; replace N2 : Own w w3 (TabAt _ (T1 m b ⟨77, [], []⟩)) := N2; clear N1)
    | (go_at_call 12; refine (T1.update (l := [5, 6]) (N2.alloc _) (litC w3 [5, 6] (by decide)) (by decide) (by decide)).mono ?_; rintro e w4 ⟨rfl, N3⟩; replace N3 : Own w w4 (TabAt _ (T1 m b ⟨77, [[5, 6]], []⟩)) := N3; clear N2)
    | (go_at_call 10; refine (T1.save N3 (by decide) (by decide)).mono ?_; rintro e w5 ⟨rfl, N4⟩; replace N4 : Own w w5 (TabAt _ (T1 m b XA)) := N4; clear N3)
    | (go_at_call 8; refine (T1.begin2 N4).mono ?_; rintro e w6 ⟨rfl, m2, bb, N5⟩; clear N4))
  generalize w1.heap.size = tb at N5 ⊢
  go_loopg [51] l.length (fun gk s51 wr => ∃ (i : Nat) (y : Option One), s51 = .int .i64 i ∧ i + gk = l.length ∧ Aside0 (OkY i y) ∧ Own w wr (TabAt tb (S2 m2 b bb y)))
  case atStart => exact ⟨0, _, rfl, by omega, Aside0.mk (OkY.some' (Nat.le_refl _) (Nat.zero_le _)), N5⟩
  case round =>
    clear N5
    obtain ⟨i, y, rfl, h1, A1, N1⟩ := hrel
    by_cases hz : i < l.length
    · have p4 : ((i : Int) < (l.length : Int)) = True := eq_true (by omega)
      have B3 : i < 60 := by omega
      obtain ⟨ad, A0, c0, ea, x0, x1, x2, x3, hc3, hC0⟩ := at_T44 (Kd.C_below H.out N1.below) (i : Int) (by omega) (by omega)
      subst ea
      rw [Int.toNat_natCast] at x0 x1 x2 x3
      generalize rd_T44 l i = o at *
      obtain ⟨q, f1, f2, pg⟩ := o
      dsimp only at x0 x1 x2 x3 hc3 hC0
      by_cases hb : 20 < pg.length
      · have p5 : ((pg.length : Int) > 20) = True := eq_true (by omega)
        clear hC0
        go_wp2
        go_ret
        exact ⟨rfl, (N1.alloc _).below⟩
      have p5 : ((pg.length : Int) > 20) = False := eq_false (by omega)
      by_cases q2 : q = 2
      · subst q2
        go_wp2_with (first
          | (go_at_call 9; refine (S2.log (N1.alloc _) A1.out f2).mono ?_; rintro e w7 ⟨⟨r, rfl⟩, y2, hy, N2⟩; have hy2 := Aside0.mk hy; clear hy)
          | (go_at_call 18; refine (S2.last N2).mono ?_; rintro e w8 ⟨rfl, N3⟩)
          | (go_at_call 15; refine (S2.freed N3).mono ?_; rintro e w9 ⟨A9, c9, rfl, hc9, hC9, N4⟩)
          | (go_at_call 14; refine (same_calls (w9.alloc _) A9 c9 [5, 6] _ 2 [5, 6] (Kd.C_alloc hC9 _) hc9 (litC w9 [5, 6] (by decide)) (by decide) (by decide)).mono ?_; rintro e w10 ⟨rfl, d10⟩; have N5 := (N4.alloc (.cells (nums .i64 [5, 6]).toArray 3)).drawn d10)
          | (go_at_call 16; refine (S2.updates N5 hy2.out (by omega)).mono ?_; rintro e w11 ⟨kk, rfl, hkk, N6⟩))
        go_roundg (gk - 1)
        case measure => omega
        case rel => exact ⟨i + 1, y2, by simp, by omega, hy2, N6⟩
      by_cases q3 : q = 3
      · subst q3
        go_wp2_with (first
          | (go_at_call 12; refine (S2.update (N1.alloc _) A1.out (by omega) (Kd.C_alloc hC0 _) (by omega)).mono ?_; rintro e w7 ⟨⟨r, rfl⟩, y2, hy, N2⟩; have hy2 := Aside0.mk hy; clear hy)
          | (go_at_call 18; refine (S2.last N2).mono ?_; rintro e w8 ⟨rfl, N3⟩)
          | (go_at_call 15; refine (S2.freed N3).mono ?_; rintro e w9 ⟨A9, c9, rfl, hc9, hC9, N4⟩)
          | (go_at_call 14; refine (same_calls (w9.alloc _) A9 c9 [5, 6] _ 2 [5, 6] (Kd.C_alloc hC9 _) hc9 (litC w9 [5, 6] (by decide)) (by decide) (by decide)).mono ?_; rintro e w10 ⟨rfl, d10⟩; have N5 := (N4.alloc (.cells (nums .i64 [5, 6]).toArray 3)).drawn d10)
          | (go_at_call 16; refine (S2.updates N5 hy2.out (by omega)).mono ?_; rintro e w11 ⟨kk, rfl, hkk, N6⟩))
        go_roundg (gk - 1)
        case measure => omega
        case rel => exact ⟨i + 1, y2, by simp, by omega, hy2, N6⟩
      by_cases q4 : q = 4
      · subst q4
        go_wp2_with (first
          | (go_at_call 13; refine (S2.undo (N1.alloc _) A1.out (by omega)).mono ?_; rintro e w7 ⟨⟨r, rfl⟩, y2, hy, N2⟩; have hy2 := Aside0.mk hy; clear hy)
          | (go_at_call 18; refine (S2.last N2).mono ?_; rintro e w8 ⟨rfl, N3⟩)
          | (go_at_call 15; refine (S2.freed N3).mono ?_; rintro e w9 ⟨A9, c9, rfl, hc9, hC9, N4⟩)
          | (go_at_call 14; refine (same_calls (w9.alloc _) A9 c9 [5, 6] _ 2 [5, 6] (Kd.C_alloc hC9 _) hc9 (litC w9 [5, 6] (by decide)) (by decide) (by decide)).mono ?_; rintro e w10 ⟨rfl, d10⟩; have N5 := (N4.alloc (.cells (nums .i64 [5, 6]).toArray 3)).drawn d10)
          | (go_at_call 16; refine (S2.updates N5 hy2.out (by omega)).mono ?_; rintro e w11 ⟨kk, rfl, hkk, N6⟩))
        go_roundg (gk - 1)
        case measure => omega
        case rel => exact ⟨i + 1, y2, by simp, by omega, hy2, N6⟩
      by_cases q5 : q = 5
      · subst q5
        go_wp2_with (first
          | (go_at_call 10; refine (S2.save (N1.alloc _) A1.out (by omega)).mono ?_; rintro e w7 ⟨⟨r, rfl⟩, y2, hy, N2⟩; have hy2 := Aside0.mk hy; clear hy)
          | (go_at_call 18; refine (S2.last N2).mono ?_; rintro e w8 ⟨rfl, N3⟩)
          | (go_at_call 15; refine (S2.freed N3).mono ?_; rintro e w9 ⟨A9, c9, rfl, hc9, hC9, N4⟩)
          | (go_at_call 14; refine (same_calls (w9.alloc _) A9 c9 [5, 6] _ 2 [5, 6] (Kd.C_alloc hC9 _) hc9 (litC w9 [5, 6] (by decide)) (by decide) (by decide)).mono ?_; rintro e w10 ⟨rfl, d10⟩; have N5 := (N4.alloc (.cells (nums .i64 [5, 6]).toArray 3)).drawn d10)
          | (go_at_call 16; refine (S2.updates N5 hy2.out (by omega)).mono ?_; rintro e w11 ⟨kk, rfl, hkk, N6⟩))
        go_roundg (gk - 1)
        case measure => omega
        case rel => exact ⟨i + 1, y2, by simp, by omega, hy2, N6⟩
      by_cases q6 : q = 6
      · subst q6
        go_wp2_with (first
          | (go_at_call 11; refine (S2.back (N1.alloc _) A1.out f2).mono ?_; rintro e w7 ⟨⟨r, rfl⟩, y2, hy, N2⟩; have hy2 := Aside0.mk hy; clear hy)
          | (go_at_call 18; refine (S2.last N2).mono ?_; rintro e w8 ⟨rfl, N3⟩)
          | (go_at_call 15; refine (S2.freed N3).mono ?_; rintro e w9 ⟨A9, c9, rfl, hc9, hC9, N4⟩)
          | (go_at_call 14; refine (same_calls (w9.alloc _) A9 c9 [5, 6] _ 2 [5, 6] (Kd.C_alloc hC9 _) hc9 (litC w9 [5, 6] (by decide)) (by decide) (by decide)).mono ?_; rintro e w10 ⟨rfl, d10⟩; have N5 := (N4.alloc (.cells (nums .i64 [5, 6]).toArray 3)).drawn d10)
          | (go_at_call 16; refine (S2.updates N5 hy2.out (by omega)).mono ?_; rintro e w11 ⟨kk, rfl, hkk, N6⟩))
        go_roundg (gk - 1)
        case measure => omega
        case rel => exact ⟨i + 1, y2, by simp, by omega, hy2, N6⟩
      by_cases q7 : q = 7
      · subst q7
        go_wp2_with (first
          | (go_at_call 17; refine (S2.end_ (N1.alloc _) A1.out).mono ?_; rintro e w7 ⟨⟨r, rfl⟩, y2, hy, N2⟩; have hy2 := Aside0.mk hy; clear hy)
          | (go_at_call 18; refine (S2.last N2).mono ?_; rintro e w8 ⟨rfl, N3⟩)
          | (go_at_call 15; refine (S2.freed N3).mono ?_; rintro e w9 ⟨A9, c9, rfl, hc9, hC9, N4⟩)
          | (go_at_call 14; refine (same_calls (w9.alloc _) A9 c9 [5, 6] _ 2 [5, 6] (Kd.C_alloc hC9 _) hc9 (litC w9 [5, 6] (by decide)) (by decide) (by decide)).mono ?_; rintro e w10 ⟨rfl, d10⟩; have N5 := (N4.alloc (.cells (nums .i64 [5, 6]).toArray 3)).drawn d10)
          | (go_at_call 16; refine (S2.updates N5 hy2.out (by omega)).mono ?_; rintro e w11 ⟨kk, rfl, hkk, N6⟩))
        go_roundg (gk - 1)
        case measure => omega
        case rel => exact ⟨i + 1, y2, by simp, by omega, hy2, N6⟩
      have N2 := N1.alloc (.cells #[.int .i64 q, .int .i64 f1, .int .i64 f2, .slice A0 pg.length c0] 44)
      have hy2 := Aside0.mk (OkY.mono A1.out (Nat.le_succ i))
      have s2 : (q == 2) = false := by rw [beq_eq_false_iff_ne]; exact q2
      replace q2 : (q = 2) = False := eq_false q2
      have s3 : (q == 3) = false := by rw [beq_eq_false_iff_ne]; exact q3
      replace q3 : (q = 3) = False := eq_false q3
      have s4 : (q == 4) = false := by rw [beq_eq_false_iff_ne]; exact q4
      replace q4 : (q = 4) = False := eq_false q4
      have s5 : (q == 5) = false := by rw [beq_eq_false_iff_ne]; exact q5
      replace q5 : (q = 5) = False := eq_false q5
      have s6 : (q == 6) = false := by rw [beq_eq_false_iff_ne]; exact q6
      replace q6 : (q = 6) = False := eq_false q6
      have s7 : (q == 7) = false := by rw [beq_eq_false_iff_ne]; exact q7
      replace q7 : (q = 7) = False := eq_false q7
      go_wp2_with (first
        | (go_at_call 18; refine (S2.last N2).mono ?_; rintro e w8 ⟨rfl, N3⟩)
        | (go_at_call 15; refine (S2.freed N3).mono ?_; rintro e w9 ⟨A9, c9, rfl, hc9, hC9, N4⟩)
        | (go_at_call 14; refine (same_calls (w9.alloc _) A9 c9 [5, 6] _ 2 [5, 6] (Kd.C_alloc hC9 _) hc9 (litC w9 [5, 6] (by decide)) (by decide) (by decide)).mono ?_; rintro e w10 ⟨rfl, d10⟩; have N5 := (N4.alloc (.cells (nums .i64 [5, 6]).toArray 3)).drawn d10)
        | (go_at_call 16; refine (S2.updates N5 hy2.out (by omega)).mono ?_; rintro e w11 ⟨kk, rfl, hkk, N6⟩))
      go_roundg (gk - 1)
      case measure => omega
      case rel => exact ⟨i + 1, y, by simp, by omega, hy2, N6⟩
    · have p4 : ((i : Int) < (l.length : Int)) = False := eq_false (by omega)
      go_wp2_with (first
        | (go_at_call 11; refine (S2.back1 N1).mono ?_; rintro e w7 ⟨rfl, N2⟩)
        | (go_at_call 17; refine (S2.end1 N2).mono ?_; rintro e w8 ⟨rfl, N3⟩; clear N2)
        | (go_at_call 17; refine (S3.end1 N3).mono ?_; rintro e w9 ⟨rfl, N4⟩))
      go_ret
      exact ⟨rfl, N4.below⟩
end Go.Proofs.Ytcgncdcihglgdaa.Pure
