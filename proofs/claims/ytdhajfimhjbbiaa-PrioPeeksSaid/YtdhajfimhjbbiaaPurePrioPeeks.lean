import Derived.Test.YtdhajfimhjbbiaaQAlive
import Derived.Test.YtdhajfimhjbbiaaMx0
namespace Go.Proofs.Ytdhajfimhjbbiaa.Pure
open Go Go.RowKit Go.Proofs.Ytdhajfimhjbbiaa.Q Go.Proofs.Ytdhajfimhjbbiaa.M Go.Proofs.YtdhajfimhjbbiaaW.PrintWords Go.Proofs.YtdhajfimhjbbiaaW.PrintLast Go.Proofs.YtdhajfimhjbbiaaW.PrintMore
set_option linter.unusedVariables false
set_option maxHeartbeats 4000000 in
set_option maxRecDepth 100000 in
theorem PrioPeeks_walk (A : Option Addr) (c : Nat) (l : List S30) (w : World) (h0 : (l.length ≤ maxLen ∧ ∀ a_ ∈ l, ((Lit.int .i64 a_.f0).wf = true ∧ (Lit.int .i64 a_.f1).wf = true ∧ (Lit.int .i64 a_.f2).wf = true))) (h1 : l.length * 24 ≤ 140737488351232) (hr : Kd.C k30 w A l.length l) (hc : l.length ≤ c) :
    Calls Try.prog 3 #[.slice A l.length c] w fun e w' => e = .returned (.bool true) ∧ Below w.heap.size w w' := by
  by_cases hlong : 60 < l.length
  · have p1 : (60 < (l.length : Int)) = True := eq_true (by omega)
    clear h0 h1
    go_enter Try.func3, Try.ntmps3
    go_wp2_with (go_at_call 10; refine (alive_calls _).mono ?_; rintro e w1 ⟨rfl, e1⟩)
    go_ret
    exact ⟨rfl, e1.below (Nat.le_refl _) (fun _ h => h.elim)⟩
  · have p1 : (60 < (l.length : Int)) = False := eq_false (by omega)
    have B : l.length ≤ 60 := by omega
    have H := Aside0.mk hr
    clear h0 h1 hr hlong
    go_enter Try.func3, Try.ntmps3
    go_wp2_with (go_at_call 10; refine (alive_calls _).mono ?_; rintro e w1 ⟨rfl, e1⟩; have N0 := New.mk w e1; generalize hb : w1.heap.size = b at N0)
    go_loopg [33] l.length (fun k s33 wr => ∃ (i : Nat) (ys : List (Int × Int)), s33 = .int .i64 i ∧ i + k = l.length ∧ ys.length = i ∧ New w wr b ys)
    case atStart => exact ⟨0, [], rfl, by omega, rfl, N0⟩
    case round =>
      obtain ⟨i, ys, rfl, h1, h2, N1⟩ := hrel
      clear N0 hb e1
      by_cases hz : i < l.length
      · have p2 : ((i : Int) < (l.length : Int)) = True := eq_true (by omega)
        have B2 : i < 60 := by omega
        obtain ⟨ad, rfl, x1, x2, x3⟩ := at_T30 (Kd.C_below H.out (N1.eff.below (Nat.le_refl _) (fun _ h => h.elim))) (i : Int) (by omega) (by omega)
        generalize rd_T30 l i = x at x1 x2 x3
        have e2 : (i : Int).toNat = i := by omega
        rw [e2] at x1 x2 x3
        go_wp2_with (first | (go_at_call 11; refine (New.push (xs := ys) (by first | assumption | exact New.alloc (by assumption) _) (by omega) _ _).mono ?_; rintro e w2 ⟨rfl, N2⟩; have d1 : decide (0 < (heapPushL ys (x.f1, x.f2)).length) = true := decide_eq_true (by rw [heapPushL_length]; omega)) | (go_at_call 12; refine (New.peek (by assumption)).mono ?_; rw [d1]; rintro e w3 ⟨rfl, N3⟩))
        go_roundg (gk - 1)
        case measure => omega
        case rel => exact ⟨i + 1, _, by simp, by omega, by rw [heapPushL_length, h2], N3⟩
      · have p2 : ((i : Int) < (l.length : Int)) = False := eq_false (by omega)
        go_wp2_with (fail)
        go_loopg [74] l.length (fun k s74 wr => ∃ (j : Nat) (ys : List (Int × Int)), s74 = .int .i64 j ∧ j + k = l.length ∧ ys.length = k ∧ New w wr b ys)
        case atStart => exact ⟨0, ys, rfl, by omega, by omega, N1⟩
        case round =>
          clear N1 h1 h2 p2 hz
          obtain ⟨j, zs, rfl, h1, h2, N2⟩ := hrel
          by_cases hz : j < l.length
          · have p2 : ((j : Int) < (l.length : Int)) = True := eq_true (by omega)
            have B2 : j < 60 := by omega
            have d1 : decide (0 < zs.length) = true := decide_eq_true (by omega)
            go_wp2_with (first | (go_at_call 12; refine (New.peek (by assumption)).mono ?_; rw [d1]; rintro e w3 ⟨rfl, N3⟩) | (go_at_call 13; refine (New.pop (xs := zs) (by assumption) (by omega)).mono ?_; rw [d1]; rintro e w3 ⟨rfl, N3⟩))
            go_roundg (gk - 1)
            case measure => omega
            case rel => exact ⟨j + 1, _, by simp, by omega, by rw [popL_length, h2], N3⟩
          · have p2 : ((j : Int) < (l.length : Int)) = False := eq_false (by omega)
            obtain rfl : zs = [] := List.eq_nil_of_length_eq_zero (by omega)
            go_wp2_with (first | (go_at_call 12; refine (New.peek (by assumption)).mono ?_; rintro e w3 ⟨rfl, N3⟩) | (go_at_call 14; refine (New.len (by assumption)).mono ?_; rintro e w3 ⟨rfl, N3⟩))
            go_ret
            exact ⟨rfl, N3.eff.below (Nat.le_refl _) (fun _ h => h.elim)⟩
end Go.Proofs.Ytdhajfimhjbbiaa.Pure
