import Derived.Test.YtdhajfimhjbbiaaQSorted
import Derived.Test.YtdhajfimhjbbiaaMx0
namespace Go.Proofs.Ytdhajfimhjbbiaa.Pure
open Go Go.RowKit Go.Proofs.Ytdhajfimhjbbiaa.Q Go.Proofs.Ytdhajfimhjbbiaa.M Go.Proofs.YtdhajfimhjbbiaaW.PrintWords Go.Proofs.YtdhajfimhjbbiaaW.PrintLast Go.Proofs.YtdhajfimhjbbiaaW.PrintMore
set_option linter.unusedVariables false
theorem wf64 {a : Int} (h : (Lit.int .i64 a).wf = true) : -9223372036854775808 ≤ a ∧ a ≤ 9223372036854775807 := by
  have h2 : (decide (-9223372036854775808 ≤ a) && decide (a ≤ 9223372036854775807)) = true := h
  simpa using h2
theorem greater_end {ys : List (Int × Int)} {top low : Int} (h3 : low ≤ top) (h : ∀ y ∈ ys, low ≤ y.1 ∧ y.1 ≤ top) (w1 : (Lit.int .i64 top).wf = true) (w2 : (Lit.int .i64 low).wf = true) (n1 : ¬ top = 9223372036854775807) (n2 : (low == -9223372036854775808) = false) :
    insL (wrap64 (low - 1), 2000) (insL (wrap64 (top + 1), 1000) ys) = (wrap64 (top + 1), 1000) :: (ys ++ [(wrap64 (low - 1), 2000)]) ∧ True := by
  have a1 : -9223372036854775808 ≤ top ∧ top ≤ 9223372036854775807 := wf64 w1
  have a2 : -9223372036854775808 ≤ low ∧ low ≤ 9223372036854775807 := wf64 w2
  have n2' : low ≠ -9223372036854775808 := by simpa using n2
  have e1 : wrap64 (top + 1) = top + 1 := by unfold wrap64; omega
  have e2 : wrap64 (low - 1) = low - 1 := by unfold wrap64; omega
  rw [e1, e2]
  have k1 : insL (top + 1, 1000) ys = (top + 1, 1000) :: ys := insL_first (fun x hx => by
    have := h x hx
    rw [← Bool.not_eq_true, lessB_iff]
    dsimp only
    omega)
  have k2 : insL (low - 1, 2000) ((top + 1, 1000) :: ys) = ((top + 1, 1000) :: ys) ++ [(low - 1, 2000)] := insL_last (fun x hx => by
    rw [lessB_iff]
    rcases List.mem_cons.1 hx with rfl | hx
    · dsimp only; omega
    · have := h x hx
      dsimp only
      omega)
  exact ⟨by rw [k1, k2]; rfl, trivial⟩
set_option maxHeartbeats 4000000 in
set_option maxRecDepth 100000 in
theorem PrioGreater_walk (A : Option Addr) (c : Nat) (l : List Int) (a1 : Int) (w : World) (h0 : (l.length ≤ maxLen ∧ ∀ a_ ∈ l, (Lit.int .i64 a_).wf = true)) (h1 : l.length * 8 ≤ 140737488351232) (hn : (Lit.int .i64 a1).wf = true) (hr : Kd.C (Kd.int .i64) w A l.length l) (hc : l.length ≤ c) :
    Calls Try.prog 4 #[.slice A l.length c, .int .i64 a1] w fun e w' => e = .returned (.bool true) ∧ Below w.heap.size w w' := by
  by_cases hlong : 60 < l.length
  · have p1 : (60 < (l.length : Int)) = True := eq_true (by omega)
    clear h0 h1
    go_enter Try.func4, Try.ntmps4
    go_wp2_with (go_at_call 10; refine (alive_calls _).mono ?_; rintro e w1 ⟨rfl, e1⟩)
    go_ret
    exact ⟨rfl, e1.below (Nat.le_refl _) (fun _ h => h.elim)⟩
  · have p1 : (60 < (l.length : Int)) = False := eq_false (by omega)
    have B : l.length ≤ 60 := by omega
    have H := Aside0.mk hr
    have H2 := Aside0.mk (And.intro h0.2 hn)
    clear h0 h1 hr hlong hn
    go_enter Try.func4, Try.ntmps4
    go_wp2_with (go_at_call 10; refine (alive_calls _).mono ?_; rintro e w1 ⟨rfl, e1⟩; have N0 := NewS.mk w e1; generalize hb : w1.heap.size = b at N0)
    go_loopg [6, 7, 28] l.length (fun k s6 s7 s28 wr => ∃ (i : Nat) (top low : Int) (ys : List (Int × Int)), s6 = .int .i64 top ∧ s7 = .int .i64 low ∧ s28 = .int .i64 i ∧ i + k = l.length ∧ ys.length = i ∧ low ≤ top ∧ Aside0 ((Lit.int .i64 top).wf = true ∧ (Lit.int .i64 low).wf = true) ∧ Aside0 (∀ y ∈ ys, low ≤ y.1 ∧ y.1 ≤ top) ∧ NewS w wr b ys)
    case atStart => exact ⟨0, a1, a1, [], rfl, rfl, rfl, by omega, rfl, by omega, Aside0.mk ⟨H2.out.2, H2.out.2⟩, Aside0.mk (by simp), N0⟩
    case round =>
      obtain ⟨i, top, low, ys, rfl, rfl, rfl, h1, h2, h3, A0, A1, N1⟩ := hrel
      clear N0 hb e1
      by_cases hz : i < l.length
      · have p2 : ((i : Int) < (l.length : Int)) = True := eq_true (by omega)
        have B2 : i < 60 := by omega
        obtain ⟨ad, rfl, x1⟩ := Kd.at_int (Kd.C_below H.out N1.below) (i : Int) (by omega) (by omega)
        have hx : (Lit.int .i64 (rd l i)).wf = true := H2.out.1 _ (by unfold rd; rw [Int.toNat_natCast, List.getD_eq_getElem?_getD, List.getElem?_eq_getElem hz]; exact List.getElem_mem _)
        have H3 := Aside0.mk hx
        clear hx
        have e2 : (i : Int).toNat = i := by omega
        rw [e2] at x1
        generalize rd l i = x0 at x1 H3
        go_wp2_with (first | (go_at_call 11; refine (NewS.push (l := ys) (by first | assumption | exact NewS.alloc (by assumption) _ | exact NewS.drew (by assumption) | exact NewS.drewN (by assumption) _) (by omega) _ _).mono ?_; rintro e w2 ⟨rfl, N2⟩))
        case _ => go_ret; exact ⟨rfl, N1.below⟩
        case _ => go_ret; exact ⟨rfl, N1.below⟩
        all_goals go_roundg (gk - 1)
        all_goals first
          | (case measure => omega)
          | (case rel =>
              refine ⟨i + 1, _, _, insL (x0, i) ys, rfl, rfl, by simp, by omega, by rw [insL_length]; omega, by omega, Aside0.mk ⟨by first | exact H3.out | exact A0.out.1, by first | exact H3.out | exact A0.out.2⟩, Aside0.mk ?_, N2⟩
              intro y hy
              have hA := A1.out
              rcases insL_mem.1 hy with rfl | hy
              · exact ⟨by dsimp only; omega, by dsimp only; omega⟩
              · have := hA y hy; exact ⟨by omega, by omega⟩)
      · have p2 : ((i : Int) < (l.length : Int)) = False := eq_false (by omega)
        go_wp2_with (first | (go_at_call 11; refine (NewS.push (by assumption) (by first | omega | (rw [insL_length]; omega)) _ _).mono ?_; rintro e w2 ⟨rfl, N2⟩) | fail)
        case _ => go_ret; exact ⟨rfl, N1.below⟩
        case _ => go_ret; exact ⟨rfl, N1.below⟩
        have hb1 : ¬ top = 9223372036854775807 := by assumption
        have hb2 : (top == 9223372036854775807) = false ∧ (low == -9223372036854775808) = false := by assumption
        obtain ⟨a, c2⟩ := greater_end h3 A1.out A0.out.1 A0.out.2 hb1 hb2.2
        rw [a] at N2
        generalize wrap64 (top + 1) = x at N2
        generalize wrap64 (low - 1) = y at N2
        clear hb1 hb2 a c2
        have hl : ((x, (1000 : Int)) :: (ys ++ [(y, (2000 : Int))])).length = l.length + 2 := by simp; omega
        have d1 : decide (0 < ((x, (1000 : Int)) :: (ys ++ [(y, (2000 : Int))])).length) = true := decide_eq_true (by simp)
        go_wp2_with (go_at_call 13; refine (NewS.pop N2 (by rw [hl]; omega)).mono ?_; rw [d1]; simp only [hd, List.getD_cons_zero, List.tail_cons]; rintro e w3 ⟨rfl, N3⟩)
        go_loopg [13, 79] (l.length + 1) (fun k s13 s79 wr => ∃ (j : Nat) (lst : Int) (zs : List (Int × Int)), s13 = .int .i64 lst ∧ s79 = .int .i64 j ∧ j + k = l.length + 1 ∧ zs.length = k ∧ Aside0 ((∃ us, zs = us ++ [(y, 2000)]) ∨ (zs = [] ∧ lst = 2000)) ∧ NewS w wr b zs)
        case atStart => exact ⟨0, 0, _, rfl, rfl, by omega, by simp; omega, Aside0.mk (.inl ⟨_, rfl⟩), N3⟩
        case round =>
          clear N3 N2 N1 h1 h2 hl d1 p2
          obtain ⟨j, lst, zs, rfl, rfl, h1, h2, A2, N2⟩ := hrel
          by_cases hj : j < l.length + 1
          · have B2 : j < 61 := by omega
            have p2 : ((j : Int) < (l.length : Int) + 1) = True := eq_true (by omega)
            go_wp2_with (go_at_call 13; refine (NewS.pop N2 (by omega)).mono ?_; rintro e w3 ⟨rfl, N3⟩)
            go_roundg (gk - 1)
            case measure => omega
            case rel =>
              refine ⟨j + 1, _, _, rfl, by simp, by omega, by simp; omega, Aside0.mk ?_, N3⟩
              rcases A2.out with ⟨us, rfl⟩ | ⟨rfl, _⟩
              · cases us with
                | nil => exact .inr ⟨rfl, rfl⟩
                | cons u us => exact .inl ⟨us, rfl⟩
              · simp at h2; omega
          · have p2 : ((j : Int) < (l.length : Int) + 1) = False := eq_false (by omega)
            obtain rfl : gk = 0 := by omega
            obtain ⟨rfl, rfl⟩ : zs = [] ∧ lst = 2000 := by
              rcases A2.out with ⟨us, rfl⟩ | h
              · simp at h2
              · exact h
            go_wp2_with (go_at_call 14; refine (NewS.len N2).mono ?_; rintro e w3 ⟨rfl, N3⟩)
            go_ret
            exact ⟨rfl, N3.below⟩
end Go.Proofs.Ytdhajfimhjbbiaa.Pure
