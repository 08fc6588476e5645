import Derived.Test.YtdhajfimhjbbiaaQA
namespace Go.Proofs.Ytdhajfimhjbbiaa.Q
open Go Go.RowKit Go.Proofs.YtdhajfimhjbbiaaW.PrintWords Go.Proofs.YtdhajfimhjbbiaaW.PrintLast Go.Proofs.YtdhajfimhjbbiaaW.PrintMore
set_option linter.unusedVariables false
def childL (xs : List (Int × Int)) (i n : Nat) : Nat := if 2 * i + 2 < n ∧ lessB (rdp xs (2 * i + 2 : Nat)) (rdp xs (2 * i + 1 : Nat)) = true then 2 * i + 2 else 2 * i + 1
/-- heap.down, as the list has it. -/
def downL : Nat → List (Int × Int) → Nat → Nat → List (Int × Int)
  | 0, xs, _, _ => xs
  | f + 1, xs, i, n => if n ≤ 2 * i + 1 then xs else if lessB (rdp xs (childL xs i n)) (rdp xs i) then downL f (swapL xs i (childL xs i n)) (childL xs i n) n else xs
set_option maxHeartbeats 4000000 in
set_option maxRecDepth 100000 in
theorem down_calls (w : World) (base b : Nat) (v : Value) (xs : List (Int × Int)) (i n : Nat) (hR : Row w base b v xs) (hn : n ≤ xs.length) (hi : i < xs.length) (hm : xs.length < 1000000) :
    Calls Try.prog 67 #[.iface 65 (.pointer (some ⟨b, 0, none⟩)), .int .i64 i, .int .i64 n] w fun e w' => (∃ r, e = .returned (.bool r)) ∧ Row w' base b v (downL (n + 1) xs i n) ∧ Eff (Foot b v) w w' := by
  go_enter Try.func67, Try.ntmps67
  go_wp2
  go_loopg [7] (n + 1) (fun k s1 wr => ∃ (i' : Nat) (xs' : List (Int × Int)), s1 = .int .i64 i' ∧ Aside0 (downL k xs' i' n = downL (n + 1) xs i n) ∧ n < i' + k ∧ i' < xs'.length ∧ xs'.length = xs.length ∧ Row wr base b v xs' ∧ Eff (Foot b v) w wr)
  case atStart => exact ⟨i, xs, rfl, Aside0.mk rfl, by omega, hi, rfl, hR, Eff.refl _ _⟩
  case round =>
    obtain ⟨i', xs', rfl, A3, h1, h2, h3, r1, e1⟩ := hrel
    obtain ⟨i1, x1⟩ : ∃ i1 : Nat, 2 * i' + 1 = i1 := ⟨_, rfl⟩
    obtain ⟨i2, x2⟩ : ∃ i2 : Nat, 2 * i' + 2 = i2 := ⟨_, rfl⟩
    have p1 : 2 * (i' : Int) + 1 = i1 := by omega
    have p2 : (i1 : Int) + 1 = i2 := by omega
    have B : i' < 1000000 := by omega
    have B' : i1 < 2000003 := by omega
    have B'' : i2 < 2000003 := by omega
    have hL := method_less ⟨b, 0, none⟩ wr v r1.cell
    clear hR hi
    by_cases hz : n ≤ i1
    · go_wp2
      go_ret
      refine ⟨⟨_, rfl⟩, ?_, e1⟩
      rw [← A3.out]
      cases gk with
      | zero => exact r1
      | succ gk => rw [downL, if_pos (by omega)]; exact r1
    · obtain ⟨k', rfl⟩ : ∃ k', gk = k' + 1 := ⟨gk - 1, by omega⟩
      have A4 : Aside0 (¬ n ≤ 2 * i' + 1) := Aside0.mk (by omega)
      by_cases h4 : i2 < n
      · obtain ⟨l1, q1⟩ : ∃ l1, lessB (rdp xs' i2) (rdp xs' i1) = l1 := ⟨_, rfl⟩
        cases l1
        · skip
          have hc : Aside0 (childL xs' i' n = i1) := Aside0.mk (by unfold childL; rw [x1, x2]; first | exact if_pos ⟨by omega, q1⟩ | exact if_neg (by rintro ⟨h1, h2⟩; omega) | exact if_neg (by rintro ⟨h1, h2⟩; rw [q1] at h2; cases h2))
          obtain ⟨l2, q2⟩ : ∃ l2, lessB (rdp xs' i1) (rdp xs' i') = l2 := ⟨_, rfl⟩
          have B2 := Aside0.mk q2
          cases l2
          · go_wp2_with (first | (go_at_call 105; refine (less_row (by assumption) _ _ (by omega) (by omega) (by omega) (by omega)).mono ?_; rintro e w1 ⟨rfl, d1⟩; have r1 := Row.after r1 d1; have e1 := Eff.drawn e1 d1; have hL := method_less ⟨b, 0, none⟩ w1 v r1.cell; have hS := method_swap ⟨b, 0, none⟩ w1 v r1.cell) | (go_at_call 106; refine (swap_row (by assumption) _ _ (by omega) (by omega) (by omega) (by omega)).mono ?_; rintro e w2 ⟨rfl, r2, e2⟩))
            go_ret
            refine ⟨⟨_, rfl⟩, ?_, e1⟩
            rw [← A3.out, downL, if_neg A4.out, hc.out, B2.out]
            exact r1
          · go_wp2_with (first | (go_at_call 105; refine (less_row (by assumption) _ _ (by omega) (by omega) (by omega) (by omega)).mono ?_; rintro e w1 ⟨rfl, d1⟩; have r1 := Row.after r1 d1; have e1 := Eff.drawn e1 d1; have hL := method_less ⟨b, 0, none⟩ w1 v r1.cell; have hS := method_swap ⟨b, 0, none⟩ w1 v r1.cell) | (go_at_call 106; refine (swap_row (by assumption) _ _ (by omega) (by omega) (by omega) (by omega)).mono ?_; rintro e w2 ⟨rfl, r2, e2⟩))
            go_roundg k'
            case measure => omega
            case rel =>
              refine ⟨i1, swapL xs' i' i1, rfl, Aside0.mk ?_, by omega, by rw [swapL_length]; omega, by rw [swapL_length]; omega, r2, e1.trans e2 (fun _ h => .inl h)⟩
              rw [← A3.out]
              conv => rhs; rw [downL, if_neg A4.out, hc.out, B2.out, if_pos rfl]
        · skip
          have hc : Aside0 (childL xs' i' n = i2) := Aside0.mk (by unfold childL; rw [x1, x2]; first | exact if_pos ⟨by omega, q1⟩ | exact if_neg (by rintro ⟨h1, h2⟩; omega) | exact if_neg (by rintro ⟨h1, h2⟩; rw [q1] at h2; cases h2))
          obtain ⟨l2, q2⟩ : ∃ l2, lessB (rdp xs' i2) (rdp xs' i') = l2 := ⟨_, rfl⟩
          have B2 := Aside0.mk q2
          cases l2
          · go_wp2_with (first | (go_at_call 105; refine (less_row (by assumption) _ _ (by omega) (by omega) (by omega) (by omega)).mono ?_; rintro e w1 ⟨rfl, d1⟩; have r1 := Row.after r1 d1; have e1 := Eff.drawn e1 d1; have hL := method_less ⟨b, 0, none⟩ w1 v r1.cell; have hS := method_swap ⟨b, 0, none⟩ w1 v r1.cell) | (go_at_call 106; refine (swap_row (by assumption) _ _ (by omega) (by omega) (by omega) (by omega)).mono ?_; rintro e w2 ⟨rfl, r2, e2⟩))
            go_ret
            refine ⟨⟨_, rfl⟩, ?_, e1⟩
            rw [← A3.out, downL, if_neg A4.out, hc.out, B2.out]
            exact r1
          · go_wp2_with (first | (go_at_call 105; refine (less_row (by assumption) _ _ (by omega) (by omega) (by omega) (by omega)).mono ?_; rintro e w1 ⟨rfl, d1⟩; have r1 := Row.after r1 d1; have e1 := Eff.drawn e1 d1; have hL := method_less ⟨b, 0, none⟩ w1 v r1.cell; have hS := method_swap ⟨b, 0, none⟩ w1 v r1.cell) | (go_at_call 106; refine (swap_row (by assumption) _ _ (by omega) (by omega) (by omega) (by omega)).mono ?_; rintro e w2 ⟨rfl, r2, e2⟩))
            go_roundg k'
            case measure => omega
            case rel =>
              refine ⟨i2, swapL xs' i' i2, rfl, Aside0.mk ?_, by omega, by rw [swapL_length]; omega, by rw [swapL_length]; omega, r2, e1.trans e2 (fun _ h => .inl h)⟩
              rw [← A3.out]
              conv => rhs; rw [downL, if_neg A4.out, hc.out, B2.out, if_pos rfl]
      · skip
        have hc : Aside0 (childL xs' i' n = i1) := Aside0.mk (by unfold childL; rw [x1, x2]; first | exact if_pos ⟨by omega, q1⟩ | exact if_neg (by rintro ⟨h1, h2⟩; omega) | exact if_neg (by rintro ⟨h1, h2⟩; rw [q1] at h2; cases h2))
        obtain ⟨l2, q2⟩ : ∃ l2, lessB (rdp xs' i1) (rdp xs' i') = l2 := ⟨_, rfl⟩
        have B2 := Aside0.mk q2
        cases l2
        · go_wp2_with (first | (go_at_call 105; refine (less_row (by assumption) _ _ (by omega) (by omega) (by omega) (by omega)).mono ?_; rintro e w1 ⟨rfl, d1⟩; have r1 := Row.after r1 d1; have e1 := Eff.drawn e1 d1; have hL := method_less ⟨b, 0, none⟩ w1 v r1.cell; have hS := method_swap ⟨b, 0, none⟩ w1 v r1.cell) | (go_at_call 106; refine (swap_row (by assumption) _ _ (by omega) (by omega) (by omega) (by omega)).mono ?_; rintro e w2 ⟨rfl, r2, e2⟩))
          go_ret
          refine ⟨⟨_, rfl⟩, ?_, e1⟩
          rw [← A3.out, downL, if_neg A4.out, hc.out, B2.out]
          exact r1
        · go_wp2_with (first | (go_at_call 105; refine (less_row (by assumption) _ _ (by omega) (by omega) (by omega) (by omega)).mono ?_; rintro e w1 ⟨rfl, d1⟩; have r1 := Row.after r1 d1; have e1 := Eff.drawn e1 d1; have hL := method_less ⟨b, 0, none⟩ w1 v r1.cell; have hS := method_swap ⟨b, 0, none⟩ w1 v r1.cell) | (go_at_call 106; refine (swap_row (by assumption) _ _ (by omega) (by omega) (by omega) (by omega)).mono ?_; rintro e w2 ⟨rfl, r2, e2⟩))
          go_roundg k'
          case measure => omega
          case rel =>
            refine ⟨i1, swapL xs' i' i1, rfl, Aside0.mk ?_, by omega, by rw [swapL_length]; omega, by rw [swapL_length]; omega, r2, e1.trans e2 (fun _ h => .inl h)⟩
            rw [← A3.out]
            conv => rhs; rw [downL, if_neg A4.out, hc.out, B2.out, if_pos rfl]
end Go.Proofs.Ytdhajfimhjbbiaa.Q
