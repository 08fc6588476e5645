import Derived.Test.YtdhajfimhjbbiaaQPop
namespace Go.Proofs.Ytdhajfimhjbbiaa.Q
open Go Go.RowKit Go.Proofs.YtdhajfimhjbbiaaW.PrintWords Go.Proofs.YtdhajfimhjbbiaaW.PrintLast Go.Proofs.YtdhajfimhjbbiaaW.PrintMore
set_option linter.unusedVariables false
theorem Row.form {w : World} {base b : Nat} {v : Value} {xs : List (Int × Int)} (h : Row w base b v xs) (hn : 0 < xs.length) : ∃ g cap, v = .slice (some ⟨g, 0, none⟩) xs.length cap ∧ xs.length ≤ cap := by
  obtain ⟨_, inner, ho, _⟩ := h.row
  obtain ⟨g, cap, e, _⟩ := ho.form hn
  obtain ⟨A, c, e2, hc, _⟩ := Kd.R_reads h.row
  subst e
  injection e2 with _ _ e3
  subst e3
  exact ⟨g, cap, rfl, hc⟩
theorem Row.after {w w1 : World} {base b : Nat} {v : Value} {xs : List (Int × Int)} (h : Row w base b v xs) (k : Drawn0 w w1) : Row w1 base b v xs := h.eff ((Eff.refl (fun _ => False) _).drawn k) id (fun _ _ => id)
theorem less_row {w : World} {base b : Nat} {v : Value} {xs : List (Int × Int)} (h : Row w base b v xs) (i j : Int) (hi0 : 0 ≤ i) (hi : i < xs.length) (hj0 : 0 ≤ j) (hj : j < xs.length) :
    Calls Try.prog 105 #[v, .int .i64 i, .int .i64 j] w fun e w' => e = .returned (.bool (lessB (rdp xs i) (rdp xs j))) ∧ Drawn0 w w' := by
  obtain ⟨A, c, rfl, hc, hC⟩ := Kd.R_reads h.row
  exact less_calls w A _ c xs i j hC hi0 hi hj0 hj
theorem swap_row {w : World} {base b : Nat} {v : Value} {xs : List (Int × Int)} (h : Row w base b v xs) (i j : Int) (hi0 : 0 ≤ i) (hi : i < xs.length) (hj0 : 0 ≤ j) (hj : j < xs.length) :
    Calls Try.prog 106 #[v, .int .i64 i, .int .i64 j] w fun e w' => e = .returned (.tuple #[]) ∧ Row w' base b v (swapL xs i j) ∧ Eff (Foot b v) w w' := by
  obtain ⟨g, cap, rfl, hc⟩ := h.form (by omega)
  refine (swap_calls w base g _ cap _ xs i j h.row hi0 hi hj0 hj).mono fun e w' ⟨he, hr, hg⟩ => ?_
  refine ⟨he, ⟨?_, h.from_, hr⟩, Eff.of_grown hg (fun i hi => .inr hi)⟩
  rw [hg.block b h.lt (fun e => h.ne e.symm)]
  exact h.blk
/-- heap.up, as the list has it. -/
def upL : Nat → List (Int × Int) → Nat → List (Int × Int)
  | 0, xs, _ => xs
  | f + 1, xs, j => if j = 0 then xs else if lessB (rdp xs j) (rdp xs ((j - 1) / 2 : Nat)) then upL f (swapL xs ((j - 1) / 2 : Nat) j) ((j - 1) / 2) else xs
set_option maxHeartbeats 4000000 in
set_option maxRecDepth 100000 in
theorem up_calls (w : World) (base b : Nat) (v : Value) (xs : List (Int × Int)) (j : Nat) (hR : Row w base b v xs) (hj : j < xs.length) (hm : xs.length < 1000000) :
    Calls Try.prog 66 #[.iface 65 (.pointer (some ⟨b, 0, none⟩)), .int .i64 j] w fun e w' => e = .returned (.tuple #[]) ∧ Row w' base b v (upL (j + 1) xs j) ∧ Eff (Foot b v) w w' := by
  go_enter Try.func66, Try.ntmps66
  go_wp2
  go_loopg [1] (j + 1) (fun k s1 wr => ∃ (j' : Nat) (xs' : List (Int × Int)), s1 = .int .i64 j' ∧ Aside0 (j' < k ∧ j' < xs'.length ∧ xs'.length = xs.length ∧ upL k xs' j' = upL (j + 1) xs j) ∧ Aside0 (Row wr base b v xs' ∧ Eff (Foot b v) w wr))
  case atStart => exact ⟨j, xs, rfl, Aside0.mk ⟨by omega, hj, rfl, rfl⟩, Aside0.mk ⟨hR, Eff.refl _ _⟩⟩
  case round =>
    obtain ⟨j', xs', rfl, A1, A2⟩ := hrel
    obtain ⟨h1, h2, h3, h4⟩ := A1.out
    obtain ⟨r1, e1⟩ := A2.out
    clear A1 A2
    by_cases hz : j' = 0
    · subst hz
      have A3 := Aside0.mk (And.intro h1 (And.intro h2 (And.intro h3 (And.intro h4 (And.intro r1 e1)))))
      clear h1 h2 h3 h4 r1 e1 hR
      go_wp2
      go_end0
      obtain ⟨h1, h2, h3, h4, r1, e1⟩ := A3.out
      obtain ⟨k', rfl⟩ : ∃ k', gk = k' + 1 := ⟨gk - 1, by omega⟩
      rw [← h4]
      exact ⟨rfl, by simpa [upL] using r1, e1⟩
    · have A3 := Aside0.mk (And.intro h1 (And.intro h2 (And.intro h3 (And.intro h4 (And.intro r1 e1)))))
      obtain ⟨i, hi⟩ : ∃ i : Nat, i = (j' - 1) / 2 := ⟨_, rfl⟩
      have q1 : ((j' : Int) - 1).tdiv 2 = (i : Int) := by rw [show ((j' : Int) - 1) = ((j' - 1 : Nat) : Int) by omega]; rw [hi]; exact (Int.ofNat_tdiv _ _).symm
      have q2 : ((i : Int) == (j' : Int)) = false := beq_eq_false_iff_ne.2 (by omega)
      have hv := r1.cell
      have q3 : wrap64 (i : Int) = i := by unfold wrap64; omega
      have hL := method_less ⟨b, 0, none⟩ wr v hv
      have B : j' < 1000000 := by omega
      have A4 := Aside0.mk hi
      obtain ⟨lb, hlb⟩ : ∃ lb, lb = lessB (rdp xs' j') (rdp xs' i) := ⟨_, rfl⟩
      have A5 := Aside0.mk hlb
      have C := less_row r1 j' i (by omega) (by omega) (by omega) (by omega)
      rw [← hlb] at C
      clear h1 h2 h3 h4 r1 e1 hR hi hlb
      obtain ⟨k', rfl⟩ : ∃ k', gk = k' + 1 := ⟨gk - 1, by have := A3.out; omega⟩
      cases lb
      · go_wp2_with (go_at_call 105; refine C.mono ?_; rintro e w1 ⟨rfl, d1⟩)
        go_end0
        obtain ⟨h1, h2, h3, h4, r1, e1⟩ := A3.out
        have hlb := A5.out
        have hi := A4.out
        rw [← h4]
        refine ⟨rfl, ?_, e1.drawn d1⟩
        unfold upL
        rw [if_neg hz, ← hi, ← hlb]
        exact r1.after d1
      · go_wp2_with (first | (go_at_call 105; refine C.mono ?_; rintro e w1 ⟨rfl, d1⟩; have hS := method_swap ⟨b, 0, none⟩ w1 v (Row.cell (Row.after A3.out.2.2.2.2.1 d1))) | (go_at_call 106; refine (swap_row (Row.after A3.out.2.2.2.2.1 d1) i j' (by omega) (by have := A3.out; have := A4.out; omega) (by omega) (by have := A3.out; omega)).mono ?_; rintro e w2 ⟨rfl, r2, e2⟩))
        go_roundg k'
        case measure => omega
        case rel =>
          obtain ⟨h1, h2, h3, h4, r1, e1⟩ := A3.out
          have hlb := A5.out
          have hi := A4.out
          refine ⟨i, swapL xs' i j', rfl, Aside0.mk ⟨by omega, by rw [swapL_length]; omega, by rw [swapL_length]; omega, ?_⟩, Aside0.mk ⟨r2, (e1.drawn d1).trans e2 (fun _ h => .inl h)⟩⟩
          rw [← h4]
          conv => rhs; unfold upL
          rw [if_neg hz, ← hi, ← hlb, if_pos rfl]
end Go.Proofs.Ytdhajfimhjbbiaa.Q
