import Derived.Test.YtdhajfimhjbbiaaQHeap
namespace Go.Proofs.Ytdhajfimhjbbiaa.Q
open Go Go.RowKit Go.Proofs.YtdhajfimhjbbiaaW.PrintWords Go.Proofs.YtdhajfimhjbbiaaW.PrintLast Go.Proofs.YtdhajfimhjbbiaaW.PrintMore
set_option linter.unusedVariables false
set_option maxHeartbeats 4000000 in
set_option maxRecDepth 100000 in
theorem init_calls (w : World) (base b : Nat) (v : Value) (xs : List (Int × Int)) (hR : Row w base b v xs) (hm : xs.length < 900000) :
    Calls Try.prog 28 #[.iface 65 (.pointer (some ⟨b, 0, none⟩))] w fun e w' => e = .returned (.tuple #[]) ∧ Row w' base b v (initL (xs.length / 2) xs xs.length) ∧ Eff (Foot b v) w w' := by
  have hL := method_len ⟨b, 0, none⟩ w v hR.cell
  have B : xs.length < 900000 := hm
  go_enter Try.func28, Try.ntmps28
  go_wp2_with (first | (go_at_call 104; refine (len_row hR).mono ?_; rintro e w2 ⟨rfl, hw2⟩; have hw3 := hw2.symm; subst hw3))
  go_loopg [3] (xs.length / 2) (fun k s3 wr => ∃ (j : Int) (xs' : List (Int × Int)), s3 = .int .i64 j ∧ j = (k : Int) - 1 ∧ Aside0 (initL k xs' xs.length = initL (xs.length / 2) xs xs.length) ∧ k ≤ xs.length ∧ xs'.length = xs.length ∧ Row wr base b v xs' ∧ Eff (Foot b v) w wr)
  case atStart => exact ⟨_, xs, rfl, by omega, Aside0.mk rfl, by omega, rfl, hR, Eff.refl _ _⟩
  case round =>
    obtain ⟨j, xs', rfl, hj, A3, h2, h3, r1, e1⟩ := hrel
    clear hR hL
    cases gk with
    | zero =>
      have p1 : (0 ≤ j) = False := eq_false (by omega)
      clear hj
      go_wp2
      go_end0
      refine ⟨rfl, ?_, e1⟩
      rw [← A3.out]
      exact r1
    | succ k =>
      obtain rfl : j = (k : Int) := by omega
      clear hj
      go_wp2_with (go_at_call 67; refine (down_calls _ base b v _ k xs.length r1 (by omega) (by omega) (by omega)).mono ?_; rintro e w3 ⟨⟨q, rfl⟩, r3, e3⟩)
      go_roundg k
      case measure => omega
      case rel => exact ⟨_, _, rfl, rfl, Aside0.mk (by rw [← A3.out]; rfl), by omega, by rw [downL_length]; exact h3, r3, e1.trans e3 (fun _ h => .inl h)⟩
end Go.Proofs.Ytdhajfimhjbbiaa.Q
