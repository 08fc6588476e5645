import Derived.Test.YtcgncdcihglgdaaTOne
import Derived.Test.YtcgncdcihglgdaaSInts
namespace Go.Proofs.Ytcgncdcihglgdaa.T
open Go Go.RowKit Go.Proofs.YtcgncdcihglgdaaW.PrintWords Go.Proofs.YtcgncdcihglgdaaW.PrintLast Go.Proofs.YtcgncdcihglgdaaW.PrintMore Go.Proofs.Ytcgncdcihglgdaa.L Go.Proofs.Ytcgncdcihglgdaa.M
set_option linter.unusedVariables false
set_option linter.unusedSimpArgs false
set_option maxHeartbeats 4000000 in
set_option maxRecDepth 100000 in
theorem alive_calls (w : World) : Calls Try.prog 7 #[] w fun e w' => e = .returned (.bool true) ∧ Own w w' Emp := by
  have N0 := T0.made (Own.start w)
  go_enter Try.func7, Try.ntmps7
  go_wp2_with (first
    | (go_at_call 8; refine (T0.begin N0).mono ?_; rintro e w1 ⟨rfl, m, b, N1⟩)
    | (go_at_call 9; refine (T1.log N1 5).mono ?_; rintro e w2 ⟨rfl, N2⟩; replace N2 : Own w w2 (TabAt _ (T1 m b ⟨5, [], []⟩)) := N2; clear N1)
    | (go_at_call 12; refine (T1.update (l := [9]) (N2.alloc _) (litC w2 [9] (by decide)) (by decide) (by decide)).mono ?_; rintro e w3 ⟨rfl, N3⟩; replace N3 : Own w w3 (TabAt _ (T1 m b ⟨5, [[9]], []⟩)) := N3)
    | (go_at_call 10; refine (T1.save N3 (by decide) (by decide)).mono ?_; rintro e w4 ⟨rfl, N4⟩; replace N4 : Own w w4 (TabAt _ (T1 m b ⟨5, [[9]], [(5, 1)]⟩)) := N4)
    | (go_at_call 9; refine (T1.log N4 9).mono ?_; rintro e w5 ⟨rfl, N5⟩; replace N5 : Own w w5 (TabAt _ (T1 m b ⟨9, [[9]], [(5, 1)]⟩)) := N5)
    | (go_at_call 11; refine (T1.back N5 0 (by decide) (by decide)).mono ?_; rintro e w6 ⟨rfl, N6⟩; replace N6 : Own w w6 (TabAt _ (T1 m b ⟨9, [[9]], [(5, 1)]⟩)) := N6)
    | (go_at_call 16; refine (T1.updates N6 (by decide)).mono ?_; rintro e w7 ⟨rfl, N7⟩)
    | (go_at_call 15; refine (T1.freed N7 (by decide) (by decide)).mono ?_; rintro e w8 ⟨A, c, rfl, hc, hC, hB, N8⟩)
    | (go_at_call 14; refine (same_calls (w8.alloc _) A c [9] _ 1 [9] (Kd.C_alloc hC _) hc (litC w8 [9] (by decide)) (by decide) (by decide)).mono ?_; rintro e w9 ⟨rfl, d9⟩))
  go_ret
  exact ⟨rfl, ((N8.alloc _).drawn d9).below, fun _ => False, fun _ h => h, fun _ h => h.elim⟩
end Go.Proofs.Ytcgncdcihglgdaa.T
