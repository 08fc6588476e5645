import Derived.Test.YtcgncdcihglgdaaTInsert
namespace Go.Proofs.Ytcgncdcihglgdaa.T
open Go Go.RowKit Go.Proofs.YtcgncdcihglgdaaW.PrintWords Go.Proofs.YtcgncdcihglgdaaW.PrintLast Go.Proofs.YtcgncdcihglgdaaW.PrintMore Go.Proofs.Ytcgncdcihglgdaa.L
set_option linter.unusedVariables false
set_option linter.unusedSimpArgs false
set_option maxHeartbeats 1600000 in
set_option maxRecDepth 100000 in
theorem pdq_calls (w : World) (base : Nat) (ok : Nat → Prop) (g n cap : Nat) (lim : Value) (h : RowI w base ok g n cap) (hm : n ≤ 12) :
    Calls Try.prog 26 #[.slice (some ⟨g, 0, none⟩) n cap, .int .i64 0, .int .i64 n, lim, .func (.func 24) #[] #[]] w fun e w' => e = .returned (.tuple #[]) ∧ RowI w' base ok g n cap ∧ Eff (fun k => k = g) w w' := by
  have C : ∀ w1, Eff0 w w1 → Calls Try.prog 28 #[.slice (some ⟨g, 0, none⟩) n cap, .int .i64 0, .int .i64 n, .func (.func 24) #[] #[]] w1 fun e w' => e = .returned (.tuple #[]) ∧ RowI w' base ok g n cap ∧ Eff (fun k => k = g) w w' := fun w1 e1 => by
    refine (insertion_calls w1 base ok g n cap (h.eff e1) hm).mono ?_
    rintro e w' ⟨he, hR, e2⟩
    exact ⟨he, hR, (e1.any (fun k => k = g)).trans e2 (fun _ h => .inl h)⟩
  have p1 : ((n : Int) ≤ 12) = True := eq_true (by omega)
  clear h
  go_enter Try.func26, Try.ntmps26
  go_wp2
  go_loopg [1, 2] 0 (fun k s1 s2 wr => s1 = .int .i64 0 ∧ s2 = .int .i64 n ∧ Aside0 (Eff0 w wr))
  case atStart => exact ⟨rfl, rfl, Aside0.mk (Eff.refl _ _)⟩
  case round =>
    obtain ⟨rfl, rfl, A1⟩ := hrel
    go_wp2_with (go_at_call 28; refine (C _ A1.out).mono ?_; rintro e w' ⟨rfl, hR, e2⟩)
    refine bodyPost_ret (results_none rfl _ _ _) rfl ?_
    exact ⟨rfl, hR, e2⟩
end Go.Proofs.Ytcgncdcihglgdaa.T
