import Derived.Test.YtcgncdcihglgdaaTPdq
namespace Go.Proofs.Ytcgncdcihglgdaa.T
open Go Go.RowKit Go.Proofs.YtcgncdcihglgdaaW.PrintWords Go.Proofs.YtcgncdcihglgdaaW.PrintLast Go.Proofs.YtcgncdcihglgdaaW.PrintMore Go.Proofs.Ytcgncdcihglgdaa.L
set_option linter.unusedVariables false
set_option linter.unusedSimpArgs false
set_option maxHeartbeats 1600000 in
set_option maxRecDepth 100000 in
theorem len64_calls (w : World) (n : Nat) (hm : n ≤ 12) : Calls Try.prog 37 #[.int .u64 n] w fun e w' => (∃ r, e = .returned (.int .i64 r)) ∧ w' = w := by
  obtain h | h | h | h | h | h | h | h | h | h | h | h | h : n = 0 ∨ n = 1 ∨ n = 2 ∨ n = 3 ∨ n = 4 ∨ n = 5 ∨ n = 6 ∨ n = 7 ∨ n = 8 ∨ n = 9 ∨ n = 10 ∨ n = 11 ∨ n = 12 := by omega
  all_goals
    subst h
    go_enter Try.func37, Try.ntmps37
    go_wp2
    go_ret
    exact ⟨⟨_, rfl⟩, rfl⟩
set_option maxHeartbeats 1600000 in
set_option maxRecDepth 100000 in
theorem len_calls (w : World) (n : Nat) (hm : n ≤ 12) : Calls Try.prog 27 #[.int .u64 n] w fun e w' => (∃ r, e = .returned (.int .i64 r)) ∧ w' = w := by
  have C := len64_calls w n hm
  go_enter Try.func27, Try.ntmps27
  go_wp2_with (go_at_call 37; refine C.mono ?_; rintro e w' ⟨⟨r, rfl⟩, rfl⟩)
  go_ret
  exact ⟨⟨_, rfl⟩, rfl⟩
set_option maxHeartbeats 1600000 in
set_option maxRecDepth 100000 in
theorem sortFunc_calls (w : World) (base : Nat) (ok : Nat → Prop) (g n cap : Nat) (h : RowI w base ok g n cap) (hm : n ≤ 12) :
    Calls Try.prog 23 #[.slice (some ⟨g, 0, none⟩) n cap, .func (.func 24) #[] #[]] w fun e w' => e = .returned (.tuple #[]) ∧ RowI w' base ok g n cap ∧ Eff (fun k => k = g) w w' := by
  have C := fun lim => pdq_calls w base ok g n cap lim h hm
  have CL := len_calls w n hm
  clear h
  go_enter Try.func23, Try.ntmps23
  go_wp2_with (first
    | (go_at_call 27; refine CL.mono ?_; rintro e w' ⟨⟨r, rfl⟩, rfl⟩)
    | (go_at_call 26; refine (C _).mono ?_; rintro e w' ⟨rfl, hR, e2⟩))
  first | go_end0 | (refine bodyPost_ret (results_none rfl _ _ _) rfl ?_)
  exact ⟨rfl, hR, e2⟩
end Go.Proofs.Ytcgncdcihglgdaa.T
