import Derived.Lib.AppendZerosOnto
import Derived.Test.YtcgncdcihglgdaaTClone
namespace Go.Proofs.Ytcgncdcihglgdaa.T
open Go Go.RowKit Go.Proofs.YtcgncdcihglgdaaW.PrintWords Go.Proofs.YtcgncdcihglgdaaW.PrintLast Go.Proofs.YtcgncdcihglgdaaW.PrintMore Go.Proofs.Ytcgncdcihglgdaa.L
set_option linter.unusedVariables false
set_option linter.unusedSimpArgs false
theorem emptyCap (w : World) (cs : Array Value) (hs : cs.size ≤ 9223372036854775807) : Kd.R (Kd.int .i64) 3 (w.alloc (.cells cs 3)) w.heap.size (fun _ => True) (.slice (some ⟨w.heap.size, 0, none⟩) 0 cs.size) ([] : List Int) :=
  Kd.R_of_own (enc := Value.int .i64) ⟨rfl, .inr ⟨w.heap.size, cs.size, cs, rfl, Nat.le_refl _, heap_alloc_new w _, Nat.zero_le _, hs, by simp, by simp [encs]⟩⟩ (fun _ _ => trivial)
set_option maxHeartbeats 4000000 in
set_option maxRecDepth 100000 in
theorem grow_calls (w : World) (n : Nat) (hm : n < 900000) :
    Calls Try.prog 25 #[.slice none 0 0, .int .i64 n] w fun e w' => ∃ v, e = .returned v ∧ Kd.R (Kd.int .i64) 3 w' w.heap.size (fun _ => True) v ([] : List Int) ∧ Below w.heap.size w w' := by
  have p1 : ((n : Int) < 0) = False := eq_false (by omega)
  by_cases h0 : n = 0
  · subst h0
    clear p1
    go_enter Try.func25, Try.ntmps25
    go_wp2
    go_ret
    exact ⟨_, rfl, Kd.R_nil _ _ _ _ _, Below.refl _ _⟩
  · have p2 : ((n : Int) > 0) = True := eq_true (by omega)
    have p3 : wrap64 (n : Int) = n := by unfold wrap64; omega
    obtain ⟨i0, hi0, hz⟩ := Option.map_eq_some_iff.1 infoI
    simp only [Prod.mk.injEq] at hz
    obtain ⟨hz0, hz1, hz2⟩ := hz
    have hrun : ∀ ty, (Builtin.append_ #[22, 3] ty #[.slice none 0 0, .int .i64 n]).run Try.prog w = _ := fun ty => Lib.run_append_nil_zeros w 22 3 ty 3 i0 (.int .i64 0) .i64 .i64 Try.underlying22 Try.underlying3 hi0 hz0 n (by omega) (by rw [hz1]; decide) (by omega) (by rw [hz2]; omega)
    obtain ⟨cap, hcap⟩ : ∃ cap, cap = grownCap w n 0 3 := ⟨_, rfl⟩
    rw [← hcap] at hrun
    go_enter Try.func25, Try.ntmps25
    go_wp2_with (at_builtin; refine Lib.wpList_append_run _ rfl _ _ _ _ rfl _ _ rfl rfl _ _ (hrun _) ?_)
    go_ret
    have hc1 := grownCap_ge w n 0 3
    have hc2 := grownCap_le_maxLen w n 0 3 (by show n ≤ 9223372036854775807; omega)
    have hs : (Builtin.zeroCells #[Value.int IntKind.i64 0] n ++ Builtin.zeroCells #[Value.int IntKind.i64 0] (grownCap w n 0 3 - n)).size = grownCap w n 0 3 := by
      rw [Array.size_append, size_zeroCells, size_zeroCells]
      simp
      omega
    have hR := emptyCap w _ (by rw [hs]; exact hc2)
    rw [hs] at hR
    exact ⟨_, rfl, Kd.R_step hR (fun _ _ _ => rfl), below_drew (below_alloc (Below.refl _ _) _)⟩
end Go.Proofs.Ytcgncdcihglgdaa.T
