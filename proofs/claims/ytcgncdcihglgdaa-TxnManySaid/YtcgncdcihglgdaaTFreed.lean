import Derived.Test.YtcgncdcihglgdaaTEnd
import Derived.Test.YtcgncdcihglgdaaTConcat
namespace Go.Proofs.Ytcgncdcihglgdaa.T
open Go Go.RowKit Go.Proofs.YtcgncdcihglgdaaW.PrintWords Go.Proofs.YtcgncdcihglgdaaW.PrintLast Go.Proofs.YtcgncdcihglgdaaW.PrintMore Go.Proofs.Ytcgncdcihglgdaa.L
set_option linter.unusedVariables false
set_option linter.unusedSimpArgs false
set_option maxHeartbeats 4000000 in
set_option maxRecDepth 100000 in
theorem freed_calls (tb : Nat) (s : Tab) (W : World) (F : Nat → Prop) (tx : Int) (h : (TabAt tb s).on W F) (hm : ∀ p, getP s.l tx = some p → p.2.ups.length < 900000 ∧ p.2.ups.flatten.length < 900000) :
    Calls Try.prog 15 #[.pointer (some ⟨tb, 0, none⟩), .int .i64 tx] W fun e w' => ∃ v, e = .returned v ∧ Kd.R (Kd.int .i64) 3 w' W.heap.size (fun _ => True) v (freedR s tx) ∧ Below W.heap.size W w' := by
  have C := get_calls tb s W F tx h
  cases hg : getP s.l tx with
  | none =>
    have hr : freedR s tx = [] := by simp [freedR, hg]
    rw [hg] at C
    rw [hr]
    dsimp only [ptrOf, Option.map_none, Option.map_some] at C
    clear h hg hr hm
    go_enter Try.func15, Try.ntmps15
    go_wp2_with (go_at_call 20; refine C.mono ?_; rintro e w1 ⟨rfl, d1⟩)
    go_ret
    exact ⟨_, rfl, Kd.R_nil _ _ _ _ _, ((Eff.refl (fun _ => False) _).drawn d1).below0⟩
  | some p =>
    obtain ⟨b, x⟩ := p
    have hr : freedR s tx = x.ups.flatten := by simp [freedR, hg]
    rw [hg] at C
    rw [hr]
    dsimp only [ptrOf, Option.map_none, Option.map_some] at C
    have hu := hm _ hg
    dsimp only at hu
    have K : ∀ w1, Drawn0 W w1 → ∃ A c, w1.cell? ⟨b, 1, none⟩ = some (.slice A x.ups.length c) ∧ Calls Try.prog 22 #[.slice A x.ups.length c] w1 fun e w' => ∃ v, e = .returned v ∧ Aside0 (Kd.R (Kd.int .i64) 3 w' W.heap.size (fun _ => True) v x.ups.flatten ∧ Below W.heap.size W w') := by
      intro w1 d1
      have hsz : w1.heap.size = W.heap.size := by obtain ⟨n, rfl⟩ := d1; rfl
      obtain ⟨F1, h1, _⟩ := TabAt.has (HP.eff0 h ((Eff.refl _ _).drawn d1)) hg
      obtain ⟨vu, vs, c0, c1, c2, f, hu1, hs⟩ := OneAt.cells h1
      obtain ⟨A, c, rfl⟩ := Kd.R_slice hu1
      refine ⟨A, c, c1, (concat_calls w1 A c x.ups (Kd.R_reads' hu1).2.2 hu.1 hu.2).mono ?_⟩
      rintro e w' ⟨v, rfl, hR, hB⟩
      rw [hsz] at hR
      exact ⟨v, rfl, Aside0.mk ⟨hR, (((Eff.refl (fun _ => False) _).drawn d1).trans (Eff.of_below (S := fun _ => False) hB) (fun _ h => h.elim)).below0⟩⟩
    clear h hg hr hm hu
    go_enter Try.func15, Try.ntmps15
    go_wp2_with (first | (go_at_call 20; refine C.mono ?_; rintro e w1 ⟨rfl, d1⟩; obtain ⟨A, c, c1, hK⟩ := K w1 d1; clear K) | (go_at_call 22; refine hK.mono ?_; rintro e w2 ⟨v, rfl, hR⟩))
    go_ret
    exact ⟨_, rfl, hR.out⟩
end Go.Proofs.Ytcgncdcihglgdaa.T
