import Derived.Test.YtcgncdcihglgdaaTGrow
namespace Go.Proofs.Ytcgncdcihglgdaa.T
open Go Go.RowKit Go.Proofs.YtcgncdcihglgdaaW.PrintWords Go.Proofs.YtcgncdcihglgdaaW.PrintLast Go.Proofs.YtcgncdcihglgdaaW.PrintMore Go.Proofs.Ytcgncdcihglgdaa.L
set_option linter.unusedVariables false
set_option linter.unusedSimpArgs false
def rdU (ls : List (List Int)) (i : Nat) : List Int := ls.getD i []
theorem at_u {w : World} {A : Option Addr} {n : Nat} {ls : List (List Int)} (h : Kd.C kdU w A n ls) (i : Nat) (h1 : i < n) :
    ∃ ad A0 c0, A = some ad ∧ w.cell? (ad.add i) = some (.slice A0 (rdU ls i).length c0) ∧ Kd.C (Kd.int .i64) w A0 (rdU ls i).length (rdU ls i) := by
  obtain ⟨ad, c, e, _, hK, hc0⟩ := Kd.C_get h ([] : List Int) (i : Int) (by omega) (by omega)
  have hc : ∀ j u, c[j]? = some u → w.cell? (ad.add (i * 1 + j)) = some u := hc0
  obtain ⟨A0, c0, rfl, l0, g0⟩ := hK
  exact ⟨ad, A0, c0, e, by have hq := hc 0 _ rfl; rw [Nat.mul_one, Nat.add_zero] at hq; exact hq, g0⟩
theorem flat_take (ls : List (List Int)) (i : Nat) (h : i < ls.length) : (ls.take (i + 1)).flatten = (ls.take i).flatten ++ rdU ls i := by
  rw [List.take_succ_eq_append_getElem h, List.flatten_append]
  simp [rdU, h]
theorem flat_le (ls : List (List Int)) (i : Nat) : (ls.take i).flatten.length ≤ ls.flatten.length := by
  have := congrArg (fun l => (List.flatten l).length) (List.take_append_drop i ls)
  simp only [List.flatten_append, List.length_append] at this
  omega
set_option maxHeartbeats 4000000 in
set_option maxRecDepth 100000 in
theorem concat_calls (w : World) (A : Option Addr) (c : Nat) (ls : List (List Int)) (hr : Kd.C kdU w A ls.length ls) (hm : ls.length < 900000) (hf : ls.flatten.length < 900000) :
    Calls Try.prog 22 #[.slice A ls.length c] w fun e w' => ∃ v, e = .returned v ∧ Kd.R (Kd.int .i64) 3 w' w.heap.size (fun _ => True) v ls.flatten ∧ Below w.heap.size w w' := by
  have hC : ∀ w1, Below w.heap.size w w1 → Kd.C kdU w1 A ls.length ls := fun w1 hb => Kd.C_below hr hb
  have HF := Aside0.mk hf
  clear hr hf
  go_enter Try.func22, Try.ntmps22
  go_wp2
  go_loopg [3, 11] ls.length (fun k s3 s11 wr => ∃ (i t : Nat), s3 = .int .i64 t ∧ s11 = .int .i64 i ∧ i + k = ls.length ∧ Aside0 (t = (ls.take i).flatten.length) ∧ Drawn0 w wr)
  case atStart => exact ⟨0, 0, rfl, rfl, by omega, Aside0.mk (by simp), Drawn0.refl _⟩
  case round =>
    obtain ⟨i, t, rfl, rfl, h1, A1, d1⟩ := hrel
    by_cases hz : i < ls.length
    · have p2 : ((i : Int) < (ls.length : Int)) = True := eq_true (by omega)
      have B2 : i < 900000 := by omega
      obtain ⟨ad, A0, c0, ea, x1, _⟩ := at_u (hC wr ((Eff.refl (fun _ => False) _).drawn d1).below0) i hz
      subst ea
      obtain ⟨m, hm0⟩ : ∃ m, m = (rdU ls i).length := ⟨_, rfl⟩
      have A2 := Aside0.mk hm0
      have hb1 : t + m < 900000 := by
        have := flat_le ls (i + 1)
        rw [flat_take ls i hz, List.length_append] at this
        have h2 := HF.out
        have h3 := A1.out
        omega
      have p3 : ((t : Int) + (m : Int) < 0) = False := eq_false (by omega)
      rw [← hm0] at x1
      clear hm0 hC
      go_wp2
      go_roundg (gk - 1)
      case measure => omega
      case rel =>
        refine ⟨i + 1, t + m, by simp, by simp, by omega, Aside0.mk ?_, d1⟩
        rw [flat_take ls i hz, List.length_append, A1.out, A2.out]
    · have p2 : ((i : Int) < (ls.length : Int)) = False := eq_false (by omega)
      have hi : i = ls.length := by omega
      subst hi
      have ht : t = ls.flatten.length := by have := A1.out; rwa [List.take_length] at this
      have hsz : wr.heap.size = w.heap.size := by obtain ⟨n, rfl⟩ := d1; rfl
      have hg : Calls Try.prog 25 #[.slice none 0 0, .int .i64 t] wr fun e w1 => ∃ v, e = .returned v ∧ Aside0 (Kd.R (Kd.int .i64) 3 w1 w.heap.size (fun _ => True) v ([] : List Int) ∧ Below w.heap.size w w1) := by
        refine (grow_calls wr t (by have := HF.out; omega)).mono ?_
        rintro e w1 ⟨v, rfl, hR, hB⟩
        rw [hsz] at hR
        exact ⟨v, rfl, Aside0.mk ⟨hR, (((Eff.refl (fun _ => False) _).drawn d1).trans (Eff.of_below (S := fun _ => False) hB) (fun _ h => h.elim)).below0⟩⟩
      have HA := Aside0.mk (And.intro hm hC)
      clear hz h1 ht A1 hsz hC hm
      go_wp2_with (go_at_call 25; refine hg.mono ?_; rintro e w1 ⟨v, rfl, hR⟩)
      go_loopg [6, 27] ls.length (fun k s6 s27 wr => ∃ (i : Nat), s27 = .int .i64 i ∧ i + k = ls.length ∧ Aside0 (Kd.R (Kd.int .i64) 3 wr w.heap.size (fun _ => True) s6 (ls.take i).flatten ∧ Below w.heap.size w wr))
      case atStart => exact ⟨0, rfl, by omega, Aside0.mk (by simpa using hR.out)⟩
      case round =>
        obtain ⟨i, rfl, h1, A1⟩ := hrel
        obtain ⟨A2, c2, rfl⟩ := Kd.R_slice A1.out.1
        by_cases hz : i < ls.length
        · have p2 : ((i : Int) < (ls.length : Int)) = True := eq_true (by omega)
          have B2 : i < 900000 := by have := HA.out.1; omega
          obtain ⟨ad, A0, c0, ea, x1, hl⟩ := at_u (HA.out.2 _ A1.out.2) i hz
          subst ea
          have A3 := Aside0.mk hl
          have A4 := Aside0.mk (flat_take ls i hz)
          have hb1 : (ls.take i).flatten.length + (rdU ls i).length < 900000 := by
            have := flat_le ls (i + 1)
            rw [flat_take ls i hz, List.length_append] at this
            have h2 := HF.out
            omega
          have A5 := Aside0.mk hz
          generalize rdU ls i = l1 at *
          clear hl
          obtain ⟨xs, hxs⟩ : ∃ xs, xs = (ls.take i).flatten := ⟨_, rfl⟩
          rw [← hxs] at A1 A4 hb1 ⊢
          have A6 := Aside0.mk hxs
          clear hxs hz
          go_wp2_with (at_builtin; refine Kd.R_append_rows (Kd.int .i64) (w0 := w) w.heap.size rfl (.tmp 31) (.tmp 32) 22 3 (.int .i64 0) 8 rfl Try.underlying22 infoI rfl (by decide) (by omega) (.slice A2 xs.length c2) xs l1 _ _ _ (fun _ => True) (fun _ => False) rfl rfl A1.out.1 A3.out (fun _ _ h => h) (fun _ h => h.elim) (fun _ _ => trivial) A1.out.2 A1.out.2.size (by omega) ?_; intro v1 w2 ho hb hg hat; have A7 := Aside0.mk (And.intro ho hb); clear ho hb hg hat)
          go_roundg (gk - 1)
          case measure => have := A5.out; omega
          case rel =>
            refine ⟨i + 1, by simp, by have := A5.out; omega, Aside0.mk ?_⟩
            rw [A4.out]
            exact A7.out
        · have p2 : ((i : Int) < (ls.length : Int)) = False := eq_false (by omega)
          have hi : i = ls.length := by omega
          subst hi
          rw [List.take_length] at A1 ⊢
          have A5 := A1
          clear hz h1 A1
          go_wp2
          go_ret
          exact ⟨_, rfl, A5.out⟩
end Go.Proofs.Ytcgncdcihglgdaa.T
