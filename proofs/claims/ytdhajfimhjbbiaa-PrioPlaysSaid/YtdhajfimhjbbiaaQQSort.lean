import Derived.Test.YtdhajfimhjbbiaaQTyped
namespace Go.Proofs.Ytdhajfimhjbbiaa.Q
open Go Go.RowKit Go.Proofs.YtdhajfimhjbbiaaW.PrintWords Go.Proofs.YtdhajfimhjbbiaaW.PrintLast Go.Proofs.YtdhajfimhjbbiaaW.PrintMore
set_option linter.unusedVariables false
theorem grown_typed {α : Type} {d : Kd α} {e base : Nat} {ok : Nat → Prop} {W W' : World} {v : Value} {xs : List α} (h : d.R e W base ok v xs) (g : W.grownBy W' v.ownBlock) : Eff (Typed base W [e]) W W' := by
  refine Eff.of_grown g fun k hk => ?_
  obtain ⟨inner, ho⟩ := Kd.R_own h
  obtain ⟨cells, hc⟩ := own_typed ho k hk
  exact ⟨Kd.R_base h k hk, _, _, hc, by simp⟩
/-- Numbers, falling: as pairs. -/
def srtP (l : List Int) : List (Int × Int) := l.foldl (fun acc x => insL (x, 0) acc) []
theorem srtP_snoc (l : List Int) (x : Int) : srtP (l ++ [x]) = insL (x, 0) (srtP l) := by simp [srtP]
theorem srtP_length (l : List Int) : (srtP l).length = l.length := by
  have h : ∀ (l : List Int) (acc : List (Int × Int)), (l.foldl (fun acc x => insL (x, 0) acc) acc).length = acc.length + l.length := by
    intro l
    induction l with
    | nil => intro acc; rfl
    | cons x l ih => intro acc; simp only [List.foldl_cons, ih, insL_length, List.length_cons]; omega
  have := h l []
  unfold srtP
  rw [this]
  simp
/-- Numbers, falling. -/
def fallL (l : List Int) : List Int := (srtP l).map (·.1)
theorem fallL_length (l : List Int) : (fallL l).length = l.length := by simp [fallL, srtP_length]
theorem takeRd (l : List Int) (i : Nat) (h : i < l.length) : l.take (i + 1) = l.take i ++ [rd l i] := by
  rw [List.take_succ_eq_append_getElem h]
  congr 2
  unfold rd
  simp [List.getD_eq_getElem?_getD, h]
theorem infoI : (Try.prog.info? 3).map (fun i => (i.zero, i.size, i.bytes)) = some (some (.int .i64 0), 1, 8) := by kernel_rfl
set_option maxHeartbeats 4000000 in
set_option maxRecDepth 100000 in
theorem sorted_calls (w : World) (A : Option Addr) (c : Nat) (l : List Int) (hr : Kd.C (Kd.int .i64) w A l.length l) (hm : l.length < 900000) :
    Calls Try.prog 15 #[.slice A l.length c] w fun e w' => ∃ v, e = .returned v ∧ Kd.R (Kd.int .i64) 3 w' w.heap.size (fun _ => True) v (fallL l) ∧ Below w.heap.size w w' := by
  have H := Aside0.mk hr
  have N0 := NewT.mk w w (Nat.le_refl _)
  have B0 := below_alloc (Below.refl w.heap.size w) (.cells #[.slice none 0 0] 28)
  clear hr
  go_enter Try.func15, Try.ntmps15
  go_wp2
  go_loopg [12] l.length (fun k s12 wr => ∃ (i : Nat), s12 = .int .i64 i ∧ i + k = l.length ∧ NewT w wr w.heap.size (srtP (l.take i)) ∧ Below w.heap.size w wr)
  case atStart => exact ⟨0, rfl, by omega, N0, B0⟩
  case round =>
    obtain ⟨i, rfl, h1, N1, B1⟩ := hrel
    clear N0 B0
    have hlen := srtP_length (l.take i)
    rw [List.length_take] at hlen
    by_cases hz : i < l.length
    · have p2 : ((i : Int) < (l.length : Int)) = True := eq_true (by omega)
      have B2 : i < 900000 := by omega
      obtain ⟨ad, rfl, x1⟩ := Kd.at_int (Kd.C_below H.out B1) (i : Int) (by omega) (by omega)
      have e2 : (i : Int).toNat = i := by omega
      rw [e2] at x1
      have A1 := Aside0.mk hlen
      clear hlen
      go_wp2_with (go_at_call 11; refine (NewT.push N1 B1.size (by rw [A1.out]; omega) _ _).mono ?_; rintro e w2 ⟨rfl, N2, Q2⟩)
      go_roundg (gk - 1)
      case measure => omega
      case rel => exact ⟨i + 1, by simp, by omega, by rw [takeRd l i hz, srtP_snoc]; exact N2, below_q B1 Q2⟩
    · have p2 : ((i : Int) < (l.length : Int)) = False := eq_false (by omega)
      rw [List.take_of_length_le (by omega)] at N1
      have A1 := Aside0.mk hlen
      clear hlen
      go_wp2
      go_loopg [6] (l.length + 1) (fun k s6 wr => ∃ (out : List Int) (rest : List (Int × Int)), NewT w wr w.heap.size rest ∧ Aside0 (out ++ rest.map (·.1) = fallL l) ∧ rest.length < k ∧ rest.length < 900000 ∧ out.length + rest.length = l.length ∧ Kd.R (Kd.int .i64) 3 wr w.heap.size (fun _ => True) s6 out ∧ Below w.heap.size w wr)
      case atStart => exact ⟨[], srtP l, N1, Aside0.mk (by simp [fallL]), by rw [srtP_length]; omega, by rw [srtP_length]; omega, by simp [srtP_length], Kd.R_nil _ _ _ _ _, B1⟩
      case round =>
        clear N1 B1 A1 h1 p2
        obtain ⟨out, rest, N2, A2, h2, h4, h3, HO, B2⟩ := hrel
        cases rest with
        | nil =>
          go_wp2_with (go_at_call 13; refine (NewT.pop N2 (by simp)).mono ?_; rintro e w3 ⟨rfl, N3, Q3⟩)
          go_ret
          have := A2.out
          rw [List.map_nil, List.append_nil] at this
          subst this
          exact ⟨_, rfl, R_q HO Q3 (by decide) (by decide), below_q B2 Q3⟩
        | cons x rest =>
          have d1 : decide (0 < (x :: rest).length) = true := decide_eq_true (by simp)
          have C := NewT.pop N2 (by omega)
          rw [d1] at C
          simp only [hd, List.getD_cons_zero, List.tail_cons] at C
          clear d1
          go_wp2_with (first | (go_at_call 13; refine C.mono ?_; rintro e w3 ⟨rfl, N3, Q3⟩; have HO3 := Aside0.mk (R_q HO Q3 (by decide) (by decide)); have B3 := below_q B2 Q3; clear N2 HO B2 Q3 C) | (at_builtin; refine Kd.R_append (Kd.int .i64) (w0 := w) w.heap.size rfl (.tmp 27) (.tmp 29) 36 3 (.int .i64 0) 8 rfl Try.underlying36 infoI rfl (by decide) (by omega) u6 out x.1 [.int .i64 x.1] (fun _ => True) (fun _ => False) rfl rfl rfl (fun _ hk => hk.elim) (fun _ _ => trivial) HO3.out B3 B3.size (by omega) ?_; intro v1 w1 ho hb hg hat; have E1 := grown_typed HO3.out hg; clear hg hat))
          go_roundg (gk - 1)
          case measure => simp only [List.length_cons] at h2; omega
          case rel =>
            refine ⟨out ++ [x.1], rest, N3.afterT E1 (by decide) (by decide), Aside0.mk ?_, by simp at h2; omega, by simp at h4; omega, ?_, ho, hb⟩
            · rw [← A2.out]; simp
            · simp at h3 ⊢; omega
end Go.Proofs.Ytdhajfimhjbbiaa.Q
