/- Updates that are undone, the last first, take their pages with them (TxnUndone). Conditions: none beyond the given row's own. -/
import Derived.Test.YtcgncdcihglgdaaTAlive
namespace Go.Proofs.Ytcgncdcihglgdaa.Pure
open Go Go.RowKit Go.Proofs.YtcgncdcihglgdaaW.PrintWords Go.Proofs.YtcgncdcihglgdaaW.PrintLast Go.Proofs.YtcgncdcihglgdaaW.PrintMore Go.Proofs.Ytcgncdcihglgdaa.L Go.Proofs.Ytcgncdcihglgdaa.M Go.Proofs.Ytcgncdcihglgdaa.T
set_option linter.unusedVariables false
set_option linter.unusedSimpArgs false
theorem Own.callsL {P : Program} {f : FuncId} {args : Array Value} {w W : World} {S S' R : HP} {r : Value} (h : Own w W (Sep S R)) (c : ∀ F, S.on W F → Calls P f args W (fun e W' => e = .returned r ∧ Upd W F S' W')) : Calls P f args W (fun e W' => e = .returned r ∧ Own w W' (Sep S' R)) :=
  Own.calls h (fun F hF => by
    obtain ⟨F1, h1, k1, u1⟩ := Sep.focus hF
    exact (c F1 h1).mono (fun e W' ⟨he, hu⟩ => ⟨he, u1 _ _ hu⟩))
theorem Own.append {α : Type} {d : Kd α} {e : Nat} {v : Value} {xs : List α} {w W : World} {S : HP} (h : Own w W (Sep S (RowAt d e v xs))) :
    ∃ ok : Nat → Prop, d.R e W 0 ok v xs ∧ (∀ k, W.heap.size ≤ k → ok k) ∧ ∀ v1 w1 zs, d.R e w1 0 ok v1 zs → W.grownBy w1 v.ownBlock → Own w w1 (Sep S (RowAt d e v1 zs)) := by
  obtain ⟨hb, F, hS, hF⟩ := h
  obtain ⟨F2, h2, k2, u2⟩ := Sep.focusR hS
  refine ⟨fun k => F2 k ∨ W.heap.size ≤ k, Kd.R_mono h2.1 (fun _ h => .inl h), fun _ h => .inr h, fun v1 w1 zs hR hg => ?_⟩
  have hU : Upd W F2 (RowAt d e v1 zs) w1 :=
    ⟨fun k => (F2 k ∨ W.heap.size ≤ k) ∧ k < w1.heap.size, ⟨Kd.R_mono (Kd.R_bound hR) (fun k hk => ⟨hk.1, hk.2.2.1⟩), fun k hk => hk.2⟩, Eff.of_grown hg (fun k hk => h2.1.1 k hk), fun k hk => hk.1⟩
  obtain ⟨F', h', ef, hk⟩ := u2 _ _ hU
  refine ⟨below_eff hb (Nat.le_refl _) ef hF, F', h', fun k hk' => ?_⟩
  rcases hk k hk' with h | h
  · exact hF k h
  · exact Nat.le_trans hb.size h
theorem T1.updateL {w W : World} {tb m b : Nat} {x : One} {R : HP} (h : Own w W (Sep (TabAt tb (T1 m b x)) R)) {A : Option Addr} {c : Nat} {l : List Int} (hr : Kd.C (Kd.int .i64) W A l.length l) (hl : l.length < 900000) (hx : x.ups.length < 900000) :
    Calls Try.prog 12 #[.pointer (some ⟨tb, 0, none⟩), .int .i64 1, .slice A l.length c] W fun e w' => e = .returned (.bool true) ∧ Own w w' (Sep (TabAt tb (T1 m b { x with ups := x.ups ++ [l] })) R) :=
  Own.callsL h (fun F hF => update_calls tb (T1 m b x) W F 1 hF A c l hr hl (fun p hp => by
    have hp' : some (b, x) = some p := hp
    injection hp' with hp'
    rw [← hp']; exact hx))
theorem T1.undoL {w W : World} {tb m b : Nat} {x : One} {R : HP} (h : Own w W (Sep (TabAt tb (T1 m b x)) R)) (hx : x.ups.length < 900000) (hn : x.ups ≠ []) :
    Calls Try.prog 13 #[.pointer (some ⟨tb, 0, none⟩), .int .i64 1] W fun e w' => e = .returned (.bool true) ∧ Own w w' (Sep (TabAt tb (T1 m b { x with ups := x.ups.dropLast })) R) := by
  have hr : undoR (T1 m b x) 1 = (true, T1 m b { x with ups := x.ups.dropLast }) := by
    show (if x.ups = [] then _ else _) = _
    rw [if_neg hn]; rfl
  have := fun F (hF : (TabAt tb (T1 m b x)).on W F) => undo_calls tb (T1 m b x) W F 1 hF (fun p hp => by
    have hp' : some (b, x) = some p := hp
    injection hp' with hp'
    rw [← hp']; exact hx)
  rw [hr] at this
  exact Own.callsL h this
theorem drop_take (l : List (List Int)) (n : Nat) (h : n + 1 ≤ l.length) : (l.take (n + 1)).dropLast = l.take n := by
  rw [List.dropLast_eq_take, List.length_take, List.take_take]
  congr 1
  omega
theorem small_flat (l : List (List Int)) (h : ∀ x ∈ l, x.length ≤ 10) : l.flatten.length ≤ 10 * l.length := by
  induction l with
  | nil => simp
  | cons x l ih =>
    rw [List.flatten_cons, List.length_append, List.length_cons]
    have := ih (fun y hy => h y (List.mem_cons_of_mem _ hy))
    have := h x List.mem_cons_self
    omega
set_option maxHeartbeats 1600000 in
set_option maxRecDepth 100000 in
theorem TxnUndone_walk (A : Option Addr) (c : Nat) (l : List (List Int)) (k0 : Int) (w : World) (h0 : (l.length ≤ maxLen ∧ ∀ a_ ∈ l, (a_.length ≤ maxLen ∧ ∀ b_ ∈ a_, (Lit.int .i64 b_).wf = true))) (h1 : l.length * 24 ≤ 140737488351232) (h2 : (Lit.int .i64 k0).wf = true) (hr : Kd.C (Kd.slice 3 (Kd.int .i64)) w A l.length l) (hc : l.length ≤ c) :
    Calls Try.prog 4 #[.slice A l.length c, .int .i64 k0] w fun e w' => e = .returned (.bool true) ∧ Below w.heap.size w w' := by
  by_cases hs : 20 < l.length
  · have p1 : ((l.length : Int) > 20) = True := eq_true (by omega)
    clear h0 h1 h2
    go_enter Try.func4, Try.ntmps4
    go_wp2_with (go_at_call 7; refine (alive_calls _).mono ?_; rintro e w1 ⟨rfl, e1⟩)
    go_ret
    exact ⟨rfl, e1.below⟩
  have p1 : ((l.length : Int) > 20) = False := eq_false (by omega)
  by_cases hs2 : k0 < 0
  · have p2 : (k0 < 0) = True := eq_true hs2
    clear h0 h1 h2 hs2
    go_enter Try.func4, Try.ntmps4
    go_wp2_with (go_at_call 7; refine (alive_calls _).mono ?_; rintro e w1 ⟨rfl, e1⟩)
    go_ret
    exact ⟨rfl, e1.below⟩
  obtain ⟨k, rfl⟩ : ∃ k : Nat, k0 = k := ⟨k0.toNat, by omega⟩
  have p2 : ((k : Int) < 0) = False := eq_false hs2
  clear h2 hs2
  by_cases hs3 : l.length < k
  · have p3 : ((k : Int) > (l.length : Int)) = True := eq_true (by omega)
    clear h0 h1
    go_enter Try.func4, Try.ntmps4
    go_wp2_with (go_at_call 7; refine (alive_calls _).mono ?_; rintro e w1 ⟨rfl, e1⟩)
    go_ret
    exact ⟨rfl, e1.below⟩
  have p3 : ((k : Int) > (l.length : Int)) = False := eq_false (by omega)
  obtain ⟨n, hn⟩ : ∃ n, n = l.length - k := ⟨_, rfl⟩
  have B : l.length ≤ 20 := by omega
  have B2 : k ≤ l.length := by omega
  have hq : (l.length : Int) - (k : Int) = (n : Int) := by omega
  have HL := Aside0.mk (And.intro hn (And.intro B B2))
  have H := Aside0.mk hr
  clear h0 h1 hr hs hs3 hn
  go_enter Try.func4, Try.ntmps4
  go_wp2_with (first
    | (go_at_call 7; refine (alive_calls _).mono ?_; rintro e w1 ⟨rfl, e1⟩; have N0 := T0.made e1; clear e1)
    | (go_at_call 8; refine (T0.begin N0).mono ?_; rintro e w2 ⟨rfl, m, b, N1⟩; clear N0))
  generalize w1.heap.size = tb at N1 ⊢
  have NR : Own w w2 (Sep (TabAt tb (T1 m b ⟨0, [], []⟩)) (RowAt (Kd.int .i64) 3 (.slice none 0 0) [])) := N1.nilRow _ _
  clear N1
  go_loopg [8, 39] l.length (fun gk s8 s39 wr => ∃ (i : Nat), s39 = .int .i64 i ∧ i + gk = l.length ∧ Own w wr (Sep (TabAt tb (T1 m b ⟨0, l.take i, []⟩)) (RowAt (Kd.int .i64) 3 s8 (l.take (min i n)).flatten)) ∧ Aside0 (∀ x ∈ l.take i, x.length ≤ 10))
  case atStart => exact ⟨0, rfl, by omega, by simpa using NR, Aside0.mk (by simp)⟩
  case round =>
    clear NR
    obtain ⟨i, rfl, h1, N1, A1⟩ := hrel
    by_cases hz : i < l.length
    · have p4 : ((i : Int) < (l.length : Int)) = True := eq_true (by omega)
      have B3 : i < 20 := by omega
      obtain ⟨ad, A0, c0, ea, x0, hC0⟩ := at_u H.out i hz
      subst ea
      have x1 := (N1.below.cell (World.block_lt_of_cell? w _ x0)).trans x0
      have hC1 := Kd.C_below hC0 N1.below
      clear x0
      by_cases hb : 10 < (rdU l i).length
      · have p5 : (((rdU l i).length : Int) > 10) = True := eq_true (by omega)
        have N2 := N1.below
        generalize rdU l i = l1 at *
        clear N1 hC1 hC0
        go_wp2
        go_ret
        exact ⟨rfl, N2⟩
      have p5 : (((rdU l i).length : Int) > 10) = False := eq_false (by omega)
      obtain ⟨A8, c8, rfl, hc8, _⟩ := Own.row (Own.right N1)
      have hlt : (l.take i).length < 900000 := by rw [List.length_take]; omega
      have CU := T1.updateL (c := c0) N1 hC1 (by omega) hlt
      have ht1 : l.take (i + 1) = l.take i ++ [rdU l i] := by
        rw [List.take_succ_eq_append_getElem hz]
        simp [rdU, hz]
      dsimp only at CU
      rw [← ht1] at CU
      have hA : ∀ x ∈ l.take (i + 1), x.length ≤ 10 := by
        rw [ht1]
        intro x hx
        rcases List.mem_append.1 hx with hx | hx
        · exact A1.out x hx
        · rw [List.mem_singleton.1 hx]; omega
      have A2 := Aside0.mk hA
      by_cases hin : i < n
      · have p6 : ((i : Int) < (n : Int)) = True := eq_true (by omega)
        have A3 : Aside0 ((l.take (min (i + 1) n)).flatten = (l.take (min i n)).flatten ++ rdU l i) := Aside0.mk (by rw [Nat.min_eq_left (by omega), Nat.min_eq_left (by omega)]; exact flat_take l i hz)
        have hx : (l.take (min i n)).flatten.length ≤ 200 := by
          have := small_flat (l.take (min i n)) (fun x hx => A1.out x (List.mem_of_mem_take (i := min i n) (by rw [List.take_take, Nat.min_eq_left (Nat.min_le_left _ _)]; exact hx) ))
          rw [List.length_take] at this
          omega
        have hl1 : (rdU l i).length ≤ 10 := by omega
        have hC3 : ∀ w1, Below w.heap.size w w1 → Kd.C (Kd.int .i64) w1 A0 (rdU l i).length (rdU l i) := fun w1 hB => Kd.C_below hC0 hB
        generalize (l.take (min i n)).flatten = xs at *
        generalize rdU l i = l1 at *
        clear N1 hC1 hC0 hA hb ht1 hlt
        go_wp2_with (first
          | (go_at_call 12; refine CU.mono ?_; rintro e w3 ⟨rfl, N2⟩; obtain ⟨ok, hR, hok, hN⟩ := Own.append N2; have HC3 := Aside0.mk (hC3 _ N2.below); clear hC3; have HR := Aside0.mk hR; clear hR; have HN := Aside0.mk (And.intro hok hN); clear hok hN)
          | (at_builtin; refine Kd.R_append_rows (Kd.int .i64) (w0 := w3) 0 rfl (.tmp 63) (.tmp 64) 22 3 (.int .i64 0) 8 rfl Try.underlying22 infoI rfl (by decide) (by omega) (.slice A8 xs.length c8) xs l1 _ _ _ ok (fun _ => False) rfl rfl HR.out HC3.out (fun _ _ h => h) (fun _ h => h.elim) HN.out.1 (Below.refl _ _) (Nat.zero_le _) (by omega) ?_; intro v1 w4 ho hb hg hat; have N4 := HN.out.2 v1 w4 _ ho hg; clear ho hb hg hat))
        go_roundg (gk - 1)
        case measure => omega
        case rel => exact ⟨i + 1, by simp, by omega, by rw [A3.out]; exact N4, A2⟩
      · have p6 : ((i : Int) < (n : Int)) = False := eq_false (by omega)
        have A3 : Aside0 ((l.take (min (i + 1) n)).flatten = (l.take (min i n)).flatten) := Aside0.mk (by rw [Nat.min_eq_right (by omega), Nat.min_eq_right (by omega)])
        generalize (l.take (min i n)).flatten = xs at *
        generalize rdU l i = l1 at *
        clear N1 hC1 hC0 hA hb ht1 hlt
        go_wp2_with (go_at_call 12; refine CU.mono ?_; rintro e w3 ⟨rfl, N2⟩)
        go_roundg (gk - 1)
        case measure => omega
        case rel => exact ⟨i + 1, by simp, by omega, by rw [A3.out]; exact N2, A2⟩
    · have p4 : ((i : Int) < (l.length : Int)) = False := eq_false (by omega)
      obtain ⟨A8, c8, rfl, hc8, _⟩ := Own.row (Own.right N1)
      have hmn : min i n = n := Nat.min_eq_right (by have := HL.out.1; omega)
      rw [hmn] at N1 hc8 ⊢
      rw [show l.take i = l from List.take_of_length_le (by omega)] at N1
      have hsm : ∀ x ∈ l, x.length ≤ 10 := by have := A1.out; rwa [List.take_of_length_le (by omega)] at this
      have A2 := Aside0.mk hsm
      clear hmn A1 hsm
      generalize hxs : (l.take n).flatten = xs at *
      have A3 := Aside0.mk hxs
      clear hxs
      go_wp2
      clear p4 hz h1
      go_loopg [11] k (fun gk s11 wr => ∃ (j : Nat), s11 = .int .i64 j ∧ j + gk = k ∧ Own w wr (Sep (TabAt tb (T1 m b ⟨0, l.take (l.length - j), []⟩)) (RowAt (Kd.int .i64) 3 (.slice A8 xs.length c8) xs)))
      case atStart => exact ⟨0, rfl, by omega, by rw [List.take_of_length_le (by omega)]; exact N1⟩
      case round =>
        clear N1
        obtain ⟨j, rfl, h1, N1⟩ := hrel
        by_cases hj : j < k
        · have p4 : ((j : Int) < (k : Int)) = True := eq_true (by omega)
          have B3 : j < 20 := by omega
          have ht : (l.take (l.length - j)).length = l.length - j := by rw [List.length_take]; omega
          have CU := T1.undoL N1 (by show (l.take (l.length - j)).length < _; omega) (by show l.take (l.length - j) ≠ []; intro h; rw [h] at ht; simp at ht; omega)
          dsimp only at CU
          have hd : (l.take (l.length - j)).dropLast = l.take (l.length - (j + 1)) := by
            have := drop_take l (l.length - (j + 1)) (by omega)
            rwa [show l.length - (j + 1) + 1 = l.length - j by omega] at this
          rw [hd] at CU
          clear hd ht N1
          go_wp2_with (go_at_call 13; refine CU.mono ?_; rintro e w3 ⟨rfl, N2⟩)
          go_roundg (gk - 1)
          case measure => omega
          case rel => exact ⟨j + 1, by simp, by omega, N2⟩
        · have p4 : ((j : Int) < (k : Int)) = False := eq_false (by omega)
          have hn := HL.out.1
          rw [show l.length - j = n by omega] at N1
          have hlen : (l.take n).length = n := by rw [List.length_take]; omega
          have hfl : (l.take n).flatten.length < 900000 := by
            have := small_flat (l.take n) (fun x hx => A2.out x (List.mem_of_mem_take hx))
            omega
          obtain ⟨A9, c9, ea, _, hC8⟩ := Own.row (Own.right N1)
          injection ea with e1 e2 e3
          subst e1
          subst e3
          have CF := T1.freed (Own.left N1) (by show (l.take n).length < _; omega) hfl
          dsimp only at CF
          rw [A3.out] at CF hfl
          clear e2 h1 hj
          have CUp : ∀ w9, Own w w9 (TabAt tb (T1 m b ⟨0, l.take n, []⟩)) → Calls Try.prog 16 #[.pointer (some ⟨tb, 0, none⟩)] w9 fun e w' => e = .returned (.int .i64 n) ∧ Own w w' (TabAt tb (T1 m b ⟨0, l.take n, []⟩)) := fun w9 h => by
            have := T1.updates h (by show (l.take n).length < _; omega)
            dsimp only at this
            rwa [hlen] at this
          have CUn : ∀ w9, Own w w9 (TabAt tb (T1 m b ⟨0, l.take n, []⟩)) → Calls Try.prog 13 #[.pointer (some ⟨tb, 0, none⟩), .int .i64 1] w9 fun e w' => e = .returned (.bool (decide ((k : Int) < (l.length : Int)))) ∧ Below w.heap.size w w' := fun w9 h => by
            by_cases hk : k < l.length
            · rw [show decide ((k : Int) < (l.length : Int)) = true from decide_eq_true (by omega)]
              exact (T1.undo h (by show (l.take n).length < _; omega) (by show l.take n ≠ []; intro h; rw [h] at hlen; simp at hlen; omega)).mono (fun e w' ⟨a, o⟩ => ⟨a, o.below⟩)
            · rw [show decide ((k : Int) < (l.length : Int)) = false from decide_eq_false (by omega)]
              exact (T1.undone h (List.eq_nil_of_length_eq_zero (by rw [hlen]; omega))).mono (fun e w' ⟨a, o⟩ => ⟨a, o.below⟩)
          have CS : ∀ A c w9, xs.length ≤ c → Kd.C (Kd.int .i64) w9 A xs.length xs → Below wr.heap.size wr w9 → Calls Try.prog 14 #[.slice A xs.length c, .slice A8 xs.length c8] w9 fun e w' => e = .returned (.bool true) ∧ Drawn0 w9 w' := fun A c w9 hc hC hB => by
            have := same_calls w9 A c xs A8 c8 xs hC hc (Kd.C_below hC8 hB) hc8 hfl
            rwa [show decide (xs = xs) = true from decide_eq_true rfl] at this
          have A5 := Aside0.mk (And.intro hlen hfl)
          clear hlen hfl N1 hC8 hn
          go_wp2_with (first
            | (go_at_call 15; refine CF.mono ?_; rintro e w3 ⟨A, c4, rfl, hc4, hC4, hB4, N4⟩; replace CS := CS A c4 w3 hc4 hC4 hB4)
            | (go_at_call 14; refine CS.mono ?_; rintro e w5 ⟨rfl, d5⟩; have N5 := N4.drawn d5; replace CUp := CUp _ N5)
            | (go_at_call 16; refine CUp.mono ?_; rintro e w6 ⟨rfl, N6⟩; replace CUn := CUn _ N6)
            | (go_at_call 13; refine CUn.mono ?_; rintro e w7 ⟨rfl, N7⟩))
          go_ret
          exact ⟨rfl, N7⟩
end Go.Proofs.Ytcgncdcihglgdaa.Pure
