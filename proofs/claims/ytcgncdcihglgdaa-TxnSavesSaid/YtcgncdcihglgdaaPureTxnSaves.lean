/- Going back to a savepoint tells where it was, as often as one likes; those behind it are gone (TxnSaves). Conditions: none beyond the given row's own. -/
import Derived.Test.YtcgncdcihglgdaaTAlive
namespace Go.Proofs.Ytcgncdcihglgdaa.Pure
open Go Go.RowKit Go.Proofs.YtcgncdcihglgdaaW.PrintWords Go.Proofs.YtcgncdcihglgdaaW.PrintLast Go.Proofs.YtcgncdcihglgdaaW.PrintMore Go.Proofs.Ytcgncdcihglgdaa.L Go.Proofs.Ytcgncdcihglgdaa.M Go.Proofs.Ytcgncdcihglgdaa.T
set_option linter.unusedVariables false
set_option linter.unusedSimpArgs false
def svs (l : List Int) : List (Int × Int) := l.map (fun x => (x, (0 : Int)))
set_option maxHeartbeats 1000000 in
set_option maxRecDepth 100000 in
theorem TxnSaves_walk (A : Option Addr) (c : Nat) (l : List Int) (bk : Int) (w : World) (h0 : (l.length ≤ maxLen ∧ ∀ a_ ∈ l, (Lit.int .i64 a_).wf = true)) (h1 : l.length * 8 ≤ 140737488351232) (h2 : (Lit.int .i64 bk).wf = true) (hr : Kd.C (Kd.int .i64) w A l.length l) (hc : l.length ≤ c) :
    Calls Try.prog 3 #[.slice A l.length c, .int .i64 bk] w fun e w' => e = .returned (.bool true) ∧ Below w.heap.size w w' := by
  by_cases hs : l.length < 1
  · have p1 : ((l.length : Int) < 1) = True := eq_true (by omega)
    clear h0 h1 h2
    go_enter Try.func3, Try.ntmps3
    go_wp2_with (go_at_call 7; refine (alive_calls _).mono ?_; rintro e w1 ⟨rfl, e1⟩)
    go_ret
    exact ⟨rfl, e1.below⟩
  have p1 : ((l.length : Int) < 1) = False := eq_false (by omega)
  by_cases hs2 : 8 < l.length
  · have p2 : ((l.length : Int) > 8) = True := eq_true (by omega)
    clear h0 h1 h2
    go_enter Try.func3, Try.ntmps3
    go_wp2_with (go_at_call 7; refine (alive_calls _).mono ?_; rintro e w1 ⟨rfl, e1⟩)
    go_ret
    exact ⟨rfl, e1.below⟩
  have p2 : ((l.length : Int) > 8) = False := eq_false (by omega)
  have p0 : ((l.length : Int) = 0) = False := eq_false (by omega)
  have p00 : (l = []) = False := eq_false (by rintro rfl; simp at hs)
  obtain ⟨r, hr1⟩ : ∃ r : Int, bk.tmod (l.length : Int) = r := ⟨_, rfl⟩
  have B3 : r < 8 := by have := Int.tmod_lt_of_pos bk (show (0 : Int) < l.length by omega); omega
  have B4 : -(l.length : Int) < r := by have := Int.lt_tmod_of_pos bk (show (0 : Int) < l.length by omega); omega
  obtain ⟨kk, hr2⟩ : ∃ kk : Nat, (r + (l.length : Int)).tmod (l.length : Int) = (kk : Int) := ⟨((r + (l.length : Int)).tmod (l.length : Int)).toNat, by have := Int.tmod_nonneg (l.length : Int) (show 0 ≤ r + (l.length : Int) by omega); omega⟩
  have B5 : kk < l.length := by have := Int.tmod_lt_of_pos (r + (l.length : Int)) (show (0 : Int) < l.length by omega); omega
  have B6 : kk < 8 := by omega
  have HL := Aside0.mk (And.intro (show 1 ≤ l.length by omega) (show l.length ≤ 8 by omega))
  have B : l.length ≤ 8 := by omega
  have H := Aside0.mk hr
  clear h0 h1 h2 hr hs hs2
  go_enter Try.func3, Try.ntmps3
  go_wp2_with (first
    | (go_at_call 7; refine (alive_calls _).mono ?_; rintro e w1 ⟨rfl, e1⟩; have N0 := T0.made e1; clear e1)
    | (go_at_call 8; refine (T0.begin N0).mono ?_; rintro e w2 ⟨rfl, m, b, N1⟩; clear N0))
  generalize w1.heap.size = tb at N1 ⊢
  go_loopg [44] l.length (fun k s44 wr => ∃ (i : Nat) (last : Int), s44 = .int .i64 i ∧ i + k = l.length ∧ Own w wr (TabAt tb (T1 m b ⟨last, [], svs (l.take i)⟩)))
  case atStart => exact ⟨0, 0, rfl, by omega, by simpa [svs] using N1⟩
  case round =>
    clear N1
    obtain ⟨i, last, rfl, h1, N1⟩ := hrel
    by_cases hz : i < l.length
    · have p3 : ((i : Int) < (l.length : Int)) = True := eq_true (by omega)
      have B2 : i < 8 := by omega
      obtain ⟨ad, rfl, x1⟩ := Kd.at_int (Kd.C_below H.out N1.below) (i : Int) (by omega) (by omega)
      have e2 : (i : Int).toNat = i := by omega
      rw [e2] at x1
      have hn : svs (l.take (i + 1)) = svs (l.take i) ++ [(rd l i, 0)] := by
        unfold svs
        rw [List.take_succ_eq_append_getElem hz, List.map_append, rd_nat l i hz]
        rfl
      have hlen : (svs (l.take i)).length = i := by simp [svs]; omega
      have A1 := Aside0.mk hn
      generalize svs (l.take i) = S at *
      generalize rd l i = y at *
      clear hn
      subst hlen
      go_wp2_with (first
        | (go_at_call 9; refine (T1.log N1 y).mono ?_; rintro e w3 ⟨rfl, N2⟩; replace N2 : Own w w3 (TabAt _ (T1 m b ⟨y, [], S⟩)) := N2)
        | (go_at_call 10; refine (T1.save N2 (show ([] : List (List Int)).length < 900000 by decide) B2).mono ?_; rintro e w4 ⟨rfl, N3⟩; replace N3 : Own w w4 (TabAt _ (T1 m b ⟨y, [], S ++ [(y, 0)]⟩)) := N3))
      go_roundg (gk - 1)
      case measure => omega
      case rel => exact ⟨S.length + 1, y, by simp, by omega, by rw [A1.out]; exact N3⟩
    · have p3 : ((i : Int) < (l.length : Int)) = False := eq_false (by omega)
      rw [List.take_of_length_le (by omega)] at N1
      have HN := N1
      clear N1 h1
      go_wp2
      clear hr1 hr2 B3 B4 p0 p00 p1 p2 p3 hz
      go_loopg [13] 2 (fun k s13 wr => ∃ (j : Nat) (S : List (Int × Int)), s13 = .int .i64 j ∧ j + k = 2 ∧ Aside0 ((j = 0 ∧ S = svs l) ∨ (0 < j ∧ S = (svs l).take (kk + 1))) ∧ Own w wr (TabAt tb (T1 m b ⟨last, [], S⟩)))
      case atStart => exact ⟨0, _, rfl, by omega, Aside0.mk (.inl ⟨rfl, rfl⟩), HN⟩
      case round =>
        clear HN
        obtain ⟨j, S, rfl, h1, A1, N1⟩ := hrel
        have hsl : (svs l).length = l.length := by simp [svs]
        have hS : S.length ≤ 8 ∧ kk < S.length ∧ S.take (kk + 1) = (svs l).take (kk + 1) ∧ (S.getD kk (0, 0)).1 = rd l kk := by
          have hg : ((svs l).getD kk (0, 0)).1 = rd l kk := by
            rw [rd_nat l kk B5]
            simp [svs, List.getD_eq_getElem?_getD, B5]
          have hL := HL.out
          rcases A1.out with ⟨_, rfl⟩ | ⟨_, rfl⟩
          · exact ⟨by omega, by omega, rfl, hg⟩
          · refine ⟨by rw [List.length_take]; omega, by rw [List.length_take]; omega, by rw [List.take_take, Nat.min_self], ?_⟩
            rw [← hg]
            simp [List.getD_eq_getElem?_getD, List.getElem?_take]
        by_cases hz : j < 2
        · have p3 : ((j : Int) < 2) = True := eq_true (by omega)
          obtain ⟨ad, rfl, x1⟩ := Kd.at_int (Kd.C_below H.out N1.below) (kk : Int) (by omega) (by omega)
          have e2 : (kk : Int).toNat = kk := by omega
          rw [e2] at x1
          have K : ∀ w3, Below w.heap.size w w3 → w3.cell? (ad.add kk) = some (.int .i64 (rd l kk)) := by
            intro w3 hB
            obtain ⟨ad', ea, x2⟩ := Kd.at_int (Kd.C_below H.out hB) (kk : Int) (by omega) (by omega)
            injection ea with ea
            subst ea
            rwa [e2] at x2
          clear x1
          have CB := T1.back N1 kk hS.1 hS.2.1
          dsimp only at CB
          rw [hS.2.2.2, hS.2.2.1] at CB
          have A2 := Aside0.mk hS
          generalize rd l kk = y at *
          clear hS hsl
          go_wp2_with (go_at_call 11; refine CB.mono ?_; rintro e w3 ⟨rfl, N2⟩; have x1 := K _ N2.below; clear K)
          go_roundg (gk - 1)
          case measure => omega
          case rel => exact ⟨j + 1, _, by simp, by omega, Aside0.mk (.inr ⟨by omega, rfl⟩), N2⟩
        · have p3 : ((j : Int) < 2) = False := eq_false (by omega)
          have hS2 : S.length = kk + 1 := by
            rcases A1.out with ⟨hj, _⟩ | ⟨_, rfl⟩
            · omega
            · rw [List.length_take]; omega
          have CB := T1.backBad N1 (kk + 1) hS.1 (by show S.length ≤ _; omega)
          rw [show ((kk + 1 : Nat) : Int) = (kk : Int) + 1 from by simp] at CB
          clear A1 hS hsl hz h1
          by_cases h8 : kk = 7
          · subst h8
            go_wp2_with (first
              | (go_at_call 11; refine CB.mono ?_; rintro e w3 ⟨rfl, N2⟩)
              | (go_at_call 10; refine (T1.saveFull N2 (show ([] : List (List Int)).length < 900000 by decide) (by show 8 ≤ S.length; omega)).mono ?_; rintro e w4 ⟨rfl, N3⟩))
            go_ret
            exact ⟨rfl, N3.below⟩
          · have p4 : ((kk : Int) + 1 = 8) = False := eq_false (by omega)
            have p5 : ((kk : Int) = 7) = False := eq_false (by omega)
            have p8 : ((kk : Int) + 1 == 8) = false := by rw [beq_eq_false_iff_ne]; omega
            have CS : ∀ w3, Own w w3 (TabAt tb (T1 m b ⟨last, [], S⟩)) → Calls Try.prog 10 #[.pointer (some ⟨tb, 0, none⟩), .int .i64 1] w3 fun e w' => e = .returned (.tuple #[.int .i64 ((kk : Int) + 1), .int .i64 0]) ∧ Below w.heap.size w w' := by
              intro w3 N
              refine (T1.save N (show ([] : List (List Int)).length < 900000 by decide) (by show S.length < 8; omega)).mono ?_
              rintro e w' ⟨rfl, N'⟩
              refine ⟨?_, N'.below⟩
              show _ = Ending.returned (.tuple #[.int .i64 ((kk : Int) + 1), .int .i64 0])
              rw [show ((kk : Int) + 1) = ((kk + 1 : Nat) : Int) from by simp, ← hS2]
            clear hS2 h8
            go_wp2_with (first
              | (go_at_call 11; refine CB.mono ?_; rintro e w3 ⟨rfl, N2⟩; replace CS := CS _ N2)
              | (go_at_call 10; refine CS.mono ?_; rintro e w4 ⟨rfl, N3⟩))
            go_ret
            exact ⟨rfl, N3⟩
end Go.Proofs.Ytcgncdcihglgdaa.Pure
