import Derived.Test.YtdhajfimhjbbiaaQQDrop
import Derived.Test.YtdhajfimhjbbiaaQAlive
import Derived.Test.YtdhajfimhjbbiaaMx0
namespace Go.Proofs.Ytdhajfimhjbbiaa.Pure
open Go Go.RowKit Go.Proofs.Ytdhajfimhjbbiaa.Q Go.Proofs.Ytdhajfimhjbbiaa.M Go.Proofs.YtdhajfimhjbbiaaW.PrintWords Go.Proofs.YtdhajfimhjbbiaaW.PrintLast Go.Proofs.YtdhajfimhjbbiaaW.PrintMore
set_option linter.unusedVariables false
theorem keep_ins (id : Int) (o : Int × Int) {l : List (Int × Int)} (h : Srt l) : keepL id (insL o l) = if (o.2 == id) = true then keepL id l else insL o (keepL id l) := by
  have s1 : Srt (keepL id (insL o l)) := List.Pairwise.filter _ (insL_srt o l h)
  have s2 : Srt (keepL id l) := List.Pairwise.filter _ h
  have p1 : (keepL id (insL o l)).Perm (keepL id (o :: l)) := (insL_perm o l).filter _
  split
  next h1 =>
    refine srt_unique (p1.trans ?_) s1 s2
    unfold keepL
    rw [List.filter_cons_of_neg (by simp [h1])]
  next h1 =>
    refine srt_unique (p1.trans ?_) s1 (insL_srt _ _ s2)
    unfold keepL
    rw [List.filter_cons_of_pos (by simpa using h1)]
    exact (insL_perm _ _).symm
theorem keep_keep (id : Int) (l : List (Int × Int)) : keepL id (keepL id l) = keepL id l := by
  unfold keepL
  rw [List.filter_filter]
  congr 1
  funext x
  simp
set_option maxHeartbeats 4000000 in
set_option maxRecDepth 100000 in
theorem PrioDrops_walk (A : Option Addr) (c : Nat) (l : List S30) (id : Int) (w : World) (h0 : (l.length ≤ maxLen ∧ ∀ a_ ∈ l, ((Lit.int .i64 a_.f0).wf = true ∧ (Lit.int .i64 a_.f1).wf = true ∧ (Lit.int .i64 a_.f2).wf = true))) (h1 : l.length * 24 ≤ 140737488351232) (hn : (Lit.int .i64 id).wf = true) (hr : Kd.C k30 w A l.length l) (hc : l.length ≤ c) :
    Calls Try.prog 8 #[.slice A l.length c, .int .i64 id] w fun e w' => e = .returned (.bool true) ∧ Below w.heap.size w w' := by
  by_cases hlong : 80 < l.length
  · have p1 : (80 < (l.length : Int)) = True := eq_true (by omega)
    clear h0 h1
    go_enter Try.func8, Try.ntmps8
    go_wp2_with (go_at_call 10; refine (alive_calls _).mono ?_; rintro e w1 ⟨rfl, e1⟩)
    go_ret
    exact ⟨rfl, e1.below (Nat.le_refl _) (fun _ h => h.elim)⟩
  · have p1 : (80 < (l.length : Int)) = False := eq_false (by omega)
    have B : l.length ≤ 80 := by omega
    have H := Aside0.mk hr
    clear h0 h1 hr hlong hn
    go_enter Try.func8, Try.ntmps8
    go_wp2_with (go_at_call 10; refine (alive_calls _).mono ?_; rintro e w1 ⟨rfl, e1⟩; have N0 := New2.mk w w1 e1.size; have B0 := below_alloc (below_alloc (e1.below (Nat.le_refl _) (fun _ h => h.elim)) (.cells #[.slice none 0 0] 28)) (.cells #[.slice none 0 0] 28))
    go_loopg [7, 31] l.length (fun k s7 s31 wr => ∃ (i n : Nat) (la : List (Int × Int)), s7 = .int .i64 n ∧ s31 = .int .i64 i ∧ i + k = l.length ∧ Aside0 (Srt la ∧ la.length = i ∧ (keepL id la).length = n) ∧ New2 w wr w1.heap.size (w1.heap.size + 1) la (keepL id la) ∧ Below w.heap.size w wr)
    case atStart => exact ⟨0, 0, [], rfl, rfl, by omega, Aside0.mk ⟨List.Pairwise.nil, rfl, rfl⟩, N0, B0⟩
    case round =>
      obtain ⟨i, n, la, rfl, rfl, h1, A1, N1, B1⟩ := hrel
      clear N0 B0 e1
      have hnle : n ≤ i := by have := A1.out; have := keepL_length id la; omega
      by_cases hz : i < l.length
      · have p2 : ((i : Int) < (l.length : Int)) = True := eq_true (by omega)
        have B2 : i < 80 := by omega
        obtain ⟨ad, rfl, x1, x2, x3⟩ := at_T30 (Kd.C_below H.out B1) (i : Int) (by omega) (by omega)
        have e2 : (i : Int).toNat = i := by omega
        rw [e2] at x1 x2 x3
        generalize rd_T30 l i = x at x1 x2 x3
        have C1 : ∀ o, o = Obj.cells #[.int .i64 x.f0, .int .i64 x.f1, .int .i64 x.f2] 30 → Calls Try.prog 11 #[.pointer (some ⟨w1.heap.size, 0, none⟩), .int .i64 x.f1, .int .i64 x.f2] (wr.alloc o) fun e w' => e = .returned (.tuple #[]) ∧ New2 w w' w1.heap.size (w1.heap.size + 1) (insL (x.f1, x.f2) la) (keepL id la) ∧ Below w.heap.size w w' ∧ w'.cell? ⟨wr.heap.size, 1, none⟩ = some (.int .i64 x.f1) ∧ w'.cell? ⟨wr.heap.size, 2, none⟩ = some (.int .i64 x.f2) := by
          rintro o rfl
          refine (New2.push (l := la) (m := keepL id la) (New2.alloc N1 _) (Nat.le_trans B1.size (by simp)) (by have := A1.out; omega) _ _).mono fun e w' ⟨he, N2, Q2⟩ => ?_
          have hb := blk_typed (heap_alloc_new wr (.cells #[.int .i64 x.f0, .int .i64 x.f1, .int .i64 x.f2] 30)) Q2 (by decide)
          exact ⟨he, N2, below_q (below_alloc B1 _) Q2, blk_cell hb 1, blk_cell hb 2⟩
        cases hid : (x.f2 == id)
        · have hne : (x.f2 != id) = true := by simp [bne, hid]
          have A2 := Aside0.mk hid
          clear hid
          go_wp2_with (first | (go_at_call 11; refine (C1 _ rfl).mono ?_; rintro e w2 ⟨rfl, N2, B3, y1, y2⟩; clear C1) | (go_at_call 11; refine (New2.push (l := keepL id la) (New2.symm N2) B3.size (by have := A1.out; omega) _ _).mono ?_; rintro e w3 ⟨rfl, N3, Q3⟩; have B4 := below_q B3 Q3) | fail)
          go_roundg (gk - 1)
          case measure => omega
          case rel =>
            have e3 : keepL id (insL (x.f1, x.f2) la) = insL (x.f1, x.f2) (keepL id la) := by rw [keep_ins id _ A1.out.1, if_neg (by rw [A2.out]; simp)]
            have N4 := New2.symm N3
            rw [← e3] at N4
            exact ⟨i + 1, n + 1, _, by simp, by simp, by omega, Aside0.mk ⟨insL_srt _ _ A1.out.1, by rw [insL_length, A1.out.2.1], by rw [e3, insL_length, A1.out.2.2]⟩, N4, B4⟩
        · have hne : (x.f2 != id) = false := by simp [bne, hid]
          have A2 := Aside0.mk hid
          clear hid
          go_wp2_with (first | (go_at_call 11; refine (C1 _ rfl).mono ?_; rintro e w2 ⟨rfl, N2, B3, y1, y2⟩; clear C1) | fail)
          go_roundg (gk - 1)
          case measure => omega
          case rel =>
            have e3 : keepL id (insL (x.f1, x.f2) la) = keepL id la := by rw [keep_ins id _ A1.out.1, if_pos A2.out]
            rw [← e3] at N2
            exact ⟨i + 1, n, _, rfl, by simp, by omega, Aside0.mk ⟨insL_srt _ _ A1.out.1, by rw [insL_length, A1.out.2.1], by rw [e3, A1.out.2.2]⟩, N2, B3⟩
      · have p2 : ((i : Int) < (l.length : Int)) = False := eq_false (by omega)
        obtain rfl : i = l.length := by omega
        have C1 := New2.drop N1 B1.size (by have := A1.out; omega) id
        rw [A1.out.2.2, A1.out.2.1] at C1
        have C2 : ∀ w2, New2 w w2 w1.heap.size (w1.heap.size + 1) (keepL id la) (keepL id la) → Below w.heap.size w w2 → Calls Try.prog 17 #[.pointer (some ⟨w1.heap.size, 0, none⟩), .int .i64 id] w2 fun e w' => e = .returned (.int .i64 0) ∧ New2 w w' w1.heap.size (w1.heap.size + 1) (keepL id la) (keepL id la) ∧ Below w.heap.size w w' := by
          intro w2 N2 B2
          have D := New2.drop N2 B2.size (by have := A1.out; omega) id
          rw [keep_keep] at D
          refine D.mono fun e w' ⟨he, N3, Q3⟩ => ⟨by rw [he]; simp, N3, below_q B2 Q3⟩
        have hml : Aside0 ((keepL id la).length = n) := Aside0.mk A1.out.2.2
        have q1 : wrap64 ((l.length : Int) - n) = (l.length : Int) - n := by unfold wrap64; omega
        clear A1 N1
        generalize keepL id la = ml at *
        go_wp2_with (first | (go_at_call 17; refine C1.mono ?_; rintro e w2 ⟨rfl, N2, Q2⟩; have B3 := below_q B1 Q2; have C3 := C2 w2 N2 B3; clear C1 C2) | (go_at_call 17; refine C3.mono ?_; rintro e w3 ⟨rfl, N3, B4⟩; clear C3) | fail)
        go_loopg [10] (n + 1) (fun k s10 wr' => ∃ (j : Nat) (m : List (Int × Int)), s10 = .int .i64 j ∧ j + k = n + 1 ∧ m.length = n - j ∧ New2 w wr' w1.heap.size (w1.heap.size + 1) m m ∧ Below w.heap.size w wr')
        case atStart => exact ⟨0, ml, rfl, by omega, by rw [hml.out]; rfl, N3, B4⟩
        case round =>
          clear N3 B4 N2 B3 hml q1 B1
          obtain ⟨j, m, rfl, h2, h3, N4, B4⟩ := hrel
          by_cases hj : j < n
          · have p3 : ((j : Int) < (n : Int)) = True := eq_true (by omega)
            have p4 : ((j : Int) ≤ (n : Int)) = True := eq_true (by omega)
            have B5 : j < 80 := by omega
            cases m with
            | nil => simp at h3; omega
            | cons x m =>
              have hml : (x :: m).length < 900000 := by omega
              have hm2 : m.length = n - (j + 1) := by simp at h3; omega
              have hm3 := Aside0.mk hm2
              clear h3 hm2
              have C1 := New2.pop N4 hml
              have C2 : ∀ w2, New2 w w2 w1.heap.size (w1.heap.size + 1) m (x :: m) → Calls Try.prog 13 #[.pointer (some ⟨w1.heap.size + 1, 0, none⟩)] w2 fun e w' => e = .returned (.tuple #[.int .i64 x.1, .int .i64 x.2, .bool true]) ∧ New2 w w' w1.heap.size (w1.heap.size + 1) m m ∧ QEff w w2 w' := by
                intro w2 N2
                refine (New2.pop (New2.symm N2) hml).mono fun e w' ⟨he, N3, Q3⟩ => ⟨?_, New2.symm N3, Q3⟩
                simpa [hd] using he
              have d1 : decide (0 < (x :: m).length) = true := decide_eq_true (by simp)
              rw [d1] at C1
              simp only [hd, List.getD_cons_zero, List.tail_cons] at C1
              clear d1 hml N4
              go_wp2_with (first | (go_at_call 13; refine C1.mono ?_; rintro e w2 ⟨rfl, N5, Q5⟩; have B6 := below_q B4 Q5; have C3 := C2 w2 N5; clear C1 C2 B4) | (go_at_call 13; refine C3.mono ?_; rintro e w3 ⟨rfl, N6, Q6⟩; have B7 := below_q B6 Q6; clear C3 B6) | fail)
              go_roundg (gk - 1)
              case measure => omega
              case rel => exact ⟨j + 1, m, by simp, by omega, hm3.out, N6, B7⟩
          · by_cases hj2 : j = n
            · subst hj2
              obtain rfl : m = [] := List.eq_nil_of_length_eq_zero (by omega)
              have p4 : ((j : Int) ≤ (j : Int)) = True := eq_true (by omega)
              have B5 : j ≤ 80 := by omega
              have C1 := New2.pop N4 (by simp)
              have C2 : ∀ w2, New2 w w2 w1.heap.size (w1.heap.size + 1) [] [] → Calls Try.prog 13 #[.pointer (some ⟨w1.heap.size + 1, 0, none⟩)] w2 fun e w' => e = .returned (.tuple #[.int .i64 0, .int .i64 0, .bool false]) ∧ New2 w w' w1.heap.size (w1.heap.size + 1) [] [] ∧ QEff w w2 w' :=
                fun w2 N2 => (New2.pop (New2.symm N2) (by simp)).mono fun e w' ⟨he, N3, Q3⟩ => ⟨he, New2.symm N3, Q3⟩
              clear N4 h3
              go_wp2_with (first | (go_at_call 13; refine C1.mono ?_; rintro e w2 ⟨rfl, N5, Q5⟩; have B6 := below_q B4 Q5; have C3 := C2 w2 N5; clear C1 C2 B4) | (go_at_call 13; refine C3.mono ?_; rintro e w3 ⟨rfl, N6, Q6⟩; have B7 := below_q B6 Q6; clear C3 B6) | fail)
              go_roundg (gk - 1)
              case measure => omega
              case rel => exact ⟨j + 1, [], by simp, by omega, by simp, N6, B7⟩
            · have p4 : ((j : Int) ≤ (n : Int)) = False := eq_false (by omega)
              go_wp2_with fail
              go_ret
              exact ⟨rfl, B4⟩
end Go.Proofs.Ytdhajfimhjbbiaa.Pure
