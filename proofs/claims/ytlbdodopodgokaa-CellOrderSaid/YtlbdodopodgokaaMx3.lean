-- Laid by wip/gen/myprint.py of this session, on the kit's print.
import Derived.Test.YtlbdodopodgokaaMx0
import Derived.Test.YtlbdodopodgokaaMx2
namespace Go.Proofs.Ytlbdodopodgokaa.M
open Go.RowKit Go.Proofs.YtlbdodopodgokaaW.PrintWords Go.Proofs.YtlbdodopodgokaaW.PrintLast Go.Proofs.YtlbdodopodgokaaW.PrintMore
attribute [local go_sem] max2_int min2_int max_two min_two max_three min_three max_four min_four   -- for this text's walks alone
set_option linter.unusedVariables false
set_option linter.unusedSimpArgs false

/-! ### honeycomblaw7_CellTurned: function 3 -/
def honeycomblaw7_CellTurned.j0 : Nat → List (S32) → Int → Int → Bool → Option (Bool)
  | 0, _, _, _, _ => none
  | k + 1, x0, x1, x2, x22 => if x22 = true then ((honeycomblaw7_alive.f).bind fun t119 => (some t119)) else ((cell_Put.f x0).bind fun bt120 => (if bt120.2 = true then (if (bt120.1.size : Int) = 0 then (some false) else (if 0 ≤ (Int.tmod (wrap64 ((Int.tmod x1 (bt120.1.size : Int)) + (bt120.1.size : Int))) (bt120.1.size : Int)) then (if (Int.tmod (wrap64 ((Int.tmod x1 (bt120.1.size : Int)) + (bt120.1.size : Int))) (bt120.1.size : Int)) ≤ (bt120.1.size : Int) then (if (Int.tmod (wrap64 ((Int.tmod x1 (bt120.1.size : Int)) + (bt120.1.size : Int))) (bt120.1.size : Int)) < (bt120.1.size : Int) then ((some (([Go.bits .xor .u8 (bt bt120.1 (Int.tmod (wrap64 ((Int.tmod x1 (bt120.1.size : Int)) + (bt120.1.size : Int))) (bt120.1.size : Int))) x2] : List Int) : List Int)).bind fun y122 => (if (bt120.1.extract 0 ((Int.tmod (wrap64 ((Int.tmod x1 (bt120.1.size : Int)) + (bt120.1.size : Int))) (bt120.1.size : Int)) : Int).toNat).size + (strOfNums y122).size ≤ 9223372036854775807 then (if 0 ≤ (wrap64 ((Int.tmod (wrap64 ((Int.tmod x1 (bt120.1.size : Int)) + (bt120.1.size : Int))) (bt120.1.size : Int)) + 1)) then (if (wrap64 ((Int.tmod (wrap64 ((Int.tmod x1 (bt120.1.size : Int)) + (bt120.1.size : Int))) (bt120.1.size : Int)) + 1)) ≤ (bt120.1.size : Int) then (if ((bt120.1.extract 0 ((Int.tmod (wrap64 ((Int.tmod x1 (bt120.1.size : Int)) + (bt120.1.size : Int))) (bt120.1.size : Int)) : Int).toNat) ++ (strOfNums y122)).size + (bt120.1.extract ((wrap64 ((Int.tmod (wrap64 ((Int.tmod x1 (bt120.1.size : Int)) + (bt120.1.size : Int))) (bt120.1.size : Int)) + 1)) : Int).toNat bt120.1.size).size ≤ 9223372036854775807 then ((cell_Get.f (((bt120.1.extract 0 ((Int.tmod (wrap64 ((Int.tmod x1 (bt120.1.size : Int)) + (bt120.1.size : Int))) (bt120.1.size : Int)) : Int).toNat) ++ (strOfNums y122)) ++ (bt120.1.extract ((wrap64 ((Int.tmod (wrap64 ((Int.tmod x1 (bt120.1.size : Int)) + (bt120.1.size : Int))) (bt120.1.size : Int)) + 1)) : Int).toNat bt120.1.size))).bind fun bt125 => (if bt125.2 = true then ((honeycombbook_SameCells.f k bt125.1 x0).bind fun t129 => (some (!t129))) else (some true))) else (none)) else (none)) else (none)) else (none))) else (none)) else (none)) else (none))) else (some true)))
def honeycomblaw7_CellTurned.f (k : Nat) (l0 : List (S32)) (a1 : Int) (a2 : Int) : Option (Bool) := if (l0.length : Int) > 60 then (honeycomblaw7_CellTurned.j0 k l0 a1 a2 true) else (if a2 = 0 then (honeycomblaw7_CellTurned.j0 k l0 a1 a2 true) else ((honeycomblaw7_alive.f).bind fun t118 => (honeycomblaw7_CellTurned.j0 k l0 a1 a2 (!t118))))
theorem honeycomblaw7_CellTurned.mono_l : ∀ k, (∀ y0 y1 y2 y3, LeO (honeycomblaw7_CellTurned.j0 k y0 y1 y2 y3) (honeycomblaw7_CellTurned.j0 (k + 1) y0 y1 y2 y3))
  | 0 => fun _ _ _ _ r h => by simp [honeycomblaw7_CellTurned.j0] at h
  | k + 1 => by
    have ih0 := honeycomblaw7_CellTurned.mono_l k
    · intro y0 y1 y2 y3
      unfold honeycomblaw7_CellTurned.j0
      repeat' first
      | (with_reducible exact ih0 _ _ _ _)
      | (with_reducible exact honeycombbook_SameCells.mono _ _ _)
      | (with_reducible exact LeO.refl _)
      | (with_reducible exact LeO.none _)
      | (with_reducible refine LeO.ite ?_ ?_)
      | (with_reducible refine LeO.bind ?_ (fun _ => ?_))
      | exact ih0 _ _ _ _
      | exact honeycombbook_SameCells.mono _ _ _
      | exact LeO.none _
      | refine LeO.ite ?_ ?_
      | refine LeO.bind ?_ (fun _ => ?_)
theorem honeycomblaw7_CellTurned.mono : ∀ a0 a1 a2 k, LeO (honeycomblaw7_CellTurned.f k a0 a1 a2) (honeycomblaw7_CellTurned.f (k + 1) a0 a1 a2) := by
  intro a0 a1 a2 k
  have ih0 := honeycomblaw7_CellTurned.mono_l k
  unfold honeycomblaw7_CellTurned.f
  repeat' first
      | (with_reducible exact ih0 _ _ _ _)
      | (with_reducible exact honeycombbook_SameCells.mono _ _ _)
      | (with_reducible exact LeO.refl _)
      | (with_reducible exact LeO.none _)
      | (with_reducible refine LeO.ite ?_ ?_)
      | (with_reducible refine LeO.bind ?_ (fun _ => ?_))
      | exact ih0 _ _ _ _
      | exact honeycombbook_SameCells.mono _ _ _
      | exact LeO.none _
      | refine LeO.ite ?_ ?_
      | refine LeO.bind ?_ (fun _ => ?_)
def honeycomblaw7_CellTurned.T9 : Bool × List (List Nat × List Nat) := (true, [([], []), ([], []), ([0, 1], [0, 1]), ([], []), ([], []), ([3, 4], [3, 4]), ([], []), ([5, 6], [5, 6]), ([7], [7]), ([8], [8]), ([2, 9], [2, 9]), ([], []), ([], []), ([12], [12]), ([11, 13], [11, 13]), ([10, 14], [10, 14]), ([15], [15]), ([16], [16]), ([17], [17]), ([17], [17]), ([18, 16, 0, 1, 2, 3, 4, 5, 6, 7, 8, 9, 10, 11, 12, 13, 14, 15, 16, 17, 18], [18]), ([19, 20, 0, 1, 2, 3, 4, 5, 6, 7, 8, 9, 10, 11, 12, 13, 14, 15, 16, 17, 18, 19, 20], [19])])
def honeycomblaw7_CellTurned.B9 : List Nat := [0, 0, 3, 0, 0, 24, 0, 120, 248, 504, 1023, 0, 0, 4096, 14336, 32767, 65535, 131071, 262143, 262143, 524287, 2097151]
theorem honeycomblaw7_CellTurned.tab9 : rtab .any (opsOf Try.f3 9) = honeycomblaw7_CellTurned.T9 := by kernel_rfl
theorem honeycomblaw7_CellTurned.bits9 : waitsOk honeycomblaw7_CellTurned.T9.2 honeycomblaw7_CellTurned.B9 = true := by kernel_rfl
set_option maxHeartbeats 8000000 in
set_option maxRecDepth 100000 in
theorem honeycomblaw7_CellTurned.calls (k : Nat) (A0 : Option Addr) (c0 : Nat) (l0 : List (S32)) (a1 : Int) (a2 : Int) (r : Bool) (w : World) (hr0 : Kd.C k32 w A0 l0.length l0) (hc0 : l0.length ≤ c0) (h : honeycomblaw7_CellTurned.f k l0 a1 a2 = some r) :
    Calls Try.prog 3 #[.slice A0 l0.length c0, .int .i64 a1, .int .u8 a2] w fun e w' => e = .returned (.bool r) ∧ Below w.heap.size w w' := by
  have HR0 := Aside0.mk hr0
  have HC0 := Aside0.mk hc0
  clear hr0 hc0
  have HB := Aside0.mk (Below.refl w.heap.size w)
  have H : (if (l0.length : Int) > 60 then (honeycomblaw7_CellTurned.j0 k l0 a1 a2 true) else (if a2 = 0 then (honeycomblaw7_CellTurned.j0 k l0 a1 a2 true) else ((honeycomblaw7_alive.f).bind fun t118 => (honeycomblaw7_CellTurned.j0 k l0 a1 a2 (!t118))))) = some r := h
  clear h
  have HC4 := Aside0.mk H
  clear H
  go_enter Try.func3, Try.ntmps3
  go_upto_region 1 with (fail)
  go_cut [22] (fun v22 wc => ∃ (kq : Nat) (x22_3 : Bool), v22 = .bool x22_3 ∧ Aside0 (honeycomblaw7_CellTurned.j0 kq l0 a1 a2 x22_3 = some r) ∧ Aside0 (kq ≤ k) ∧ Aside0 (Below w.heap.size w wc))
  case first =>
    have H := HC4.out
    clear HC4
    by_cases c5 : (l0.length : Int) > 60
    · rw [if_pos c5] at H
      have c5b0 : decide (60 < (l0.length : Int)) = true := decide_eq_true c5
      have c5b1 : decide (60 < l0.length) = true := decide_eq_true (by omega)
      clear c5
      (first | rw [c5b0] | (simp only [i64_w, i32_w]; rw [c5b0]) | skip)
      have H' := Aside0.mk H
      clear H
      go_wp2
      go_meet
      case rel => exact ⟨_, (true), (by first | rfl | (simp; done) | (simp [*]; done)), H', ⟨by first | omega | exact Nat.le_refl _⟩, ⟨by repeat (first | (with_reducible first | exact HB.out | apply below_alloc | apply pw_below_drewN | apply below_drew1) | exact HB.out)⟩⟩
    · rw [if_neg c5] at H
      have c5b0 : decide (60 < (l0.length : Int)) = false := decide_eq_false c5
      have c5b1 : decide (60 < l0.length) = false := decide_eq_false (by omega)
      clear c5
      (first | rw [c5b0] | (simp only [i64_w, i32_w]; rw [c5b0]) | skip)
      by_cases c6 : a2 = 0
      · rw [if_pos c6] at H
        have c6b0 : (a2 == 0) = true := beq_iff_eq.mpr c6
        have c6b1 : (a2 != 0) = false := bne_eq_false_iff_eq.mpr c6
        clear c6
        have H' := Aside0.mk H
        clear H
        go_wp2
        go_meet
        case rel => exact ⟨_, (true), (by first | rfl | (simp; done) | (simp [*]; done)), H', ⟨by first | omega | exact Nat.le_refl _⟩, ⟨by repeat (first | (with_reducible first | exact HB.out | apply below_alloc | apply pw_below_drewN | apply below_drew1) | exact HB.out)⟩⟩
      · rw [if_neg c6] at H
        have c6b0 : (a2 == 0) = false := beq_eq_false_iff_ne.mpr c6
        have c6b1 : (a2 != 0) = true := bne_iff_ne.mpr c6
        replace H := Option.bind_eq_some_iff.mp H
        obtain ⟨t118, A70, H⟩ := H
        replace H : (honeycomblaw7_CellTurned.j0 k l0 a1 a2 (!t118)) = some r := H
        have A7 := Aside0.mk A70
        clear A70
        have H' := Aside0.mk H
        clear H
        go_wp2_with (first | (go_at_call 9; (with_reducible refine (honeycomblaw7_alive.calls  t118 _ A7.out).mono ?_); rintro e w8 ⟨rfl, hb⟩; have n0_ := Aside0.mk (below_step (by repeat (first | (with_reducible first | exact HB.out | apply below_alloc | apply pw_below_drewN | apply below_drew1) | exact HB.out)) hb); clear HB; have HB := n0_; clear n0_; (try clear hb); (try clear hb2); (try clear hk); (try clear hi)))
        go_meet
        case rel => exact ⟨_, (!t118), (by first | rfl | (simp; done) | (simp [*]; done)), H', ⟨by first | omega | exact Nat.le_refl _⟩, ⟨by repeat (first | (with_reducible first | exact HB.out | apply below_alloc | apply pw_below_drewN | apply below_drew1) | exact HB.out)⟩⟩
  case rest =>
    clear HC4
    try clear p2
    try clear c3
    try clear c5
    try clear c5b0
    try clear c5b1
    try clear c6
    try clear c6b0
    try clear c6b1
    obtain ⟨kq, x22_3, rfl, HA, HJ3, HB⟩ := hcut
    cases kq with
    | zero => exact absurd HA.out (by simp [honeycomblaw7_CellTurned.j0])
    | succ kj3 =>
      have H := HA.out
      clear HA
      simp only [honeycomblaw7_CellTurned.j0] at H
      by_cases c9 : x22_3 = true
      · subst c9
        have H1 : ((honeycomblaw7_alive.f).bind fun t119 => (some t119)) = some r := by rw [if_pos rfl] at H; exact H
        clear H
        have H := H1
        clear H1
        replace H := Option.bind_eq_some_iff.mp H
        obtain ⟨t119, A100, H⟩ := H
        replace H : (some t119) = some r := H
        have A10 := Aside0.mk A100
        clear A100
        obtain rfl := Option.some.inj H
        go_wp2_with (first | ((with_reducible refine gate_callee (f := 9) rfl ?_); refine goesL_ (some 23) rfl rfl Try.func9 (by kernel_rfl) rfl #[] rfl (by (try simp only [List.map_toArray, List.map_cons, List.map_nil]); first | done | rfl | (simp only [List.length_drop, List.length_take]; rfl)) ?_; (with_reducible refine (honeycomblaw7_alive.calls  t119 _ A10.out).mono ?_); rintro e w11 ⟨rfl, hb⟩; refine ⟨_, rfl, ?_⟩; have n0_ := Aside0.mk (below_step (by repeat (first | (with_reducible first | exact HB.out | apply below_alloc | apply pw_below_drewN | apply below_drew1) | exact HB.out)) hb); clear HB; have HB := n0_; clear n0_; (try clear hb); (try clear hb2); (try clear hk); (try clear hi)))
        go_ret
        exact ⟨by first | rfl | (simp [errW_none, errW_some] <;> rfl) | (simp [*, errW_none, errW_some] <;> rfl), by repeat (first | (with_reducible first | exact HB.out | apply below_alloc | apply pw_below_drewN | apply below_drew1) | exact HB.out)⟩
      · replace c9 := Bool.eq_false_iff.mpr c9
        subst c9
        have H1 : ((cell_Put.f l0).bind fun bt120 => (if bt120.2 = true then (if (bt120.1.size : Int) = 0 then (some false) else (if 0 ≤ (Int.tmod (wrap64 ((Int.tmod a1 (bt120.1.size : Int)) + (bt120.1.size : Int))) (bt120.1.size : Int)) then (if (Int.tmod (wrap64 ((Int.tmod a1 (bt120.1.size : Int)) + (bt120.1.size : Int))) (bt120.1.size : Int)) ≤ (bt120.1.size : Int) then (if (Int.tmod (wrap64 ((Int.tmod a1 (bt120.1.size : Int)) + (bt120.1.size : Int))) (bt120.1.size : Int)) < (bt120.1.size : Int) then ((some (([Go.bits .xor .u8 (bt bt120.1 (Int.tmod (wrap64 ((Int.tmod a1 (bt120.1.size : Int)) + (bt120.1.size : Int))) (bt120.1.size : Int))) a2] : List Int) : List Int)).bind fun y122 => (if (bt120.1.extract 0 ((Int.tmod (wrap64 ((Int.tmod a1 (bt120.1.size : Int)) + (bt120.1.size : Int))) (bt120.1.size : Int)) : Int).toNat).size + (strOfNums y122).size ≤ 9223372036854775807 then (if 0 ≤ (wrap64 ((Int.tmod (wrap64 ((Int.tmod a1 (bt120.1.size : Int)) + (bt120.1.size : Int))) (bt120.1.size : Int)) + 1)) then (if (wrap64 ((Int.tmod (wrap64 ((Int.tmod a1 (bt120.1.size : Int)) + (bt120.1.size : Int))) (bt120.1.size : Int)) + 1)) ≤ (bt120.1.size : Int) then (if ((bt120.1.extract 0 ((Int.tmod (wrap64 ((Int.tmod a1 (bt120.1.size : Int)) + (bt120.1.size : Int))) (bt120.1.size : Int)) : Int).toNat) ++ (strOfNums y122)).size + (bt120.1.extract ((wrap64 ((Int.tmod (wrap64 ((Int.tmod a1 (bt120.1.size : Int)) + (bt120.1.size : Int))) (bt120.1.size : Int)) + 1)) : Int).toNat bt120.1.size).size ≤ 9223372036854775807 then ((cell_Get.f (((bt120.1.extract 0 ((Int.tmod (wrap64 ((Int.tmod a1 (bt120.1.size : Int)) + (bt120.1.size : Int))) (bt120.1.size : Int)) : Int).toNat) ++ (strOfNums y122)) ++ (bt120.1.extract ((wrap64 ((Int.tmod (wrap64 ((Int.tmod a1 (bt120.1.size : Int)) + (bt120.1.size : Int))) (bt120.1.size : Int)) + 1)) : Int).toNat bt120.1.size))).bind fun bt125 => (if bt125.2 = true then ((honeycombbook_SameCells.f kj3 bt125.1 l0).bind fun t129 => (some (!t129))) else (some true))) else (none)) else (none)) else (none)) else (none))) else (none)) else (none)) else (none))) else (some true))) = some r := by rw [if_neg (show ¬ (false = true) by decide)] at H; exact H
        clear H
        have H := H1
        clear H1
        replace H := Option.bind_eq_some_iff.mp H
        obtain ⟨⟨t120, t121⟩, A120, H⟩ := H
        replace H : (if t121 = true then (if (t120.size : Int) = 0 then (some false) else (if 0 ≤ (Int.tmod (wrap64 ((Int.tmod a1 (t120.size : Int)) + (t120.size : Int))) (t120.size : Int)) then (if (Int.tmod (wrap64 ((Int.tmod a1 (t120.size : Int)) + (t120.size : Int))) (t120.size : Int)) ≤ (t120.size : Int) then (if (Int.tmod (wrap64 ((Int.tmod a1 (t120.size : Int)) + (t120.size : Int))) (t120.size : Int)) < (t120.size : Int) then ((some (([Go.bits .xor .u8 (bt t120 (Int.tmod (wrap64 ((Int.tmod a1 (t120.size : Int)) + (t120.size : Int))) (t120.size : Int))) a2] : List Int) : List Int)).bind fun y122 => (if (t120.extract 0 ((Int.tmod (wrap64 ((Int.tmod a1 (t120.size : Int)) + (t120.size : Int))) (t120.size : Int)) : Int).toNat).size + (strOfNums y122).size ≤ 9223372036854775807 then (if 0 ≤ (wrap64 ((Int.tmod (wrap64 ((Int.tmod a1 (t120.size : Int)) + (t120.size : Int))) (t120.size : Int)) + 1)) then (if (wrap64 ((Int.tmod (wrap64 ((Int.tmod a1 (t120.size : Int)) + (t120.size : Int))) (t120.size : Int)) + 1)) ≤ (t120.size : Int) then (if ((t120.extract 0 ((Int.tmod (wrap64 ((Int.tmod a1 (t120.size : Int)) + (t120.size : Int))) (t120.size : Int)) : Int).toNat) ++ (strOfNums y122)).size + (t120.extract ((wrap64 ((Int.tmod (wrap64 ((Int.tmod a1 (t120.size : Int)) + (t120.size : Int))) (t120.size : Int)) + 1)) : Int).toNat t120.size).size ≤ 9223372036854775807 then ((cell_Get.f (((t120.extract 0 ((Int.tmod (wrap64 ((Int.tmod a1 (t120.size : Int)) + (t120.size : Int))) (t120.size : Int)) : Int).toNat) ++ (strOfNums y122)) ++ (t120.extract ((wrap64 ((Int.tmod (wrap64 ((Int.tmod a1 (t120.size : Int)) + (t120.size : Int))) (t120.size : Int)) + 1)) : Int).toNat t120.size))).bind fun bt125 => (if bt125.2 = true then ((honeycombbook_SameCells.f kj3 bt125.1 l0).bind fun t129 => (some (!t129))) else (some true))) else (none)) else (none)) else (none)) else (none))) else (none)) else (none)) else (none))) else (some true)) = some r := H
        have A12 := Aside0.mk A120
        clear A120
        by_cases c13 : t121 = true
        · subst c13
          have H1 : (if (t120.size : Int) = 0 then (some false) else (if 0 ≤ (Int.tmod (wrap64 ((Int.tmod a1 (t120.size : Int)) + (t120.size : Int))) (t120.size : Int)) then (if (Int.tmod (wrap64 ((Int.tmod a1 (t120.size : Int)) + (t120.size : Int))) (t120.size : Int)) ≤ (t120.size : Int) then (if (Int.tmod (wrap64 ((Int.tmod a1 (t120.size : Int)) + (t120.size : Int))) (t120.size : Int)) < (t120.size : Int) then ((some (([Go.bits .xor .u8 (bt t120 (Int.tmod (wrap64 ((Int.tmod a1 (t120.size : Int)) + (t120.size : Int))) (t120.size : Int))) a2] : List Int) : List Int)).bind fun y122 => (if (t120.extract 0 ((Int.tmod (wrap64 ((Int.tmod a1 (t120.size : Int)) + (t120.size : Int))) (t120.size : Int)) : Int).toNat).size + (strOfNums y122).size ≤ 9223372036854775807 then (if 0 ≤ (wrap64 ((Int.tmod (wrap64 ((Int.tmod a1 (t120.size : Int)) + (t120.size : Int))) (t120.size : Int)) + 1)) then (if (wrap64 ((Int.tmod (wrap64 ((Int.tmod a1 (t120.size : Int)) + (t120.size : Int))) (t120.size : Int)) + 1)) ≤ (t120.size : Int) then (if ((t120.extract 0 ((Int.tmod (wrap64 ((Int.tmod a1 (t120.size : Int)) + (t120.size : Int))) (t120.size : Int)) : Int).toNat) ++ (strOfNums y122)).size + (t120.extract ((wrap64 ((Int.tmod (wrap64 ((Int.tmod a1 (t120.size : Int)) + (t120.size : Int))) (t120.size : Int)) + 1)) : Int).toNat t120.size).size ≤ 9223372036854775807 then ((cell_Get.f (((t120.extract 0 ((Int.tmod (wrap64 ((Int.tmod a1 (t120.size : Int)) + (t120.size : Int))) (t120.size : Int)) : Int).toNat) ++ (strOfNums y122)) ++ (t120.extract ((wrap64 ((Int.tmod (wrap64 ((Int.tmod a1 (t120.size : Int)) + (t120.size : Int))) (t120.size : Int)) + 1)) : Int).toNat t120.size))).bind fun bt125 => (if bt125.2 = true then ((honeycombbook_SameCells.f kj3 bt125.1 l0).bind fun t129 => (some (!t129))) else (some true))) else (none)) else (none)) else (none)) else (none))) else (none)) else (none)) else (none))) = some r := by rw [if_pos rfl] at H; exact H
          clear H
          have H := H1
          clear H1
          by_cases c14 : (t120.size : Int) = 0
          · rw [if_pos c14] at H
            have c14b0 : ((t120.size : Int) == 0) = true := beq_iff_eq.mpr c14
            have c14b1 : ((t120.size : Int) != 0) = false := bne_eq_false_iff_eq.mpr c14
            clear c14
            obtain rfl := Option.some.inj H
            go_wp2_with (first | ((with_reducible refine gate_callee (f := 10) rfl ?_); refine goesL_ (some 26) rfl rfl Try.func10 (by kernel_rfl) rfl #[.slice A0 l0.length c0] rfl (by (try simp only [List.map_toArray, List.map_cons, List.map_nil]); first | done | rfl | (simp only [List.length_drop, List.length_take]; rfl)) ?_; (with_reducible refine (cell_Put.calls _ _ l0 t120 true _ ?side1 ?side2 A12.out).mono ?_); (case side1 => repeat (first | exact (Kd.C_below HR0.out HB.out) | (with_reducible refine Kd.C_alloc ?_ _) | (with_reducible refine Kd.C_drewN ?_ _) | (with_reducible refine Kd.C_drew ?_))); (case side2 => exact HC0.out); rintro e w15 ⟨rfl, hb⟩; refine ⟨_, rfl, ?_⟩; have n0_ := Aside0.mk (below_step (by repeat (first | (with_reducible first | exact HB.out | apply below_alloc | apply pw_below_drewN | apply below_drew1) | exact HB.out)) hb); clear HB; have HB := n0_; clear n0_; (try clear hb); (try clear hb2); (try clear hk); (try clear hi)))
            go_ret
            exact ⟨by first | rfl | (simp [errW_none, errW_some] <;> rfl) | (simp [*, errW_none, errW_some] <;> rfl), by repeat (first | (with_reducible first | exact HB.out | apply below_alloc | apply pw_below_drewN | apply below_drew1) | exact HB.out)⟩
          · rw [if_neg c14] at H
            have c14b0 : ((t120.size : Int) == 0) = false := beq_eq_false_iff_ne.mpr c14
            have c14b1 : ((t120.size : Int) != 0) = true := bne_iff_ne.mpr c14
            obtain ⟨ji16, hji16⟩ : ∃ j_ : Int, (Int.tmod (wrap64 ((Int.tmod a1 (t120.size : Int)) + (t120.size : Int))) (t120.size : Int)) = j_ := ⟨_, rfl⟩
            replace H : (if 0 ≤ (ji16) then (if (ji16) ≤ (t120.size : Int) then (if (ji16) < (t120.size : Int) then ((some (([Go.bits .xor .u8 (bt t120 (ji16)) a2] : List Int) : List Int)).bind fun y122 => (if (t120.extract 0 ((ji16) : Int).toNat).size + (strOfNums y122).size ≤ 9223372036854775807 then (if 0 ≤ (wrap64 ((ji16) + 1)) then (if (wrap64 ((ji16) + 1)) ≤ (t120.size : Int) then (if ((t120.extract 0 ((ji16) : Int).toNat) ++ (strOfNums y122)).size + (t120.extract ((wrap64 ((ji16) + 1)) : Int).toNat t120.size).size ≤ 9223372036854775807 then ((cell_Get.f (((t120.extract 0 ((ji16) : Int).toNat) ++ (strOfNums y122)) ++ (t120.extract ((wrap64 ((ji16) + 1)) : Int).toNat t120.size))).bind fun bt125 => (if bt125.2 = true then ((honeycombbook_SameCells.f kj3 bt125.1 l0).bind fun t129 => (some (!t129))) else (some true))) else (none)) else (none)) else (none)) else (none))) else (none)) else (none)) else (none)) = some r := by first | (rw [hji16] at H; exact H) | (simp only [hji16] at H ⊢; exact H)
            (try rw [hji16] at A12)
            by_cases c17 : 0 ≤ (ji16)
            · rw [if_pos c17] at H
              have c17b0 := eq_true c17
              have c17b1 : decide (0 ≤ (ji16)) = true := decide_eq_true c17
              clear c17
              by_cases c18 : (ji16) ≤ (t120.size : Int)
              · rw [if_pos c18] at H
                have c18b0 := eq_true c18
                have c18b1 : decide ((ji16) ≤ (t120.size : Int)) = true := decide_eq_true c18
                clear c18
                by_cases c19 : (ji16) < (t120.size : Int)
                · rw [if_pos c19] at H
                  have c19b0 : decide ((ji16) < (t120.size : Int)) = true := decide_eq_true c19
                  clear c19
                  obtain ⟨y122, hy122⟩ : ∃ y_ : List Int, y_ = (([Go.bits .xor .u8 (bt t120 (ji16)) a2] : List Int)) := ⟨_, rfl⟩
                  replace H : (if (t120.extract 0 ((ji16) : Int).toNat).size + (strOfNums y122).size ≤ 9223372036854775807 then (if 0 ≤ (wrap64 ((ji16) + 1)) then (if (wrap64 ((ji16) + 1)) ≤ (t120.size : Int) then (if ((t120.extract 0 ((ji16) : Int).toNat) ++ (strOfNums y122)).size + (t120.extract ((wrap64 ((ji16) + 1)) : Int).toNat t120.size).size ≤ 9223372036854775807 then ((cell_Get.f (((t120.extract 0 ((ji16) : Int).toNat) ++ (strOfNums y122)) ++ (t120.extract ((wrap64 ((ji16) + 1)) : Int).toNat t120.size))).bind fun bt125 => (if bt125.2 = true then ((honeycombbook_SameCells.f kj3 bt125.1 l0).bind fun t129 => (some (!t129))) else (some true))) else (none)) else (none)) else (none)) else (none)) = some r := by first | (rw [hy122]; with_reducible exact H) | (have H2_ := (Option.bind_some _ _).symm.trans H; rw [hy122]; with_reducible exact H2_) | (have H2_ := (Option.bind_some _ _).symm.trans H; with_reducible exact H2_) | with_reducible exact H | (rw [hy122]; exact H) | exact H
                  have Ny122 := Aside0.mk hy122
                  clear hy122
                  by_cases c21 : (t120.extract 0 ((ji16) : Int).toNat).size + (strOfNums y122).size ≤ 9223372036854775807
                  · rw [if_pos c21] at H
                    have c21b0 := eq_true c21
                    have c21b1 : decide ((t120.extract 0 ((ji16) : Int).toNat).size + (strOfNums y122).size ≤ 9223372036854775807) = true := decide_eq_true c21
                    try have c21b2 : (9223372036854775807 < (t120.extract 0 ((ji16) : Int).toNat).size + (strOfNums y122).size) = False := eq_false (Nat.not_lt.2 c21)
                    try have c21b4 : (9223372036854775807 < ((ji16) : Int).toNat + (strOfNums y122).size) = False := eq_false (by have hz := c21; simp only [ByteArray.size_append, ByteArray.size_extract] at hz; (try have q1_ := of_eq_true c1b0); (try have q2_ := of_eq_true c2b0); (try have q3_ := of_eq_true c3b0); (try have q4_ := of_eq_true c4b0); (try have q5_ := of_eq_true c5b0); (try have q6_ := of_eq_true c6b0); (try have q7_ := of_eq_true c7b0); (try have q8_ := of_eq_true c8b0); (try have q9_ := of_eq_true c9b0); (try have q10_ := of_eq_true c10b0); (try have q11_ := of_eq_true c11b0); (try have q12_ := of_eq_true c12b0); (try have q13_ := of_eq_true c13b0); (try have q14_ := of_eq_true c14b0); (try have q15_ := of_eq_true c15b0); (try have q16_ := of_eq_true c16b0); (try have q17_ := of_eq_true c17b0); (try have q18_ := of_eq_true c18b0); (try have q19_ := of_eq_true c19b0); (try have q20_ := of_eq_true c20b0); omega)
                    obtain ⟨ji22, hji22⟩ : ∃ j_ : Int, (wrap64 ((ji16) + 1)) = j_ := ⟨_, rfl⟩
                    replace H : (if 0 ≤ (ji22) then (if (ji22) ≤ (t120.size : Int) then (if ((t120.extract 0 ((ji16) : Int).toNat) ++ (strOfNums y122)).size + (t120.extract ((ji22) : Int).toNat t120.size).size ≤ 9223372036854775807 then ((cell_Get.f (((t120.extract 0 ((ji16) : Int).toNat) ++ (strOfNums y122)) ++ (t120.extract ((ji22) : Int).toNat t120.size))).bind fun bt125 => (if bt125.2 = true then ((honeycombbook_SameCells.f kj3 bt125.1 l0).bind fun t129 => (some (!t129))) else (some true))) else (none)) else (none)) else (none)) = some r := by first | (rw [hji22] at H; exact H) | (simp only [hji22] at H ⊢; exact H)
                    (try rw [hji22] at A12)
                    have hji22w : (IntKind.i64.wrap ((ji16) + 1)) = ji22 := (i64_w _).trans hji22
                    by_cases c23 : 0 ≤ (ji22)
                    · rw [if_pos c23] at H
                      have c23b0 := eq_true c23
                      have c23b1 : decide (0 ≤ (ji22)) = true := decide_eq_true c23
                      clear c23
                      by_cases c24 : (ji22) ≤ (t120.size : Int)
                      · rw [if_pos c24] at H
                        have c24b0 := eq_true c24
                        have c24b1 : decide ((ji22) ≤ (t120.size : Int)) = true := decide_eq_true c24
                        clear c24
                        by_cases c25 : ((t120.extract 0 ((ji16) : Int).toNat) ++ (strOfNums y122)).size + (t120.extract ((ji22) : Int).toNat t120.size).size ≤ 9223372036854775807
                        · rw [if_pos c25] at H
                          have c25b0 := eq_true c25
                          have c25b1 : decide (((t120.extract 0 ((ji16) : Int).toNat) ++ (strOfNums y122)).size + (t120.extract ((ji22) : Int).toNat t120.size).size ≤ 9223372036854775807) = true := decide_eq_true c25
                          try have c25b2 : (9223372036854775807 < ((t120.extract 0 ((ji16) : Int).toNat) ++ (strOfNums y122)).size + (t120.extract ((ji22) : Int).toNat t120.size).size) = False := eq_false (Nat.not_lt.2 c25)
                          try have c25b4 : (9223372036854775807 < (((ji16) : Int).toNat + (strOfNums y122).size) + (t120.size - ((ji22) : Int).toNat)) = False := eq_false (by have hz := c25; simp only [ByteArray.size_append, ByteArray.size_extract] at hz; (try have q1_ := of_eq_true c1b0); (try have q2_ := of_eq_true c2b0); (try have q3_ := of_eq_true c3b0); (try have q4_ := of_eq_true c4b0); (try have q5_ := of_eq_true c5b0); (try have q6_ := of_eq_true c6b0); (try have q7_ := of_eq_true c7b0); (try have q8_ := of_eq_true c8b0); (try have q9_ := of_eq_true c9b0); (try have q10_ := of_eq_true c10b0); (try have q11_ := of_eq_true c11b0); (try have q12_ := of_eq_true c12b0); (try have q13_ := of_eq_true c13b0); (try have q14_ := of_eq_true c14b0); (try have q15_ := of_eq_true c15b0); (try have q16_ := of_eq_true c16b0); (try have q17_ := of_eq_true c17b0); (try have q18_ := of_eq_true c18b0); (try have q19_ := of_eq_true c19b0); (try have q20_ := of_eq_true c20b0); (try have q21_ := of_eq_true c21b0); (try have q22_ := of_eq_true c22b0); (try have q23_ := of_eq_true c23b0); (try have q24_ := of_eq_true c24b0); omega)
                          try simp only [ByteArray.size_append] at c25b2
                          replace H := Option.bind_eq_some_iff.mp H
                          obtain ⟨⟨t125, t126⟩, A260, H⟩ := H
                          replace H : (if t126 = true then ((honeycombbook_SameCells.f kj3 t125 l0).bind fun t129 => (some (!t129))) else (some true)) = some r := H
                          have A26 := Aside0.mk A260
                          clear A260
                          by_cases c27 : t126 = true
                          · subst c27
                            have H1 : ((honeycombbook_SameCells.f kj3 t125 l0).bind fun t129 => (some (!t129))) = some r := by rw [if_pos rfl] at H; exact H
                            clear H
                            have H := H1
                            clear H1
                            replace H := Option.bind_eq_some_iff.mp H
                            obtain ⟨t129, A280, H⟩ := H
                            replace H : (some (!t129)) = some r := H
                            have A28 := Aside0.mk A280
                            clear A280
                            obtain rfl := Option.some.inj H
                            try go_wp2_with (first | ((with_reducible refine gate_callee (f := 10) rfl ?_); refine goesL_ (some 26) rfl rfl Try.func10 (by kernel_rfl) rfl #[.slice A0 l0.length c0] rfl (by (try simp only [List.map_toArray, List.map_cons, List.map_nil]); first | done | rfl | (simp only [List.length_drop, List.length_take]; rfl)) ?_; (with_reducible refine (cell_Put.calls _ _ l0 t120 true _ ?side1 ?side2 A12.out).mono ?_); (case side1 => repeat (first | exact (Kd.C_below HR0.out HB.out) | (with_reducible refine Kd.C_alloc ?_ _) | (with_reducible refine Kd.C_drewN ?_ _) | (with_reducible refine Kd.C_drew ?_))); (case side2 => exact HC0.out); rintro e w29 ⟨rfl, hb⟩; refine ⟨_, rfl, ?_⟩; have n0_ := Aside0.mk (below_step (by repeat (first | (with_reducible first | exact HB.out | apply below_alloc | apply pw_below_drewN | apply below_drew1) | exact HB.out)) hb); clear HB; have HB := n0_; clear n0_; (try clear hb); (try clear hb2); (try clear hk); (try clear hi)))
                            have n0_ := Aside0.mk (below_drew1 HB.out)
                            clear HB
                            have HB := n0_
                            clear n0_
                            have p20 : 0 ≤ ((ji16) : Int) := of_decide_eq_true (by first | (with_reducible assumption) | assumption)
                            have q20 : (ji16) < (t120.size : Int) := of_decide_eq_true (by first | (with_reducible assumption) | assumption)
                            have hx20 := bt_at t120 (ji16)
                            replace p20 := eq_true p20
                            replace q20 := eq_true q20
                            refine start_ (n := 22) (S := fun w' => True) (ds := []) #[false, false, false, false, false, false, false, false, false, false, false, false, false, false, false, false, false, false, false, false, false, false] (by kernel_rfl) rfl rfl trivial (fun hHeld => ?_); refine with_tabW honeycomblaw7_CellTurned.tab9 honeycomblaw7_CellTurned.bits9 (fun HT_ HW_ => ?_)
                            generalize w29.drew = w30 at HB hHeld ⊢
                            refine pure_ (i := 0) (N := some 45) (v := ?_) (a' := ?_) #[true, false, false, false, false, false, false, false, false, false, false, false, false, false, false, false, false, false, false, false, false, false] rfl rfl (any_of HT_.out (by kernel_rfl)) (fun _ _ _ h => h) (Or.inl ⟨by rfl, ?_⟩) ?_ ?_
                            rotate_left
                            · intro w'
                              go_simp
                              with_reducible rfl
                            rotate_left
                            · simp only [Act.put, List.setIfInBounds_toArray, List.set_cons_zero, List.set_cons_succ, i64_w, i32_w]
                              rfl
                            refine pure_ (i := 1) (N := some 46) (v := ?_) (a' := ?_) #[true, true, false, false, false, false, false, false, false, false, false, false, false, false, false, false, false, false, false, false, false, false] rfl rfl (any_of HT_.out (by kernel_rfl)) (fun _ _ _ h => h) (Or.inl ⟨by rfl, ?_⟩) ?_ ?_
                            rotate_left
                            · intro w'
                              go_simp
                              with_reducible rfl
                            rotate_left
                            · simp only [Act.put, List.setIfInBounds_toArray, List.set_cons_zero, List.set_cons_succ, i64_w, i32_w]
                              rfl
                            refine pure_ (i := 2) (N := some 47) (v := ?_) (a' := ?_) #[true, true, true, false, false, false, false, false, false, false, false, false, false, false, false, false, false, false, false, false, false, false] rfl rfl (any_of HT_.out (by kernel_rfl)) (fun _ _ _ h => h) (Or.inl ⟨by rfl, ?_⟩) ?_ ?_
                            rotate_left
                            · intro w'
                              go_simp
                              with_reducible rfl
                            rotate_left
                            · simp only [Act.put, List.setIfInBounds_toArray, List.set_cons_zero, List.set_cons_succ, i64_w, i32_w]
                              rfl
                            refine pure_ (i := 3) (N := some 48) (v := ?_) (a' := ?_) #[true, true, true, true, false, false, false, false, false, false, false, false, false, false, false, false, false, false, false, false, false, false] rfl rfl (any_of HT_.out (by kernel_rfl)) (fun _ _ _ h => h) (Or.inl ⟨by rfl, ?_⟩) ?_ ?_
                            rotate_left
                            · intro w'
                              go_simp
                              with_reducible rfl
                            rotate_left
                            · simp only [Act.put, List.setIfInBounds_toArray, List.set_cons_zero, List.set_cons_succ, i64_w, i32_w]
                              rfl
                            refine pure_ (i := 4) (N := some 49) (v := ?_) (a' := ?_) #[true, true, true, true, true, false, false, false, false, false, false, false, false, false, false, false, false, false, false, false, false, false] rfl rfl (any_of HT_.out (by kernel_rfl)) (fun _ _ _ h => h) (Or.inl ⟨by rfl, ?_⟩) ?_ ?_
                            rotate_left
                            · intro w'
                              go_simp
                              with_reducible rfl
                            rotate_left
                            · simp only [Act.put, List.setIfInBounds_toArray, List.set_cons_zero, List.set_cons_succ, i64_w, i32_w]
                              rfl
                            refine pure_ (i := 6) (N := some 51) (v := ?_) (a' := ?_) #[true, true, true, true, true, false, true, false, false, false, false, false, false, false, false, false, false, false, false, false, false, false] rfl rfl (any_of HT_.out (by kernel_rfl)) (fun _ _ _ h => h) (Or.inl ⟨by rfl, ?_⟩) ?_ ?_
                            rotate_left
                            · intro w'
                              go_simp
                              with_reducible rfl
                            rotate_left
                            · simp only [Act.put, List.setIfInBounds_toArray, List.set_cons_zero, List.set_cons_succ, i64_w, i32_w]
                              rfl
                            refine pure_ (i := 11) (N := some 56) (v := ?_) (a' := ?_) #[true, true, true, true, true, false, true, false, false, false, false, true, false, false, false, false, false, false, false, false, false, false] rfl rfl (any_of HT_.out (by kernel_rfl)) (fun _ _ _ h => h) (Or.inl ⟨by rfl, ?_⟩) ?_ ?_
                            rotate_left
                            · intro w'
                              go_simp
                              with_reducible rfl
                            rotate_left
                            · simp only [Act.put, List.setIfInBounds_toArray, List.set_cons_zero, List.set_cons_succ, i64_w, i32_w]
                              rfl
                            refine pure_ (i := 12) (N := some 57) (v := ?_) (a' := ?_) #[true, true, true, true, true, false, true, false, false, false, false, true, true, false, false, false, false, false, false, false, false, false] rfl rfl (any_of HT_.out (by kernel_rfl)) (fun _ _ _ h => h) (Or.inl ⟨by rfl, ?_⟩) ?_ ?_
                            rotate_left
                            · intro w'
                              go_simp
                              with_reducible rfl
                            rotate_left
                            · simp only [Act.put, List.setIfInBounds_toArray, List.set_cons_zero, List.set_cons_succ, i64_w, i32_w]
                              rfl
                            refine pure_ (i := 13) (N := some 58) (v := ?_) (a' := ?_) #[true, true, true, true, true, false, true, false, false, false, false, true, true, true, false, false, false, false, false, false, false, false] rfl rfl (any_of HT_.out (by kernel_rfl)) (fun _ _ _ h => h) (Or.inl ⟨by rfl, ?_⟩) ?_ ?_
                            rotate_left
                            · intro w'
                              go_simp
                              with_reducible rfl
                            rotate_left
                            · simp only [Act.put, List.setIfInBounds_toArray, List.set_cons_zero, List.set_cons_succ, i64_w, i32_w]
                              rfl
                            refine pure_ (i := 14) (N := some 59) (v := ?_) (a' := ?_) #[true, true, true, true, true, false, true, false, false, false, false, true, true, true, true, false, false, false, false, false, false, false] rfl rfl (any_of HT_.out (by kernel_rfl)) (fun _ _ _ h => h) (Or.inl ⟨by rfl, ?_⟩) ?_ ?_
                            rotate_left
                            · intro w'
                              go_simp
                              with_reducible rfl
                            rotate_left
                            · simp only [Act.put, List.setIfInBounds_toArray, List.set_cons_zero, List.set_cons_succ, i64_w, i32_w]
                              rfl
                            refine take_ (i := 5) (N := some 50) (v := ?_) (a' := ?_) #[true, true, true, true, true, true, true, false, false, false, false, true, true, true, true, false, false, false, false, false, false, false] rfl rfl (take_ofW HT_.out HW_.out (by kernel_rfl)) (fun _ _ _ h => h) (Or.inl ⟨by rfl, ?_⟩) hHeld ?_ ?_
                            rotate_left
                            · intro w' _
                              go_simp
                              with_reducible rfl
                            rotate_left
                            · simp only [Act.put, List.setIfInBounds_toArray, List.set_cons_zero, List.set_cons_succ, i64_w, i32_w]
                              rfl
                            refine pure_ (i := 7) (N := some 52) (v := ?_) (a' := ?_) #[true, true, true, true, true, true, true, true, false, false, false, true, true, true, true, false, false, false, false, false, false, false] rfl rfl (any_of HT_.out (by kernel_rfl)) (fun _ _ _ h => h) (Or.inl ⟨by rfl, ?_⟩) ?_ ?_
                            rotate_left
                            · intro w'
                              go_simp
                              with_reducible rfl
                            rotate_left
                            · simp only [Act.put, List.setIfInBounds_toArray, List.set_cons_zero, List.set_cons_succ, i64_w, i32_w]
                              rfl
                            refine one_ (i := 8) (N := some 53) #[true, true, true, true, true, true, true, true, true, false, false, true, true, true, true, false, false, false, false, false, false, false] rfl rfl (one_of HT_.out (by kernel_rfl)) (by decide) (fun K hK => ?_)
                            refine Kd.R_lit_step (Kd.int .u8) _ 5 ?hg (N := 53) ?hd (xs := ([Go.bits .xor .u8 (bt t120 (ji16)) a2] : List Int)) (inner := [.int .u8 (Go.bits .xor .u8 (bt t120 (ji16)) a2)]) (ok := fun _ => True) (okp := fun _ => True) ?hr ?hp (fun _ hk => hk) trivial (Below.refl _ _) (Nat.le_refl _) (by simp) ?_; (case hd => rfl); (case hg => rfl); (case hr => first | (go_simp; done) | (go_simp; rfl)); (case hp => exact (Reps.one (show Kd.M (Kd.int .u8) _ _ _ (Go.bits .xor .u8 (bt t120 (ji16)) a2) [.int .u8 (Go.bits .xor .u8 (bt t120 (ji16)) a2)] from rfl) (Reps.none _ _)))
                            intro v123 w31 ho32 hb hg_ hnew_
                            clear hg_ hnew_
                            (first | rw [← Ny122.out] at ho32 | (simp only [Int.reduceToNat] at ho32; rw [← Ny122.out] at ho32))
                            have n0_ := Aside0.mk (Kd.R_lower ho32 (below_size (by repeat (first | (with_reducible first | exact HB.out | apply below_alloc | apply pw_below_drewN | apply below_drew1) | exact HB.out))))
                            have n1_ := Aside0.mk (below_step (by repeat (first | (with_reducible first | exact HB.out | apply below_alloc | apply pw_below_drewN | apply below_drew1) | exact HB.out)) hb)
                            clear HB
                            have HO124 := n0_
                            have HB := n1_
                            clear n0_ n1_
                            clear hb ho32
                            refine hK.out _ _ trivial (fun hHeld => ?_)
                            clear hK K
                            refine norm_ (a' := ?_) ?_ ?_
                            rotate_left
                            · show Act.put _ (some 53) _ = _
                              simp only [Act.put, List.setIfInBounds_toArray, List.set_cons_zero, List.set_cons_succ, i64_w, i32_w]
                              rfl
                            refine one_ (i := 9) (N := some 54) #[true, true, true, true, true, true, true, true, true, true, false, true, true, true, true, false, false, false, false, false, false, false] rfl rfl (one_of HT_.out (by kernel_rfl)) (by decide) (fun K hK => ?_)
                            have hcv33 := own_string (P := Try.prog) Try.underlying28 Try.underlying5 Try.underlying9 (Kd.own_of_R HO124.out)
                            refine value_ (w1 := ?_) (v := ?_) (by rfl) rfl ?_ ?_
                            rotate_left 2
                            · go_simp
                              constructor
                              · rfl
                              · rfl
                            clear hcv33
                            refine hK.out _ _ trivial (fun hHeld => ?_)
                            clear hK K
                            refine norm_ (a' := ?_) ?_ ?_
                            rotate_left
                            · show Act.put _ (some 54) _ = _
                              simp only [Act.put, List.setIfInBounds_toArray, List.set_cons_zero, List.set_cons_succ, i64_w, i32_w]
                              rfl
                            refine pure_ (i := 10) (N := some 55) (v := ?_) (a' := ?_) #[true, true, true, true, true, true, true, true, true, true, true, true, true, true, true, false, false, false, false, false, false, false] rfl rfl (any_of HT_.out (by kernel_rfl)) (fun _ _ _ h => h) (Or.inl ⟨by rfl, ?_⟩) ?_ ?_
                            rotate_left
                            · intro w'
                              go_simp
                              with_reducible rfl
                            rotate_left
                            · simp only [Act.put, List.setIfInBounds_toArray, List.set_cons_zero, List.set_cons_succ, i64_w, i32_w]
                              rfl
                            refine pure_ (i := 15) (N := some 60) (v := ?_) (a' := ?_) #[true, true, true, true, true, true, true, true, true, true, true, true, true, true, true, true, false, false, false, false, false, false] rfl rfl (any_of HT_.out (by kernel_rfl)) (fun _ _ _ h => h) (Or.inl ⟨by rfl, ?_⟩) ?_ ?_
                            rotate_left
                            · intro w'
                              go_simp
                              with_reducible rfl
                            rotate_left
                            · simp only [Act.put, List.setIfInBounds_toArray, List.set_cons_zero, List.set_cons_succ, i64_w, i32_w]
                              rfl
                            refine one_ (i := 16) (N := some 61) #[true, true, true, true, true, true, true, true, true, true, true, true, true, true, true, true, true, false, false, false, false, false] rfl rfl (one_of HT_.out (by kernel_rfl)) (by decide) (fun K hK => ?_)
                            refine goes_ Try.func11 (by kernel_rfl) rfl #[.string (((t120.extract 0 ((ji16) : Int).toNat) ++ (strOfNums y122)) ++ (t120.extract ((ji22) : Int).toNat t120.size))] (by rfl) rfl rfl (by (try simp only [List.map_toArray, List.map_cons, List.map_nil]); first | done | (simp only [hji16, hji22]; rfl) | rfl | (simp only [List.length_drop, List.length_take]; rfl)) ?_
                            with_reducible refine (cell_Get.calls (((t120.extract 0 ((ji16) : Int).toNat) ++ (strOfNums y122)) ++ (t120.extract ((ji22) : Int).toNat t120.size)) t125 true _ A26.out).mono ?_
                            rintro e w34 ⟨v127, rfl, ho0, hb⟩
                            refine ⟨_, rfl, ?_⟩
                            have n0_ := Aside0.mk (Kd.R_below (by (with_reducible repeat (first | apply Kd.R_alloc | apply Kd.R_drewN | apply Kd.R_drew)); exact HO124.out) hb)
                            have n1_ := Aside0.mk (Kd.R_lower ho0 (below_size (by repeat (first | (with_reducible first | exact HB.out | apply below_alloc | apply pw_below_drewN | apply below_drew1) | exact HB.out))))
                            have n2_ := Aside0.mk (below_step (by repeat (first | (with_reducible first | exact HB.out | apply below_alloc | apply pw_below_drewN | apply below_drew1) | exact HB.out)) hb)
                            clear HO124
                            clear HB
                            have HO124 := n0_
                            have HO128 := n1_
                            have HB := n2_
                            clear n0_ n1_ n2_
                            (try clear hb)
                            (try clear hb2)
                            (try clear hk)
                            (try clear hi)
                            (try clear ho0)
                            refine hK.out _ _ trivial (fun hHeld => ?_)
                            clear hK K
                            refine norm_ (a' := ?_) ?_ ?_
                            rotate_left
                            · show Act.put _ (some 61) _ = _
                              simp only [Act.put, List.setIfInBounds_toArray, List.set_cons_zero, List.set_cons_succ, i64_w, i32_w]
                              rfl
                            refine pure_ (i := 17) (N := some 44) (v := ?_) (a' := ?_) #[true, true, true, true, true, true, true, true, true, true, true, true, true, true, true, true, true, true, false, false, false, false] rfl rfl (any_of HT_.out (by kernel_rfl)) (fun _ _ _ h => h) (Or.inl ⟨by rfl, ?_⟩) ?_ ?_
                            rotate_left
                            · intro w'
                              go_simp
                              with_reducible rfl
                            rotate_left
                            · simp only [Act.put, List.setIfInBounds_toArray, List.set_cons_zero, List.set_cons_succ, i64_w, i32_w]
                              rfl
                            refine pure_ (i := 18) (N := some 62) (v := ?_) (a' := ?_) #[true, true, true, true, true, true, true, true, true, true, true, true, true, true, true, true, true, true, true, false, false, false] rfl rfl (any_of HT_.out (by kernel_rfl)) (fun _ _ _ h => h) (Or.inl ⟨by rfl, ?_⟩) ?_ ?_
                            rotate_left
                            · intro w'
                              go_simp
                              with_reducible rfl
                            rotate_left
                            · simp only [Act.put, List.setIfInBounds_toArray, List.set_cons_zero, List.set_cons_succ, i64_w, i32_w]
                              rfl
                            refine pure_ (i := 19) (N := some 63) (v := ?_) (a' := ?_) #[true, true, true, true, true, true, true, true, true, true, true, true, true, true, true, true, true, true, true, true, false, false] rfl rfl (any_of HT_.out (by kernel_rfl)) (fun _ _ _ h => h) (Or.inl ⟨by rfl, ?_⟩) ?_ ?_
                            rotate_left
                            · intro w'
                              go_simp
                              with_reducible rfl
                            rotate_left
                            · simp only [Act.put, List.setIfInBounds_toArray, List.set_cons_zero, List.set_cons_succ, i64_w, i32_w]
                              rfl
                            refine pure_ (i := 20) (N := some 10) (v := ?_) (a' := ?_) #[true, true, true, true, true, true, true, true, true, true, true, true, true, true, true, true, true, true, true, true, true, false] rfl rfl (any_of HT_.out (by kernel_rfl)) (fun _ _ _ h => h) (Or.inl ⟨by rfl, ?_⟩) ?_ ?_
                            rotate_left
                            · intro w'
                              go_simp
                              with_reducible rfl
                            rotate_left
                            · simp only [Act.put, List.setIfInBounds_toArray, List.set_cons_zero, List.set_cons_succ, i64_w, i32_w]
                              rfl
                            refine pure_ (i := 21) (N := some 11) (v := ?_) (a' := ?_) #[true, true, true, true, true, true, true, true, true, true, true, true, true, true, true, true, true, true, true, true, true, true] rfl rfl (any_of HT_.out (by kernel_rfl)) (fun _ _ _ h => h) (Or.inl ⟨by rfl, ?_⟩) ?_ ?_
                            rotate_left
                            · intro w'
                              go_simp
                              with_reducible rfl
                            rotate_left
                            · simp only [Act.put, List.setIfInBounds_toArray, List.set_cons_zero, List.set_cons_succ, i64_w, i32_w]
                              rfl
                            refine done_ (done_of HT_.out (by kernel_rfl)) ?_
                            obtain ⟨Ao35, co35, eo35⟩ := Kd.R_slice HO128.out
                            subst eo35
                            try go_wp2_with (first | (go_at_call 12; (with_reducible refine (honeycombbook_SameCells.calls kj3 _ _ t125 _ _ l0 t129 _ ?side1 ?side2 ?side3 ?side4 A28.out).mono ?_); (case side1 => repeat (first | exact (Kd.R_reads' HO128.out).2.2 | (with_reducible refine Kd.C_alloc ?_ _) | (with_reducible refine Kd.C_drewN ?_ _) | (with_reducible refine Kd.C_drew ?_))); (case side2 => exact (Kd.R_reads' HO128.out).2.1); (case side3 => repeat (first | exact (Kd.C_below HR0.out HB.out) | (with_reducible refine Kd.C_alloc ?_ _) | (with_reducible refine Kd.C_drewN ?_ _) | (with_reducible refine Kd.C_drew ?_))); (case side4 => exact HC0.out); rintro e w' ⟨rfl, ⟨nd, rfl⟩⟩))
                            go_ret
                            exact ⟨by first | rfl | (simp [errW_none, errW_some] <;> rfl) | (simp only [← hji16, ← hji22]; first | rfl | (simp [errW_none, errW_some] <;> rfl)) | (simp [*, errW_none, errW_some] <;> rfl), by repeat (first | (with_reducible first | exact HB.out | apply below_alloc | apply pw_below_drewN | apply below_drew1) | exact HB.out)⟩
                          · replace c27 := Bool.eq_false_iff.mpr c27
                            subst c27
                            have H1 : (some true) = some r := by rw [if_neg (show ¬ (false = true) by decide)] at H; exact H
                            clear H
                            have H := H1
                            clear H1
                            obtain rfl := Option.some.inj H
                            try go_wp2_with (first | ((with_reducible refine gate_callee (f := 10) rfl ?_); refine goesL_ (some 26) rfl rfl Try.func10 (by kernel_rfl) rfl #[.slice A0 l0.length c0] rfl (by (try simp only [List.map_toArray, List.map_cons, List.map_nil]); first | done | rfl | (simp only [List.length_drop, List.length_take]; rfl)) ?_; (with_reducible refine (cell_Put.calls _ _ l0 t120 true _ ?side1 ?side2 A12.out).mono ?_); (case side1 => repeat (first | exact (Kd.C_below HR0.out HB.out) | (with_reducible refine Kd.C_alloc ?_ _) | (with_reducible refine Kd.C_drewN ?_ _) | (with_reducible refine Kd.C_drew ?_))); (case side2 => exact HC0.out); rintro e w36 ⟨rfl, hb⟩; refine ⟨_, rfl, ?_⟩; have n0_ := Aside0.mk (below_step (by repeat (first | (with_reducible first | exact HB.out | apply below_alloc | apply pw_below_drewN | apply below_drew1) | exact HB.out)) hb); clear HB; have HB := n0_; clear n0_; (try clear hb); (try clear hb2); (try clear hk); (try clear hi)))
                            have n0_ := Aside0.mk (below_drew1 HB.out)
                            clear HB
                            have HB := n0_
                            clear n0_
                            have p20 : 0 ≤ ((ji16) : Int) := of_decide_eq_true (by first | (with_reducible assumption) | assumption)
                            have q20 : (ji16) < (t120.size : Int) := of_decide_eq_true (by first | (with_reducible assumption) | assumption)
                            have hx20 := bt_at t120 (ji16)
                            replace p20 := eq_true p20
                            replace q20 := eq_true q20
                            refine start_ (n := 22) (S := fun w' => True) (ds := []) #[false, false, false, false, false, false, false, false, false, false, false, false, false, false, false, false, false, false, false, false, false, false] (by kernel_rfl) rfl rfl trivial (fun hHeld => ?_); refine with_tabW honeycomblaw7_CellTurned.tab9 honeycomblaw7_CellTurned.bits9 (fun HT_ HW_ => ?_)
                            generalize w36.drew = w37 at HB hHeld ⊢
                            refine pure_ (i := 0) (N := some 45) (v := ?_) (a' := ?_) #[true, false, false, false, false, false, false, false, false, false, false, false, false, false, false, false, false, false, false, false, false, false] rfl rfl (any_of HT_.out (by kernel_rfl)) (fun _ _ _ h => h) (Or.inl ⟨by rfl, ?_⟩) ?_ ?_
                            rotate_left
                            · intro w'
                              go_simp
                              with_reducible rfl
                            rotate_left
                            · simp only [Act.put, List.setIfInBounds_toArray, List.set_cons_zero, List.set_cons_succ, i64_w, i32_w]
                              rfl
                            refine pure_ (i := 1) (N := some 46) (v := ?_) (a' := ?_) #[true, true, false, false, false, false, false, false, false, false, false, false, false, false, false, false, false, false, false, false, false, false] rfl rfl (any_of HT_.out (by kernel_rfl)) (fun _ _ _ h => h) (Or.inl ⟨by rfl, ?_⟩) ?_ ?_
                            rotate_left
                            · intro w'
                              go_simp
                              with_reducible rfl
                            rotate_left
                            · simp only [Act.put, List.setIfInBounds_toArray, List.set_cons_zero, List.set_cons_succ, i64_w, i32_w]
                              rfl
                            refine pure_ (i := 2) (N := some 47) (v := ?_) (a' := ?_) #[true, true, true, false, false, false, false, false, false, false, false, false, false, false, false, false, false, false, false, false, false, false] rfl rfl (any_of HT_.out (by kernel_rfl)) (fun _ _ _ h => h) (Or.inl ⟨by rfl, ?_⟩) ?_ ?_
                            rotate_left
                            · intro w'
                              go_simp
                              with_reducible rfl
                            rotate_left
                            · simp only [Act.put, List.setIfInBounds_toArray, List.set_cons_zero, List.set_cons_succ, i64_w, i32_w]
                              rfl
                            refine pure_ (i := 3) (N := some 48) (v := ?_) (a' := ?_) #[true, true, true, true, false, false, false, false, false, false, false, false, false, false, false, false, false, false, false, false, false, false] rfl rfl (any_of HT_.out (by kernel_rfl)) (fun _ _ _ h => h) (Or.inl ⟨by rfl, ?_⟩) ?_ ?_
                            rotate_left
                            · intro w'
                              go_simp
                              with_reducible rfl
                            rotate_left
                            · simp only [Act.put, List.setIfInBounds_toArray, List.set_cons_zero, List.set_cons_succ, i64_w, i32_w]
                              rfl
                            refine pure_ (i := 4) (N := some 49) (v := ?_) (a' := ?_) #[true, true, true, true, true, false, false, false, false, false, false, false, false, false, false, false, false, false, false, false, false, false] rfl rfl (any_of HT_.out (by kernel_rfl)) (fun _ _ _ h => h) (Or.inl ⟨by rfl, ?_⟩) ?_ ?_
                            rotate_left
                            · intro w'
                              go_simp
                              with_reducible rfl
                            rotate_left
                            · simp only [Act.put, List.setIfInBounds_toArray, List.set_cons_zero, List.set_cons_succ, i64_w, i32_w]
                              rfl
                            refine pure_ (i := 6) (N := some 51) (v := ?_) (a' := ?_) #[true, true, true, true, true, false, true, false, false, false, false, false, false, false, false, false, false, false, false, false, false, false] rfl rfl (any_of HT_.out (by kernel_rfl)) (fun _ _ _ h => h) (Or.inl ⟨by rfl, ?_⟩) ?_ ?_
                            rotate_left
                            · intro w'
                              go_simp
                              with_reducible rfl
                            rotate_left
                            · simp only [Act.put, List.setIfInBounds_toArray, List.set_cons_zero, List.set_cons_succ, i64_w, i32_w]
                              rfl
                            refine pure_ (i := 11) (N := some 56) (v := ?_) (a' := ?_) #[true, true, true, true, true, false, true, false, false, false, false, true, false, false, false, false, false, false, false, false, false, false] rfl rfl (any_of HT_.out (by kernel_rfl)) (fun _ _ _ h => h) (Or.inl ⟨by rfl, ?_⟩) ?_ ?_
                            rotate_left
                            · intro w'
                              go_simp
                              with_reducible rfl
                            rotate_left
                            · simp only [Act.put, List.setIfInBounds_toArray, List.set_cons_zero, List.set_cons_succ, i64_w, i32_w]
                              rfl
                            refine pure_ (i := 12) (N := some 57) (v := ?_) (a' := ?_) #[true, true, true, true, true, false, true, false, false, false, false, true, true, false, false, false, false, false, false, false, false, false] rfl rfl (any_of HT_.out (by kernel_rfl)) (fun _ _ _ h => h) (Or.inl ⟨by rfl, ?_⟩) ?_ ?_
                            rotate_left
                            · intro w'
                              go_simp
                              with_reducible rfl
                            rotate_left
                            · simp only [Act.put, List.setIfInBounds_toArray, List.set_cons_zero, List.set_cons_succ, i64_w, i32_w]
                              rfl
                            refine pure_ (i := 13) (N := some 58) (v := ?_) (a' := ?_) #[true, true, true, true, true, false, true, false, false, false, false, true, true, true, false, false, false, false, false, false, false, false] rfl rfl (any_of HT_.out (by kernel_rfl)) (fun _ _ _ h => h) (Or.inl ⟨by rfl, ?_⟩) ?_ ?_
                            rotate_left
                            · intro w'
                              go_simp
                              with_reducible rfl
                            rotate_left
                            · simp only [Act.put, List.setIfInBounds_toArray, List.set_cons_zero, List.set_cons_succ, i64_w, i32_w]
                              rfl
                            refine pure_ (i := 14) (N := some 59) (v := ?_) (a' := ?_) #[true, true, true, true, true, false, true, false, false, false, false, true, true, true, true, false, false, false, false, false, false, false] rfl rfl (any_of HT_.out (by kernel_rfl)) (fun _ _ _ h => h) (Or.inl ⟨by rfl, ?_⟩) ?_ ?_
                            rotate_left
                            · intro w'
                              go_simp
                              with_reducible rfl
                            rotate_left
                            · simp only [Act.put, List.setIfInBounds_toArray, List.set_cons_zero, List.set_cons_succ, i64_w, i32_w]
                              rfl
                            refine take_ (i := 5) (N := some 50) (v := ?_) (a' := ?_) #[true, true, true, true, true, true, true, false, false, false, false, true, true, true, true, false, false, false, false, false, false, false] rfl rfl (take_ofW HT_.out HW_.out (by kernel_rfl)) (fun _ _ _ h => h) (Or.inl ⟨by rfl, ?_⟩) hHeld ?_ ?_
                            rotate_left
                            · intro w' _
                              go_simp
                              with_reducible rfl
                            rotate_left
                            · simp only [Act.put, List.setIfInBounds_toArray, List.set_cons_zero, List.set_cons_succ, i64_w, i32_w]
                              rfl
                            refine pure_ (i := 7) (N := some 52) (v := ?_) (a' := ?_) #[true, true, true, true, true, true, true, true, false, false, false, true, true, true, true, false, false, false, false, false, false, false] rfl rfl (any_of HT_.out (by kernel_rfl)) (fun _ _ _ h => h) (Or.inl ⟨by rfl, ?_⟩) ?_ ?_
                            rotate_left
                            · intro w'
                              go_simp
                              with_reducible rfl
                            rotate_left
                            · simp only [Act.put, List.setIfInBounds_toArray, List.set_cons_zero, List.set_cons_succ, i64_w, i32_w]
                              rfl
                            refine one_ (i := 8) (N := some 53) #[true, true, true, true, true, true, true, true, true, false, false, true, true, true, true, false, false, false, false, false, false, false] rfl rfl (one_of HT_.out (by kernel_rfl)) (by decide) (fun K hK => ?_)
                            refine Kd.R_lit_step (Kd.int .u8) _ 5 ?hg (N := 53) ?hd (xs := ([Go.bits .xor .u8 (bt t120 (ji16)) a2] : List Int)) (inner := [.int .u8 (Go.bits .xor .u8 (bt t120 (ji16)) a2)]) (ok := fun _ => True) (okp := fun _ => True) ?hr ?hp (fun _ hk => hk) trivial (Below.refl _ _) (Nat.le_refl _) (by simp) ?_; (case hd => rfl); (case hg => rfl); (case hr => first | (go_simp; done) | (go_simp; rfl)); (case hp => exact (Reps.one (show Kd.M (Kd.int .u8) _ _ _ (Go.bits .xor .u8 (bt t120 (ji16)) a2) [.int .u8 (Go.bits .xor .u8 (bt t120 (ji16)) a2)] from rfl) (Reps.none _ _)))
                            intro v123 w38 ho39 hb hg_ hnew_
                            clear hg_ hnew_
                            (first | rw [← Ny122.out] at ho39 | (simp only [Int.reduceToNat] at ho39; rw [← Ny122.out] at ho39))
                            have n0_ := Aside0.mk (Kd.R_lower ho39 (below_size (by repeat (first | (with_reducible first | exact HB.out | apply below_alloc | apply pw_below_drewN | apply below_drew1) | exact HB.out))))
                            have n1_ := Aside0.mk (below_step (by repeat (first | (with_reducible first | exact HB.out | apply below_alloc | apply pw_below_drewN | apply below_drew1) | exact HB.out)) hb)
                            clear HB
                            have HO124 := n0_
                            have HB := n1_
                            clear n0_ n1_
                            clear hb ho39
                            refine hK.out _ _ trivial (fun hHeld => ?_)
                            clear hK K
                            refine norm_ (a' := ?_) ?_ ?_
                            rotate_left
                            · show Act.put _ (some 53) _ = _
                              simp only [Act.put, List.setIfInBounds_toArray, List.set_cons_zero, List.set_cons_succ, i64_w, i32_w]
                              rfl
                            refine one_ (i := 9) (N := some 54) #[true, true, true, true, true, true, true, true, true, true, false, true, true, true, true, false, false, false, false, false, false, false] rfl rfl (one_of HT_.out (by kernel_rfl)) (by decide) (fun K hK => ?_)
                            have hcv40 := own_string (P := Try.prog) Try.underlying28 Try.underlying5 Try.underlying9 (Kd.own_of_R HO124.out)
                            refine value_ (w1 := ?_) (v := ?_) (by rfl) rfl ?_ ?_
                            rotate_left 2
                            · go_simp
                              constructor
                              · rfl
                              · rfl
                            clear hcv40
                            refine hK.out _ _ trivial (fun hHeld => ?_)
                            clear hK K
                            refine norm_ (a' := ?_) ?_ ?_
                            rotate_left
                            · show Act.put _ (some 54) _ = _
                              simp only [Act.put, List.setIfInBounds_toArray, List.set_cons_zero, List.set_cons_succ, i64_w, i32_w]
                              rfl
                            refine pure_ (i := 10) (N := some 55) (v := ?_) (a' := ?_) #[true, true, true, true, true, true, true, true, true, true, true, true, true, true, true, false, false, false, false, false, false, false] rfl rfl (any_of HT_.out (by kernel_rfl)) (fun _ _ _ h => h) (Or.inl ⟨by rfl, ?_⟩) ?_ ?_
                            rotate_left
                            · intro w'
                              go_simp
                              with_reducible rfl
                            rotate_left
                            · simp only [Act.put, List.setIfInBounds_toArray, List.set_cons_zero, List.set_cons_succ, i64_w, i32_w]
                              rfl
                            refine pure_ (i := 15) (N := some 60) (v := ?_) (a' := ?_) #[true, true, true, true, true, true, true, true, true, true, true, true, true, true, true, true, false, false, false, false, false, false] rfl rfl (any_of HT_.out (by kernel_rfl)) (fun _ _ _ h => h) (Or.inl ⟨by rfl, ?_⟩) ?_ ?_
                            rotate_left
                            · intro w'
                              go_simp
                              with_reducible rfl
                            rotate_left
                            · simp only [Act.put, List.setIfInBounds_toArray, List.set_cons_zero, List.set_cons_succ, i64_w, i32_w]
                              rfl
                            refine one_ (i := 16) (N := some 61) #[true, true, true, true, true, true, true, true, true, true, true, true, true, true, true, true, true, false, false, false, false, false] rfl rfl (one_of HT_.out (by kernel_rfl)) (by decide) (fun K hK => ?_)
                            refine goes_ Try.func11 (by kernel_rfl) rfl #[.string (((t120.extract 0 ((ji16) : Int).toNat) ++ (strOfNums y122)) ++ (t120.extract ((ji22) : Int).toNat t120.size))] (by rfl) rfl rfl (by (try simp only [List.map_toArray, List.map_cons, List.map_nil]); first | done | (simp only [hji16, hji22]; rfl) | rfl | (simp only [List.length_drop, List.length_take]; rfl)) ?_
                            with_reducible refine (cell_Get.calls (((t120.extract 0 ((ji16) : Int).toNat) ++ (strOfNums y122)) ++ (t120.extract ((ji22) : Int).toNat t120.size)) t125 false _ A26.out).mono ?_
                            rintro e w41 ⟨v127, rfl, ho0, hb⟩
                            refine ⟨_, rfl, ?_⟩
                            have n0_ := Aside0.mk (Kd.R_below (by (with_reducible repeat (first | apply Kd.R_alloc | apply Kd.R_drewN | apply Kd.R_drew)); exact HO124.out) hb)
                            have n1_ := Aside0.mk (Kd.R_lower ho0 (below_size (by repeat (first | (with_reducible first | exact HB.out | apply below_alloc | apply pw_below_drewN | apply below_drew1) | exact HB.out))))
                            have n2_ := Aside0.mk (below_step (by repeat (first | (with_reducible first | exact HB.out | apply below_alloc | apply pw_below_drewN | apply below_drew1) | exact HB.out)) hb)
                            clear HO124
                            clear HB
                            have HO124 := n0_
                            have HO128 := n1_
                            have HB := n2_
                            clear n0_ n1_ n2_
                            (try clear hb)
                            (try clear hb2)
                            (try clear hk)
                            (try clear hi)
                            (try clear ho0)
                            refine hK.out _ _ trivial (fun hHeld => ?_)
                            clear hK K
                            refine norm_ (a' := ?_) ?_ ?_
                            rotate_left
                            · show Act.put _ (some 61) _ = _
                              simp only [Act.put, List.setIfInBounds_toArray, List.set_cons_zero, List.set_cons_succ, i64_w, i32_w]
                              rfl
                            refine pure_ (i := 17) (N := some 44) (v := ?_) (a' := ?_) #[true, true, true, true, true, true, true, true, true, true, true, true, true, true, true, true, true, true, false, false, false, false] rfl rfl (any_of HT_.out (by kernel_rfl)) (fun _ _ _ h => h) (Or.inl ⟨by rfl, ?_⟩) ?_ ?_
                            rotate_left
                            · intro w'
                              go_simp
                              with_reducible rfl
                            rotate_left
                            · simp only [Act.put, List.setIfInBounds_toArray, List.set_cons_zero, List.set_cons_succ, i64_w, i32_w]
                              rfl
                            refine pure_ (i := 18) (N := some 62) (v := ?_) (a' := ?_) #[true, true, true, true, true, true, true, true, true, true, true, true, true, true, true, true, true, true, true, false, false, false] rfl rfl (any_of HT_.out (by kernel_rfl)) (fun _ _ _ h => h) (Or.inl ⟨by rfl, ?_⟩) ?_ ?_
                            rotate_left
                            · intro w'
                              go_simp
                              with_reducible rfl
                            rotate_left
                            · simp only [Act.put, List.setIfInBounds_toArray, List.set_cons_zero, List.set_cons_succ, i64_w, i32_w]
                              rfl
                            refine pure_ (i := 19) (N := some 63) (v := ?_) (a' := ?_) #[true, true, true, true, true, true, true, true, true, true, true, true, true, true, true, true, true, true, true, true, false, false] rfl rfl (any_of HT_.out (by kernel_rfl)) (fun _ _ _ h => h) (Or.inl ⟨by rfl, ?_⟩) ?_ ?_
                            rotate_left
                            · intro w'
                              go_simp
                              with_reducible rfl
                            rotate_left
                            · simp only [Act.put, List.setIfInBounds_toArray, List.set_cons_zero, List.set_cons_succ, i64_w, i32_w]
                              rfl
                            refine pure_ (i := 20) (N := some 10) (v := ?_) (a' := ?_) #[true, true, true, true, true, true, true, true, true, true, true, true, true, true, true, true, true, true, true, true, true, false] rfl rfl (any_of HT_.out (by kernel_rfl)) (fun _ _ _ h => h) (Or.inl ⟨by rfl, ?_⟩) ?_ ?_
                            rotate_left
                            · intro w'
                              go_simp
                              with_reducible rfl
                            rotate_left
                            · simp only [Act.put, List.setIfInBounds_toArray, List.set_cons_zero, List.set_cons_succ, i64_w, i32_w]
                              rfl
                            refine pure_ (i := 21) (N := some 11) (v := ?_) (a' := ?_) #[true, true, true, true, true, true, true, true, true, true, true, true, true, true, true, true, true, true, true, true, true, true] rfl rfl (any_of HT_.out (by kernel_rfl)) (fun _ _ _ h => h) (Or.inl ⟨by rfl, ?_⟩) ?_ ?_
                            rotate_left
                            · intro w'
                              go_simp
                              with_reducible rfl
                            rotate_left
                            · simp only [Act.put, List.setIfInBounds_toArray, List.set_cons_zero, List.set_cons_succ, i64_w, i32_w]
                              rfl
                            refine done_ (done_of HT_.out (by kernel_rfl)) ?_
                            try go_wp2
                            go_ret
                            exact ⟨by first | rfl | (simp [errW_none, errW_some] <;> rfl) | (simp only [← hji16, ← hji22]; first | rfl | (simp [errW_none, errW_some] <;> rfl)) | (simp [*, errW_none, errW_some] <;> rfl), by repeat (first | (with_reducible first | exact HB.out | apply below_alloc | apply pw_below_drewN | apply below_drew1) | exact HB.out)⟩
                        · rw [if_neg c25] at H
                          exact absurd H (by simp)
                      · rw [if_neg c24] at H
                        exact absurd H (by simp)
                    · rw [if_neg c23] at H
                      exact absurd H (by simp)
                  · rw [if_neg c21] at H
                    exact absurd H (by simp)
                · rw [if_neg c19] at H
                  exact absurd H (by simp)
              · rw [if_neg c18] at H
                exact absurd H (by simp)
            · rw [if_neg c17] at H
              exact absurd H (by simp)
        · replace c13 := Bool.eq_false_iff.mpr c13
          subst c13
          have H1 : (some true) = some r := by rw [if_neg (show ¬ (false = true) by decide)] at H; exact H
          clear H
          have H := H1
          clear H1
          obtain rfl := Option.some.inj H
          go_wp2_with (first | ((with_reducible refine gate_callee (f := 10) rfl ?_); refine goesL_ (some 26) rfl rfl Try.func10 (by kernel_rfl) rfl #[.slice A0 l0.length c0] rfl (by (try simp only [List.map_toArray, List.map_cons, List.map_nil]); first | done | rfl | (simp only [List.length_drop, List.length_take]; rfl)) ?_; (with_reducible refine (cell_Put.calls _ _ l0 t120 false _ ?side1 ?side2 A12.out).mono ?_); (case side1 => repeat (first | exact (Kd.C_below HR0.out HB.out) | (with_reducible refine Kd.C_alloc ?_ _) | (with_reducible refine Kd.C_drewN ?_ _) | (with_reducible refine Kd.C_drew ?_))); (case side2 => exact HC0.out); rintro e w42 ⟨rfl, hb⟩; refine ⟨_, rfl, ?_⟩; have n0_ := Aside0.mk (below_step (by repeat (first | (with_reducible first | exact HB.out | apply below_alloc | apply pw_below_drewN | apply below_drew1) | exact HB.out)) hb); clear HB; have HB := n0_; clear n0_; (try clear hb); (try clear hb2); (try clear hk); (try clear hi)))
          go_ret
          exact ⟨by first | rfl | (simp [errW_none, errW_some] <;> rfl) | (simp [*, errW_none, errW_some] <;> rfl), by repeat (first | (with_reducible first | exact HB.out | apply below_alloc | apply pw_below_drewN | apply below_drew1) | exact HB.out)⟩
/-- THE ONE PURE STATEMENT of honeycomblaw7_CellTurned. -/
def honeycomblaw7_CellTurned.Pure : Prop := ∀ (l0 : List (S32)) (a1 : Int) (a2 : Int) , (l0.length ≤ maxLen ∧ ∀ a_ ∈ l0, (a_.f0.size ≤ maxLen ∧ a_.f1.size ≤ maxLen ∧ (Lit.int .i64 a_.f2).wf = true ∧ (Lit.int .i64 a_.f3).wf = true)) → l0.length * 48 ≤ 140737488351232 → (Lit.int .i64 a1).wf = true → (Lit.int .u8 a2).wf = true → ∃ k, honeycomblaw7_CellTurned.f k l0 a1 a2 = some true
theorem honeycomblaw7_CellTurned.walk (P : honeycomblaw7_CellTurned.Pure) (A0 : Option Addr) (c0 : Nat) (l0 : List (S32)) (a1 : Int) (a2 : Int) (w : World) (h0 : (l0.length ≤ maxLen ∧ ∀ a_ ∈ l0, (a_.f0.size ≤ maxLen ∧ a_.f1.size ≤ maxLen ∧ (Lit.int .i64 a_.f2).wf = true ∧ (Lit.int .i64 a_.f3).wf = true))) (h1 : l0.length * 48 ≤ 140737488351232) (h2 : (Lit.int .i64 a1).wf = true) (h3 : (Lit.int .u8 a2).wf = true) (hr0 : Kd.C k32 w A0 l0.length l0) (hc0 : l0.length ≤ c0) :
    Calls Try.prog 3 #[.slice A0 l0.length c0, .int .i64 a1, .int .u8 a2] w fun e w' => e = .returned (.bool true) ∧ Below w.heap.size w w' := by
  obtain ⟨k, h⟩ := P l0 a1 a2 h0 h1 h2 h3
  refine (honeycomblaw7_CellTurned.calls k A0 c0 l0 a1 a2 true w hr0 hc0 h).mono ?_
  rintro e w' ⟨rfl, hd⟩
  exact ⟨rfl, hd⟩

-- NOT PRINTED: function 25 (api_Cell_25)

-- NOT PRINTED: function 44 (api_Cell_44)

-- NOT PRINTED: function 56 (api_Cell_56)

-- NOT PRINTED: function 45 (api_Cell_45)

/-! ### none_mathbitsLen32: function 52 -/


/-! ### none_mathbitsLen64: function 53 -/


/-! ### none_mathbitsLen: function 37 -/


/-! ### none_slicesnextPowerOfTwo: function 57 -/


-- NOT PRINTED: function 58 (slices_xorshift_Next)

-- NOT PRINTED: function 46 (api_Cell_46)

-- NOT PRINTED: function 61 (api_Cell_61)

-- NOT PRINTED: function 60 (api_Cell_60)

-- NOT PRINTED: function 59 (api_Cell_59)

-- NOT PRINTED: function 47 (api_Cell_47)

-- NOT PRINTED: function 48 (api_Cell_48)

-- NOT PRINTED: function 49 (api_Cell_49)

-- NOT PRINTED: function 50 (api_Cell_50)

-- NOT PRINTED: function 51 (api_Cell_51)

-- NOT PRINTED: function 36 (api_Cell_36)

-- NOT PRINTED: function 26 (api_Cell_26)

/-! ### cell_Fits: function 14 -/
def cell_Fits.f (l0 : List (S32)) : Option (Bool) := if l0.length < 900000 then some (Go.Proofs.Ytlbdodopodgokaa.CP.fits ((l0.map toB).map Go.Proofs.Ytlbdodopodgokaa.CP.B.cl)) else none
theorem cell_Fits.calls (A0 : Option Addr) (c0 : Nat) (l0 : List (S32)) (r : Bool) (w : World) (hr0 : Kd.C k32 w A0 l0.length l0) (hc0 : l0.length ≤ c0) (h : cell_Fits.f l0 = some r) :
    Calls Try.prog 14 #[.slice A0 l0.length c0] w fun e w' => e = .returned (.bool r) ∧ Below w.heap.size w w' := by
  unfold cell_Fits.f at h
  split at h
  · rename_i hl
    obtain rfl := Option.some.inj h
    have := Go.Proofs.Ytlbdodopodgokaa.CP.fits_calls w A0 c0 (l0.map toB) (by rw [List.length_map]; exact c_toB hr0) (by rw [List.length_map]; exact hl)
    rw [List.length_map] at this
    exact this
  · cases h


end Go.Proofs.Ytlbdodopodgokaa.M
