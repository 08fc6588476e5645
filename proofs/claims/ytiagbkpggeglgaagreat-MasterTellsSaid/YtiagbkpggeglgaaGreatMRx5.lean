-- Laid by wip/gen/myprint.py of this session, on the kit's print.
import Derived.Test.YtiagbkpggeglgaaGreatMRx0
import Derived.Test.YtiagbkpggeglgaaGreatMRx4
namespace Go.Proofs.YtiagbkpggeglgaaGreat.MR
open Go.RowKit Go.Proofs.YtiagbkpggeglgaaGreatW.PrintWords Go.Proofs.YtiagbkpggeglgaaGreatW.PrintLast Go.Proofs.YtiagbkpggeglgaaGreatW.PrintMore
attribute [local go_sem] max2_int min2_int max_two min_two max_three min_three max_four min_four   -- for this text's walks alone
set_option linter.unusedVariables false
set_option linter.unusedSimpArgs false

/-! ### honeycombref1_MasterPut: function 8 -/
def honeycombref1_MasterPut.j0 : Nat → Bool → Int → Int → Int → Int → Int → Option (ByteArray × Bool)
  | 0, _, _, _, _, _, _ => none
  | k + 1, x50, x147000, x147001, x147002, x147003, x147004 => if x50 = true then (some ((⟨#[]⟩ : ByteArray), false)) else ((honeycombref1_long.f k x147000).bind fun t150 => (if 2 + t150.size ≤ 9223372036854775807 then ((honeycombref1_long.f k x147001).bind fun t151 => (if ((⟨#[72, 67]⟩ : ByteArray) ++ t150).size + t151.size ≤ 9223372036854775807 then ((honeycombref1_long.f k x147002).bind fun t152 => (if (((⟨#[72, 67]⟩ : ByteArray) ++ t150) ++ t151).size + t152.size ≤ 9223372036854775807 then ((honeycombref1_num.f k x147003).bind fun t153 => (if ((((⟨#[72, 67]⟩ : ByteArray) ++ t150) ++ t151) ++ t152).size + t153.size ≤ 9223372036854775807 then ((honeycombref1_num.f k x147004).bind fun t154 => (if (((((⟨#[72, 67]⟩ : ByteArray) ++ t150) ++ t151) ++ t152) ++ t153).size + t154.size ≤ 9223372036854775807 then ((honeycombref1_Zeros.f (wrap64 (64 - (((((((⟨#[72, 67]⟩ : ByteArray) ++ t150) ++ t151) ++ t152) ++ t153) ++ t154).size : Int)))).bind fun t155 => (if ((((((⟨#[72, 67]⟩ : ByteArray) ++ t150) ++ t151) ++ t152) ++ t153) ++ t154).size + t155.size ≤ 9223372036854775807 then (some (((((((⟨#[72, 67]⟩ : ByteArray) ++ t150) ++ t151) ++ t152) ++ t153) ++ t154) ++ t155, true)) else (none))) else (none))) else (none))) else (none))) else (none))) else (none)))
def honeycombref1_MasterPut.f (k : Nat) (a0_0 : Int) (a0_1 : Int) (a0_2 : Int) (a0_3 : Int) (a0_4 : Int) : Option (ByteArray × Bool) := if a0_0 < 1 then (honeycombref1_MasterPut.j0 k true a0_0 a0_1 a0_2 a0_3 a0_4) else ((honeycombref1_four.f a0_0).bind fun t147 => (if t147 = true then (if a0_1 < 1 then (honeycombref1_MasterPut.j0 k true a0_0 a0_1 a0_2 a0_3 a0_4) else ((honeycombref1_four.f a0_1).bind fun t148 => (if t148 = true then ((honeycombref1_four.f a0_2).bind fun t149 => (if t149 = true then (if a0_3 < 8 then (honeycombref1_MasterPut.j0 k true a0_0 a0_1 a0_2 a0_3 a0_4) else (if a0_3 > 64 then (honeycombref1_MasterPut.j0 k true a0_0 a0_1 a0_2 a0_3 a0_4) else (if a0_4 < 64 then (honeycombref1_MasterPut.j0 k true a0_0 a0_1 a0_2 a0_3 a0_4) else (honeycombref1_MasterPut.j0 k (decide (a0_4 > 4000)) a0_0 a0_1 a0_2 a0_3 a0_4)))) else (honeycombref1_MasterPut.j0 k true a0_0 a0_1 a0_2 a0_3 a0_4))) else (honeycombref1_MasterPut.j0 k true a0_0 a0_1 a0_2 a0_3 a0_4)))) else (honeycombref1_MasterPut.j0 k true a0_0 a0_1 a0_2 a0_3 a0_4)))
theorem honeycombref1_MasterPut.mono_l : ∀ k, (∀ y0 y1 y2 y3 y4 y5, LeO (honeycombref1_MasterPut.j0 k y0 y1 y2 y3 y4 y5) (honeycombref1_MasterPut.j0 (k + 1) y0 y1 y2 y3 y4 y5))
  | 0 => fun _ _ _ _ _ _ r h => by simp [honeycombref1_MasterPut.j0] at h
  | k + 1 => by
    have ih0 := honeycombref1_MasterPut.mono_l k
    · intro y0 y1 y2 y3 y4 y5
      unfold honeycombref1_MasterPut.j0
      repeat' first
      | (with_reducible exact ih0 _ _ _ _ _ _)
      | (with_reducible exact honeycombref1_long.mono _ _)
      | (with_reducible exact honeycombref1_num.mono _ _)
      | (with_reducible exact LeO.refl _)
      | (with_reducible exact LeO.none _)
      | (with_reducible refine LeO.ite ?_ ?_)
      | (with_reducible refine LeO.bind ?_ (fun _ => ?_))
      | exact ih0 _ _ _ _ _ _
      | exact honeycombref1_long.mono _ _
      | exact honeycombref1_num.mono _ _
      | exact LeO.none _
      | refine LeO.ite ?_ ?_
      | refine LeO.bind ?_ (fun _ => ?_)
theorem honeycombref1_MasterPut.mono : ∀ a0 a1 a2 a3 a4 k, LeO (honeycombref1_MasterPut.f k a0 a1 a2 a3 a4) (honeycombref1_MasterPut.f (k + 1) a0 a1 a2 a3 a4) := by
  intro a0 a1 a2 a3 a4 k
  have ih0 := honeycombref1_MasterPut.mono_l k
  unfold honeycombref1_MasterPut.f
  repeat' first
      | (with_reducible exact ih0 _ _ _ _ _ _)
      | (with_reducible exact honeycombref1_long.mono _ _)
      | (with_reducible exact honeycombref1_num.mono _ _)
      | (with_reducible exact LeO.refl _)
      | (with_reducible exact LeO.none _)
      | (with_reducible refine LeO.ite ?_ ?_)
      | (with_reducible refine LeO.bind ?_ (fun _ => ?_))
      | exact ih0 _ _ _ _ _ _
      | exact honeycombref1_long.mono _ _
      | exact honeycombref1_num.mono _ _
      | exact LeO.none _
      | refine LeO.ite ?_ ?_
      | refine LeO.bind ?_ (fun _ => ?_)
def honeycombref1_MasterPut.T3 : Bool × List (List Nat × List Nat) := (true, [([], []), ([0], [0]), ([1], [1]), ([2], [2]), ([], []), ([4], [4]), ([5, 2], [5]), ([3, 6], [3, 6]), ([], []), ([8], [8]), ([9, 6], [9]), ([7, 10], [7, 10]), ([], []), ([12], [12]), ([13, 10], [13]), ([11, 14], [11, 14]), ([], []), ([16], [16]), ([17, 14], [17]), ([15, 18], [15, 18]), ([19, 18, 0, 1, 2, 3, 4, 5, 6, 7, 8, 9, 10, 11, 12, 13, 14, 15, 16, 17, 18, 19], [19])])
def honeycombref1_MasterPut.B3 : List Nat := [0, 1, 3, 7, 0, 16, 55, 127, 0, 256, 887, 2047, 0, 4096, 14199, 32767, 0, 65536, 227191, 524287, 1048575]
theorem honeycombref1_MasterPut.tab3 : rtab .any (opsOf Tryz.f8 3) = honeycombref1_MasterPut.T3 := by kernel_rfl
theorem honeycombref1_MasterPut.bits3 : waitsOk honeycombref1_MasterPut.T3.2 honeycombref1_MasterPut.B3 = true := by kernel_rfl
set_option maxHeartbeats 8000000 in
set_option maxRecDepth 100000 in
theorem honeycombref1_MasterPut.calls (k : Nat) (a0_0 : Int) (a0_1 : Int) (a0_2 : Int) (a0_3 : Int) (a0_4 : Int) (r1 : ByteArray) (r2 : Bool) (w : World) (h : honeycombref1_MasterPut.f k a0_0 a0_1 a0_2 a0_3 a0_4 = some (r1, r2)) :
    Calls Tryz.prog 8 #[.agg #[.int .i64 a0_0, .int .i64 a0_1, .int .i64 a0_2, .int .i64 a0_3, .int .i64 a0_4]] w fun e w' => e = .returned (.tuple #[.string r1, .bool r2]) ∧ Below w.heap.size w w' := by
  have hu28 := Tryz.underlying28
  have HB := Aside0.mk (Below.refl w.heap.size w)
  have H : (if a0_0 < 1 then (honeycombref1_MasterPut.j0 k true a0_0 a0_1 a0_2 a0_3 a0_4) else ((honeycombref1_four.f a0_0).bind fun t147 => (if t147 = true then (if a0_1 < 1 then (honeycombref1_MasterPut.j0 k true a0_0 a0_1 a0_2 a0_3 a0_4) else ((honeycombref1_four.f a0_1).bind fun t148 => (if t148 = true then ((honeycombref1_four.f a0_2).bind fun t149 => (if t149 = true then (if a0_3 < 8 then (honeycombref1_MasterPut.j0 k true a0_0 a0_1 a0_2 a0_3 a0_4) else (if a0_3 > 64 then (honeycombref1_MasterPut.j0 k true a0_0 a0_1 a0_2 a0_3 a0_4) else (if a0_4 < 64 then (honeycombref1_MasterPut.j0 k true a0_0 a0_1 a0_2 a0_3 a0_4) else (honeycombref1_MasterPut.j0 k (decide (a0_4 > 4000)) a0_0 a0_1 a0_2 a0_3 a0_4)))) else (honeycombref1_MasterPut.j0 k true a0_0 a0_1 a0_2 a0_3 a0_4))) else (honeycombref1_MasterPut.j0 k true a0_0 a0_1 a0_2 a0_3 a0_4)))) else (honeycombref1_MasterPut.j0 k true a0_0 a0_1 a0_2 a0_3 a0_4)))) = some (r1, r2) := h
  clear h
  have HC2 := Aside0.mk H
  clear H
  go_enter Tryz.func8, Tryz.ntmps8
  go_upto_region 1 with (first | ((with_reducible refine gate_dst (N := 1) rfl ?_); refine box_event ?hg (N := 1) ?hd (cs := #[.int .i64 a0_0, .int .i64 a0_1, .int .i64 a0_2, .int .i64 a0_3, .int .i64 a0_4]) (t := 28) ?hr ?_; (case hd => rfl); (case hg => rfl); (case hr => first | (go_simp; done) | (go_simp; rfl)); intro gb146 hg w3 hbox hb; have n0_ := Aside0.mk (below_step (by repeat (first | (with_reducible first | exact HB.out | apply below_alloc | apply pw_below_drewN | apply below_drew1) | exact HB.out)) hb); have n1_ := Aside0.mk (hbox); have n2_ := Aside0.mk ((by rw [hg]; exact (below_size (by repeat (first | (with_reducible first | exact HB.out | apply below_alloc | apply pw_below_drewN | apply below_drew1) | exact HB.out))) : w.heap.size ≤ gb146)); have n3_ := Aside0.mk ((by rw [hg]; exact (below_size (by repeat (first | (with_reducible first | exact HB.out | apply below_alloc | apply pw_below_drewN | apply below_drew1) | exact HB.out))) : w.heap.size ≤ gb146)); clear HB; have HB := n0_; have BK146 := n1_; have GW146 := n2_; have GE146 := n3_; clear n0_ n1_ n2_ n3_; clear hb hbox hg))
  (try simp only [Act.put, List.setIfInBounds_toArray, List.set_cons_zero, List.set_cons_succ])
  go_cut [50] (fun v50 wc => ∃ (kq : Nat) (x50_1 : Bool), v50 = .bool x50_1 ∧ Aside0 (honeycombref1_MasterPut.j0 kq x50_1 a0_0 a0_1 a0_2 a0_3 a0_4 = some (r1, r2)) ∧ Aside0 (kq ≤ k) ∧ Aside0 (wc.heap[gb146]? = some (.cells #[.int .i64 a0_0, .int .i64 a0_1, .int .i64 a0_2, .int .i64 a0_3, .int .i64 a0_4] 28 (0, 0))) ∧ Aside0 (Below w.heap.size w wc))
  case first =>
    have H := HC2.out
    clear HC2
    by_cases c4 : a0_0 < 1
    · rw [if_pos c4] at H
      have c4b0 : decide (a0_0 < 1) = true := decide_eq_true c4
      clear c4
      (first | rw [c4b0] | (simp only [i64_w, i32_w]; rw [c4b0]) | skip)
      have H' := Aside0.mk H
      clear H
      have hcz5_0 : w3.cell? ⟨gb146, 0, none⟩ = some (.int .i64 a0_0) := (blk_cell BK146.out 0).trans rfl
      have hcz5_1 : w3.cell? ⟨gb146, 1, none⟩ = some (.int .i64 a0_1) := (blk_cell BK146.out 1).trans rfl
      have hcz5_2 : w3.cell? ⟨gb146, 2, none⟩ = some (.int .i64 a0_2) := (blk_cell BK146.out 2).trans rfl
      have hcz5_3 : w3.cell? ⟨gb146, 3, none⟩ = some (.int .i64 a0_3) := (blk_cell BK146.out 3).trans rfl
      have hcz5_4 : w3.cell? ⟨gb146, 4, none⟩ = some (.int .i64 a0_4) := (blk_cell BK146.out 4).trans rfl
      have hfz5_0 := blk_frozen BK146.out 0
      have hfz5_1 := blk_frozen BK146.out 1
      have hfz5_2 := blk_frozen BK146.out 2
      have hfz5_3 := blk_frozen BK146.out 3
      have hfz5_4 := blk_frozen BK146.out 4
      go_wp2
      go_meet
      case rel => exact ⟨_, (true), (by first | rfl | (simp; done) | (simp [*]; done)), H', ⟨by first | omega | exact Nat.le_refl _⟩, ⟨by (with_reducible repeat (first | refine blk_drewN ?_ _ | refine blk_drew ?_ | refine blk_alloc ?_ _)); exact BK146.out⟩, ⟨by repeat (first | (with_reducible first | exact HB.out | apply below_alloc | apply pw_below_drewN | apply below_drew1 | refine below_set ?_ GE146.out) | exact HB.out)⟩⟩
    · rw [if_neg c4] at H
      have c4b0 : decide (a0_0 < 1) = false := decide_eq_false c4
      clear c4
      (first | rw [c4b0] | (simp only [i64_w, i32_w]; rw [c4b0]) | skip)
      replace H := Option.bind_eq_some_iff.mp H
      obtain ⟨t147, A60, H⟩ := H
      replace H : (if t147 = true then (if a0_1 < 1 then (honeycombref1_MasterPut.j0 k true a0_0 a0_1 a0_2 a0_3 a0_4) else ((honeycombref1_four.f a0_1).bind fun t148 => (if t148 = true then ((honeycombref1_four.f a0_2).bind fun t149 => (if t149 = true then (if a0_3 < 8 then (honeycombref1_MasterPut.j0 k true a0_0 a0_1 a0_2 a0_3 a0_4) else (if a0_3 > 64 then (honeycombref1_MasterPut.j0 k true a0_0 a0_1 a0_2 a0_3 a0_4) else (if a0_4 < 64 then (honeycombref1_MasterPut.j0 k true a0_0 a0_1 a0_2 a0_3 a0_4) else (honeycombref1_MasterPut.j0 k (decide (a0_4 > 4000)) a0_0 a0_1 a0_2 a0_3 a0_4)))) else (honeycombref1_MasterPut.j0 k true a0_0 a0_1 a0_2 a0_3 a0_4))) else (honeycombref1_MasterPut.j0 k true a0_0 a0_1 a0_2 a0_3 a0_4)))) else (honeycombref1_MasterPut.j0 k true a0_0 a0_1 a0_2 a0_3 a0_4)) = some (r1, r2) := H
      have A6 := Aside0.mk A60
      clear A60
      by_cases c7 : t147 = true
      · subst c7
        have H1 : (if a0_1 < 1 then (honeycombref1_MasterPut.j0 k true a0_0 a0_1 a0_2 a0_3 a0_4) else ((honeycombref1_four.f a0_1).bind fun t148 => (if t148 = true then ((honeycombref1_four.f a0_2).bind fun t149 => (if t149 = true then (if a0_3 < 8 then (honeycombref1_MasterPut.j0 k true a0_0 a0_1 a0_2 a0_3 a0_4) else (if a0_3 > 64 then (honeycombref1_MasterPut.j0 k true a0_0 a0_1 a0_2 a0_3 a0_4) else (if a0_4 < 64 then (honeycombref1_MasterPut.j0 k true a0_0 a0_1 a0_2 a0_3 a0_4) else (honeycombref1_MasterPut.j0 k (decide (a0_4 > 4000)) a0_0 a0_1 a0_2 a0_3 a0_4)))) else (honeycombref1_MasterPut.j0 k true a0_0 a0_1 a0_2 a0_3 a0_4))) else (honeycombref1_MasterPut.j0 k true a0_0 a0_1 a0_2 a0_3 a0_4)))) = some (r1, r2) := by rw [if_pos rfl] at H; exact H
        clear H
        have H := H1
        clear H1
        by_cases c8 : a0_1 < 1
        · rw [if_pos c8] at H
          have c8b0 : decide (a0_1 < 1) = true := decide_eq_true c8
          clear c8
          have H' := Aside0.mk H
          clear H
          have hcz9_0 : w3.cell? ⟨gb146, 0, none⟩ = some (.int .i64 a0_0) := (blk_cell BK146.out 0).trans rfl
          have hcz9_1 : w3.cell? ⟨gb146, 1, none⟩ = some (.int .i64 a0_1) := (blk_cell BK146.out 1).trans rfl
          have hcz9_2 : w3.cell? ⟨gb146, 2, none⟩ = some (.int .i64 a0_2) := (blk_cell BK146.out 2).trans rfl
          have hcz9_3 : w3.cell? ⟨gb146, 3, none⟩ = some (.int .i64 a0_3) := (blk_cell BK146.out 3).trans rfl
          have hcz9_4 : w3.cell? ⟨gb146, 4, none⟩ = some (.int .i64 a0_4) := (blk_cell BK146.out 4).trans rfl
          have hfz9_0 := blk_frozen BK146.out 0
          have hfz9_1 := blk_frozen BK146.out 1
          have hfz9_2 := blk_frozen BK146.out 2
          have hfz9_3 := blk_frozen BK146.out 3
          have hfz9_4 := blk_frozen BK146.out 4
          go_wp2_with (first | (go_at_call 31; (with_reducible refine (honeycombref1_four.calls a0_0 true _ A6.out).mono ?_); rintro e w' ⟨rfl, ⟨nd, rfl⟩⟩))
          go_meet
          case rel => exact ⟨_, (true), (by first | rfl | (simp; done) | (simp [*]; done)), H', ⟨by first | omega | exact Nat.le_refl _⟩, ⟨by (with_reducible repeat (first | refine blk_drewN ?_ _ | refine blk_drew ?_ | refine blk_alloc ?_ _)); exact BK146.out⟩, ⟨by repeat (first | (with_reducible first | exact HB.out | apply below_alloc | apply pw_below_drewN | apply below_drew1 | refine below_set ?_ GE146.out) | exact HB.out)⟩⟩
        · rw [if_neg c8] at H
          have c8b0 : decide (a0_1 < 1) = false := decide_eq_false c8
          clear c8
          replace H := Option.bind_eq_some_iff.mp H
          obtain ⟨t148, A100, H⟩ := H
          replace H : (if t148 = true then ((honeycombref1_four.f a0_2).bind fun t149 => (if t149 = true then (if a0_3 < 8 then (honeycombref1_MasterPut.j0 k true a0_0 a0_1 a0_2 a0_3 a0_4) else (if a0_3 > 64 then (honeycombref1_MasterPut.j0 k true a0_0 a0_1 a0_2 a0_3 a0_4) else (if a0_4 < 64 then (honeycombref1_MasterPut.j0 k true a0_0 a0_1 a0_2 a0_3 a0_4) else (honeycombref1_MasterPut.j0 k (decide (a0_4 > 4000)) a0_0 a0_1 a0_2 a0_3 a0_4)))) else (honeycombref1_MasterPut.j0 k true a0_0 a0_1 a0_2 a0_3 a0_4))) else (honeycombref1_MasterPut.j0 k true a0_0 a0_1 a0_2 a0_3 a0_4)) = some (r1, r2) := H
          have A10 := Aside0.mk A100
          clear A100
          by_cases c11 : t148 = true
          · subst c11
            have H1 : ((honeycombref1_four.f a0_2).bind fun t149 => (if t149 = true then (if a0_3 < 8 then (honeycombref1_MasterPut.j0 k true a0_0 a0_1 a0_2 a0_3 a0_4) else (if a0_3 > 64 then (honeycombref1_MasterPut.j0 k true a0_0 a0_1 a0_2 a0_3 a0_4) else (if a0_4 < 64 then (honeycombref1_MasterPut.j0 k true a0_0 a0_1 a0_2 a0_3 a0_4) else (honeycombref1_MasterPut.j0 k (decide (a0_4 > 4000)) a0_0 a0_1 a0_2 a0_3 a0_4)))) else (honeycombref1_MasterPut.j0 k true a0_0 a0_1 a0_2 a0_3 a0_4))) = some (r1, r2) := by rw [if_pos rfl] at H; exact H
            clear H
            have H := H1
            clear H1
            replace H := Option.bind_eq_some_iff.mp H
            obtain ⟨t149, A120, H⟩ := H
            replace H : (if t149 = true then (if a0_3 < 8 then (honeycombref1_MasterPut.j0 k true a0_0 a0_1 a0_2 a0_3 a0_4) else (if a0_3 > 64 then (honeycombref1_MasterPut.j0 k true a0_0 a0_1 a0_2 a0_3 a0_4) else (if a0_4 < 64 then (honeycombref1_MasterPut.j0 k true a0_0 a0_1 a0_2 a0_3 a0_4) else (honeycombref1_MasterPut.j0 k (decide (a0_4 > 4000)) a0_0 a0_1 a0_2 a0_3 a0_4)))) else (honeycombref1_MasterPut.j0 k true a0_0 a0_1 a0_2 a0_3 a0_4)) = some (r1, r2) := H
            have A12 := Aside0.mk A120
            clear A120
            by_cases c13 : t149 = true
            · subst c13
              have H1 : (if a0_3 < 8 then (honeycombref1_MasterPut.j0 k true a0_0 a0_1 a0_2 a0_3 a0_4) else (if a0_3 > 64 then (honeycombref1_MasterPut.j0 k true a0_0 a0_1 a0_2 a0_3 a0_4) else (if a0_4 < 64 then (honeycombref1_MasterPut.j0 k true a0_0 a0_1 a0_2 a0_3 a0_4) else (honeycombref1_MasterPut.j0 k (decide (a0_4 > 4000)) a0_0 a0_1 a0_2 a0_3 a0_4)))) = some (r1, r2) := by rw [if_pos rfl] at H; exact H
              clear H
              have H := H1
              clear H1
              by_cases c14 : a0_3 < 8
              · rw [if_pos c14] at H
                have c14b0 : decide (a0_3 < 8) = true := decide_eq_true c14
                clear c14
                have H' := Aside0.mk H
                clear H
                have hcz15_0 : w3.cell? ⟨gb146, 0, none⟩ = some (.int .i64 a0_0) := (blk_cell BK146.out 0).trans rfl
                have hcz15_1 : w3.cell? ⟨gb146, 1, none⟩ = some (.int .i64 a0_1) := (blk_cell BK146.out 1).trans rfl
                have hcz15_2 : w3.cell? ⟨gb146, 2, none⟩ = some (.int .i64 a0_2) := (blk_cell BK146.out 2).trans rfl
                have hcz15_3 : w3.cell? ⟨gb146, 3, none⟩ = some (.int .i64 a0_3) := (blk_cell BK146.out 3).trans rfl
                have hcz15_4 : w3.cell? ⟨gb146, 4, none⟩ = some (.int .i64 a0_4) := (blk_cell BK146.out 4).trans rfl
                have hfz15_0 := blk_frozen BK146.out 0
                have hfz15_1 := blk_frozen BK146.out 1
                have hfz15_2 := blk_frozen BK146.out 2
                have hfz15_3 := blk_frozen BK146.out 3
                have hfz15_4 := blk_frozen BK146.out 4
                go_wp2_with (first | (go_at_call 31; (with_reducible refine (honeycombref1_four.calls a0_0 true _ A6.out).mono ?_); rintro e w' ⟨rfl, ⟨nd, rfl⟩⟩) | (go_at_call 31; (with_reducible refine (honeycombref1_four.calls a0_1 true _ A10.out).mono ?_); rintro e w' ⟨rfl, ⟨nd, rfl⟩⟩) | (go_at_call 31; (with_reducible refine (honeycombref1_four.calls a0_2 true _ A12.out).mono ?_); rintro e w' ⟨rfl, ⟨nd, rfl⟩⟩))
                go_meet
                case rel => exact ⟨_, (true), (by first | rfl | (simp; done) | (simp [*]; done)), H', ⟨by first | omega | exact Nat.le_refl _⟩, ⟨by (with_reducible repeat (first | refine blk_drewN ?_ _ | refine blk_drew ?_ | refine blk_alloc ?_ _)); exact BK146.out⟩, ⟨by repeat (first | (with_reducible first | exact HB.out | apply below_alloc | apply pw_below_drewN | apply below_drew1 | refine below_set ?_ GE146.out) | exact HB.out)⟩⟩
              · rw [if_neg c14] at H
                have c14b0 : decide (a0_3 < 8) = false := decide_eq_false c14
                clear c14
                by_cases c16 : a0_3 > 64
                · rw [if_pos c16] at H
                  have c16b0 : decide (64 < a0_3) = true := decide_eq_true c16
                  clear c16
                  have H' := Aside0.mk H
                  clear H
                  have hcz17_0 : w3.cell? ⟨gb146, 0, none⟩ = some (.int .i64 a0_0) := (blk_cell BK146.out 0).trans rfl
                  have hcz17_1 : w3.cell? ⟨gb146, 1, none⟩ = some (.int .i64 a0_1) := (blk_cell BK146.out 1).trans rfl
                  have hcz17_2 : w3.cell? ⟨gb146, 2, none⟩ = some (.int .i64 a0_2) := (blk_cell BK146.out 2).trans rfl
                  have hcz17_3 : w3.cell? ⟨gb146, 3, none⟩ = some (.int .i64 a0_3) := (blk_cell BK146.out 3).trans rfl
                  have hcz17_4 : w3.cell? ⟨gb146, 4, none⟩ = some (.int .i64 a0_4) := (blk_cell BK146.out 4).trans rfl
                  have hfz17_0 := blk_frozen BK146.out 0
                  have hfz17_1 := blk_frozen BK146.out 1
                  have hfz17_2 := blk_frozen BK146.out 2
                  have hfz17_3 := blk_frozen BK146.out 3
                  have hfz17_4 := blk_frozen BK146.out 4
                  go_wp2_with (first | (go_at_call 31; (with_reducible refine (honeycombref1_four.calls a0_0 true _ A6.out).mono ?_); rintro e w' ⟨rfl, ⟨nd, rfl⟩⟩) | (go_at_call 31; (with_reducible refine (honeycombref1_four.calls a0_1 true _ A10.out).mono ?_); rintro e w' ⟨rfl, ⟨nd, rfl⟩⟩) | (go_at_call 31; (with_reducible refine (honeycombref1_four.calls a0_2 true _ A12.out).mono ?_); rintro e w' ⟨rfl, ⟨nd, rfl⟩⟩))
                  go_meet
                  case rel => exact ⟨_, (true), (by first | rfl | (simp; done) | (simp [*]; done)), H', ⟨by first | omega | exact Nat.le_refl _⟩, ⟨by (with_reducible repeat (first | refine blk_drewN ?_ _ | refine blk_drew ?_ | refine blk_alloc ?_ _)); exact BK146.out⟩, ⟨by repeat (first | (with_reducible first | exact HB.out | apply below_alloc | apply pw_below_drewN | apply below_drew1 | refine below_set ?_ GE146.out) | exact HB.out)⟩⟩
                · rw [if_neg c16] at H
                  have c16b0 : decide (64 < a0_3) = false := decide_eq_false c16
                  clear c16
                  by_cases c18 : a0_4 < 64
                  · rw [if_pos c18] at H
                    have c18b0 : decide (a0_4 < 64) = true := decide_eq_true c18
                    clear c18
                    have H' := Aside0.mk H
                    clear H
                    have hcz19_0 : w3.cell? ⟨gb146, 0, none⟩ = some (.int .i64 a0_0) := (blk_cell BK146.out 0).trans rfl
                    have hcz19_1 : w3.cell? ⟨gb146, 1, none⟩ = some (.int .i64 a0_1) := (blk_cell BK146.out 1).trans rfl
                    have hcz19_2 : w3.cell? ⟨gb146, 2, none⟩ = some (.int .i64 a0_2) := (blk_cell BK146.out 2).trans rfl
                    have hcz19_3 : w3.cell? ⟨gb146, 3, none⟩ = some (.int .i64 a0_3) := (blk_cell BK146.out 3).trans rfl
                    have hcz19_4 : w3.cell? ⟨gb146, 4, none⟩ = some (.int .i64 a0_4) := (blk_cell BK146.out 4).trans rfl
                    have hfz19_0 := blk_frozen BK146.out 0
                    have hfz19_1 := blk_frozen BK146.out 1
                    have hfz19_2 := blk_frozen BK146.out 2
                    have hfz19_3 := blk_frozen BK146.out 3
                    have hfz19_4 := blk_frozen BK146.out 4
                    go_wp2_with (first | (go_at_call 31; (with_reducible refine (honeycombref1_four.calls a0_0 true _ A6.out).mono ?_); rintro e w' ⟨rfl, ⟨nd, rfl⟩⟩) | (go_at_call 31; (with_reducible refine (honeycombref1_four.calls a0_1 true _ A10.out).mono ?_); rintro e w' ⟨rfl, ⟨nd, rfl⟩⟩) | (go_at_call 31; (with_reducible refine (honeycombref1_four.calls a0_2 true _ A12.out).mono ?_); rintro e w' ⟨rfl, ⟨nd, rfl⟩⟩))
                    go_meet
                    case rel => exact ⟨_, (true), (by first | rfl | (simp; done) | (simp [*]; done)), H', ⟨by first | omega | exact Nat.le_refl _⟩, ⟨by (with_reducible repeat (first | refine blk_drewN ?_ _ | refine blk_drew ?_ | refine blk_alloc ?_ _)); exact BK146.out⟩, ⟨by repeat (first | (with_reducible first | exact HB.out | apply below_alloc | apply pw_below_drewN | apply below_drew1 | refine below_set ?_ GE146.out) | exact HB.out)⟩⟩
                  · rw [if_neg c18] at H
                    have c18b0 : decide (a0_4 < 64) = false := decide_eq_false c18
                    clear c18
                    have H' := Aside0.mk H
                    clear H
                    have hcz20_0 : w3.cell? ⟨gb146, 0, none⟩ = some (.int .i64 a0_0) := (blk_cell BK146.out 0).trans rfl
                    have hcz20_1 : w3.cell? ⟨gb146, 1, none⟩ = some (.int .i64 a0_1) := (blk_cell BK146.out 1).trans rfl
                    have hcz20_2 : w3.cell? ⟨gb146, 2, none⟩ = some (.int .i64 a0_2) := (blk_cell BK146.out 2).trans rfl
                    have hcz20_3 : w3.cell? ⟨gb146, 3, none⟩ = some (.int .i64 a0_3) := (blk_cell BK146.out 3).trans rfl
                    have hcz20_4 : w3.cell? ⟨gb146, 4, none⟩ = some (.int .i64 a0_4) := (blk_cell BK146.out 4).trans rfl
                    have hfz20_0 := blk_frozen BK146.out 0
                    have hfz20_1 := blk_frozen BK146.out 1
                    have hfz20_2 := blk_frozen BK146.out 2
                    have hfz20_3 := blk_frozen BK146.out 3
                    have hfz20_4 := blk_frozen BK146.out 4
                    go_wp2_with (first | (go_at_call 31; (with_reducible refine (honeycombref1_four.calls a0_0 true _ A6.out).mono ?_); rintro e w' ⟨rfl, ⟨nd, rfl⟩⟩) | (go_at_call 31; (with_reducible refine (honeycombref1_four.calls a0_1 true _ A10.out).mono ?_); rintro e w' ⟨rfl, ⟨nd, rfl⟩⟩) | (go_at_call 31; (with_reducible refine (honeycombref1_four.calls a0_2 true _ A12.out).mono ?_); rintro e w' ⟨rfl, ⟨nd, rfl⟩⟩))
                    go_meet
                    case rel => exact ⟨_, (decide (a0_4 > 4000)), (by first | rfl | (simp; done) | (simp [*]; done)), H', ⟨by first | omega | exact Nat.le_refl _⟩, ⟨by (with_reducible repeat (first | refine blk_drewN ?_ _ | refine blk_drew ?_ | refine blk_alloc ?_ _)); exact BK146.out⟩, ⟨by repeat (first | (with_reducible first | exact HB.out | apply below_alloc | apply pw_below_drewN | apply below_drew1 | refine below_set ?_ GE146.out) | exact HB.out)⟩⟩
            · replace c13 := Bool.eq_false_iff.mpr c13
              subst c13
              have H1 : (honeycombref1_MasterPut.j0 k true a0_0 a0_1 a0_2 a0_3 a0_4) = some (r1, r2) := by rw [if_neg (show ¬ (false = true) by decide)] at H; exact H
              clear H
              have H := H1
              clear H1
              have H' := Aside0.mk H
              clear H
              have hcz21_0 : w3.cell? ⟨gb146, 0, none⟩ = some (.int .i64 a0_0) := (blk_cell BK146.out 0).trans rfl
              have hcz21_1 : w3.cell? ⟨gb146, 1, none⟩ = some (.int .i64 a0_1) := (blk_cell BK146.out 1).trans rfl
              have hcz21_2 : w3.cell? ⟨gb146, 2, none⟩ = some (.int .i64 a0_2) := (blk_cell BK146.out 2).trans rfl
              have hcz21_3 : w3.cell? ⟨gb146, 3, none⟩ = some (.int .i64 a0_3) := (blk_cell BK146.out 3).trans rfl
              have hcz21_4 : w3.cell? ⟨gb146, 4, none⟩ = some (.int .i64 a0_4) := (blk_cell BK146.out 4).trans rfl
              have hfz21_0 := blk_frozen BK146.out 0
              have hfz21_1 := blk_frozen BK146.out 1
              have hfz21_2 := blk_frozen BK146.out 2
              have hfz21_3 := blk_frozen BK146.out 3
              have hfz21_4 := blk_frozen BK146.out 4
              go_wp2_with (first | (go_at_call 31; (with_reducible refine (honeycombref1_four.calls a0_0 true _ A6.out).mono ?_); rintro e w' ⟨rfl, ⟨nd, rfl⟩⟩) | (go_at_call 31; (with_reducible refine (honeycombref1_four.calls a0_1 true _ A10.out).mono ?_); rintro e w' ⟨rfl, ⟨nd, rfl⟩⟩) | (go_at_call 31; (with_reducible refine (honeycombref1_four.calls a0_2 false _ A12.out).mono ?_); rintro e w' ⟨rfl, ⟨nd, rfl⟩⟩))
              go_meet
              case rel => exact ⟨_, (true), (by first | rfl | (simp; done) | (simp [*]; done)), H', ⟨by first | omega | exact Nat.le_refl _⟩, ⟨by (with_reducible repeat (first | refine blk_drewN ?_ _ | refine blk_drew ?_ | refine blk_alloc ?_ _)); exact BK146.out⟩, ⟨by repeat (first | (with_reducible first | exact HB.out | apply below_alloc | apply pw_below_drewN | apply below_drew1 | refine below_set ?_ GE146.out) | exact HB.out)⟩⟩
          · replace c11 := Bool.eq_false_iff.mpr c11
            subst c11
            have H1 : (honeycombref1_MasterPut.j0 k true a0_0 a0_1 a0_2 a0_3 a0_4) = some (r1, r2) := by rw [if_neg (show ¬ (false = true) by decide)] at H; exact H
            clear H
            have H := H1
            clear H1
            have H' := Aside0.mk H
            clear H
            have hcz22_0 : w3.cell? ⟨gb146, 0, none⟩ = some (.int .i64 a0_0) := (blk_cell BK146.out 0).trans rfl
            have hcz22_1 : w3.cell? ⟨gb146, 1, none⟩ = some (.int .i64 a0_1) := (blk_cell BK146.out 1).trans rfl
            have hcz22_2 : w3.cell? ⟨gb146, 2, none⟩ = some (.int .i64 a0_2) := (blk_cell BK146.out 2).trans rfl
            have hcz22_3 : w3.cell? ⟨gb146, 3, none⟩ = some (.int .i64 a0_3) := (blk_cell BK146.out 3).trans rfl
            have hcz22_4 : w3.cell? ⟨gb146, 4, none⟩ = some (.int .i64 a0_4) := (blk_cell BK146.out 4).trans rfl
            have hfz22_0 := blk_frozen BK146.out 0
            have hfz22_1 := blk_frozen BK146.out 1
            have hfz22_2 := blk_frozen BK146.out 2
            have hfz22_3 := blk_frozen BK146.out 3
            have hfz22_4 := blk_frozen BK146.out 4
            go_wp2_with (first | (go_at_call 31; (with_reducible refine (honeycombref1_four.calls a0_0 true _ A6.out).mono ?_); rintro e w' ⟨rfl, ⟨nd, rfl⟩⟩) | (go_at_call 31; (with_reducible refine (honeycombref1_four.calls a0_1 false _ A10.out).mono ?_); rintro e w' ⟨rfl, ⟨nd, rfl⟩⟩))
            go_meet
            case rel => exact ⟨_, (true), (by first | rfl | (simp; done) | (simp [*]; done)), H', ⟨by first | omega | exact Nat.le_refl _⟩, ⟨by (with_reducible repeat (first | refine blk_drewN ?_ _ | refine blk_drew ?_ | refine blk_alloc ?_ _)); exact BK146.out⟩, ⟨by repeat (first | (with_reducible first | exact HB.out | apply below_alloc | apply pw_below_drewN | apply below_drew1 | refine below_set ?_ GE146.out) | exact HB.out)⟩⟩
      · replace c7 := Bool.eq_false_iff.mpr c7
        subst c7
        have H1 : (honeycombref1_MasterPut.j0 k true a0_0 a0_1 a0_2 a0_3 a0_4) = some (r1, r2) := by rw [if_neg (show ¬ (false = true) by decide)] at H; exact H
        clear H
        have H := H1
        clear H1
        have H' := Aside0.mk H
        clear H
        have hcz23_0 : w3.cell? ⟨gb146, 0, none⟩ = some (.int .i64 a0_0) := (blk_cell BK146.out 0).trans rfl
        have hcz23_1 : w3.cell? ⟨gb146, 1, none⟩ = some (.int .i64 a0_1) := (blk_cell BK146.out 1).trans rfl
        have hcz23_2 : w3.cell? ⟨gb146, 2, none⟩ = some (.int .i64 a0_2) := (blk_cell BK146.out 2).trans rfl
        have hcz23_3 : w3.cell? ⟨gb146, 3, none⟩ = some (.int .i64 a0_3) := (blk_cell BK146.out 3).trans rfl
        have hcz23_4 : w3.cell? ⟨gb146, 4, none⟩ = some (.int .i64 a0_4) := (blk_cell BK146.out 4).trans rfl
        have hfz23_0 := blk_frozen BK146.out 0
        have hfz23_1 := blk_frozen BK146.out 1
        have hfz23_2 := blk_frozen BK146.out 2
        have hfz23_3 := blk_frozen BK146.out 3
        have hfz23_4 := blk_frozen BK146.out 4
        go_wp2_with (first | (go_at_call 31; (with_reducible refine (honeycombref1_four.calls a0_0 false _ A6.out).mono ?_); rintro e w' ⟨rfl, ⟨nd, rfl⟩⟩))
        go_meet
        case rel => exact ⟨_, (true), (by first | rfl | (simp; done) | (simp [*]; done)), H', ⟨by first | omega | exact Nat.le_refl _⟩, ⟨by (with_reducible repeat (first | refine blk_drewN ?_ _ | refine blk_drew ?_ | refine blk_alloc ?_ _)); exact BK146.out⟩, ⟨by repeat (first | (with_reducible first | exact HB.out | apply below_alloc | apply pw_below_drewN | apply below_drew1 | refine below_set ?_ GE146.out) | exact HB.out)⟩⟩
  case rest =>
    clear HC2
    try clear c1
    try clear p2
    try clear c4
    try clear c4b0
    try clear c7
    try clear c8
    try clear c8b0
    try clear c11
    try clear c13
    try clear c14
    try clear c14b0
    try clear c16
    try clear c16b0
    try clear c18
    try clear c18b0
    try clear hcz15_0
    try clear hcz15_1
    try clear hcz15_2
    try clear hcz15_3
    try clear hcz15_4
    try clear hcz17_0
    try clear hcz17_1
    try clear hcz17_2
    try clear hcz17_3
    try clear hcz17_4
    try clear hcz19_0
    try clear hcz19_1
    try clear hcz19_2
    try clear hcz19_3
    try clear hcz19_4
    try clear hcz20_0
    try clear hcz20_1
    try clear hcz20_2
    try clear hcz20_3
    try clear hcz20_4
    try clear hcz21_0
    try clear hcz21_1
    try clear hcz21_2
    try clear hcz21_3
    try clear hcz21_4
    try clear hcz22_0
    try clear hcz22_1
    try clear hcz22_2
    try clear hcz22_3
    try clear hcz22_4
    try clear hcz23_0
    try clear hcz23_1
    try clear hcz23_2
    try clear hcz23_3
    try clear hcz23_4
    try clear hcz5_0
    try clear hcz5_1
    try clear hcz5_2
    try clear hcz5_3
    try clear hcz5_4
    try clear hcz9_0
    try clear hcz9_1
    try clear hcz9_2
    try clear hcz9_3
    try clear hcz9_4
    try clear hfz15_0
    try clear hfz15_1
    try clear hfz15_2
    try clear hfz15_3
    try clear hfz15_4
    try clear hfz17_0
    try clear hfz17_1
    try clear hfz17_2
    try clear hfz17_3
    try clear hfz17_4
    try clear hfz19_0
    try clear hfz19_1
    try clear hfz19_2
    try clear hfz19_3
    try clear hfz19_4
    try clear hfz20_0
    try clear hfz20_1
    try clear hfz20_2
    try clear hfz20_3
    try clear hfz20_4
    try clear hfz21_0
    try clear hfz21_1
    try clear hfz21_2
    try clear hfz21_3
    try clear hfz21_4
    try clear hfz22_0
    try clear hfz22_1
    try clear hfz22_2
    try clear hfz22_3
    try clear hfz22_4
    try clear hfz23_0
    try clear hfz23_1
    try clear hfz23_2
    try clear hfz23_3
    try clear hfz23_4
    try clear hfz5_0
    try clear hfz5_1
    try clear hfz5_2
    try clear hfz5_3
    try clear hfz5_4
    try clear hfz9_0
    try clear hfz9_1
    try clear hfz9_2
    try clear hfz9_3
    try clear hfz9_4
    obtain ⟨kq, x50_1, rfl, HA, HJ1, BK146, HB⟩ := hcut
    cases kq with
    | zero => exact absurd HA.out (by simp [honeycombref1_MasterPut.j0])
    | succ kj1 =>
      have H := HA.out
      clear HA
      simp only [honeycombref1_MasterPut.j0] at H
      by_cases c24 : x50_1 = true
      · subst c24
        have H1 : (some ((⟨#[]⟩ : ByteArray), false)) = some (r1, r2) := by rw [if_pos rfl] at H; exact H
        clear H
        have H := H1
        clear H1
        simp only [Option.some.injEq, Prod.mk.injEq] at H
        obtain ⟨rfl, rfl⟩ := H
        go_wp2
        go_ret2
        exact ⟨by first | rfl | (simp [errW_none, errW_some] <;> rfl) | (simp [*, errW_none, errW_some] <;> rfl), by repeat (first | (with_reducible first | exact HB.out | apply below_alloc | apply pw_below_drewN | apply below_drew1 | refine below_set ?_ GE146.out) | exact HB.out)⟩
      · replace c24 := Bool.eq_false_iff.mpr c24
        subst c24
        have H1 : ((honeycombref1_long.f kj1 a0_0).bind fun t150 => (if 2 + t150.size ≤ 9223372036854775807 then ((honeycombref1_long.f kj1 a0_1).bind fun t151 => (if ((⟨#[72, 67]⟩ : ByteArray) ++ t150).size + t151.size ≤ 9223372036854775807 then ((honeycombref1_long.f kj1 a0_2).bind fun t152 => (if (((⟨#[72, 67]⟩ : ByteArray) ++ t150) ++ t151).size + t152.size ≤ 9223372036854775807 then ((honeycombref1_num.f kj1 a0_3).bind fun t153 => (if ((((⟨#[72, 67]⟩ : ByteArray) ++ t150) ++ t151) ++ t152).size + t153.size ≤ 9223372036854775807 then ((honeycombref1_num.f kj1 a0_4).bind fun t154 => (if (((((⟨#[72, 67]⟩ : ByteArray) ++ t150) ++ t151) ++ t152) ++ t153).size + t154.size ≤ 9223372036854775807 then ((honeycombref1_Zeros.f (wrap64 (64 - (((((((⟨#[72, 67]⟩ : ByteArray) ++ t150) ++ t151) ++ t152) ++ t153) ++ t154).size : Int)))).bind fun t155 => (if ((((((⟨#[72, 67]⟩ : ByteArray) ++ t150) ++ t151) ++ t152) ++ t153) ++ t154).size + t155.size ≤ 9223372036854775807 then (some (((((((⟨#[72, 67]⟩ : ByteArray) ++ t150) ++ t151) ++ t152) ++ t153) ++ t154) ++ t155, true)) else (none))) else (none))) else (none))) else (none))) else (none))) else (none))) = some (r1, r2) := by rw [if_neg (show ¬ (false = true) by decide)] at H; exact H
        clear H
        have H := H1
        clear H1
        replace H := Option.bind_eq_some_iff.mp H
        obtain ⟨t150, A250, H⟩ := H
        replace H : (if 2 + t150.size ≤ 9223372036854775807 then ((honeycombref1_long.f kj1 a0_1).bind fun t151 => (if ((⟨#[72, 67]⟩ : ByteArray) ++ t150).size + t151.size ≤ 9223372036854775807 then ((honeycombref1_long.f kj1 a0_2).bind fun t152 => (if (((⟨#[72, 67]⟩ : ByteArray) ++ t150) ++ t151).size + t152.size ≤ 9223372036854775807 then ((honeycombref1_num.f kj1 a0_3).bind fun t153 => (if ((((⟨#[72, 67]⟩ : ByteArray) ++ t150) ++ t151) ++ t152).size + t153.size ≤ 9223372036854775807 then ((honeycombref1_num.f kj1 a0_4).bind fun t154 => (if (((((⟨#[72, 67]⟩ : ByteArray) ++ t150) ++ t151) ++ t152) ++ t153).size + t154.size ≤ 9223372036854775807 then ((honeycombref1_Zeros.f (wrap64 (64 - (((((((⟨#[72, 67]⟩ : ByteArray) ++ t150) ++ t151) ++ t152) ++ t153) ++ t154).size : Int)))).bind fun t155 => (if ((((((⟨#[72, 67]⟩ : ByteArray) ++ t150) ++ t151) ++ t152) ++ t153) ++ t154).size + t155.size ≤ 9223372036854775807 then (some (((((((⟨#[72, 67]⟩ : ByteArray) ++ t150) ++ t151) ++ t152) ++ t153) ++ t154) ++ t155, true)) else (none))) else (none))) else (none))) else (none))) else (none))) else (none)) = some (r1, r2) := H
        have A25 := Aside0.mk A250
        clear A250
        by_cases c26 : 2 + t150.size ≤ 9223372036854775807
        · rw [if_pos c26] at H
          have c26b0 := eq_true c26
          have c26b1 : decide (2 + t150.size ≤ 9223372036854775807) = true := decide_eq_true c26
          try have c26b2 : (9223372036854775807 < 2 + t150.size) = False := eq_false (Nat.not_lt.2 c26)
          replace H := Option.bind_eq_some_iff.mp H
          obtain ⟨t151, A270, H⟩ := H
          replace H : (if ((⟨#[72, 67]⟩ : ByteArray) ++ t150).size + t151.size ≤ 9223372036854775807 then ((honeycombref1_long.f kj1 a0_2).bind fun t152 => (if (((⟨#[72, 67]⟩ : ByteArray) ++ t150) ++ t151).size + t152.size ≤ 9223372036854775807 then ((honeycombref1_num.f kj1 a0_3).bind fun t153 => (if ((((⟨#[72, 67]⟩ : ByteArray) ++ t150) ++ t151) ++ t152).size + t153.size ≤ 9223372036854775807 then ((honeycombref1_num.f kj1 a0_4).bind fun t154 => (if (((((⟨#[72, 67]⟩ : ByteArray) ++ t150) ++ t151) ++ t152) ++ t153).size + t154.size ≤ 9223372036854775807 then ((honeycombref1_Zeros.f (wrap64 (64 - (((((((⟨#[72, 67]⟩ : ByteArray) ++ t150) ++ t151) ++ t152) ++ t153) ++ t154).size : Int)))).bind fun t155 => (if ((((((⟨#[72, 67]⟩ : ByteArray) ++ t150) ++ t151) ++ t152) ++ t153) ++ t154).size + t155.size ≤ 9223372036854775807 then (some (((((((⟨#[72, 67]⟩ : ByteArray) ++ t150) ++ t151) ++ t152) ++ t153) ++ t154) ++ t155, true)) else (none))) else (none))) else (none))) else (none))) else (none)) = some (r1, r2) := H
          have A27 := Aside0.mk A270
          clear A270
          by_cases c28 : ((⟨#[72, 67]⟩ : ByteArray) ++ t150).size + t151.size ≤ 9223372036854775807
          · rw [if_pos c28] at H
            have c28b0 := eq_true c28
            have c28b1 : decide (((⟨#[72, 67]⟩ : ByteArray) ++ t150).size + t151.size ≤ 9223372036854775807) = true := decide_eq_true c28
            try have c28b2 : (9223372036854775807 < ((⟨#[72, 67]⟩ : ByteArray) ++ t150).size + t151.size) = False := eq_false (Nat.not_lt.2 c28)
            try simp only [ByteArray.size_append, show (⟨#[72, 67]⟩ : ByteArray).size = 2 from rfl] at c28b2
            replace H := Option.bind_eq_some_iff.mp H
            obtain ⟨t152, A290, H⟩ := H
            replace H : (if (((⟨#[72, 67]⟩ : ByteArray) ++ t150) ++ t151).size + t152.size ≤ 9223372036854775807 then ((honeycombref1_num.f kj1 a0_3).bind fun t153 => (if ((((⟨#[72, 67]⟩ : ByteArray) ++ t150) ++ t151) ++ t152).size + t153.size ≤ 9223372036854775807 then ((honeycombref1_num.f kj1 a0_4).bind fun t154 => (if (((((⟨#[72, 67]⟩ : ByteArray) ++ t150) ++ t151) ++ t152) ++ t153).size + t154.size ≤ 9223372036854775807 then ((honeycombref1_Zeros.f (wrap64 (64 - (((((((⟨#[72, 67]⟩ : ByteArray) ++ t150) ++ t151) ++ t152) ++ t153) ++ t154).size : Int)))).bind fun t155 => (if ((((((⟨#[72, 67]⟩ : ByteArray) ++ t150) ++ t151) ++ t152) ++ t153) ++ t154).size + t155.size ≤ 9223372036854775807 then (some (((((((⟨#[72, 67]⟩ : ByteArray) ++ t150) ++ t151) ++ t152) ++ t153) ++ t154) ++ t155, true)) else (none))) else (none))) else (none))) else (none)) = some (r1, r2) := H
            have A29 := Aside0.mk A290
            clear A290
            by_cases c30 : (((⟨#[72, 67]⟩ : ByteArray) ++ t150) ++ t151).size + t152.size ≤ 9223372036854775807
            · rw [if_pos c30] at H
              have c30b0 := eq_true c30
              have c30b1 : decide ((((⟨#[72, 67]⟩ : ByteArray) ++ t150) ++ t151).size + t152.size ≤ 9223372036854775807) = true := decide_eq_true c30
              try have c30b2 : (9223372036854775807 < (((⟨#[72, 67]⟩ : ByteArray) ++ t150) ++ t151).size + t152.size) = False := eq_false (Nat.not_lt.2 c30)
              try simp only [ByteArray.size_append, show (⟨#[72, 67]⟩ : ByteArray).size = 2 from rfl] at c30b2
              replace H := Option.bind_eq_some_iff.mp H
              obtain ⟨t153, A310, H⟩ := H
              replace H : (if ((((⟨#[72, 67]⟩ : ByteArray) ++ t150) ++ t151) ++ t152).size + t153.size ≤ 9223372036854775807 then ((honeycombref1_num.f kj1 a0_4).bind fun t154 => (if (((((⟨#[72, 67]⟩ : ByteArray) ++ t150) ++ t151) ++ t152) ++ t153).size + t154.size ≤ 9223372036854775807 then ((honeycombref1_Zeros.f (wrap64 (64 - (((((((⟨#[72, 67]⟩ : ByteArray) ++ t150) ++ t151) ++ t152) ++ t153) ++ t154).size : Int)))).bind fun t155 => (if ((((((⟨#[72, 67]⟩ : ByteArray) ++ t150) ++ t151) ++ t152) ++ t153) ++ t154).size + t155.size ≤ 9223372036854775807 then (some (((((((⟨#[72, 67]⟩ : ByteArray) ++ t150) ++ t151) ++ t152) ++ t153) ++ t154) ++ t155, true)) else (none))) else (none))) else (none)) = some (r1, r2) := H
              have A31 := Aside0.mk A310
              clear A310
              by_cases c32 : ((((⟨#[72, 67]⟩ : ByteArray) ++ t150) ++ t151) ++ t152).size + t153.size ≤ 9223372036854775807
              · rw [if_pos c32] at H
                have c32b0 := eq_true c32
                have c32b1 : decide (((((⟨#[72, 67]⟩ : ByteArray) ++ t150) ++ t151) ++ t152).size + t153.size ≤ 9223372036854775807) = true := decide_eq_true c32
                try have c32b2 : (9223372036854775807 < ((((⟨#[72, 67]⟩ : ByteArray) ++ t150) ++ t151) ++ t152).size + t153.size) = False := eq_false (Nat.not_lt.2 c32)
                try simp only [ByteArray.size_append, show (⟨#[72, 67]⟩ : ByteArray).size = 2 from rfl] at c32b2
                replace H := Option.bind_eq_some_iff.mp H
                obtain ⟨t154, A330, H⟩ := H
                replace H : (if (((((⟨#[72, 67]⟩ : ByteArray) ++ t150) ++ t151) ++ t152) ++ t153).size + t154.size ≤ 9223372036854775807 then ((honeycombref1_Zeros.f (wrap64 (64 - (((((((⟨#[72, 67]⟩ : ByteArray) ++ t150) ++ t151) ++ t152) ++ t153) ++ t154).size : Int)))).bind fun t155 => (if ((((((⟨#[72, 67]⟩ : ByteArray) ++ t150) ++ t151) ++ t152) ++ t153) ++ t154).size + t155.size ≤ 9223372036854775807 then (some (((((((⟨#[72, 67]⟩ : ByteArray) ++ t150) ++ t151) ++ t152) ++ t153) ++ t154) ++ t155, true)) else (none))) else (none)) = some (r1, r2) := H
                have A33 := Aside0.mk A330
                clear A330
                by_cases c34 : (((((⟨#[72, 67]⟩ : ByteArray) ++ t150) ++ t151) ++ t152) ++ t153).size + t154.size ≤ 9223372036854775807
                · rw [if_pos c34] at H
                  have c34b0 := eq_true c34
                  have c34b1 : decide ((((((⟨#[72, 67]⟩ : ByteArray) ++ t150) ++ t151) ++ t152) ++ t153).size + t154.size ≤ 9223372036854775807) = true := decide_eq_true c34
                  try have c34b2 : (9223372036854775807 < (((((⟨#[72, 67]⟩ : ByteArray) ++ t150) ++ t151) ++ t152) ++ t153).size + t154.size) = False := eq_false (Nat.not_lt.2 c34)
                  try simp only [ByteArray.size_append, show (⟨#[72, 67]⟩ : ByteArray).size = 2 from rfl] at c34b2
                  replace H := Option.bind_eq_some_iff.mp H
                  obtain ⟨t155, A350, H⟩ := H
                  replace H : (if ((((((⟨#[72, 67]⟩ : ByteArray) ++ t150) ++ t151) ++ t152) ++ t153) ++ t154).size + t155.size ≤ 9223372036854775807 then (some (((((((⟨#[72, 67]⟩ : ByteArray) ++ t150) ++ t151) ++ t152) ++ t153) ++ t154) ++ t155, true)) else (none)) = some (r1, r2) := H
                  have A35 := Aside0.mk A350
                  clear A350
                  by_cases c36 : ((((((⟨#[72, 67]⟩ : ByteArray) ++ t150) ++ t151) ++ t152) ++ t153) ++ t154).size + t155.size ≤ 9223372036854775807
                  · rw [if_pos c36] at H
                    have c36b0 := eq_true c36
                    have c36b1 : decide (((((((⟨#[72, 67]⟩ : ByteArray) ++ t150) ++ t151) ++ t152) ++ t153) ++ t154).size + t155.size ≤ 9223372036854775807) = true := decide_eq_true c36
                    try have c36b2 : (9223372036854775807 < ((((((⟨#[72, 67]⟩ : ByteArray) ++ t150) ++ t151) ++ t152) ++ t153) ++ t154).size + t155.size) = False := eq_false (Nat.not_lt.2 c36)
                    try simp only [ByteArray.size_append, show (⟨#[72, 67]⟩ : ByteArray).size = 2 from rfl] at c36b2
                    simp only [Option.some.injEq, Prod.mk.injEq] at H
                    obtain ⟨rfl, rfl⟩ := H
                    try go_wp2
                    have n0_ := Aside0.mk (blk_drew BK146.out)
                    have n1_ := Aside0.mk (below_drew1 HB.out)
                    clear BK146
                    clear HB
                    have BK146 := n0_
                    have HB := n1_
                    clear n0_ n1_
                    refine start_ (n := 21) (S := fun w' => w'.cell? ⟨gb146, 0, none⟩ = some (.int .i64 a0_0) ∧ w'.cell? ⟨gb146, 1, none⟩ = some (.int .i64 a0_1) ∧ w'.cell? ⟨gb146, 2, none⟩ = some (.int .i64 a0_2) ∧ w'.cell? ⟨gb146, 3, none⟩ = some (.int .i64 a0_3) ∧ w'.cell? ⟨gb146, 4, none⟩ = some (.int .i64 a0_4)) (ds := []) #[false, false, false, false, false, false, false, false, false, false, false, false, false, false, false, false, false, false, false, false, false] (by kernel_rfl) rfl rfl ⟨(blk_cell BK146.out 0).trans rfl, (blk_cell BK146.out 1).trans rfl, (blk_cell BK146.out 2).trans rfl, (blk_cell BK146.out 3).trans rfl, (blk_cell BK146.out 4).trans rfl⟩ (fun hHeld => ?_); refine with_tabW honeycombref1_MasterPut.tab3 honeycombref1_MasterPut.bits3 (fun HT_ HW_ => ?_)
                    generalize wc.drew = w37 at BK146 HB hHeld ⊢
                    refine pure_ (i := 0) (N := some 51) (v := ?_) (a' := ?_) #[true, false, false, false, false, false, false, false, false, false, false, false, false, false, false, false, false, false, false, false, false] rfl rfl (any_of HT_.out (by kernel_rfl)) (fun _ _ _ h => h) (Or.inl ⟨by rfl, ?_⟩) ?_ ?_
                    rotate_left
                    · intro w'
                      go_simp
                      with_reducible rfl
                    rotate_left
                    · simp only [Act.put, List.setIfInBounds_toArray, List.set_cons_zero, List.set_cons_succ, i64_w, i32_w]
                      rfl
                    refine pure_ (i := 4) (N := some 55) (v := ?_) (a' := ?_) #[true, false, false, false, true, false, false, false, false, false, false, false, false, false, false, false, false, false, false, false, false] rfl rfl (any_of HT_.out (by kernel_rfl)) (fun _ _ _ h => h) (Or.inl ⟨by rfl, ?_⟩) ?_ ?_
                    rotate_left
                    · intro w'
                      go_simp
                      with_reducible rfl
                    rotate_left
                    · simp only [Act.put, List.setIfInBounds_toArray, List.set_cons_zero, List.set_cons_succ, i64_w, i32_w]
                      rfl
                    refine pure_ (i := 8) (N := some 59) (v := ?_) (a' := ?_) #[true, false, false, false, true, false, false, false, true, false, false, false, false, false, false, false, false, false, false, false, false] rfl rfl (any_of HT_.out (by kernel_rfl)) (fun _ _ _ h => h) (Or.inl ⟨by rfl, ?_⟩) ?_ ?_
                    rotate_left
                    · intro w'
                      go_simp
                      with_reducible rfl
                    rotate_left
                    · simp only [Act.put, List.setIfInBounds_toArray, List.set_cons_zero, List.set_cons_succ, i64_w, i32_w]
                      rfl
                    refine pure_ (i := 12) (N := some 63) (v := ?_) (a' := ?_) #[true, false, false, false, true, false, false, false, true, false, false, false, true, false, false, false, false, false, false, false, false] rfl rfl (any_of HT_.out (by kernel_rfl)) (fun _ _ _ h => h) (Or.inl ⟨by rfl, ?_⟩) ?_ ?_
                    rotate_left
                    · intro w'
                      go_simp
                      with_reducible rfl
                    rotate_left
                    · simp only [Act.put, List.setIfInBounds_toArray, List.set_cons_zero, List.set_cons_succ, i64_w, i32_w]
                      rfl
                    refine pure_ (i := 16) (N := some 67) (v := ?_) (a' := ?_) #[true, false, false, false, true, false, false, false, true, false, false, false, true, false, false, false, true, false, false, false, false] rfl rfl (any_of HT_.out (by kernel_rfl)) (fun _ _ _ h => h) (Or.inl ⟨by rfl, ?_⟩) ?_ ?_
                    rotate_left
                    · intro w'
                      go_simp
                      with_reducible rfl
                    rotate_left
                    · simp only [Act.put, List.setIfInBounds_toArray, List.set_cons_zero, List.set_cons_succ, i64_w, i32_w]
                      rfl
                    refine take_ (i := 1) (N := some 52) (v := ?_) (a' := ?_) #[true, true, false, false, true, false, false, false, true, false, false, false, true, false, false, false, true, false, false, false, false] rfl rfl (take_ofW HT_.out HW_.out (by kernel_rfl)) (fun _ _ _ h => h) (Or.inl ⟨by rfl, ?_⟩) hHeld ?_ ?_
                    rotate_left
                    · rintro w' ⟨s0, s1, s2, s3, s4⟩
                      go_simp
                      with_reducible rfl
                    rotate_left
                    · simp only [Act.put, List.setIfInBounds_toArray, List.set_cons_zero, List.set_cons_succ, i64_w, i32_w]
                      rfl
                    refine take_ (i := 5) (N := some 56) (v := ?_) (a' := ?_) #[true, true, false, false, true, true, false, false, true, false, false, false, true, false, false, false, true, false, false, false, false] rfl rfl (take_ofW HT_.out HW_.out (by kernel_rfl)) (fun _ _ _ h => h) (Or.inl ⟨by rfl, ?_⟩) hHeld ?_ ?_
                    rotate_left
                    · rintro w' ⟨s0, s1, s2, s3, s4⟩
                      go_simp
                      with_reducible rfl
                    rotate_left
                    · simp only [Act.put, List.setIfInBounds_toArray, List.set_cons_zero, List.set_cons_succ, i64_w, i32_w]
                      rfl
                    refine take_ (i := 9) (N := some 60) (v := ?_) (a' := ?_) #[true, true, false, false, true, true, false, false, true, true, false, false, true, false, false, false, true, false, false, false, false] rfl rfl (take_ofW HT_.out HW_.out (by kernel_rfl)) (fun _ _ _ h => h) (Or.inl ⟨by rfl, ?_⟩) hHeld ?_ ?_
                    rotate_left
                    · rintro w' ⟨s0, s1, s2, s3, s4⟩
                      go_simp
                      with_reducible rfl
                    rotate_left
                    · simp only [Act.put, List.setIfInBounds_toArray, List.set_cons_zero, List.set_cons_succ, i64_w, i32_w]
                      rfl
                    refine take_ (i := 13) (N := some 64) (v := ?_) (a' := ?_) #[true, true, false, false, true, true, false, false, true, true, false, false, true, true, false, false, true, false, false, false, false] rfl rfl (take_ofW HT_.out HW_.out (by kernel_rfl)) (fun _ _ _ h => h) (Or.inl ⟨by rfl, ?_⟩) hHeld ?_ ?_
                    rotate_left
                    · rintro w' ⟨s0, s1, s2, s3, s4⟩
                      go_simp
                      with_reducible rfl
                    rotate_left
                    · simp only [Act.put, List.setIfInBounds_toArray, List.set_cons_zero, List.set_cons_succ, i64_w, i32_w]
                      rfl
                    refine take_ (i := 17) (N := some 68) (v := ?_) (a' := ?_) #[true, true, false, false, true, true, false, false, true, true, false, false, true, true, false, false, true, true, false, false, false] rfl rfl (take_ofW HT_.out HW_.out (by kernel_rfl)) (fun _ _ _ h => h) (Or.inl ⟨by rfl, ?_⟩) hHeld ?_ ?_
                    rotate_left
                    · rintro w' ⟨s0, s1, s2, s3, s4⟩
                      go_simp
                      with_reducible rfl
                    rotate_left
                    · simp only [Act.put, List.setIfInBounds_toArray, List.set_cons_zero, List.set_cons_succ, i64_w, i32_w]
                      rfl
                    refine one_ (i := 2) (N := some 53) #[true, true, true, false, true, true, false, false, true, true, false, false, true, true, false, false, true, true, false, false, false] rfl rfl (one_of HT_.out (by kernel_rfl)) (by decide) (fun K hK => ?_)
                    refine goes_ Tryz.func32 (by kernel_rfl) rfl #[.int .i64 a0_0] (by rfl) rfl rfl (by (try simp only [List.map_toArray, List.map_cons, List.map_nil]); first | done | rfl | (simp only [List.length_drop, List.length_take]; rfl)) ?_
                    with_reducible refine (honeycombref1_long.calls kj1 a0_0 t150 _ A25.out).mono ?_
                    rintro e w38 ⟨rfl, hb⟩
                    refine ⟨_, rfl, ?_⟩
                    have n0_ := Aside0.mk (blk_below (g := gb146) (o := .cells #[.int .i64 a0_0, .int .i64 a0_1, .int .i64 a0_2, .int .i64 a0_3, .int .i64 a0_4] 28 (0, 0)) (by (with_reducible repeat (first | refine blk_drewN ?_ _ | refine blk_drew ?_ | refine blk_alloc ?_ _)); exact BK146.out) hb)
                    have n1_ := Aside0.mk (below_step (by repeat (first | (with_reducible first | exact HB.out | apply below_alloc | apply pw_below_drewN | apply below_drew1 | refine below_set ?_ GE146.out) | exact HB.out)) hb)
                    clear BK146
                    clear HB
                    have BK146 := n0_
                    have HB := n1_
                    clear n0_ n1_
                    (try clear hb)
                    (try clear hb2)
                    (try clear hk)
                    (try clear hi)
                    refine hK.out _ _ ⟨(blk_cell BK146.out 0).trans rfl, (blk_cell BK146.out 1).trans rfl, (blk_cell BK146.out 2).trans rfl, (blk_cell BK146.out 3).trans rfl, (blk_cell BK146.out 4).trans rfl⟩ (fun hHeld => ?_)
                    clear hK K
                    refine norm_ (a' := ?_) ?_ ?_
                    rotate_left
                    · show Act.put _ (some 53) _ = _
                      simp only [Act.put, List.setIfInBounds_toArray, List.set_cons_zero, List.set_cons_succ, i64_w, i32_w]
                      rfl
                    refine pure_ (i := 3) (N := some 54) (v := ?_) (a' := ?_) #[true, true, true, true, true, true, false, false, true, true, false, false, true, true, false, false, true, true, false, false, false] rfl rfl (any_of HT_.out (by kernel_rfl)) (fun _ _ _ h => h) (Or.inl ⟨by rfl, ?_⟩) ?_ ?_
                    rotate_left
                    · intro w'
                      go_simp
                      with_reducible rfl
                    rotate_left
                    · simp only [Act.put, List.setIfInBounds_toArray, List.set_cons_zero, List.set_cons_succ, i64_w, i32_w]
                      rfl
                    refine one_ (i := 6) (N := some 57) #[true, true, true, true, true, true, true, false, true, true, false, false, true, true, false, false, true, true, false, false, false] rfl rfl (one_of HT_.out (by kernel_rfl)) (by decide) (fun K hK => ?_)
                    refine goes_ Tryz.func32 (by kernel_rfl) rfl #[.int .i64 a0_1] (by rfl) rfl rfl (by (try simp only [List.map_toArray, List.map_cons, List.map_nil]); first | done | rfl | (simp only [List.length_drop, List.length_take]; rfl)) ?_
                    with_reducible refine (honeycombref1_long.calls kj1 a0_1 t151 _ A27.out).mono ?_
                    rintro e w39 ⟨rfl, hb⟩
                    refine ⟨_, rfl, ?_⟩
                    have n0_ := Aside0.mk (blk_below (g := gb146) (o := .cells #[.int .i64 a0_0, .int .i64 a0_1, .int .i64 a0_2, .int .i64 a0_3, .int .i64 a0_4] 28 (0, 0)) (by (with_reducible repeat (first | refine blk_drewN ?_ _ | refine blk_drew ?_ | refine blk_alloc ?_ _)); exact BK146.out) hb)
                    have n1_ := Aside0.mk (below_step (by repeat (first | (with_reducible first | exact HB.out | apply below_alloc | apply pw_below_drewN | apply below_drew1 | refine below_set ?_ GE146.out) | exact HB.out)) hb)
                    clear BK146
                    clear HB
                    have BK146 := n0_
                    have HB := n1_
                    clear n0_ n1_
                    (try clear hb)
                    (try clear hb2)
                    (try clear hk)
                    (try clear hi)
                    refine hK.out _ _ ⟨(blk_cell BK146.out 0).trans rfl, (blk_cell BK146.out 1).trans rfl, (blk_cell BK146.out 2).trans rfl, (blk_cell BK146.out 3).trans rfl, (blk_cell BK146.out 4).trans rfl⟩ (fun hHeld => ?_)
                    clear hK K
                    refine norm_ (a' := ?_) ?_ ?_
                    rotate_left
                    · show Act.put _ (some 57) _ = _
                      simp only [Act.put, List.setIfInBounds_toArray, List.set_cons_zero, List.set_cons_succ, i64_w, i32_w]
                      rfl
                    refine pure_ (i := 7) (N := some 58) (v := ?_) (a' := ?_) #[true, true, true, true, true, true, true, true, true, true, false, false, true, true, false, false, true, true, false, false, false] rfl rfl (any_of HT_.out (by kernel_rfl)) (fun _ _ _ h => h) (Or.inl ⟨by rfl, ?_⟩) ?_ ?_
                    rotate_left
                    · intro w'
                      go_simp
                      with_reducible rfl
                    rotate_left
                    · simp only [Act.put, List.setIfInBounds_toArray, List.set_cons_zero, List.set_cons_succ, i64_w, i32_w]
                      rfl
                    refine one_ (i := 10) (N := some 61) #[true, true, true, true, true, true, true, true, true, true, true, false, true, true, false, false, true, true, false, false, false] rfl rfl (one_of HT_.out (by kernel_rfl)) (by decide) (fun K hK => ?_)
                    refine goes_ Tryz.func32 (by kernel_rfl) rfl #[.int .i64 a0_2] (by rfl) rfl rfl (by (try simp only [List.map_toArray, List.map_cons, List.map_nil]); first | done | rfl | (simp only [List.length_drop, List.length_take]; rfl)) ?_
                    with_reducible refine (honeycombref1_long.calls kj1 a0_2 t152 _ A29.out).mono ?_
                    rintro e w40 ⟨rfl, hb⟩
                    refine ⟨_, rfl, ?_⟩
                    have n0_ := Aside0.mk (blk_below (g := gb146) (o := .cells #[.int .i64 a0_0, .int .i64 a0_1, .int .i64 a0_2, .int .i64 a0_3, .int .i64 a0_4] 28 (0, 0)) (by (with_reducible repeat (first | refine blk_drewN ?_ _ | refine blk_drew ?_ | refine blk_alloc ?_ _)); exact BK146.out) hb)
                    have n1_ := Aside0.mk (below_step (by repeat (first | (with_reducible first | exact HB.out | apply below_alloc | apply pw_below_drewN | apply below_drew1 | refine below_set ?_ GE146.out) | exact HB.out)) hb)
                    clear BK146
                    clear HB
                    have BK146 := n0_
                    have HB := n1_
                    clear n0_ n1_
                    (try clear hb)
                    (try clear hb2)
                    (try clear hk)
                    (try clear hi)
                    refine hK.out _ _ ⟨(blk_cell BK146.out 0).trans rfl, (blk_cell BK146.out 1).trans rfl, (blk_cell BK146.out 2).trans rfl, (blk_cell BK146.out 3).trans rfl, (blk_cell BK146.out 4).trans rfl⟩ (fun hHeld => ?_)
                    clear hK K
                    refine norm_ (a' := ?_) ?_ ?_
                    rotate_left
                    · show Act.put _ (some 61) _ = _
                      simp only [Act.put, List.setIfInBounds_toArray, List.set_cons_zero, List.set_cons_succ, i64_w, i32_w]
                      rfl
                    refine pure_ (i := 11) (N := some 62) (v := ?_) (a' := ?_) #[true, true, true, true, true, true, true, true, true, true, true, true, true, true, false, false, true, true, false, false, false] rfl rfl (any_of HT_.out (by kernel_rfl)) (fun _ _ _ h => h) (Or.inl ⟨by rfl, ?_⟩) ?_ ?_
                    rotate_left
                    · intro w'
                      go_simp
                      with_reducible rfl
                    rotate_left
                    · simp only [Act.put, List.setIfInBounds_toArray, List.set_cons_zero, List.set_cons_succ, i64_w, i32_w]
                      rfl
                    refine one_ (i := 14) (N := some 65) #[true, true, true, true, true, true, true, true, true, true, true, true, true, true, true, false, true, true, false, false, false] rfl rfl (one_of HT_.out (by kernel_rfl)) (by decide) (fun K hK => ?_)
                    refine goes_ Tryz.func33 (by kernel_rfl) rfl #[.int .i64 a0_3] (by rfl) rfl rfl (by (try simp only [List.map_toArray, List.map_cons, List.map_nil]); first | done | rfl | (simp only [List.length_drop, List.length_take]; rfl)) ?_
                    with_reducible refine (honeycombref1_num.calls kj1 a0_3 t153 _ A31.out).mono ?_
                    rintro e w41 ⟨rfl, hb⟩
                    refine ⟨_, rfl, ?_⟩
                    have n0_ := Aside0.mk (blk_below (g := gb146) (o := .cells #[.int .i64 a0_0, .int .i64 a0_1, .int .i64 a0_2, .int .i64 a0_3, .int .i64 a0_4] 28 (0, 0)) (by (with_reducible repeat (first | refine blk_drewN ?_ _ | refine blk_drew ?_ | refine blk_alloc ?_ _)); exact BK146.out) hb)
                    have n1_ := Aside0.mk (below_step (by repeat (first | (with_reducible first | exact HB.out | apply below_alloc | apply pw_below_drewN | apply below_drew1 | refine below_set ?_ GE146.out) | exact HB.out)) hb)
                    clear BK146
                    clear HB
                    have BK146 := n0_
                    have HB := n1_
                    clear n0_ n1_
                    (try clear hb)
                    (try clear hb2)
                    (try clear hk)
                    (try clear hi)
                    refine hK.out _ _ ⟨(blk_cell BK146.out 0).trans rfl, (blk_cell BK146.out 1).trans rfl, (blk_cell BK146.out 2).trans rfl, (blk_cell BK146.out 3).trans rfl, (blk_cell BK146.out 4).trans rfl⟩ (fun hHeld => ?_)
                    clear hK K
                    refine norm_ (a' := ?_) ?_ ?_
                    rotate_left
                    · show Act.put _ (some 65) _ = _
                      simp only [Act.put, List.setIfInBounds_toArray, List.set_cons_zero, List.set_cons_succ, i64_w, i32_w]
                      rfl
                    refine pure_ (i := 15) (N := some 66) (v := ?_) (a' := ?_) #[true, true, true, true, true, true, true, true, true, true, true, true, true, true, true, true, true, true, false, false, false] rfl rfl (any_of HT_.out (by kernel_rfl)) (fun _ _ _ h => h) (Or.inl ⟨by rfl, ?_⟩) ?_ ?_
                    rotate_left
                    · intro w'
                      go_simp
                      with_reducible rfl
                    rotate_left
                    · simp only [Act.put, List.setIfInBounds_toArray, List.set_cons_zero, List.set_cons_succ, i64_w, i32_w]
                      rfl
                    refine one_ (i := 18) (N := some 69) #[true, true, true, true, true, true, true, true, true, true, true, true, true, true, true, true, true, true, true, false, false] rfl rfl (one_of HT_.out (by kernel_rfl)) (by decide) (fun K hK => ?_)
                    refine goes_ Tryz.func33 (by kernel_rfl) rfl #[.int .i64 a0_4] (by rfl) rfl rfl (by (try simp only [List.map_toArray, List.map_cons, List.map_nil]); first | done | rfl | (simp only [List.length_drop, List.length_take]; rfl)) ?_
                    with_reducible refine (honeycombref1_num.calls kj1 a0_4 t154 _ A33.out).mono ?_
                    rintro e w42 ⟨rfl, hb⟩
                    refine ⟨_, rfl, ?_⟩
                    have n0_ := Aside0.mk (blk_below (g := gb146) (o := .cells #[.int .i64 a0_0, .int .i64 a0_1, .int .i64 a0_2, .int .i64 a0_3, .int .i64 a0_4] 28 (0, 0)) (by (with_reducible repeat (first | refine blk_drewN ?_ _ | refine blk_drew ?_ | refine blk_alloc ?_ _)); exact BK146.out) hb)
                    have n1_ := Aside0.mk (below_step (by repeat (first | (with_reducible first | exact HB.out | apply below_alloc | apply pw_below_drewN | apply below_drew1 | refine below_set ?_ GE146.out) | exact HB.out)) hb)
                    clear BK146
                    clear HB
                    have BK146 := n0_
                    have HB := n1_
                    clear n0_ n1_
                    (try clear hb)
                    (try clear hb2)
                    (try clear hk)
                    (try clear hi)
                    refine hK.out _ _ ⟨(blk_cell BK146.out 0).trans rfl, (blk_cell BK146.out 1).trans rfl, (blk_cell BK146.out 2).trans rfl, (blk_cell BK146.out 3).trans rfl, (blk_cell BK146.out 4).trans rfl⟩ (fun hHeld => ?_)
                    clear hK K
                    refine norm_ (a' := ?_) ?_ ?_
                    rotate_left
                    · show Act.put _ (some 69) _ = _
                      simp only [Act.put, List.setIfInBounds_toArray, List.set_cons_zero, List.set_cons_succ, i64_w, i32_w]
                      rfl
                    refine pure_ (i := 19) (N := some 70) (v := ?_) (a' := ?_) #[true, true, true, true, true, true, true, true, true, true, true, true, true, true, true, true, true, true, true, true, false] rfl rfl (any_of HT_.out (by kernel_rfl)) (fun _ _ _ h => h) (Or.inl ⟨by rfl, ?_⟩) ?_ ?_
                    rotate_left
                    · intro w'
                      go_simp
                      with_reducible rfl
                    rotate_left
                    · simp only [Act.put, List.setIfInBounds_toArray, List.set_cons_zero, List.set_cons_succ, i64_w, i32_w]
                      rfl
                    refine pure_ (i := 20) (N := some 4) (v := ?_) (a' := ?_) #[true, true, true, true, true, true, true, true, true, true, true, true, true, true, true, true, true, true, true, true, true] rfl rfl (any_of HT_.out (by kernel_rfl)) (fun _ _ _ h => h) (Or.inl ⟨by rfl, ?_⟩) ?_ ?_
                    rotate_left
                    · intro w'
                      go_simp
                      with_reducible rfl
                    rotate_left
                    · simp only [Act.put, List.setIfInBounds_toArray, List.set_cons_zero, List.set_cons_succ, i64_w, i32_w]
                      rfl
                    refine done_ (done_of HT_.out (by kernel_rfl)) ?_
                    generalize hbig_ : ((((((⟨#[72, 67]⟩ : ByteArray) ++ t150) ++ t151) ++ t152) ++ t153) ++ t154) = big at *
                    try go_wp2_with (first | ((with_reducible refine gate_callee (f := 28) rfl ?_); refine goesL_ (some 75) rfl rfl Tryz.func28 (by kernel_rfl) rfl #[.int .i64 (wrap64 (64 - (big.size : Int)))] rfl (by (try simp only [List.map_toArray, List.map_cons, List.map_nil]); first | done | (rw [show wrap64 (64 - (big.size : Int)) = (64 - (big.size : Int)) from by unfold wrap64; omega]; rfl) | rfl | (simp only [List.length_drop, List.length_take]; rfl)) ?_; (with_reducible refine (honeycombref1_Zeros.calls (wrap64 (64 - (big.size : Int))) t155 _ A35.out).mono ?_); rintro e w43 ⟨rfl, hb⟩; refine ⟨_, rfl, ?_⟩; have n0_ := Aside0.mk (blk_below (g := gb146) (o := .cells #[.int .i64 a0_0, .int .i64 a0_1, .int .i64 a0_2, .int .i64 a0_3, .int .i64 a0_4] 28 (0, 0)) (by (with_reducible repeat (first | refine blk_drewN ?_ _ | refine blk_drew ?_ | refine blk_alloc ?_ _)); exact BK146.out) hb); have n1_ := Aside0.mk (below_step (by repeat (first | (with_reducible first | exact HB.out | apply below_alloc | apply pw_below_drewN | apply below_drew1 | refine below_set ?_ GE146.out) | exact HB.out)) hb); clear BK146; clear HB; have BK146 := n0_; have HB := n1_; clear n0_ n1_; (try clear hb); (try clear hb2); (try clear hk); (try clear hi)))
                    go_ret2
                    exact ⟨by first | rfl | (simp [errW_none, errW_some] <;> rfl) | (simp [*, errW_none, errW_some] <;> rfl), by repeat (first | (with_reducible first | exact HB.out | apply below_alloc | apply pw_below_drewN | apply below_drew1 | refine below_set ?_ GE146.out) | exact HB.out)⟩
                  · rw [if_neg c36] at H
                    exact absurd H (by simp)
                · rw [if_neg c34] at H
                  exact absurd H (by simp)
              · rw [if_neg c32] at H
                exact absurd H (by simp)
            · rw [if_neg c30] at H
              exact absurd H (by simp)
          · rw [if_neg c28] at H
            exact absurd H (by simp)
        · rw [if_neg c26] at H
          exact absurd H (by simp)

/-! ### honeycombref1_Of: function 35 -/
def honeycombref1_Of.l0 : Nat → ByteArray → Int → Int → Option (Int)
  | 0, _, _, _ => none
  | k + 1, x0, x3, x4 => if x4 < (x0.size : Int) then (if 0 ≤ x4 then (honeycombref1_Of.l0 k x0 (wrap64 ((wrap64 (x3 * 256)) + (wrap64 (bt x0 x4)))) (wrap64 (x4 + 1))) else (none)) else (some x3)
def honeycombref1_Of.f (k : Nat) (a0 : ByteArray) : Option (Int) := honeycombref1_Of.l0 k a0 0 0
theorem honeycombref1_Of.mono_l : ∀ k, (∀ y0 y1 y2, LeO (honeycombref1_Of.l0 k y0 y1 y2) (honeycombref1_Of.l0 (k + 1) y0 y1 y2))
  | 0 => fun _ _ _ r h => by simp [honeycombref1_Of.l0] at h
  | k + 1 => by
    have ih0 := honeycombref1_Of.mono_l k
    · intro y0 y1 y2
      unfold honeycombref1_Of.l0
      repeat' first
      | (with_reducible exact ih0 _ _ _)
      | (with_reducible exact LeO.refl _)
      | (with_reducible exact LeO.none _)
      | (with_reducible refine LeO.ite ?_ ?_)
      | (with_reducible refine LeO.bind ?_ (fun _ => ?_))
      | exact ih0 _ _ _
      | exact LeO.none _
      | refine LeO.ite ?_ ?_
      | refine LeO.bind ?_ (fun _ => ?_)
theorem honeycombref1_Of.mono : ∀ a0 k, LeO (honeycombref1_Of.f k a0) (honeycombref1_Of.f (k + 1) a0) := by
  intro a0 k
  have ih0 := honeycombref1_Of.mono_l k
  unfold honeycombref1_Of.f
  repeat' first
      | (with_reducible exact ih0 _ _ _)
      | (with_reducible exact LeO.refl _)
      | (with_reducible exact LeO.none _)
      | (with_reducible refine LeO.ite ?_ ?_)
      | (with_reducible refine LeO.bind ?_ (fun _ => ?_))
      | exact ih0 _ _ _
      | exact LeO.none _
      | refine LeO.ite ?_ ?_
      | refine LeO.bind ?_ (fun _ => ?_)
set_option maxHeartbeats 8000000 in
set_option maxRecDepth 100000 in
theorem honeycombref1_Of.calls (k : Nat) (a0 : ByteArray) (r : Int) (w : World) (h : honeycombref1_Of.f k a0 = some r) :
    Calls Tryz.prog 35 #[.string a0] w fun e w' => e = .returned (.int .i64 r) ∧ Drawn0 w w' := by
  have H : (honeycombref1_Of.l0 k a0 0 0) = some r := h
  clear h
  have H' := Aside0.mk H
  clear H
  go_enter Tryz.func35, Tryz.ntmps35
  go_wp2
  go_loopg [3, 4] k (fun kq v3 v4 w' => ∃ (x3_1 : Int) (x4_1 : Int), v3 = .int .i64 x3_1 ∧ v4 = .int .i64 x4_1 ∧ Aside0 (honeycombref1_Of.l0 kq a0 x3_1 x4_1 = some r) ∧ Aside0 (kq ≤ k) ∧ Drawn0 w w')
  case atStart => exact ⟨(0), (0), (by first | rfl | (simp; done) | (simp [*]; done)), (by first | rfl | (simp; done) | (simp [*]; done)), H', ⟨Nat.le_refl _⟩, by repeat (first | exact Drawn0.refl _ | apply Drawn0.step)⟩
  case round =>
    clear H'
    obtain ⟨x3_1, x4_1, rfl, rfl, HA, HK1, ⟨m1, rfl⟩⟩ := hrel
    cases gk with
    | zero => exact absurd HA.out (by simp [honeycombref1_Of.l0])
    | succ k1 =>
      have H := HA.out
      clear HA
      simp only [honeycombref1_Of.l0] at H
      by_cases c2 : x4_1 < (a0.size : Int)
      · rw [if_pos c2] at H
        have c2b0 : decide (x4_1 < (a0.size : Int)) = true := decide_eq_true c2
        clear c2
        by_cases c3 : 0 ≤ x4_1
        · rw [if_pos c3] at H
          have c3b0 : decide (0 ≤ x4_1) = true := decide_eq_true c3
          clear c3
          have H' := Aside0.mk H
          clear H
          have p4 : 0 ≤ (x4_1 : Int) := of_decide_eq_true (by first | (with_reducible assumption) | assumption)
          have q4 : x4_1 < (a0.size : Int) := of_decide_eq_true (by first | (with_reducible assumption) | assumption)
          have hx4 := bt_at a0 x4_1
          replace p4 := eq_true p4
          replace q4 := eq_true q4
          go_wp2
          go_roundg k1
          case measure => have := HK1.out; omega
          case rel => exact ⟨(wrap64 ((wrap64 (x3_1 * 256)) + (wrap64 (bt a0 x4_1)))), (wrap64 (x4_1 + 1)), (by first | rfl | (simp; done) | (simp [*]; done)), (by first | rfl | (simp; done) | (simp [*]; done)), H', ⟨by have := HK1.out; omega⟩, by repeat (first | exact Drawn0.refl _ | apply Drawn0.step)⟩
        · rw [if_neg c3] at H
          exact absurd H (by simp)
      · rw [if_neg c2] at H
        have c2b0 : decide (x4_1 < (a0.size : Int)) = false := decide_eq_false c2
        clear c2
        obtain rfl := Option.some.inj H
        go_wp2
        go_ret
        exact ⟨by first | rfl | (simp; done) | (simp [*]; done), by repeat (first | exact Drawn0.refl _ | apply Drawn0.step)⟩

end Go.Proofs.YtiagbkpggeglgaaGreat.MR
