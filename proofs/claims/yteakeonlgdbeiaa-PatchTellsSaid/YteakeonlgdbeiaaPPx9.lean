-- Laid by wip/gen/myprint.py of this session, on the kit's print.
import Derived.Test.YteakeonlgdbeiaaPPx0
import Derived.Test.YteakeonlgdbeiaaPPx1
import Derived.Test.YteakeonlgdbeiaaPPx8
namespace Go.Proofs.Yteakeonlgdbeiaa.PP
open Go.RowKit Go.Proofs.YteakeonlgdbeiaaW.PrintWords Go.Proofs.YteakeonlgdbeiaaW.PrintLast Go.Proofs.YteakeonlgdbeiaaW.PrintMore
attribute [local go_sem] max2_int min2_int max_two min_two max_three min_three max_four min_four   -- for this text's walks alone
set_option linter.unusedVariables false
set_option linter.unusedSimpArgs false

attribute [local go_sem high] eqA26
/-! ### honeycombref1_Patches: function 21 -/
def honeycombref1_Patches.l0 : Nat → ByteArray → Int → List (S26) → Int → Option (ByteArray × Bool)
  | 0, _, _, _, _ => none
  | k + 1, x0, x1, x2, x8 => if x8 < (x2.length : Int) then (if 0 ≤ x8 then ((honeycombref1_PatchRight.f ((rd_T26 x2 x8).f0) ((rd_T26 x2 x8).f1) ((rd_T26 x2 x8).f2)).bind fun t222 => (if t222 = true then (if ((rd_T26 x2 x8).f0) = x1 then ((honeycombref1_Apply.f x0 ((rd_T26 x2 x8).f0) ((rd_T26 x2 x8).f1) ((rd_T26 x2 x8).f2)).bind fun bt225 => (honeycombref1_Patches.l0 k bt225.1 x1 x2 (wrap64 (x8 + 1)))) else (honeycombref1_Patches.l0 k x0 x1 x2 (wrap64 (x8 + 1)))) else (some ((⟨#[]⟩ : ByteArray), false)))) else (none)) else (some (x0, true))
def honeycombref1_Patches.f (k : Nat) (a0 : ByteArray) (a1 : Int) (l2 : List (S26)) : Option (ByteArray × Bool) := if (a0.size : Int) = 256 then (honeycombref1_Patches.l0 k a0 a1 l2 0) else (some ((⟨#[]⟩ : ByteArray), false))
theorem honeycombref1_Patches.mono_l : ∀ k, (∀ y0 y1 y2 y3, LeO (honeycombref1_Patches.l0 k y0 y1 y2 y3) (honeycombref1_Patches.l0 (k + 1) y0 y1 y2 y3))
  | 0 => fun _ _ _ _ r h => by simp [honeycombref1_Patches.l0] at h
  | k + 1 => by
    have ih0 := honeycombref1_Patches.mono_l k
    · intro y0 y1 y2 y3
      unfold honeycombref1_Patches.l0
      repeat' first
      | (with_reducible exact ih0 _ _ _ _)
      | (with_reducible exact LeO.refl _)
      | (with_reducible exact LeO.none _)
      | (with_reducible refine LeO.ite ?_ ?_)
      | (with_reducible refine LeO.bind ?_ (fun _ => ?_))
      | exact ih0 _ _ _ _
      | exact LeO.none _
      | refine LeO.ite ?_ ?_
      | refine LeO.bind ?_ (fun _ => ?_)
theorem honeycombref1_Patches.mono : ∀ a0 a1 a2 k, LeO (honeycombref1_Patches.f k a0 a1 a2) (honeycombref1_Patches.f (k + 1) a0 a1 a2) := by
  intro a0 a1 a2 k
  have ih0 := honeycombref1_Patches.mono_l k
  unfold honeycombref1_Patches.f
  repeat' first
      | (with_reducible exact ih0 _ _ _ _)
      | (with_reducible exact LeO.refl _)
      | (with_reducible exact LeO.none _)
      | (with_reducible refine LeO.ite ?_ ?_)
      | (with_reducible refine LeO.bind ?_ (fun _ => ?_))
      | exact ih0 _ _ _ _
      | exact LeO.none _
      | refine LeO.ite ?_ ?_
      | refine LeO.bind ?_ (fun _ => ?_)
set_option maxHeartbeats 8000000 in
set_option maxRecDepth 100000 in
theorem honeycombref1_Patches.calls (k : Nat) (a0 : ByteArray) (a1 : Int) (A2 : Option Addr) (c2 : Nat) (l2 : List (S26)) (r1 : ByteArray) (r2 : Bool) (w : World) (hr2 : Kd.C k26 w A2 l2.length l2) (hc2 : l2.length ≤ c2) (h : honeycombref1_Patches.f k a0 a1 l2 = some (r1, r2)) :
    Calls Try.prog 21 #[.string a0, .int .i64 a1, .slice A2 l2.length c2] w fun e w' => e = .returned (.tuple #[.string r1, .bool r2]) ∧ Below w.heap.size w w' := by
  have hu26 := Try.underlying26
  have HR2 := Aside0.mk hr2
  have HC2 := Aside0.mk hc2
  clear hr2 hc2
  have HB := Aside0.mk (Below.refl w.heap.size w)
  have H : (if (a0.size : Int) = 256 then (honeycombref1_Patches.l0 k a0 a1 l2 0) else (some ((⟨#[]⟩ : ByteArray), false))) = some (r1, r2) := h
  clear h
  by_cases c4 : (a0.size : Int) = 256
  · rw [if_pos c4] at H
    have c4b0 : ((a0.size : Int) == 256) = true := beq_iff_eq.mpr c4
    have c4b1 : ((a0.size : Int) != 256) = false := bne_eq_false_iff_eq.mpr c4
    clear c4
    have H' := Aside0.mk H
    clear H
    go_enter Try.func21, Try.ntmps21
    go_wp2
    go_loopg [0, 8] k (fun kq v0 v8 w' => ∃ (x0_1 : ByteArray) (x8_1 : Int), v0 = .string x0_1 ∧ v8 = .int .i64 x8_1 ∧ Aside0 (honeycombref1_Patches.l0 kq x0_1 a1 l2 x8_1 = some (r1, r2)) ∧ Aside0 (kq ≤ k) ∧ Aside0 (Below w.heap.size w w'))
    case atStart => exact ⟨(a0), (0), (by first | rfl | (simp; done) | (simp [*]; done)), (by first | rfl | (simp; done) | (simp [*]; done)), H', ⟨Nat.le_refl _⟩, ⟨by repeat (first | (with_reducible first | exact HB.out | apply below_alloc | apply pw_below_drewN | apply below_drew1) | exact HB.out)⟩⟩
    case round =>
      clear H'
      try clear c2
      try clear p2
      try clear c4
      try clear c4b0
      try clear c4b1
      obtain ⟨x0_1, x8_1, rfl, rfl, HA, HK1, HB⟩ := hrel
      cases gk with
      | zero => exact absurd HA.out (by simp [honeycombref1_Patches.l0])
      | succ k1 =>
        have H := HA.out
        clear HA
        simp only [honeycombref1_Patches.l0] at H
        by_cases c5 : x8_1 < (l2.length : Int)
        · rw [if_pos c5] at H
          have c5b0 : decide (x8_1 < (l2.length : Int)) = true := decide_eq_true c5
          clear c5
          by_cases c6 : 0 ≤ x8_1
          · rw [if_pos c6] at H
            have c6b0 : decide (0 ≤ x8_1) = true := decide_eq_true c6
            clear c6
            replace H := Option.bind_eq_some_iff.mp H
            obtain ⟨t222, A70, H⟩ := H
            replace H : (if t222 = true then (if ((rd_T26 l2 x8_1).f0) = a1 then ((honeycombref1_Apply.f x0_1 ((rd_T26 l2 x8_1).f0) ((rd_T26 l2 x8_1).f1) ((rd_T26 l2 x8_1).f2)).bind fun bt225 => (honeycombref1_Patches.l0 k1 bt225.1 a1 l2 (wrap64 (x8_1 + 1)))) else (honeycombref1_Patches.l0 k1 x0_1 a1 l2 (wrap64 (x8_1 + 1)))) else (some ((⟨#[]⟩ : ByteArray), false))) = some (r1, r2) := H
            have A7 := Aside0.mk A70
            clear A70
            by_cases c8 : t222 = true
            · subst c8
              have H1 : (if ((rd_T26 l2 x8_1).f0) = a1 then ((honeycombref1_Apply.f x0_1 ((rd_T26 l2 x8_1).f0) ((rd_T26 l2 x8_1).f1) ((rd_T26 l2 x8_1).f2)).bind fun bt225 => (honeycombref1_Patches.l0 k1 bt225.1 a1 l2 (wrap64 (x8_1 + 1)))) else (honeycombref1_Patches.l0 k1 x0_1 a1 l2 (wrap64 (x8_1 + 1)))) = some (r1, r2) := by rw [if_pos rfl] at H; exact H
              clear H
              have H := H1
              clear H1
              by_cases c9 : ((rd_T26 l2 x8_1).f0) = a1
              · rw [if_pos c9] at H
                have c9b0 : (((rd_T26 l2 x8_1).f0) == a1) = true := beq_iff_eq.mpr c9
                have c9b1 : (((rd_T26 l2 x8_1).f0) != a1) = false := bne_eq_false_iff_eq.mpr c9
                clear c9
                replace H := Option.bind_eq_some_iff.mp H
                obtain ⟨⟨t225, t226⟩, A100, H⟩ := H
                replace H : (honeycombref1_Patches.l0 k1 t225 a1 l2 (wrap64 (x8_1 + 1))) = some (r1, r2) := H
                have A10 := Aside0.mk A100
                clear A100
                have H' := Aside0.mk H
                clear H
                have p221 : 0 ≤ (x8_1 : Int) := of_decide_eq_true (by first | (with_reducible assumption) | assumption)
                have q221 : x8_1 < (l2.length : Int) := of_decide_eq_true (by first | (with_reducible assumption) | assumption)
                obtain ⟨ad221, e221, hx221_0, hx221_1, hx221_2⟩ := at_T26 HR2.out x8_1 p221 q221
                cases e221
                replace hx221_0 := (HB.out.cell (World.block_lt_of_cell? w _ hx221_0)).trans hx221_0
                replace hx221_1 := (HB.out.cell (World.block_lt_of_cell? w _ hx221_1)).trans hx221_1
                replace hx221_2 := (HB.out.cell (World.block_lt_of_cell? w _ hx221_2)).trans hx221_2
                replace p221 := eq_true p221
                replace q221 := eq_true q221
                go_wp2_with (first | ((with_reducible refine gate_callee (f := 19) rfl ?_); refine goesL_ (some 22) rfl rfl Try.func19 (by kernel_rfl) rfl #[.agg #[.int .i64 ((rd_T26 l2 x8_1).f0), .int .i64 ((rd_T26 l2 x8_1).f1), .string ((rd_T26 l2 x8_1).f2)]] rfl (by (try simp only [List.map_toArray, List.map_cons, List.map_nil]); first | done | rfl | (simp only [List.length_drop, List.length_take]; rfl)) ?_; (with_reducible refine (honeycombref1_PatchRight.calls ((rd_T26 l2 x8_1).f0) ((rd_T26 l2 x8_1).f1) ((rd_T26 l2 x8_1).f2) true _ A7.out).mono ?_); rintro e w11 ⟨rfl, hb⟩; refine ⟨_, rfl, ?_⟩; have n0_ := Aside0.mk (below_step (by repeat (first | (with_reducible first | exact HB.out | apply below_alloc | apply pw_below_drewN | apply below_drew1) | exact HB.out)) hb); clear HB; have HB := n0_; clear n0_; (try clear hb); (try clear hb2); (try clear hk); (try clear hi); have p223 : 0 ≤ (x8_1 : Int) := of_decide_eq_true (by first | (with_reducible assumption) | assumption); have q223 : x8_1 < (l2.length : Int) := of_decide_eq_true (by first | (with_reducible assumption) | assumption); obtain ⟨ad223, e223, hx223_0, hx223_1, hx223_2⟩ := at_T26 HR2.out x8_1 p223 q223; obtain rfl : ad221 = ad223 := (by injection e223); replace hx223_0 := (HB.out.cell (World.block_lt_of_cell? w _ hx223_0)).trans hx223_0; replace hx223_1 := (HB.out.cell (World.block_lt_of_cell? w _ hx223_1)).trans hx223_1; replace hx223_2 := (HB.out.cell (World.block_lt_of_cell? w _ hx223_2)).trans hx223_2; replace p223 := eq_true p223; replace q223 := eq_true q223; have p224 : 0 ≤ (x8_1 : Int) := of_decide_eq_true (by first | (with_reducible assumption) | assumption); have q224 : x8_1 < (l2.length : Int) := of_decide_eq_true (by first | (with_reducible assumption) | assumption); obtain ⟨ad224, e224, hx224_0, hx224_1, hx224_2⟩ := at_T26 HR2.out x8_1 p224 q224; obtain rfl : ad221 = ad224 := (by injection e224); replace hx224_0 := (HB.out.cell (World.block_lt_of_cell? w _ hx224_0)).trans hx224_0; replace hx224_1 := (HB.out.cell (World.block_lt_of_cell? w _ hx224_1)).trans hx224_1; replace hx224_2 := (HB.out.cell (World.block_lt_of_cell? w _ hx224_2)).trans hx224_2; replace p224 := eq_true p224; replace q224 := eq_true q224) | ((with_reducible refine gate_callee (f := 18) rfl ?_); refine goesL_ (some 37) rfl rfl Try.func18 (by kernel_rfl) rfl #[.string x0_1, .agg #[.int .i64 ((rd_T26 l2 x8_1).f0), .int .i64 ((rd_T26 l2 x8_1).f1), .string ((rd_T26 l2 x8_1).f2)]] rfl (by (try simp only [List.map_toArray, List.map_cons, List.map_nil]); first | done | rfl | (simp only [List.length_drop, List.length_take]; rfl)) ?_; (with_reducible refine (honeycombref1_Apply.calls x0_1 ((rd_T26 l2 x8_1).f0) ((rd_T26 l2 x8_1).f1) ((rd_T26 l2 x8_1).f2) t225 t226 _ A10.out).mono ?_); rintro e w12 ⟨rfl, hb⟩; refine ⟨_, rfl, ?_⟩; have n0_ := Aside0.mk (below_step (by repeat (first | (with_reducible first | exact HB.out | apply below_alloc | apply pw_below_drewN | apply below_drew1) | exact HB.out)) hb); clear HB; have HB := n0_; clear n0_; (try clear hb); (try clear hb2); (try clear hk); (try clear hi)))
                go_roundg k1
                case measure => have := HK1.out; omega
                case rel => exact ⟨(t225), (wrap64 (x8_1 + 1)), (by first | rfl | (simp; done) | (simp [*]; done)), (by first | rfl | (simp; done) | (simp [*]; done)), H', ⟨by have := HK1.out; omega⟩, ⟨by repeat (first | (with_reducible first | exact HB.out | apply below_alloc | apply pw_below_drewN | apply below_drew1) | exact HB.out)⟩⟩
              · rw [if_neg c9] at H
                have c9b0 : (((rd_T26 l2 x8_1).f0) == a1) = false := beq_eq_false_iff_ne.mpr c9
                have c9b1 : (((rd_T26 l2 x8_1).f0) != a1) = true := bne_iff_ne.mpr c9
                have H' := Aside0.mk H
                clear H
                have p221 : 0 ≤ (x8_1 : Int) := of_decide_eq_true (by first | (with_reducible assumption) | assumption)
                have q221 : x8_1 < (l2.length : Int) := of_decide_eq_true (by first | (with_reducible assumption) | assumption)
                obtain ⟨ad221, e221, hx221_0, hx221_1, hx221_2⟩ := at_T26 HR2.out x8_1 p221 q221
                cases e221
                replace hx221_0 := (HB.out.cell (World.block_lt_of_cell? w _ hx221_0)).trans hx221_0
                replace hx221_1 := (HB.out.cell (World.block_lt_of_cell? w _ hx221_1)).trans hx221_1
                replace hx221_2 := (HB.out.cell (World.block_lt_of_cell? w _ hx221_2)).trans hx221_2
                replace p221 := eq_true p221
                replace q221 := eq_true q221
                go_wp2_with (first | ((with_reducible refine gate_callee (f := 19) rfl ?_); refine goesL_ (some 22) rfl rfl Try.func19 (by kernel_rfl) rfl #[.agg #[.int .i64 ((rd_T26 l2 x8_1).f0), .int .i64 ((rd_T26 l2 x8_1).f1), .string ((rd_T26 l2 x8_1).f2)]] rfl (by (try simp only [List.map_toArray, List.map_cons, List.map_nil]); first | done | rfl | (simp only [List.length_drop, List.length_take]; rfl)) ?_; (with_reducible refine (honeycombref1_PatchRight.calls ((rd_T26 l2 x8_1).f0) ((rd_T26 l2 x8_1).f1) ((rd_T26 l2 x8_1).f2) true _ A7.out).mono ?_); rintro e w13 ⟨rfl, hb⟩; refine ⟨_, rfl, ?_⟩; have n0_ := Aside0.mk (below_step (by repeat (first | (with_reducible first | exact HB.out | apply below_alloc | apply pw_below_drewN | apply below_drew1) | exact HB.out)) hb); clear HB; have HB := n0_; clear n0_; (try clear hb); (try clear hb2); (try clear hk); (try clear hi); have p223 : 0 ≤ (x8_1 : Int) := of_decide_eq_true (by first | (with_reducible assumption) | assumption); have q223 : x8_1 < (l2.length : Int) := of_decide_eq_true (by first | (with_reducible assumption) | assumption); obtain ⟨ad223, e223, hx223_0, hx223_1, hx223_2⟩ := at_T26 HR2.out x8_1 p223 q223; obtain rfl : ad221 = ad223 := (by injection e223); replace hx223_0 := (HB.out.cell (World.block_lt_of_cell? w _ hx223_0)).trans hx223_0; replace hx223_1 := (HB.out.cell (World.block_lt_of_cell? w _ hx223_1)).trans hx223_1; replace hx223_2 := (HB.out.cell (World.block_lt_of_cell? w _ hx223_2)).trans hx223_2; replace p223 := eq_true p223; replace q223 := eq_true q223))
                go_roundg k1
                case measure => have := HK1.out; omega
                case rel => exact ⟨(x0_1), (wrap64 (x8_1 + 1)), (by first | rfl | (simp; done) | (simp [*]; done)), (by first | rfl | (simp; done) | (simp [*]; done)), H', ⟨by have := HK1.out; omega⟩, ⟨by repeat (first | (with_reducible first | exact HB.out | apply below_alloc | apply pw_below_drewN | apply below_drew1) | exact HB.out)⟩⟩
            · replace c8 := Bool.eq_false_iff.mpr c8
              subst c8
              have H1 : (some ((⟨#[]⟩ : ByteArray), false)) = some (r1, r2) := by rw [if_neg (show ¬ (false = true) by decide)] at H; exact H
              clear H
              have H := H1
              clear H1
              simp only [Option.some.injEq, Prod.mk.injEq] at H
              obtain ⟨rfl, rfl⟩ := H
              have p221 : 0 ≤ (x8_1 : Int) := of_decide_eq_true (by first | (with_reducible assumption) | assumption)
              have q221 : x8_1 < (l2.length : Int) := of_decide_eq_true (by first | (with_reducible assumption) | assumption)
              obtain ⟨ad221, e221, hx221_0, hx221_1, hx221_2⟩ := at_T26 HR2.out x8_1 p221 q221
              cases e221
              replace hx221_0 := (HB.out.cell (World.block_lt_of_cell? w _ hx221_0)).trans hx221_0
              replace hx221_1 := (HB.out.cell (World.block_lt_of_cell? w _ hx221_1)).trans hx221_1
              replace hx221_2 := (HB.out.cell (World.block_lt_of_cell? w _ hx221_2)).trans hx221_2
              replace p221 := eq_true p221
              replace q221 := eq_true q221
              go_wp2_with (first | ((with_reducible refine gate_callee (f := 19) rfl ?_); refine goesL_ (some 22) rfl rfl Try.func19 (by kernel_rfl) rfl #[.agg #[.int .i64 ((rd_T26 l2 x8_1).f0), .int .i64 ((rd_T26 l2 x8_1).f1), .string ((rd_T26 l2 x8_1).f2)]] rfl (by (try simp only [List.map_toArray, List.map_cons, List.map_nil]); first | done | rfl | (simp only [List.length_drop, List.length_take]; rfl)) ?_; (with_reducible refine (honeycombref1_PatchRight.calls ((rd_T26 l2 x8_1).f0) ((rd_T26 l2 x8_1).f1) ((rd_T26 l2 x8_1).f2) false _ A7.out).mono ?_); rintro e w14 ⟨rfl, hb⟩; refine ⟨_, rfl, ?_⟩; have n0_ := Aside0.mk (below_step (by repeat (first | (with_reducible first | exact HB.out | apply below_alloc | apply pw_below_drewN | apply below_drew1) | exact HB.out)) hb); clear HB; have HB := n0_; clear n0_; (try clear hb); (try clear hb2); (try clear hk); (try clear hi)))
              go_ret2
              exact ⟨by first | rfl | (simp [errW_none, errW_some] <;> rfl) | (simp [*, errW_none, errW_some] <;> rfl), by repeat (first | (with_reducible first | exact HB.out | apply below_alloc | apply pw_below_drewN | apply below_drew1) | exact HB.out)⟩
          · rw [if_neg c6] at H
            exact absurd H (by simp)
        · rw [if_neg c5] at H
          have c5b0 : decide (x8_1 < (l2.length : Int)) = false := decide_eq_false c5
          clear c5
          simp only [Option.some.injEq, Prod.mk.injEq] at H
          obtain ⟨rfl, rfl⟩ := H
          go_wp2
          go_ret2
          exact ⟨by first | rfl | (simp [errW_none, errW_some] <;> rfl) | (simp [*, errW_none, errW_some] <;> rfl), by repeat (first | (with_reducible first | exact HB.out | apply below_alloc | apply pw_below_drewN | apply below_drew1) | exact HB.out)⟩
  · rw [if_neg c4] at H
    have c4b0 : ((a0.size : Int) == 256) = false := beq_eq_false_iff_ne.mpr c4
    have c4b1 : ((a0.size : Int) != 256) = true := bne_iff_ne.mpr c4
    simp only [Option.some.injEq, Prod.mk.injEq] at H
    obtain ⟨rfl, rfl⟩ := H
    go_enter Try.func21, Try.ntmps21
    go_wp2
    go_ret2
    exact ⟨by first | rfl | (simp [errW_none, errW_some] <;> rfl) | (simp [*, errW_none, errW_some] <;> rfl), by repeat (first | (with_reducible first | exact HB.out | apply below_alloc | apply pw_below_drewN | apply below_drew1) | exact HB.out)⟩

/-! ### honeycombbook_SamePatches: function 27 -/
def honeycombbook_SamePatches.l0 : Nat → List (S26) → List (S26) → Int → Option (Bool)
  | 0, _, _, _ => none
  | k + 1, x0, x1, x5 => if x5 < (x0.length : Int) then (if 0 ≤ x5 then (if x5 < (x1.length : Int) then (if ((((rd_T26 x0 x5).f0) == ((rd_T26 x1 x5).f0) && (((rd_T26 x0 x5).f1) == ((rd_T26 x1 x5).f1) && ((((rd_T26 x0 x5).f2).toList) == (((rd_T26 x1 x5).f2).toList)))) = true) then (honeycombbook_SamePatches.l0 k x0 x1 (wrap64 (x5 + 1))) else (some false)) else (none)) else (none)) else (some true)
def honeycombbook_SamePatches.f (k : Nat) (l0 : List (S26)) (l1 : List (S26)) : Option (Bool) := if (l0.length : Int) = (l1.length : Int) then (honeycombbook_SamePatches.l0 k l0 l1 0) else (some false)
theorem honeycombbook_SamePatches.mono_l : ∀ k, (∀ y0 y1 y2, LeO (honeycombbook_SamePatches.l0 k y0 y1 y2) (honeycombbook_SamePatches.l0 (k + 1) y0 y1 y2))
  | 0 => fun _ _ _ r h => by simp [honeycombbook_SamePatches.l0] at h
  | k + 1 => by
    have ih0 := honeycombbook_SamePatches.mono_l k
    · intro y0 y1 y2
      unfold honeycombbook_SamePatches.l0
      repeat' first
      | (with_reducible exact ih0 _ _ _)
      | (with_reducible exact LeO.refl _)
      | (with_reducible exact LeO.none _)
      | (with_reducible refine LeO.ite ?_ ?_)
      | (with_reducible refine LeO.bind ?_ (fun _ => ?_))
      | exact ih0 _ _ _
      | exact LeO.none _
      | refine LeO.ite ?_ ?_
      | refine LeO.bind ?_ (fun _ => ?_)
theorem honeycombbook_SamePatches.mono : ∀ a0 a1 k, LeO (honeycombbook_SamePatches.f k a0 a1) (honeycombbook_SamePatches.f (k + 1) a0 a1) := by
  intro a0 a1 k
  have ih0 := honeycombbook_SamePatches.mono_l k
  unfold honeycombbook_SamePatches.f
  repeat' first
      | (with_reducible exact ih0 _ _ _)
      | (with_reducible exact LeO.refl _)
      | (with_reducible exact LeO.none _)
      | (with_reducible refine LeO.ite ?_ ?_)
      | (with_reducible refine LeO.bind ?_ (fun _ => ?_))
      | exact ih0 _ _ _
      | exact LeO.none _
      | refine LeO.ite ?_ ?_
      | refine LeO.bind ?_ (fun _ => ?_)
set_option maxHeartbeats 8000000 in
set_option maxRecDepth 100000 in
theorem honeycombbook_SamePatches.calls (k : Nat) (A0 : Option Addr) (c0 : Nat) (l0 : List (S26)) (A1 : Option Addr) (c1 : Nat) (l1 : List (S26)) (r : Bool) (w : World) (hr0 : Kd.C k26 w A0 l0.length l0) (hc0 : l0.length ≤ c0) (hr1 : Kd.C k26 w A1 l1.length l1) (hc1 : l1.length ≤ c1) (h : honeycombbook_SamePatches.f k l0 l1 = some r) :
    Calls Try.prog 27 #[.slice A0 l0.length c0, .slice A1 l1.length c1] w fun e w' => e = .returned (.bool r) ∧ Drawn0 w w' := by
  have hu26 := Try.underlying26
  have HR0 := Aside0.mk hr0
  have HC0 := Aside0.mk hc0
  clear hr0 hc0
  have HR1 := Aside0.mk hr1
  have HC1 := Aside0.mk hc1
  clear hr1 hc1
  have H : (if (l0.length : Int) = (l1.length : Int) then (honeycombbook_SamePatches.l0 k l0 l1 0) else (some false)) = some r := h
  clear h
  by_cases c3 : (l0.length : Int) = (l1.length : Int)
  · rw [if_pos c3] at H
    have c3b0 : ((l0.length : Int) == (l1.length : Int)) = true := beq_iff_eq.mpr c3
    have c3b1 : ((l0.length : Int) != (l1.length : Int)) = false := bne_eq_false_iff_eq.mpr c3
    have c3b2 : (l0.length == l1.length) = true := by first | simpa using c3 | (simp at c3 ⊢; omega)
    clear c3
    have H' := Aside0.mk H
    clear H
    go_enter Try.func27, Try.ntmps27
    go_wp2
    repeat (go_quiet (fail); try go_wp2)
    go_loopg [5] k (fun kq v5 w' => ∃ (x5_1 : Int), v5 = .int .i64 x5_1 ∧ Aside0 (honeycombbook_SamePatches.l0 kq l0 l1 x5_1 = some r) ∧ Aside0 (kq ≤ k) ∧ Drawn0 w w')
    case atStart => exact ⟨(0), (by first | rfl | (simp; done) | (simp [*]; done)), H', ⟨Nat.le_refl _⟩, by repeat (first | exact Drawn0.refl _ | apply Drawn0.step)⟩
    case round =>
      clear H'
      try clear c1
      try clear c2
      try clear p2
      try clear c3
      try clear c3b0
      try clear c3b1
      try clear c3b2
      obtain ⟨x5_1, rfl, HA, HK1, ⟨m1, rfl⟩⟩ := hrel
      cases gk with
      | zero => exact absurd HA.out (by simp [honeycombbook_SamePatches.l0])
      | succ k1 =>
        have H := HA.out
        clear HA
        simp only [honeycombbook_SamePatches.l0] at H
        by_cases c4 : x5_1 < (l0.length : Int)
        · rw [if_pos c4] at H
          have c4b0 : decide (x5_1 < (l0.length : Int)) = true := decide_eq_true c4
          clear c4
          by_cases c5 : 0 ≤ x5_1
          · rw [if_pos c5] at H
            have c5b0 : decide (0 ≤ x5_1) = true := decide_eq_true c5
            clear c5
            by_cases c6 : x5_1 < (l1.length : Int)
            · rw [if_pos c6] at H
              have c6b0 : decide (x5_1 < (l1.length : Int)) = true := decide_eq_true c6
              clear c6
              by_cases c7 : ((((rd_T26 l0 x5_1).f0) == ((rd_T26 l1 x5_1).f0) && (((rd_T26 l0 x5_1).f1) == ((rd_T26 l1 x5_1).f1) && ((((rd_T26 l0 x5_1).f2).toList) == (((rd_T26 l1 x5_1).f2).toList)))) = true)
              · rw [if_pos c7] at H
                have c7b0 : (((rd_T26 l0 x5_1).f0) == ((rd_T26 l1 x5_1).f0) && (((rd_T26 l0 x5_1).f1) == ((rd_T26 l1 x5_1).f1) && ((((rd_T26 l0 x5_1).f2).toList) == (((rd_T26 l1 x5_1).f2).toList)))) = true := c7
                (try (have c7b1 : decide (((rd_T26 l0 x5_1).f0) = ((rd_T26 l1 x5_1).f0) && (((rd_T26 l0 x5_1).f1) == ((rd_T26 l1 x5_1).f1) && ((((rd_T26 l0 x5_1).f2).toList) == (((rd_T26 l1 x5_1).f2).toList)))) = true := by simpa using c7))
                (try (have c7b2 : (((rd_T26 l0 x5_1).f0) == ((rd_T26 l1 x5_1).f0) && (((rd_T26 l0 x5_1).f1) == ((rd_T26 l1 x5_1).f1) && ((((rd_T26 l0 x5_1).f2).toList) == (((rd_T26 l1 x5_1).f2).toList)))) = true := by simpa using c7))
                clear c7
                have H' := Aside0.mk H
                clear H
                have p227 : 0 ≤ (x5_1 : Int) := of_decide_eq_true (by first | (with_reducible assumption) | assumption)
                have q227 : x5_1 < (l0.length : Int) := of_decide_eq_true (by first | (with_reducible assumption) | assumption)
                obtain ⟨ad227, e227, hx227_0, hx227_1, hx227_2⟩ := at_T26 HR0.out x5_1 p227 q227
                cases e227
                replace p227 := eq_true p227
                replace q227 := eq_true q227
                have p228 : 0 ≤ (x5_1 : Int) := of_decide_eq_true (by first | (with_reducible assumption) | assumption)
                have q228 : x5_1 < (l1.length : Int) := of_decide_eq_true (by first | (with_reducible assumption) | assumption)
                obtain ⟨ad228, e228, hx228_0, hx228_1, hx228_2⟩ := at_T26 HR1.out x5_1 p228 q228
                cases e228
                replace p228 := eq_true p228
                replace q228 := eq_true q228
                go_wp2
                repeat (go_quiet (fail); try go_wp2)
                go_roundg k1
                case measure => have := HK1.out; omega
                case rel => exact ⟨(wrap64 (x5_1 + 1)), (by first | rfl | (simp; done) | (simp [*]; done)), H', ⟨by have := HK1.out; omega⟩, by repeat (first | exact Drawn0.refl _ | apply Drawn0.step)⟩
              · rw [if_neg c7] at H
                have c7b0 : (((rd_T26 l0 x5_1).f0) == ((rd_T26 l1 x5_1).f0) && (((rd_T26 l0 x5_1).f1) == ((rd_T26 l1 x5_1).f1) && ((((rd_T26 l0 x5_1).f2).toList) == (((rd_T26 l1 x5_1).f2).toList)))) = false := by simpa using c7
                (try (have c7b1 : decide (((rd_T26 l0 x5_1).f0) = ((rd_T26 l1 x5_1).f0) && (((rd_T26 l0 x5_1).f1) == ((rd_T26 l1 x5_1).f1) && ((((rd_T26 l0 x5_1).f2).toList) == (((rd_T26 l1 x5_1).f2).toList)))) = false := by simpa using c7))
                (try (have c7b2 : (((rd_T26 l0 x5_1).f0) == ((rd_T26 l1 x5_1).f0) && (((rd_T26 l0 x5_1).f1) == ((rd_T26 l1 x5_1).f1) && ((((rd_T26 l0 x5_1).f2).toList) == (((rd_T26 l1 x5_1).f2).toList)))) = false := by simpa using c7))
                (try (have c7b3 : ¬ (((rd_T26 l0 x5_1).f0) = ((rd_T26 l1 x5_1).f0) && (((rd_T26 l0 x5_1).f1) == ((rd_T26 l1 x5_1).f1) && ((((rd_T26 l0 x5_1).f2).toList) == (((rd_T26 l1 x5_1).f2).toList)))) := by simpa using c7))
                clear c7
                obtain rfl := Option.some.inj H
                have p227 : 0 ≤ (x5_1 : Int) := of_decide_eq_true (by first | (with_reducible assumption) | assumption)
                have q227 : x5_1 < (l0.length : Int) := of_decide_eq_true (by first | (with_reducible assumption) | assumption)
                obtain ⟨ad227, e227, hx227_0, hx227_1, hx227_2⟩ := at_T26 HR0.out x5_1 p227 q227
                cases e227
                replace p227 := eq_true p227
                replace q227 := eq_true q227
                have p228 : 0 ≤ (x5_1 : Int) := of_decide_eq_true (by first | (with_reducible assumption) | assumption)
                have q228 : x5_1 < (l1.length : Int) := of_decide_eq_true (by first | (with_reducible assumption) | assumption)
                obtain ⟨ad228, e228, hx228_0, hx228_1, hx228_2⟩ := at_T26 HR1.out x5_1 p228 q228
                cases e228
                replace p228 := eq_true p228
                replace q228 := eq_true q228
                go_wp2
                repeat (go_quiet (fail); try go_wp2)
                go_ret
                exact ⟨by first | rfl | (simp; done) | (simp [*]; done), by repeat (first | exact Drawn0.refl _ | apply Drawn0.step)⟩
            · rw [if_neg c6] at H
              exact absurd H (by simp)
          · rw [if_neg c5] at H
            exact absurd H (by simp)
        · rw [if_neg c4] at H
          have c4b0 : decide (x5_1 < (l0.length : Int)) = false := decide_eq_false c4
          clear c4
          obtain rfl := Option.some.inj H
          go_wp2
          repeat (go_quiet (fail); try go_wp2)
          go_ret
          exact ⟨by first | rfl | (simp; done) | (simp [*]; done), by repeat (first | exact Drawn0.refl _ | apply Drawn0.step)⟩
  · rw [if_neg c3] at H
    have c3b0 : ((l0.length : Int) == (l1.length : Int)) = false := beq_eq_false_iff_ne.mpr c3
    have c3b1 : ((l0.length : Int) != (l1.length : Int)) = true := bne_iff_ne.mpr c3
    have c3b2 : (l0.length == l1.length) = false := by first | simpa using c3 | (simp at c3 ⊢; omega)
    obtain rfl := Option.some.inj H
    go_enter Try.func27, Try.ntmps27
    go_wp2
    repeat (go_quiet (fail); try go_wp2)
    go_ret
    exact ⟨by first | rfl | (simp; done) | (simp [*]; done), by repeat (first | exact Drawn0.refl _ | apply Drawn0.step)⟩

/-! ### honeycombbook_StaysPatches: function 22 -/
def honeycombbook_StaysPatches.f (k : Nat) (l0 : List (S26)) (l1 : List (S26)) : Option (Bool) := honeycombbook_SamePatches.f k l0 l1
theorem honeycombbook_StaysPatches.mono : ∀ a0 a1 k, LeO (honeycombbook_StaysPatches.f k a0 a1) (honeycombbook_StaysPatches.f (k + 1) a0 a1) := honeycombbook_SamePatches.mono
set_option maxHeartbeats 8000000 in
set_option maxRecDepth 100000 in
theorem honeycombbook_StaysPatches.calls (k : Nat) (A0 : Option Addr) (c0 : Nat) (l0 : List (S26)) (A1 : Option Addr) (c1 : Nat) (l1 : List (S26)) (r : Bool) (w : World) (hr0 : Kd.C k26 w A0 l0.length l0) (hc0 : l0.length ≤ c0) (hr1 : Kd.C k26 w A1 l1.length l1) (hc1 : l1.length ≤ c1) (hm : MarkL w (.slice A0 l0.length c0) l0) (h : honeycombbook_StaysPatches.f k l0 l1 = some r) :
    Calls Try.prog 22 #[.slice A0 l0.length c0, .slice A1 l1.length c1] w fun e w' => e = .returned (.bool r) ∧ Drawn0 w w' := by
  have HR0 := Aside0.mk hr0
  have HC0 := Aside0.mk hc0
  have HR1 := Aside0.mk hr1
  have HC1 := Aside0.mk hc1
  have A3 := Aside0.mk (show honeycombbook_SamePatches.f k l0 l1 = some r from h)
  clear hr0 hc0 hr1 hc1 h
  cases r with
  | true =>
    obtain ⟨A, c, y, hv, h2, h3, h4, h5⟩ := hm
    injection hv with e1 e2 e3
    subst e1 e3
    have hlen : l0.length + 1 ≤ 9223372036854775807 := h4.2.1
    obtain ⟨ad, ead, hx0, hx1, hx2⟩ := at_T26 h4 (l0.length : Int) (by omega) (by omega)
    subst ead
    rw [h5] at hx1
    simp only [Int.toNat_natCast] at hx1
    have w1 : wrap64 ((l0.length : Int) + 1) = (l0.length : Int) + 1 := by unfold wrap64; omega
    have p1 : (0 ≤ (l0.length : Int) + 1) = True := eq_true (by omega)
    have p2 : ((l0.length : Int) + 1 ≤ (c0 : Int)) = True := eq_true (by omega)
    have W1 := Aside0.mk w1
    clear hx0 hx2
    clear w1 h2 h3 h4 h5 y e2
    go_enter Try.func22, Try.ntmps22
    go_wp2_with (first | (go_at_call 27; (with_reducible refine (honeycombbook_SamePatches.calls k _ _ l0 _ _ l1 true _ HR0.out HC0.out HR1.out HC1.out A3.out).mono ?_); rintro e w' ⟨rfl, ⟨nd, rfl⟩⟩))
    go_ret
    exact ⟨rfl, ⟨_, rfl⟩⟩
  | false =>
    clear hm
    go_enter Try.func22, Try.ntmps22
    go_wp2_with (first | (go_at_call 27; (with_reducible refine (honeycombbook_SamePatches.calls k _ _ l0 _ _ l1 false _ HR0.out HC0.out HR1.out HC1.out A3.out).mono ?_); rintro e w' ⟨rfl, ⟨nd, rfl⟩⟩))
    go_ret
    exact ⟨rfl, ⟨_, rfl⟩⟩


end Go.Proofs.Yteakeonlgdbeiaa.PP
