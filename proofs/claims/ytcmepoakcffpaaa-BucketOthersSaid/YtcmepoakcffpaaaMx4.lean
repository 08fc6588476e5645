-- Laid by wip/gen/myprint.py of this session, on the kit's print.
import Derived.Test.YtcmepoakcffpaaaMx0
import Derived.Test.YtcmepoakcffpaaaMx3
namespace Go.Proofs.Ytcmepoakcffpaaa.M
open Go.RowKit Go.Proofs.YtcmepoakcffpaaaW.PrintWords Go.Proofs.YtcmepoakcffpaaaW.PrintLast Go.Proofs.YtcmepoakcffpaaaW.PrintMore
attribute [local go_sem] max2_int min2_int max_two min_two max_three min_three max_four min_four   -- for this text's walks alone
set_option linter.unusedVariables false
set_option linter.unusedSimpArgs false

/-! ### honeycomblaw8_BucketFills: function 4 -/
mutual
def honeycomblaw8_BucketFills.j0 : Nat → List ByteArray → Int → Bool → Option (Bool)
  | 0, _, _, _ => none
  | k + 1, x0, x1, x33 => if x33 = true then ((honeycomblaw8_alive.f).bind fun t108 => (some t108)) else ((honeycomblaw8_Empty.f 3 0 0).bind fun bt109 => (honeycomblaw8_BucketFills.l0 k x1 x0 (x0.length : Int) 0 bt109.1 bt109.2.1 bt109.2.2.1 bt109.2.2.2))
def honeycomblaw8_BucketFills.l0 : Nat → Int → List ByteArray → Int → Int → Int → Int → Int → ByteArray → Option (Bool)
  | 0, _, _, _, _, _, _, _, _ => none
  | k + 1, x1, x36, x37, x38, x114000, x114001, x114002, x114003 => if x38 < x37 then (if 0 ≤ x38 then (if x38 < (x36.length : Int) then ((honeycombref1_Key.f (rdOf ByteArray.empty x36 x38)).bind fun t115 => (if t115 = true then ((bucket_Room.f x114000 x114001 x114002 x114003).bind fun t116 => ((honeycombref1_Zeros.f x1).bind fun t117 => ((bucket_Find.f x114000 x114001 x114002 x114003 (rdOf ByteArray.empty x36 x38)).bind fun bt119 => ((honeycombref1_CellSize.f (rdOf ByteArray.empty x36 x38) t117 0 0).bind fun t125 => (if bt119.2.2.2.2 = true then ((honeycombref1_CellSize.f bt119.1 bt119.2.1 bt119.2.2.1 bt119.2.2.2.1).bind fun t126 => (honeycomblaw8_BucketFills.j2 k x1 t116 (wrap64 (t125 - t126)) x36 x37 x38 x114000 x114001 x114002 x114003 (rdOf ByteArray.empty x36 x38) t117 0 0)) else (honeycomblaw8_BucketFills.j2 k x1 t116 t125 x36 x37 x38 x114000 x114001 x114002 x114003 (rdOf ByteArray.empty x36 x38) t117 0 0)))))) else (some true))) else (none)) else (none)) else ((bucket_Cells.f x114000 x114001 x114002 x114003).bind fun t134 => (honeycomblaw8_BucketFills.l1 k t134 (t134.length : Int) 0 x114000 x114001 x114002 x114003))
def honeycomblaw8_BucketFills.j2 : Nat → Int → Int → Int → List ByteArray → Int → Int → Int → Int → Int → ByteArray → ByteArray → ByteArray → Int → Int → Option (Bool)
  | 0, _, _, _, _, _, _, _, _, _, _, _, _, _, _ => none
  | k + 1, x1, x8, x12, x36, x37, x38, x114000, x114001, x114002, x114003, x119000, x119001, x119002, x119003 => (bucket_Set.f x114000 x114001 x114002 x114003 x119000 x119001 x119002 x119003).bind fun bt127 => (if ((bt127.2.2.2.2 == 0) != (decide (x12 ≤ x8))) = true then (honeycomblaw8_BucketFills.j3 k x1 x8 x12 bt127.2.2.2.2 x36 x37 x38 true x114000 x114001 x114002 x114003 bt127.1 bt127.2.1 bt127.2.2.1 bt127.2.2.2.1) else (if bt127.2.2.2.2 = 0 then (honeycomblaw8_BucketFills.j3 k x1 x8 x12 bt127.2.2.2.2 x36 x37 x38 false x114000 x114001 x114002 x114003 bt127.1 bt127.2.1 bt127.2.2.1 bt127.2.2.2.1) else (honeycomblaw8_BucketFills.j3 k x1 x8 x12 bt127.2.2.2.2 x36 x37 x38 (bt127.2.2.2.2 != 13) x114000 x114001 x114002 x114003 bt127.1 bt127.2.1 bt127.2.2.1 bt127.2.2.2.1)))
def honeycomblaw8_BucketFills.j3 : Nat → Int → Int → Int → Int → List ByteArray → Int → Int → Bool → Int → Int → Int → ByteArray → Int → Int → Int → ByteArray → Option (Bool)
  | 0, _, _, _, _, _, _, _, _, _, _, _, _, _, _, _, _ => none
  | k + 1, x1, x8, x12, x14, x36, x37, x38, x83, x114000, x114001, x114002, x114003, x133000, x133001, x133002, x133003 => if x83 = true then (some false) else (if x14 = 0 then ((bucket_Room.f x133000 x133001 x133002 x133003).bind fun t133 => (if t133 = (wrap64 (x8 - x12)) then (honeycomblaw8_BucketFills.l0 k x1 x36 x37 (wrap64 (x38 + 1)) x133000 x133001 x133002 x133003) else (some false))) else (honeycomblaw8_BucketFills.l0 k x1 x36 x37 (wrap64 (x38 + 1)) x114000 x114001 x114002 x114003))
def honeycomblaw8_BucketFills.l1 : Nat → List (S25) → Int → Int → Int → Int → Int → ByteArray → Option (Bool)
  | 0, _, _, _, _, _, _, _ => none
  | k + 1, x95, x96, x97, x114000, x114001, x114002, x114003 => if x97 < x96 then (if 0 ≤ x97 then (if x97 < (x95.length : Int) then ((bucket_Set.f x114000 x114001 x114002 x114003 ((rd_T25 x95 x97).f0) (⟨#[]⟩ : ByteArray) 0 0).bind fun bt139 => (if bt139.2.2.2.2 = 0 then (honeycomblaw8_BucketFills.l1 k x95 x96 (wrap64 (x97 + 1)) bt139.1 bt139.2.1 bt139.2.2.1 bt139.2.2.2.1) else (some false))) else (none)) else (none)) else (some true)
end
def honeycomblaw8_BucketFills.f (k : Nat) (l0 : List ByteArray) (a1 : Int) : Option (Bool) := if (l0.length : Int) > 60 then (honeycomblaw8_BucketFills.j0 k l0 a1 true) else (if a1 < 0 then (honeycomblaw8_BucketFills.j0 k l0 a1 true) else (if a1 > 40 then (honeycomblaw8_BucketFills.j0 k l0 a1 true) else ((honeycomblaw8_alive.f).bind fun t107 => (honeycomblaw8_BucketFills.j0 k l0 a1 (!t107)))))
theorem honeycomblaw8_BucketFills.mono_l : ∀ k, (∀ y0 y1 y2, LeO (honeycomblaw8_BucketFills.j0 k y0 y1 y2) (honeycomblaw8_BucketFills.j0 (k + 1) y0 y1 y2)) ∧ (∀ y0 y1 y2 y3 y4 y5 y6 y7, LeO (honeycomblaw8_BucketFills.l0 k y0 y1 y2 y3 y4 y5 y6 y7) (honeycomblaw8_BucketFills.l0 (k + 1) y0 y1 y2 y3 y4 y5 y6 y7)) ∧ (∀ y0 y1 y2 y3 y4 y5 y6 y7 y8 y9 y10 y11 y12 y13, LeO (honeycomblaw8_BucketFills.j2 k y0 y1 y2 y3 y4 y5 y6 y7 y8 y9 y10 y11 y12 y13) (honeycomblaw8_BucketFills.j2 (k + 1) y0 y1 y2 y3 y4 y5 y6 y7 y8 y9 y10 y11 y12 y13)) ∧ (∀ y0 y1 y2 y3 y4 y5 y6 y7 y8 y9 y10 y11 y12 y13 y14 y15, LeO (honeycomblaw8_BucketFills.j3 k y0 y1 y2 y3 y4 y5 y6 y7 y8 y9 y10 y11 y12 y13 y14 y15) (honeycomblaw8_BucketFills.j3 (k + 1) y0 y1 y2 y3 y4 y5 y6 y7 y8 y9 y10 y11 y12 y13 y14 y15)) ∧ (∀ y0 y1 y2 y3 y4 y5 y6, LeO (honeycomblaw8_BucketFills.l1 k y0 y1 y2 y3 y4 y5 y6) (honeycomblaw8_BucketFills.l1 (k + 1) y0 y1 y2 y3 y4 y5 y6))
  | 0 => ⟨fun _ _ _ r h => by simp [honeycomblaw8_BucketFills.j0] at h, fun _ _ _ _ _ _ _ _ r h => by simp [honeycomblaw8_BucketFills.l0] at h, fun _ _ _ _ _ _ _ _ _ _ _ _ _ _ r h => by simp [honeycomblaw8_BucketFills.j2] at h, fun _ _ _ _ _ _ _ _ _ _ _ _ _ _ _ _ r h => by simp [honeycomblaw8_BucketFills.j3] at h, fun _ _ _ _ _ _ _ r h => by simp [honeycomblaw8_BucketFills.l1] at h⟩
  | k + 1 => by
    obtain ⟨ih0, ih1, ih2, ih3, ih4⟩ := honeycomblaw8_BucketFills.mono_l k
    refine ⟨?_, ?_, ?_, ?_, ?_⟩
    · intro y0 y1 y2
      unfold honeycomblaw8_BucketFills.j0
      repeat' first
      | (with_reducible exact ih0 _ _ _)
      | (with_reducible exact ih1 _ _ _ _ _ _ _ _)
      | (with_reducible exact ih2 _ _ _ _ _ _ _ _ _ _ _ _ _ _)
      | (with_reducible exact ih3 _ _ _ _ _ _ _ _ _ _ _ _ _ _ _ _)
      | (with_reducible exact ih4 _ _ _ _ _ _ _)
      | (with_reducible exact LeO.refl _)
      | (with_reducible exact LeO.none _)
      | (with_reducible refine LeO.ite ?_ ?_)
      | (with_reducible refine LeO.bind ?_ (fun _ => ?_))
      | exact ih0 _ _ _
      | exact ih1 _ _ _ _ _ _ _ _
      | exact ih2 _ _ _ _ _ _ _ _ _ _ _ _ _ _
      | exact ih3 _ _ _ _ _ _ _ _ _ _ _ _ _ _ _ _
      | exact ih4 _ _ _ _ _ _ _
      | exact LeO.none _
      | refine LeO.ite ?_ ?_
      | refine LeO.bind ?_ (fun _ => ?_)
    · intro y0 y1 y2 y3 y4 y5 y6 y7
      unfold honeycomblaw8_BucketFills.l0
      repeat' first
      | (with_reducible exact ih0 _ _ _)
      | (with_reducible exact ih1 _ _ _ _ _ _ _ _)
      | (with_reducible exact ih2 _ _ _ _ _ _ _ _ _ _ _ _ _ _)
      | (with_reducible exact ih3 _ _ _ _ _ _ _ _ _ _ _ _ _ _ _ _)
      | (with_reducible exact ih4 _ _ _ _ _ _ _)
      | (with_reducible exact LeO.refl _)
      | (with_reducible exact LeO.none _)
      | (with_reducible refine LeO.ite ?_ ?_)
      | (with_reducible refine LeO.bind ?_ (fun _ => ?_))
      | exact ih0 _ _ _
      | exact ih1 _ _ _ _ _ _ _ _
      | exact ih2 _ _ _ _ _ _ _ _ _ _ _ _ _ _
      | exact ih3 _ _ _ _ _ _ _ _ _ _ _ _ _ _ _ _
      | exact ih4 _ _ _ _ _ _ _
      | exact LeO.none _
      | refine LeO.ite ?_ ?_
      | refine LeO.bind ?_ (fun _ => ?_)
    · intro y0 y1 y2 y3 y4 y5 y6 y7 y8 y9 y10 y11 y12 y13
      unfold honeycomblaw8_BucketFills.j2
      repeat' first
      | (with_reducible exact ih0 _ _ _)
      | (with_reducible exact ih1 _ _ _ _ _ _ _ _)
      | (with_reducible exact ih2 _ _ _ _ _ _ _ _ _ _ _ _ _ _)
      | (with_reducible exact ih3 _ _ _ _ _ _ _ _ _ _ _ _ _ _ _ _)
      | (with_reducible exact ih4 _ _ _ _ _ _ _)
      | (with_reducible exact LeO.refl _)
      | (with_reducible exact LeO.none _)
      | (with_reducible refine LeO.ite ?_ ?_)
      | (with_reducible refine LeO.bind ?_ (fun _ => ?_))
      | exact ih0 _ _ _
      | exact ih1 _ _ _ _ _ _ _ _
      | exact ih2 _ _ _ _ _ _ _ _ _ _ _ _ _ _
      | exact ih3 _ _ _ _ _ _ _ _ _ _ _ _ _ _ _ _
      | exact ih4 _ _ _ _ _ _ _
      | exact LeO.none _
      | refine LeO.ite ?_ ?_
      | refine LeO.bind ?_ (fun _ => ?_)
    · intro y0 y1 y2 y3 y4 y5 y6 y7 y8 y9 y10 y11 y12 y13 y14 y15
      unfold honeycomblaw8_BucketFills.j3
      repeat' first
      | (with_reducible exact ih0 _ _ _)
      | (with_reducible exact ih1 _ _ _ _ _ _ _ _)
      | (with_reducible exact ih2 _ _ _ _ _ _ _ _ _ _ _ _ _ _)
      | (with_reducible exact ih3 _ _ _ _ _ _ _ _ _ _ _ _ _ _ _ _)
      | (with_reducible exact ih4 _ _ _ _ _ _ _)
      | (with_reducible exact LeO.refl _)
      | (with_reducible exact LeO.none _)
      | (with_reducible refine LeO.ite ?_ ?_)
      | (with_reducible refine LeO.bind ?_ (fun _ => ?_))
      | exact ih0 _ _ _
      | exact ih1 _ _ _ _ _ _ _ _
      | exact ih2 _ _ _ _ _ _ _ _ _ _ _ _ _ _
      | exact ih3 _ _ _ _ _ _ _ _ _ _ _ _ _ _ _ _
      | exact ih4 _ _ _ _ _ _ _
      | exact LeO.none _
      | refine LeO.ite ?_ ?_
      | refine LeO.bind ?_ (fun _ => ?_)
    · intro y0 y1 y2 y3 y4 y5 y6
      unfold honeycomblaw8_BucketFills.l1
      repeat' first
      | (with_reducible exact ih0 _ _ _)
      | (with_reducible exact ih1 _ _ _ _ _ _ _ _)
      | (with_reducible exact ih2 _ _ _ _ _ _ _ _ _ _ _ _ _ _)
      | (with_reducible exact ih3 _ _ _ _ _ _ _ _ _ _ _ _ _ _ _ _)
      | (with_reducible exact ih4 _ _ _ _ _ _ _)
      | (with_reducible exact LeO.refl _)
      | (with_reducible exact LeO.none _)
      | (with_reducible refine LeO.ite ?_ ?_)
      | (with_reducible refine LeO.bind ?_ (fun _ => ?_))
      | exact ih0 _ _ _
      | exact ih1 _ _ _ _ _ _ _ _
      | exact ih2 _ _ _ _ _ _ _ _ _ _ _ _ _ _
      | exact ih3 _ _ _ _ _ _ _ _ _ _ _ _ _ _ _ _
      | exact ih4 _ _ _ _ _ _ _
      | exact LeO.none _
      | refine LeO.ite ?_ ?_
      | refine LeO.bind ?_ (fun _ => ?_)
theorem honeycomblaw8_BucketFills.mono : ∀ a0 a1 k, LeO (honeycomblaw8_BucketFills.f k a0 a1) (honeycomblaw8_BucketFills.f (k + 1) a0 a1) := by
  intro a0 a1 k
  obtain ⟨ih0, ih1, ih2, ih3, ih4⟩ := honeycomblaw8_BucketFills.mono_l k
  unfold honeycomblaw8_BucketFills.f
  repeat' first
      | (with_reducible exact ih0 _ _ _)
      | (with_reducible exact ih1 _ _ _ _ _ _ _ _)
      | (with_reducible exact ih2 _ _ _ _ _ _ _ _ _ _ _ _ _ _)
      | (with_reducible exact ih3 _ _ _ _ _ _ _ _ _ _ _ _ _ _ _ _)
      | (with_reducible exact ih4 _ _ _ _ _ _ _)
      | (with_reducible exact LeO.refl _)
      | (with_reducible exact LeO.none _)
      | (with_reducible refine LeO.ite ?_ ?_)
      | (with_reducible refine LeO.bind ?_ (fun _ => ?_))
      | exact ih0 _ _ _
      | exact ih1 _ _ _ _ _ _ _ _
      | exact ih2 _ _ _ _ _ _ _ _ _ _ _ _ _ _
      | exact ih3 _ _ _ _ _ _ _ _ _ _ _ _ _ _ _ _
      | exact ih4 _ _ _ _ _ _ _
      | exact LeO.none _
      | refine LeO.ite ?_ ?_
      | refine LeO.bind ?_ (fun _ => ?_)
set_option maxHeartbeats 8000000 in
set_option maxRecDepth 100000 in
theorem honeycomblaw8_BucketFills.calls (k : Nat) (A0 : Option Addr) (c0 : Nat) (l0 : List ByteArray) (a1 : Int) (r : Bool) (w : World) (hr0 : Kd.C Kd.string w A0 l0.length l0) (hc0 : l0.length ≤ c0) (h : honeycomblaw8_BucketFills.f k l0 a1 = some r) :
    Calls Try.prog 4 #[.slice A0 l0.length c0, .int .i64 a1] w fun e w' => e = .returned (.bool r) ∧ Below w.heap.size w w' := by
  have hu23 := Try.underlying23
  have hu25 := Try.underlying25
  have HR0 := Aside0.mk hr0
  have HC0 := Aside0.mk hc0
  clear hr0 hc0
  have HB := Aside0.mk (Below.refl w.heap.size w)
  have H : (if (l0.length : Int) > 60 then (honeycomblaw8_BucketFills.j0 k l0 a1 true) else (if a1 < 0 then (honeycomblaw8_BucketFills.j0 k l0 a1 true) else (if a1 > 40 then (honeycomblaw8_BucketFills.j0 k l0 a1 true) else ((honeycomblaw8_alive.f).bind fun t107 => (honeycomblaw8_BucketFills.j0 k l0 a1 (!t107)))))) = some r := h
  clear h
  have HC3 := Aside0.mk H
  clear H
  go_enter Try.func4, Try.ntmps4
  go_upto_region 1 with (fail)
  go_cut [33] (fun v33 wc => ∃ (kq : Nat) (x33_2 : Bool), v33 = .bool x33_2 ∧ Aside0 (honeycomblaw8_BucketFills.j0 kq l0 a1 x33_2 = some r) ∧ Aside0 (kq ≤ k) ∧ Aside0 (Below w.heap.size w wc))
  case first =>
    have H := HC3.out
    clear HC3
    by_cases c4 : (l0.length : Int) > 60
    · rw [if_pos c4] at H
      have c4b0 : decide (60 < (l0.length : Int)) = true := decide_eq_true c4
      have c4b1 : decide (60 < l0.length) = true := decide_eq_true (by omega)
      clear c4
      (first | rw [c4b0] | (simp only [i64_w, i32_w]; rw [c4b0]) | skip)
      have H' := Aside0.mk H
      clear H
      go_wp2
      go_meet
      case rel => exact ⟨_, (true), (by first | rfl | (simp; done) | (simp [*]; done)), H', ⟨by first | omega | exact Nat.le_refl _⟩, ⟨by repeat (first | (with_reducible first | exact HB.out | apply below_alloc | apply pw_below_drewN | apply below_drew1) | exact HB.out)⟩⟩
    · rw [if_neg c4] at H
      have c4b0 : decide (60 < (l0.length : Int)) = false := decide_eq_false c4
      have c4b1 : decide (60 < l0.length) = false := decide_eq_false (by omega)
      clear c4
      (first | rw [c4b0] | (simp only [i64_w, i32_w]; rw [c4b0]) | skip)
      by_cases c5 : a1 < 0
      · rw [if_pos c5] at H
        have c5b0 : decide (a1 < 0) = true := decide_eq_true c5
        clear c5
        have H' := Aside0.mk H
        clear H
        go_wp2
        go_meet
        case rel => exact ⟨_, (true), (by first | rfl | (simp; done) | (simp [*]; done)), H', ⟨by first | omega | exact Nat.le_refl _⟩, ⟨by repeat (first | (with_reducible first | exact HB.out | apply below_alloc | apply pw_below_drewN | apply below_drew1) | exact HB.out)⟩⟩
      · rw [if_neg c5] at H
        have c5b0 : decide (a1 < 0) = false := decide_eq_false c5
        clear c5
        by_cases c6 : a1 > 40
        · rw [if_pos c6] at H
          have c6b0 : decide (40 < a1) = true := decide_eq_true c6
          clear c6
          have H' := Aside0.mk H
          clear H
          go_wp2
          go_meet
          case rel => exact ⟨_, (true), (by first | rfl | (simp; done) | (simp [*]; done)), H', ⟨by first | omega | exact Nat.le_refl _⟩, ⟨by repeat (first | (with_reducible first | exact HB.out | apply below_alloc | apply pw_below_drewN | apply below_drew1) | exact HB.out)⟩⟩
        · rw [if_neg c6] at H
          have c6b0 : decide (40 < a1) = false := decide_eq_false c6
          clear c6
          replace H := Option.bind_eq_some_iff.mp H
          obtain ⟨t107, A70, H⟩ := H
          replace H : (honeycomblaw8_BucketFills.j0 k l0 a1 (!t107)) = some r := H
          have A7 := Aside0.mk A70
          clear A70
          have H' := Aside0.mk H
          clear H
          go_wp2_with (first | (go_at_call 8; (with_reducible refine (honeycomblaw8_alive.calls  t107 _ A7.out).mono ?_); rintro e w8 ⟨rfl, hb⟩; have n0_ := Aside0.mk (below_step (by repeat (first | (with_reducible first | exact HB.out | apply below_alloc | apply pw_below_drewN | apply below_drew1) | exact HB.out)) hb); clear HB; have HB := n0_; clear n0_; (try clear hb); (try clear hb2); (try clear hk); (try clear hi)))
          go_meet
          case rel => exact ⟨_, (!t107), (by first | rfl | (simp; done) | (simp [*]; done)), H', ⟨by first | omega | exact Nat.le_refl _⟩, ⟨by repeat (first | (with_reducible first | exact HB.out | apply below_alloc | apply pw_below_drewN | apply below_drew1) | exact HB.out)⟩⟩
  case rest =>
    clear HC3
    try clear p2
    try clear c4
    try clear c4b0
    try clear c4b1
    try clear c5
    try clear c5b0
    try clear c6
    try clear c6b0
    obtain ⟨kq, x33_2, rfl, HA, HJ2, HB⟩ := hcut
    cases kq with
    | zero => exact absurd HA.out (by simp [honeycomblaw8_BucketFills.j0])
    | succ kj2 =>
      have H := HA.out
      clear HA
      simp only [honeycomblaw8_BucketFills.j0] at H
      by_cases c9 : x33_2 = true
      · subst c9
        have H1 : ((honeycomblaw8_alive.f).bind fun t108 => (some t108)) = some r := by rw [if_pos rfl] at H; exact H
        clear H
        have H := H1
        clear H1
        replace H := Option.bind_eq_some_iff.mp H
        obtain ⟨t108, A100, H⟩ := H
        replace H : (some t108) = some r := H
        have A10 := Aside0.mk A100
        clear A100
        obtain rfl := Option.some.inj H
        go_wp2_with (first | ((with_reducible refine gate_callee (f := 8) rfl ?_); refine goesL_ (some 34) rfl rfl Try.func8 (by kernel_rfl) rfl #[] rfl (by (try simp only [List.map_toArray, List.map_cons, List.map_nil]); first | done | rfl | (simp only [List.length_drop, List.length_take]; rfl)) ?_; (with_reducible refine (honeycomblaw8_alive.calls  t108 _ A10.out).mono ?_); rintro e w11 ⟨rfl, hb⟩; refine ⟨_, rfl, ?_⟩; have n0_ := Aside0.mk (below_step (by repeat (first | (with_reducible first | exact HB.out | apply below_alloc | apply pw_below_drewN | apply below_drew1) | exact HB.out)) hb); clear HB; have HB := n0_; clear n0_; (try clear hb); (try clear hb2); (try clear hk); (try clear hi)))
        go_ret
        exact ⟨by first | rfl | (simp [errW_none, errW_some] <;> rfl) | (simp [*, errW_none, errW_some] <;> rfl), by repeat (first | (with_reducible first | exact HB.out | apply below_alloc | apply pw_below_drewN | apply below_drew1) | exact HB.out)⟩
      · replace c9 := Bool.eq_false_iff.mpr c9
        subst c9
        have H1 : ((honeycomblaw8_Empty.f 3 0 0).bind fun bt109 => (honeycomblaw8_BucketFills.l0 kj2 a1 l0 (l0.length : Int) 0 bt109.1 bt109.2.1 bt109.2.2.1 bt109.2.2.2)) = some r := by rw [if_neg (show ¬ (false = true) by decide)] at H; exact H
        clear H
        have H := H1
        clear H1
        replace H := Option.bind_eq_some_iff.mp H
        obtain ⟨⟨t109, t110, t111, t112⟩, A120, H⟩ := H
        replace H : (honeycomblaw8_BucketFills.l0 kj2 a1 l0 (l0.length : Int) 0 t109 t110 t111 t112) = some r := H
        have A12 := Aside0.mk A120
        clear A120
        have H' := Aside0.mk H
        clear H
        go_wp2_with (first | ((with_reducible refine gate_callee (f := 12) rfl ?_); refine goesL_ (some 35) rfl rfl Try.func12 (by kernel_rfl) rfl #[.int .i64 3, .int .i64 0, .int .i64 0] rfl (by (try simp only [List.map_toArray, List.map_cons, List.map_nil]); first | done | rfl | (simp only [List.length_drop, List.length_take]; rfl)) ?_; (with_reducible refine (honeycomblaw8_Empty.calls 3 0 0 t109 t110 t111 t112 _ A12.out).mono ?_); rintro e w13 ⟨rfl, hb⟩; refine ⟨_, rfl, ?_⟩; have n0_ := Aside0.mk (below_step (by repeat (first | (with_reducible first | exact HB.out | apply below_alloc | apply pw_below_drewN | apply below_drew1) | exact HB.out)) hb); clear HB; have HB := n0_; clear n0_; (try clear hb); (try clear hb2); (try clear hk); (try clear hi)) | ((with_reducible refine gate_dst (N := 5) rfl ?_); refine box_event ?hg (N := 5) ?hd (cs := #[.int .i64 0, .int .i64 0, .int .i64 0, .string (⟨#[]⟩ : ByteArray)]) (t := 23) ?hr ?_; (case hd => rfl); (case hg => rfl); (case hr => first | (go_simp; done) | (go_simp; rfl)); intro gb113 hg w14 hbox hb; have n0_ := Aside0.mk (below_step (by repeat (first | (with_reducible first | exact HB.out | apply below_alloc | apply pw_below_drewN | apply below_drew1) | exact HB.out)) hb); have n1_ := Aside0.mk (hbox); have n2_ := Aside0.mk ((by rw [hg]; exact (below_size (by repeat (first | (with_reducible first | exact HB.out | apply below_alloc | apply pw_below_drewN | apply below_drew1) | exact HB.out))) : w.heap.size ≤ gb113)); have n3_ := Aside0.mk ((by rw [hg]; exact (below_size (by repeat (first | (with_reducible first | exact HB.out | apply below_alloc | apply pw_below_drewN | apply below_drew1) | exact HB.out))) : w.heap.size ≤ gb113)); clear HB; have HB := n0_; have BK113 := n1_; have GW113 := n2_; have GE113 := n3_; clear n0_ n1_ n2_ n3_; clear hb hbox hg; have hcz15_0 : w14.cell? ⟨gb113, 0, none⟩ = some (.int .i64 0) := (blk_cell BK113.out 0).trans rfl; have hcz15_1 : w14.cell? ⟨gb113, 1, none⟩ = some (.int .i64 0) := (blk_cell BK113.out 1).trans rfl; have hcz15_2 : w14.cell? ⟨gb113, 2, none⟩ = some (.int .i64 0) := (blk_cell BK113.out 2).trans rfl; have hcz15_3 : w14.cell? ⟨gb113, 3, none⟩ = some (.string (⟨#[]⟩ : ByteArray)) := (blk_cell BK113.out 3).trans rfl; have hfz15_0 := blk_frozen BK113.out 0; have hfz15_1 := blk_frozen BK113.out 1; have hfz15_2 := blk_frozen BK113.out 2; have hfz15_3 := blk_frozen BK113.out 3))
        go_loopg [38] kj2 (fun kq v38 w' => ∃ (x38_2 : Int) (x114000_2 : Int) (x114001_2 : Int) (x114002_2 : Int) (x114003_2 : ByteArray), v38 = .int .i64 x38_2 ∧ Aside0 (honeycomblaw8_BucketFills.l0 kq a1 l0 (l0.length : Int) x38_2 x114000_2 x114001_2 x114002_2 x114003_2 = some r) ∧ Aside0 (kq ≤ kj2) ∧ Aside0 (w'.heap[gb113]? = some (.cells #[.int .i64 x114000_2, .int .i64 x114001_2, .int .i64 x114002_2, .string x114003_2] 23 (0, 0))) ∧ Aside0 (Below w.heap.size w w'))
        case atStart => exact ⟨(0), (t109), (t110), (t111), (t112), (by first | rfl | (simp; done) | (simp [*]; done)), H', ⟨Nat.le_refl _⟩, ⟨by (with_reducible repeat (first | refine blk_drewN ?_ _ | refine blk_drew ?_ | refine blk_alloc ?_ _)); refine blk_put (cs := #[.int .i64 t109, .int .i64 t110, .int .i64 t111, .string (⟨#[]⟩ : ByteArray)]) ?_ 3 _ rfl; (with_reducible repeat (first | refine blk_drewN ?_ _ | refine blk_drew ?_ | refine blk_alloc ?_ _)); refine blk_put (cs := #[.int .i64 t109, .int .i64 t110, .int .i64 0, .string (⟨#[]⟩ : ByteArray)]) ?_ 2 _ rfl; (with_reducible repeat (first | refine blk_drewN ?_ _ | refine blk_drew ?_ | refine blk_alloc ?_ _)); refine blk_put (cs := #[.int .i64 t109, .int .i64 0, .int .i64 0, .string (⟨#[]⟩ : ByteArray)]) ?_ 1 _ rfl; (with_reducible repeat (first | refine blk_drewN ?_ _ | refine blk_drew ?_ | refine blk_alloc ?_ _)); refine blk_put (cs := #[.int .i64 0, .int .i64 0, .int .i64 0, .string (⟨#[]⟩ : ByteArray)]) ?_ 0 _ rfl; (with_reducible repeat (first | refine blk_drewN ?_ _ | refine blk_drew ?_ | refine blk_alloc ?_ _)); exact BK113.out⟩, ⟨by repeat (first | (with_reducible first | exact HB.out | apply below_alloc | apply pw_below_drewN | apply below_drew1 | refine below_set ?_ GE113.out) | exact HB.out)⟩⟩
        case round =>
          clear H'
          try clear c1
          try clear p2
          try clear c4
          try clear c4b0
          try clear c4b1
          try clear c5
          try clear c5b0
          try clear c6
          try clear c6b0
          try clear c8
          try clear c9
          try clear c12
          try clear hcz15_0
          try clear hcz15_1
          try clear hcz15_2
          try clear hcz15_3
          try clear hfz15_0
          try clear hfz15_1
          try clear hfz15_2
          try clear hfz15_3
          try clear p2
          obtain ⟨x38_2, x114000_2, x114001_2, x114002_2, x114003_2, rfl, HA, HK2, BK113, HB⟩ := hrel
          cases gk with
          | zero => exact absurd HA.out (by simp [honeycomblaw8_BucketFills.l0])
          | succ k2 =>
            have H := HA.out
            clear HA
            simp only [honeycomblaw8_BucketFills.l0] at H
            by_cases c16 : x38_2 < (l0.length : Int)
            · rw [if_pos c16] at H
              have c16b0 : decide (x38_2 < (l0.length : Int)) = true := decide_eq_true c16
              clear c16
              by_cases c17 : 0 ≤ x38_2
              · rw [if_pos c17] at H
                have c17b0 : decide (0 ≤ x38_2) = true := decide_eq_true c17
                clear c17
                by_cases c18 : x38_2 < (l0.length : Int)
                · rw [if_pos c18] at H
                  have c18b0 : decide (x38_2 < (l0.length : Int)) = true := decide_eq_true c18
                  clear c18
                  replace H := Option.bind_eq_some_iff.mp H
                  obtain ⟨t115, A190, H⟩ := H
                  replace H : (if t115 = true then ((bucket_Room.f x114000_2 x114001_2 x114002_2 x114003_2).bind fun t116 => ((honeycombref1_Zeros.f a1).bind fun t117 => ((bucket_Find.f x114000_2 x114001_2 x114002_2 x114003_2 (rdOf ByteArray.empty l0 x38_2)).bind fun bt119 => ((honeycombref1_CellSize.f (rdOf ByteArray.empty l0 x38_2) t117 0 0).bind fun t125 => (if bt119.2.2.2.2 = true then ((honeycombref1_CellSize.f bt119.1 bt119.2.1 bt119.2.2.1 bt119.2.2.2.1).bind fun t126 => (honeycomblaw8_BucketFills.j2 k2 a1 t116 (wrap64 (t125 - t126)) l0 (l0.length : Int) x38_2 x114000_2 x114001_2 x114002_2 x114003_2 (rdOf ByteArray.empty l0 x38_2) t117 0 0)) else (honeycomblaw8_BucketFills.j2 k2 a1 t116 t125 l0 (l0.length : Int) x38_2 x114000_2 x114001_2 x114002_2 x114003_2 (rdOf ByteArray.empty l0 x38_2) t117 0 0)))))) else (some true)) = some r := H
                  have A19 := Aside0.mk A190
                  clear A190
                  by_cases c20 : t115 = true
                  · subst c20
                    have H1 : ((bucket_Room.f x114000_2 x114001_2 x114002_2 x114003_2).bind fun t116 => ((honeycombref1_Zeros.f a1).bind fun t117 => ((bucket_Find.f x114000_2 x114001_2 x114002_2 x114003_2 (rdOf ByteArray.empty l0 x38_2)).bind fun bt119 => ((honeycombref1_CellSize.f (rdOf ByteArray.empty l0 x38_2) t117 0 0).bind fun t125 => (if bt119.2.2.2.2 = true then ((honeycombref1_CellSize.f bt119.1 bt119.2.1 bt119.2.2.1 bt119.2.2.2.1).bind fun t126 => (honeycomblaw8_BucketFills.j2 k2 a1 t116 (wrap64 (t125 - t126)) l0 (l0.length : Int) x38_2 x114000_2 x114001_2 x114002_2 x114003_2 (rdOf ByteArray.empty l0 x38_2) t117 0 0)) else (honeycomblaw8_BucketFills.j2 k2 a1 t116 t125 l0 (l0.length : Int) x38_2 x114000_2 x114001_2 x114002_2 x114003_2 (rdOf ByteArray.empty l0 x38_2) t117 0 0)))))) = some r := by rw [if_pos rfl] at H; exact H
                    clear H
                    have H := H1
                    clear H1
                    replace H := Option.bind_eq_some_iff.mp H
                    obtain ⟨t116, A210, H⟩ := H
                    replace H : ((honeycombref1_Zeros.f a1).bind fun t117 => ((bucket_Find.f x114000_2 x114001_2 x114002_2 x114003_2 (rdOf ByteArray.empty l0 x38_2)).bind fun bt119 => ((honeycombref1_CellSize.f (rdOf ByteArray.empty l0 x38_2) t117 0 0).bind fun t125 => (if bt119.2.2.2.2 = true then ((honeycombref1_CellSize.f bt119.1 bt119.2.1 bt119.2.2.1 bt119.2.2.2.1).bind fun t126 => (honeycomblaw8_BucketFills.j2 k2 a1 t116 (wrap64 (t125 - t126)) l0 (l0.length : Int) x38_2 x114000_2 x114001_2 x114002_2 x114003_2 (rdOf ByteArray.empty l0 x38_2) t117 0 0)) else (honeycomblaw8_BucketFills.j2 k2 a1 t116 t125 l0 (l0.length : Int) x38_2 x114000_2 x114001_2 x114002_2 x114003_2 (rdOf ByteArray.empty l0 x38_2) t117 0 0))))) = some r := H
                    have A21 := Aside0.mk A210
                    clear A210
                    replace H := Option.bind_eq_some_iff.mp H
                    obtain ⟨t117, A220, H⟩ := H
                    replace H : ((bucket_Find.f x114000_2 x114001_2 x114002_2 x114003_2 (rdOf ByteArray.empty l0 x38_2)).bind fun bt119 => ((honeycombref1_CellSize.f (rdOf ByteArray.empty l0 x38_2) t117 0 0).bind fun t125 => (if bt119.2.2.2.2 = true then ((honeycombref1_CellSize.f bt119.1 bt119.2.1 bt119.2.2.1 bt119.2.2.2.1).bind fun t126 => (honeycomblaw8_BucketFills.j2 k2 a1 t116 (wrap64 (t125 - t126)) l0 (l0.length : Int) x38_2 x114000_2 x114001_2 x114002_2 x114003_2 (rdOf ByteArray.empty l0 x38_2) t117 0 0)) else (honeycomblaw8_BucketFills.j2 k2 a1 t116 t125 l0 (l0.length : Int) x38_2 x114000_2 x114001_2 x114002_2 x114003_2 (rdOf ByteArray.empty l0 x38_2) t117 0 0)))) = some r := H
                    have A22 := Aside0.mk A220
                    clear A220
                    replace H := Option.bind_eq_some_iff.mp H
                    obtain ⟨⟨t119, t120, t121, t122, t123⟩, A230, H⟩ := H
                    replace H : ((honeycombref1_CellSize.f (rdOf ByteArray.empty l0 x38_2) t117 0 0).bind fun t125 => (if t123 = true then ((honeycombref1_CellSize.f t119 t120 t121 t122).bind fun t126 => (honeycomblaw8_BucketFills.j2 k2 a1 t116 (wrap64 (t125 - t126)) l0 (l0.length : Int) x38_2 x114000_2 x114001_2 x114002_2 x114003_2 (rdOf ByteArray.empty l0 x38_2) t117 0 0)) else (honeycomblaw8_BucketFills.j2 k2 a1 t116 t125 l0 (l0.length : Int) x38_2 x114000_2 x114001_2 x114002_2 x114003_2 (rdOf ByteArray.empty l0 x38_2) t117 0 0))) = some r := H
                    have A23 := Aside0.mk A230
                    clear A230
                    replace H := Option.bind_eq_some_iff.mp H
                    obtain ⟨t125, A240, H⟩ := H
                    replace H : (if t123 = true then ((honeycombref1_CellSize.f t119 t120 t121 t122).bind fun t126 => (honeycomblaw8_BucketFills.j2 k2 a1 t116 (wrap64 (t125 - t126)) l0 (l0.length : Int) x38_2 x114000_2 x114001_2 x114002_2 x114003_2 (rdOf ByteArray.empty l0 x38_2) t117 0 0)) else (honeycomblaw8_BucketFills.j2 k2 a1 t116 t125 l0 (l0.length : Int) x38_2 x114000_2 x114001_2 x114002_2 x114003_2 (rdOf ByteArray.empty l0 x38_2) t117 0 0)) = some r := H
                    have A24 := Aside0.mk A240
                    clear A240
                    have HC25 := Aside0.mk H
                    clear H
                    have p114 : 0 ≤ (x38_2 : Int) := of_decide_eq_true (by first | (with_reducible assumption) | assumption)
                    have q114 : x38_2 < (l0.length : Int) := of_decide_eq_true (by first | (with_reducible assumption) | assumption)
                    obtain ⟨ad114, e114, hx114_0⟩ := Kd.at_string HR0.out x38_2 p114 q114
                    cases e114
                    replace hx114_0 := (HB.out.cell (World.block_lt_of_cell? w _ hx114_0)).trans hx114_0
                    replace p114 := eq_true p114
                    replace q114 := eq_true q114
                    go_upto_if 59 with (first | ((with_reducible refine gate_callee (f := 13) rfl ?_); refine goesL_ (some 43) rfl rfl Try.func13 (by kernel_rfl) rfl #[.string (rdOf ByteArray.empty l0 x38_2)] rfl (by (try simp only [List.map_toArray, List.map_cons, List.map_nil]); first | done | rfl | (simp only [List.length_drop, List.length_take]; rfl)) ?_; (with_reducible refine (honeycombref1_Key.calls (rdOf ByteArray.empty l0 x38_2) true _ A19.out).mono ?_); rintro e w' ⟨rfl, ⟨nd, rfl⟩⟩; refine ⟨_, rfl, ?_⟩; (try (rw [drewN_self wr]; generalize hq_ : World.drewN wr _ = wr; have n0_ : Aside0 (wr.heap[gb113]? = some (.cells #[.int .i64 x114000_2, .int .i64 x114001_2, .int .i64 x114002_2, .string x114003_2] 23 (0, 0))) := ⟨by rw [← hq_]; exact (by (with_reducible repeat (first | refine blk_drewN ?_ _ | refine blk_drew ?_ | refine blk_alloc ?_ _)); exact BK113.out)⟩; have n1_ : Aside0 (Below w.heap.size w wr) := ⟨by rw [← hq_]; exact (by repeat (first | (with_reducible first | exact HB.out | apply below_alloc | apply pw_below_drewN | apply below_drew1 | refine below_set ?_ GE113.out) | exact HB.out))⟩; clear BK113 HB hq_; have BK113 := n0_; have HB := n1_; clear n0_ n1_)); have hcz26_0 : wr.cell? ⟨gb113, 0, none⟩ = some (.int .i64 x114000_2) := (blk_cell BK113.out 0).trans rfl; have hcz26_1 : wr.cell? ⟨gb113, 1, none⟩ = some (.int .i64 x114001_2) := (blk_cell BK113.out 1).trans rfl; have hcz26_2 : wr.cell? ⟨gb113, 2, none⟩ = some (.int .i64 x114002_2) := (blk_cell BK113.out 2).trans rfl; have hcz26_3 : wr.cell? ⟨gb113, 3, none⟩ = some (.string x114003_2) := (blk_cell BK113.out 3).trans rfl; have hfz26_0 := blk_frozen BK113.out 0; have hfz26_1 := blk_frozen BK113.out 1; have hfz26_2 := blk_frozen BK113.out 2; have hfz26_3 := blk_frozen BK113.out 3) | ((with_reducible refine gate_callee (f := 14) rfl ?_); refine goesL_ (some 46) rfl rfl Try.func14 (by kernel_rfl) rfl #[.agg #[.int .i64 x114000_2, .int .i64 x114001_2, .int .i64 x114002_2, .string x114003_2]] rfl (by (try simp only [List.map_toArray, List.map_cons, List.map_nil]); first | done | rfl | (simp only [List.length_drop, List.length_take]; rfl)) ?_; (with_reducible refine (bucket_Room.calls x114000_2 x114001_2 x114002_2 x114003_2 t116 _ A21.out).mono ?_); rintro e w27 ⟨rfl, hb⟩; refine ⟨_, rfl, ?_⟩; have n0_ := Aside0.mk (blk_below (g := gb113) (o := .cells #[.int .i64 x114000_2, .int .i64 x114001_2, .int .i64 x114002_2, .string x114003_2] 23 (0, 0)) (by (with_reducible repeat (first | refine blk_drewN ?_ _ | refine blk_drew ?_ | refine blk_alloc ?_ _)); exact BK113.out) hb); have n1_ := Aside0.mk (below_step (by repeat (first | (with_reducible first | exact HB.out | apply below_alloc | apply pw_below_drewN | apply below_drew1 | refine below_set ?_ GE113.out) | exact HB.out)) hb); clear BK113; clear HB; have BK113 := n0_; have HB := n1_; clear n0_ n1_; (try clear hb); (try clear hb2); (try clear hk); (try clear hi)) | ((with_reducible refine gate_callee (f := 15) rfl ?_); refine goesL_ (some 49) rfl rfl Try.func15 (by kernel_rfl) rfl #[.int .i64 a1] rfl (by (try simp only [List.map_toArray, List.map_cons, List.map_nil]); first | done | rfl | (simp only [List.length_drop, List.length_take]; rfl)) ?_; (with_reducible refine (honeycombref1_Zeros.calls a1 t117 _ A22.out).mono ?_); rintro e w28 ⟨rfl, hb⟩; refine ⟨_, rfl, ?_⟩; have n0_ := Aside0.mk (blk_below (g := gb113) (o := .cells #[.int .i64 x114000_2, .int .i64 x114001_2, .int .i64 x114002_2, .string x114003_2] 23 (0, 0)) (by (with_reducible repeat (first | refine blk_drewN ?_ _ | refine blk_drew ?_ | refine blk_alloc ?_ _)); exact BK113.out) hb); have n1_ := Aside0.mk (below_step (by repeat (first | (with_reducible first | exact HB.out | apply below_alloc | apply pw_below_drewN | apply below_drew1 | refine below_set ?_ GE113.out) | exact HB.out)) hb); clear BK113; clear HB; have BK113 := n0_; have HB := n1_; clear n0_ n1_; (try clear hb); (try clear hb2); (try clear hk); (try clear hi)) | ((with_reducible refine gate_dst (N := 9) rfl ?_); refine box_event ?hg (N := 9) ?hd (cs := #[.string (⟨#[]⟩ : ByteArray), .string (⟨#[]⟩ : ByteArray), .int .i64 0, .int .i64 0]) (t := 25) ?hr ?_; (case hd => rfl); (case hg => rfl); (case hr => first | (go_simp; done) | (go_simp; rfl)); intro gb118 hg w29 hbox hb; have n0_ := Aside0.mk (blk_below (g := gb113) (o := .cells #[.int .i64 x114000_2, .int .i64 x114001_2, .int .i64 x114002_2, .string x114003_2] 23 (0, 0)) (by (with_reducible repeat (first | refine blk_drewN ?_ _ | refine blk_drew ?_ | refine blk_alloc ?_ _)); exact BK113.out) hb); have n1_ := Aside0.mk (below_step (by repeat (first | (with_reducible first | exact HB.out | apply below_alloc | apply pw_below_drewN | apply below_drew1 | refine below_set ?_ GE113.out) | exact HB.out)) hb); have n2_ := Aside0.mk (hbox); have n3_ := Aside0.mk ((by rw [hg]; exact (below_size (by repeat (first | (with_reducible first | exact HB.out | apply below_alloc | apply pw_below_drewN | apply below_drew1 | refine below_set ?_ GE113.out) | exact HB.out))) : w.heap.size ≤ gb118)); have n4_ := Aside0.mk ((by rw [hg]; exact (below_size (by repeat (first | (with_reducible first | exact HB.out | apply below_alloc | apply pw_below_drewN | apply below_drew1 | refine below_set ?_ GE113.out) | exact HB.out))) : w.heap.size ≤ gb118)); have n5_ := Aside0.mk ((by rw [hg]; exact Nat.ne_of_lt (blk_lt (g := gb113) (o := .cells #[.int .i64 x114000_2, .int .i64 x114001_2, .int .i64 x114002_2, .string x114003_2] 23 (0, 0)) (by (with_reducible repeat (first | refine blk_drewN ?_ _ | refine blk_drew ?_ | refine blk_alloc ?_ _)); exact BK113.out)) : gb113 ≠ gb118)); have n6_ := Aside0.mk ((by rw [hg]; exact Nat.ne_of_gt (blk_lt (g := gb113) (o := .cells #[.int .i64 x114000_2, .int .i64 x114001_2, .int .i64 x114002_2, .string x114003_2] 23 (0, 0)) (by (with_reducible repeat (first | refine blk_drewN ?_ _ | refine blk_drew ?_ | refine blk_alloc ?_ _)); exact BK113.out)) : gb118 ≠ gb113)); clear BK113; clear HB; have BK113 := n0_; have HB := n1_; have BK118 := n2_; have GW118 := n3_; have GE118 := n4_; have NB113_118 := n5_; have NB118_113 := n6_; clear n0_ n1_ n2_ n3_ n4_ n5_ n6_; clear hb hbox hg; have hnb30 := NB118_113.out; have hnc30 := NB113_118.out; have hcz31_0 : w29.cell? ⟨gb118, 0, none⟩ = some (.string (⟨#[]⟩ : ByteArray)) := (blk_cell BK118.out 0).trans rfl; have hcz31_1 : w29.cell? ⟨gb118, 1, none⟩ = some (.string (⟨#[]⟩ : ByteArray)) := (blk_cell BK118.out 1).trans rfl; have hcz31_2 : w29.cell? ⟨gb118, 2, none⟩ = some (.int .i64 0) := (blk_cell BK118.out 2).trans rfl; have hcz31_3 : w29.cell? ⟨gb118, 3, none⟩ = some (.int .i64 0) := (blk_cell BK118.out 3).trans rfl; have hfz31_0 := blk_frozen BK118.out 0; have hfz31_1 := blk_frozen BK118.out 1; have hfz31_2 := blk_frozen BK118.out 2; have hfz31_3 := blk_frozen BK118.out 3; have hcz32_0 : w29.cell? ⟨gb113, 0, none⟩ = some (.int .i64 x114000_2) := (blk_cell BK113.out 0).trans rfl; have hcz32_1 : w29.cell? ⟨gb113, 1, none⟩ = some (.int .i64 x114001_2) := (blk_cell BK113.out 1).trans rfl; have hcz32_2 : w29.cell? ⟨gb113, 2, none⟩ = some (.int .i64 x114002_2) := (blk_cell BK113.out 2).trans rfl; have hcz32_3 : w29.cell? ⟨gb113, 3, none⟩ = some (.string x114003_2) := (blk_cell BK113.out 3).trans rfl; have hfz32_0 := blk_frozen BK113.out 0; have hfz32_1 := blk_frozen BK113.out 1; have hfz32_2 := blk_frozen BK113.out 2; have hfz32_3 := blk_frozen BK113.out 3) | ((with_reducible refine gate_callee (f := 9) rfl ?_); refine goesL_ (some 54) rfl rfl Try.func9 (by kernel_rfl) rfl #[.agg #[.int .i64 x114000_2, .int .i64 x114001_2, .int .i64 x114002_2, .string x114003_2], .string (rdOf ByteArray.empty l0 x38_2)] rfl (by (try simp only [List.map_toArray, List.map_cons, List.map_nil]); first | done | rfl | (simp only [List.length_drop, List.length_take]; rfl)) ?_; (with_reducible refine (bucket_Find.calls x114000_2 x114001_2 x114002_2 x114003_2 (rdOf ByteArray.empty l0 x38_2) t119 t120 t121 t122 t123 _ A23.out).mono ?_); rintro e w33 ⟨rfl, hb⟩; refine ⟨_, rfl, ?_⟩; have n0_ := Aside0.mk (blk_below (g := gb113) (o := .cells #[.int .i64 x114000_2, .int .i64 x114001_2, .int .i64 x114002_2, .string x114003_2] 23 (0, 0)) (by (with_reducible repeat (first | refine blk_drewN ?_ _ | refine blk_drew ?_ | refine blk_alloc ?_ _)); refine blk_far ?_ NB113_118.out _; (with_reducible repeat (first | refine blk_drewN ?_ _ | refine blk_drew ?_ | refine blk_alloc ?_ _)); refine blk_far ?_ NB113_118.out _; (with_reducible repeat (first | refine blk_drewN ?_ _ | refine blk_drew ?_ | refine blk_alloc ?_ _)); refine blk_far ?_ NB113_118.out _; (with_reducible repeat (first | refine blk_drewN ?_ _ | refine blk_drew ?_ | refine blk_alloc ?_ _)); refine blk_far ?_ NB113_118.out _; (with_reducible repeat (first | refine blk_drewN ?_ _ | refine blk_drew ?_ | refine blk_alloc ?_ _)); exact BK113.out) hb); have n1_ := Aside0.mk (blk_below (g := gb118) (o := .cells #[.string (rdOf ByteArray.empty l0 x38_2), .string t117, .int .i64 0, .int .i64 0] 25 (0, 0)) (by (with_reducible repeat (first | refine blk_drewN ?_ _ | refine blk_drew ?_ | refine blk_alloc ?_ _)); refine blk_put (cs := #[.string (rdOf ByteArray.empty l0 x38_2), .string t117, .int .i64 0, .int .i64 0]) ?_ 3 _ rfl; (with_reducible repeat (first | refine blk_drewN ?_ _ | refine blk_drew ?_ | refine blk_alloc ?_ _)); refine blk_put (cs := #[.string (rdOf ByteArray.empty l0 x38_2), .string t117, .int .i64 0, .int .i64 0]) ?_ 2 _ rfl; (with_reducible repeat (first | refine blk_drewN ?_ _ | refine blk_drew ?_ | refine blk_alloc ?_ _)); refine blk_put (cs := #[.string (rdOf ByteArray.empty l0 x38_2), .string (⟨#[]⟩ : ByteArray), .int .i64 0, .int .i64 0]) ?_ 1 _ rfl; (with_reducible repeat (first | refine blk_drewN ?_ _ | refine blk_drew ?_ | refine blk_alloc ?_ _)); refine blk_put (cs := #[.string (⟨#[]⟩ : ByteArray), .string (⟨#[]⟩ : ByteArray), .int .i64 0, .int .i64 0]) ?_ 0 _ rfl; (with_reducible repeat (first | refine blk_drewN ?_ _ | refine blk_drew ?_ | refine blk_alloc ?_ _)); exact BK118.out) hb); have n2_ := Aside0.mk (below_step (by repeat (first | (with_reducible first | exact HB.out | apply below_alloc | apply pw_below_drewN | apply below_drew1 | refine below_set ?_ GE113.out | refine below_set ?_ GE118.out) | exact HB.out)) hb); clear BK113; clear BK118; clear HB; have BK113 := n0_; have BK118 := n1_; have HB := n2_; clear n0_ n1_ n2_; (try clear hb); (try clear hb2); (try clear hk); (try clear hi)) | ((with_reducible refine gate_dst (N := 10) rfl ?_); refine box_event ?hg (N := 10) ?hd (cs := #[.string (⟨#[]⟩ : ByteArray), .string (⟨#[]⟩ : ByteArray), .int .i64 0, .int .i64 0]) (t := 25) ?hr ?_; (case hd => rfl); (case hg => rfl); (case hr => first | (go_simp; done) | (go_simp; rfl)); intro gb124 hg w34 hbox hb; have n0_ := Aside0.mk (blk_below (g := gb113) (o := .cells #[.int .i64 x114000_2, .int .i64 x114001_2, .int .i64 x114002_2, .string x114003_2] 23 (0, 0)) (by (with_reducible repeat (first | refine blk_drewN ?_ _ | refine blk_drew ?_ | refine blk_alloc ?_ _)); exact BK113.out) hb); have n1_ := Aside0.mk (blk_below (g := gb118) (o := .cells #[.string (rdOf ByteArray.empty l0 x38_2), .string t117, .int .i64 0, .int .i64 0] 25 (0, 0)) (by (with_reducible repeat (first | refine blk_drewN ?_ _ | refine blk_drew ?_ | refine blk_alloc ?_ _)); exact BK118.out) hb); have n2_ := Aside0.mk (below_step (by repeat (first | (with_reducible first | exact HB.out | apply below_alloc | apply pw_below_drewN | apply below_drew1 | refine below_set ?_ GE113.out | refine below_set ?_ GE118.out) | exact HB.out)) hb); have n3_ := Aside0.mk (hbox); have n4_ := Aside0.mk ((by rw [hg]; exact (below_size (by repeat (first | (with_reducible first | exact HB.out | apply below_alloc | apply pw_below_drewN | apply below_drew1 | refine below_set ?_ GE113.out | refine below_set ?_ GE118.out) | exact HB.out))) : w.heap.size ≤ gb124)); have n5_ := Aside0.mk ((by rw [hg]; exact (below_size (by repeat (first | (with_reducible first | exact HB.out | apply below_alloc | apply pw_below_drewN | apply below_drew1 | refine below_set ?_ GE113.out | refine below_set ?_ GE118.out) | exact HB.out))) : w.heap.size ≤ gb124)); have n6_ := Aside0.mk ((by rw [hg]; exact Nat.ne_of_lt (blk_lt (g := gb113) (o := .cells #[.int .i64 x114000_2, .int .i64 x114001_2, .int .i64 x114002_2, .string x114003_2] 23 (0, 0)) (by (with_reducible repeat (first | refine blk_drewN ?_ _ | refine blk_drew ?_ | refine blk_alloc ?_ _)); exact BK113.out)) : gb113 ≠ gb124)); have n7_ := Aside0.mk ((by rw [hg]; exact Nat.ne_of_gt (blk_lt (g := gb113) (o := .cells #[.int .i64 x114000_2, .int .i64 x114001_2, .int .i64 x114002_2, .string x114003_2] 23 (0, 0)) (by (with_reducible repeat (first | refine blk_drewN ?_ _ | refine blk_drew ?_ | refine blk_alloc ?_ _)); exact BK113.out)) : gb124 ≠ gb113)); have n8_ := Aside0.mk ((by rw [hg]; exact Nat.ne_of_lt (blk_lt (g := gb118) (o := .cells #[.string (rdOf ByteArray.empty l0 x38_2), .string t117, .int .i64 0, .int .i64 0] 25 (0, 0)) (by (with_reducible repeat (first | refine blk_drewN ?_ _ | refine blk_drew ?_ | refine blk_alloc ?_ _)); exact BK118.out)) : gb118 ≠ gb124)); have n9_ := Aside0.mk ((by rw [hg]; exact Nat.ne_of_gt (blk_lt (g := gb118) (o := .cells #[.string (rdOf ByteArray.empty l0 x38_2), .string t117, .int .i64 0, .int .i64 0] 25 (0, 0)) (by (with_reducible repeat (first | refine blk_drewN ?_ _ | refine blk_drew ?_ | refine blk_alloc ?_ _)); exact BK118.out)) : gb124 ≠ gb118)); clear BK113; clear BK118; clear HB; have BK113 := n0_; have BK118 := n1_; have HB := n2_; have BK124 := n3_; have GW124 := n4_; have GE124 := n5_; have NB113_124 := n6_; have NB124_113 := n7_; have NB118_124 := n8_; have NB124_118 := n9_; clear n0_ n1_ n2_ n3_ n4_ n5_ n6_ n7_ n8_ n9_; clear hb hbox hg; have hnb35 := NB124_113.out; have hnc35 := NB113_124.out; have hnb36 := NB124_118.out; have hnc36 := NB118_124.out; have hcz37_0 : w34.cell? ⟨gb124, 0, none⟩ = some (.string (⟨#[]⟩ : ByteArray)) := (blk_cell BK124.out 0).trans rfl; have hcz37_1 : w34.cell? ⟨gb124, 1, none⟩ = some (.string (⟨#[]⟩ : ByteArray)) := (blk_cell BK124.out 1).trans rfl; have hcz37_2 : w34.cell? ⟨gb124, 2, none⟩ = some (.int .i64 0) := (blk_cell BK124.out 2).trans rfl; have hcz37_3 : w34.cell? ⟨gb124, 3, none⟩ = some (.int .i64 0) := (blk_cell BK124.out 3).trans rfl; have hfz37_0 := blk_frozen BK124.out 0; have hfz37_1 := blk_frozen BK124.out 1; have hfz37_2 := blk_frozen BK124.out 2; have hfz37_3 := blk_frozen BK124.out 3; have hcz38_0 : w34.cell? ⟨gb118, 0, none⟩ = some (.string (rdOf ByteArray.empty l0 x38_2)) := (blk_cell BK118.out 0).trans rfl; have hcz38_1 : w34.cell? ⟨gb118, 1, none⟩ = some (.string t117) := (blk_cell BK118.out 1).trans rfl; have hcz38_2 : w34.cell? ⟨gb118, 2, none⟩ = some (.int .i64 0) := (blk_cell BK118.out 2).trans rfl; have hcz38_3 : w34.cell? ⟨gb118, 3, none⟩ = some (.int .i64 0) := (blk_cell BK118.out 3).trans rfl; have hfz38_0 := blk_frozen BK118.out 0; have hfz38_1 := blk_frozen BK118.out 1; have hfz38_2 := blk_frozen BK118.out 2; have hfz38_3 := blk_frozen BK118.out 3) | ((with_reducible refine gate_callee (f := 16) rfl ?_); refine goesL_ (some 58) rfl rfl Try.func16 (by kernel_rfl) rfl #[.agg #[.string (rdOf ByteArray.empty l0 x38_2), .string t117, .int .i64 0, .int .i64 0]] rfl (by (try simp only [List.map_toArray, List.map_cons, List.map_nil]); first | done | rfl | (simp only [List.length_drop, List.length_take]; rfl)) ?_; (with_reducible refine (honeycombref1_CellSize.calls (rdOf ByteArray.empty l0 x38_2) t117 0 0 t125 _ A24.out).mono ?_); rintro e w39 ⟨rfl, hb⟩; refine ⟨_, rfl, ?_⟩; have n0_ := Aside0.mk (blk_below (g := gb113) (o := .cells #[.int .i64 x114000_2, .int .i64 x114001_2, .int .i64 x114002_2, .string x114003_2] 23 (0, 0)) (by (with_reducible repeat (first | refine blk_drewN ?_ _ | refine blk_drew ?_ | refine blk_alloc ?_ _)); refine blk_far ?_ NB113_124.out _; (with_reducible repeat (first | refine blk_drewN ?_ _ | refine blk_drew ?_ | refine blk_alloc ?_ _)); refine blk_far ?_ NB113_124.out _; (with_reducible repeat (first | refine blk_drewN ?_ _ | refine blk_drew ?_ | refine blk_alloc ?_ _)); refine blk_far ?_ NB113_124.out _; (with_reducible repeat (first | refine blk_drewN ?_ _ | refine blk_drew ?_ | refine blk_alloc ?_ _)); refine blk_far ?_ NB113_124.out _; (with_reducible repeat (first | refine blk_drewN ?_ _ | refine blk_drew ?_ | refine blk_alloc ?_ _)); exact BK113.out) hb); have n1_ := Aside0.mk (blk_below (g := gb118) (o := .cells #[.string (rdOf ByteArray.empty l0 x38_2), .string t117, .int .i64 0, .int .i64 0] 25 (0, 0)) (by (with_reducible repeat (first | refine blk_drewN ?_ _ | refine blk_drew ?_ | refine blk_alloc ?_ _)); refine blk_far ?_ NB118_124.out _; (with_reducible repeat (first | refine blk_drewN ?_ _ | refine blk_drew ?_ | refine blk_alloc ?_ _)); refine blk_far ?_ NB118_124.out _; (with_reducible repeat (first | refine blk_drewN ?_ _ | refine blk_drew ?_ | refine blk_alloc ?_ _)); refine blk_far ?_ NB118_124.out _; (with_reducible repeat (first | refine blk_drewN ?_ _ | refine blk_drew ?_ | refine blk_alloc ?_ _)); refine blk_far ?_ NB118_124.out _; (with_reducible repeat (first | refine blk_drewN ?_ _ | refine blk_drew ?_ | refine blk_alloc ?_ _)); exact BK118.out) hb); have n2_ := Aside0.mk (blk_below (g := gb124) (o := .cells #[.string t119, .string t120, .int .i64 t121, .int .i64 t122] 25 (0, 0)) (by (with_reducible repeat (first | refine blk_drewN ?_ _ | refine blk_drew ?_ | refine blk_alloc ?_ _)); refine blk_put (cs := #[.string t119, .string t120, .int .i64 t121, .int .i64 0]) ?_ 3 _ rfl; (with_reducible repeat (first | refine blk_drewN ?_ _ | refine blk_drew ?_ | refine blk_alloc ?_ _)); refine blk_put (cs := #[.string t119, .string t120, .int .i64 0, .int .i64 0]) ?_ 2 _ rfl; (with_reducible repeat (first | refine blk_drewN ?_ _ | refine blk_drew ?_ | refine blk_alloc ?_ _)); refine blk_put (cs := #[.string t119, .string (⟨#[]⟩ : ByteArray), .int .i64 0, .int .i64 0]) ?_ 1 _ rfl; (with_reducible repeat (first | refine blk_drewN ?_ _ | refine blk_drew ?_ | refine blk_alloc ?_ _)); refine blk_put (cs := #[.string (⟨#[]⟩ : ByteArray), .string (⟨#[]⟩ : ByteArray), .int .i64 0, .int .i64 0]) ?_ 0 _ rfl; (with_reducible repeat (first | refine blk_drewN ?_ _ | refine blk_drew ?_ | refine blk_alloc ?_ _)); exact BK124.out) hb); have n3_ := Aside0.mk (below_step (by repeat (first | (with_reducible first | exact HB.out | apply below_alloc | apply pw_below_drewN | apply below_drew1 | refine below_set ?_ GE113.out | refine below_set ?_ GE118.out | refine below_set ?_ GE124.out) | exact HB.out)) hb); clear BK113; clear BK118; clear BK124; clear HB; have BK113 := n0_; have BK118 := n1_; have BK124 := n2_; have HB := n3_; clear n0_ n1_ n2_ n3_; (try clear hb); (try clear hb2); (try clear hk); (try clear hi)))
                    (try simp only [Act.put, List.setIfInBounds_toArray, List.set_cons_zero, List.set_cons_succ])
                    go_cut [12] (fun v12 wc => ∃ (kq : Nat) (x12_24 : Int), v12 = .int .i64 x12_24 ∧ Aside0 (honeycomblaw8_BucketFills.j2 kq a1 t116 x12_24 l0 (l0.length : Int) x38_2 x114000_2 x114001_2 x114002_2 x114003_2 (rdOf ByteArray.empty l0 x38_2) t117 0 0 = some r) ∧ Aside0 (kq ≤ k2) ∧ Aside0 (wc.heap[gb113]? = some (.cells #[.int .i64 x114000_2, .int .i64 x114001_2, .int .i64 x114002_2, .string x114003_2] 23 (0, 0))) ∧ Aside0 (wc.heap[gb118]? = some (.cells #[.string (rdOf ByteArray.empty l0 x38_2), .string t117, .int .i64 0, .int .i64 0] 25 (0, 0))) ∧ Aside0 (wc.heap[gb124]? = some (.cells #[.string t119, .string t120, .int .i64 t121, .int .i64 t122] 25 (0, 0))) ∧ Aside0 (Below w.heap.size w wc))
                    case first =>
                      have H := HC25.out
                      clear HC25
                      by_cases c40 : t123 = true
                      · subst c40
                        have H1 : ((honeycombref1_CellSize.f t119 t120 t121 t122).bind fun t126 => (honeycomblaw8_BucketFills.j2 k2 a1 t116 (wrap64 (t125 - t126)) l0 (l0.length : Int) x38_2 x114000_2 x114001_2 x114002_2 x114003_2 (rdOf ByteArray.empty l0 x38_2) t117 0 0)) = some r := by rw [if_pos rfl] at H; exact H
                        clear H
                        have H := H1
                        clear H1
                        replace H := Option.bind_eq_some_iff.mp H
                        obtain ⟨t126, A410, H⟩ := H
                        replace H : (honeycomblaw8_BucketFills.j2 k2 a1 t116 (wrap64 (t125 - t126)) l0 (l0.length : Int) x38_2 x114000_2 x114001_2 x114002_2 x114003_2 (rdOf ByteArray.empty l0 x38_2) t117 0 0) = some r := H
                        have A41 := Aside0.mk A410
                        clear A410
                        have H' := Aside0.mk H
                        clear H
                        have hnb42 := NB124_113.out
                        have hnc42 := NB113_124.out
                        have hnb43 := NB124_118.out
                        have hnc43 := NB118_124.out
                        have hcz44_0 : w39.cell? ⟨gb124, 0, none⟩ = some (.string t119) := (blk_cell BK124.out 0).trans rfl
                        have hcz44_1 : w39.cell? ⟨gb124, 1, none⟩ = some (.string t120) := (blk_cell BK124.out 1).trans rfl
                        have hcz44_2 : w39.cell? ⟨gb124, 2, none⟩ = some (.int .i64 t121) := (blk_cell BK124.out 2).trans rfl
                        have hcz44_3 : w39.cell? ⟨gb124, 3, none⟩ = some (.int .i64 t122) := (blk_cell BK124.out 3).trans rfl
                        have hfz44_0 := blk_frozen BK124.out 0
                        have hfz44_1 := blk_frozen BK124.out 1
                        have hfz44_2 := blk_frozen BK124.out 2
                        have hfz44_3 := blk_frozen BK124.out 3
                        go_wp2_with (first | ((with_reducible refine gate_callee (f := 16) rfl ?_); refine goesL_ (some 62) rfl rfl Try.func16 (by kernel_rfl) rfl #[.agg #[.string t119, .string t120, .int .i64 t121, .int .i64 t122]] rfl (by (try simp only [List.map_toArray, List.map_cons, List.map_nil]); first | done | rfl | (simp only [List.length_drop, List.length_take]; rfl)) ?_; (with_reducible refine (honeycombref1_CellSize.calls t119 t120 t121 t122 t126 _ A41.out).mono ?_); rintro e w45 ⟨rfl, hb⟩; refine ⟨_, rfl, ?_⟩; have n0_ := Aside0.mk (blk_below (g := gb113) (o := .cells #[.int .i64 x114000_2, .int .i64 x114001_2, .int .i64 x114002_2, .string x114003_2] 23 (0, 0)) (by (with_reducible repeat (first | refine blk_drewN ?_ _ | refine blk_drew ?_ | refine blk_alloc ?_ _)); exact BK113.out) hb); have n1_ := Aside0.mk (blk_below (g := gb118) (o := .cells #[.string (rdOf ByteArray.empty l0 x38_2), .string t117, .int .i64 0, .int .i64 0] 25 (0, 0)) (by (with_reducible repeat (first | refine blk_drewN ?_ _ | refine blk_drew ?_ | refine blk_alloc ?_ _)); exact BK118.out) hb); have n2_ := Aside0.mk (blk_below (g := gb124) (o := .cells #[.string t119, .string t120, .int .i64 t121, .int .i64 t122] 25 (0, 0)) (by (with_reducible repeat (first | refine blk_drewN ?_ _ | refine blk_drew ?_ | refine blk_alloc ?_ _)); exact BK124.out) hb); have n3_ := Aside0.mk (below_step (by repeat (first | (with_reducible first | exact HB.out | apply below_alloc | apply pw_below_drewN | apply below_drew1 | refine below_set ?_ GE113.out | refine below_set ?_ GE118.out | refine below_set ?_ GE124.out) | exact HB.out)) hb); clear BK113; clear BK118; clear BK124; clear HB; have BK113 := n0_; have BK118 := n1_; have BK124 := n2_; have HB := n3_; clear n0_ n1_ n2_ n3_; (try clear hb); (try clear hb2); (try clear hk); (try clear hi)))
                        go_meet
                        case rel => exact ⟨_, (wrap64 (t125 - t126)), (by first | rfl | (simp; done) | (simp [*]; done)), H', ⟨by have := HJ2.out; have := HK2.out; first | omega | exact Nat.le_refl _⟩, ⟨by (with_reducible repeat (first | refine blk_drewN ?_ _ | refine blk_drew ?_ | refine blk_alloc ?_ _)); exact BK113.out⟩, ⟨by (with_reducible repeat (first | refine blk_drewN ?_ _ | refine blk_drew ?_ | refine blk_alloc ?_ _)); exact BK118.out⟩, ⟨by (with_reducible repeat (first | refine blk_drewN ?_ _ | refine blk_drew ?_ | refine blk_alloc ?_ _)); exact BK124.out⟩, ⟨by repeat (first | (with_reducible first | exact HB.out | apply below_alloc | apply pw_below_drewN | apply below_drew1 | refine below_set ?_ GE113.out | refine below_set ?_ GE118.out | refine below_set ?_ GE124.out) | exact HB.out)⟩⟩
                      · replace c40 := Bool.eq_false_iff.mpr c40
                        subst c40
                        have H1 : (honeycomblaw8_BucketFills.j2 k2 a1 t116 t125 l0 (l0.length : Int) x38_2 x114000_2 x114001_2 x114002_2 x114003_2 (rdOf ByteArray.empty l0 x38_2) t117 0 0) = some r := by rw [if_neg (show ¬ (false = true) by decide)] at H; exact H
                        clear H
                        have H := H1
                        clear H1
                        have H' := Aside0.mk H
                        clear H
                        go_wp2
                        go_meet
                        case rel => exact ⟨_, (t125), (by first | rfl | (simp; done) | (simp [*]; done)), H', ⟨by have := HJ2.out; have := HK2.out; first | omega | exact Nat.le_refl _⟩, ⟨by (with_reducible repeat (first | refine blk_drewN ?_ _ | refine blk_drew ?_ | refine blk_alloc ?_ _)); exact BK113.out⟩, ⟨by (with_reducible repeat (first | refine blk_drewN ?_ _ | refine blk_drew ?_ | refine blk_alloc ?_ _)); exact BK118.out⟩, ⟨by (with_reducible repeat (first | refine blk_drewN ?_ _ | refine blk_drew ?_ | refine blk_alloc ?_ _)); exact BK124.out⟩, ⟨by repeat (first | (with_reducible first | exact HB.out | apply below_alloc | apply pw_below_drewN | apply below_drew1 | refine below_set ?_ GE113.out | refine below_set ?_ GE118.out | refine below_set ?_ GE124.out) | exact HB.out)⟩⟩
                    case rest =>
                      clear HC25
                      try clear c1
                      try clear p1
                      try clear q1
                      try clear hx1
                      try clear c2
                      try clear p2
                      try clear c3
                      try clear c4
                      try clear c4b0
                      try clear c4b1
                      try clear c5
                      try clear c5b0
                      try clear c6
                      try clear c6b0
                      try clear p6
                      try clear c8
                      try clear c9
                      try clear p11
                      try clear q11
                      try clear hx11
                      try clear c12
                      try clear c13
                      try clear c14
                      try clear c15
                      try clear c16
                      try clear c16b0
                      try clear c17
                      try clear c17b0
                      try clear c18
                      try clear c18b0
                      try clear c20
                      try clear c30
                      try clear c35
                      try clear c36
                      try clear c40
                      try clear c42
                      try clear c43
                      try clear hcz15_0
                      try clear hcz15_1
                      try clear hcz15_2
                      try clear hcz15_3
                      try clear hcz26_0
                      try clear hcz26_1
                      try clear hcz26_2
                      try clear hcz26_3
                      try clear hcz31_0
                      try clear hcz31_1
                      try clear hcz31_2
                      try clear hcz31_3
                      try clear hcz32_0
                      try clear hcz32_1
                      try clear hcz32_2
                      try clear hcz32_3
                      try clear hcz37_0
                      try clear hcz37_1
                      try clear hcz37_2
                      try clear hcz37_3
                      try clear hcz38_0
                      try clear hcz38_1
                      try clear hcz38_2
                      try clear hcz38_3
                      try clear hcz44_0
                      try clear hcz44_1
                      try clear hcz44_2
                      try clear hcz44_3
                      try clear hfz15_0
                      try clear hfz15_1
                      try clear hfz15_2
                      try clear hfz15_3
                      try clear hfz26_0
                      try clear hfz26_1
                      try clear hfz26_2
                      try clear hfz26_3
                      try clear hfz31_0
                      try clear hfz31_1
                      try clear hfz31_2
                      try clear hfz31_3
                      try clear hfz32_0
                      try clear hfz32_1
                      try clear hfz32_2
                      try clear hfz32_3
                      try clear hfz37_0
                      try clear hfz37_1
                      try clear hfz37_2
                      try clear hfz37_3
                      try clear hfz38_0
                      try clear hfz38_1
                      try clear hfz38_2
                      try clear hfz38_3
                      try clear hfz44_0
                      try clear hfz44_1
                      try clear hfz44_2
                      try clear hfz44_3
                      try clear hx114_0
                      try clear p114
                      try clear p2
                      try clear q114
                      obtain ⟨kq, x12_24, rfl, HA, HJ24, BK113, BK118, BK124, HB⟩ := hcut
                      cases kq with
                      | zero => exact absurd HA.out (by simp [honeycomblaw8_BucketFills.j2])
                      | succ kj24 =>
                        have H := HA.out
                        clear HA
                        simp only [honeycomblaw8_BucketFills.j2] at H
                        replace H := Option.bind_eq_some_iff.mp H
                        obtain ⟨⟨t127, t128, t129, t130, t131⟩, A460, H⟩ := H
                        replace H : (if ((t131 == 0) != (decide (x12_24 ≤ t116))) = true then (honeycomblaw8_BucketFills.j3 kj24 a1 t116 x12_24 t131 l0 (l0.length : Int) x38_2 true x114000_2 x114001_2 x114002_2 x114003_2 t127 t128 t129 t130) else (if t131 = 0 then (honeycomblaw8_BucketFills.j3 kj24 a1 t116 x12_24 t131 l0 (l0.length : Int) x38_2 false x114000_2 x114001_2 x114002_2 x114003_2 t127 t128 t129 t130) else (honeycomblaw8_BucketFills.j3 kj24 a1 t116 x12_24 t131 l0 (l0.length : Int) x38_2 (t131 != 13) x114000_2 x114001_2 x114002_2 x114003_2 t127 t128 t129 t130))) = some r := H
                        have A46 := Aside0.mk A460
                        clear A460
                        have HC47 := Aside0.mk H
                        clear H
                        have hnb48 := NB113_118.out
                        have hnc48 := NB118_113.out
                        have hnb49 := NB113_124.out
                        have hnc49 := NB124_113.out
                        have hcz50_0 : wc.cell? ⟨gb113, 0, none⟩ = some (.int .i64 x114000_2) := (blk_cell BK113.out 0).trans rfl
                        have hcz50_1 : wc.cell? ⟨gb113, 1, none⟩ = some (.int .i64 x114001_2) := (blk_cell BK113.out 1).trans rfl
                        have hcz50_2 : wc.cell? ⟨gb113, 2, none⟩ = some (.int .i64 x114002_2) := (blk_cell BK113.out 2).trans rfl
                        have hcz50_3 : wc.cell? ⟨gb113, 3, none⟩ = some (.string x114003_2) := (blk_cell BK113.out 3).trans rfl
                        have hfz50_0 := blk_frozen BK113.out 0
                        have hfz50_1 := blk_frozen BK113.out 1
                        have hfz50_2 := blk_frozen BK113.out 2
                        have hfz50_3 := blk_frozen BK113.out 3
                        have hnb51 := NB118_124.out
                        have hnc51 := NB124_118.out
                        have hcz52_0 : wc.cell? ⟨gb118, 0, none⟩ = some (.string (rdOf ByteArray.empty l0 x38_2)) := (blk_cell BK118.out 0).trans rfl
                        have hcz52_1 : wc.cell? ⟨gb118, 1, none⟩ = some (.string t117) := (blk_cell BK118.out 1).trans rfl
                        have hcz52_2 : wc.cell? ⟨gb118, 2, none⟩ = some (.int .i64 0) := (blk_cell BK118.out 2).trans rfl
                        have hcz52_3 : wc.cell? ⟨gb118, 3, none⟩ = some (.int .i64 0) := (blk_cell BK118.out 3).trans rfl
                        have hfz52_0 := blk_frozen BK118.out 0
                        have hfz52_1 := blk_frozen BK118.out 1
                        have hfz52_2 := blk_frozen BK118.out 2
                        have hfz52_3 := blk_frozen BK118.out 3
                        go_upto_region 16 with (first | ((with_reducible refine gate_callee (f := 10) rfl ?_); refine goesL_ (some 67) rfl rfl Try.func10 (by kernel_rfl) rfl #[.agg #[.int .i64 x114000_2, .int .i64 x114001_2, .int .i64 x114002_2, .string x114003_2], .agg #[.string (rdOf ByteArray.empty l0 x38_2), .string t117, .int .i64 0, .int .i64 0]] rfl (by (try simp only [List.map_toArray, List.map_cons, List.map_nil]); first | done | rfl | (simp only [List.length_drop, List.length_take]; rfl)) ?_; (with_reducible refine (bucket_Set.calls x114000_2 x114001_2 x114002_2 x114003_2 (rdOf ByteArray.empty l0 x38_2) t117 0 0 t127 t128 t129 t130 t131 _ A46.out).mono ?_); rintro e w53 ⟨rfl, hb⟩; refine ⟨_, rfl, ?_⟩; have n0_ := Aside0.mk (blk_below (g := gb113) (o := .cells #[.int .i64 x114000_2, .int .i64 x114001_2, .int .i64 x114002_2, .string x114003_2] 23 (0, 0)) (by (with_reducible repeat (first | refine blk_drewN ?_ _ | refine blk_drew ?_ | refine blk_alloc ?_ _)); exact BK113.out) hb); have n1_ := Aside0.mk (blk_below (g := gb118) (o := .cells #[.string (rdOf ByteArray.empty l0 x38_2), .string t117, .int .i64 0, .int .i64 0] 25 (0, 0)) (by (with_reducible repeat (first | refine blk_drewN ?_ _ | refine blk_drew ?_ | refine blk_alloc ?_ _)); exact BK118.out) hb); have n2_ := Aside0.mk (blk_below (g := gb124) (o := .cells #[.string t119, .string t120, .int .i64 t121, .int .i64 t122] 25 (0, 0)) (by (with_reducible repeat (first | refine blk_drewN ?_ _ | refine blk_drew ?_ | refine blk_alloc ?_ _)); exact BK124.out) hb); have n3_ := Aside0.mk (below_step (by repeat (first | (with_reducible first | exact HB.out | apply below_alloc | apply pw_below_drewN | apply below_drew1 | refine below_set ?_ GE113.out | refine below_set ?_ GE118.out | refine below_set ?_ GE124.out) | exact HB.out)) hb); clear BK113; clear BK118; clear BK124; clear HB; have BK113 := n0_; have BK118 := n1_; have BK124 := n2_; have HB := n3_; clear n0_ n1_ n2_ n3_; (try clear hb); (try clear hb2); (try clear hk); (try clear hi)) | ((with_reducible refine gate_dst (N := 13) rfl ?_); refine box_event ?hg (N := 13) ?hd (cs := #[.int .i64 0, .int .i64 0, .int .i64 0, .string (⟨#[]⟩ : ByteArray)]) (t := 23) ?hr ?_; (case hd => rfl); (case hg => rfl); (case hr => first | (go_simp; done) | (go_simp; rfl)); intro gb132 hg w54 hbox hb; have n0_ := Aside0.mk (blk_below (g := gb113) (o := .cells #[.int .i64 x114000_2, .int .i64 x114001_2, .int .i64 x114002_2, .string x114003_2] 23 (0, 0)) (by (with_reducible repeat (first | refine blk_drewN ?_ _ | refine blk_drew ?_ | refine blk_alloc ?_ _)); exact BK113.out) hb); have n1_ := Aside0.mk (blk_below (g := gb118) (o := .cells #[.string (rdOf ByteArray.empty l0 x38_2), .string t117, .int .i64 0, .int .i64 0] 25 (0, 0)) (by (with_reducible repeat (first | refine blk_drewN ?_ _ | refine blk_drew ?_ | refine blk_alloc ?_ _)); exact BK118.out) hb); have n2_ := Aside0.mk (blk_below (g := gb124) (o := .cells #[.string t119, .string t120, .int .i64 t121, .int .i64 t122] 25 (0, 0)) (by (with_reducible repeat (first | refine blk_drewN ?_ _ | refine blk_drew ?_ | refine blk_alloc ?_ _)); exact BK124.out) hb); have n3_ := Aside0.mk (below_step (by repeat (first | (with_reducible first | exact HB.out | apply below_alloc | apply pw_below_drewN | apply below_drew1 | refine below_set ?_ GE113.out | refine below_set ?_ GE118.out | refine below_set ?_ GE124.out) | exact HB.out)) hb); have n4_ := Aside0.mk (hbox); have n5_ := Aside0.mk ((by rw [hg]; exact (below_size (by repeat (first | (with_reducible first | exact HB.out | apply below_alloc | apply pw_below_drewN | apply below_drew1 | refine below_set ?_ GE113.out | refine below_set ?_ GE118.out | refine below_set ?_ GE124.out) | exact HB.out))) : w.heap.size ≤ gb132)); have n6_ := Aside0.mk ((by rw [hg]; exact (below_size (by repeat (first | (with_reducible first | exact HB.out | apply below_alloc | apply pw_below_drewN | apply below_drew1 | refine below_set ?_ GE113.out | refine below_set ?_ GE118.out | refine below_set ?_ GE124.out) | exact HB.out))) : w.heap.size ≤ gb132)); have n7_ := Aside0.mk ((by rw [hg]; exact Nat.ne_of_lt (blk_lt (g := gb113) (o := .cells #[.int .i64 x114000_2, .int .i64 x114001_2, .int .i64 x114002_2, .string x114003_2] 23 (0, 0)) (by (with_reducible repeat (first | refine blk_drewN ?_ _ | refine blk_drew ?_ | refine blk_alloc ?_ _)); exact BK113.out)) : gb113 ≠ gb132)); have n8_ := Aside0.mk ((by rw [hg]; exact Nat.ne_of_gt (blk_lt (g := gb113) (o := .cells #[.int .i64 x114000_2, .int .i64 x114001_2, .int .i64 x114002_2, .string x114003_2] 23 (0, 0)) (by (with_reducible repeat (first | refine blk_drewN ?_ _ | refine blk_drew ?_ | refine blk_alloc ?_ _)); exact BK113.out)) : gb132 ≠ gb113)); have n9_ := Aside0.mk ((by rw [hg]; exact Nat.ne_of_lt (blk_lt (g := gb118) (o := .cells #[.string (rdOf ByteArray.empty l0 x38_2), .string t117, .int .i64 0, .int .i64 0] 25 (0, 0)) (by (with_reducible repeat (first | refine blk_drewN ?_ _ | refine blk_drew ?_ | refine blk_alloc ?_ _)); exact BK118.out)) : gb118 ≠ gb132)); have n10_ := Aside0.mk ((by rw [hg]; exact Nat.ne_of_gt (blk_lt (g := gb118) (o := .cells #[.string (rdOf ByteArray.empty l0 x38_2), .string t117, .int .i64 0, .int .i64 0] 25 (0, 0)) (by (with_reducible repeat (first | refine blk_drewN ?_ _ | refine blk_drew ?_ | refine blk_alloc ?_ _)); exact BK118.out)) : gb132 ≠ gb118)); have n11_ := Aside0.mk ((by rw [hg]; exact Nat.ne_of_lt (blk_lt (g := gb124) (o := .cells #[.string t119, .string t120, .int .i64 t121, .int .i64 t122] 25 (0, 0)) (by (with_reducible repeat (first | refine blk_drewN ?_ _ | refine blk_drew ?_ | refine blk_alloc ?_ _)); exact BK124.out)) : gb124 ≠ gb132)); have n12_ := Aside0.mk ((by rw [hg]; exact Nat.ne_of_gt (blk_lt (g := gb124) (o := .cells #[.string t119, .string t120, .int .i64 t121, .int .i64 t122] 25 (0, 0)) (by (with_reducible repeat (first | refine blk_drewN ?_ _ | refine blk_drew ?_ | refine blk_alloc ?_ _)); exact BK124.out)) : gb132 ≠ gb124)); clear BK113; clear BK118; clear BK124; clear HB; have BK113 := n0_; have BK118 := n1_; have BK124 := n2_; have HB := n3_; have BK132 := n4_; have GW132 := n5_; have GE132 := n6_; have NB113_132 := n7_; have NB132_113 := n8_; have NB118_132 := n9_; have NB132_118 := n10_; have NB124_132 := n11_; have NB132_124 := n12_; clear n0_ n1_ n2_ n3_ n4_ n5_ n6_ n7_ n8_ n9_ n10_ n11_ n12_; clear hb hbox hg; have hnb55 := NB132_113.out; have hnc55 := NB113_132.out; have hnb56 := NB132_118.out; have hnc56 := NB118_132.out; have hnb57 := NB132_124.out; have hnc57 := NB124_132.out; have hcz58_0 : w54.cell? ⟨gb132, 0, none⟩ = some (.int .i64 0) := (blk_cell BK132.out 0).trans rfl; have hcz58_1 : w54.cell? ⟨gb132, 1, none⟩ = some (.int .i64 0) := (blk_cell BK132.out 1).trans rfl; have hcz58_2 : w54.cell? ⟨gb132, 2, none⟩ = some (.int .i64 0) := (blk_cell BK132.out 2).trans rfl; have hcz58_3 : w54.cell? ⟨gb132, 3, none⟩ = some (.string (⟨#[]⟩ : ByteArray)) := (blk_cell BK132.out 3).trans rfl; have hfz58_0 := blk_frozen BK132.out 0; have hfz58_1 := blk_frozen BK132.out 1; have hfz58_2 := blk_frozen BK132.out 2; have hfz58_3 := blk_frozen BK132.out 3))
                        (try simp only [Act.put, List.setIfInBounds_toArray, List.set_cons_zero, List.set_cons_succ])
                        go_cut [83] (fun v83 wc => ∃ (kq : Nat) (x83_46 : Bool), v83 = .bool x83_46 ∧ Aside0 (honeycomblaw8_BucketFills.j3 kq a1 t116 x12_24 t131 l0 (l0.length : Int) x38_2 x83_46 x114000_2 x114001_2 x114002_2 x114003_2 t127 t128 t129 t130 = some r) ∧ Aside0 (kq ≤ kj24) ∧ Aside0 (wc.heap[gb113]? = some (.cells #[.int .i64 x114000_2, .int .i64 x114001_2, .int .i64 x114002_2, .string x114003_2] 23 (0, 0))) ∧ Aside0 (wc.heap[gb118]? = some (.cells #[.string (rdOf ByteArray.empty l0 x38_2), .string t117, .int .i64 0, .int .i64 0] 25 (0, 0))) ∧ Aside0 (wc.heap[gb124]? = some (.cells #[.string t119, .string t120, .int .i64 t121, .int .i64 t122] 25 (0, 0))) ∧ Aside0 (wc.heap[gb132]? = some (.cells #[.int .i64 t127, .int .i64 t128, .int .i64 t129, .string t130] 23 (0, 0))) ∧ Aside0 (Below w.heap.size w wc))
                        case first =>
                          have H := HC47.out
                          clear HC47
                          by_cases c59 : ((t131 == 0) != (decide (x12_24 ≤ t116))) = true
                          · rw [if_pos c59] at H
                            have c59b0 : ((t131 == 0) != (decide (x12_24 ≤ t116))) = true := c59
                            (try (have c59b1 : decide ((t131 == 0) = (decide (x12_24 ≤ t116))) = false := by simpa using c59))
                            (try (have c59b2 : ((t131 == 0) == (decide (x12_24 ≤ t116))) = false := by simpa using c59))
                            (try (have c59b3 : ¬ ((t131 == 0) = (decide (x12_24 ≤ t116))) := by simpa using c59))
                            clear c59
                            (first | rw [c59b0] | (simp only [i64_w, i32_w]; rw [c59b0]) | skip)
                            have H' := Aside0.mk H
                            clear H
                            go_wp2
                            go_meet
                            case rel => exact ⟨_, (true), (by first | rfl | (simp; done) | (simp [*]; done)), H', ⟨by have := HJ2.out; have := HK2.out; have := HJ24.out; first | omega | exact Nat.le_refl _⟩, ⟨by (with_reducible repeat (first | refine blk_drewN ?_ _ | refine blk_drew ?_ | refine blk_alloc ?_ _)); refine blk_far ?_ NB113_132.out _; (with_reducible repeat (first | refine blk_drewN ?_ _ | refine blk_drew ?_ | refine blk_alloc ?_ _)); refine blk_far ?_ NB113_132.out _; (with_reducible repeat (first | refine blk_drewN ?_ _ | refine blk_drew ?_ | refine blk_alloc ?_ _)); refine blk_far ?_ NB113_132.out _; (with_reducible repeat (first | refine blk_drewN ?_ _ | refine blk_drew ?_ | refine blk_alloc ?_ _)); refine blk_far ?_ NB113_132.out _; (with_reducible repeat (first | refine blk_drewN ?_ _ | refine blk_drew ?_ | refine blk_alloc ?_ _)); exact BK113.out⟩, ⟨by (with_reducible repeat (first | refine blk_drewN ?_ _ | refine blk_drew ?_ | refine blk_alloc ?_ _)); refine blk_far ?_ NB118_132.out _; (with_reducible repeat (first | refine blk_drewN ?_ _ | refine blk_drew ?_ | refine blk_alloc ?_ _)); refine blk_far ?_ NB118_132.out _; (with_reducible repeat (first | refine blk_drewN ?_ _ | refine blk_drew ?_ | refine blk_alloc ?_ _)); refine blk_far ?_ NB118_132.out _; (with_reducible repeat (first | refine blk_drewN ?_ _ | refine blk_drew ?_ | refine blk_alloc ?_ _)); refine blk_far ?_ NB118_132.out _; (with_reducible repeat (first | refine blk_drewN ?_ _ | refine blk_drew ?_ | refine blk_alloc ?_ _)); exact BK118.out⟩, ⟨by (with_reducible repeat (first | refine blk_drewN ?_ _ | refine blk_drew ?_ | refine blk_alloc ?_ _)); refine blk_far ?_ NB124_132.out _; (with_reducible repeat (first | refine blk_drewN ?_ _ | refine blk_drew ?_ | refine blk_alloc ?_ _)); refine blk_far ?_ NB124_132.out _; (with_reducible repeat (first | refine blk_drewN ?_ _ | refine blk_drew ?_ | refine blk_alloc ?_ _)); refine blk_far ?_ NB124_132.out _; (with_reducible repeat (first | refine blk_drewN ?_ _ | refine blk_drew ?_ | refine blk_alloc ?_ _)); refine blk_far ?_ NB124_132.out _; (with_reducible repeat (first | refine blk_drewN ?_ _ | refine blk_drew ?_ | refine blk_alloc ?_ _)); exact BK124.out⟩, ⟨by (with_reducible repeat (first | refine blk_drewN ?_ _ | refine blk_drew ?_ | refine blk_alloc ?_ _)); refine blk_put (cs := #[.int .i64 t127, .int .i64 t128, .int .i64 t129, .string (⟨#[]⟩ : ByteArray)]) ?_ 3 _ rfl; (with_reducible repeat (first | refine blk_drewN ?_ _ | refine blk_drew ?_ | refine blk_alloc ?_ _)); refine blk_put (cs := #[.int .i64 t127, .int .i64 t128, .int .i64 0, .string (⟨#[]⟩ : ByteArray)]) ?_ 2 _ rfl; (with_reducible repeat (first | refine blk_drewN ?_ _ | refine blk_drew ?_ | refine blk_alloc ?_ _)); refine blk_put (cs := #[.int .i64 t127, .int .i64 0, .int .i64 0, .string (⟨#[]⟩ : ByteArray)]) ?_ 1 _ rfl; (with_reducible repeat (first | refine blk_drewN ?_ _ | refine blk_drew ?_ | refine blk_alloc ?_ _)); refine blk_put (cs := #[.int .i64 0, .int .i64 0, .int .i64 0, .string (⟨#[]⟩ : ByteArray)]) ?_ 0 _ rfl; (with_reducible repeat (first | refine blk_drewN ?_ _ | refine blk_drew ?_ | refine blk_alloc ?_ _)); exact BK132.out⟩, ⟨by repeat (first | (with_reducible first | exact HB.out | apply below_alloc | apply pw_below_drewN | apply below_drew1 | refine below_set ?_ GE113.out | refine below_set ?_ GE118.out | refine below_set ?_ GE124.out | refine below_set ?_ GE132.out) | exact HB.out)⟩⟩
                          · rw [if_neg c59] at H
                            have c59b0 : ((t131 == 0) != (decide (x12_24 ≤ t116))) = false := by simpa using c59
                            (try (have c59b1 : decide ((t131 == 0) = (decide (x12_24 ≤ t116))) = true := by simpa using c59))
                            (try (have c59b2 : ((t131 == 0) == (decide (x12_24 ≤ t116))) = true := by simpa using c59))
                            clear c59
                            (first | rw [c59b0] | (simp only [i64_w, i32_w]; rw [c59b0]) | skip)
                            by_cases c60 : t131 = 0
                            · rw [if_pos c60] at H
                              have c60b0 : (t131 == 0) = true := beq_iff_eq.mpr c60
                              have c60b1 : (t131 != 0) = false := bne_eq_false_iff_eq.mpr c60; (try (have c_q : x12_24 ≤ t116 := by simpa [c60b0] using c59b0))
                              clear c60
                              have H' := Aside0.mk H
                              clear H
                              go_wp2
                              go_meet
                              case rel => exact ⟨_, (false), (by first | rfl | (simp; done) | (simp [*]; done)), H', ⟨by have := HJ2.out; have := HK2.out; have := HJ24.out; first | omega | exact Nat.le_refl _⟩, ⟨by (with_reducible repeat (first | refine blk_drewN ?_ _ | refine blk_drew ?_ | refine blk_alloc ?_ _)); refine blk_far ?_ NB113_132.out _; (with_reducible repeat (first | refine blk_drewN ?_ _ | refine blk_drew ?_ | refine blk_alloc ?_ _)); refine blk_far ?_ NB113_132.out _; (with_reducible repeat (first | refine blk_drewN ?_ _ | refine blk_drew ?_ | refine blk_alloc ?_ _)); refine blk_far ?_ NB113_132.out _; (with_reducible repeat (first | refine blk_drewN ?_ _ | refine blk_drew ?_ | refine blk_alloc ?_ _)); refine blk_far ?_ NB113_132.out _; (with_reducible repeat (first | refine blk_drewN ?_ _ | refine blk_drew ?_ | refine blk_alloc ?_ _)); exact BK113.out⟩, ⟨by (with_reducible repeat (first | refine blk_drewN ?_ _ | refine blk_drew ?_ | refine blk_alloc ?_ _)); refine blk_far ?_ NB118_132.out _; (with_reducible repeat (first | refine blk_drewN ?_ _ | refine blk_drew ?_ | refine blk_alloc ?_ _)); refine blk_far ?_ NB118_132.out _; (with_reducible repeat (first | refine blk_drewN ?_ _ | refine blk_drew ?_ | refine blk_alloc ?_ _)); refine blk_far ?_ NB118_132.out _; (with_reducible repeat (first | refine blk_drewN ?_ _ | refine blk_drew ?_ | refine blk_alloc ?_ _)); refine blk_far ?_ NB118_132.out _; (with_reducible repeat (first | refine blk_drewN ?_ _ | refine blk_drew ?_ | refine blk_alloc ?_ _)); exact BK118.out⟩, ⟨by (with_reducible repeat (first | refine blk_drewN ?_ _ | refine blk_drew ?_ | refine blk_alloc ?_ _)); refine blk_far ?_ NB124_132.out _; (with_reducible repeat (first | refine blk_drewN ?_ _ | refine blk_drew ?_ | refine blk_alloc ?_ _)); refine blk_far ?_ NB124_132.out _; (with_reducible repeat (first | refine blk_drewN ?_ _ | refine blk_drew ?_ | refine blk_alloc ?_ _)); refine blk_far ?_ NB124_132.out _; (with_reducible repeat (first | refine blk_drewN ?_ _ | refine blk_drew ?_ | refine blk_alloc ?_ _)); refine blk_far ?_ NB124_132.out _; (with_reducible repeat (first | refine blk_drewN ?_ _ | refine blk_drew ?_ | refine blk_alloc ?_ _)); exact BK124.out⟩, ⟨by (with_reducible repeat (first | refine blk_drewN ?_ _ | refine blk_drew ?_ | refine blk_alloc ?_ _)); refine blk_put (cs := #[.int .i64 t127, .int .i64 t128, .int .i64 t129, .string (⟨#[]⟩ : ByteArray)]) ?_ 3 _ rfl; (with_reducible repeat (first | refine blk_drewN ?_ _ | refine blk_drew ?_ | refine blk_alloc ?_ _)); refine blk_put (cs := #[.int .i64 t127, .int .i64 t128, .int .i64 0, .string (⟨#[]⟩ : ByteArray)]) ?_ 2 _ rfl; (with_reducible repeat (first | refine blk_drewN ?_ _ | refine blk_drew ?_ | refine blk_alloc ?_ _)); refine blk_put (cs := #[.int .i64 t127, .int .i64 0, .int .i64 0, .string (⟨#[]⟩ : ByteArray)]) ?_ 1 _ rfl; (with_reducible repeat (first | refine blk_drewN ?_ _ | refine blk_drew ?_ | refine blk_alloc ?_ _)); refine blk_put (cs := #[.int .i64 0, .int .i64 0, .int .i64 0, .string (⟨#[]⟩ : ByteArray)]) ?_ 0 _ rfl; (with_reducible repeat (first | refine blk_drewN ?_ _ | refine blk_drew ?_ | refine blk_alloc ?_ _)); exact BK132.out⟩, ⟨by repeat (first | (with_reducible first | exact HB.out | apply below_alloc | apply pw_below_drewN | apply below_drew1 | refine below_set ?_ GE113.out | refine below_set ?_ GE118.out | refine below_set ?_ GE124.out | refine below_set ?_ GE132.out) | exact HB.out)⟩⟩
                            · rw [if_neg c60] at H
                              have c60b0 : (t131 == 0) = false := beq_eq_false_iff_ne.mpr c60
                              have c60b1 : (t131 != 0) = true := bne_iff_ne.mpr c60; (try (have c_q : ¬ x12_24 ≤ t116 := by simpa [c60b0] using c59b0))
                              have H' := Aside0.mk H
                              clear H
                              go_wp2
                              go_meet
                              case rel => exact ⟨_, ((t131 != 13)), (by first | rfl | (simp; done) | (simp [*]; done)), H', ⟨by have := HJ2.out; have := HK2.out; have := HJ24.out; first | omega | exact Nat.le_refl _⟩, ⟨by (with_reducible repeat (first | refine blk_drewN ?_ _ | refine blk_drew ?_ | refine blk_alloc ?_ _)); refine blk_far ?_ NB113_132.out _; (with_reducible repeat (first | refine blk_drewN ?_ _ | refine blk_drew ?_ | refine blk_alloc ?_ _)); refine blk_far ?_ NB113_132.out _; (with_reducible repeat (first | refine blk_drewN ?_ _ | refine blk_drew ?_ | refine blk_alloc ?_ _)); refine blk_far ?_ NB113_132.out _; (with_reducible repeat (first | refine blk_drewN ?_ _ | refine blk_drew ?_ | refine blk_alloc ?_ _)); refine blk_far ?_ NB113_132.out _; (with_reducible repeat (first | refine blk_drewN ?_ _ | refine blk_drew ?_ | refine blk_alloc ?_ _)); exact BK113.out⟩, ⟨by (with_reducible repeat (first | refine blk_drewN ?_ _ | refine blk_drew ?_ | refine blk_alloc ?_ _)); refine blk_far ?_ NB118_132.out _; (with_reducible repeat (first | refine blk_drewN ?_ _ | refine blk_drew ?_ | refine blk_alloc ?_ _)); refine blk_far ?_ NB118_132.out _; (with_reducible repeat (first | refine blk_drewN ?_ _ | refine blk_drew ?_ | refine blk_alloc ?_ _)); refine blk_far ?_ NB118_132.out _; (with_reducible repeat (first | refine blk_drewN ?_ _ | refine blk_drew ?_ | refine blk_alloc ?_ _)); refine blk_far ?_ NB118_132.out _; (with_reducible repeat (first | refine blk_drewN ?_ _ | refine blk_drew ?_ | refine blk_alloc ?_ _)); exact BK118.out⟩, ⟨by (with_reducible repeat (first | refine blk_drewN ?_ _ | refine blk_drew ?_ | refine blk_alloc ?_ _)); refine blk_far ?_ NB124_132.out _; (with_reducible repeat (first | refine blk_drewN ?_ _ | refine blk_drew ?_ | refine blk_alloc ?_ _)); refine blk_far ?_ NB124_132.out _; (with_reducible repeat (first | refine blk_drewN ?_ _ | refine blk_drew ?_ | refine blk_alloc ?_ _)); refine blk_far ?_ NB124_132.out _; (with_reducible repeat (first | refine blk_drewN ?_ _ | refine blk_drew ?_ | refine blk_alloc ?_ _)); refine blk_far ?_ NB124_132.out _; (with_reducible repeat (first | refine blk_drewN ?_ _ | refine blk_drew ?_ | refine blk_alloc ?_ _)); exact BK124.out⟩, ⟨by (with_reducible repeat (first | refine blk_drewN ?_ _ | refine blk_drew ?_ | refine blk_alloc ?_ _)); refine blk_put (cs := #[.int .i64 t127, .int .i64 t128, .int .i64 t129, .string (⟨#[]⟩ : ByteArray)]) ?_ 3 _ rfl; (with_reducible repeat (first | refine blk_drewN ?_ _ | refine blk_drew ?_ | refine blk_alloc ?_ _)); refine blk_put (cs := #[.int .i64 t127, .int .i64 t128, .int .i64 0, .string (⟨#[]⟩ : ByteArray)]) ?_ 2 _ rfl; (with_reducible repeat (first | refine blk_drewN ?_ _ | refine blk_drew ?_ | refine blk_alloc ?_ _)); refine blk_put (cs := #[.int .i64 t127, .int .i64 0, .int .i64 0, .string (⟨#[]⟩ : ByteArray)]) ?_ 1 _ rfl; (with_reducible repeat (first | refine blk_drewN ?_ _ | refine blk_drew ?_ | refine blk_alloc ?_ _)); refine blk_put (cs := #[.int .i64 0, .int .i64 0, .int .i64 0, .string (⟨#[]⟩ : ByteArray)]) ?_ 0 _ rfl; (with_reducible repeat (first | refine blk_drewN ?_ _ | refine blk_drew ?_ | refine blk_alloc ?_ _)); exact BK132.out⟩, ⟨by repeat (first | (with_reducible first | exact HB.out | apply below_alloc | apply pw_below_drewN | apply below_drew1 | refine below_set ?_ GE113.out | refine below_set ?_ GE118.out | refine below_set ?_ GE124.out | refine below_set ?_ GE132.out) | exact HB.out)⟩⟩
                        case rest =>
                          clear HC47
                          try clear c1
                          try clear p1
                          try clear q1
                          try clear hx1
                          try clear c2
                          try clear p2
                          try clear c3
                          try clear c4
                          try clear c4b0
                          try clear c4b1
                          try clear c5
                          try clear c5b0
                          try clear c6
                          try clear c6b0
                          try clear p6
                          try clear c8
                          try clear c9
                          try clear c10
                          try clear p11
                          try clear q11
                          try clear hx11
                          try clear c12
                          try clear c13
                          try clear c14
                          try clear c15
                          try clear c16
                          try clear c16b0
                          try clear c17
                          try clear c17b0
                          try clear c18
                          try clear c18b0
                          try clear c20
                          try clear c30
                          try clear c35
                          try clear c36
                          try clear c40
                          try clear c42
                          try clear c43
                          try clear c48
                          try clear c49
                          try clear c51
                          try clear c55
                          try clear c56
                          try clear c57
                          try clear c59
                          try clear c59b0
                          try clear c59b1
                          try clear c59b2
                          try clear c60
                          try clear c60b0
                          try clear c60b1
                          try clear hcz15_0
                          try clear hcz15_1
                          try clear hcz15_2
                          try clear hcz15_3
                          try clear hcz26_0
                          try clear hcz26_1
                          try clear hcz26_2
                          try clear hcz26_3
                          try clear hcz31_0
                          try clear hcz31_1
                          try clear hcz31_2
                          try clear hcz31_3
                          try clear hcz32_0
                          try clear hcz32_1
                          try clear hcz32_2
                          try clear hcz32_3
                          try clear hcz37_0
                          try clear hcz37_1
                          try clear hcz37_2
                          try clear hcz37_3
                          try clear hcz38_0
                          try clear hcz38_1
                          try clear hcz38_2
                          try clear hcz38_3
                          try clear hcz44_0
                          try clear hcz44_1
                          try clear hcz44_2
                          try clear hcz44_3
                          try clear hcz50_0
                          try clear hcz50_1
                          try clear hcz50_2
                          try clear hcz50_3
                          try clear hcz52_0
                          try clear hcz52_1
                          try clear hcz52_2
                          try clear hcz52_3
                          try clear hcz58_0
                          try clear hcz58_1
                          try clear hcz58_2
                          try clear hcz58_3
                          try clear hfz15_0
                          try clear hfz15_1
                          try clear hfz15_2
                          try clear hfz15_3
                          try clear hfz26_0
                          try clear hfz26_1
                          try clear hfz26_2
                          try clear hfz26_3
                          try clear hfz31_0
                          try clear hfz31_1
                          try clear hfz31_2
                          try clear hfz31_3
                          try clear hfz32_0
                          try clear hfz32_1
                          try clear hfz32_2
                          try clear hfz32_3
                          try clear hfz37_0
                          try clear hfz37_1
                          try clear hfz37_2
                          try clear hfz37_3
                          try clear hfz38_0
                          try clear hfz38_1
                          try clear hfz38_2
                          try clear hfz38_3
                          try clear hfz44_0
                          try clear hfz44_1
                          try clear hfz44_2
                          try clear hfz44_3
                          try clear hfz50_0
                          try clear hfz50_1
                          try clear hfz50_2
                          try clear hfz50_3
                          try clear hfz52_0
                          try clear hfz52_1
                          try clear hfz52_2
                          try clear hfz52_3
                          try clear hfz58_0
                          try clear hfz58_1
                          try clear hfz58_2
                          try clear hfz58_3
                          try clear hx114_0
                          try clear p1
                          try clear p11
                          try clear p114
                          try clear p2
                          try clear p6
                          try clear q1
                          try clear q11
                          try clear q114
                          obtain ⟨kq, x83_46, rfl, HA, HJ46, BK113, BK118, BK124, BK132, HB⟩ := hcut
                          cases kq with
                          | zero => exact absurd HA.out (by simp [honeycomblaw8_BucketFills.j3])
                          | succ kj46 =>
                            have H := HA.out
                            clear HA
                            simp only [honeycomblaw8_BucketFills.j3] at H
                            by_cases c61 : x83_46 = true
                            · subst c61
                              have H1 : (some false) = some r := by rw [if_pos rfl] at H; exact H
                              clear H
                              have H := H1
                              clear H1
                              obtain rfl := Option.some.inj H
                              go_wp2
                              go_ret
                              exact ⟨by first | rfl | (simp [errW_none, errW_some] <;> rfl) | (simp [*, errW_none, errW_some] <;> rfl), by repeat (first | (with_reducible first | exact HB.out | apply below_alloc | apply pw_below_drewN | apply below_drew1 | refine below_set ?_ GE113.out | refine below_set ?_ GE118.out | refine below_set ?_ GE124.out | refine below_set ?_ GE132.out) | exact HB.out)⟩
                            · replace c61 := Bool.eq_false_iff.mpr c61
                              subst c61
                              have H1 : (if t131 = 0 then ((bucket_Room.f t127 t128 t129 t130).bind fun t133 => (if t133 = (wrap64 (t116 - x12_24)) then (honeycomblaw8_BucketFills.l0 kj46 a1 l0 (l0.length : Int) (wrap64 (x38_2 + 1)) t127 t128 t129 t130) else (some false))) else (honeycomblaw8_BucketFills.l0 kj46 a1 l0 (l0.length : Int) (wrap64 (x38_2 + 1)) x114000_2 x114001_2 x114002_2 x114003_2)) = some r := by rw [if_neg (show ¬ (false = true) by decide)] at H; exact H
                              clear H
                              have H := H1
                              clear H1
                              by_cases c62 : t131 = 0
                              · rw [if_pos c62] at H
                                have c62b0 : (t131 == 0) = true := beq_iff_eq.mpr c62
                                have c62b1 : (t131 != 0) = false := bne_eq_false_iff_eq.mpr c62; (try (have c_q : x12_24 ≤ t116 := by simpa [c62b0] using c59b0))
                                clear c62
                                replace H := Option.bind_eq_some_iff.mp H
                                obtain ⟨t133, A630, H⟩ := H
                                replace H : (if t133 = (wrap64 (t116 - x12_24)) then (honeycomblaw8_BucketFills.l0 kj46 a1 l0 (l0.length : Int) (wrap64 (x38_2 + 1)) t127 t128 t129 t130) else (some false)) = some r := H
                                have A63 := Aside0.mk A630
                                clear A630
                                by_cases c64 : t133 = (wrap64 (t116 - x12_24))
                                · rw [if_pos c64] at H
                                  have c64b0 : (t133 == (wrap64 (t116 - x12_24))) = true := beq_iff_eq.mpr c64
                                  have c64b1 : (t133 != (wrap64 (t116 - x12_24))) = false := bne_eq_false_iff_eq.mpr c64
                                  clear c64
                                  have H' := Aside0.mk H
                                  clear H
                                  have hnb65 := NB132_113.out
                                  have hnc65 := NB113_132.out
                                  have hnb66 := NB132_118.out
                                  have hnc66 := NB118_132.out
                                  have hnb67 := NB132_124.out
                                  have hnc67 := NB124_132.out
                                  have hcz68_0 : wc.cell? ⟨gb132, 0, none⟩ = some (.int .i64 t127) := (blk_cell BK132.out 0).trans rfl
                                  have hcz68_1 : wc.cell? ⟨gb132, 1, none⟩ = some (.int .i64 t128) := (blk_cell BK132.out 1).trans rfl
                                  have hcz68_2 : wc.cell? ⟨gb132, 2, none⟩ = some (.int .i64 t129) := (blk_cell BK132.out 2).trans rfl
                                  have hcz68_3 : wc.cell? ⟨gb132, 3, none⟩ = some (.string t130) := (blk_cell BK132.out 3).trans rfl
                                  have hfz68_0 := blk_frozen BK132.out 0
                                  have hfz68_1 := blk_frozen BK132.out 1
                                  have hfz68_2 := blk_frozen BK132.out 2
                                  have hfz68_3 := blk_frozen BK132.out 3
                                  go_wp2_with (first | ((with_reducible refine gate_callee (f := 14) rfl ?_); refine goesL_ (some 87) rfl rfl Try.func14 (by kernel_rfl) rfl #[.agg #[.int .i64 t127, .int .i64 t128, .int .i64 t129, .string t130]] rfl (by (try simp only [List.map_toArray, List.map_cons, List.map_nil]); first | done | rfl | (simp only [List.length_drop, List.length_take]; rfl)) ?_; (with_reducible refine (bucket_Room.calls t127 t128 t129 t130 t133 _ A63.out).mono ?_); rintro e w69 ⟨rfl, hb⟩; refine ⟨_, rfl, ?_⟩; have n0_ := Aside0.mk (blk_below (g := gb113) (o := .cells #[.int .i64 x114000_2, .int .i64 x114001_2, .int .i64 x114002_2, .string x114003_2] 23 (0, 0)) (by (with_reducible repeat (first | refine blk_drewN ?_ _ | refine blk_drew ?_ | refine blk_alloc ?_ _)); exact BK113.out) hb); have n1_ := Aside0.mk (blk_below (g := gb118) (o := .cells #[.string (rdOf ByteArray.empty l0 x38_2), .string t117, .int .i64 0, .int .i64 0] 25 (0, 0)) (by (with_reducible repeat (first | refine blk_drewN ?_ _ | refine blk_drew ?_ | refine blk_alloc ?_ _)); exact BK118.out) hb); have n2_ := Aside0.mk (blk_below (g := gb124) (o := .cells #[.string t119, .string t120, .int .i64 t121, .int .i64 t122] 25 (0, 0)) (by (with_reducible repeat (first | refine blk_drewN ?_ _ | refine blk_drew ?_ | refine blk_alloc ?_ _)); exact BK124.out) hb); have n3_ := Aside0.mk (blk_below (g := gb132) (o := .cells #[.int .i64 t127, .int .i64 t128, .int .i64 t129, .string t130] 23 (0, 0)) (by (with_reducible repeat (first | refine blk_drewN ?_ _ | refine blk_drew ?_ | refine blk_alloc ?_ _)); exact BK132.out) hb); have n4_ := Aside0.mk (below_step (by repeat (first | (with_reducible first | exact HB.out | apply below_alloc | apply pw_below_drewN | apply below_drew1 | refine below_set ?_ GE113.out | refine below_set ?_ GE118.out | refine below_set ?_ GE124.out | refine below_set ?_ GE132.out) | exact HB.out)) hb); clear BK113; clear BK118; clear BK124; clear BK132; clear HB; have BK113 := n0_; have BK118 := n1_; have BK124 := n2_; have BK132 := n3_; have HB := n4_; clear n0_ n1_ n2_ n3_ n4_; (try clear hb); (try clear hb2); (try clear hk); (try clear hi); have hcz70_0 : w69.cell? ⟨gb132, 0, none⟩ = some (.int .i64 t127) := (blk_cell BK132.out 0).trans rfl; have hcz70_1 : w69.cell? ⟨gb132, 1, none⟩ = some (.int .i64 t128) := (blk_cell BK132.out 1).trans rfl; have hcz70_2 : w69.cell? ⟨gb132, 2, none⟩ = some (.int .i64 t129) := (blk_cell BK132.out 2).trans rfl; have hcz70_3 : w69.cell? ⟨gb132, 3, none⟩ = some (.string t130) := (blk_cell BK132.out 3).trans rfl; have hfz70_0 := blk_frozen BK132.out 0; have hfz70_1 := blk_frozen BK132.out 1; have hfz70_2 := blk_frozen BK132.out 2; have hfz70_3 := blk_frozen BK132.out 3; have hnb71 := NB113_118.out; have hnc71 := NB118_113.out; have hnb72 := NB113_124.out; have hnc72 := NB124_113.out; have hcz73_0 : w69.cell? ⟨gb113, 0, none⟩ = some (.int .i64 x114000_2) := (blk_cell BK113.out 0).trans rfl; have hcz73_1 : w69.cell? ⟨gb113, 1, none⟩ = some (.int .i64 x114001_2) := (blk_cell BK113.out 1).trans rfl; have hcz73_2 : w69.cell? ⟨gb113, 2, none⟩ = some (.int .i64 x114002_2) := (blk_cell BK113.out 2).trans rfl; have hcz73_3 : w69.cell? ⟨gb113, 3, none⟩ = some (.string x114003_2) := (blk_cell BK113.out 3).trans rfl; have hfz73_0 := blk_frozen BK113.out 0; have hfz73_1 := blk_frozen BK113.out 1; have hfz73_2 := blk_frozen BK113.out 2; have hfz73_3 := blk_frozen BK113.out 3))
                                  go_roundg kj46
                                  case measure => have := HJ2.out; have := HK2.out; have := HJ24.out; have := HJ46.out; omega
                                  case rel => exact ⟨(wrap64 (x38_2 + 1)), (t127), (t128), (t129), (t130), (by first | rfl | (simp; done) | (simp [*]; done)), H', ⟨by have := HJ2.out; have := HK2.out; have := HJ24.out; have := HJ46.out; omega⟩, ⟨by (with_reducible repeat (first | refine blk_drewN ?_ _ | refine blk_drew ?_ | refine blk_alloc ?_ _)); refine blk_put (cs := #[.int .i64 t127, .int .i64 t128, .int .i64 t129, .string x114003_2]) ?_ 3 _ rfl; (with_reducible repeat (first | refine blk_drewN ?_ _ | refine blk_drew ?_ | refine blk_alloc ?_ _)); refine blk_put (cs := #[.int .i64 t127, .int .i64 t128, .int .i64 x114002_2, .string x114003_2]) ?_ 2 _ rfl; (with_reducible repeat (first | refine blk_drewN ?_ _ | refine blk_drew ?_ | refine blk_alloc ?_ _)); refine blk_put (cs := #[.int .i64 t127, .int .i64 x114001_2, .int .i64 x114002_2, .string x114003_2]) ?_ 1 _ rfl; (with_reducible repeat (first | refine blk_drewN ?_ _ | refine blk_drew ?_ | refine blk_alloc ?_ _)); refine blk_put (cs := #[.int .i64 x114000_2, .int .i64 x114001_2, .int .i64 x114002_2, .string x114003_2]) ?_ 0 _ rfl; (with_reducible repeat (first | refine blk_drewN ?_ _ | refine blk_drew ?_ | refine blk_alloc ?_ _)); exact BK113.out⟩, ⟨by repeat (first | (with_reducible first | exact HB.out | apply below_alloc | apply pw_below_drewN | apply below_drew1 | refine below_set ?_ GE113.out | refine below_set ?_ GE118.out | refine below_set ?_ GE124.out | refine below_set ?_ GE132.out) | exact HB.out)⟩⟩
                                · rw [if_neg c64] at H
                                  have c64b0 : (t133 == (wrap64 (t116 - x12_24))) = false := beq_eq_false_iff_ne.mpr c64
                                  have c64b1 : (t133 != (wrap64 (t116 - x12_24))) = true := bne_iff_ne.mpr c64
                                  obtain rfl := Option.some.inj H
                                  have hnb74 := NB132_113.out
                                  have hnc74 := NB113_132.out
                                  have hnb75 := NB132_118.out
                                  have hnc75 := NB118_132.out
                                  have hnb76 := NB132_124.out
                                  have hnc76 := NB124_132.out
                                  have hcz77_0 : wc.cell? ⟨gb132, 0, none⟩ = some (.int .i64 t127) := (blk_cell BK132.out 0).trans rfl
                                  have hcz77_1 : wc.cell? ⟨gb132, 1, none⟩ = some (.int .i64 t128) := (blk_cell BK132.out 1).trans rfl
                                  have hcz77_2 : wc.cell? ⟨gb132, 2, none⟩ = some (.int .i64 t129) := (blk_cell BK132.out 2).trans rfl
                                  have hcz77_3 : wc.cell? ⟨gb132, 3, none⟩ = some (.string t130) := (blk_cell BK132.out 3).trans rfl
                                  have hfz77_0 := blk_frozen BK132.out 0
                                  have hfz77_1 := blk_frozen BK132.out 1
                                  have hfz77_2 := blk_frozen BK132.out 2
                                  have hfz77_3 := blk_frozen BK132.out 3
                                  go_wp2_with (first | ((with_reducible refine gate_callee (f := 14) rfl ?_); refine goesL_ (some 87) rfl rfl Try.func14 (by kernel_rfl) rfl #[.agg #[.int .i64 t127, .int .i64 t128, .int .i64 t129, .string t130]] rfl (by (try simp only [List.map_toArray, List.map_cons, List.map_nil]); first | done | rfl | (simp only [List.length_drop, List.length_take]; rfl)) ?_; (with_reducible refine (bucket_Room.calls t127 t128 t129 t130 t133 _ A63.out).mono ?_); rintro e w78 ⟨rfl, hb⟩; refine ⟨_, rfl, ?_⟩; have n0_ := Aside0.mk (blk_below (g := gb113) (o := .cells #[.int .i64 x114000_2, .int .i64 x114001_2, .int .i64 x114002_2, .string x114003_2] 23 (0, 0)) (by (with_reducible repeat (first | refine blk_drewN ?_ _ | refine blk_drew ?_ | refine blk_alloc ?_ _)); exact BK113.out) hb); have n1_ := Aside0.mk (blk_below (g := gb118) (o := .cells #[.string (rdOf ByteArray.empty l0 x38_2), .string t117, .int .i64 0, .int .i64 0] 25 (0, 0)) (by (with_reducible repeat (first | refine blk_drewN ?_ _ | refine blk_drew ?_ | refine blk_alloc ?_ _)); exact BK118.out) hb); have n2_ := Aside0.mk (blk_below (g := gb124) (o := .cells #[.string t119, .string t120, .int .i64 t121, .int .i64 t122] 25 (0, 0)) (by (with_reducible repeat (first | refine blk_drewN ?_ _ | refine blk_drew ?_ | refine blk_alloc ?_ _)); exact BK124.out) hb); have n3_ := Aside0.mk (blk_below (g := gb132) (o := .cells #[.int .i64 t127, .int .i64 t128, .int .i64 t129, .string t130] 23 (0, 0)) (by (with_reducible repeat (first | refine blk_drewN ?_ _ | refine blk_drew ?_ | refine blk_alloc ?_ _)); exact BK132.out) hb); have n4_ := Aside0.mk (below_step (by repeat (first | (with_reducible first | exact HB.out | apply below_alloc | apply pw_below_drewN | apply below_drew1 | refine below_set ?_ GE113.out | refine below_set ?_ GE118.out | refine below_set ?_ GE124.out | refine below_set ?_ GE132.out) | exact HB.out)) hb); clear BK113; clear BK118; clear BK124; clear BK132; clear HB; have BK113 := n0_; have BK118 := n1_; have BK124 := n2_; have BK132 := n3_; have HB := n4_; clear n0_ n1_ n2_ n3_ n4_; (try clear hb); (try clear hb2); (try clear hk); (try clear hi)))
                                  go_ret
                                  exact ⟨by first | rfl | (simp [errW_none, errW_some] <;> rfl) | (simp [*, errW_none, errW_some] <;> rfl), by repeat (first | (with_reducible first | exact HB.out | apply below_alloc | apply pw_below_drewN | apply below_drew1 | refine below_set ?_ GE113.out | refine below_set ?_ GE118.out | refine below_set ?_ GE124.out | refine below_set ?_ GE132.out) | exact HB.out)⟩
                              · rw [if_neg c62] at H
                                have c62b0 : (t131 == 0) = false := beq_eq_false_iff_ne.mpr c62
                                have c62b1 : (t131 != 0) = true := bne_iff_ne.mpr c62; (try (have c_q : ¬ x12_24 ≤ t116 := by simpa [c62b0] using c59b0))
                                have H' := Aside0.mk H
                                clear H
                                go_wp2
                                go_roundg kj46
                                case measure => have := HJ2.out; have := HK2.out; have := HJ24.out; have := HJ46.out; omega
                                case rel => exact ⟨(wrap64 (x38_2 + 1)), (x114000_2), (x114001_2), (x114002_2), (x114003_2), (by first | rfl | (simp; done) | (simp [*]; done)), H', ⟨by have := HJ2.out; have := HK2.out; have := HJ24.out; have := HJ46.out; omega⟩, ⟨by (with_reducible repeat (first | refine blk_drewN ?_ _ | refine blk_drew ?_ | refine blk_alloc ?_ _)); exact BK113.out⟩, ⟨by repeat (first | (with_reducible first | exact HB.out | apply below_alloc | apply pw_below_drewN | apply below_drew1 | refine below_set ?_ GE113.out | refine below_set ?_ GE118.out | refine below_set ?_ GE124.out | refine below_set ?_ GE132.out) | exact HB.out)⟩⟩
                  · replace c20 := Bool.eq_false_iff.mpr c20
                    subst c20
                    have H1 : (some true) = some r := by rw [if_neg (show ¬ (false = true) by decide)] at H; exact H
                    clear H
                    have H := H1
                    clear H1
                    obtain rfl := Option.some.inj H
                    have p114 : 0 ≤ (x38_2 : Int) := of_decide_eq_true (by first | (with_reducible assumption) | assumption)
                    have q114 : x38_2 < (l0.length : Int) := of_decide_eq_true (by first | (with_reducible assumption) | assumption)
                    obtain ⟨ad114, e114, hx114_0⟩ := Kd.at_string HR0.out x38_2 p114 q114
                    cases e114
                    replace hx114_0 := (HB.out.cell (World.block_lt_of_cell? w _ hx114_0)).trans hx114_0
                    replace p114 := eq_true p114
                    replace q114 := eq_true q114
                    go_wp2_with (first | ((with_reducible refine gate_callee (f := 13) rfl ?_); refine goesL_ (some 43) rfl rfl Try.func13 (by kernel_rfl) rfl #[.string (rdOf ByteArray.empty l0 x38_2)] rfl (by (try simp only [List.map_toArray, List.map_cons, List.map_nil]); first | done | rfl | (simp only [List.length_drop, List.length_take]; rfl)) ?_; (with_reducible refine (honeycombref1_Key.calls (rdOf ByteArray.empty l0 x38_2) false _ A19.out).mono ?_); rintro e w' ⟨rfl, ⟨nd, rfl⟩⟩; refine ⟨_, rfl, ?_⟩))
                    go_ret
                    exact ⟨by first | rfl | (simp [errW_none, errW_some] <;> rfl) | (simp [*, errW_none, errW_some] <;> rfl), by repeat (first | (with_reducible first | exact HB.out | apply below_alloc | apply pw_below_drewN | apply below_drew1 | refine below_set ?_ GE113.out) | exact HB.out)⟩
                · rw [if_neg c18] at H
                  exact absurd H (by simp)
              · rw [if_neg c17] at H
                exact absurd H (by simp)
            · rw [if_neg c16] at H
              have c16b0 : decide (x38_2 < (l0.length : Int)) = false := decide_eq_false c16
              clear c16
              replace H := Option.bind_eq_some_iff.mp H
              obtain ⟨t134, A790, H⟩ := H
              replace H : (honeycomblaw8_BucketFills.l1 k2 t134 (t134.length : Int) 0 x114000_2 x114001_2 x114002_2 x114003_2) = some r := H
              have A79 := Aside0.mk A790
              clear A790
              have H' := Aside0.mk H
              clear H
              have hcz80_0 : wr.cell? ⟨gb113, 0, none⟩ = some (.int .i64 x114000_2) := (blk_cell BK113.out 0).trans rfl
              have hcz80_1 : wr.cell? ⟨gb113, 1, none⟩ = some (.int .i64 x114001_2) := (blk_cell BK113.out 1).trans rfl
              have hcz80_2 : wr.cell? ⟨gb113, 2, none⟩ = some (.int .i64 x114002_2) := (blk_cell BK113.out 2).trans rfl
              have hcz80_3 : wr.cell? ⟨gb113, 3, none⟩ = some (.string x114003_2) := (blk_cell BK113.out 3).trans rfl
              have hfz80_0 := blk_frozen BK113.out 0
              have hfz80_1 := blk_frozen BK113.out 1
              have hfz80_2 := blk_frozen BK113.out 2
              have hfz80_3 := blk_frozen BK113.out 3
              go_wp2_with (first | ((with_reducible refine gate_callee (f := 17) rfl ?_); refine goesL_ (some 95) rfl rfl Try.func17 (by kernel_rfl) rfl #[.agg #[.int .i64 x114000_2, .int .i64 x114001_2, .int .i64 x114002_2, .string x114003_2]] rfl (by (try simp only [List.map_toArray, List.map_cons, List.map_nil]); first | done | rfl | (simp only [List.length_drop, List.length_take]; rfl)) ?_; (with_reducible refine (bucket_Cells.calls x114000_2 x114001_2 x114002_2 x114003_2 t134 _ A79.out).mono ?_); rintro e w81 ⟨v135, rfl, ho0, hb⟩; refine ⟨_, rfl, ?_⟩; have n0_ := Aside0.mk (Kd.R_lower ho0 (below_size (by repeat (first | (with_reducible first | exact HB.out | apply below_alloc | apply pw_below_drewN | apply below_drew1 | refine below_set ?_ GE113.out) | exact HB.out)))); have n1_ := Aside0.mk (blk_below (g := gb113) (o := .cells #[.int .i64 x114000_2, .int .i64 x114001_2, .int .i64 x114002_2, .string x114003_2] 23 (0, 0)) (by (with_reducible repeat (first | refine blk_drewN ?_ _ | refine blk_drew ?_ | refine blk_alloc ?_ _)); exact BK113.out) hb); have n2_ := Aside0.mk (below_step (by repeat (first | (with_reducible first | exact HB.out | apply below_alloc | apply pw_below_drewN | apply below_drew1 | refine below_set ?_ GE113.out) | exact HB.out)) hb); clear BK113; clear HB; have HO136 := n0_; have BK113 := n1_; have HB := n2_; clear n0_ n1_ n2_; (try clear hb); (try clear hb2); (try clear hk); (try clear hi); (try clear ho0); obtain ⟨Ao82, co82, eo82⟩ := Kd.R_slice HO136.out; subst eo82))
              go_loopg [97] k2 (fun kq v97 w' => ∃ (x97_3 : Int) (x114000_3 : Int) (x114001_3 : Int) (x114002_3 : Int) (x114003_3 : ByteArray), v97 = .int .i64 x97_3 ∧ Aside0 (honeycomblaw8_BucketFills.l1 kq t134 (t134.length : Int) x97_3 x114000_3 x114001_3 x114002_3 x114003_3 = some r) ∧ Aside0 (kq ≤ k2) ∧ Aside0 (Kd.R k25 25 w' w.heap.size (fun _ => True) (.slice Ao82 t134.length co82) t134) ∧ Aside0 (w'.heap[gb113]? = some (.cells #[.int .i64 x114000_3, .int .i64 x114001_3, .int .i64 x114002_3, .string x114003_3] 23 (0, 0))) ∧ Aside0 (Below w.heap.size w w'))
              case atStart => exact ⟨(0), (x114000_2), (x114001_2), (x114002_2), (x114003_2), (by first | rfl | (simp; done) | (simp [*]; done)), H', ⟨Nat.le_refl _⟩, ⟨by (with_reducible repeat (first | apply Kd.R_alloc | apply Kd.R_drewN | apply Kd.R_drew)); exact HO136.out⟩, ⟨by (with_reducible repeat (first | refine blk_drewN ?_ _ | refine blk_drew ?_ | refine blk_alloc ?_ _)); exact BK113.out⟩, ⟨by repeat (first | (with_reducible first | exact HB.out | apply below_alloc | apply pw_below_drewN | apply below_drew1 | refine below_set ?_ GE113.out) | exact HB.out)⟩⟩
              case round =>
                clear H'
                try clear c1
                try clear p1
                try clear q1
                try clear hx1
                try clear c2
                try clear p2
                try clear c3
                try clear c4
                try clear c4b0
                try clear c4b1
                try clear c5
                try clear c5b0
                try clear c6
                try clear c6b0
                try clear p6
                try clear c7
                try clear c8
                try clear c9
                try clear c10
                try clear p11
                try clear q11
                try clear hx11
                try clear c12
                try clear c13
                try clear c14
                try clear c15
                try clear c16
                try clear c16b0
                try clear c17
                try clear c17b0
                try clear c18
                try clear c18b0
                try clear c20
                try clear c30
                try clear c35
                try clear c36
                try clear c40
                try clear c42
                try clear c43
                try clear c48
                try clear c49
                try clear c51
                try clear c55
                try clear c56
                try clear c57
                try clear c59
                try clear c59b0
                try clear c59b1
                try clear c59b2
                try clear c60
                try clear c60b0
                try clear c60b1
                try clear c61
                try clear c62
                try clear c62b0
                try clear c62b1
                try clear c64
                try clear c64b0
                try clear c64b1
                try clear p64
                try clear c65
                try clear c66
                try clear c67
                try clear c71
                try clear c72
                try clear c74
                try clear c75
                try clear c76
                try clear hcz15_0
                try clear hcz15_1
                try clear hcz15_2
                try clear hcz15_3
                try clear hcz26_0
                try clear hcz26_1
                try clear hcz26_2
                try clear hcz26_3
                try clear hcz31_0
                try clear hcz31_1
                try clear hcz31_2
                try clear hcz31_3
                try clear hcz32_0
                try clear hcz32_1
                try clear hcz32_2
                try clear hcz32_3
                try clear hcz37_0
                try clear hcz37_1
                try clear hcz37_2
                try clear hcz37_3
                try clear hcz38_0
                try clear hcz38_1
                try clear hcz38_2
                try clear hcz38_3
                try clear hcz44_0
                try clear hcz44_1
                try clear hcz44_2
                try clear hcz44_3
                try clear hcz50_0
                try clear hcz50_1
                try clear hcz50_2
                try clear hcz50_3
                try clear hcz52_0
                try clear hcz52_1
                try clear hcz52_2
                try clear hcz52_3
                try clear hcz58_0
                try clear hcz58_1
                try clear hcz58_2
                try clear hcz58_3
                try clear hcz68_0
                try clear hcz68_1
                try clear hcz68_2
                try clear hcz68_3
                try clear hcz70_0
                try clear hcz70_1
                try clear hcz70_2
                try clear hcz70_3
                try clear hcz73_0
                try clear hcz73_1
                try clear hcz73_2
                try clear hcz73_3
                try clear hcz77_0
                try clear hcz77_1
                try clear hcz77_2
                try clear hcz77_3
                try clear hcz80_0
                try clear hcz80_1
                try clear hcz80_2
                try clear hcz80_3
                try clear hfz15_0
                try clear hfz15_1
                try clear hfz15_2
                try clear hfz15_3
                try clear hfz26_0
                try clear hfz26_1
                try clear hfz26_2
                try clear hfz26_3
                try clear hfz31_0
                try clear hfz31_1
                try clear hfz31_2
                try clear hfz31_3
                try clear hfz32_0
                try clear hfz32_1
                try clear hfz32_2
                try clear hfz32_3
                try clear hfz37_0
                try clear hfz37_1
                try clear hfz37_2
                try clear hfz37_3
                try clear hfz38_0
                try clear hfz38_1
                try clear hfz38_2
                try clear hfz38_3
                try clear hfz44_0
                try clear hfz44_1
                try clear hfz44_2
                try clear hfz44_3
                try clear hfz50_0
                try clear hfz50_1
                try clear hfz50_2
                try clear hfz50_3
                try clear hfz52_0
                try clear hfz52_1
                try clear hfz52_2
                try clear hfz52_3
                try clear hfz58_0
                try clear hfz58_1
                try clear hfz58_2
                try clear hfz58_3
                try clear hfz68_0
                try clear hfz68_1
                try clear hfz68_2
                try clear hfz68_3
                try clear hfz70_0
                try clear hfz70_1
                try clear hfz70_2
                try clear hfz70_3
                try clear hfz73_0
                try clear hfz73_1
                try clear hfz73_2
                try clear hfz73_3
                try clear hfz77_0
                try clear hfz77_1
                try clear hfz77_2
                try clear hfz77_3
                try clear hfz80_0
                try clear hfz80_1
                try clear hfz80_2
                try clear hfz80_3
                try clear hx114_0
                try clear p1
                try clear p11
                try clear p114
                try clear p2
                try clear p6
                try clear q1
                try clear q11
                try clear q114
                obtain ⟨x97_3, x114000_3, x114001_3, x114002_3, x114003_3, rfl, HA, HK3, HO_95, BK113, HB⟩ := hrel
                cases gk with
                | zero => exact absurd HA.out (by simp [honeycomblaw8_BucketFills.l1])
                | succ k3 =>
                  have H := HA.out
                  clear HA
                  simp only [honeycomblaw8_BucketFills.l1] at H
                  by_cases c83 : x97_3 < (t134.length : Int)
                  · rw [if_pos c83] at H
                    have c83b0 : decide (x97_3 < (t134.length : Int)) = true := decide_eq_true c83
                    clear c83
                    by_cases c84 : 0 ≤ x97_3
                    · rw [if_pos c84] at H
                      have c84b0 : decide (0 ≤ x97_3) = true := decide_eq_true c84
                      clear c84
                      by_cases c85 : x97_3 < (t134.length : Int)
                      · rw [if_pos c85] at H
                        have c85b0 : decide (x97_3 < (t134.length : Int)) = true := decide_eq_true c85
                        clear c85
                        replace H := Option.bind_eq_some_iff.mp H
                        obtain ⟨⟨t139, t140, t141, t142, t143⟩, A860, H⟩ := H
                        replace H : (if t143 = 0 then (honeycomblaw8_BucketFills.l1 k3 t134 (t134.length : Int) (wrap64 (x97_3 + 1)) t139 t140 t141 t142) else (some false)) = some r := H
                        have A86 := Aside0.mk A860
                        clear A860
                        by_cases c87 : t143 = 0
                        · rw [if_pos c87] at H
                          have c87b0 : (t143 == 0) = true := beq_iff_eq.mpr c87
                          have c87b1 : (t143 != 0) = false := bne_eq_false_iff_eq.mpr c87
                          clear c87
                          have H' := Aside0.mk H
                          clear H
                          have p137 : 0 ≤ (x97_3 : Int) := of_decide_eq_true (by first | (with_reducible assumption) | assumption)
                          have q137 : x97_3 < (t134.length : Int) := of_decide_eq_true (by first | (with_reducible assumption) | assumption)
                          obtain ⟨ad137, e137, hx137_0, hx137_1, hx137_2, hx137_3⟩ := at_T25 (Kd.R_reads' HO_95.out).2.2 x97_3 p137 q137
                          cases e137
                          replace p137 := eq_true p137
                          replace q137 := eq_true q137
                          go_wp2_with (first | ((with_reducible refine gate_dst (N := 16) rfl ?_); refine box_event ?hg (N := 16) ?hd (cs := #[.string (⟨#[]⟩ : ByteArray), .string (⟨#[]⟩ : ByteArray), .int .i64 0, .int .i64 0]) (t := 25) ?hr ?_; (case hd => rfl); (case hg => rfl); (case hr => first | (go_simp; done) | (go_simp; rfl)); intro gb138 hg w88 hbox hb; have n0_ := Aside0.mk (Kd.R_below (Kd.R_elderB (by (with_reducible repeat (first | apply Kd.R_alloc | apply Kd.R_drewN | apply Kd.R_drew)); exact HO_95.out) gb138 (Nat.le_of_eq hg.symm)) hb); have n1_ := Aside0.mk (blk_below (g := gb113) (o := .cells #[.int .i64 x114000_3, .int .i64 x114001_3, .int .i64 x114002_3, .string x114003_3] 23 (0, 0)) (by (with_reducible repeat (first | refine blk_drewN ?_ _ | refine blk_drew ?_ | refine blk_alloc ?_ _)); exact BK113.out) hb); have n2_ := Aside0.mk (below_step (by repeat (first | (with_reducible first | exact HB.out | apply below_alloc | apply pw_below_drewN | apply below_drew1 | refine below_set ?_ GE113.out) | exact HB.out)) hb); have n3_ := Aside0.mk (hbox); have n4_ := Aside0.mk ((by rw [hg]; exact (below_size (by repeat (first | (with_reducible first | exact HB.out | apply below_alloc | apply pw_below_drewN | apply below_drew1 | refine below_set ?_ GE113.out) | exact HB.out))) : w.heap.size ≤ gb138)); have n5_ := Aside0.mk ((by rw [hg]; exact (below_size (by repeat (first | (with_reducible first | exact HB.out | apply below_alloc | apply pw_below_drewN | apply below_drew1 | refine below_set ?_ GE113.out) | exact HB.out))) : w.heap.size ≤ gb138)); have n6_ := Aside0.mk ((by rw [hg]; exact Nat.ne_of_lt (blk_lt (g := gb113) (o := .cells #[.int .i64 x114000_3, .int .i64 x114001_3, .int .i64 x114002_3, .string x114003_3] 23 (0, 0)) (by (with_reducible repeat (first | refine blk_drewN ?_ _ | refine blk_drew ?_ | refine blk_alloc ?_ _)); exact BK113.out)) : gb113 ≠ gb138)); have n7_ := Aside0.mk ((by rw [hg]; exact Nat.ne_of_gt (blk_lt (g := gb113) (o := .cells #[.int .i64 x114000_3, .int .i64 x114001_3, .int .i64 x114002_3, .string x114003_3] 23 (0, 0)) (by (with_reducible repeat (first | refine blk_drewN ?_ _ | refine blk_drew ?_ | refine blk_alloc ?_ _)); exact BK113.out)) : gb138 ≠ gb113)); clear HO_95; clear BK113; clear HB; have HO_95 := n0_; have BK113 := n1_; have HB := n2_; have BK138 := n3_; have GW138 := n4_; have GE138 := n5_; have NB113_138 := n6_; have NB138_113 := n7_; clear n0_ n1_ n2_ n3_ n4_ n5_ n6_ n7_; clear hb hbox hg; have hnb89 := NB138_113.out; have hnc89 := NB113_138.out; have hcz90_0 : w88.cell? ⟨gb138, 0, none⟩ = some (.string (⟨#[]⟩ : ByteArray)) := (blk_cell BK138.out 0).trans rfl; have hcz90_1 : w88.cell? ⟨gb138, 1, none⟩ = some (.string (⟨#[]⟩ : ByteArray)) := (blk_cell BK138.out 1).trans rfl; have hcz90_2 : w88.cell? ⟨gb138, 2, none⟩ = some (.int .i64 0) := (blk_cell BK138.out 2).trans rfl; have hcz90_3 : w88.cell? ⟨gb138, 3, none⟩ = some (.int .i64 0) := (blk_cell BK138.out 3).trans rfl; have hfz90_0 := blk_frozen BK138.out 0; have hfz90_1 := blk_frozen BK138.out 1; have hfz90_2 := blk_frozen BK138.out 2; have hfz90_3 := blk_frozen BK138.out 3; have hcz91_0 : w88.cell? ⟨gb113, 0, none⟩ = some (.int .i64 x114000_3) := (blk_cell BK113.out 0).trans rfl; have hcz91_1 : w88.cell? ⟨gb113, 1, none⟩ = some (.int .i64 x114001_3) := (blk_cell BK113.out 1).trans rfl; have hcz91_2 : w88.cell? ⟨gb113, 2, none⟩ = some (.int .i64 x114002_3) := (blk_cell BK113.out 2).trans rfl; have hcz91_3 : w88.cell? ⟨gb113, 3, none⟩ = some (.string x114003_3) := (blk_cell BK113.out 3).trans rfl; have hfz91_0 := blk_frozen BK113.out 0; have hfz91_1 := blk_frozen BK113.out 1; have hfz91_2 := blk_frozen BK113.out 2; have hfz91_3 := blk_frozen BK113.out 3) | ((with_reducible refine gate_callee (f := 10) rfl ?_); refine goesL_ (some 106) rfl rfl Try.func10 (by kernel_rfl) rfl #[.agg #[.int .i64 x114000_3, .int .i64 x114001_3, .int .i64 x114002_3, .string x114003_3], .agg #[.string ((rd_T25 t134 x97_3).f0), .string (⟨#[]⟩ : ByteArray), .int .i64 0, .int .i64 0]] rfl (by (try simp only [List.map_toArray, List.map_cons, List.map_nil]); first | done | rfl | (simp only [List.length_drop, List.length_take]; rfl)) ?_; (with_reducible refine (bucket_Set.calls x114000_3 x114001_3 x114002_3 x114003_3 ((rd_T25 t134 x97_3).f0) (⟨#[]⟩ : ByteArray) 0 0 t139 t140 t141 t142 t143 _ A86.out).mono ?_); rintro e w92 ⟨rfl, hb⟩; refine ⟨_, rfl, ?_⟩; have n0_ := Aside0.mk (Kd.R_below (by (with_reducible repeat (first | apply Kd.R_alloc | apply Kd.R_drewN | apply Kd.R_drew)); exact (Kd.R_mono (Kd.R_far (p := ⟨gb138, 3, none⟩) (Kd.R_far (p := ⟨gb138, 2, none⟩) (Kd.R_far (p := ⟨gb138, 1, none⟩) (Kd.R_far (p := ⟨gb138, 0, none⟩) (Kd.R_mono HO_95.out (fun k_ hk => (⟨hk, hk.2⟩ : _ ∧ k_ ≠ gb138))) (fun _ hk => hk.2) (.string ((rd_T25 t134 x97_3).f0))) (fun _ hk => hk.2) (.string ((rd_T25 t134 x97_3).f1))) (fun _ hk => hk.2) (.int .i64 ((rd_T25 t134 x97_3).f2))) (fun _ hk => hk.2) (.int .i64 ((rd_T25 t134 x97_3).f3))) (fun _ h_ => h_.1))) hb); have n1_ := Aside0.mk (blk_below (g := gb113) (o := .cells #[.int .i64 x114000_3, .int .i64 x114001_3, .int .i64 x114002_3, .string x114003_3] 23 (0, 0)) (by (with_reducible repeat (first | refine blk_drewN ?_ _ | refine blk_drew ?_ | refine blk_alloc ?_ _)); refine blk_far ?_ NB113_138.out _; (with_reducible repeat (first | refine blk_drewN ?_ _ | refine blk_drew ?_ | refine blk_alloc ?_ _)); refine blk_far ?_ NB113_138.out _; (with_reducible repeat (first | refine blk_drewN ?_ _ | refine blk_drew ?_ | refine blk_alloc ?_ _)); refine blk_far ?_ NB113_138.out _; (with_reducible repeat (first | refine blk_drewN ?_ _ | refine blk_drew ?_ | refine blk_alloc ?_ _)); refine blk_far ?_ NB113_138.out _; (with_reducible repeat (first | refine blk_drewN ?_ _ | refine blk_drew ?_ | refine blk_alloc ?_ _)); exact BK113.out) hb); have n2_ := Aside0.mk (blk_below (g := gb138) (o := .cells #[.string ((rd_T25 t134 x97_3).f0), .string ((rd_T25 t134 x97_3).f1), .int .i64 ((rd_T25 t134 x97_3).f2), .int .i64 ((rd_T25 t134 x97_3).f3)] 25 (0, 0)) (by (with_reducible repeat (first | refine blk_drewN ?_ _ | refine blk_drew ?_ | refine blk_alloc ?_ _)); refine blk_put (cs := #[.string ((rd_T25 t134 x97_3).f0), .string ((rd_T25 t134 x97_3).f1), .int .i64 ((rd_T25 t134 x97_3).f2), .int .i64 0]) ?_ 3 _ rfl; (with_reducible repeat (first | refine blk_drewN ?_ _ | refine blk_drew ?_ | refine blk_alloc ?_ _)); refine blk_put (cs := #[.string ((rd_T25 t134 x97_3).f0), .string ((rd_T25 t134 x97_3).f1), .int .i64 0, .int .i64 0]) ?_ 2 _ rfl; (with_reducible repeat (first | refine blk_drewN ?_ _ | refine blk_drew ?_ | refine blk_alloc ?_ _)); refine blk_put (cs := #[.string ((rd_T25 t134 x97_3).f0), .string (⟨#[]⟩ : ByteArray), .int .i64 0, .int .i64 0]) ?_ 1 _ rfl; (with_reducible repeat (first | refine blk_drewN ?_ _ | refine blk_drew ?_ | refine blk_alloc ?_ _)); refine blk_put (cs := #[.string (⟨#[]⟩ : ByteArray), .string (⟨#[]⟩ : ByteArray), .int .i64 0, .int .i64 0]) ?_ 0 _ rfl; (with_reducible repeat (first | refine blk_drewN ?_ _ | refine blk_drew ?_ | refine blk_alloc ?_ _)); exact BK138.out) hb); have n3_ := Aside0.mk (below_step (by repeat (first | (with_reducible first | exact HB.out | apply below_alloc | apply pw_below_drewN | apply below_drew1 | refine below_set ?_ GE113.out | refine below_set ?_ GE138.out) | exact HB.out)) hb); clear HO_95; clear BK113; clear BK138; clear HB; have HO_95 := n0_; have BK113 := n1_; have BK138 := n2_; have HB := n3_; clear n0_ n1_ n2_ n3_; (try clear hb); (try clear hb2); (try clear hk); (try clear hi)) | ((with_reducible refine gate_dst (N := 17) rfl ?_); refine box_event ?hg (N := 17) ?hd (cs := #[.int .i64 0, .int .i64 0, .int .i64 0, .string (⟨#[]⟩ : ByteArray)]) (t := 23) ?hr ?_; (case hd => rfl); (case hg => rfl); (case hr => first | (go_simp; done) | (go_simp; rfl)); intro gb144 hg w93 hbox hb; have n0_ := Aside0.mk (Kd.R_below (by (with_reducible repeat (first | apply Kd.R_alloc | apply Kd.R_drewN | apply Kd.R_drew)); exact HO_95.out) hb); have n1_ := Aside0.mk (blk_below (g := gb113) (o := .cells #[.int .i64 x114000_3, .int .i64 x114001_3, .int .i64 x114002_3, .string x114003_3] 23 (0, 0)) (by (with_reducible repeat (first | refine blk_drewN ?_ _ | refine blk_drew ?_ | refine blk_alloc ?_ _)); exact BK113.out) hb); have n2_ := Aside0.mk (blk_below (g := gb138) (o := .cells #[.string ((rd_T25 t134 x97_3).f0), .string ((rd_T25 t134 x97_3).f1), .int .i64 ((rd_T25 t134 x97_3).f2), .int .i64 ((rd_T25 t134 x97_3).f3)] 25 (0, 0)) (by (with_reducible repeat (first | refine blk_drewN ?_ _ | refine blk_drew ?_ | refine blk_alloc ?_ _)); exact BK138.out) hb); have n3_ := Aside0.mk (below_step (by repeat (first | (with_reducible first | exact HB.out | apply below_alloc | apply pw_below_drewN | apply below_drew1 | refine below_set ?_ GE113.out | refine below_set ?_ GE138.out) | exact HB.out)) hb); have n4_ := Aside0.mk (hbox); have n5_ := Aside0.mk ((by rw [hg]; exact (below_size (by repeat (first | (with_reducible first | exact HB.out | apply below_alloc | apply pw_below_drewN | apply below_drew1 | refine below_set ?_ GE113.out | refine below_set ?_ GE138.out) | exact HB.out))) : w.heap.size ≤ gb144)); have n6_ := Aside0.mk ((by rw [hg]; exact (below_size (by repeat (first | (with_reducible first | exact HB.out | apply below_alloc | apply pw_below_drewN | apply below_drew1 | refine below_set ?_ GE113.out | refine below_set ?_ GE138.out) | exact HB.out))) : w.heap.size ≤ gb144)); have n7_ := Aside0.mk ((by rw [hg]; exact Nat.ne_of_lt (blk_lt (g := gb113) (o := .cells #[.int .i64 x114000_3, .int .i64 x114001_3, .int .i64 x114002_3, .string x114003_3] 23 (0, 0)) (by (with_reducible repeat (first | refine blk_drewN ?_ _ | refine blk_drew ?_ | refine blk_alloc ?_ _)); exact BK113.out)) : gb113 ≠ gb144)); have n8_ := Aside0.mk ((by rw [hg]; exact Nat.ne_of_gt (blk_lt (g := gb113) (o := .cells #[.int .i64 x114000_3, .int .i64 x114001_3, .int .i64 x114002_3, .string x114003_3] 23 (0, 0)) (by (with_reducible repeat (first | refine blk_drewN ?_ _ | refine blk_drew ?_ | refine blk_alloc ?_ _)); exact BK113.out)) : gb144 ≠ gb113)); have n9_ := Aside0.mk ((by rw [hg]; exact Nat.ne_of_lt (blk_lt (g := gb138) (o := .cells #[.string ((rd_T25 t134 x97_3).f0), .string ((rd_T25 t134 x97_3).f1), .int .i64 ((rd_T25 t134 x97_3).f2), .int .i64 ((rd_T25 t134 x97_3).f3)] 25 (0, 0)) (by (with_reducible repeat (first | refine blk_drewN ?_ _ | refine blk_drew ?_ | refine blk_alloc ?_ _)); exact BK138.out)) : gb138 ≠ gb144)); have n10_ := Aside0.mk ((by rw [hg]; exact Nat.ne_of_gt (blk_lt (g := gb138) (o := .cells #[.string ((rd_T25 t134 x97_3).f0), .string ((rd_T25 t134 x97_3).f1), .int .i64 ((rd_T25 t134 x97_3).f2), .int .i64 ((rd_T25 t134 x97_3).f3)] 25 (0, 0)) (by (with_reducible repeat (first | refine blk_drewN ?_ _ | refine blk_drew ?_ | refine blk_alloc ?_ _)); exact BK138.out)) : gb144 ≠ gb138)); clear HO_95; clear BK113; clear BK138; clear HB; have HO_95 := n0_; have BK113 := n1_; have BK138 := n2_; have HB := n3_; have BK144 := n4_; have GW144 := n5_; have GE144 := n6_; have NB113_144 := n7_; have NB144_113 := n8_; have NB138_144 := n9_; have NB144_138 := n10_; clear n0_ n1_ n2_ n3_ n4_ n5_ n6_ n7_ n8_ n9_ n10_; clear hb hbox hg; have hnb94 := NB144_113.out; have hnc94 := NB113_144.out; have hnb95 := NB144_138.out; have hnc95 := NB138_144.out; have hcz96_0 : w93.cell? ⟨gb144, 0, none⟩ = some (.int .i64 0) := (blk_cell BK144.out 0).trans rfl; have hcz96_1 : w93.cell? ⟨gb144, 1, none⟩ = some (.int .i64 0) := (blk_cell BK144.out 1).trans rfl; have hcz96_2 : w93.cell? ⟨gb144, 2, none⟩ = some (.int .i64 0) := (blk_cell BK144.out 2).trans rfl; have hcz96_3 : w93.cell? ⟨gb144, 3, none⟩ = some (.string (⟨#[]⟩ : ByteArray)) := (blk_cell BK144.out 3).trans rfl; have hfz96_0 := blk_frozen BK144.out 0; have hfz96_1 := blk_frozen BK144.out 1; have hfz96_2 := blk_frozen BK144.out 2; have hfz96_3 := blk_frozen BK144.out 3; have hcz97_0 : w93.cell? ⟨gb113, 0, none⟩ = some (.int .i64 x114000_3) := (blk_cell BK113.out 0).trans rfl; have hcz97_1 : w93.cell? ⟨gb113, 1, none⟩ = some (.int .i64 x114001_3) := (blk_cell BK113.out 1).trans rfl; have hcz97_2 : w93.cell? ⟨gb113, 2, none⟩ = some (.int .i64 x114002_3) := (blk_cell BK113.out 2).trans rfl; have hcz97_3 : w93.cell? ⟨gb113, 3, none⟩ = some (.string x114003_3) := (blk_cell BK113.out 3).trans rfl; have hfz97_0 := blk_frozen BK113.out 0; have hfz97_1 := blk_frozen BK113.out 1; have hfz97_2 := blk_frozen BK113.out 2; have hfz97_3 := blk_frozen BK113.out 3))
                          go_roundg k3
                          case measure => have := HJ2.out; have := HK2.out; have := HK3.out; omega
                          case rel => exact ⟨(wrap64 (x97_3 + 1)), (t139), (t140), (t141), (t142), (by first | rfl | (simp; done) | (simp [*]; done)), H', ⟨by have := HJ2.out; have := HK2.out; have := HK3.out; omega⟩, ⟨by (with_reducible repeat (first | apply Kd.R_alloc | apply Kd.R_drewN | apply Kd.R_drew)); exact Kd.R_mono (Kd.R_far (p := ⟨gb113, 3, none⟩) (Kd.R_far (p := ⟨gb113, 2, none⟩) (Kd.R_far (p := ⟨gb113, 1, none⟩) (Kd.R_far (p := ⟨gb113, 0, none⟩) (Kd.R_far (p := ⟨gb144, 3, none⟩) (Kd.R_far (p := ⟨gb144, 2, none⟩) (Kd.R_far (p := ⟨gb144, 1, none⟩) (Kd.R_far (p := ⟨gb144, 0, none⟩) (Kd.R_types (Kd.R_types HO_95.out BK144.out (by decide)) BK113.out (by decide)) (fun _ hk => hk.1.2) (.int .i64 t139)) (fun _ hk => hk.1.2) (.int .i64 t140)) (fun _ hk => hk.1.2) (.int .i64 t141)) (fun _ hk => hk.1.2) (.string t142)) (fun _ hk => hk.2) (.int .i64 t139)) (fun _ hk => hk.2) (.int .i64 t140)) (fun _ hk => hk.2) (.int .i64 t141)) (fun _ hk => hk.2) (.string t142)) (fun _ hk => trivial)⟩, ⟨by (with_reducible repeat (first | refine blk_drewN ?_ _ | refine blk_drew ?_ | refine blk_alloc ?_ _)); refine blk_put (cs := #[.int .i64 t139, .int .i64 t140, .int .i64 t141, .string x114003_3]) ?_ 3 _ rfl; (with_reducible repeat (first | refine blk_drewN ?_ _ | refine blk_drew ?_ | refine blk_alloc ?_ _)); refine blk_put (cs := #[.int .i64 t139, .int .i64 t140, .int .i64 x114002_3, .string x114003_3]) ?_ 2 _ rfl; (with_reducible repeat (first | refine blk_drewN ?_ _ | refine blk_drew ?_ | refine blk_alloc ?_ _)); refine blk_put (cs := #[.int .i64 t139, .int .i64 x114001_3, .int .i64 x114002_3, .string x114003_3]) ?_ 1 _ rfl; (with_reducible repeat (first | refine blk_drewN ?_ _ | refine blk_drew ?_ | refine blk_alloc ?_ _)); refine blk_put (cs := #[.int .i64 x114000_3, .int .i64 x114001_3, .int .i64 x114002_3, .string x114003_3]) ?_ 0 _ rfl; (with_reducible repeat (first | refine blk_drewN ?_ _ | refine blk_drew ?_ | refine blk_alloc ?_ _)); refine blk_far ?_ NB113_144.out _; (with_reducible repeat (first | refine blk_drewN ?_ _ | refine blk_drew ?_ | refine blk_alloc ?_ _)); refine blk_far ?_ NB113_144.out _; (with_reducible repeat (first | refine blk_drewN ?_ _ | refine blk_drew ?_ | refine blk_alloc ?_ _)); refine blk_far ?_ NB113_144.out _; (with_reducible repeat (first | refine blk_drewN ?_ _ | refine blk_drew ?_ | refine blk_alloc ?_ _)); refine blk_far ?_ NB113_144.out _; (with_reducible repeat (first | refine blk_drewN ?_ _ | refine blk_drew ?_ | refine blk_alloc ?_ _)); exact BK113.out⟩, ⟨by repeat (first | (with_reducible first | exact HB.out | apply below_alloc | apply pw_below_drewN | apply below_drew1 | refine below_set ?_ GE113.out | refine below_set ?_ GE138.out | refine below_set ?_ GE144.out) | exact HB.out)⟩⟩
                        · rw [if_neg c87] at H
                          have c87b0 : (t143 == 0) = false := beq_eq_false_iff_ne.mpr c87
                          have c87b1 : (t143 != 0) = true := bne_iff_ne.mpr c87
                          obtain rfl := Option.some.inj H
                          have p137 : 0 ≤ (x97_3 : Int) := of_decide_eq_true (by first | (with_reducible assumption) | assumption)
                          have q137 : x97_3 < (t134.length : Int) := of_decide_eq_true (by first | (with_reducible assumption) | assumption)
                          obtain ⟨ad137, e137, hx137_0, hx137_1, hx137_2, hx137_3⟩ := at_T25 (Kd.R_reads' HO_95.out).2.2 x97_3 p137 q137
                          cases e137
                          replace p137 := eq_true p137
                          replace q137 := eq_true q137
                          go_wp2_with (first | ((with_reducible refine gate_dst (N := 16) rfl ?_); refine box_event ?hg (N := 16) ?hd (cs := #[.string (⟨#[]⟩ : ByteArray), .string (⟨#[]⟩ : ByteArray), .int .i64 0, .int .i64 0]) (t := 25) ?hr ?_; (case hd => rfl); (case hg => rfl); (case hr => first | (go_simp; done) | (go_simp; rfl)); intro gb138 hg w98 hbox hb; have n0_ := Aside0.mk (Kd.R_below (Kd.R_elderB (by (with_reducible repeat (first | apply Kd.R_alloc | apply Kd.R_drewN | apply Kd.R_drew)); exact HO_95.out) gb138 (Nat.le_of_eq hg.symm)) hb); have n1_ := Aside0.mk (blk_below (g := gb113) (o := .cells #[.int .i64 x114000_3, .int .i64 x114001_3, .int .i64 x114002_3, .string x114003_3] 23 (0, 0)) (by (with_reducible repeat (first | refine blk_drewN ?_ _ | refine blk_drew ?_ | refine blk_alloc ?_ _)); exact BK113.out) hb); have n2_ := Aside0.mk (below_step (by repeat (first | (with_reducible first | exact HB.out | apply below_alloc | apply pw_below_drewN | apply below_drew1 | refine below_set ?_ GE113.out) | exact HB.out)) hb); have n3_ := Aside0.mk (hbox); have n4_ := Aside0.mk ((by rw [hg]; exact (below_size (by repeat (first | (with_reducible first | exact HB.out | apply below_alloc | apply pw_below_drewN | apply below_drew1 | refine below_set ?_ GE113.out) | exact HB.out))) : w.heap.size ≤ gb138)); have n5_ := Aside0.mk ((by rw [hg]; exact (below_size (by repeat (first | (with_reducible first | exact HB.out | apply below_alloc | apply pw_below_drewN | apply below_drew1 | refine below_set ?_ GE113.out) | exact HB.out))) : w.heap.size ≤ gb138)); have n6_ := Aside0.mk ((by rw [hg]; exact Nat.ne_of_lt (blk_lt (g := gb113) (o := .cells #[.int .i64 x114000_3, .int .i64 x114001_3, .int .i64 x114002_3, .string x114003_3] 23 (0, 0)) (by (with_reducible repeat (first | refine blk_drewN ?_ _ | refine blk_drew ?_ | refine blk_alloc ?_ _)); exact BK113.out)) : gb113 ≠ gb138)); have n7_ := Aside0.mk ((by rw [hg]; exact Nat.ne_of_gt (blk_lt (g := gb113) (o := .cells #[.int .i64 x114000_3, .int .i64 x114001_3, .int .i64 x114002_3, .string x114003_3] 23 (0, 0)) (by (with_reducible repeat (first | refine blk_drewN ?_ _ | refine blk_drew ?_ | refine blk_alloc ?_ _)); exact BK113.out)) : gb138 ≠ gb113)); clear HO_95; clear BK113; clear HB; have HO_95 := n0_; have BK113 := n1_; have HB := n2_; have BK138 := n3_; have GW138 := n4_; have GE138 := n5_; have NB113_138 := n6_; have NB138_113 := n7_; clear n0_ n1_ n2_ n3_ n4_ n5_ n6_ n7_; clear hb hbox hg; have hnb99 := NB138_113.out; have hnc99 := NB113_138.out; have hcz100_0 : w98.cell? ⟨gb138, 0, none⟩ = some (.string (⟨#[]⟩ : ByteArray)) := (blk_cell BK138.out 0).trans rfl; have hcz100_1 : w98.cell? ⟨gb138, 1, none⟩ = some (.string (⟨#[]⟩ : ByteArray)) := (blk_cell BK138.out 1).trans rfl; have hcz100_2 : w98.cell? ⟨gb138, 2, none⟩ = some (.int .i64 0) := (blk_cell BK138.out 2).trans rfl; have hcz100_3 : w98.cell? ⟨gb138, 3, none⟩ = some (.int .i64 0) := (blk_cell BK138.out 3).trans rfl; have hfz100_0 := blk_frozen BK138.out 0; have hfz100_1 := blk_frozen BK138.out 1; have hfz100_2 := blk_frozen BK138.out 2; have hfz100_3 := blk_frozen BK138.out 3; have hcz101_0 : w98.cell? ⟨gb113, 0, none⟩ = some (.int .i64 x114000_3) := (blk_cell BK113.out 0).trans rfl; have hcz101_1 : w98.cell? ⟨gb113, 1, none⟩ = some (.int .i64 x114001_3) := (blk_cell BK113.out 1).trans rfl; have hcz101_2 : w98.cell? ⟨gb113, 2, none⟩ = some (.int .i64 x114002_3) := (blk_cell BK113.out 2).trans rfl; have hcz101_3 : w98.cell? ⟨gb113, 3, none⟩ = some (.string x114003_3) := (blk_cell BK113.out 3).trans rfl; have hfz101_0 := blk_frozen BK113.out 0; have hfz101_1 := blk_frozen BK113.out 1; have hfz101_2 := blk_frozen BK113.out 2; have hfz101_3 := blk_frozen BK113.out 3) | ((with_reducible refine gate_callee (f := 10) rfl ?_); refine goesL_ (some 106) rfl rfl Try.func10 (by kernel_rfl) rfl #[.agg #[.int .i64 x114000_3, .int .i64 x114001_3, .int .i64 x114002_3, .string x114003_3], .agg #[.string ((rd_T25 t134 x97_3).f0), .string (⟨#[]⟩ : ByteArray), .int .i64 0, .int .i64 0]] rfl (by (try simp only [List.map_toArray, List.map_cons, List.map_nil]); first | done | rfl | (simp only [List.length_drop, List.length_take]; rfl)) ?_; (with_reducible refine (bucket_Set.calls x114000_3 x114001_3 x114002_3 x114003_3 ((rd_T25 t134 x97_3).f0) (⟨#[]⟩ : ByteArray) 0 0 t139 t140 t141 t142 t143 _ A86.out).mono ?_); rintro e w102 ⟨rfl, hb⟩; refine ⟨_, rfl, ?_⟩; have n0_ := Aside0.mk (Kd.R_below (by (with_reducible repeat (first | apply Kd.R_alloc | apply Kd.R_drewN | apply Kd.R_drew)); exact (Kd.R_mono (Kd.R_far (p := ⟨gb138, 3, none⟩) (Kd.R_far (p := ⟨gb138, 2, none⟩) (Kd.R_far (p := ⟨gb138, 1, none⟩) (Kd.R_far (p := ⟨gb138, 0, none⟩) (Kd.R_mono HO_95.out (fun k_ hk => (⟨hk, hk.2⟩ : _ ∧ k_ ≠ gb138))) (fun _ hk => hk.2) (.string ((rd_T25 t134 x97_3).f0))) (fun _ hk => hk.2) (.string ((rd_T25 t134 x97_3).f1))) (fun _ hk => hk.2) (.int .i64 ((rd_T25 t134 x97_3).f2))) (fun _ hk => hk.2) (.int .i64 ((rd_T25 t134 x97_3).f3))) (fun _ h_ => h_.1))) hb); have n1_ := Aside0.mk (blk_below (g := gb113) (o := .cells #[.int .i64 x114000_3, .int .i64 x114001_3, .int .i64 x114002_3, .string x114003_3] 23 (0, 0)) (by (with_reducible repeat (first | refine blk_drewN ?_ _ | refine blk_drew ?_ | refine blk_alloc ?_ _)); refine blk_far ?_ NB113_138.out _; (with_reducible repeat (first | refine blk_drewN ?_ _ | refine blk_drew ?_ | refine blk_alloc ?_ _)); refine blk_far ?_ NB113_138.out _; (with_reducible repeat (first | refine blk_drewN ?_ _ | refine blk_drew ?_ | refine blk_alloc ?_ _)); refine blk_far ?_ NB113_138.out _; (with_reducible repeat (first | refine blk_drewN ?_ _ | refine blk_drew ?_ | refine blk_alloc ?_ _)); refine blk_far ?_ NB113_138.out _; (with_reducible repeat (first | refine blk_drewN ?_ _ | refine blk_drew ?_ | refine blk_alloc ?_ _)); exact BK113.out) hb); have n2_ := Aside0.mk (blk_below (g := gb138) (o := .cells #[.string ((rd_T25 t134 x97_3).f0), .string ((rd_T25 t134 x97_3).f1), .int .i64 ((rd_T25 t134 x97_3).f2), .int .i64 ((rd_T25 t134 x97_3).f3)] 25 (0, 0)) (by (with_reducible repeat (first | refine blk_drewN ?_ _ | refine blk_drew ?_ | refine blk_alloc ?_ _)); refine blk_put (cs := #[.string ((rd_T25 t134 x97_3).f0), .string ((rd_T25 t134 x97_3).f1), .int .i64 ((rd_T25 t134 x97_3).f2), .int .i64 0]) ?_ 3 _ rfl; (with_reducible repeat (first | refine blk_drewN ?_ _ | refine blk_drew ?_ | refine blk_alloc ?_ _)); refine blk_put (cs := #[.string ((rd_T25 t134 x97_3).f0), .string ((rd_T25 t134 x97_3).f1), .int .i64 0, .int .i64 0]) ?_ 2 _ rfl; (with_reducible repeat (first | refine blk_drewN ?_ _ | refine blk_drew ?_ | refine blk_alloc ?_ _)); refine blk_put (cs := #[.string ((rd_T25 t134 x97_3).f0), .string (⟨#[]⟩ : ByteArray), .int .i64 0, .int .i64 0]) ?_ 1 _ rfl; (with_reducible repeat (first | refine blk_drewN ?_ _ | refine blk_drew ?_ | refine blk_alloc ?_ _)); refine blk_put (cs := #[.string (⟨#[]⟩ : ByteArray), .string (⟨#[]⟩ : ByteArray), .int .i64 0, .int .i64 0]) ?_ 0 _ rfl; (with_reducible repeat (first | refine blk_drewN ?_ _ | refine blk_drew ?_ | refine blk_alloc ?_ _)); exact BK138.out) hb); have n3_ := Aside0.mk (below_step (by repeat (first | (with_reducible first | exact HB.out | apply below_alloc | apply pw_below_drewN | apply below_drew1 | refine below_set ?_ GE113.out | refine below_set ?_ GE138.out) | exact HB.out)) hb); clear HO_95; clear BK113; clear BK138; clear HB; have HO_95 := n0_; have BK113 := n1_; have BK138 := n2_; have HB := n3_; clear n0_ n1_ n2_ n3_; (try clear hb); (try clear hb2); (try clear hk); (try clear hi)) | ((with_reducible refine gate_dst (N := 17) rfl ?_); refine box_event ?hg (N := 17) ?hd (cs := #[.int .i64 0, .int .i64 0, .int .i64 0, .string (⟨#[]⟩ : ByteArray)]) (t := 23) ?hr ?_; (case hd => rfl); (case hg => rfl); (case hr => first | (go_simp; done) | (go_simp; rfl)); intro gb144 hg w103 hbox hb; have n0_ := Aside0.mk (Kd.R_below (by (with_reducible repeat (first | apply Kd.R_alloc | apply Kd.R_drewN | apply Kd.R_drew)); exact HO_95.out) hb); have n1_ := Aside0.mk (blk_below (g := gb113) (o := .cells #[.int .i64 x114000_3, .int .i64 x114001_3, .int .i64 x114002_3, .string x114003_3] 23 (0, 0)) (by (with_reducible repeat (first | refine blk_drewN ?_ _ | refine blk_drew ?_ | refine blk_alloc ?_ _)); exact BK113.out) hb); have n2_ := Aside0.mk (blk_below (g := gb138) (o := .cells #[.string ((rd_T25 t134 x97_3).f0), .string ((rd_T25 t134 x97_3).f1), .int .i64 ((rd_T25 t134 x97_3).f2), .int .i64 ((rd_T25 t134 x97_3).f3)] 25 (0, 0)) (by (with_reducible repeat (first | refine blk_drewN ?_ _ | refine blk_drew ?_ | refine blk_alloc ?_ _)); exact BK138.out) hb); have n3_ := Aside0.mk (below_step (by repeat (first | (with_reducible first | exact HB.out | apply below_alloc | apply pw_below_drewN | apply below_drew1 | refine below_set ?_ GE113.out | refine below_set ?_ GE138.out) | exact HB.out)) hb); have n4_ := Aside0.mk (hbox); have n5_ := Aside0.mk ((by rw [hg]; exact (below_size (by repeat (first | (with_reducible first | exact HB.out | apply below_alloc | apply pw_below_drewN | apply below_drew1 | refine below_set ?_ GE113.out | refine below_set ?_ GE138.out) | exact HB.out))) : w.heap.size ≤ gb144)); have n6_ := Aside0.mk ((by rw [hg]; exact (below_size (by repeat (first | (with_reducible first | exact HB.out | apply below_alloc | apply pw_below_drewN | apply below_drew1 | refine below_set ?_ GE113.out | refine below_set ?_ GE138.out) | exact HB.out))) : w.heap.size ≤ gb144)); have n7_ := Aside0.mk ((by rw [hg]; exact Nat.ne_of_lt (blk_lt (g := gb113) (o := .cells #[.int .i64 x114000_3, .int .i64 x114001_3, .int .i64 x114002_3, .string x114003_3] 23 (0, 0)) (by (with_reducible repeat (first | refine blk_drewN ?_ _ | refine blk_drew ?_ | refine blk_alloc ?_ _)); exact BK113.out)) : gb113 ≠ gb144)); have n8_ := Aside0.mk ((by rw [hg]; exact Nat.ne_of_gt (blk_lt (g := gb113) (o := .cells #[.int .i64 x114000_3, .int .i64 x114001_3, .int .i64 x114002_3, .string x114003_3] 23 (0, 0)) (by (with_reducible repeat (first | refine blk_drewN ?_ _ | refine blk_drew ?_ | refine blk_alloc ?_ _)); exact BK113.out)) : gb144 ≠ gb113)); have n9_ := Aside0.mk ((by rw [hg]; exact Nat.ne_of_lt (blk_lt (g := gb138) (o := .cells #[.string ((rd_T25 t134 x97_3).f0), .string ((rd_T25 t134 x97_3).f1), .int .i64 ((rd_T25 t134 x97_3).f2), .int .i64 ((rd_T25 t134 x97_3).f3)] 25 (0, 0)) (by (with_reducible repeat (first | refine blk_drewN ?_ _ | refine blk_drew ?_ | refine blk_alloc ?_ _)); exact BK138.out)) : gb138 ≠ gb144)); have n10_ := Aside0.mk ((by rw [hg]; exact Nat.ne_of_gt (blk_lt (g := gb138) (o := .cells #[.string ((rd_T25 t134 x97_3).f0), .string ((rd_T25 t134 x97_3).f1), .int .i64 ((rd_T25 t134 x97_3).f2), .int .i64 ((rd_T25 t134 x97_3).f3)] 25 (0, 0)) (by (with_reducible repeat (first | refine blk_drewN ?_ _ | refine blk_drew ?_ | refine blk_alloc ?_ _)); exact BK138.out)) : gb144 ≠ gb138)); clear HO_95; clear BK113; clear BK138; clear HB; have HO_95 := n0_; have BK113 := n1_; have BK138 := n2_; have HB := n3_; have BK144 := n4_; have GW144 := n5_; have GE144 := n6_; have NB113_144 := n7_; have NB144_113 := n8_; have NB138_144 := n9_; have NB144_138 := n10_; clear n0_ n1_ n2_ n3_ n4_ n5_ n6_ n7_ n8_ n9_ n10_; clear hb hbox hg; have hnb104 := NB144_113.out; have hnc104 := NB113_144.out; have hnb105 := NB144_138.out; have hnc105 := NB138_144.out; have hcz106_0 : w103.cell? ⟨gb144, 0, none⟩ = some (.int .i64 0) := (blk_cell BK144.out 0).trans rfl; have hcz106_1 : w103.cell? ⟨gb144, 1, none⟩ = some (.int .i64 0) := (blk_cell BK144.out 1).trans rfl; have hcz106_2 : w103.cell? ⟨gb144, 2, none⟩ = some (.int .i64 0) := (blk_cell BK144.out 2).trans rfl; have hcz106_3 : w103.cell? ⟨gb144, 3, none⟩ = some (.string (⟨#[]⟩ : ByteArray)) := (blk_cell BK144.out 3).trans rfl; have hfz106_0 := blk_frozen BK144.out 0; have hfz106_1 := blk_frozen BK144.out 1; have hfz106_2 := blk_frozen BK144.out 2; have hfz106_3 := blk_frozen BK144.out 3))
                          go_ret
                          exact ⟨by first | rfl | (simp [errW_none, errW_some] <;> rfl) | (simp [*, errW_none, errW_some] <;> rfl), by repeat (first | (with_reducible first | exact HB.out | apply below_alloc | apply pw_below_drewN | apply below_drew1 | refine below_set ?_ GE113.out | refine below_set ?_ GE138.out | refine below_set ?_ GE144.out) | exact HB.out)⟩
                      · rw [if_neg c85] at H
                        exact absurd H (by simp)
                    · rw [if_neg c84] at H
                      exact absurd H (by simp)
                  · rw [if_neg c83] at H
                    have c83b0 : decide (x97_3 < (t134.length : Int)) = false := decide_eq_false c83
                    clear c83
                    obtain rfl := Option.some.inj H
                    go_wp2
                    go_ret
                    exact ⟨by first | rfl | (simp [errW_none, errW_some] <;> rfl) | (simp [*, errW_none, errW_some] <;> rfl), by repeat (first | (with_reducible first | exact HB.out | apply below_alloc | apply pw_below_drewN | apply below_drew1 | refine below_set ?_ GE113.out) | exact HB.out)⟩
/-- THE ONE PURE STATEMENT of honeycomblaw8_BucketFills. -/
def honeycomblaw8_BucketFills.Pure : Prop := ∀ (l0 : List ByteArray) (a1 : Int) , (l0.length ≤ maxLen ∧ ∀ a_ ∈ l0, a_.size ≤ maxLen) → l0.length * 16 ≤ 140737488351232 → (Lit.int .i64 a1).wf = true → ∃ k, honeycomblaw8_BucketFills.f k l0 a1 = some true
theorem honeycomblaw8_BucketFills.walk (P : honeycomblaw8_BucketFills.Pure) (A0 : Option Addr) (c0 : Nat) (l0 : List ByteArray) (a1 : Int) (w : World) (h0 : (l0.length ≤ maxLen ∧ ∀ a_ ∈ l0, a_.size ≤ maxLen)) (h1 : l0.length * 16 ≤ 140737488351232) (h2 : (Lit.int .i64 a1).wf = true) (hr0 : Kd.C Kd.string w A0 l0.length l0) (hc0 : l0.length ≤ c0) :
    Calls Try.prog 4 #[.slice A0 l0.length c0, .int .i64 a1] w fun e w' => e = .returned (.bool true) ∧ Below w.heap.size w w' := by
  obtain ⟨k, h⟩ := P l0 a1 h0 h1 h2
  refine (honeycomblaw8_BucketFills.calls k A0 c0 l0 a1 true w hr0 hc0 h).mono ?_
  rintro e w' ⟨rfl, hd⟩
  exact ⟨rfl, hd⟩

end Go.Proofs.Ytcmepoakcffpaaa.M
