import Derived.Test.YtiagbkpggeglgaaGreatRK2
import Derived.Test.YtiagbkpggeglgaaGreatRMPlain
import Derived.Deep.CutBlock
import Derived.Test.YtiagbkpggeglgaaGreatProg
import Derived.BigRegion
import Derived.BigQuiet
import Derived.Deep.QuietTactic
import Derived.Deep.AppendLies
import Derived.ChangeAlike
import Derived.Outline
import Derived.WalkKit
import Derived.KernelRfl
import Derived.Deep.LoopGhost
import Derived.Deep.RegionLaw
import Derived.Test.YtiagbkpggeglgaaGreatWMore
import Derived.Test.YtiagbkpggeglgaaGreatWKept
import Derived.Test.YtiagbkpggeglgaaGreatLSep
namespace Go.Proofs.YtiagbkpggeglgaaGreat.RS
open Go Go.RowKit Go.Proofs.YtiagbkpggeglgaaGreatW.PrintWords Go.Proofs.YtiagbkpggeglgaaGreatW.PrintLast Go.Proofs.YtiagbkpggeglgaaGreatW.PrintMore Go.Proofs.YtiagbkpggeglgaaGreat.L Go.Proofs.YtiagbkpggeglgaaGreat.MR
set_option linter.unusedVariables false
set_option linter.unusedSimpArgs false
theorem cell_elem {α : Type} [Inhabited α] {k : Nat} {enc : α → List Value} {hl : ∀ x, (enc x).length = k} {h1 : ∀ x, ∀ u ∈ enc x, u.oneCell' = true} {W : World} {F : Nat → Prop} {e : Nat} {v : Value} {xs : List α} (h : (RowAt (kdOf k enc hl h1) e v xs).on W F) (hn : 0 < xs.length) : ∃ g c, v = .slice (some ⟨g, 0, none⟩) xs.length c ∧ ∀ i, i < xs.length → ∀ j u, (enc (xs.getD i default))[j]? = some u → W.cell? ⟨g, i * k + j, none⟩ = some u := by
  obtain ⟨g, c, hv, _⟩ := Kd.R_form h.1 hn
  obtain ⟨A, c', hv', _, hC⟩ := RowAt.reads h
  rw [hv] at hv'
  injection hv' with e1 _ e2
  subst e1 e2
  refine ⟨g, c, hv, fun i hi j u hu => ?_⟩
  obtain ⟨ad, cs, e, _, hK, hc0⟩ := Kd.C_get hC (default : α) (i : Int) (by omega) (by omega)
  injection e with e
  subst e
  have hc : ∀ j u, cs[j]? = some u → W.cell? ((⟨g, 0, none⟩ : Addr).add (i * k + j)) = some u := hc0
  have hK2 : cs = enc (xs.getD i default) := hK
  subst hK2
  have := hc j u hu
  rwa [add_zero_off] at this
abbrev rc1 (b : Nat) : Rc := ⟨1, 3, 0, 0, ⟨#[]⟩, false, ⟨#[]⟩, ⟨#[]⟩, 0, 0, none, 0, [], some ⟨b, 0, none⟩, 1, [(2, 0, ⟨#[120]⟩)], none, 0, [], none, 0, []⟩
abbrev rc2 : Rc := ⟨4, 4, 0, 0, ⟨#[]⟩, false, ⟨#[]⟩, ⟨#[]⟩, 0, 0, none, 0, [], none, 0, [], none, 0, [], none, 0, []⟩
theorem touch_one (n a : Int) (s : ByteArray) : touchF [(n, a, s)] = [n] := by
  unfold touchF sortI
  simp [Go.Lib.compact, Go.Lib.compactUpTo, List.mergeSort]
  exact ⟨0, by simp [Go.Lib.keeps], by simp⟩
theorem touch_nil : touchF [] = [] := by
  unfold touchF sortI
  simp [Go.Lib.compact, Go.Lib.compactUpTo, List.mergeSort]
theorem ana_alive (b : Nat) : anaA 0 [rc1 b, rc2] = ⟨[(3, ⟨3, 1, false, []⟩), (4, ⟨4, 2, true, []⟩)], [(2, 1)]⟩ := by
  unfold anaA startA
  rw [if_pos rfl]
  show goA ⟨[], []⟩ 0 [rc1 b, rc2] = _
  unfold goA goA goA readA
  rw [touch_one, touch_nil]
  rfl
theorem kd_nil {α : Type} {k : Nat} {enc : α → List Value} {hl : ∀ x, (enc x).length = k} {h1 : ∀ x, ∀ u ∈ enc x, u.oneCell' = true} (w : World) (A : Option Addr) : (kdOf k enc hl h1).C w A ([] : List α).length [] := ⟨rfl, by simp, fun h => absurd h (Nat.lt_irrefl 0)⟩
theorem kdI_nil (w : World) (A : Option Addr) : kdI.C w A ([] : List Int).length [] := ⟨rfl, by simp, fun h => absurd h (Nat.lt_irrefl 0)⟩
/-- The first log, read. -/
def Al (w : World) (e : Ending) (w' : World) : Prop := ∃ g c g2 c2 ts, e = .returned (.tuple #[.agg #[.slice (some ⟨g, 0, none⟩) 2 c, .slice (some ⟨g2, 0, none⟩) 1 c2, .int .i64 1], .bool true]) ∧ ((∀ W, Below w'.heap.size w' W → W.cell? ⟨g, 0, none⟩ = some (.int .i64 3) ∧ W.cell? ⟨g, 6, none⟩ = some (.bool true) ∧ W.cell? ⟨g2, 0, none⟩ = some (.int .i64 2) ∧ W.cell? ⟨g2, 1, none⟩ = some (.int .i64 1)) ∧ Below w.heap.size w w' ∧ kdT.C w' (some ⟨g, 0, none⟩) 2 ts ∧ ts.length = 2 ∧ losL ts = [3])
theorem ana_al (w : World) (A : Option Addr) (c b : Nat) (hc : 2 ≤ c) (hC : kdRc.C w A 2 [rc1 b, rc2]) (h1 : kdPt.C w (some ⟨b, 0, none⟩) 1 [((2 : Int), (0 : Int), (⟨#[120]⟩ : ByteArray))]) : Calls Tryz.prog 13 #[.int .i64 0, .slice A 2 c] w (Al w) := by
  have hr : ∀ r ∈ [rc1 b, rc2], RcAt w r := by
    intro r hr
    simp only [List.mem_cons, List.not_mem_nil, or_false] at hr
    rcases hr with rfl | rfl
    · exact ⟨kdI_nil _ _, h1, kd_nil _ _, (fun _ h => by cases h), kd_nil _ _, Nat.zero_le _, (show 1 < 900000 by decide)⟩
    · exact ⟨kdI_nil _ _, kd_nil _ _, kd_nil _ _, (fun _ h => by cases h), kd_nil _ _, Nat.zero_le _, Nat.zero_lt_succ _⟩
  have h := analyse_calls w 0 A c [rc1 b, rc2] hC hc hr (show 2 < 900000 by decide) (by rw [ana_alive]; decide) (by rw [ana_alive]; decide) ⟨by decide, (show (0 : Int) ≤ 2 by decide), fun h => absurd h (by decide)⟩ (fun h => absurd h (by decide)) (fun h => absurd h (by decide))
  refine h.mono ?_
  rintro e w' ⟨A', c', ts, B, cB, ds, rfl, h2, h3, h4, h5, o⟩
  rw [ana_alive] at h2 h4 ⊢
  dsimp only at h2 h4 ⊢
  have ht : ts.map Tv.ab = [⟨3, 1, false, []⟩, ⟨4, 2, true, []⟩] := by
    refine (sort_unique (fun t : Tp => t.tx) h2.symm ?_ ?_ (by decide)).symm
    · simp
    · rw [List.pairwise_map]; exact h3
  have hd : ds = [(2, 1)] := List.perm_singleton.1 h4
  subst hd
  obtain ⟨t1, t2, rfl, hab1, hab2⟩ : ∃ t1 t2 : Tv, ts = [t1, t2] ∧ t1.ab = ⟨3, 1, false, []⟩ ∧ t2.ab = ⟨4, 2, true, []⟩ := by
    cases ts with
    | nil => cases ht
    | cons a l =>
      cases l with
      | nil => simp at ht
      | cons b l =>
        cases l with
        | nil =>
          simp only [List.map_cons, List.map_nil, List.cons.injEq, and_true] at ht
          exact ⟨a, b, rfl, ht.1, ht.2⟩
        | cons c l => simp at ht
  obtain ⟨x, l, cc, tA, ca, p⟩ := t1
  obtain ⟨x', l', cc', uA, cb, p'⟩ := t2
  unfold Tv.ab at hab1 hab2
  injection hab1 with i1 i2 i3 i4
  injection hab2 with j1 j2 j3 j4
  dsimp only at i1 i2 i3 i4 j1 j2 j3 j4
  subst i1 i2 i3 i4 j1 j2 j3 j4
  obtain ⟨F1, hT⟩ := o.fact 1 rfl
  obtain ⟨F2, hD⟩ := o.fact 2 rfl
  obtain ⟨g, c1, hv1, z1⟩ := cell_elem hT (Nat.zero_lt_succ _)
  obtain ⟨g2, c2, hv2, z2⟩ := cell_elem hD (Nat.zero_lt_succ _)
  obtain ⟨_, _, hvv, _, hCT⟩ := RowAt.reads hT
  rw [hv1] at hvv
  injection hvv with e1 _ e2
  subst e1 e2
  injection hv1 with e1 _ e2
  subst e1 e2
  injection hv2 with e1 _ e2
  subst e1 e2
  refine ⟨g, _, g2, _, _, rfl, fun W hW => ⟨?_, ?_, ?_, ?_⟩, o.below, hCT, rfl, losL_two rfl rfl⟩
  · exact cell_below hW (z1 0 (Nat.zero_lt_succ _) 0 _ rfl)
  · exact cell_below hW (z1 1 (show 1 < 2 by decide) 2 _ rfl)
  · exact cell_below hW (z2 0 (Nat.zero_lt_succ _) 0 _ rfl)
  · exact cell_below hW (z2 0 (Nat.zero_lt_succ _) 1 _ rfl)
theorem Newer_alive : restart_Newer.f 6 zeros64 (strM 1 2 0 8 64) = some (1, 2, 0, 8, 64, 1, true) := Newer_right (k := 0) (Get_zeros 0) (Get_own (by decide) 0)
attribute [local irreducible] strM zeros64
/-- The two records as they are laid. -/
theorem laid (w : World) : ∀ W : World, W = (w.alloc (.cells #[.int .i64 2, .int .i64 0, .string ⟨#[120]⟩] 77)).alloc (.cells #[.int .i64 1, .int .i64 3, .int .i64 0, .int .i64 0, .string ⟨#[]⟩, .bool false, .string ⟨#[]⟩, .string ⟨#[]⟩, .int .i64 0, .int .i64 0, .slice none 0 0, .slice (some ⟨w.heap.size, 0, none⟩) 1 1, .slice none 0 0, .slice none 0 0, .int .i64 4, .int .i64 4, .int .i64 0, .int .i64 0, .string ⟨#[]⟩, .bool false, .string ⟨#[]⟩, .string ⟨#[]⟩, .int .i64 0, .int .i64 0, .slice none 0 0, .slice none 0 0, .slice none 0 0, .slice none 0 0] 44) →
    kdRc.C W (some ⟨w.heap.size + 1, 0, none⟩) 2 [rc1 w.heap.size, rc2] ∧ kdPt.C W (some ⟨w.heap.size, 0, none⟩) 1 [((2 : Int), (0 : Int), (⟨#[120]⟩ : ByteArray))] ∧ Below w.heap.size w W := by
  rintro _ rfl
  have b1 := heap_alloc2_old w (.cells #[.int .i64 2, .int .i64 0, .string ⟨#[120]⟩] 77) (.cells #[.int .i64 1, .int .i64 3, .int .i64 0, .int .i64 0, .string ⟨#[]⟩, .bool false, .string ⟨#[]⟩, .string ⟨#[]⟩, .int .i64 0, .int .i64 0, .slice none 0 0, .slice (some ⟨w.heap.size, 0, none⟩) 1 1, .slice none 0 0, .slice none 0 0, .int .i64 4, .int .i64 4, .int .i64 0, .int .i64 0, .string ⟨#[]⟩, .bool false, .string ⟨#[]⟩, .string ⟨#[]⟩, .int .i64 0, .int .i64 0, .slice none 0 0, .slice none 0 0, .slice none 0 0, .slice none 0 0] 44)
  have b2 := heap_alloc_new (w.alloc (.cells #[.int .i64 2, .int .i64 0, .string ⟨#[120]⟩] 77)) (.cells #[.int .i64 1, .int .i64 3, .int .i64 0, .int .i64 0, .string ⟨#[]⟩, .bool false, .string ⟨#[]⟩, .string ⟨#[]⟩, .int .i64 0, .int .i64 0, .slice none 0 0, .slice (some ⟨w.heap.size, 0, none⟩) 1 1, .slice none 0 0, .slice none 0 0, .int .i64 4, .int .i64 4, .int .i64 0, .int .i64 0, .string ⟨#[]⟩, .bool false, .string ⟨#[]⟩, .string ⟨#[]⟩, .int .i64 0, .int .i64 0, .slice none 0 0, .slice none 0 0, .slice none 0 0, .slice none 0 0] 44)
  rw [show (w.alloc (.cells #[.int .i64 2, .int .i64 0, .string ⟨#[120]⟩] 77)).heap.size = w.heap.size + 1 by simp] at b2
  refine ⟨⟨rfl, by decide, fun _ => ⟨_, rfl, fun j p hj => ?_⟩⟩, ⟨rfl, by decide, fun _ => ⟨_, rfl, fun j p hj => ?_⟩⟩, (((Eff.refl (fun _ => False) w).alloc _).alloc _).below0⟩
  · refine ⟨encR p, rfl, rfl, fun i u hu => ?_⟩
    rw [add_zero_off, blk_cell b2]
    match j, hj with
    | 0, hj =>
      injection hj with hj
      subst hj
      match i, hu with
      | 0, hu | 1, hu | 2, hu | 3, hu | 4, hu | 5, hu | 6, hu | 7, hu | 8, hu | 9, hu | 10, hu | 11, hu | 12, hu | 13, hu => exact hu
      | i + 14, hu => cases hu
    | 1, hj =>
      injection hj with hj
      subst hj
      match i, hu with
      | 0, hu | 1, hu | 2, hu | 3, hu | 4, hu | 5, hu | 6, hu | 7, hu | 8, hu | 9, hu | 10, hu | 11, hu | 12, hu | 13, hu => exact hu
      | i + 14, hu => cases hu
    | j + 2, hj => cases hj
  · refine ⟨encP p, rfl, rfl, fun i u hu => ?_⟩
    rw [add_zero_off, blk_cell b1]
    match j, hj with
    | 0, hj =>
      injection hj with hj
      subst hj
      match i, hu with
      | 0, hu | 1, hu | 2, hu => exact hu
      | i + 3, hu => cases hu
    | j + 1, hj => cases hj
theorem one_row (W : World) : kdI.C (W.alloc (.cells #[.int .i64 3] 3)) (some ⟨W.heap.size, 0, none⟩) [(3 : Int)].length [3] := by
  refine ⟨rfl, by decide, fun _ => ⟨_, rfl, fun j p hj => ?_⟩⟩
  match j, hj with
  | 0, hj =>
    injection hj with hj
    subst hj
    refine ⟨[.int .i64 3], rfl, rfl, fun i u hu => ?_⟩
    rw [add_zero_off, blk_cell (heap_alloc_new W _)]
    match i, hu with
    | 0, hu => exact hu
    | i + 1, hu => cases hu
  | j + 1, hj => cases hj
theorem los_al {w1 W : World} {g c g2 c2 : Nat} {ts : List Tv} (hb : Below w1.heap.size w1 W) (hC : kdT.C w1 (some ⟨g, 0, none⟩) 2 ts) (hl : ts.length = 2) (hL : losL ts = [3]) : Calls Tryz.prog 19 #[.agg #[.slice (some ⟨g, 0, none⟩) 2 c, .slice (some ⟨g2, 0, none⟩) 1 c2, .int .i64 1]] W (fun e w' => ∃ A c', e = .returned (.slice A 1 c') ∧ Aside0 (kdI.C w' A [(3 : Int)].length [3] ∧ Below W.heap.size W w')) := by
  have hC2 : kdT.C W (some ⟨g, 0, none⟩) 2 ts := Kd.C_below hC hb
  rw [← hl] at hC2 ⊢
  refine (losers_calls W _ c ts hC2 (by rw [hl]; decide) _ 1 c2 1).mono ?_
  rintro e w' ⟨A, c', rfl, o⟩
  rw [hL] at o ⊢
  obtain ⟨A2, c3, hv, _, h⟩ := Own.row o
  injection hv with e1 _ e2
  subst e1 e2
  exact ⟨A, c', rfl, Aside0.mk ⟨h, o.below⟩⟩
theorem box_keep {w w' : World} {cs : Array Value} {t : Nat} (h : Below (w.alloc (.cells cs t)).heap.size (w.alloc (.cells cs t)) w') (i : Nat) : w'.cell? ⟨w.heap.size, i, none⟩ = cs[i]? := by
  have hb := h.block w.heap.size (by simp)
  exact blk_cell (hb.trans (heap_alloc_new w _)) i
set_option maxHeartbeats 1600000 in
set_option maxRecDepth 100000 in
theorem alive_calls (w : World) : Calls Tryz.prog 6 #[] w fun e w' => e = .returned (.bool true) ∧ Below w.heap.size w w' := by
  have hE := eqD
  have CA : ∀ W : World, W = (w.alloc (.cells #[.int .i64 2, .int .i64 0, .string ⟨#[120]⟩] 77)).alloc (.cells #[.int .i64 1, .int .i64 3, .int .i64 0, .int .i64 0, .string ⟨#[]⟩, .bool false, .string ⟨#[]⟩, .string ⟨#[]⟩, .int .i64 0, .int .i64 0, .slice none 0 0, .slice (some ⟨w.heap.size, 0, none⟩) 1 1, .slice none 0 0, .slice none 0 0, .int .i64 4, .int .i64 4, .int .i64 0, .int .i64 0, .string ⟨#[]⟩, .bool false, .string ⟨#[]⟩, .string ⟨#[]⟩, .int .i64 0, .int .i64 0, .slice none 0 0, .slice none 0 0, .slice none 0 0, .slice none 0 0] 44) →
      Calls Tryz.prog 13 #[.int .i64 0, .slice (some ⟨w.heap.size + 1, 0, none⟩) 2 2] W (Al W) ∧ Below w.heap.size w W := by
    intro W hW
    obtain ⟨h1, h2, h3⟩ := laid w W hW
    exact ⟨ana_al W _ 2 w.heap.size (Nat.le_refl _) h1 h2, h3⟩
  obtain ⟨CA1, CA2⟩ := CA _ rfl
  have C1 := Aside0.mk CA1
  have C2 := Aside0.mk CA2
  have CP := Aside0.mk (fun w' => (Put2_calls 1 2 0 8 64 w').mono (R' := fun e w2 => e = .returned (.tuple #[.string (strM 1 2 0 8 64), .bool true]) ∧ Eff0 w' w2) (by
    rintro e w2 ⟨⟨ho, rfl⟩ | ⟨ho, rfl⟩, e2⟩
    · exact ⟨rfl, e2⟩
    · exact absurd (show okM 1 2 0 8 64 by decide) ho))
  clear CA CA1 CA2
  go_enter Tryz.func6, Tryz.ntmps6
  go_wp2_with (first
    | (go_at_call 13; refine C1.out.mono ?_; rintro e w1 ⟨g, c, g2, c2, ts, rfl, H1⟩; have HA := Aside0.mk H1; clear H1 C1)
    | (go_at_call 7; refine (CP.out _).mono ?_; rintro e w2 ⟨rfl, e2⟩)
    | (go_at_call 28; refine (Zeros_calls _).mono ?_; rintro e w3 ⟨rfl, e3⟩)
    | (go_at_call 11; refine (Newer_calls Newer_alive _).mono ?_; rintro e w4 ⟨rfl, e4⟩
       have e5 := ((e2.then0 e3).then0 e4).alloc (.cells #[.int .i64 1, .int .i64 2, .int .i64 0, .int .i64 8, .int .i64 64] 23)
       have b1 := ((((Eff.refl (fun _ => False) w1).alloc (.cells #[.slice (some ⟨g, 0, none⟩) 2 c, .slice (some ⟨g2, 0, none⟩) 1 c2, .int .i64 1] 47)).then0 e5)).below0
       obtain ⟨x0, x1, x2, x3⟩ := HA.out.1 _ b1
       have y := box_keep e5.below0
       have y0 := y 0
       have y1 := y 1
       have y2 := y 2
       have CL := Aside0.mk (los_al (c := c) (g2 := g2) (c2 := c2) b1 HA.out.2.2.1 HA.out.2.2.2.1 HA.out.2.2.2.2)
       have B1 := Aside0.mk b1
       clear e2 e3 e4 e5 b1 y)
    | (go_at_call 19; refine CL.out.mono ?_; rintro e w6 ⟨A6, c6, rfl, H6⟩
       have CS := Aside0.mk (sameInts_calls (w6.alloc (.cells #[.int .i64 3] 3)) A6 (some ⟨w6.heap.size, 0, none⟩) c6 1 [3] (Kd.C_alloc H6.out.1 _) (one_row w6) (by decide)))
    | (go_at_call 23; refine CS.out.mono ?_; rintro e w7 ⟨rfl, n7, rfl⟩
       have z := box_keep ((Eff.of_below (S := fun _ => False) H6.out.2).alloc (.cells #[.int .i64 3] 3)).below0
       have z1 := z 1
       clear z)
    | fail)
  go_ret
  have e1 : Eff0 w w1 := (Eff.of_below C2.out).then0 (Eff.of_below HA.out.2.1)
  exact ⟨rfl, ((((e1.then0 (Eff.of_below B1.out)).then0 (Eff.of_below H6.out.2)).alloc _).drewN n7).below0⟩
end Go.Proofs.YtiagbkpggeglgaaGreat.RS
