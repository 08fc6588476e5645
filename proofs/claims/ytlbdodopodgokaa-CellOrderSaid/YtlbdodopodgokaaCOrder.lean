/- The law CellOrder, walked by hand. -/
import Derived.Test.YtlbdodopodgokaaPureCommon
import Derived.Test.YtlbdodopodgokaaCFits
import Derived.Test.YtlbdodopodgokaaCEdges
import Derived.Test.YtlbdodopodgokaaProg
import Derived.BigRegion
import Derived.BigQuiet
import Derived.Deep.QuietTactic
import Derived.Deep.AppendLies
import Derived.ChangeAlike
import Derived.Outline
import Derived.WalkKit
import Derived.KernelRfl
import Derived.Deep.LoopGhost
import Derived.Deep.RegionLaw
import Derived.Test.YtlbdodopodgokaaWMore
import Derived.Test.YtlbdodopodgokaaWKept
import Derived.Test.YtlbdodopodgokaaLSep
import Derived.Test.YtlbdodopodgokaaLSortLib
import Derived.Sort.Walk0
import Derived.Laws.Cover1
namespace Go.Proofs.Ytlbdodopodgokaa.CP
open Go Go.RowKit Go.Proofs.YtlbdodopodgokaaW.PrintWords Go.Proofs.YtlbdodopodgokaaW.PrintLast Go.Proofs.YtlbdodopodgokaaW.PrintMore Go.Proofs.Ytlbdodopodgokaa.CR Go.Proofs.Ytlbdodopodgokaa.L
set_option linter.unusedVariables false
set_option linter.unusedSimpArgs false
abbrev cB8 (c d : B) : Obj := .cells #[.string c.k, .string c.v, .int .i64 c.bl, .int .i64 c.sz, .string d.k, .string d.v, .int .i64 d.bl, .int .i64 d.sz] 32 (0, 0)
theorem C_two (w : World) (c d : B) : Kd.C kdB (w.alloc (.cells #[.string c.k, .string c.v, .int .i64 c.bl, .int .i64 c.sz, .string d.k, .string d.v, .int .i64 d.bl, .int .i64 d.sz] 32 (0, 0))) (some ⟨w.heap.size, 0, none⟩) 2 [c, d] := by
  refine ⟨rfl, by decide, fun _ => ⟨_, rfl, fun j p hj => ?_⟩⟩
  match j, hj with
  | 0, hj =>
    simp only [List.getElem?_cons_zero, Option.some.injEq] at hj
    subst hj
    refine ⟨cellsB c, rfl, rfl, fun i u hu => ?_⟩
    have hi : i < 4 := (List.getElem?_eq_some_iff.1 hu).1
    rw [L.add_zero_off, Nat.zero_mul, Nat.zero_add, blk_cell (heap_alloc_new w _) i]
    match i, hi, hu with
    | 0, _, hu => exact hu
    | 1, _, hu => exact hu
    | 2, _, hu => exact hu
    | 3, _, hu => exact hu
  | 1, hj =>
    simp only [List.getElem?_cons_succ, List.getElem?_cons_zero, Option.some.injEq] at hj
    subst hj
    refine ⟨cellsB d, rfl, rfl, fun i u hu => ?_⟩
    have hi : i < 4 := (List.getElem?_eq_some_iff.1 hu).1
    rw [L.add_zero_off, blk_cell (heap_alloc_new w _)]
    match i, hi, hu with
    | 0, _, hu => exact hu
    | 1, _, hu => exact hu
    | 2, _, hu => exact hu
    | 3, _, hu => exact hu
/-- Two cells in their blocks. -/
def OrS (w : World) (g h : Nat) (c d : B) (w1 : World) : Prop := EdS w g c w1 ∧ EdS w h d w1
theorem OrS.eff {w w1 w2 : World} {g h : Nat} {c d : B} (s : OrS w g h c d w1) (e : Eff0 w1 w2) : OrS w g h c d w2 := ⟨s.1.eff e, s.2.eff e⟩
theorem OrS.cells {w w1 : World} {g h : Nat} {c d : B} (s : Aside0 (OrS w g h c d w1)) : (w1.cell? ⟨g, 0, none⟩ = some (.string c.k) ∧ w1.cell? ⟨g, 1, none⟩ = some (.string c.v) ∧ w1.cell? ⟨g, 2, none⟩ = some (.int .i64 c.bl) ∧ w1.cell? ⟨g, 3, none⟩ = some (.int .i64 c.sz)) ∧ (w1.cell? ⟨h, 0, none⟩ = some (.string d.k) ∧ w1.cell? ⟨h, 1, none⟩ = some (.string d.v) ∧ w1.cell? ⟨h, 2, none⟩ = some (.int .i64 d.bl) ∧ w1.cell? ⟨h, 3, none⟩ = some (.int .i64 d.sz)) := ⟨EdS.cells (Aside0.mk s.out.1), EdS.cells (Aside0.mk s.out.2)⟩
theorem OrS.right {w w1 : World} {g h : Nat} {c d : B} (s : Aside0 (OrS w g h c d w1)) (q : B) {m : Bool} (hm : Aside0 (right q.cl = m)) : Calls Try.prog 16 #[.agg #[.string q.k, .string q.v, .int .i64 q.bl, .int .i64 q.sz]] w1 fun e w' => e = .returned (.bool m) ∧ Aside0 (OrS w g h c d w') :=
  (right_calls w1 q).mono fun e w' ⟨he, e1⟩ => ⟨by rw [he, hm.out], Aside0.mk (s.out.eff e1)⟩
theorem OrS.alive {w w1 : World} {g h : Nat} {c d : B} (s : Aside0 (OrS w g h c d w1)) : Calls Try.prog 9 #[] w1 fun e w' => e = .returned (.bool true) ∧ Aside0 (OrS w g h c d w') :=
  (alive_calls w1).mono fun e w' ⟨he, e1⟩ => ⟨he, Aside0.mk (s.out.eff (Eff.of_below e1))⟩
theorem OrS.put {w w1 : World} {g h : Nat} {c d : B} (s : Aside0 (OrS w g h c d w1)) (p q : B) {m : Bool} (hm : Aside0 ((putF [p.cl, q.cl]).2 = m)) : Calls Try.prog 10 #[.slice (some ⟨w1.heap.size, 0, none⟩) 2 2] (w1.alloc (.cells #[.string p.k, .string p.v, .int .i64 p.bl, .int .i64 p.sz, .string q.k, .string q.v, .int .i64 q.bl, .int .i64 q.sz] 32 (0, 0))) fun e w' => (∃ s, e = .returned (.tuple #[.string s, .bool m])) ∧ Aside0 (OrS w g h c d w') :=
  (put_many _ _ 2 [p, q] (C_two w1 p q)).mono fun e w' ⟨he, e1⟩ => ⟨⟨(putF ([p, q].map B.cl)).1, by rw [he, ← hm.out]; rfl⟩, Aside0.mk ((s.out.eff ((Eff.refl _ _).alloc _)).eff e1)⟩
theorem OrS.fits {w w1 : World} {g h : Nat} {c d : B} (s : Aside0 (OrS w g h c d w1)) (p q : B) {m : Bool} (hm : Aside0 (fits [p.cl, q.cl] = m)) : Calls Try.prog 14 #[.slice (some ⟨w1.heap.size, 0, none⟩) 2 2] (w1.alloc (.cells #[.string p.k, .string p.v, .int .i64 p.bl, .int .i64 p.sz, .string q.k, .string q.v, .int .i64 q.bl, .int .i64 q.sz] 32 (0, 0))) fun e w' => e = .returned (.bool m) ∧ Aside0 (OrS w g h c d w') :=
  (fits_calls _ _ 2 [p, q] (C_two w1 p q) (show 2 < 900000 by decide)).mono fun e w' ⟨he, e1⟩ => ⟨by rw [he, ← hm.out]; rfl, Aside0.mk ((s.out.eff ((Eff.refl _ _).alloc _)).eff (Eff.of_below e1))⟩
/-- Two that rise. -/
theorem two_facts {x y : Cl} (hx : right x = true) (hy : right y = true) (h : x.k < y.k) : (putF [x, y]).2 = true ∧ (putF [y, x]).2 = false ∧ (putF [x, x]).2 = false ∧ fits [y, x] = true ∧ fits [x, x] = false := by
  have s1 := csize_le hx
  have s2 := csize_le hy
  have ht : total [x, y] = csize x + csize y := by simp [total]
  have hn : ¬ y.k < x.k := List.lt_asymm h
  have hi : ¬ x.k < x.k := List.lt_irrefl _
  have h1 : (put [x, y]).isSome = true := by
    unfold put
    rw [if_pos ⟨by simp, by simp [rises, hx, hy, h], by rw [ht]; omega⟩]
    rfl
  have h2 : put [y, x] = none := by
    unfold put
    rw [if_neg (by simp [rises, hn])]
  have h3 : put [x, x] = none := by
    unfold put
    rw [if_neg (by simp [rises, hi])]
  refine ⟨by rw [putF_isSome]; exact h1, by rw [putF_isSome, h2]; rfl, by rw [putF_isSome, h3]; rfl, ?_, ?_⟩
  · rw [← h1]
    exact (fits_sorted (List.Perm.swap x y []) (List.Pairwise.cons (by intro z hz; rw [List.mem_singleton] at hz; subst hz; exact hn) (List.pairwise_singleton _ _))).symm
  · have := fits_sorted (List.Perm.refl [x, x]) (List.Pairwise.cons (by intro z hz; rw [List.mem_singleton] at hz; subst hz; exact hi) (List.pairwise_singleton _ _))
    rw [h3] at this
    exact this.symm
set_option maxHeartbeats 4000000 in
set_option maxRecDepth 100000 in
theorem order_calls (w : World) (a b : B) : Calls Try.prog 6 #[a.val, b.val] w fun e w' => e = .returned (.bool true) ∧ Below w.heap.size w w' := by
  have S0 : Aside0 (OrS w w.heap.size (w.heap.size + 1) a b ((w.alloc (.cells #[.string a.k, .string a.v, .int .i64 a.bl, .int .i64 a.sz] 32 (0, 0))).alloc (.cells #[.string b.k, .string b.v, .int .i64 b.bl, .int .i64 b.sz] 32 (0, 0)))) := by
    have hb := below_alloc (below_alloc (Below.refl w.heap.size w) (.cells #[.string a.k, .string a.v, .int .i64 a.bl, .int .i64 a.sz] 32 (0, 0))) (.cells #[.string b.k, .string b.v, .int .i64 b.bl, .int .i64 b.sz] 32 (0, 0))
    refine Aside0.mk ⟨⟨?_, hb⟩, ⟨?_, hb⟩⟩
    · rw [Lib.alloc_old _ _ _ (by simp)]
      exact heap_alloc_new w _
    · have := heap_alloc_new (w.alloc (.cells #[.string a.k, .string a.v, .int .i64 a.bl, .int .i64 a.sz] 32 (0, 0))) (.cells #[.string b.k, .string b.v, .int .i64 b.bl, .int .i64 b.sz] 32 (0, 0))
      rwa [World.size_alloc] at this
  obtain ⟨⟨g0, g1, g2, g3⟩, ⟨i0, i1, i2, i3⟩⟩ := OrS.cells S0
  have A0 := S0
  clear S0
  cases hra : right a.cl with
  | false =>
    have HA := Aside0.mk hra
    clear hra
    go_enter Try.func6, Try.ntmps6
    go_wp2_with (first
      | (go_at_call 16; refine (OrS.right A0 a HA).mono ?_; rintro e w1 ⟨rfl, A1⟩; clear A0; obtain ⟨⟨p10, p11, p12, p13⟩, ⟨q10, q11, q12, q13⟩⟩ := OrS.cells A1)
      | (go_at_call 9; refine (OrS.alive A1).mono ?_; rintro e w2 ⟨rfl, A2⟩; clear A1; obtain ⟨⟨p20, p21, p22, p23⟩, ⟨q20, q21, q22, q23⟩⟩ := OrS.cells A2))
    go_ret
    exact ⟨rfl, A2.out.1.2⟩
  | true =>
    have HA := Aside0.mk hra
    clear hra
    cases hrb : right b.cl with
    | false =>
      have HB := Aside0.mk hrb
      clear hrb
      go_enter Try.func6, Try.ntmps6
      go_wp2_with (first
        | (go_at_call 16; refine (OrS.right A0 a HA).mono ?_; rintro e w1 ⟨rfl, A1⟩; clear A0; obtain ⟨⟨p10, p11, p12, p13⟩, ⟨q10, q11, q12, q13⟩⟩ := OrS.cells A1)
        | (go_at_call 16; refine (OrS.right A1 b HB).mono ?_; rintro e w2 ⟨rfl, A2⟩; clear A1; obtain ⟨⟨p20, p21, p22, p23⟩, ⟨q20, q21, q22, q23⟩⟩ := OrS.cells A2)
        | (go_at_call 9; refine (OrS.alive A2).mono ?_; rintro e w3 ⟨rfl, A3⟩; clear A2; obtain ⟨⟨p30, p31, p32, p33⟩, ⟨q30, q31, q32, q33⟩⟩ := OrS.cells A3))
      go_ret
      exact ⟨rfl, A3.out.1.2⟩
    | true =>
      have HB := Aside0.mk hrb
      clear hrb
      by_cases hk : a.k = b.k
      · have k1 : (a.k.toList == b.k.toList) = true := by rw [hk]; exact beq_self_eq_true _
        clear hk
        go_enter Try.func6, Try.ntmps6
        go_wp2_with (first
          | (go_at_call 16; refine (OrS.right A0 a HA).mono ?_; rintro e w1 ⟨rfl, A1⟩; clear A0; obtain ⟨⟨p10, p11, p12, p13⟩, ⟨q10, q11, q12, q13⟩⟩ := OrS.cells A1)
          | (go_at_call 16; refine (OrS.right A1 b HB).mono ?_; rintro e w2 ⟨rfl, A2⟩; clear A1; obtain ⟨⟨p20, p21, p22, p23⟩, ⟨q20, q21, q22, q23⟩⟩ := OrS.cells A2)
          | (go_at_call 9; refine (OrS.alive A2).mono ?_; rintro e w3 ⟨rfl, A3⟩; clear A2; obtain ⟨⟨p30, p31, p32, p33⟩, ⟨q30, q31, q32, q33⟩⟩ := OrS.cells A3))
        go_ret
        exact ⟨rfl, A3.out.1.2⟩
      · have hne : a.k.toList ≠ b.k.toList := fun e => hk (eq_of_data (by rw [← Lib.toList_data, ← Lib.toList_data]; exact e))
        have k1 : (a.k.toList == b.k.toList) = false := beq_eq_false_iff_ne.mpr hne
        have hL0 : Op.bytesLess a.k.toList b.k.toList = decide (a.cl.k < b.cl.k) := by rw [bytesLess_eq, Lib.toList_data, Lib.toList_data]; rfl
        by_cases hl : a.cl.k < b.cl.k
        · rw [decide_eq_true hl] at hL0
          obtain ⟨f1, f2, f3, f4, f5⟩ := two_facts HA.out HB.out hl
          have F1 := Aside0.mk f1
          have F2 := Aside0.mk f2
          have F3 := Aside0.mk f3
          have F4 := Aside0.mk f4
          have F5 := Aside0.mk f5
          clear f1 f2 f3 f4 f5 hl hne hk
          go_enter Try.func6, Try.ntmps6
          go_wp2_with (first
            | (go_at_call 16; refine (OrS.right A0 a HA).mono ?_; rintro e w1 ⟨rfl, A1⟩; clear A0; obtain ⟨⟨p10, p11, p12, p13⟩, ⟨q10, q11, q12, q13⟩⟩ := OrS.cells A1)
            | (go_at_call 16; refine (OrS.right A1 b HB).mono ?_; rintro e w2 ⟨rfl, A2⟩; clear A1; obtain ⟨⟨p20, p21, p22, p23⟩, ⟨q20, q21, q22, q23⟩⟩ := OrS.cells A2)
            | (go_at_call 9; refine (OrS.alive A2).mono ?_; rintro e w3 ⟨rfl, A3⟩; clear A2; obtain ⟨⟨p30, p31, p32, p33⟩, ⟨q30, q31, q32, q33⟩⟩ := OrS.cells A3)
            | (go_at_call 10; refine (OrS.put A3 a b F1).mono ?_; rintro e w4 ⟨⟨t4_, rfl⟩, A4⟩; clear A3; obtain ⟨⟨p40, p41, p42, p43⟩, ⟨q40, q41, q42, q43⟩⟩ := OrS.cells A4)
            | (go_at_call 10; refine (OrS.put A4 b a F2).mono ?_; rintro e w5 ⟨⟨t5_, rfl⟩, A5⟩; clear A4; obtain ⟨⟨p50, p51, p52, p53⟩, ⟨q50, q51, q52, q53⟩⟩ := OrS.cells A5)
            | (go_at_call 10; refine (OrS.put A5 a a F3).mono ?_; rintro e w6 ⟨⟨t6_, rfl⟩, A6⟩; clear A5; obtain ⟨⟨p60, p61, p62, p63⟩, ⟨q60, q61, q62, q63⟩⟩ := OrS.cells A6)
            | (go_at_call 14; refine (OrS.fits A6 b a F4).mono ?_; rintro e w7 ⟨rfl, A7⟩; clear A6; obtain ⟨⟨p70, p71, p72, p73⟩, ⟨q70, q71, q72, q73⟩⟩ := OrS.cells A7)
            | (go_at_call 14; refine (OrS.fits A7 a a F5).mono ?_; rintro e w8 ⟨rfl, A8⟩; clear A7; obtain ⟨⟨p80, p81, p82, p83⟩, ⟨q80, q81, q82, q83⟩⟩ := OrS.cells A8))
          go_ret
          exact ⟨rfl, A8.out.1.2⟩
        · rw [decide_eq_false hl] at hL0
          have hg : b.cl.k < a.cl.k := (List.le_iff_lt_or_eq.mp (List.not_lt.mp hl)).resolve_right (fun e => hk (eq_of_data e.symm))
          obtain ⟨f1, f2, f3, f4, f5⟩ := two_facts HB.out HA.out hg
          have F1 := Aside0.mk f1
          have F2 := Aside0.mk f2
          have F3 := Aside0.mk f3
          have F4 := Aside0.mk f4
          have F5 := Aside0.mk f5
          clear f1 f2 f3 f4 f5 hl hne hk hg
          go_enter Try.func6, Try.ntmps6
          go_upto_region 4 with (first
            | (go_at_call 16; refine (OrS.right A0 a HA).mono ?_; rintro e w1 ⟨rfl, A1⟩; clear A0; obtain ⟨⟨p10, p11, p12, p13⟩, ⟨q10, q11, q12, q13⟩⟩ := OrS.cells A1)
            | (go_at_call 16; refine (OrS.right A1 b HB).mono ?_; rintro e w2 ⟨rfl, A2⟩; clear A1; obtain ⟨⟨p20, p21, p22, p23⟩, ⟨q20, q21, q22, q23⟩⟩ := OrS.cells A2)
            | (go_at_call 9; refine (OrS.alive A2).mono ?_; rintro e w3 ⟨rfl, A3⟩; clear A2; obtain ⟨⟨p30, p31, p32, p33⟩, ⟨q30, q31, q32, q33⟩⟩ := OrS.cells A3))
          have f3 : ∀ j, w3.frozen? ⟨w.heap.size, j, none⟩ = false := fun j => blk_frozen A3.out.1.1 j
          have f4 : ∀ j, w3.frozen? ⟨w.heap.size + 1, j, none⟩ = false := fun j => blk_frozen A3.out.2.1 j
          have f30 := f3 0
          have f31 := f3 1
          have f32 := f3 2
          have f33 := f3 3
          have f40 := f4 0
          have f41 := f4 1
          have f42 := f4 2
          have f43 := f4 3
          clear f3 f4
          go_upto_region 5 with (fail)
          have S5 : Aside0 (OrS w w.heap.size (w.heap.size + 1) b a ((((((((w3.setCell { block := w.heap.size, off := 0 } (Value.string b.k)).setCell { block := w.heap.size, off := 1 } (Value.string b.v)).setCell { block := w.heap.size, off := 2 } (Value.int .i64 b.bl)).setCell { block := w.heap.size, off := 3 } (Value.int .i64 b.sz)).setCell { block := w.heap.size + 1, off := 0 } (Value.string a.k)).setCell { block := w.heap.size + 1, off := 1 } (Value.string a.v)).setCell { block := w.heap.size + 1, off := 2 } (Value.int .i64 a.bl)).setCell { block := w.heap.size + 1, off := 3 } (Value.int .i64 a.sz))) := by
            have hgt : w.heap.size ≠ w.heap.size + 1 := by omega
            have b8 := below_set (g := w.heap.size + 1) (j := 3) (below_set (g := w.heap.size + 1) (j := 2) (below_set (g := w.heap.size + 1) (j := 1) (below_set (g := w.heap.size + 1) (j := 0) (below_set (g := w.heap.size) (j := 3) (below_set (g := w.heap.size) (j := 2) (below_set (g := w.heap.size) (j := 1) (below_set (g := w.heap.size) (j := 0) A3.out.1.2 (Nat.le_refl _) (v := .string b.k)) (Nat.le_refl _) (v := .string b.v)) (Nat.le_refl _) (v := .int .i64 b.bl)) (Nat.le_refl _) (v := .int .i64 b.sz)) (Nat.le_succ _) (v := .string a.k)) (Nat.le_succ _) (v := .string a.v)) (Nat.le_succ _) (v := .int .i64 a.bl)) (Nat.le_succ _) (v := .int .i64 a.sz)
            have x1 := blk_set (blk_set (blk_set (blk_set A3.out.1.1 0 (.string b.k)) 1 (.string b.v)) 2 (.int .i64 b.bl)) 3 (.int .i64 b.sz)
            have x2 := blk_far (p := ⟨w.heap.size + 1, 3, none⟩) (blk_far (p := ⟨w.heap.size + 1, 2, none⟩) (blk_far (p := ⟨w.heap.size + 1, 1, none⟩) (blk_far (p := ⟨w.heap.size + 1, 0, none⟩) x1 hgt (.string a.k)) hgt (.string a.v)) hgt (.int .i64 a.bl)) hgt (.int .i64 a.sz)
            have y1 := blk_far (p := ⟨w.heap.size, 3, none⟩) (blk_far (p := ⟨w.heap.size, 2, none⟩) (blk_far (p := ⟨w.heap.size, 1, none⟩) (blk_far (p := ⟨w.heap.size, 0, none⟩) A3.out.2.1 hgt.symm (.string b.k)) hgt.symm (.string b.v)) hgt.symm (.int .i64 b.bl)) hgt.symm (.int .i64 b.sz)
            have y2 := blk_set (blk_set (blk_set (blk_set y1 0 (.string a.k)) 1 (.string a.v)) 2 (.int .i64 a.bl)) 3 (.int .i64 a.sz)
            exact Aside0.mk ⟨⟨x2, b8⟩, ⟨y2, b8⟩⟩
          clear f30 f31 f32 f33 f40 f41 f42 f43 p30 p31 p32 p33 q30 q31 q32 q33 A3
          generalize ((((((((w3.setCell { block := w.heap.size, off := 0 } (Value.string b.k)).setCell { block := w.heap.size, off := 1 } (Value.string b.v)).setCell { block := w.heap.size, off := 2 } (Value.int .i64 b.bl)).setCell { block := w.heap.size, off := 3 } (Value.int .i64 b.sz)).setCell { block := w.heap.size + 1, off := 0 } (Value.string a.k)).setCell { block := w.heap.size + 1, off := 1 } (Value.string a.v)).setCell { block := w.heap.size + 1, off := 2 } (Value.int .i64 a.bl)).setCell { block := w.heap.size + 1, off := 3 } (Value.int .i64 a.sz)) = w5 at *
          have A3 := S5
          clear S5
          obtain ⟨⟨p30, p31, p32, p33⟩, ⟨q30, q31, q32, q33⟩⟩ := OrS.cells A3
          go_wp2_with (first
            | (go_at_call 10; refine (OrS.put A3 b a F1).mono ?_; rintro e w4 ⟨⟨t4_, rfl⟩, A4⟩; clear A3; obtain ⟨⟨p40, p41, p42, p43⟩, ⟨q40, q41, q42, q43⟩⟩ := OrS.cells A4)
            | (go_at_call 10; refine (OrS.put A4 a b F2).mono ?_; rintro e w5 ⟨⟨t5_, rfl⟩, A5⟩; clear A4; obtain ⟨⟨p50, p51, p52, p53⟩, ⟨q50, q51, q52, q53⟩⟩ := OrS.cells A5)
            | (go_at_call 10; refine (OrS.put A5 b b F3).mono ?_; rintro e w6 ⟨⟨t6_, rfl⟩, A6⟩; clear A5; obtain ⟨⟨p60, p61, p62, p63⟩, ⟨q60, q61, q62, q63⟩⟩ := OrS.cells A6)
            | (go_at_call 14; refine (OrS.fits A6 a b F4).mono ?_; rintro e w7 ⟨rfl, A7⟩; clear A6; obtain ⟨⟨p70, p71, p72, p73⟩, ⟨q70, q71, q72, q73⟩⟩ := OrS.cells A7)
            | (go_at_call 14; refine (OrS.fits A7 b b F5).mono ?_; rintro e w8 ⟨rfl, A8⟩; clear A7; obtain ⟨⟨p80, p81, p82, p83⟩, ⟨q80, q81, q82, q83⟩⟩ := OrS.cells A8))
          go_ret
          exact ⟨rfl, A8.out.1.2⟩
end Go.Proofs.Ytlbdodopodgokaa.CP
