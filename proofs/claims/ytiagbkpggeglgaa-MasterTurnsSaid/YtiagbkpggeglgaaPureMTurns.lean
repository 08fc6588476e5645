/- Of two masters the one that was written later counts (MasterTurns), given that alive tells true. Conditions: none beyond the stated ones. -/
import Derived.Test.YtiagbkpggeglgaaProg
import Derived.BigRegion
import Derived.BigQuiet
import Derived.Deep.QuietTactic
import Derived.Deep.AppendLies
import Derived.ChangeAlike
import Derived.Outline
import Derived.WalkKit
import Derived.KernelRfl
import Derived.Deep.LoopGhost
import Derived.Deep.RegionLaw
import Derived.Test.YtiagbkpggeglgaaWMore
import Derived.Test.YtiagbkpggeglgaaWKept
import Derived.Test.YtiagbkpggeglgaaLSep
import Derived.Test.YtiagbkpggeglgaaRMPlain
namespace Go.Proofs.Ytiagbkpggeglgaa.Pure
open Go Go.RowKit Go.Proofs.YtiagbkpggeglgaaW.PrintWords Go.Proofs.YtiagbkpggeglgaaW.PrintLast Go.Proofs.YtiagbkpggeglgaaW.PrintMore Go.Proofs.Ytiagbkpggeglgaa.L Go.Proofs.Ytiagbkpggeglgaa.MR Go.Proofs.Ytiagbkpggeglgaa.RS
set_option linter.unusedVariables false
set_option linter.unusedSimpArgs false
theorem PutOk_calls {v e c p l : Int} (h : okM v e c p l) (w : World) : Calls Try.prog 12 #[.agg #[.int .i64 v, .int .i64 e, .int .i64 c, .int .i64 p, .int .i64 l]] w fun e' w' => e' = .returned (.tuple #[.string (strM v e c p l), .bool true]) ∧ Eff0 w w' := by
  have := Put_calls v e c p l w
  rw [if_pos h, decide_eq_true h] at this
  exact this
theorem PutNo_calls {v e c p l : Int} (h : ¬ okM v e c p l) (w : World) : Calls Try.prog 12 #[.agg #[.int .i64 v, .int .i64 e, .int .i64 c, .int .i64 p, .int .i64 l]] w fun e' w' => e' = .returned (.tuple #[.string ⟨#[]⟩, .bool false]) ∧ Eff0 w w' := by
  have := Put_calls v e c p l w
  rw [if_neg h, decide_eq_false h] at this
  exact this
abbrev bx (v e c p l : Int) : Obj := .cells #[.int .i64 v, .int .i64 e, .int .i64 c, .int .i64 p, .int .i64 l] 40
/-- A box of a master lies there. -/
def Bx (w : World) (b : Nat) (v e c p l : Int) : Prop := w.heap[b]? = some (.cells #[.int .i64 v, .int .i64 e, .int .i64 c, .int .i64 p, .int .i64 l] 40 (0, 0))
theorem Bx.lt {w : World} {b : Nat} {v e c p l : Int} (h : Bx w b v e c p l) : b < w.heap.size := by
  unfold Bx at h
  exact (Array.getElem?_eq_some_iff.1 h).1
theorem Bx.keep {w w' : World} {b : Nat} {v e c p l : Int} (h : Bx w b v e c p l) (k : Eff0 w w') : Bx w' b v e c p l := (k.block b h.lt id).trans h
theorem Bx.new (w : World) (v e c p l : Int) : Bx (w.alloc (bx v e c p l)) w.heap.size v e c p l := heap_alloc_new w _
theorem Bx.cells {w : World} {b : Nat} {v e c p l : Int} (h : Bx w b v e c p l) : w.cell? ⟨b, 0, none⟩ = some (.int .i64 v) ∧ w.cell? ⟨b, 1, none⟩ = some (.int .i64 e) ∧ w.cell? ⟨b, 2, none⟩ = some (.int .i64 c) ∧ w.cell? ⟨b, 3, none⟩ = some (.int .i64 p) ∧ w.cell? ⟨b, 4, none⟩ = some (.int .i64 l) := ⟨blk_cell h 0, blk_cell h 1, blk_cell h 2, blk_cell h 3, blk_cell h 4⟩
attribute [local irreducible] strM zeros64
set_option maxHeartbeats 1600000 in
set_option maxRecDepth 100000 in
theorem MasterTurns_of (CA : ∀ w, Calls Try.prog 8 #[] w fun e w' => e = .returned (.bool true) ∧ Below w.heap.size w w') (v e c p l : Int) (w : World) :
    Calls Try.prog 4 #[.agg #[.int .i64 v, .int .i64 e, .int .i64 c, .int .i64 p, .int .i64 l]] w fun e w' => e = .returned (.bool true) ∧ Below w.heap.size w w' := by
  have hE := eqM
  by_cases ho : okM v e c p l
  · have q1 : wrap64 (v + 1) = v + 1 := by unfold okM at ho; unfold wrap64; omega
    have q2 : wrap64 (e + 1) = e + 1 := by unfold okM at ho; unfold wrap64; omega
    go_enter Try.func4, Try.ntmps4
    go_wp2_with fail
    refine (PutOk_calls ho _).mono ?_
    rintro e' w1 ⟨rfl, e1⟩
    have B0 : Bx w1 w.heap.size v e c p l := ((Bx.new w v e c p l).keep ((Eff.refl _ _).alloc _)).keep e1
    have B1 : Bx w1 (w.heap.size + 1) (v + 1) (e + 1) c p l := by
      have := (Bx.new (w.alloc (bx v e c p l)) (v + 1) (e + 1) c p l).keep e1
      simpa using this
    have E1 : Eff0 w w1 := (((Eff.refl _ _).alloc _).alloc _).trans e1 (fun _ h => h.elim)
    obtain ⟨x0, x1, x2, x3, x4⟩ := B0.cells
    obtain ⟨y0, y1, y2, y3, y4⟩ := B1.cells
    clear e1
    go_wp2_with fail
    by_cases hn : okM (v + 1) (e + 1) c p l
    · refine (PutOk_calls hn _).mono ?_
      rintro e' w2 ⟨rfl, e2⟩
      clear x0 x1 x2 x3 x4 y0 y1 y2 y3 y4
      have B0 := B0.keep e2
      have B1 := B1.keep e2
      have E2 := E1.trans e2 (fun _ h => h.elim)
      go_wp2_with fail
      refine (CA _).mono ?_
      rintro e' w3 ⟨rfl, b3⟩
      have e3 := Eff.of_below (S := fun _ => False) b3
      have B0 := B0.keep e3
      have B1 := B1.keep e3
      have E3 := E2.trans e3 (fun _ h => h.elim)
      have hN1 : restart_Newer.f 6 (strM v e c p l) (strM (v + 1) (e + 1) c p l) = some (v + 1, e + 1, c, p, l, 1, true) := by
        rw [Newer_both (k := 0) (Get_own ho 0) (Get_own hn 0), if_neg (by omega)]
      have hN2 : restart_Newer.f 6 (strM (v + 1) (e + 1) c p l) (strM v e c p l) = some (v + 1, e + 1, c, p, l, 0, true) := by
        rw [Newer_both (k := 0) (Get_own hn 0) (Get_own ho 0), if_pos (by omega)]
      have hN3 := Newer_left (k := 0) (Get_own ho 0) (Get_zeros 0)
      have hN4 := Newer_right (k := 0) (Get_zeros 0) (Get_own hn 0)
      have hN5 := Newer_none (k := 0) (Get_zeros 0) (Get_zeros 0)
      have C1 := Aside0.mk (fun w => Newer_calls hN1 w)
      have C2 := Aside0.mk (fun w => Newer_calls hN2 w)
      have C3 := Aside0.mk (fun w => Newer_calls hN3 w)
      have C4 := Aside0.mk (fun w => Newer_calls hN4 w)
      have C5 := Aside0.mk (fun w => Newer_calls hN5 w)
      clear hN1 hN2 hN3 hN4 hN5
      go_wp2_with fail
      refine (C1.out _).mono ?_
      rintro e' w4 ⟨rfl, e4⟩
      go_wp2_with fail
      refine (C2.out _).mono ?_
      rintro e' w5 ⟨rfl, e5⟩
      go_wp2_with fail
      refine (Zeros_calls _).mono ?_
      rintro e' w6 ⟨rfl, e6⟩
      go_wp2_with fail
      refine (C3.out _).mono ?_
      rintro e' w7 ⟨rfl, e7⟩
      go_wp2_with fail
      refine (C4.out _).mono ?_
      rintro e' w8 ⟨rfl, e8⟩
      go_wp2_with fail
      refine (C5.out _).mono ?_
      rintro e' w9 ⟨rfl, e9⟩
      have f8 : Eff0 w8 w9 := ((Eff.refl _ _).alloc _).trans e9 (fun _ h => h.elim)
      have f7 : Eff0 w7 w9 := (((Eff.refl _ _).alloc _).trans e8 (fun _ h => h.elim)).trans f8 (fun _ h => h.elim)
      have f6 : Eff0 w6 w9 := e7.trans f7 (fun _ h => h.elim)
      have f5 : Eff0 w5 w9 := (((Eff.refl _ _).alloc _).trans e6 (fun _ h => h.elim)).trans f6 (fun _ h => h.elim)
      have f4 : Eff0 w4 w9 := (((Eff.refl _ _).alloc _).trans e5 (fun _ h => h.elim)).trans f5 (fun _ h => h.elim)
      have f3 : Eff0 w3 w9 := e4.trans f4 (fun _ h => h.elim)
      have B0 := B0.keep f3
      have B1 := B1.keep f3
      have B2 := ((Bx.new w4 (v + 1) (e + 1) c p l).keep e5).keep f5
      have B3 := ((Bx.new w5 (v + 1) (e + 1) c p l).keep e6).keep f6
      have B4 := ((Bx.new w7 v e c p l).keep e8).keep f8
      have B5 := (Bx.new w8 (v + 1) (e + 1) c p l).keep e9
      have E9 := E3.trans f3 (fun _ h => h.elim)
      clear e2 e3 b3 e4 e5 e6 e7 e8 e9 f3 f4 f5 f6 f7 f8 E1 E2 E3 C1 C2 C3 C4 C5
      obtain ⟨x0, x1, x2, x3, x4⟩ := B0.cells
      obtain ⟨y0, y1, y2, y3, y4⟩ := B1.cells
      obtain ⟨z0, z1, z2, z3, z4⟩ := B2.cells
      obtain ⟨a0, a1, a2, a3, a4⟩ := B3.cells
      obtain ⟨b0, b1, b2, b3, b4⟩ := B4.cells
      obtain ⟨d0, d1, d2, d3, d4⟩ := B5.cells
      have l0 := B0.lt
      have l1 := B1.lt
      have l2 := B2.lt
      have l3 := B3.lt
      have l4 := B4.lt
      have l5 := B5.lt
      clear B0 B1 B2 B3 B4 B5 ho hn q1 q2
      go_wp2
      go_ret
      exact ⟨rfl, (E9.alloc _).below0⟩
    · refine (PutNo_calls hn _).mono ?_
      rintro e' w2 ⟨rfl, e2⟩
      go_wp2_with (go_at_call 8; refine (CA _).mono ?_; rintro e' w3 ⟨rfl, b3⟩)
      go_ret
      exact ⟨rfl, ((E1.trans e2 (fun _ h => h.elim)).trans (Eff.of_below (S := fun _ => False) b3) (fun _ h => h.elim)).below0⟩
  · go_enter Try.func4, Try.ntmps4
    go_wp2_with fail
    refine (PutNo_calls ho _).mono ?_
    rintro e' w1 ⟨rfl, e1⟩
    have B1 : Bx w1 (w.heap.size + 1) (wrap64 (v + 1)) (wrap64 (e + 1)) c p l := by
      have := (Bx.new (w.alloc (bx v e c p l)) (wrap64 (v + 1)) (wrap64 (e + 1)) c p l).keep e1
      simpa using this
    have E1 : Eff0 w w1 := (((Eff.refl _ _).alloc _).alloc _).trans e1 (fun _ h => h.elim)
    obtain ⟨y0, y1, y2, y3, y4⟩ := B1.cells
    clear e1
    go_wp2_with fail
    refine (Put_calls _ _ _ _ _ _).mono ?_
    rintro e' w2 ⟨rfl, e2⟩
    go_wp2_with (go_at_call 8; refine (CA _).mono ?_; rintro e' w3 ⟨rfl, b3⟩)
    all_goals go_ret
    all_goals exact ⟨rfl, ((E1.trans e2 (fun _ h => h.elim)).trans (Eff.of_below (S := fun _ => False) b3) (fun _ h => h.elim)).below0⟩
end Go.Proofs.Ytiagbkpggeglgaa.Pure
