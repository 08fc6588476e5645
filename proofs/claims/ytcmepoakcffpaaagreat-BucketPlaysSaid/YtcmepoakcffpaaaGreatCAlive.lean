import Derived.Test.YtcmepoakcffpaaaGreatProg
import Derived.BigRegion
import Derived.BigQuiet
import Derived.Deep.QuietTactic
import Derived.Deep.AppendLies
import Derived.ChangeAlike
import Derived.Outline
import Derived.WalkKit
import Derived.KernelRfl
import Derived.Deep.LoopGhost
import Derived.Deep.RegionLaw
import Derived.Test.YtcmepoakcffpaaaGreatWMore
import Derived.Test.YtcmepoakcffpaaaGreatWKept
import Derived.Test.YtcmepoakcffpaaaGreatLSep
import Derived.Test.YtcmepoakcffpaaaGreatCBu
import Derived.Test.YtcmepoakcffpaaaGreatCEx
import Derived.Deep.RegionHeld3
namespace Go.Proofs.YtcmepoakcffpaaaGreat.CP
open Go Go.RowKit Go.Proofs.YtcmepoakcffpaaaGreatW.PrintWords Go.Proofs.YtcmepoakcffpaaaGreatW.PrintLast Go.Proofs.YtcmepoakcffpaaaGreatW.PrintMore Go.Proofs.YtcmepoakcffpaaaGreat.CR Go.Proofs.YtcmepoakcffpaaaGreat.CE Go.Proofs.YtcmepoakcffpaaaGreat.L
set_option linter.unusedVariables false
set_option linter.unusedSimpArgs false
theorem empty_calls (k d n : Int) (w : World) : Calls Tryz.prog 20 #[.int .i64 k, .int .i64 d, .int .i64 n] w fun e w' => e = .returned (.agg #[.int .i64 k, .int .i64 d, .int .i64 n, .string zeros240]) ∧ Eff0 w w' := by
  refine (honeycomblaw8_Empty.calls k d n k d n zeros240 w ?_).mono fun e w' ⟨he, hb⟩ => ⟨he, Eff.of_below hb⟩
  unfold honeycomblaw8_Empty.f honeycombref1_Zeros.f zeros240
  have h : (mx 240 0 : Int) = 240 := by decide
  rw [h]
  rfl
theorem bcell {W w1 : World} (e : Eff0 W w1) : (∀ b o, b < W.heap.size → w1.cell? ⟨b, o, none⟩ = W.cell? ⟨b, o, none⟩) ∧ (∀ b o, b < W.heap.size → w1.frozen? ⟨b, o, none⟩ = W.frozen? ⟨b, o, none⟩) :=
  ⟨fun b o h => e.below0.cell (p := ⟨b, o, none⟩) h, fun b o h => e.below0.frozen (p := ⟨b, o, none⟩) h⟩
theorem held {W W' : World} {b o : Nat} {v : Value} (e : Eff0 W W') (h : W.cell? ⟨b, o, none⟩ = some v) : W'.cell? ⟨b, o, none⟩ = some v := (e.cell (World.block_lt_of_cell? W _ h) (fun h => h)).trans h
theorem eff0_lt {W w1 : World} {o : Obj} (e : Eff0 (W.alloc o) w1) : W.heap.size < w1.heap.size := by
  have := e.size
  simp at this
  omega
set_option maxHeartbeats 1600000 in
set_option maxRecDepth 100000 in
theorem alive_calls (w : World) : Calls Tryz.prog 4 #[] w fun e w' => e = .returned (.bool true) ∧ Eff0 w w' := by
  obtain ⟨b, h1, h2, h3, h4, h5⟩ := alive_facts
  have CE := fun W => empty_calls 3 1 5 W
  have CS := fun W => set_calls W ⟨3, 1, 5, zeros240⟩ kv
  have CF := fun W => find_calls W ⟨3, 1, 5, b⟩ kv.k
  have CC := fun W => cut_calls W ⟨3, 1, 5, b⟩ kv.k
  have CR := fun W => room_calls W ⟨3, 1, 5, b⟩
  rw [h1] at CS
  rw [show kv.k.data.toList = kv.kk from rfl, h2, h3] at CF
  rw [show kv.k.data.toList = kv.kk from rfl, h5] at CC
  rw [h4] at CR
  unfold Pg.val B.val kv at CS CF
  unfold Pg.val kv at CC
  unfold Pg.val at CR
  dsimp only [Option.isSome] at CS CF CC CR
  clear h1 h2 h3 h4 h5
  have q0 : (zeros240.toList == zeros240.toList) = true := beq_self_eq_true _
  generalize zeros240 = z at *
  go_enter Tryz.func4, Tryz.ntmps4
  go_wp2_with (first
    | (go_at_call 20; refine (CE _).mono ?_; rintro e w1 ⟨rfl, e1⟩)
    | (go_at_call 6; refine (CS _).mono ?_; rintro e w2 ⟨rfl, e2⟩; obtain ⟨hc2, hf2⟩ := bcell e2; have hz2 := e2.size)
    | (go_at_call 13; refine (CF _).mono ?_; rintro e w3 ⟨rfl, e3⟩; obtain ⟨hc3, hf3⟩ := bcell e3; have hz3 := eff0_lt e3)
    | (go_at_call 11; refine (CC _).mono ?_; rintro e w4 ⟨rfl, e4⟩; obtain ⟨hc4, hf4⟩ := bcell e4; have hz4 := eff0_lt e4))
  have e5 : Eff0 w (w4.alloc (.cells #[.int .i64 3, .int .i64 1, .int .i64 5, .string z] 23)).drew := ((((e1.then0 e2).alloc _).then0 e3 |>.alloc _).then0 e4 |>.alloc _).drew
  have E4 : Eff0 (w4.alloc (.cells #[.int .i64 3, .int .i64 1, .int .i64 5, .string z] 23)) (w4.alloc (.cells #[.int .i64 3, .int .i64 1, .int .i64 5, .string z] 23)).drew := (Eff.refl _ _).drew
  have E3 : Eff0 _ (w4.alloc (.cells #[.int .i64 3, .int .i64 1, .int .i64 5, .string z] 23)).drew := (e4.alloc _).drew
  have E2 : Eff0 _ (w4.alloc (.cells #[.int .i64 3, .int .i64 1, .int .i64 5, .string z] 23)).drew := ((e3.alloc _).then0 e4 |>.alloc _).drew
  have s0 : (w4.alloc (.cells #[.int .i64 3, .int .i64 1, .int .i64 5, .string z] 23)).drew.cell? ⟨w3.heap.size, 1, none⟩ = some (.string ⟨#[118]⟩) ∧ (w4.alloc (.cells #[.int .i64 3, .int .i64 1, .int .i64 5, .string z] 23)).drew.cell? ⟨w2.heap.size, 0, none⟩ = some (.int .i64 3) ∧ (w4.alloc (.cells #[.int .i64 3, .int .i64 1, .int .i64 5, .string z] 23)).drew.cell? ⟨w2.heap.size, 1, none⟩ = some (.int .i64 1) ∧ (w4.alloc (.cells #[.int .i64 3, .int .i64 1, .int .i64 5, .string z] 23)).drew.cell? ⟨w2.heap.size, 2, none⟩ = some (.int .i64 5) ∧ (w4.alloc (.cells #[.int .i64 3, .int .i64 1, .int .i64 5, .string z] 23)).drew.cell? ⟨w2.heap.size, 3, none⟩ = some (.string b) ∧ (w4.alloc (.cells #[.int .i64 3, .int .i64 1, .int .i64 5, .string z] 23)).drew.cell? ⟨w4.heap.size, 0, none⟩ = some (.int .i64 3) ∧ (w4.alloc (.cells #[.int .i64 3, .int .i64 1, .int .i64 5, .string z] 23)).drew.cell? ⟨w4.heap.size, 1, none⟩ = some (.int .i64 1) ∧ (w4.alloc (.cells #[.int .i64 3, .int .i64 1, .int .i64 5, .string z] 23)).drew.cell? ⟨w4.heap.size, 2, none⟩ = some (.int .i64 5) ∧ (w4.alloc (.cells #[.int .i64 3, .int .i64 1, .int .i64 5, .string z] 23)).drew.cell? ⟨w4.heap.size, 3, none⟩ = some (.string z) :=
    ⟨held E3 (blk_cell (heap_alloc_new w3 _) 1), held E2 (blk_cell (heap_alloc_new w2 _) 0), held E2 (blk_cell (heap_alloc_new w2 _) 1), held E2 (blk_cell (heap_alloc_new w2 _) 2), held E2 (blk_cell (heap_alloc_new w2 _) 3), held E4 (blk_cell (heap_alloc_new w4 _) 0), held E4 (blk_cell (heap_alloc_new w4 _) 1), held E4 (blk_cell (heap_alloc_new w4 _) 2), held E4 (blk_cell (heap_alloc_new w4 _) 3)⟩
  clear E2 E3 E4
  have K : ∀ W W', (Eff0 w W ∧ W.cell? ⟨w3.heap.size, 1, none⟩ = some (.string ⟨#[118]⟩) ∧ W.cell? ⟨w2.heap.size, 0, none⟩ = some (.int .i64 3) ∧ W.cell? ⟨w2.heap.size, 1, none⟩ = some (.int .i64 1) ∧ W.cell? ⟨w2.heap.size, 2, none⟩ = some (.int .i64 5) ∧ W.cell? ⟨w2.heap.size, 3, none⟩ = some (.string b) ∧ W.cell? ⟨w4.heap.size, 0, none⟩ = some (.int .i64 3) ∧ W.cell? ⟨w4.heap.size, 1, none⟩ = some (.int .i64 1) ∧ W.cell? ⟨w4.heap.size, 2, none⟩ = some (.int .i64 5) ∧ W.cell? ⟨w4.heap.size, 3, none⟩ = some (.string z)) → Eff0 W W' → (Eff0 w W' ∧ W'.cell? ⟨w3.heap.size, 1, none⟩ = some (.string ⟨#[118]⟩) ∧ W'.cell? ⟨w2.heap.size, 0, none⟩ = some (.int .i64 3) ∧ W'.cell? ⟨w2.heap.size, 1, none⟩ = some (.int .i64 1) ∧ W'.cell? ⟨w2.heap.size, 2, none⟩ = some (.int .i64 5) ∧ W'.cell? ⟨w2.heap.size, 3, none⟩ = some (.string b) ∧ W'.cell? ⟨w4.heap.size, 0, none⟩ = some (.int .i64 3) ∧ W'.cell? ⟨w4.heap.size, 1, none⟩ = some (.int .i64 1) ∧ W'.cell? ⟨w4.heap.size, 2, none⟩ = some (.int .i64 5) ∧ W'.cell? ⟨w4.heap.size, 3, none⟩ = some (.string z)) := by
    rintro W W' ⟨x, x0, x1, x2, x3, x4, x5, x6, x7, x8⟩ e
    exact ⟨x.then0 e, held e x0, held e x1, held e x2, held e x3, held e x4, held e x5, held e x6, held e x7, held e x8⟩
  have CR2 : ∀ W, (Eff0 w W ∧ W.cell? ⟨w3.heap.size, 1, none⟩ = some (.string ⟨#[118]⟩) ∧ W.cell? ⟨w2.heap.size, 0, none⟩ = some (.int .i64 3) ∧ W.cell? ⟨w2.heap.size, 1, none⟩ = some (.int .i64 1) ∧ W.cell? ⟨w2.heap.size, 2, none⟩ = some (.int .i64 5) ∧ W.cell? ⟨w2.heap.size, 3, none⟩ = some (.string b) ∧ W.cell? ⟨w4.heap.size, 0, none⟩ = some (.int .i64 3) ∧ W.cell? ⟨w4.heap.size, 1, none⟩ = some (.int .i64 1) ∧ W.cell? ⟨w4.heap.size, 2, none⟩ = some (.int .i64 5) ∧ W.cell? ⟨w4.heap.size, 3, none⟩ = some (.string z)) → Calls Tryz.prog 18 #[.agg #[.int .i64 3, .int .i64 1, .int .i64 5, .string b]] W fun e w' => e = .returned (.int .i64 233) ∧ (Eff0 w w' ∧ w'.cell? ⟨w3.heap.size, 1, none⟩ = some (.string ⟨#[118]⟩) ∧ w'.cell? ⟨w2.heap.size, 0, none⟩ = some (.int .i64 3) ∧ w'.cell? ⟨w2.heap.size, 1, none⟩ = some (.int .i64 1) ∧ w'.cell? ⟨w2.heap.size, 2, none⟩ = some (.int .i64 5) ∧ w'.cell? ⟨w2.heap.size, 3, none⟩ = some (.string b) ∧ w'.cell? ⟨w4.heap.size, 0, none⟩ = some (.int .i64 3) ∧ w'.cell? ⟨w4.heap.size, 1, none⟩ = some (.int .i64 1) ∧ w'.cell? ⟨w4.heap.size, 2, none⟩ = some (.int .i64 5) ∧ w'.cell? ⟨w4.heap.size, 3, none⟩ = some (.string z)) := fun W s => (CR W).mono fun e w' ⟨he, e1⟩ => ⟨he, K _ _ s e1⟩
  have CE2 : ∀ W, (Eff0 w W ∧ W.cell? ⟨w3.heap.size, 1, none⟩ = some (.string ⟨#[118]⟩) ∧ W.cell? ⟨w2.heap.size, 0, none⟩ = some (.int .i64 3) ∧ W.cell? ⟨w2.heap.size, 1, none⟩ = some (.int .i64 1) ∧ W.cell? ⟨w2.heap.size, 2, none⟩ = some (.int .i64 5) ∧ W.cell? ⟨w2.heap.size, 3, none⟩ = some (.string b) ∧ W.cell? ⟨w4.heap.size, 0, none⟩ = some (.int .i64 3) ∧ W.cell? ⟨w4.heap.size, 1, none⟩ = some (.int .i64 1) ∧ W.cell? ⟨w4.heap.size, 2, none⟩ = some (.int .i64 5) ∧ W.cell? ⟨w4.heap.size, 3, none⟩ = some (.string z)) → Calls Tryz.prog 20 #[.int .i64 3, .int .i64 1, .int .i64 5] W fun e w' => e = .returned (.agg #[.int .i64 3, .int .i64 1, .int .i64 5, .string z]) ∧ (Eff0 w w' ∧ w'.cell? ⟨w3.heap.size, 1, none⟩ = some (.string ⟨#[118]⟩) ∧ w'.cell? ⟨w2.heap.size, 0, none⟩ = some (.int .i64 3) ∧ w'.cell? ⟨w2.heap.size, 1, none⟩ = some (.int .i64 1) ∧ w'.cell? ⟨w2.heap.size, 2, none⟩ = some (.int .i64 5) ∧ w'.cell? ⟨w2.heap.size, 3, none⟩ = some (.string b) ∧ w'.cell? ⟨w4.heap.size, 0, none⟩ = some (.int .i64 3) ∧ w'.cell? ⟨w4.heap.size, 1, none⟩ = some (.int .i64 1) ∧ w'.cell? ⟨w4.heap.size, 2, none⟩ = some (.int .i64 5) ∧ w'.cell? ⟨w4.heap.size, 3, none⟩ = some (.string z)) := fun W s => (CE W).mono fun e w' ⟨he, e1⟩ => ⟨he, K _ _ s e1⟩
  have s1 := And.intro e5 s0
  obtain ⟨y, y0, y1, y2, y3, y4, y5, y6, y7, y8⟩ := s1
  clear K CR CE CS CF CC s0 hc2 hc3 hc4 hf2 hf3 hf4 e5
  go_region_held3 (fun W' => Eff0 w W' ∧ W'.cell? ⟨w3.heap.size, 1, none⟩ = some (.string ⟨#[118]⟩) ∧ W'.cell? ⟨w2.heap.size, 0, none⟩ = some (.int .i64 3) ∧ W'.cell? ⟨w2.heap.size, 1, none⟩ = some (.int .i64 1) ∧ W'.cell? ⟨w2.heap.size, 2, none⟩ = some (.int .i64 5) ∧ W'.cell? ⟨w2.heap.size, 3, none⟩ = some (.string b) ∧ W'.cell? ⟨w4.heap.size, 0, none⟩ = some (.int .i64 3) ∧ W'.cell? ⟨w4.heap.size, 1, none⟩ = some (.int .i64 1) ∧ W'.cell? ⟨w4.heap.size, 2, none⟩ = some (.int .i64 5) ∧ W'.cell? ⟨w4.heap.size, 3, none⟩ = some (.string z)) ((first | (refine ⟨?_, ?_, ?_, ?_, ?_, ?_, ?_, ?_, ?_, ?_⟩ <;> assumption) | (refine ⟨?_, ?_, ?_, ?_, ?_, ?_, ?_, ?_, ?_, ?_⟩ <;> first | assumption | (exact Eff.drew (by assumption))) | go_keep))
    (first
    | (go_at_call 18; refine (CR2 _ (by assumption)).mono ?_; rintro e w5 ⟨rfl, u, u0, u1, u2, u3, u4, u5, u6, u7, u8⟩)
    | (go_at_call 20; refine (CE2 _ (by assumption)).mono ?_; rintro e w6 ⟨rfl, v, v0, v1, v2, v3, v4, v5, v6, v7, v8⟩))
  all_goals
    go_wp2
    go_ret
    exact ⟨rfl, v⟩
end Go.Proofs.YtcmepoakcffpaaaGreat.CP
