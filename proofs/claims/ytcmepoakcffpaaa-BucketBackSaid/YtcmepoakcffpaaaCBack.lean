import Derived.Test.YtcmepoakcffpaaaProg
import Derived.BigRegion
import Derived.BigQuiet
import Derived.Deep.QuietTactic
import Derived.Deep.AppendLies
import Derived.ChangeAlike
import Derived.Outline
import Derived.WalkKit
import Derived.KernelRfl
import Derived.Deep.LoopGhost
import Derived.Deep.RegionLaw
import Derived.Test.YtcmepoakcffpaaaWMore
import Derived.Test.YtcmepoakcffpaaaWKept
import Derived.Test.YtcmepoakcffpaaaLSep
import Derived.Test.YtcmepoakcffpaaaCB
import Derived.Test.YtcmepoakcffpaaaCEx
import Derived.Deep.RegionHeld3
namespace Go.Proofs.Ytcmepoakcffpaaa.CP
open Go Go.RowKit Go.Proofs.YtcmepoakcffpaaaW.PrintWords Go.Proofs.YtcmepoakcffpaaaW.PrintLast Go.Proofs.YtcmepoakcffpaaaW.PrintMore Go.Proofs.Ytcmepoakcffpaaa.CR Go.Proofs.Ytcmepoakcffpaaa.CE Go.Proofs.Ytcmepoakcffpaaa.L
set_option linter.unusedVariables false
set_option linter.unusedSimpArgs false
theorem back_facts (p : Pg) (c : B) (hf : findB (cellsP p).1 c.kk = none) : (∃ e : Int, setP p c = (Pg.none, e) ∧ (e != 0) = true) ∨
    ∃ b, setP p c = (⟨p.kind, p.depth, p.next, b⟩, 0) ∧ cutP ⟨p.kind, p.depth, p.next, b⟩ c.k.data.toList = (p, 0) ∧ findD (cellsP ⟨p.kind, p.depth, p.next, b⟩).1 c.k.data.toList = c ∧ findB (cellsP ⟨p.kind, p.depth, p.next, b⟩).1 c.k.data.toList = some c ∧ cutP p c.k.data.toList = (Pg.none, 3) := by
  cases hb : (cellsP p).2 with
  | false =>
    left
    refine ⟨2, ?_, by decide⟩
    unfold setP
    rw [if_pos hb]
  | true =>
    have hp : IsP p (cellsP p).1 := IsP.of_cells (by rw [← hb])
    generalize (cellsP p).1 = l at *
    cases hr : right c.cl with
    | false => exact .inl ⟨1, hp.set_arg hr, by decide⟩
    | true =>
      by_cases ht : tot (setB l c) ≤ 239
      · right
        obtain ⟨b, h1, h2⟩ := hp.set hr ht
        have h3 : findB (setB l c) c.kk = some c := by rw [find_setB hp.good.rise, if_pos rfl]
        obtain ⟨b', h4, h5⟩ := h2.cut h3
        rw [cut_setB hp.good.rise hf] at h5
        refine ⟨b, h1, ?_, ?_, ?_, hp.cut_none hf⟩
        · rw [show c.k.data.toList = c.kk from rfl, h4, IsP.eq h5 hp rfl rfl rfl]
        · rw [h2.cells, show c.k.data.toList = c.kk from rfl]; unfold findD; rw [h3]; rfl
        · rw [h2.cells]; exact h3
      · exact .inl ⟨13, hp.set_long hr ht, by decide⟩
theorem cells_two {w w1 : World} {x0 x1 x2 x3 y0 y1 y2 y3 : Value} {t u : TypeId} (e : Eff0 ((w.alloc (.cells #[x0, x1, x2, x3] t)).alloc (.cells #[y0, y1, y2, y3] u)) w1) : w1.heap[w.heap.size]? = some (.cells #[x0, x1, x2, x3] t (0, 0)) ∧ w1.heap[w.heap.size + 1]? = some (.cells #[y0, y1, y2, y3] u (0, 0)) := by
  have h1 := heap_alloc2_old w (.cells #[x0, x1, x2, x3] t (0, 0)) (.cells #[y0, y1, y2, y3] u (0, 0))
  have h2 := heap_alloc2_new w (.cells #[x0, x1, x2, x3] t (0, 0)) (.cells #[y0, y1, y2, y3] u (0, 0))
  exact ⟨by rw [e.block _ (blk_lt h1) id]; exact h1, by rw [e.block _ (blk_lt h2) id]; exact h2⟩
theorem eff0_two {w w1 : World} {o o' : Obj} (e : Eff0 ((w.alloc o).alloc o') w1) : w.heap.size + 1 < w1.heap.size := by
  have := e.size
  simp at this
  omega
set_option maxHeartbeats 1600000 in
set_option maxRecDepth 100000 in
theorem back_calls (w : World) (p : Pg) (c : B) : Calls Try.prog 3 #[p.val, c.val] w fun e w' => e = .returned (.bool true) ∧ Eff0 w w' := by
  have CA := fun W => alive_calls W
  have CF := fun W => find_calls W p c.k
  have q0 : ∀ s : ByteArray, (s.toList == s.toList) = true := fun s => beq_self_eq_true _
  cases hd : findB (cellsP p).1 c.k.data.toList with
  | some d =>
    have A0 := Aside0.mk hd
    rw [hd] at CF
    dsimp only [Option.isSome] at CF
    generalize findD (cellsP p).1 c.k.data.toList = z at CF
    obtain ⟨zk, zv, zb, zz⟩ := z
    clear hd
    obtain ⟨k, dp, nx, body⟩ := p
    obtain ⟨ck, cv, cb, cz⟩ := c
    unfold Pg.val B.val at *
    dsimp only at *
    go_enter Try.func3, Try.ntmps3
    go_wp2_with (first
      | (go_at_call 8; refine (CA _).mono ?_; rintro e w1 ⟨rfl, e1⟩; obtain ⟨hc1, hf1⟩ := bcell e1; have hz1 := eff0_two e1; have hz1a : w.heap.size < w1.heap.size := (by omega))
      | (go_at_call 9; refine (CF _).mono ?_; rintro e w2 ⟨rfl, e2⟩; obtain ⟨hc2, hf2⟩ := bcell e2; have hz2 := e2.size; have hz2a : w.heap.size < w2.heap.size := (by omega); have hz2b : w.heap.size + 1 < w2.heap.size := (by omega)))
    all_goals go_ret
    · have E2 := (((Eff.refl (fun _ => False) w).alloc _).alloc _).then0 (e1.then0 e2)
      exact ⟨rfl, by repeat (first | exact E2 | apply Eff.alloc | (refine Eff.set ?_ _ _ (.inr (by simp; omega))))⟩
    · exact ⟨rfl, (((Eff.refl (fun _ => False) w).alloc _).alloc _).then0 e1⟩
    · exact ⟨rfl, (((Eff.refl (fun _ => False) w).alloc _).alloc _).then0 e1⟩
  | none =>
    have D0 := Aside0.mk hd
    rw [hd] at CF
    dsimp only [Option.isSome] at CF
    have hF := back_facts p c hd
    generalize findD (cellsP p).1 c.k.data.toList = z at CF
    obtain ⟨zk, zv, zb, zz⟩ := z
    clear hd
    rcases hF with ⟨n, hs, hn⟩ | ⟨b, hs, hc, hfd, hfs, hn⟩
    · have CS := fun W => set_calls W p c
      rw [hs] at CS
      obtain ⟨k, dp, nx, body⟩ := p
      obtain ⟨ck, cv, cb, cz⟩ := c
      unfold Pg.none at CS
      unfold Pg.val B.val at *
      dsimp only at *
      clear hs
      go_enter Try.func3, Try.ntmps3
      go_wp2_with (first
        | (go_at_call 8; refine (CA _).mono ?_; rintro e w1 ⟨rfl, e1⟩; obtain ⟨hc1, hf1⟩ := bcell e1; have hz1 := eff0_two e1; have hz1a : w.heap.size < w1.heap.size := (by omega))
        | (go_at_call 9; refine (CF _).mono ?_; rintro e w2 ⟨rfl, e2⟩; obtain ⟨hc2, hf2⟩ := bcell e2; have hz2 := e2.size; have hz2a : w.heap.size < w2.heap.size := (by omega); have hz2b : w.heap.size + 1 < w2.heap.size := (by omega))
        | (go_at_call 10; refine (CS _).mono ?_; rintro e w3 ⟨rfl, e3⟩; obtain ⟨hc3, hf3⟩ := bcell e3; have hz3 := eff0_lt e3; have hz3a : w.heap.size < w3.heap.size := (by omega); have hz3b : w.heap.size + 1 < w3.heap.size := (by omega); have hz32 : w2.heap.size < w3.heap.size := (by omega)))
      all_goals go_ret
      · have E2 := ((((Eff.refl (fun _ => False) w).alloc _).alloc _).then0 e1).then0 e2
        have E3 := (E2.alloc _).then0 e3
        exact ⟨rfl, by repeat (first | exact Eff.refl _ _ | exact E2 | exact E3 | apply Eff.alloc | apply Eff.drew | (refine Eff.set ?_ _ _ (.inr (by simp; omega))))⟩
      all_goals exact ⟨rfl, (((Eff.refl (fun _ => False) w).alloc _).alloc _).then0 e1⟩
    · have CS := fun W => set_calls W p c
      have CF2 := fun W => find_calls W ⟨p.kind, p.depth, p.next, b⟩ c.k
      have CC := fun W => cut_calls W ⟨p.kind, p.depth, p.next, b⟩ c.k
      have CC2 := fun W => cut_calls W p c.k
      rw [hs] at CS
      rw [hfd, hfs] at CF2
      rw [hc] at CC
      rw [hn] at CC2
      obtain ⟨k, dp, nx, body⟩ := p
      obtain ⟨ck, cv, cb, cz⟩ := c
      unfold Pg.none at CC2
      unfold Pg.val B.val at *
      dsimp only [Option.isSome] at *
      clear hs hc hfd hfs hn
      go_enter Try.func3, Try.ntmps3
      go_wp2_with (first
        | (go_at_call 8; refine (CA _).mono ?_; rintro e w1 ⟨rfl, e1⟩; obtain ⟨hc1, hf1⟩ := bcell e1; have hz1 := eff0_two e1; have hz1a : w.heap.size < w1.heap.size := (by omega))
        | (go_at_call 9; ((with_reducible refine (CF _).mono ?_); rintro e w2 ⟨rfl, e2⟩; obtain ⟨hc2, hf2⟩ := bcell e2; have hz2 := e2.size; have hz2a : w.heap.size < w2.heap.size := (by omega); have hz2b : w.heap.size + 1 < w2.heap.size := (by omega)))
        | (go_at_call 10; refine (CS _).mono ?_; rintro e w3 ⟨rfl, e3⟩; obtain ⟨hc3, hf3⟩ := bcell e3; have hz3 := eff0_lt e3; have hz3a : w.heap.size < w3.heap.size := (by omega); have hz3b : w.heap.size + 1 < w3.heap.size := (by omega); have hz32 : w2.heap.size < w3.heap.size := (by omega))
        | (go_at_call 11; ((with_reducible refine (CC _).mono ?_); rintro e w4 ⟨rfl, e4⟩; obtain ⟨hc4, hf4⟩ := bcell e4; have hz4 := eff0_lt e4; have hz4a : w.heap.size < w4.heap.size := (by omega); have hz4b : w.heap.size + 1 < w4.heap.size := (by omega); have hz42 : w2.heap.size < w4.heap.size := (by omega); have hz43 : w3.heap.size < w4.heap.size := (by omega)))
        | (go_at_call 9; ((with_reducible refine (CF2 _).mono ?_); rintro e w5 ⟨rfl, e5⟩; obtain ⟨hc5, hf5⟩ := bcell e5; have hz5 := eff0_lt e5; have hz5a : w.heap.size < w5.heap.size := (by omega); have hz5b : w.heap.size + 1 < w5.heap.size := (by omega); have hz52 : w2.heap.size < w5.heap.size := (by omega); have hz53 : w3.heap.size < w5.heap.size := (by omega); have hz54 : w4.heap.size < w5.heap.size := (by omega)))
        | (go_at_call 11; ((with_reducible refine (CC2 _).mono ?_); rintro e w6 ⟨rfl, e6⟩; obtain ⟨hc6, hf6⟩ := bcell e6; have hz6 := eff0_lt e6; have hz6a : w.heap.size < w6.heap.size := (by omega); have hz6b : w.heap.size + 1 < w6.heap.size := (by omega); have hz62 : w2.heap.size < w6.heap.size := (by omega); have hz63 : w3.heap.size < w6.heap.size := (by omega); have hz64 : w4.heap.size < w6.heap.size := (by omega); have hz65 : w5.heap.size < w6.heap.size := (by omega))))
      all_goals go_ret
      · have E2 := ((((Eff.refl (fun _ => False) w).alloc _).alloc _).then0 e1).then0 e2
        have E3 := (E2.alloc _).then0 e3
        have E4 := (E3.alloc _).then0 e4
        have E5 := (E4.alloc _).then0 e5
        have E6 := (E5.alloc _).then0 e6
        exact ⟨rfl, by repeat (first | exact Eff.refl _ _ | exact E2 | exact E3 | exact E4 | exact E5 | exact E6 | apply Eff.alloc | apply Eff.drew | (refine Eff.set ?_ _ _ (.inr (by simp; omega))))⟩
      all_goals exact ⟨rfl, (((Eff.refl (fun _ => False) w).alloc _).alloc _).then0 e1⟩
theorem BucketBack_walk_ (a0 : Pg) (a1 : B) (W : World) : Calls Try.prog 3 #[a0.val, a1.val] W fun e w' => e = .returned (.bool true) ∧ Below W.heap.size W w' := (back_calls W a0 a1).mono fun e w' ⟨he, e1⟩ => ⟨he, e1.below0⟩
end Go.Proofs.Ytcmepoakcffpaaa.CP
