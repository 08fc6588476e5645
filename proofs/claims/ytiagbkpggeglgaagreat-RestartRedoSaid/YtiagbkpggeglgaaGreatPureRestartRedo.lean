/- From whatever a page is left as, torn or not, redo makes of it what was done to it, if the first that was logged of it is whole (RestartRedo). Conditions: none beyond the given row's own. -/
import Derived.Test.YtiagbkpggeglgaaGreatMUx0
import Derived.Test.YtiagbkpggeglgaaGreatRRedo0
import Derived.Deep.RegionHeld3
import Derived.Deep.CutBlock
import Derived.Test.YtiagbkpggeglgaaGreatProg
import Derived.BigRegion
import Derived.BigQuiet
import Derived.Deep.QuietTactic
import Derived.Deep.AppendLies
import Derived.ChangeAlike
import Derived.Outline
import Derived.WalkKit
import Derived.KernelRfl
import Derived.Deep.LoopGhost
import Derived.Deep.RegionLaw
import Derived.Test.YtiagbkpggeglgaaGreatWMore
import Derived.Test.YtiagbkpggeglgaaGreatWKept
import Derived.Test.YtiagbkpggeglgaaGreatLSep
namespace Go.Proofs.YtiagbkpggeglgaaGreat.Pure
open Go Go.RowKit Go.Proofs.YtiagbkpggeglgaaGreatW.PrintWords Go.Proofs.YtiagbkpggeglgaaGreatW.PrintLast Go.Proofs.YtiagbkpggeglgaaGreatW.PrintMore Go.Proofs.YtiagbkpggeglgaaGreat.L Go.Proofs.YtiagbkpggeglgaaGreat.RS Go.Proofs.YtiagbkpggeglgaaGreat.MP Go.Proofs.YtiagbkpggeglgaaGreat.MU
set_option linter.unusedVariables false
set_option linter.unusedSimpArgs false
theorem Own.append {α : Type} {d : Kd α} {e : Nat} {v : Value} {xs : List α} {w W : World} {S : HP} (h : Own w W (Sep S (RowAt d e v xs))) :
    ∃ ok : Nat → Prop, d.R e W 0 ok v xs ∧ (∀ k, W.heap.size ≤ k → ok k) ∧ ∀ v1 w1 zs, d.R e w1 0 ok v1 zs → W.grownBy w1 v.ownBlock → Own w w1 (Sep S (RowAt d e v1 zs)) := by
  obtain ⟨hb, F, hS, hF⟩ := h
  obtain ⟨F2, h2, k2, u2⟩ := Sep.focusR hS
  refine ⟨fun k => F2 k ∨ W.heap.size ≤ k, Kd.R_mono h2.1 (fun _ h => .inl h), fun _ h => .inr h, fun v1 w1 zs hR hg => ?_⟩
  have hU : Upd W F2 (RowAt d e v1 zs) w1 :=
    ⟨fun k => (F2 k ∨ W.heap.size ≤ k) ∧ k < w1.heap.size, ⟨Kd.R_mono (Kd.R_bound hR) (fun k hk => ⟨hk.1, hk.2.2.1⟩), fun k hk => hk.2⟩, Eff.of_grown hg (fun k hk => h2.1.1 k hk), fun k hk => hk.1⟩
  obtain ⟨F', h', ef, hk⟩ := u2 _ _ hU
  refine ⟨below_eff hb (Nat.le_refl _) ef hF, F', h', fun k hk' => ?_⟩
  rcases hk k hk' with h | h
  · exact hF k h
  · exact Nat.le_trans hb.size h
theorem infoR : (Tryz.prog.info? 44).map (fun i => (i.zero, i.size, i.bytes)) = some (some (.agg #[.int .i64 0, .int .i64 0, .int .i64 0, .int .i64 0, .string ⟨#[]⟩, .bool false, .string ⟨#[]⟩, .string ⟨#[]⟩, .int .i64 0, .int .i64 0, .slice none 0 0, .slice none 0 0, .slice none 0 0, .slice none 0 0]), 14, 200) := by kernel_rfl
abbrev no_ : ByteArray := ⟨#[110, 111]⟩
abbrev LgAt (rs : List Rc) (v : Value) : HP := Sep (PSat rs) (RowAt kdRc 44 v rs)
theorem at_in (x : Int) : ∃ a : Nat, (wrap64 (x.tmod 200 + 200)).tmod 200 = (a : Int) ∧ a < 200 := by
  have h1 : x.tmod 200 < 200 := Int.tmod_lt_of_pos _ (by decide)
  have h2 : -200 < x.tmod 200 := Int.lt_tmod_of_pos _ (by decide)
  generalize x.tmod 200 = t at *
  rw [show wrap64 (t + 200) = t + 200 by unfold wrap64; omega, Int.tmod_eq_emod_of_nonneg (by omega)]
  exact ⟨((t + 200) % 200).toNat, by omega, by omega⟩
theorem keepS {b W : World} {P : World → Prop} (h : ∀ W, Eff0 b W → P W) (e : Eff0 b W) : Eff0 b W ∧ P W := ⟨e, h W e⟩
/-- The first record. -/
theorem lg_start {w W : World} (hb : Below w.heap.size w W) (now : ByteArray) :
    Own w ((W.alloc (.cells #[.int .i64 4, .int .i64 0, .string now] 77)).alloc (.cells (Rc.cells (rcS (some ⟨W.heap.size, 0, none⟩) 1 [(4, 0, now)])) 44)) (LgAt [rcS (some ⟨W.heap.size, 0, none⟩) 1 [(4, 0, now)]] (.slice (some ⟨W.heap.size + 1, 0, none⟩) 1 1)) := by
  have o0 : Own w W Emp := ⟨hb, fun _ => False, fun _ h => h, fun _ h => h.elim⟩
  have o1 := (o0.new (W' := W.alloc (.cells #[.int .i64 4, .int .i64 0, .string now] 77)) ((Eff.refl _ _).alloc _) (PSat.one (W := W.alloc (.cells #[.int .i64 4, .int .i64 0, .string now] 77)) (b := W.heap.size) (ps := [(4, 0, now)]) (c := 1) (heap_alloc_new W _) (by show 1 ≤ 100; decide)) (by rintro k rfl; exact Nat.le_refl _)).emp
  refine o1.new ((Eff.refl _ _).alloc _) (F' := fun k => k = W.heap.size + 1) ⟨?_, by rintro k rfl; simp⟩ (by rintro k rfl; simp)
  have hX : RowX encR 14 44 ((W.alloc (.cells #[.int .i64 4, .int .i64 0, .string now] 77)).alloc (.cells (Rc.cells (rcS (some ⟨W.heap.size, 0, none⟩) 1 [(4, 0, now)])) 44)) 0 (W.heap.size + 1) 1 [rcS (some ⟨W.heap.size, 0, none⟩) 1 [(4, 0, now)]] := by
    refine ⟨Nat.zero_le _, by simp, by decide, Rc.cells (rcS (some ⟨W.heap.size, 0, none⟩) 1 [(4, 0, now)]), [], ?_, rfl, by simp [flatE]⟩
    have := heap_alloc_new (W.alloc (.cells #[.int .i64 4, .int .i64 0, .string now] 77)) (.cells (Rc.cells (rcS (some ⟨W.heap.size, 0, none⟩) 1 [(4, 0, now)])) 44)
    rwa [show (W.alloc (.cells #[.int .i64 4, .int .i64 0, .string now] 77)).heap.size = W.heap.size + 1 by simp] at this
  exact RowX.toR (d := kdRc) (cap := 1) rfl (fun _ => rfl) (fun _ _ _ _ => rfl) hX rfl
/-- One more record: its patches first. -/
theorem lg_more {w W : World} {rs : List Rc} {v : Value} (o : Own w W (LgAt rs v)) (ps : List Pt) (c : Nat) (hl : ps.length ≤ 100) : Own w (W.alloc (.cells (flatE encP ps).toArray 77)) (Sep (PSat (rs ++ [rcS (some ⟨W.heap.size, 0, none⟩) c ps])) (RowAt kdRc 44 v rs)) := by
  have o1 := o.new (W' := W.alloc (.cells (flatE encP ps).toArray 77)) ((Eff.refl _ _).alloc _) (PSat.one (b := W.heap.size) (ps := ps) (c := c) (heap_alloc_new W _) hl) (by rintro k rfl; exact Nat.le_refl _)
  refine o1.imp (fun F h => ?_)
  have h1 := Sep.assoc h
  have h2 : (Sep (PSat rs) (Sep (PSat [rcS (some ⟨W.heap.size, 0, none⟩) c ps]) (RowAt kdRc 44 v rs))).on _ F := Sep.imp h1 (fun _ h => h) (fun _ h => Sep.comm h)
  exact Sep.imp (Sep.assoc' h2) (fun _ h => PSat.app h) (fun _ h => h)
/-- What an analysis leaves to be read. -/
theorem ana_redo (w : World) (A : Option Addr) (c : Nat) (rs : List Rc) (hC : kdRc.C w A rs.length rs) (hcap : rs.length ≤ c) (hr : ∀ r ∈ rs, RcAt w r) (k : Nat) (b : ByteArray) (hg : Lg rs k b) (hk : k ≤ 15) :
    Calls Tryz.prog 13 #[.int .i64 0, .slice A rs.length c] w fun e w' => ∃ (A2 : Option Addr) (c2 n2 : Nat) (B : Option Addr) (cB : Nat) (ds : List (Int × Int)) (fr : Int), e = .returned (.tuple #[.agg #[.slice A2 n2 c2, .slice B ds.length cB, .int .i64 fr], .bool true]) ∧ ds.Perm (anaA 0 rs).d ∧ kdD.C w' B ds.length ds ∧ Below w.heap.size w w' := by
  have ha : anaA 0 rs = ⟨[], if k = 0 then [(4, 1)] else [(4, 1), (9, 2)]⟩ := by
    have : anaA 0 rs = goA ⟨[], []⟩ 0 rs := by unfold anaA startA; rw [if_pos rfl]; rfl
    rw [this, hg.ana]
  refine (analyse_calls w 0 A c rs hC hcap hr (by rw [hg.len]; omega) (by rw [ha]; exact Nat.zero_lt_succ _) (by rw [ha]; dsimp only; split <;> decide) ⟨Int.le_refl _, by omega, fun h => absurd h (by decide)⟩ (fun h => absurd h (by decide)) (fun h => absurd h (by decide))).mono ?_
  rintro e w' ⟨A', c', ts, B, cB, ds, rfl, h2, h3, h4, h5, o⟩
  obtain ⟨F2, hD⟩ := o.fact 2 rfl
  obtain ⟨_, _, e2, _, cD⟩ := RowAt.reads hD
  injection e2 with e2 _ e4
  subst e2
  exact ⟨A', c', ts.length, B, cB, ds, _, rfl, h4, cD, o.below⟩
set_option maxHeartbeats 1600000 in
set_option maxRecDepth 100000 in
theorem RestartRedo_walk (n : Int) (torn other : ByteArray) (A : Option Addr) (c : Nat) (l : List Int) (w : World) (w0 : (Lit.int .i64 n).wf = true) (w1 : torn.size ≤ 140737488351232) (w2 : other.size ≤ 140737488351232) (t3 : (l.length ≤ maxLen ∧ ∀ a_ ∈ l, (Lit.int .i64 a_).wf = true)) (y3 : l.length * 8 ≤ 140737488351232) (hr : Kd.C (Kd.int .i64) w A l.length l) (hc : l.length ≤ c) :
    Calls Tryz.prog 5 #[.int .i64 n, .string torn, .string other, .slice A l.length c] w fun e w' => e = .returned (.bool true) ∧ Below w.heap.size w w' := by
  by_cases g : n < 0 ∨ 15 < n ∨ 300 < (torn.size : Int) ∨ 300 < (other.size : Int) ∨ 30 < (l.length : Int)
  · rcases (by omega : (n < 0) ∨ (¬ (n < 0) ∧ 15 < n) ∨ (¬ (n < 0) ∧ ¬ 15 < n ∧ 300 < (torn.size : Int)) ∨ (¬ (n < 0) ∧ ¬ 15 < n ∧ ¬ 300 < (torn.size : Int) ∧ 300 < (other.size : Int)) ∨ (¬ (n < 0) ∧ ¬ 15 < n ∧ ¬ 300 < (torn.size : Int) ∧ ¬ 300 < (other.size : Int) ∧ 30 < (l.length : Int))) with h0 | ⟨h0, h1⟩ | ⟨h0, h1, h2⟩ | ⟨h0, h1, h2, h3⟩ | ⟨h0, h1, h2, h3, h4⟩
    · have p00 : (n < 0) = True := eq_true (by omega)
      clear g hr hc w1 w2 t3 y3 w0
      clear h0
      go_enter Tryz.func5, Tryz.ntmps5
      go_wp2_with (go_at_call 6; refine (alive_calls _).mono ?_; rintro e' w3 ⟨rfl, b3⟩)
      go_ret
      exact ⟨rfl, b3⟩
    · have p00 : (n < 0) = False := eq_false (by omega)
      have p10 : (n > 15) = True := eq_true (by omega)
      have p11 : (15 < n) = True := eq_true (by omega)
      clear g hr hc w1 w2 t3 y3 w0
      clear h0
      clear h1
      go_enter Tryz.func5, Tryz.ntmps5
      go_wp2_with (go_at_call 6; refine (alive_calls _).mono ?_; rintro e' w3 ⟨rfl, b3⟩)
      go_ret
      exact ⟨rfl, b3⟩
    · have p00 : (n < 0) = False := eq_false (by omega)
      have p10 : (n > 15) = False := eq_false (by omega)
      have p11 : (15 < n) = False := eq_false (by omega)
      have p20 : ((torn.size : Int) > 300) = True := eq_true (by omega)
      have p21 : (300 < (torn.size : Int)) = True := eq_true (by omega)
      clear g hr hc w1 w2 t3 y3 w0
      clear h0
      clear h1
      clear h2
      go_enter Tryz.func5, Tryz.ntmps5
      go_wp2_with (go_at_call 6; refine (alive_calls _).mono ?_; rintro e' w3 ⟨rfl, b3⟩)
      go_ret
      exact ⟨rfl, b3⟩
    · have p00 : (n < 0) = False := eq_false (by omega)
      have p10 : (n > 15) = False := eq_false (by omega)
      have p11 : (15 < n) = False := eq_false (by omega)
      have p20 : ((torn.size : Int) > 300) = False := eq_false (by omega)
      have p21 : (300 < (torn.size : Int)) = False := eq_false (by omega)
      have p30 : ((other.size : Int) > 300) = True := eq_true (by omega)
      have p31 : (300 < (other.size : Int)) = True := eq_true (by omega)
      clear g hr hc w1 w2 t3 y3 w0
      clear h0
      clear h1
      clear h2
      clear h3
      go_enter Tryz.func5, Tryz.ntmps5
      go_wp2_with (go_at_call 6; refine (alive_calls _).mono ?_; rintro e' w3 ⟨rfl, b3⟩)
      go_ret
      exact ⟨rfl, b3⟩
    · have p00 : (n < 0) = False := eq_false (by omega)
      have p10 : (n > 15) = False := eq_false (by omega)
      have p11 : (15 < n) = False := eq_false (by omega)
      have p20 : ((torn.size : Int) > 300) = False := eq_false (by omega)
      have p21 : (300 < (torn.size : Int)) = False := eq_false (by omega)
      have p30 : ((other.size : Int) > 300) = False := eq_false (by omega)
      have p31 : (300 < (other.size : Int)) = False := eq_false (by omega)
      have p40 : ((l.length : Int) > 30) = True := eq_true (by omega)
      have p41 : (30 < (l.length : Int)) = True := eq_true (by omega)
      clear g hr hc w1 w2 t3 y3 w0
      clear h0
      clear h1
      clear h2
      clear h3
      clear h4
      go_enter Tryz.func5, Tryz.ntmps5
      go_wp2_with (go_at_call 6; refine (alive_calls _).mono ?_; rintro e' w3 ⟨rfl, b3⟩)
      go_ret
      exact ⟨rfl, b3⟩
  have H := Aside0.mk (And.intro hr hc)
  have p00 : (n < 0) = False := eq_false (by omega)
  have p10 : (n > 15) = False := eq_false (by omega)
  have p11 : (15 < n) = False := eq_false (by omega)
  have p20 : ((torn.size : Int) > 300) = False := eq_false (by omega)
  have p21 : (300 < (torn.size : Int)) = False := eq_false (by omega)
  have p30 : ((other.size : Int) > 300) = False := eq_false (by omega)
  have p31 : (300 < (other.size : Int)) = False := eq_false (by omega)
  have p40 : ((l.length : Int) > 30) = False := eq_false (by omega)
  have p41 : (30 < (l.length : Int)) = False := eq_false (by omega)
  obtain ⟨m, rfl⟩ : ∃ m : Nat, n = (m : Int) := ⟨n.toNat, by omega⟩
  have hm : m ≤ 15 := by omega
  have hl30 : l.length ≤ 30 := by omega
  clear g hr hc w1 w2 t3 y3 w0
  have CP := fun b W => page_calls b W
  have so := pageB_size other
  have st := pageB_size torn
  have HQ := Aside0.mk (And.intro so st)
  clear so st
  go_enter Tryz.func5, Tryz.ntmps5
  go_wp2_with (go_at_call 6; refine (alive_calls _).mono ?_; rintro e' w3 ⟨rfl, b3⟩)
  refine (CP other _).mono ?_
  rintro e' w4 ⟨rfl, e4⟩
  go_wp2_with fail
  refine (whole_calls 4 (pageB other) (by decide) HQ.out.1 _).mono ?_
  rintro e' w5 ⟨rfl, e5⟩
  have E5 := (Eff.of_below (S := fun _ => False) b3).then0 (e4.then0 e5)
  clear b3 e4 e5
  go_wp2_with fail
  have O0 := lg_start ((E5.alloc (.cells #[.int .i64 4, .int .i64 0, .string (pageB other)] 77)).below0) (pageB other)
  rw [show (w5.alloc (.cells #[.int .i64 4, .int .i64 0, .string (pageB other)] 77)).heap.size = w5.heap.size + 1 by simp] at O0
  clear E5
  go_loopg [9, 12, 13] m (fun gk s9 s12 s13 wr => ∃ (k : Nat) (b : ByteArray) (rs : List Rc), s9 = .string b ∧ s13 = .int .i64 k ∧ k + gk = m ∧ Aside0 (Lg rs k b) ∧ Own w wr (LgAt rs s12))
  case atStart => exact ⟨0, _, _, rfl, rfl, by omega, Aside0.mk (Lg.start _ _ HQ.out.1), O0⟩
  case round =>
    clear O0
    obtain ⟨k, b, rs, rfl, rfl, hk, HL, O1⟩ := hrel
    obtain ⟨A1, c1, hv1, hc1, _⟩ := Own.row (Own.right O1)
    subst hv1
    by_cases hkm : k < m
    · have q1 : ((k : Int) < (m : Int)) = True := eq_true (by omega)
      have hk15 : k < 15 := by omega
      have HK := Aside0.mk (And.intro hk hkm)
      clear hk hkm
      go_upto_if 68 with (fail)
      go_cut [14] (fun v wx => ∃ a : Nat, v = .int .i64 (a : Int) ∧ a < 200 ∧ wx = wr)
      case first =>
        by_cases hz : 0 < l.length
        · have q2 : ((l.length : Int) > 0) = True := eq_true (by omega)
          have q3 : (0 < (l.length : Int)) = True := eq_true (by omega)
          have q5 : (0 < l.length) = True := eq_true hz
          have q4 : (l = []) = False := eq_false (fun h => by rw [h] at hz; exact absurd hz (by decide))
          have hjl : k % l.length < l.length := Nat.mod_lt _ hz
          have hj : (k : Int).tmod (l.length : Int) = ((k % l.length : Nat) : Int) := by rw [Int.tmod_eq_emod_of_nonneg (by omega)]; omega
          obtain ⟨j, hjj⟩ : ∃ j, j = k % l.length := ⟨_, rfl⟩
          rw [← hjj] at hj hjl
          obtain ⟨ad, ea, x0⟩ := Kd.at_int (Kd.C_below H.out.1 O1.below) (j : Int) (by omega) (by omega)
          rw [Int.toNat_natCast] at x0
          subst ea
          generalize rd l (j : Int) = x at *
          clear hjj hz
          have hj0 : (0 : Int) ≤ (j : Int) := by omega
          have hj1 : (j : Int) < (l.length : Int) := by omega
          go_wp2_with fail
          go_meet
          case rel =>
            obtain ⟨a, ha, ha2⟩ := at_in x
            exact ⟨a, by rw [ha], ha2, rfl⟩
        · obtain rfl : l = [] := List.eq_nil_of_length_eq_zero (by omega)
          clear hz
          go_wp2_with fail
          go_meet
          case rel => exact ⟨0, rfl, by decide, rfl⟩
      case rest =>
        obtain ⟨a, rfl, ha, rfl⟩ := hcut
        have hk256 : (k : Int) % 256 = (k : Int) := by omega
        have hcv := run_convert_bytes_arg (P := Tryz.prog) (wc.alloc (.cells #[.int .u8 (k : Int), .int .u8 120, .int .u8 (k : Int)] 5)) 80 5 Tryz.underlying80 Tryz.underlying5 wc.heap.size 0 3 3 [(k : Int), 120, (k : Int)] rfl (fun i hi => by
          rw [blk_cell (heap_alloc_new wc _)]
          match i, hi with
          | 0, _ => rfl
          | 1, _ => rfl
          | 2, _ => rfl) 9 Tryz.underlying9
        have hs3 : (strOfNums [(k : Int), 120, (k : Int)]).size = 3 := rfl
        go_wp2_with fail
        clear hcv hk256
        generalize strOfNums [(k : Int), 120, (k : Int)] = s at *
        have hri : rightP (4, (a : Int), s) := by unfold rightP rightQ q_; dsimp only; omega
        have CA := fun W => apply_calls b (4, (a : Int), s) HL.out.size hri W
        have HL2 := fun A c => HL.out.step A c (a : Int) s no_ hri
        have O2 := ((O1.alloc (.cells #[.int .u8 (k : Int), .int .u8 120, .int .u8 (k : Int)] 5)).alloc (.cells #[.int .i64 4, .int .i64 (a : Int), .string s] 77))
        have hbx := heap_alloc_new (wc.alloc (.cells #[.int .u8 (k : Int), .int .u8 120, .int .u8 (k : Int)] 5)) (.cells #[.int .i64 4, .int .i64 (a : Int), .string s] 77)
        generalize hwd : (wc.alloc (.cells #[.int .u8 (k : Int), .int .u8 120, .int .u8 (k : Int)] 5)).alloc (.cells #[.int .i64 4, .int .i64 (a : Int), .string s] 77) = wd at *
        rw [show (wc.alloc (.cells #[.int .u8 (k : Int), .int .u8 120, .int .u8 (k : Int)] 5)).heap.size = wc.heap.size + 1 by simp] at hbx
        have hrl : rs.length ≤ 16 := by rw [HL.out.len]; omega
        have HW := Aside0.mk hwd
        clear hwd hri O1 hs3
        refine (CA _).mono ?_
        rintro e' w6 ⟨rfl, e6⟩
        have hbx6 : w6.heap[wc.heap.size + 1]? = some (.cells #[.int .i64 4, .int .i64 (a : Int), .string s] 77 (0, 0)) := (e6.block _ (Array.getElem?_eq_some_iff.1 hbx).1 id).trans hbx
        have x0 : w6.cell? ⟨wc.heap.size + 1, 0, none⟩ = some (.int .i64 4) := blk_cell hbx6 0
        have x1 : w6.cell? ⟨wc.heap.size + 1, 1, none⟩ = some (.int .i64 (a : Int)) := blk_cell hbx6 1
        have x2 : w6.cell? ⟨wc.heap.size + 1, 2, none⟩ = some (.string s) := blk_cell hbx6 2
        have O3 := lg_more (O2.after e6) [(4, (a : Int), s), (9, 0, no_)] 2 (by show 2 ≤ 100; decide)
        obtain ⟨ok, hR, hok, hN⟩ := Own.append O3
        have HA := Aside0.mk (And.intro hR (And.intro hok hN))
        clear CA e6 hbx hbx6 O2 O3 hR hok hN
        generalize hlay : layP b (4, (a : Int), s) = b2 at *
        have HL3 := Aside0.mk HL2
        clear HL2
        go_wp2_with (at_builtin; refine Kd.R_append kdRc (W := w6.alloc (.cells #[.int .i64 4, .int .i64 (a : Int), .string s, .int .i64 9, .int .i64 0, .string no_] 77)) (w0 := w6.alloc (.cells #[.int .i64 4, .int .i64 (a : Int), .string s, .int .i64 9, .int .i64 0, .string no_] 77)) 0 rfl (.tmp 93) (.tmp 98) 36 44 (.agg #[.int .i64 0, .int .i64 0, .int .i64 0, .int .i64 0, .string ⟨#[]⟩, .bool false, .string ⟨#[]⟩, .string ⟨#[]⟩, .int .i64 0, .int .i64 0, .slice none 0 0, .slice none 0 0, .slice none 0 0, .slice none 0 0]) 200 rfl Tryz.underlying36 infoR rfl (by decide) (by decide) (.slice A1 rs.length c1) rs (rcS (some ⟨w6.heap.size, 0, none⟩) 2 [(4, (a : Int), s), (9, 0, no_)]) (encR (rcS (some ⟨w6.heap.size, 0, none⟩) 2 [(4, (a : Int), s), (9, 0, no_)])) ok (fun _ => False) rfl (by simp [Act.eval]) rfl (fun _ hk => hk.elim) HA.out.2.1 HA.out.1 (Below.refl _ _) (Nat.zero_le _) (by omega) ?_; intro v1 w7 r1 b1 g1 o1; have A3 := Aside0.mk (HA.out.2.2 _ _ _ r1 g1); clear r1 b1 g1 o1)
        go_roundg (gk - 1)
        case measure => have := HK.out; omega
        case rel => exact ⟨k + 1, b2, _, rfl, by simp, by have := HK.out; omega, Aside0.mk (HL3.out _ _), A3.out⟩
    · have q1 : ((k : Int) < (m : Int)) = False := eq_false (by omega)
      obtain rfl : k = m := by omega
      obtain ⟨_, F, hF, _⟩ := id O1.left
      obtain ⟨A', c', ea, _, hC⟩ := Own.row (Own.right O1)
      injection ea with h1 h2 h3
      subst h1
      subst h3
      have hrs := HL.out.rcAt hF
      have CN := ana_redo wr A1 c1 rs hC hc1 hrs k b HL.out hm
      have HB := Aside0.mk (And.intro O1.below (And.intro hC hrs))
      clear hkm hk hC hrs hF O1 h2
      go_wp2_with fail
      refine CN.mono ?_
      rintro e' w6 ⟨A2, c2, n2, B, cB, ds, fr, rfl, hp, hD, hB⟩
      go_upto_region 18 with (fail)
      have hbx := heap_alloc_new w6 (.cells #[.slice A2 n2 c2, .slice B ds.length cB, .int .i64 fr] 47)
      have e60 : Eff0 w6 (w6.alloc (.cells #[.slice A2 n2 c2, .slice B ds.length cB, .int .i64 fr] 47)) := (Eff.refl _ _).alloc _
      generalize hwb : w6.alloc (.cells #[.slice A2 n2 c2, .slice B ds.length cB, .int .i64 fr] 47) = wb at *
      have HWB := Aside0.mk hwb
      have e0b : Eff0 wr wb := (Eff.of_below hB).then0 e60
      have hX : ∀ W, Eff0 wb W → W.cell? ⟨w6.heap.size, 0, none⟩ = some (.slice A2 n2 c2) ∧ W.cell? ⟨w6.heap.size, 1, none⟩ = some (.slice B ds.length cB) ∧ W.cell? ⟨w6.heap.size, 2, none⟩ = some (.int .i64 fr) := fun W e => by
        have h1 : W.heap[w6.heap.size]? = _ := (e.block _ (Array.getElem?_eq_some_iff.1 hbx).1 id).trans hbx
        exact ⟨blk_cell h1 0, blk_cell h1 1, blk_cell h1 2⟩
      have hR : ∀ pg W, Eff0 wb W → Calls Tryz.prog 17 #[.agg #[.slice A2 n2 c2, .slice B ds.length cB, .int .i64 fr], .int .i64 pg, .string (pageB torn), .slice A1 rs.length c1] W fun e W' => e = .returned (.tuple #[.string (ansO (redoA ds pg (pageB torn) rs)).1, .bool (ansO (redoA ds pg (pageB torn) rs)).2]) ∧ Eff0 W W' := fun pg W e => by
        have h4 := HL.out.find4 hp
        have hlen := HL.out.len
        exact redo_calls W _ B cB ds fr pg (pageB torn) A1 c1 rs ⟨_, _, _, rfl⟩ (Kd.C_below hD (e60.then0 e).below0) (Kd.C_below HB.out.2.1 (e0b.then0 e).below0) (fun r hr => (HB.out.2.2 r hr).keep (e0b.then0 e).below0) (by omega) (by omega) HQ.out.2 h4.2.2.1
      have R4 := fun W e => hR 4 W e
      have R5 := fun W e => hR 5 W e
      rw [HL.out.at4 hp _ HQ.out.2] at R4
      rw [HL.out.at5 hp] at R5
      have HX := Aside0.mk hX
      have HE := Aside0.mk e0b
      have HR4 := Aside0.mk R4
      have HR5 := Aside0.mk R5
      clear hX hR R4 R5 e0b hp hD hB hbx e60 hwb CN
      have sb : Eff0 wb wb.drew := (Eff.refl _ _).drew
      go_cut [18, 19] (fun v18 v19 wx => v18 = .string b ∧ v19 = .bool true ∧ Aside0 (Eff0 wb wx))
      case first =>
        go_region_held3 (fun W' => Eff0 wb W' ∧ W'.cell? ⟨w6.heap.size, 0, none⟩ = some (.slice A2 n2 c2) ∧ W'.cell? ⟨w6.heap.size, 1, none⟩ = some (.slice B ds.length cB) ∧ W'.cell? ⟨w6.heap.size, 2, none⟩ = some (.int .i64 fr)) ((refine keepS HX.out ?_; first | assumption | exact sb | exact And.left (by assumption)))
          (first
          | (go_at_call 12; refine (CP torn _).mono ?_; rintro e' wn ⟨rfl, en⟩; have e1 : Eff0 wb wn := Eff.then0 (by first | exact sb | exact And.left (by assumption) | assumption) en; clear en)
          | (go_at_call 17; refine (HR4.out _ (by first | assumption | exact And.left (by assumption) | exact sb)).mono ?_; rintro e' wn ⟨rfl, en⟩; have e2 : Eff0 wb wn := Eff.then0 (by first | assumption | exact And.left (by assumption) | exact sb) en; clear en)
          | fail)
        all_goals (go_wp2_with fail; go_meet)
        all_goals
          case rel => exact ⟨rfl, rfl, Aside0.mk e2⟩
      case rest =>
        obtain ⟨rfl, rfl, HC1⟩ := hcut
        clear sb
        obtain ⟨wd, hwd⟩ : ∃ wd, wd = wc := ⟨_, rfl⟩
        rw [← hwd] at HC1 ⊢
        clear hwd
        have sb : Eff0 wb wd.drew := HC1.out.drew
        have s0 : Eff0 wb wd := HC1.out
        go_upto_region 19 with (fail)
        go_cut [20, 21] (fun v20 v21 wx => v20 = .string (pageB torn) ∧ v21 = .bool true ∧ Aside0 (Eff0 wb wx))
        case first =>
          go_region_held3 (fun W' => Eff0 wb W' ∧ W'.cell? ⟨w6.heap.size, 0, none⟩ = some (.slice A2 n2 c2) ∧ W'.cell? ⟨w6.heap.size, 1, none⟩ = some (.slice B ds.length cB) ∧ W'.cell? ⟨w6.heap.size, 2, none⟩ = some (.int .i64 fr)) ((refine keepS HX.out ?_; first | assumption | exact sb | exact And.left (by assumption)))
            (first
            | (go_at_call 12; refine (CP torn _).mono ?_; rintro e' wn ⟨rfl, en⟩; have e1 : Eff0 wb wn := Eff.then0 (by first | exact sb | exact And.left (by assumption) | assumption) en; clear en)
            | (go_at_call 17; refine (HR5.out _ (by first | assumption | exact And.left (by assumption) | exact sb)).mono ?_; rintro e' wn ⟨rfl, en⟩; have e2 : Eff0 wb wn := Eff.then0 (by first | assumption | exact And.left (by assumption) | exact sb) en; clear en)
            | fail)
          all_goals (go_wp2_with fail; go_meet)
          all_goals
            case rel => exact ⟨rfl, rfl, Aside0.mk e2⟩
        case rest =>
          obtain ⟨rfl, rfl, HC2⟩ := hcut
          have HE2 := Aside0.mk (below_eff HB.out.1 (Nat.le_refl _) (HE.out.then0 HC2.out) (fun _ h => h.elim))
          clear sb s0
          go_wp2_with fail
          refine (CP torn _).mono ?_
          rintro e' wn ⟨rfl, en⟩
          have HE3 := Aside0.mk (below_eff HE2.out (Nat.le_refl _) en (fun _ h => h.elim))
          clear en
          go_wp2_with fail
          go_ret
          exact ⟨rfl, HE3.out⟩
end Go.Proofs.YtiagbkpggeglgaaGreat.Pure
