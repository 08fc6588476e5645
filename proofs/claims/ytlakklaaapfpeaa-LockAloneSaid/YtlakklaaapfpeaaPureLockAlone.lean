/- Whoever has all of a key has it alone, whoever waits does not have it, and behind all releases nothing is left (LockAlone). Conditions: none beyond the given row's own. -/
import Derived.Deep.CutBlock
import Derived.Test.YtlakklaaapfpeaaProg
import Derived.BigRegion
import Derived.BigQuiet
import Derived.Deep.QuietTactic
import Derived.Deep.AppendLies
import Derived.ChangeAlike
import Derived.Outline
import Derived.WalkKit
import Derived.KernelRfl
import Derived.Deep.LoopGhost
import Derived.Deep.RegionLaw
import Derived.Test.YtlakklaaapfpeaaWMore
import Derived.Test.YtlakklaaapfpeaaWKept
import Derived.Test.YtlakklaaapfpeaaLSep
import Derived.Test.YtlakklaaapfpeaaMx
import Derived.Test.YtlakklaaapfpeaaK4
import Derived.Test.YtlakklaaapfpeaaPureLockAloneP
namespace Go.Proofs.Ytlakklaaapfpeaa.Pure
open Go Go.RowKit Go.Proofs.YtlakklaaapfpeaaW.PrintWords Go.Proofs.YtlakklaaapfpeaaW.PrintLast Go.Proofs.YtlakklaaapfpeaaW.PrintMore Go.Proofs.Ytlakklaaapfpeaa.L Go.Proofs.Ytlakklaaapfpeaa.M Go.Proofs.Ytlakklaaapfpeaa.LK
set_option linter.unusedVariables false
set_option linter.unusedSimpArgs false
/-- The table, and an operation beside it. -/
abbrev UB (W : World) (b : Nat) (n : Bool) (s : St ByteArray) (ob : Nat) (x : S30) (w : World) : Prop := Aside0 (Upd W (fun _ => False) (Sep (TabA b n s) (CellsAt ob #[.int .i64 x.f0, .int .i64 x.f1, .string x.f2, .bool x.f3] 30)) w)
variable {W w : World} {b ob : Nat} {n : Bool} {s : St ByteArray} {x : S30}
theorem ub_new (u : UT W (fun _ => False) b n s w) (x : S30) : UB W b n s w.heap.size x (w.alloc (.cells #[.int .i64 x.f0, .int .i64 x.f1, .string x.f2, .bool x.f3] 30)) :=
  Aside0.mk (u.out.trans (fun G hG => Upd.new hG ((Eff.refl _ _).alloc _) (F' := fun k => k = w.heap.size) ⟨heap_alloc_new w _, rfl, by rintro k rfl; simp⟩ (by rintro k rfl; exact Nat.le_refl _)))
theorem ub_cell (u : UB W b n s ob x w) (i : Nat) : w.cell? ⟨ob, i, none⟩ = (#[Value.int .i64 x.f0, .int .i64 x.f1, .string x.f2, .bool x.f3] : Array Value)[i]? := by
  obtain ⟨_, ⟨G1, G2, _, g2, _⟩, _⟩ := u.out
  exact CellsAt.cell g2 i
theorem ub_drop (u : UB W b n s ob x w) : UT W (fun _ => False) b n s w := Aside0.mk (Upd.drop u.out)
theorem Upd.self {S : HP} {G : Nat → Prop} (h : S.on w G) : Upd w G S w := ⟨G, h, Eff.refl _ _, fun _ h => .inl h⟩
theorem ub_ask (u : UB W b n s ob x w) (ho : Ok 899998 s) : Calls Try.prog 13 #[.pointer (some ⟨b, 0, none⟩), .int .i64 x.f1, .string x.f2, .bool x.f3] w fun e w' => (∃ r, e = .returned (.bool r)) ∧ UB W b true (askA s x.f1 x.f2 x.f3).1 ob x w' :=
  Upd.thenL (r := fun e => ∃ r, e = .returned (.bool r)) u.out (fun G h => (ask_calls b s w G x.f1 x.f2 x.f3 h ho).mono (fun e w' ⟨h1, h2⟩ => ⟨⟨_, h1⟩, h2⟩))
theorem ub_stop (u : UB W b n s ob x w) (ho : Ok 899999 s) : Calls Try.prog 14 #[.pointer (some ⟨b, 0, none⟩), .int .i64 x.f1] w fun e w' => (∃ r, e = .returned (.bool r)) ∧ UB W b n (stopA s x.f1) ob x w' :=
  Upd.thenL (r := fun e => ∃ r, e = .returned (.bool r)) u.out (fun G h => (u_stop (Aside0.mk (Upd.self h)) ho x.f1).mono (fun e w' ⟨h1, h2⟩ => ⟨⟨_, h1⟩, h2⟩))
theorem ub_rel (u : UB W b n s ob x w) (ho : Ok 899999 s) (hl : (heldA (stopA s x.f1) x.f1).length < 900000) : Calls Try.prog 15 #[.pointer (some ⟨b, 0, none⟩), .int .i64 x.f1] w fun e w' => (∃ r, e = .returned (.int .i64 r)) ∧ UB W b n (relA s x.f1) ob x w' :=
  Upd.thenL (r := fun e => ∃ r, e = .returned (.int .i64 r)) u.out (fun G h => (release_calls (Aside0.mk (Upd.self h)) ho x.f1 hl).mono (fun e w' ⟨h1, h2⟩ => ⟨⟨_, h1⟩, h2⟩))
/-- Behind an operation: the table is well. -/
abbrev Sx (s : St ByteArray) (i : Nat) : Prop := Z s ∧ Ok i s ∧ s.k.length ≤ i
theorem sx_ask {i : Nat} (h : Sx s i) (x : S30) (h1 : 0 ≤ x.f1 ∧ x.f1 ≤ 20) : Sx (askA s x.f1 x.f2 x.f3).1 (i + 1) := ⟨h.1.ask h1 _ _, h.2.1.ask _ _ _, Nat.le_trans (ask_len _ _ _ _) (Nat.succ_le_succ h.2.2)⟩
theorem sx_stop {i : Nat} (h : Sx s i) (tx : Int) : Sx (stopA s tx) (i + 1) := ⟨h.1.stop _, (h.2.1.stop _).mono (by omega), Nat.le_trans (stop_len _ _) (Nat.le_succ_of_le h.2.2)⟩
theorem sx_rel {i : Nat} (h : Sx s i) (tx : Int) : Sx (relA s tx) (i + 1) := ⟨h.1.rel _, (h.2.1.rel _).mono (by omega), Nat.le_trans (rel_len _ _) (Nat.le_succ_of_le h.2.2)⟩
theorem sx_same {i : Nat} (h : Sx s i) : Sx s (i + 1) := ⟨h.1, h.2.1.mono (by omega), Nat.le_succ_of_le h.2.2⟩
set_option maxHeartbeats 1600000 in
set_option maxRecDepth 100000 in
theorem LockAlone_out (A : Option Addr) (c : Nat) (l : List S30) (w : World) (h : 120 < l.length) (hl : l.length * 40 ≤ 140737488351232) :
    Calls Try.prog 3 #[.slice A l.length c] w fun e w' => e = .returned (.bool true) ∧ Below w.heap.size w w' := by
  have CA := fun W => alive_calls W
  have p1 : ((l.length : Int) > 120) = True := eq_true (by omega)
  have p2 : (120 < (l.length : Int)) = True := eq_true (by omega)
  clear h
  go_enter Try.func3, Try.ntmps3
  go_wp2_with (go_at_call 12; refine (CA _).mono ?_; rintro e w1 ⟨rfl, e1⟩)
  go_ret
  exact ⟨rfl, e1.out.below0⟩
set_option maxHeartbeats 1600000 in
set_option maxRecDepth 100000 in
theorem LockAlone_walk (A : Option Addr) (c : Nat) (l : List S30) (w : World) (h1 : l.length ≤ maxLen ∧ ∀ a ∈ l, ((Lit.int .i64 a.f0).wf = true ∧ (Lit.int .i64 a.f1).wf = true ∧ a.f2.size ≤ maxLen ∧ True)) (h2 : l.length * 40 ≤ 140737488351232) (h3 : Kd.C k30 w A l.length l) (h4 : l.length ≤ c) :
    Calls Try.prog 3 #[.slice A l.length c] w fun e w' => e = .returned (.bool true) ∧ Below w.heap.size w w' := by
  by_cases ho : 120 < l.length
  · exact LockAlone_out A c l w ho h2
  have p1 : ((l.length : Int) > 120) = False := eq_false (by omega)
  have p2 : (120 < (l.length : Int)) = False := eq_false (by omega)
  have hl : l.length < 121 := by omega
  have CA := fun W => alive_calls W
  have HR := Aside0.mk (And.intro h3 h1)
  clear ho h1 h2 h3 h4
  go_enter Try.func3, Try.ntmps3
  go_wp2_with (go_at_call 12; refine (CA _).mono ?_; rintro e w1 ⟨rfl, e1⟩)
  have U0 := u_new w1
  clear CA p1 p2
  go_loopg [27] l.length (fun k s27 wr => ∃ (i : Nat) (s : St ByteArray) (b : Bool), s27 = .int .i64 (i : Int) ∧ i + k = l.length ∧ UT w1 (fun _ => False) w1.heap.size b s wr ∧ Aside0 (Sx s i))
  case atStart => exact ⟨0, ⟨[], []⟩, false, rfl, by omega, U0, Aside0.mk ⟨Z.empty, Ok.empty 0, Nat.zero_le _⟩⟩
  case round =>
    obtain ⟨i, s, b, rfl, hik, U1, HS⟩ := hrel
    by_cases hi : i < l.length
    · have p1 : ((i : Int) < (l.length : Int)) = True := eq_true (by omega)
      have E1 : Eff0 w wr := e1.out.trans (u_eff U1) (fun _ h => h.elim)
      obtain ⟨ad, rfl, x0, x1, x2, x3⟩ := at_T30 (Kd.C_below HR.out.1 E1.below0) (i : Int) (by omega) (by omega)
      have hsz : (rd_T30 l (i : Int)).f2.size ≤ maxLen ∧ (Lit.int .i64 (rd_T30 l (i : Int)).f0).wf = true ∧ (Lit.int .i64 (rd_T30 l (i : Int)).f1).wf = true := by
        have : rd_T30 l (i : Int) ∈ l := by
          unfold rd_T30
          rw [Int.toNat_natCast, List.getD_eq_getElem?_getD, List.getElem?_eq_getElem hi]
          exact List.getElem_mem hi
        have := HR.out.2.2 _ this
        exact ⟨this.2.2.1, this.1, this.2.1⟩
      generalize rd_T30 l (i : Int) = x at *
      simp only [Int.toNat_natCast] at x0 x1 x2 x3
      have UX := ub_new U1 x
      have HI := Aside0.mk (And.intro hi hik)
      have hii : i < 900 := by omega
      obtain ⟨g1, rfl⟩ : ∃ g1 : Nat, g1 = gk := ⟨_, rfl⟩
      obtain ⟨w0, rfl⟩ : ∃ w0 : World, w0 = wr := ⟨_, rfl⟩
      clear hi hik
      by_cases hx : (0 ≤ x.f1 ∧ x.f1 ≤ 20) ∧ (x.f2.size : Int) ≤ 60
      · have p3 : (x.f1 < 0) = False := eq_false (by omega)
        have p4 : (x.f1 > 20) = False := eq_false (by omega)
        have p5 : (20 < x.f1) = False := eq_false (by omega)
        have p6 : ((x.f2.size : Int) > 60) = False := eq_false (by omega)
        have p7 : (60 < (x.f2.size : Int)) = False := eq_false (by omega)
        have CAsk := Aside0.mk (ub_ask UX (HS.out.2.1.mono (by omega)))
        have CStop := Aside0.mk (ub_stop UX (HS.out.2.1.mono (by omega)))
        have CRel := Aside0.mk (ub_rel UX (HS.out.2.1.mono (by omega)) (by have := held_len (stopA s x.f1) x.f1; have := stop_len s x.f1; have := HS.out.2.2; omega))
        have SA := Aside0.mk (sx_ask HS.out x hx.1)
        have SS := Aside0.mk (sx_stop HS.out x.f1)
        have SR := Aside0.mk (sx_rel HS.out x.f1)
        have SN := Aside0.mk (sx_same HS.out)
        have HX := Aside0.mk hx
        clear hx
        go_upto_block 2 with (fail)
        go_cut [] (fun wx => ∃ b2 s2, UB w1 w1.heap.size b2 s2 w0.heap.size x wx ∧ Aside0 (Sx s2 (i + 1)))
        case first =>
          go_wp2_with (first
            | (go_at_call 13; refine CAsk.out.mono ?_; rintro e w2 ⟨⟨r, rfl⟩, U2⟩; have HS2 := SA)
            | (go_at_call 14; refine CStop.out.mono ?_; rintro e w2 ⟨⟨r, rfl⟩, U2⟩; have HS2 := SS)
            | (go_at_call 15; refine CRel.out.mono ?_; rintro e w2 ⟨⟨r, rfl⟩, U2⟩; have HS2 := SR))
          all_goals
            go_meet
            case rel => first | exact ⟨_, _, U2, HS2⟩ | exact ⟨_, _, UX, SN⟩
        case rest =>
          obtain ⟨b2, s2, U2, HS2⟩ := hcut
          clear UX SA SS SR SN CAsk CStop CRel p1 p3 p4 p5 p6 p7
          obtain ⟨w2, rfl⟩ : ∃ w2 : World, w2 = wc := ⟨_, rfl⟩
          go_wp2_with fail
          have hcell := ub_cell U2 2
          have UT2 := ub_drop U2
          have CW := Aside0.mk (fun tx => u_waits UT2 tx)
          have CH := Aside0.mk (fun tx key => u_holds UT2 tx key)
          have HWv := Aside0.mk (fun (tx : Int) (key : ByteArray) (h : waitK s2.w tx = some key) => Z.waits HS2.out.1 h)
          clear x0 x1 x2 x3
          rcases Z.alone HS2.out.1 x.f2 with hA | ⟨jj, j0, j1, hA⟩
          · have HA := Aside0.mk hA
            clear hA
            go_loopg [6, 7, 8] 21 (fun k s6 s7 s8 wr => ∃ (j m : Nat), s6 = .int .i64 0 ∧ s7 = .int .i64 (m : Int) ∧ s8 = .int .i64 (j : Int) ∧ j + k = 21 ∧ m ≤ j ∧ wr = w2)
            case atStart => exact ⟨0, 0, rfl, rfl, rfl, by omega, by omega, rfl⟩
            case round =>
              obtain ⟨j, m, rfl, rfl, rfl, hjk, hmj, rfl⟩ := hrel
              by_cases hj : j < 21
              · have q1 : ((j : Int) ≤ 20) = True := eq_true (by omega)
                have CHj := CH.out (j : Int) x.f2
                have CWj := CW.out (j : Int)
                have HJ := Aside0.mk (And.intro hjk (And.intro hj hmj))
                have hm9 : m < 900 := by omega
                have hj9 : j < 900 := by omega
                clear hj hjk hmj
                rcases HA.out (j : Int) with hv | hv
                all_goals
                  rw [hv] at CHj
                  cases hw : waitK s2.w (j : Int) with
                  | none =>
                    rw [hw] at CWj
                    clear hw hv
                    go_wp2_with (first | (go_at_call 16; refine CHj.mono ?_; rintro e w3 ⟨rfl, rfl⟩) | (go_at_call 17; refine CWj.mono ?_; rintro e w3 ⟨rfl, rfl⟩))
                    go_roundg (gk - 1)
                    case measure => have := HJ.out; omega
                    case rel => have := HJ.out; first | (refine ⟨j + 1, m, ?_, ?_, ?_, ?_, ?_, ?_⟩ <;> first | rfl | (simp; done) | omega) | (refine ⟨j + 1, m + 1, ?_, ?_, ?_, ?_, ?_, ?_⟩ <;> first | rfl | (simp; done) | omega)
                  | some key =>
                    rw [hw] at CWj
                    have hne := HWv.out (j : Int) key hw
                    have CHk := CH.out (j : Int) key
                    generalize holdsA s2 (j : Int) key = v2 at hne CHk
                    have q2 : (v2 == 2) = false := by simpa using hne
                    have q3 : (v2 = 2) = False := eq_false hne
                    clear hw hv hne
                    go_upto_region 25 with (go_at_call 16; refine CHj.mono ?_; rintro e w3 ⟨rfl, rfl⟩)
                    clear CHj
                    go_wp2_with (first | (go_at_call 16; refine CHk.mono ?_; rintro e w3 ⟨rfl, rfl⟩) | (go_at_call 17; refine CWj.mono ?_; rintro e w3 ⟨rfl, rfl⟩))
                    go_roundg (gk - 1)
                    case measure => have := HJ.out; omega
                    case rel => have := HJ.out; first | (refine ⟨j + 1, m, ?_, ?_, ?_, ?_, ?_, ?_⟩ <;> first | rfl | (simp; done) | omega) | (refine ⟨j + 1, m + 1, ?_, ?_, ?_, ?_, ?_, ?_⟩ <;> first | rfl | (simp; done) | omega)
              · have q1 : ((j : Int) ≤ 20) = False := eq_false (by omega)
                clear hj hjk hmj
                go_wp2
                go_roundg (g1 - 1)
                case measure => have := HI.out; omega
                case rel => exact ⟨i + 1, s2, b2, by simp, by have := HI.out; omega, UT2, HS2⟩
          · have HA := Aside0.mk hA
            clear hA
            go_loopg [6, 7, 8] 21 (fun k s6 s7 s8 wr => ∃ (j m : Nat), s6 = .int .i64 (m : Int) ∧ s7 = .int .i64 0 ∧ s8 = .int .i64 (j : Int) ∧ j + k = 21 ∧ ((m = 0 ∧ (j : Int) ≤ jj) ∨ (m = 1 ∧ jj < (j : Int))) ∧ wr = w2)
            case atStart => exact ⟨0, 0, rfl, rfl, rfl, by omega, by omega, rfl⟩
            case round =>
              obtain ⟨j, m, rfl, rfl, rfl, hjk, hmj, rfl⟩ := hrel
              by_cases hj : j < 21
              · have q1 : ((j : Int) ≤ 20) = True := eq_true (by omega)
                have CHj := CH.out (j : Int) x.f2
                have CWj := CW.out (j : Int)
                have HJ := Aside0.mk (And.intro hjk (And.intro hj hmj))
                have hm9 : m < 900 := by omega
                have hj9 : j < 900 := by omega
                have hv := HA.out (j : Int)
                clear hj hjk hmj
                by_cases hjj : (j : Int) = jj
                · rw [if_pos hjj] at hv
                  have hm0 : m = 0 := by have := HJ.out; omega
                  subst hm0
                  have HJJ := Aside0.mk hjj
                  clear hjj
                  rw [hv] at CHj
                  cases hw : waitK s2.w (j : Int) with
                  | none =>
                    rw [hw] at CWj
                    clear hw hv
                    go_wp2_with (first | (go_at_call 16; refine CHj.mono ?_; rintro e w3 ⟨rfl, rfl⟩) | (go_at_call 17; refine CWj.mono ?_; rintro e w3 ⟨rfl, rfl⟩))
                    go_roundg (gk - 1)
                    case measure => have := HJ.out; omega
                    case rel => have := HJ.out; have := HJJ.out; exact ⟨j + 1, 1, by simp, by simp, by simp, by omega, by omega, rfl⟩
                  | some key =>
                    rw [hw] at CWj
                    have hne := HWv.out (j : Int) key hw
                    have CHk := CH.out (j : Int) key
                    generalize holdsA s2 (j : Int) key = v2 at hne CHk
                    have q2 : (v2 == 2) = false := by simpa using hne
                    have q3 : (v2 = 2) = False := eq_false hne
                    clear hw hv hne
                    go_upto_region 25 with (go_at_call 16; refine CHj.mono ?_; rintro e w3 ⟨rfl, rfl⟩)
                    clear CHj
                    go_wp2_with (first | (go_at_call 16; refine CHk.mono ?_; rintro e w3 ⟨rfl, rfl⟩) | (go_at_call 17; refine CWj.mono ?_; rintro e w3 ⟨rfl, rfl⟩))
                    go_roundg (gk - 1)
                    case measure => have := HJ.out; omega
                    case rel => have := HJ.out; have := HJJ.out; exact ⟨j + 1, 1, by simp, by simp, by simp, by omega, by omega, rfl⟩
                · rw [if_neg hjj] at hv
                  have HJJ := Aside0.mk hjj
                  clear hjj
                  rw [hv] at CHj
                  cases hw : waitK s2.w (j : Int) with
                  | none =>
                    rw [hw] at CWj
                    clear hw hv
                    go_wp2_with (first | (go_at_call 16; refine CHj.mono ?_; rintro e w3 ⟨rfl, rfl⟩) | (go_at_call 17; refine CWj.mono ?_; rintro e w3 ⟨rfl, rfl⟩))
                    go_roundg (gk - 1)
                    case measure => have := HJ.out; omega
                    case rel => have := HJ.out; have := HJJ.out; exact ⟨j + 1, m, by simp, by simp, by simp, by omega, by omega, rfl⟩
                  | some key =>
                    rw [hw] at CWj
                    have hne := HWv.out (j : Int) key hw
                    have CHk := CH.out (j : Int) key
                    generalize holdsA s2 (j : Int) key = v2 at hne CHk
                    have q2 : (v2 == 2) = false := by simpa using hne
                    have q3 : (v2 = 2) = False := eq_false hne
                    clear hw hv hne
                    go_upto_region 25 with (go_at_call 16; refine CHj.mono ?_; rintro e w3 ⟨rfl, rfl⟩)
                    clear CHj
                    go_wp2_with (first | (go_at_call 16; refine CHk.mono ?_; rintro e w3 ⟨rfl, rfl⟩) | (go_at_call 17; refine CWj.mono ?_; rintro e w3 ⟨rfl, rfl⟩))
                    go_roundg (gk - 1)
                    case measure => have := HJ.out; omega
                    case rel => have := HJ.out; have := HJJ.out; exact ⟨j + 1, m, by simp, by simp, by simp, by omega, by omega, rfl⟩
              · have q1 : ((j : Int) ≤ 20) = False := eq_false (by omega)
                have hm2 : m = 0 ∨ m = 1 := by omega
                clear hj hjk hmj
                rcases hm2 with rfl | rfl
                all_goals
                  go_wp2
                  go_roundg (g1 - 1)
                  case measure => have := HI.out; omega
                  case rel => exact ⟨i + 1, s2, b2, by simp, by have := HI.out; omega, UT2, HS2⟩
      · go_wp2_with fail
        all_goals first
          | (go_ret; exact ⟨rfl, (E1.alloc _).below0⟩)
          | (exfalso; omega)
    · have p1 : ((i : Int) < (l.length : Int)) = False := eq_false (by omega)
      obtain rfl : i = l.length := by omega
      clear hi hik
      have HB := Aside0.mk (Bd.start HS.out.1)
      obtain ⟨g1, rfl⟩ : ∃ g1 : Nat, g1 = gk := ⟨_, rfl⟩
      obtain ⟨w0, rfl⟩ : ∃ w0 : World, w0 = wr := ⟨_, rfl⟩
      go_wp2_with fail
      go_loopg [11] 21 (fun k s11 wr => ∃ (j : Nat) (s : St ByteArray), s11 = .int .i64 (j : Int) ∧ j + k = 21 ∧ UT w1 (fun _ => False) w1.heap.size b s wr ∧ Aside0 (Z s ∧ Ok l.length s ∧ s.k.length ≤ l.length ∧ Bd (fun t => (j : Int) ≤ t) s))
      case atStart => exact ⟨0, s, rfl, by omega, U1, Aside0.mk ⟨HS.out.1, HS.out.2.1, HS.out.2.2, HB.out⟩⟩
      case round =>
        obtain ⟨j, s2, rfl, hjk, U2, H2⟩ := hrel
        by_cases hj : j < 21
        · have q1 : ((j : Int) ≤ 20) = True := eq_true (by omega)
          have CR := release_calls U2 (H2.out.2.1.mono (by omega)) (j : Int) (by have := held_len (stopA s2 j) j; have := stop_len s2 j; have := H2.out.2.2.1; omega)
          have HJ := Aside0.mk (And.intro hjk hj)
          have hj9 : j < 900 := by omega
          clear hj hjk
          go_wp2_with (go_at_call 15; refine CR.mono ?_; rintro e w3 ⟨rfl, U3⟩)
          go_roundg (gk - 1)
          case measure => have := HJ.out; omega
          case rel => exact ⟨j + 1, relA s2 j, by simp, by have := HJ.out; omega, U3, Aside0.mk ⟨H2.out.1.rel _, H2.out.2.1.rel _, Nat.le_trans (rel_len _ _) H2.out.2.2.1, by have := Bd.rel H2.out.1 H2.out.2.2.2; simpa using this⟩⟩
        · have q1 : ((j : Int) ≤ 20) = False := eq_false (by omega)
          obtain rfl : j = 21 := by omega
          obtain ⟨e0, e2, e3⟩ := Bd.end_ H2.out.1 H2.out.2.2.2
          have HE := Aside0.mk (And.intro e0 (And.intro e2 e3))
          clear hj hjk e0 e2 e3
          obtain ⟨g2, rfl⟩ : ∃ g2 : Nat, g2 = gk := ⟨_, rfl⟩
          obtain ⟨w4, rfl⟩ : ∃ w4 : World, w4 = wr := ⟨_, rfl⟩
          go_wp2_with fail
          go_loopg [12] 21 (fun k s12 wr => ∃ (j : Nat), s12 = .int .i64 (j : Int) ∧ j + k = 21 ∧ UT w1 (fun _ => False) w1.heap.size b s2 wr)
          case atStart => exact ⟨0, rfl, by omega, U2⟩
          case round =>
            obtain ⟨j, rfl, hjk, U3⟩ := hrel
            by_cases hj : j < 21
            · have q3 : ((j : Int) ≤ 20) = True := eq_true (by omega)
              have CW := u_waits U3 (j : Int)
              have hw : waitK s2.w (j : Int) = none := by rw [HE.out.1]; rfl
              rw [hw] at CW
              have CK : Calls Try.prog 18 #[.pointer (some ⟨w1.heap.size, 0, none⟩), .int .i64 (j : Int)] wr fun e w' => ∃ A c, e = .returned (.slice A 0 c) ∧ UT w1 (fun _ => False) w1.heap.size b s2 w' := by
                refine (u_keys U3 (j : Int) (by rw [HE.out.2.1]; decide)).mono ?_
                rintro e w' ⟨v, ys, rfl, A3⟩
                obtain ⟨h1, _, h3⟩ := A3.out
                obtain ⟨A, c, hv, _⟩ := Upd.rowS h3
                rw [h1.length_eq, HE.out.2.1] at hv
                exact ⟨A, c, by rw [hv]; rfl, u_drop h3⟩
              have HJ := Aside0.mk (And.intro hjk hj)
              have hj9 : j < 900 := by omega
              clear hj hjk hw
              go_wp2_with (first | (go_at_call 17; refine CW.mono ?_; rintro e w5 ⟨rfl, rfl⟩) | (go_at_call 18; refine CK.mono ?_; rintro e w5 ⟨A5, c5, rfl, U5⟩))
              go_roundg (gk - 1)
              case measure => have := HJ.out; omega
              case rel => exact ⟨j + 1, by simp, by have := HJ.out; omega, U5⟩
            · have q3 : ((j : Int) ≤ 20) = False := eq_false (by omega)
              have he : edgesA s2 = [] := by unfold edgesA; rw [HE.out.2.2]; rfl
              have CE := Aside0.mk (u_edges U3 (H2.out.2.1.mono (by omega)) (by rw [HE.out.2.2]; decide))
              rw [he] at CE
              clear hj hjk he
              go_wp2_with (go_at_call 19; refine CE.out.mono ?_; rintro e w2 ⟨A5, c5, rfl, A2⟩)
              go_ret
              exact ⟨rfl, (e1.out.trans (u_eff (u_drop A2.out)) (fun _ h => h.elim)).below0⟩
end Go.Proofs.Ytlakklaaapfpeaa.Pure
