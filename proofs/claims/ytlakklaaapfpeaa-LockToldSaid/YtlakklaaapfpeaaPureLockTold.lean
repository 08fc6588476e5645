/- Who waits for one waits for each that holds what it wants, and for all ahead of it (LockTold). Conditions: none beyond the given row's own. -/
import Derived.Test.YtlakklaaapfpeaaProg
import Derived.BigRegion
import Derived.BigQuiet
import Derived.Deep.QuietTactic
import Derived.Deep.AppendLies
import Derived.ChangeAlike
import Derived.Outline
import Derived.WalkKit
import Derived.KernelRfl
import Derived.Deep.LoopGhost
import Derived.Deep.RegionLaw
import Derived.Test.YtlakklaaapfpeaaWMore
import Derived.Test.YtlakklaaapfpeaaWKept
import Derived.Test.YtlakklaaapfpeaaLSep
import Derived.Test.YtlakklaaapfpeaaMx
import Derived.Test.YtlakklaaapfpeaaK4
namespace Go.Proofs.Ytlakklaaapfpeaa.Pure
open Go Go.RowKit Go.Proofs.YtlakklaaapfpeaaW.PrintWords Go.Proofs.YtlakklaaapfpeaaW.PrintLast Go.Proofs.YtlakklaaapfpeaaW.PrintMore Go.Proofs.Ytlakklaaapfpeaa.L Go.Proofs.Ytlakklaaapfpeaa.M Go.Proofs.Ytlakklaaapfpeaa.LK
set_option linter.unusedVariables false
set_option linter.unusedSimpArgs false
abbrev kk : ByteArray := ⟨#[107]⟩
def Fi : Nat → St Unit
  | 0 => (askA ⟨[], []⟩ 0 () true).1
  | k + 1 => (askA (Fi k) ((k : Int) + 1) () true).1
theorem fi_0 : (askA (⟨[], []⟩ : St Unit) 0 () true).2 = true := by decide
theorem fi_ask : ∀ k < 20, (askA (Fi k) ((k : Int) + 1) () true).2 = false := by decide +kernel
theorem fi_w : ∀ k < 13, waitK (Fi (k + 1)).w ((k : Int) + 1) = some () := by decide +kernel
theorem fi_h : ∀ k < 13, holdsA (Fi (k + 1)) ((k : Int) + 1) () = 0 := by decide +kernel
theorem fi_p : ∀ m < 13, (pairsA (Fi m)).length < 900000 := by decide +kernel
theorem fi_l : ∀ m < 13, (edgesA (Fi m)).length = m * (m + 1) / 2 := by decide +kernel
theorem fi_x : ∀ m < 13, ∀ p ∈ edgesA (Fi m), p.2 < p.1 := by decide +kernel
theorem fi_k : ∀ m < 13, 1 ≤ m → (heldA (Fi m) 0).length = 1 ∧ (heldA (Fi m) 1).length = 0 := by decide +kernel
set_option maxHeartbeats 1600000 in
set_option maxRecDepth 100000 in
theorem LockTold_out (n : Int) (w : World) (h : n < 1 ∨ 12 < n) (h1 : (Lit.int .i64 n).wf = true) :
    Calls Try.prog 7 #[.int .i64 n] w fun e w' => e = .returned (.bool true) ∧ Below w.heap.size w w' := by
  have CA := fun W => alive_calls W
  rcases h with h | h
  all_goals
    go_enter Try.func7, Try.ntmps7
    go_wp2_with (go_at_call 12; refine (CA _).mono ?_; rintro e w1 ⟨rfl, e1⟩)
    all_goals go_ret
    all_goals exact ⟨rfl, e1.out.below0⟩
set_option maxHeartbeats 1600000 in
set_option maxRecDepth 100000 in
theorem LockTold_walk (n : Int) (w : World) (h1 : (Lit.int .i64 n).wf = true) :
    Calls Try.prog 7 #[.int .i64 n] w fun e w' => e = .returned (.bool true) ∧ Below w.heap.size w w' := by
  by_cases ho : n < 1 ∨ 12 < n
  · exact LockTold_out n w ho h1
  have hn1 : ¬ n < 1 := fun h => ho (.inl h)
  have hn2 : ¬ 12 < n := fun h => ho (.inr h)
  obtain ⟨m, rfl⟩ : ∃ m : Nat, n = (m : Int) := ⟨n.toNat, by omega⟩
  have hm1 : 1 ≤ m := by omega
  have hm2 : m < 13 := by omega
  have CA := fun W => alive_calls W
  clear ho h1
  go_enter Try.func7, Try.ntmps7
  go_wp2_with (go_at_call 12; refine (CA _).mono ?_; rintro e w1 ⟨rfl, e1⟩)
  refine (l_ask (un_inj kk) (l_new w1 (un kk)) (by decide) 0 () true (s' := Fi 0) (r := true) (Prod.ext rfl fi_0)).mono ?_
  rintro e w2 ⟨rfl, U0⟩
  go_wp2_with fail
  have HM := Aside0.mk (And.intro hm1 (And.intro hm2 e1.out))
  clear hn1 e1 CA
  go_loopg [4] m (fun k s4 wr => ∃ (j : Nat), s4 = .int .i64 ((j : Int) + 1) ∧ j + k = m ∧ UL w1 (fun _ => False) w1.heap.size true (un kk) (Fi j) (j + 1) wr)
  case atStart => exact ⟨0, by simp, by omega, U0⟩
  case round =>
    obtain ⟨j, rfl, hjk, U1⟩ := hrel
    by_cases hj : j < m
    · have p1 : ((j : Int) + 1 ≤ (m : Int)) = True := eq_true (by omega)
      have hq := fi_ask j (by omega)
      have hw := fi_w j (by omega)
      have hh := fi_h j (by omega)
      have hN : j + 1 ≤ 899998 := by omega
      have HJ := Aside0.mk (And.intro hj (And.intro hq (And.intro hw hh)))
      clear hj hq hw hh
      go_wp2_with fail
      refine (l_ask (un_inj kk) U1 hN ((j : Int) + 1) () true (s' := Fi (j + 1)) (r := false) (Prod.ext rfl HJ.out.2.1)).mono ?_
      rintro e w2 ⟨rfl, U2⟩
      have CW : Calls Try.prog 17 #[.pointer (some ⟨w1.heap.size, 0, none⟩), .int .i64 ((j : Int) + 1)] w2 fun e w' => e = .returned (.tuple #[.string ⟨#[107]⟩, .bool true]) ∧ w' = w2 := l_waits U2 ((j : Int) + 1) HJ.out.2.2.1
      go_wp2_with fail
      refine CW.mono ?_
      rintro e w3 ⟨rfl, rfl⟩
      go_wp2_with fail
      refine (l_holds (un_inj kk) U2 ((j : Int) + 1) () HJ.out.2.2.2).mono ?_
      rintro e w4 ⟨rfl, rfl⟩
      go_wp2_with fail
      go_roundg (gk - 1)
      case measure => have := HJ.out.1; omega
      case rel => exact ⟨j + 1, by simp, by have := HJ.out.1; omega, U2⟩
    · have p1 : ((j : Int) + 1 ≤ (m : Int)) = False := eq_false (by omega)
      obtain rfl : j = m := by omega
      clear hj
      have hL := fi_l j hm2
      have hP := fi_p j hm2
      have hx := Aside0.mk (fi_x j hm2)
      have hk := Aside0.mk (fi_k j hm2 HM.out.1)
      obtain ⟨l, hl⟩ : ∃ l, edgesA (Fi j) = l := ⟨_, rfl⟩
      rw [hl] at hL hx
      obtain ⟨q, hq⟩ : ∃ q, q = j * (j + 1) := ⟨_, rfl⟩
      have hq2 : q < 1000 := by
        have := Nat.mul_le_mul (show j ≤ 12 by omega) (show j + 1 ≤ 13 by omega)
        omega
      have e1 : (j : Int) * ((j : Int) + 1) = (q : Int) := by rw [hq]; push_cast; rfl
      have e2 : (q : Int) / 2 = (l.length : Int) := by rw [hL, ← hq]; omega
      have hll : l.length < 1000 := by rw [hL, ← hq]; omega
      have HE := Aside0.mk hl
      have HP1 := Aside0.mk hP
      clear hl hL hq hP
      go_wp2_with fail
      refine (l_edges (un_inj kk) U1 (by omega) HP1.out HE.out).mono ?_
      rintro e w3 ⟨A, c, rfl, U3, C3⟩
      clear U1
      go_wp2_with fail
      go_loopg [63] l.length (fun k s63 wr => ∃ i : Nat, s63 = .int .i64 (i : Int) ∧ i + k = l.length ∧ Aside0 (Eff0 w3 wr))
      case atStart => exact ⟨0, rfl, by omega, Aside0.mk (Eff.refl _ _)⟩
      case round =>
        obtain ⟨i, rfl, hik, E3⟩ := hrel
        by_cases hi : i < l.length
        · have p2 : ((i : Int) < (l.length : Int)) = True := eq_true (by omega)
          obtain ⟨ad, rfl, x0, x1⟩ := at_P (Kd.C_below C3.out E3.out.below0) i hi
          have hlt := hx.out (l.getD i default) (by rw [List.getD_eq_getElem?_getD, List.getElem?_eq_getElem hi]; exact List.getElem_mem hi)
          generalize l.getD i default = p at *
          obtain ⟨a, b⟩ := p
          dsimp only at x0 x1 hlt
          have q1 : (a ≤ b) = False := eq_false (by omega)
          have q2 : (b ≥ a) = False := eq_false (by omega)
          have HI := Aside0.mk (And.intro hi hik)
          have hii : i < 900000 := by omega
          clear hi hlt hik
          go_wp2_with fail
          go_roundg (gk - 1)
          case measure => have := HI.out; omega
          case rel => exact ⟨i + 1, by simp, by have := HI.out; omega, Aside0.mk (E3.out.alloc _)⟩
        · have p2 : ((i : Int) < (l.length : Int)) = False := eq_false (by omega)
          clear hi
          have U4 := l_after U3 E3.out
          clear U3 e1 e2
          go_wp2_with fail
          refine (l_keys (un_inj kk) U4 0 hk.out.1 (by decide)).mono ?_
          rintro e w5 ⟨A5, c5, rfl, U5⟩
          go_wp2_with fail
          refine (l_keys (un_inj kk) U5 1 hk.out.2 (by decide)).mono ?_
          rintro e w6 ⟨A6, c6, rfl, U6⟩
          go_wp2_with fail
          go_ret
          exact ⟨rfl, (HM.out.2.2.trans (l_eff U6) (fun _ h => h.elim)).below0⟩
end Go.Proofs.Ytlakklaaapfpeaa.Pure
