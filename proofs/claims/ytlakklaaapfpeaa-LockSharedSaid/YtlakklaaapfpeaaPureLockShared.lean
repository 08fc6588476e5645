/- As many as like share a key; who wants all of it waits for all others; when these release it is had (LockShared). Conditions: none beyond the given row's own. -/
import Derived.Test.YtlakklaaapfpeaaProg
import Derived.BigRegion
import Derived.BigQuiet
import Derived.Deep.QuietTactic
import Derived.Deep.AppendLies
import Derived.ChangeAlike
import Derived.Outline
import Derived.WalkKit
import Derived.KernelRfl
import Derived.Deep.LoopGhost
import Derived.Deep.RegionLaw
import Derived.Test.YtlakklaaapfpeaaWMore
import Derived.Test.YtlakklaaapfpeaaWKept
import Derived.Test.YtlakklaaapfpeaaLSep
import Derived.Test.YtlakklaaapfpeaaMx
import Derived.Test.YtlakklaaapfpeaaK4
namespace Go.Proofs.Ytlakklaaapfpeaa.Pure
open Go Go.RowKit Go.Proofs.YtlakklaaapfpeaaW.PrintWords Go.Proofs.YtlakklaaapfpeaaW.PrintLast Go.Proofs.YtlakklaaapfpeaaW.PrintMore Go.Proofs.Ytlakklaaapfpeaa.L Go.Proofs.Ytlakklaaapfpeaa.M Go.Proofs.Ytlakklaaapfpeaa.LK
set_option linter.unusedVariables false
set_option linter.unusedSimpArgs false
/-- k that share, then one that wants all, and one that shares. -/
def Sh : Nat → St Unit
  | 0 => ⟨[], []⟩
  | k + 1 => (askA (Sh k) ((k : Int) + 1) () false).1
def ShW (n : Nat) : St Unit := (askA (Sh n) 99 () true).1
def ShX (n : Nat) : St Unit := (askA (ShW n) 98 () false).1
def ShR (n : Nat) : Nat → St Unit
  | 0 => ShX n
  | k + 1 => relA (ShR n k) ((k : Int) + 1)
theorem sh_ask : ∀ k < 20, (askA (Sh k) ((k : Int) + 1) () false).2 = true := by decide +kernel
theorem sh_w : ∀ n < 21, 1 ≤ n → (askA (Sh n) 99 () true).2 = false := by decide +kernel
theorem sh_x : ∀ n < 21, 1 ≤ n → (askA (ShW n) 98 () false).2 = false := by decide +kernel
theorem sh_h : ∀ n < 21, 1 ≤ n → ∀ k < n, holdsA (ShR n k) 99 () = 0 := by decide +kernel
theorem sh_r : ∀ n < 21, 1 ≤ n → ∀ k < n, (heldA (stopA (ShR n k) ((k : Int) + 1)) ((k : Int) + 1)).length = 1 := by decide +kernel
theorem sh_e : ∀ n < 21, 1 ≤ n → holdsA (ShR n n) 99 () = 2 ∧ holdsA (ShR n n) 98 () = 0 ∧ (heldA (stopA (ShR n n) 99) 99).length = 1 ∧ holdsA (relA (ShR n n) 99) 98 () = 1 := by decide +kernel
set_option maxHeartbeats 1600000 in
set_option maxRecDepth 100000 in
theorem LockShared_out (n : Int) (key : ByteArray) (w : World) (h : n < 1 ∨ 20 < n ∨ 40 < (key.size : Int)) (h1 : (Lit.int .i64 n).wf = true) (h2 : key.size ≤ 140737488351232) :
    Calls Try.prog 4 #[.int .i64 n, .string key] w fun e w' => e = .returned (.bool true) ∧ Below w.heap.size w w' := by
  have CA := fun W => alive_calls W
  rcases h with h | h | h
  all_goals
    go_enter Try.func4, Try.ntmps4
    go_wp2_with (go_at_call 12; refine (CA _).mono ?_; rintro e w1 ⟨rfl, e1⟩)
    all_goals go_ret
    all_goals exact ⟨rfl, e1.out.below0⟩
set_option maxHeartbeats 1600000 in
set_option maxRecDepth 100000 in
theorem LockShared_walk (n : Int) (key : ByteArray) (w : World) (h1 : (Lit.int .i64 n).wf = true) (h2 : key.size ≤ 140737488351232) :
    Calls Try.prog 4 #[.int .i64 n, .string key] w fun e w' => e = .returned (.bool true) ∧ Below w.heap.size w w' := by
  by_cases ho : n < 1 ∨ 20 < n ∨ 40 < (key.size : Int)
  · exact LockShared_out n key w ho h1 h2
  have hn1 : ¬ n < 1 := fun h => ho (.inl h)
  have hn2 : ¬ 20 < n := fun h => ho (.inr (.inl h))
  have hn3 : ¬ 40 < (key.size : Int) := fun h => ho (.inr (.inr h))
  obtain ⟨m, rfl⟩ : ∃ m : Nat, n = (m : Int) := ⟨n.toNat, by omega⟩
  have hm1 : 1 ≤ m := by omega
  have hm2 : m < 21 := by omega
  have CA := fun W => alive_calls W
  clear ho h1
  go_enter Try.func4, Try.ntmps4
  go_wp2_with (go_at_call 12; refine (CA _).mono ?_; rintro e w1 ⟨rfl, e1⟩)
  have U0 := l_new w1 (un key)
  have HM := Aside0.mk (And.intro hm1 (And.intro hm2 e1.out))
  clear hn1 hn3 e1 CA hm1
  go_loopg [6] m (fun k s6 wr => ∃ (j : Nat) (b : Bool), s6 = .int .i64 ((j : Int) + 1) ∧ j + k = m ∧ UL w1 (fun _ => False) w1.heap.size b (un key) (Sh j) j wr)
  case atStart => exact ⟨0, false, by simp, by omega, U0⟩
  case round =>
    obtain ⟨j, b, rfl, hjk, U1⟩ := hrel
    by_cases hj : j < m
    · have p1 : ((j : Int) + 1 ≤ (m : Int)) = True := eq_true (by omega)
      have hq := sh_ask j (by omega)
      have hN : j ≤ 899998 := by omega
      have HJ := Aside0.mk (And.intro hj hq)
      clear hj hq
      go_wp2_with fail
      refine (l_ask (un_inj key) U1 hN ((j : Int) + 1) () false (s' := Sh (j + 1)) (r := true) (Prod.ext rfl HJ.out.2)).mono ?_
      rintro e w2 ⟨rfl, U2⟩
      go_wp2_with fail
      go_roundg (gk - 1)
      case measure => have := HJ.out.1; omega
      case rel => exact ⟨j + 1, true, by simp, by have := HJ.out.1; omega, U2⟩
    · have p1 : ((j : Int) + 1 ≤ (m : Int)) = False := eq_false (by omega)
      obtain rfl : j = m := by omega
      have hN : j ≤ 899990 := by omega
      clear hj
      go_wp2_with fail
      refine (l_ask (un_inj key) U1 (by omega) 99 () true (s' := ShW j) (r := false) (Prod.ext rfl (sh_w j HM.out.2.1 HM.out.1))).mono ?_
      rintro e w2 ⟨rfl, U2⟩
      clear U1
      go_wp2_with fail
      refine (l_ask (un_inj key) U2 (by omega) 98 () false (s' := ShX j) (r := false) (Prod.ext rfl (sh_x j HM.out.2.1 HM.out.1))).mono ?_
      rintro e w3 ⟨rfl, U3⟩
      clear U2
      go_wp2_with fail
      go_loopg [7] j (fun k s7 wr => ∃ i : Nat, s7 = .int .i64 ((i : Int) + 1) ∧ i + k = j ∧ UL w1 (fun _ => False) w1.heap.size true (un key) (ShR j i) (j + 1 + 1) wr)
      case atStart => exact ⟨0, by simp, by omega, U3⟩
      case round =>
        obtain ⟨i, rfl, hik, U4⟩ := hrel
        by_cases hi : i < j
        · have p2 : ((i : Int) + 1 ≤ (j : Int)) = True := eq_true (by omega)
          have HI := Aside0.mk hi
          clear hi
          go_wp2_with fail
          refine (l_holds (un_inj key) U4 99 () (sh_h j HM.out.2.1 HM.out.1 i HI.out)).mono ?_
          rintro e w4 ⟨rfl, rfl⟩
          go_wp2_with fail
          refine (l_release (un_inj key) U4 (by omega) ((i : Int) + 1) (s' := ShR j (i + 1)) rfl (k := 1) (sh_r j HM.out.2.1 HM.out.1 i HI.out) (by decide)).mono ?_
          rintro e w5 ⟨rfl, U5⟩
          go_wp2_with fail
          go_roundg (gk - 1)
          case measure => have := HI.out; omega
          case rel => exact ⟨i + 1, by simp, by have := HI.out; omega, U5⟩
        · have p2 : ((i : Int) + 1 ≤ (j : Int)) = False := eq_false (by omega)
          obtain rfl : i = j := by omega
          have hE := Aside0.mk (sh_e i HM.out.2.1 HM.out.1)
          clear hi
          go_wp2_with fail
          refine (l_holds (un_inj key) U4 99 () hE.out.1).mono ?_
          rintro e w4 ⟨rfl, rfl⟩
          go_wp2_with fail
          refine (l_holds (un_inj key) U4 98 () hE.out.2.1).mono ?_
          rintro e w4' ⟨rfl, rfl⟩
          go_wp2_with fail
          refine (l_release (un_inj key) U4 (by omega) 99 rfl (k := 1) hE.out.2.2.1 (by decide)).mono ?_
          rintro e w5 ⟨rfl, U5⟩
          go_wp2_with fail
          refine (l_holds (un_inj key) U5 98 () hE.out.2.2.2).mono ?_
          rintro e w6 ⟨rfl, rfl⟩
          go_wp2_with fail
          go_ret
          exact ⟨rfl, (HM.out.2.2.trans (l_eff U5) (fun _ h => h.elim)).below0⟩
end Go.Proofs.Ytlakklaaapfpeaa.Pure
