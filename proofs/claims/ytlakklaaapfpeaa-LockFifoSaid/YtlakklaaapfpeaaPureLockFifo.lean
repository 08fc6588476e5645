/- Those that wait for all of a key have it one by one, in the order in which they asked; one that goes away is passed by (LockFifo). Conditions: none beyond the given row's own. -/
import Derived.Test.YtlakklaaapfpeaaProg
import Derived.BigRegion
import Derived.BigQuiet
import Derived.Deep.QuietTactic
import Derived.Deep.AppendLies
import Derived.ChangeAlike
import Derived.Outline
import Derived.WalkKit
import Derived.KernelRfl
import Derived.Deep.LoopGhost
import Derived.Deep.RegionLaw
import Derived.Test.YtlakklaaapfpeaaWMore
import Derived.Test.YtlakklaaapfpeaaWKept
import Derived.Test.YtlakklaaapfpeaaLSep
import Derived.Test.YtlakklaaapfpeaaMx
import Derived.Test.YtlakklaaapfpeaaK4
namespace Go.Proofs.Ytlakklaaapfpeaa.Pure
open Go Go.RowKit Go.Proofs.YtlakklaaapfpeaaW.PrintWords Go.Proofs.YtlakklaaapfpeaaW.PrintLast Go.Proofs.YtlakklaaapfpeaaW.PrintMore Go.Proofs.Ytlakklaaapfpeaa.L Go.Proofs.Ytlakklaaapfpeaa.M Go.Proofs.Ytlakklaaapfpeaa.LK
set_option linter.unusedVariables false
set_option linter.unusedSimpArgs false
abbrev kk : ByteArray := ⟨#[107]⟩
def Fi : Nat → St Unit
  | 0 => (askA ⟨[], []⟩ 0 () true).1
  | k + 1 => (askA (Fi k) ((k : Int) + 1) () true).1
def FiS (n a : Nat) : St Unit := stopA (Fi n) (a : Int)
/-- Behind the rounds up to k, without a: the table, and who has the key. -/
def FiR (n a : Nat) : Nat → St Unit × Nat
  | 0 => (FiS n a, 0)
  | k + 1 => if k + 1 = a then FiR n a k else (relA (FiR n a k).1 ((FiR n a k).2 : Int), k + 1)
theorem fi_0 : (askA (⟨[], []⟩ : St Unit) 0 () true).2 = true := by decide
theorem fi_ask : ∀ k < 20, (askA (Fi k) ((k : Int) + 1) () true).2 = false := by decide +kernel
theorem fi_s : ∀ n < 21, ∀ a < 21, 1 ≤ a → a ≤ n → (waitK (Fi n).w (a : Int)).isSome = true ∧ waitK (FiS n a).w (a : Int) = none := by decide +kernel
def fi_rB (n a k : Nat) : Bool := k + 1 == a || ((heldA (stopA (FiR n a k).1 ((FiR n a k).2 : Int)) ((FiR n a k).2 : Int)).length == 1 && holdsA (FiR n a (k + 1)).1 ((k : Int) + 1) () == 2)
def fi_chk : Bool := (List.range 21).all (fun n => (List.range (n + 1)).all (fun a => a == 0 || (List.range n).all (fi_rB n a)))
theorem fi_ok : fi_chk = true := by decide +kernel
theorem fi_r (n : Nat) (hn : n < 21) (a : Nat) (h1 : 1 ≤ a) (h2 : a ≤ n) (k : Nat) (hk : k < n) (hne : k + 1 ≠ a) : (heldA (stopA (FiR n a k).1 ((FiR n a k).2 : Int)) ((FiR n a k).2 : Int)).length = 1 ∧ holdsA (FiR n a (k + 1)).1 ((k : Int) + 1) () = 2 := by
  have h3 := List.all_eq_true.1 fi_ok n (List.mem_range.2 hn)
  have h4 := List.all_eq_true.1 h3 a (List.mem_range.2 (by omega))
  simp only [Bool.or_eq_true, beq_iff_eq] at h4
  rcases h4 with h4 | h4
  · omega
  · have h5 := List.all_eq_true.1 h4 k (List.mem_range.2 hk)
    unfold fi_rB at h5
    simp only [Bool.or_eq_true, Bool.and_eq_true, beq_iff_eq] at h5
    exact h5.resolve_left hne
theorem fi_e : ∀ n < 21, ∀ a < 21, 1 ≤ a → a ≤ n → (heldA (stopA (FiR n a n).1 ((FiR n a n).2 : Int)) ((FiR n a n).2 : Int)).length = 1 ∧ holdsA (relA (FiR n a n).1 ((FiR n a n).2 : Int)) (a : Int) () = 0 ∧ pairsA (relA (FiR n a n).1 ((FiR n a n).2 : Int)) = [] := by decide +kernel
set_option maxHeartbeats 1600000 in
set_option maxRecDepth 100000 in
theorem LockFifo_out (n away : Int) (w : World) (h : n < 1 ∨ 20 < n) (h1 : (Lit.int .i64 n).wf = true) (h2 : (Lit.int .i64 away).wf = true) :
    Calls Try.prog 5 #[.int .i64 n, .int .i64 away] w fun e w' => e = .returned (.bool true) ∧ Below w.heap.size w w' := by
  have CA := fun W => alive_calls W
  rcases h with h | h
  all_goals
    go_enter Try.func5, Try.ntmps5
    go_wp2_with (go_at_call 12; refine (CA _).mono ?_; rintro e w1 ⟨rfl, e1⟩)
    all_goals go_ret
    all_goals exact ⟨rfl, e1.out.below0⟩
theorem away_in (away : Int) (m : Nat) (hm : 1 ≤ m) (hm2 : m < 21) : ∃ a : Nat, wrap64 (1 + away.tmod (m : Int) % (m : Int)) = (a : Int) ∧ 1 ≤ a ∧ a ≤ m ∧ -(m : Int) < away.tmod (m : Int) ∧ away.tmod (m : Int) < (m : Int) := by
  have h1 : away.tmod (m : Int) < (m : Int) := Int.tmod_lt_of_pos away (by omega)
  have h2 : -(m : Int) < away.tmod (m : Int) := Int.lt_tmod_of_pos away (by omega)
  have h3 := Int.emod_nonneg (away.tmod (m : Int)) (b := (m : Int)) (by omega)
  have h4 := Int.emod_lt_of_pos (away.tmod (m : Int)) (b := (m : Int)) (by omega)
  generalize away.tmod (m : Int) = t at *
  generalize t % (m : Int) = r at *
  exact ⟨(1 + r).toNat, by unfold wrap64; omega, by omega, by omega, h2, h1⟩
set_option maxHeartbeats 1600000 in
set_option maxRecDepth 100000 in
theorem LockFifo_walk (n away : Int) (w : World) (h1 : (Lit.int .i64 n).wf = true) (h2 : (Lit.int .i64 away).wf = true) :
    Calls Try.prog 5 #[.int .i64 n, .int .i64 away] w fun e w' => e = .returned (.bool true) ∧ Below w.heap.size w w' := by
  by_cases ho : n < 1 ∨ 20 < n
  · exact LockFifo_out n away w ho h1 h2
  have hn1 : ¬ n < 1 := fun h => ho (.inl h)
  have hn2 : ¬ 20 < n := fun h => ho (.inr h)
  obtain ⟨m, rfl⟩ : ∃ m : Nat, n = (m : Int) := ⟨n.toNat, by omega⟩
  have hm1 : 1 ≤ m := by omega
  have hm2 : m < 21 := by omega
  obtain ⟨a, ha, ha1, ha2, ha3, ha4⟩ := away_in away m hm1 hm2
  have CA := fun W => alive_calls W
  have HA := Aside0.mk (And.intro ha (And.intro ha1 ha2))
  clear ho h1 ha ha1 ha2
  go_enter Try.func5, Try.ntmps5
  go_wp2_with (go_at_call 12; refine (CA _).mono ?_; rintro e w1 ⟨rfl, e1⟩)
  refine (l_ask (un_inj kk) (l_new w1 (un kk)) (by decide) 0 () true (s' := Fi 0) (r := true) (Prod.ext rfl fi_0)).mono ?_
  rintro e w2 ⟨rfl, U0⟩
  go_wp2_with fail
  have HM := Aside0.mk (And.intro hm1 (And.intro hm2 e1.out))
  clear hn1 e1 CA
  go_loopg [6] m (fun k s6 wr => ∃ (j : Nat), s6 = .int .i64 ((j : Int) + 1) ∧ j + k = m ∧ UL w1 (fun _ => False) w1.heap.size true (un kk) (Fi j) (j + 1) wr)
  case atStart => exact ⟨0, by simp, by omega, U0⟩
  case round =>
    obtain ⟨j, rfl, hjk, U1⟩ := hrel
    by_cases hj : j < m
    · have p1 : ((j : Int) + 1 ≤ (m : Int)) = True := eq_true (by omega)
      have hq := fi_ask j (by omega)
      have hN : j + 1 ≤ 899998 := by omega
      have HJ := Aside0.mk (And.intro hj hq)
      clear hj hq
      go_wp2_with fail
      refine (l_ask (un_inj kk) U1 hN ((j : Int) + 1) () true (s' := Fi (j + 1)) (r := false) (Prod.ext rfl HJ.out.2)).mono ?_
      rintro e w2 ⟨rfl, U2⟩
      go_wp2_with fail
      go_roundg (gk - 1)
      case measure => have := HJ.out.1; omega
      case rel => exact ⟨j + 1, by simp, by have := HJ.out.1; omega, U2⟩
    · have p1 : ((j : Int) + 1 ≤ (m : Int)) = False := eq_false (by omega)
      obtain rfl : j = m := by omega
      clear hj
      have q0 : ((j : Int) = 0) = False := eq_false (by omega)
      go_upto_region 12 with (fail)
      rw [HA.out.1]
      have hs := Aside0.mk (fi_s j (by omega) a (by have := HA.out.2; omega) HA.out.2.1 HA.out.2.2)
      have ha9 : a < 900000 := by have := HA.out.2; omega
      go_wp2_with fail
      refine (l_stop (un_inj kk) U1 (by omega) (a : Int) (s' := FiS j a) rfl hs.out.1).mono ?_
      rintro e w3 ⟨rfl, U2⟩
      go_wp2_with fail
      refine (l_stop (un_inj kk) U2 (by omega) (a : Int) (s' := FiS j a) (by unfold stopA; rw [hs.out.2]) (r := false) (by rw [hs.out.2]; rfl)).mono ?_
      rintro e w4 ⟨rfl, U3⟩
      clear U1 U2 q0 ha3 ha4
      go_wp2_with fail
      go_loopg [8, 9] j (fun k s8 s9 wr => ∃ i : Nat, s8 = .int .i64 ((FiR j a i).2 : Int) ∧ s9 = .int .i64 ((i : Int) + 1) ∧ i + k = j ∧ UL w1 (fun _ => False) w1.heap.size true (un kk) (FiR j a i).1 (j + 1) wr)
      case atStart => exact ⟨0, by simp [FiR], by simp, by omega, U3⟩
      case round =>
        obtain ⟨i, rfl, rfl, hik, U4⟩ := hrel
        by_cases hi : i < j
        · have p2 : ((i : Int) + 1 ≤ (j : Int)) = True := eq_true (by omega)
          by_cases hia : i + 1 = a
          · have hr : FiR j a (i + 1) = FiR j a i := by
              show (if i + 1 = a then FiR j a i else _) = _
              rw [if_pos hia]
            have q1 : ((i : Int) + 1 = (a : Int)) = True := eq_true (by omega)
            have q2 : ((i : Int) + 1 == (a : Int)) = true := beq_iff_eq.2 (by omega)
            have HI := Aside0.mk (And.intro hi hr)
            clear hi hia hr
            go_wp2_with fail
            go_roundg (gk - 1)
            case measure => have := HI.out.1; omega
            case rel =>
              refine ⟨i + 1, by rw [HI.out.2], by simp, by have := HI.out.1; omega, ?_⟩
              rw [HI.out.2]
              exact U4
          · have hr : FiR j a (i + 1) = (relA (FiR j a i).1 ((FiR j a i).2 : Int), i + 1) := by
              show (if i + 1 = a then FiR j a i else _) = _
              rw [if_neg hia]
            have q1 : ((i : Int) + 1 = (a : Int)) = False := eq_false (by omega)
            have q2 : ((i : Int) + 1 == (a : Int)) = false := beq_eq_false_iff_ne.2 (by omega)
            have hq := fi_r j (by have := HM.out; omega) a HA.out.2.1 HA.out.2.2 i hi hia
            rw [hr] at hq
            have HI := Aside0.mk (And.intro hi (And.intro hr hq))
            clear hi hia hr hq
            go_wp2_with fail
            refine (l_release (un_inj kk) U4 (by omega) ((FiR j a i).2 : Int) rfl (k := 1) HI.out.2.2.1 (by decide)).mono ?_
            rintro e w5 ⟨rfl, U5⟩
            go_wp2_with fail
            refine (l_holds (un_inj kk) U5 ((i : Int) + 1) () HI.out.2.2.2).mono ?_
            rintro e w6 ⟨rfl, rfl⟩
            go_wp2_with fail
            go_roundg (gk - 1)
            case measure => have := HI.out.1; omega
            case rel =>
              refine ⟨i + 1, by rw [HI.out.2.1]; simp, by simp, by have := HI.out.1; omega, ?_⟩
              rw [HI.out.2.1]
              exact U5
        · have p2 : ((i : Int) + 1 ≤ (j : Int)) = False := eq_false (by omega)
          obtain rfl : i = j := by omega
          have hE := Aside0.mk (fi_e i (by have := HM.out; omega) a (by have := HA.out; have := HM.out; omega) HA.out.2.1 HA.out.2.2)
          clear hi
          go_wp2_with fail
          refine (l_release (un_inj kk) U4 (by omega) ((FiR i a i).2 : Int) rfl (k := 1) hE.out.1 (by decide)).mono ?_
          rintro e w5 ⟨rfl, U5⟩
          go_wp2_with fail
          refine (l_holds (un_inj kk) U5 (a : Int) () hE.out.2.1).mono ?_
          rintro e w6 ⟨rfl, rfl⟩
          go_wp2_with fail
          refine (l_edges (un_inj kk) U5 (by omega) (l := []) (by rw [hE.out.2.2]; decide) (by unfold edgesA; rw [hE.out.2.2]; rfl)).mono ?_
          rintro e w7 ⟨A, c, rfl, U7, _⟩
          go_wp2_with fail
          go_ret
          exact ⟨rfl, (HM.out.2.2.trans (l_eff U7) (fun _ h => h.elim)).below0⟩
end Go.Proofs.Ytlakklaaapfpeaa.Pure
