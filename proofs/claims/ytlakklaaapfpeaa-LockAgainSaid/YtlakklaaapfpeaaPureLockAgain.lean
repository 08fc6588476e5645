/- Asked again for what one has one has it; asked again for what one waits for one waits still, at one's place (LockAgain). Conditions: none beyond the given row's own. -/
import Derived.Test.YtlakklaaapfpeaaProg
import Derived.BigRegion
import Derived.BigQuiet
import Derived.Deep.QuietTactic
import Derived.Deep.AppendLies
import Derived.ChangeAlike
import Derived.Outline
import Derived.WalkKit
import Derived.KernelRfl
import Derived.Deep.LoopGhost
import Derived.Deep.RegionLaw
import Derived.Test.YtlakklaaapfpeaaWMore
import Derived.Test.YtlakklaaapfpeaaWKept
import Derived.Test.YtlakklaaapfpeaaLSep
import Derived.Test.YtlakklaaapfpeaaMx
import Derived.Test.YtlakklaaapfpeaaK4
namespace Go.Proofs.Ytlakklaaapfpeaa.Pure
open Go Go.RowKit Go.Proofs.YtlakklaaapfpeaaW.PrintWords Go.Proofs.YtlakklaaapfpeaaW.PrintLast Go.Proofs.YtlakklaaapfpeaaW.PrintMore Go.Proofs.Ytlakklaaapfpeaa.L Go.Proofs.Ytlakklaaapfpeaa.M Go.Proofs.Ytlakklaaapfpeaa.LK
set_option linter.unusedVariables false
set_option linter.unusedSimpArgs false
abbrev kk : ByteArray := ⟨#[107]⟩
def Ag : Nat → St Unit
  | 0 => ⟨[], []⟩
  | k + 1 => (askA (Ag k) ((k : Int) + 1) () true).1
def encH (s : St Unit) : List (List (Int × Int)) := s.k.map (fun p => p.2.h)
def encQ (s : St Unit) : List (List (Int × Bool × Bool)) := s.k.map (fun p => p.2.q.map (fun t => (t.tx, t.all, t.own)))
def encW (s : St Unit) : List Int := s.w.map (·.1)
theorem map_inj' {α β : Type} {f : α → β} (hf : ∀ a b, f a = f b → a = b) : ∀ {l l' : List α}, l.map f = l'.map f → l = l'
  | [], [], _ => rfl
  | [], _ :: _, h => by cases h
  | _ :: _, [], h => by cases h
  | a :: l, b :: l', h => by
    rw [List.map_cons, List.map_cons, List.cons.injEq] at h
    rw [hf _ _ h.1, map_inj' hf h.2]
theorem k_inj : ∀ {l l' : List (Unit × Le)}, l.map (fun p => p.2.h) = l'.map (fun p => p.2.h) → l.map (fun p => p.2.q.map (fun t => (t.tx, t.all, t.own))) = l'.map (fun p => p.2.q.map (fun t => (t.tx, t.all, t.own))) → l = l'
  | [], [], _, _ => rfl
  | [], _ :: _, h, _ => by cases h
  | _ :: _, [], h, _ => by cases h
  | ((), ⟨h1, q1⟩) :: l, ((), ⟨h2, q2⟩) :: l', h, g => by
    rw [List.map_cons, List.map_cons, List.cons.injEq] at h g
    have hq : q1 = q2 := map_inj' (f := fun t : Wt => (t.tx, t.all, t.own)) (fun x y e => by
      cases x; cases y
      simp only [Prod.mk.injEq] at e
      obtain ⟨rfl, rfl, rfl⟩ := e
      rfl) g.1
    have hh : h1 = h2 := h.1
    rw [hq, hh, k_inj h.2 g.2]
theorem encU_inj {a b : St Unit} (h1 : encH a = encH b) (h2 : encQ a = encQ b) (h3 : encW a = encW b) : a = b := by
  have h4 : a.k = b.k := k_inj h1 h2
  have h5 : a.w = b.w := map_inj' (f := fun p : Int × Unit => p.1) (fun x y e => Prod.ext e rfl) h3
  cases a; cases b
  dsimp only at h4 h5
  rw [h4, h5]
theorem ag_ask : ∀ k < 10, (askA (Ag k) ((k : Int) + 1) () true).2 = (k == 0) := by decide +kernel
theorem ag_a2 : ∀ k < 10, (askA (Ag (k + 1)) ((k : Int) + 1) () true).2 = (k == 0) := by decide +kernel
theorem ag_e2h : ∀ k < 10, encH (askA (Ag (k + 1)) ((k : Int) + 1) () true).1 = encH (Ag (k + 1)) := by decide +kernel
theorem ag_e2q : ∀ k < 10, encQ (askA (Ag (k + 1)) ((k : Int) + 1) () true).1 = encQ (Ag (k + 1)) := by decide +kernel
theorem ag_e2w : ∀ k < 10, encW (askA (Ag (k + 1)) ((k : Int) + 1) () true).1 = encW (Ag (k + 1)) := by decide +kernel
theorem ag_again (k : Nat) (hk : k < 10) : askA (Ag (k + 1)) ((k : Int) + 1) () true = (Ag (k + 1), (k == 0)) := Prod.ext (encU_inj (ag_e2h k hk) (ag_e2q k hk) (ag_e2w k hk)) (ag_a2 k hk)
theorem ag_1a : ∀ n < 11, 2 ≤ n → (askA (Ag n) 1 () false).2 = true := by decide +kernel
theorem ag_1h : ∀ n < 11, 2 ≤ n → encH (askA (Ag n) 1 () false).1 = encH (Ag n) := by decide +kernel
theorem ag_1q' : ∀ m < 9, encQ (askA (Ag (m + 2)) 1 () false).1 = encQ (Ag (m + 2)) := by decide +kernel
theorem ag_1q (n : Nat) (hn : n < 11) (h2 : 2 ≤ n) : encQ (askA (Ag n) 1 () false).1 = encQ (Ag n) := by
  obtain ⟨m, rfl⟩ : ∃ m, n = m + 2 := ⟨n - 2, by omega⟩
  exact ag_1q' m (by omega)
theorem ag_1w : ∀ n < 11, 2 ≤ n → encW (askA (Ag n) 1 () false).1 = encW (Ag n) := by decide +kernel
theorem ag_one (n : Nat) (hn : n < 11) (h2 : 2 ≤ n) : askA (Ag n) 1 () false = (Ag n, true) := Prod.ext (encU_inj (ag_1h n hn h2) (ag_1q n hn h2) (ag_1w n hn h2)) (ag_1a n hn h2)
theorem ag_h : ∀ n < 11, 2 ≤ n → holdsA (Ag n) 1 () = 2 := by decide +kernel
theorem ag_p : ∀ n < 11, 2 ≤ n → (pairsA (Ag n)).length < 900000 := by decide +kernel
theorem ag_l : ∀ n < 11, 2 ≤ n → (edgesA (Ag n)).length = n * (n - 1) / 2 := by decide +kernel
theorem ag_k : ∀ n < 11, 2 ≤ n → (heldA (stopA (Ag n) 1) 1).length = 1 := by decide +kernel
theorem ag_r : ∀ n < 11, 2 ≤ n → holdsA (relA (Ag n) 1) 2 () = 2 ∧ (askA (relA (Ag n) 1) 2 () true).2 = true ∧ holdsA (askA (relA (Ag n) 1) 2 () true).1 (n : Int) () = (if n = 2 then 2 else 0) := by decide +kernel
set_option maxHeartbeats 1600000 in
set_option maxRecDepth 100000 in
theorem LockAgain_out (n times : Int) (w : World) (h : n < 2 ∨ 10 < n ∨ times < 1 ∨ 10 < times) (h1 : (Lit.int .i64 n).wf = true) (h2 : (Lit.int .i64 times).wf = true) :
    Calls Try.prog 9 #[.int .i64 n, .int .i64 times] w fun e w' => e = .returned (.bool true) ∧ Below w.heap.size w w' := by
  have CA := fun W => alive_calls W
  rcases h with h | h | h | h
  all_goals
    go_enter Try.func9, Try.ntmps9
    go_wp2_with (go_at_call 12; refine (CA _).mono ?_; rintro e w1 ⟨rfl, e1⟩)
    all_goals go_ret
    all_goals exact ⟨rfl, e1.out.below0⟩
theorem b_calls (w : World) (v : Bool) : Calls Try.prog 21 #[.bool v] w fun e w' => e = .returned (.int .i64 (cond v 1 0)) ∧ w' = w := by
  cases v
  · go_enter Try.func21, Try.ntmps21
    go_wp2
    go_ret
    exact ⟨rfl, rfl⟩
  · go_enter Try.func21, Try.ntmps21
    go_wp2
    go_ret
    exact ⟨rfl, rfl⟩
set_option maxHeartbeats 1600000 in
set_option maxRecDepth 100000 in
theorem LockAgain_walk (n times : Int) (w : World) (h1 : (Lit.int .i64 n).wf = true) (h2 : (Lit.int .i64 times).wf = true) :
    Calls Try.prog 9 #[.int .i64 n, .int .i64 times] w fun e w' => e = .returned (.bool true) ∧ Below w.heap.size w w' := by
  by_cases ho : n < 2 ∨ 10 < n ∨ times < 1 ∨ 10 < times
  · exact LockAgain_out n times w ho h1 h2
  have hn1 : ¬ n < 2 := fun h => ho (.inl h)
  have hn2 : ¬ 10 < n := fun h => ho (.inr (.inl h))
  have hn3 : ¬ times < 1 := fun h => ho (.inr (.inr (.inl h)))
  have hn4 : ¬ 10 < times := fun h => ho (.inr (.inr (.inr h)))
  obtain ⟨m, rfl⟩ : ∃ m : Nat, n = (m : Int) := ⟨n.toNat, by omega⟩
  obtain ⟨T, rfl⟩ : ∃ m : Nat, times = (m : Int) := ⟨times.toNat, by omega⟩
  have hm1 : 2 ≤ m := by omega
  have hm2 : m < 11 := by omega
  have ht1 : 1 ≤ T := by omega
  have ht2 : T < 11 := by omega
  have CA := fun W => alive_calls W
  clear ho h1 h2
  go_enter Try.func9, Try.ntmps9
  go_wp2_with (go_at_call 12; refine (CA _).mono ?_; rintro e w1 ⟨rfl, e1⟩)
  have U0 := l_new w1 (un kk)
  have HM := Aside0.mk (And.intro hm1 (And.intro hm2 (And.intro ht1 e1.out)))
  clear hn1 hn3 e1 CA
  go_loopg [6] m (fun k s6 wr => ∃ (j N : Nat) (b : Bool), s6 = .int .i64 ((j : Int) + 1) ∧ j + k = m ∧ N ≤ j * 10 ∧ UL w1 (fun _ => False) w1.heap.size b (un kk) (Ag j) N wr)
  case atStart => exact ⟨0, 0, false, by simp, by omega, by omega, U0⟩
  case round =>
    obtain ⟨j, N, b, rfl, hjk, hN, U1⟩ := hrel
    by_cases hj : j < m
    · have p1 : ((j : Int) + 1 ≤ (m : Int)) = True := eq_true (by omega)
      have hq := ag_ask j (by omega)
      have hr := ag_again j (by omega)
      have hj9 : j < 10 := by omega
      have HJ := Aside0.mk (And.intro hj (And.intro hq (And.intro hr (And.intro hN hjk))))
      clear hj hq hr hN hjk
      obtain ⟨g1, rfl⟩ : ∃ g1 : Nat, g1 = gk := ⟨_, rfl⟩
      go_wp2_with fail
      go_loopg [7] T (fun k s7 wr => ∃ (i N2 : Nat) (b : Bool), s7 = .int .i64 (i : Int) ∧ i + k = T ∧ N2 ≤ j * 10 + i ∧ UL w1 (fun _ => False) w1.heap.size b (un kk) (if i = 0 then Ag j else Ag (j + 1)) N2 wr)
      case atStart => exact ⟨0, N, b, rfl, by omega, by have := HJ.out; omega, U1⟩
      case round =>
        obtain ⟨i, N2, b2, rfl, hik, hN2, U2⟩ := hrel
        by_cases hi : i < T
        · have p2 : ((i : Int) < (T : Int)) = True := eq_true (by omega)
          have hNN : N2 ≤ 899998 := by omega
          have ha : askA (if i = 0 then Ag j else Ag (j + 1)) ((j : Int) + 1) () true = (Ag (j + 1), (j == 0)) := by
            split
            · exact Prod.ext rfl HJ.out.2.1
            · exact HJ.out.2.2.1
          have HI := Aside0.mk (And.intro hi (And.intro hik (And.intro hN2 ha)))
          have hii : i < 900 := by omega
          clear hi hik hN2 ha
          go_wp2_with fail
          refine (l_ask (un_inj kk) U2 hNN ((j : Int) + 1) () true (s' := Ag (j + 1)) (r := (j == 0)) HI.out.2.2.2).mono ?_
          rintro e w2 ⟨rfl, U3⟩
          cases j with
          | zero =>
            go_wp2_with fail
            go_roundg (gk - 1)
            case measure => have := HI.out.1; have := HI.out.2.1; omega
            case rel => exact ⟨i + 1, N2 + 1, true, by simp, by have := HI.out.1; have := HI.out.2.1; omega, by have := HI.out.2.2.1; omega, by rw [if_neg (by omega)]; exact U3⟩
          | succ j =>
            have r1 : (((j + 1 : Nat) : Int) + 1 = 1) = False := eq_false (by omega)
            have r2 : (((j + 1 : Nat) : Int) + 1 == 1) = false := beq_eq_false_iff_ne.2 (by omega)
            have r3 : ((j : Int) + 1 + 1 = 1) = False := eq_false (by omega)
            have r4 : ((j : Int) + 1 + 1 == 1) = false := beq_eq_false_iff_ne.2 (by omega)
            have r5 : (j + 1 == 0) = false := rfl
            go_wp2_with fail
            go_roundg (gk - 1)
            case measure => have := HI.out.1; have := HI.out.2.1; omega
            case rel => exact ⟨i + 1, N2 + 1, true, by simp, by have := HI.out.1; have := HI.out.2.1; omega, by have := HI.out.2.2.1; omega, by rw [if_neg (by omega)]; exact U3⟩
        · have p2 : ((i : Int) < (T : Int)) = False := eq_false (by omega)
          have hi0 : ¬ i = 0 := by have := HM.out; omega
          rw [if_neg hi0] at U2
          have HZ := Aside0.mk (And.intro hik hN2)
          clear hi hi0 hik hN2
          go_wp2_with fail
          go_roundg (g1 - 1)
          case measure => have := HJ.out; omega
          case rel => exact ⟨j + 1, N2, b2, by simp, by have := HJ.out; omega, by have := HZ.out; omega, U2⟩
    · have p1 : ((j : Int) + 1 ≤ (m : Int)) = False := eq_false (by omega)
      obtain rfl : j = m := by omega
      clear hj
      have hNN : N ≤ 899990 := by omega
      have hL := ag_l j hm2 hm1
      have hP := Aside0.mk (ag_p j hm2 hm1)
      have h1 := Aside0.mk (ag_one j hm2 hm1)
      have hh := Aside0.mk (And.intro (ag_h j hm2 hm1) (And.intro (ag_k j hm2 hm1) (ag_r j hm2 hm1)))
      obtain ⟨l, hl⟩ : ∃ l, edgesA (Ag j) = l := ⟨_, rfl⟩
      rw [hl] at hL
      obtain ⟨q, hq⟩ : ∃ q, q = j * (j - 1) := ⟨_, rfl⟩
      have hq2 : q < 1000 := by
        have := Nat.mul_le_mul (show j ≤ 10 by omega) (show j - 1 ≤ 10 by omega)
        omega
      have e1 : (j : Int) * ((j : Int) - 1) = (q : Int) := by rw [hq, Int.natCast_mul, Int.natCast_sub (by omega)]; rfl
      have e2 : (q : Int) / 2 = (l.length : Int) := by rw [hL, ← hq]; omega
      have hll : l.length < 1000 := by rw [hL, ← hq]; omega
      have hbb : (cond (decide ((j : Int) = 2)) 1 0 : Int) * 2 = if j = 2 then 2 else 0 := by
        by_cases hj2 : j = 2
        · subst hj2; rfl
        · rw [if_neg hj2, decide_eq_false (by omega)]; rfl
      have HE := Aside0.mk (And.intro hl hbb)
      clear hl hL hq hN hjk hbb
      go_wp2_with fail
      refine (l_ask (un_inj kk) U1 (by omega) 1 () false h1.out).mono ?_
      rintro e w3 ⟨rfl, U3⟩
      go_wp2_with fail
      refine (l_holds (un_inj kk) U3 1 () hh.out.1).mono ?_
      rintro e w4 ⟨rfl, rfl⟩
      go_wp2_with fail
      refine (l_edges (un_inj kk) U3 (by omega) hP.out HE.out.1).mono ?_
      rintro e w5 ⟨A, c, rfl, U5, _⟩
      go_wp2_with fail
      refine (l_release (un_inj kk) U5 (by omega) 1 rfl (k := 1) hh.out.2.1 (by decide)).mono ?_
      rintro e w6 ⟨rfl, U6⟩
      go_wp2_with fail
      refine (l_holds (un_inj kk) U6 2 () hh.out.2.2.1).mono ?_
      rintro e w7 ⟨rfl, rfl⟩
      go_wp2_with fail
      refine (l_ask (un_inj kk) U6 (by omega) 2 () true (r := true) (Prod.ext rfl hh.out.2.2.2.1)).mono ?_
      rintro e w8 ⟨rfl, U8⟩
      go_wp2_with fail
      refine (l_holds (un_inj kk) U8 (j : Int) () hh.out.2.2.2.2).mono ?_
      rintro e w9 ⟨rfl, rfl⟩
      by_cases hj2 : j = 2
      · subst hj2
        go_wp2_with (go_at_call 21; refine (b_calls _ _).mono ?_; rintro e w10 ⟨rfl, rfl⟩)
        go_ret
        exact ⟨rfl, (HM.out.2.2.2.trans (l_eff U8) (fun _ h => h.elim)).below0⟩
      · have r1 : ((j : Int) = 2) = False := eq_false (by omega)
        have r2 : ((j : Int) == 2) = false := beq_eq_false_iff_ne.2 (by omega)
        have r3 : (j = 2) = False := eq_false hj2
        clear hj2
        go_wp2_with (go_at_call 21; refine (b_calls _ _).mono ?_; rintro e w10 ⟨rfl, rfl⟩)
        go_ret
        exact ⟨rfl, (HM.out.2.2.2.trans (l_eff U8) (fun _ h => h.elim)).below0⟩
end Go.Proofs.Ytlakklaaapfpeaa.Pure
