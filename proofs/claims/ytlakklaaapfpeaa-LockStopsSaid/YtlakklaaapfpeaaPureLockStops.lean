/- Who waits no more is passed by; one that asks for another key waits for that one alone (LockStops). Conditions: none beyond the given row's own. -/
import Derived.Test.YtlakklaaapfpeaaProg
import Derived.BigRegion
import Derived.BigQuiet
import Derived.Deep.QuietTactic
import Derived.Deep.AppendLies
import Derived.ChangeAlike
import Derived.Outline
import Derived.WalkKit
import Derived.KernelRfl
import Derived.Deep.LoopGhost
import Derived.Deep.RegionLaw
import Derived.Test.YtlakklaaapfpeaaWMore
import Derived.Test.YtlakklaaapfpeaaWKept
import Derived.Test.YtlakklaaapfpeaaLSep
import Derived.Test.YtlakklaaapfpeaaMx
import Derived.Test.YtlakklaaapfpeaaK4
namespace Go.Proofs.Ytlakklaaapfpeaa.Pure
open Go Go.RowKit Go.Proofs.YtlakklaaapfpeaaW.PrintWords Go.Proofs.YtlakklaaapfpeaaW.PrintLast Go.Proofs.YtlakklaaapfpeaaW.PrintMore Go.Proofs.Ytlakklaaapfpeaa.L Go.Proofs.Ytlakklaaapfpeaa.M Go.Proofs.Ytlakklaaapfpeaa.LK
set_option linter.unusedVariables false
set_option linter.unusedSimpArgs false
theorem add0 (ad : Addr) : ad.add 0 = ad := by unfold Addr.add; rw [if_pos rfl]
abbrev bo (a b : ByteArray) : Bool → ByteArray := fun c => cond c b a
theorem bo_inj {a b : ByteArray} (h : a ≠ b) : ∀ x y : Bool, bo a b x = bo a b y → x = y
  | true, true, _ => rfl
  | false, false, _ => rfl
  | true, false, e => absurd e.symm h
  | false, true, e => absurd e h
abbrev S0 : St Bool := ⟨[], []⟩
abbrev S1 : St Bool := ⟨[(false, ⟨[(1, 2)], []⟩)], []⟩
abbrev S2 : St Bool := ⟨[(false, ⟨[(1, 2)], []⟩), (true, ⟨[(2, 2)], []⟩)], []⟩
abbrev S3 (tx : Int) : St Bool := ⟨[(false, ⟨[(1, 2)], [⟨tx, false, false⟩]⟩), (true, ⟨[(2, 2)], []⟩)], [(tx, false)]⟩
abbrev S4 (tx : Int) : St Bool := ⟨[(false, ⟨[(1, 2)], []⟩), (true, ⟨[(2, 2)], [⟨tx, true, false⟩]⟩)], [(tx, true)]⟩
abbrev S5 (tx : Int) : St Bool := ⟨[(true, ⟨[(2, 2)], [⟨tx, true, false⟩]⟩)], [(tx, true)]⟩
abbrev S6 : St Bool := ⟨[(true, ⟨[(2, 2)], []⟩)], []⟩
theorem st1 : askA S0 1 false true = (S1, true) := by
  simp [askA, againA, waitK, stopA, holdsA, getK, joinA, newK, setK, settleA, grantF, mayB, putI, getI, addF, placeF, putK, offK]
theorem st2 : askA S1 2 true true = (S2, true) := by
  simp [askA, againA, waitK, stopA, holdsA, getK, joinA, newK, setK, settleA, grantF, mayB, putI, getI, addF, placeF, putK, offK]
section
set_option linter.unusedSectionVars false
variable (tx : Int) (h1 : tx ≠ 1) (h2 : tx ≠ 2)
include h1 h2
theorem st3 : askA S2 tx false false = (S3 tx, false) := by
  have h1' : ¬ (1 : Int) = tx := fun e => h1 e.symm
  simp [askA, againA, waitK, stopA, holdsA, getK, joinA, newK, setK, settleA, grantF, mayB, okP, putI, getI, addF, placeF, putK, offK, h1, h1']
theorem st4 : askA (S3 tx) tx true true = (S4 tx, false) := by
  have h1' : ¬ (1 : Int) = tx := fun e => h1 e.symm
  have h2' : ¬ (2 : Int) = tx := fun e => h2 e.symm
  simp [askA, againA, waitK, stopA, stopQ, holdsA, getK, joinA, newK, setK, settleA, grantF, mayB, okP, putI, getI, addF, placeF, putK, offK, dropK, h1, h1', h2, h2']
theorem st4e : edgesA (S4 tx) = [(tx, 2)] := by
  have h2' : ¬ (2 : Int) = tx := fun e => h2 e.symm
  simp [edgesA, pairsA, pairsQ, oneE, holdsE, aheadE, okP, h2', sortU, insU]
theorem st4p : (pairsA (S4 tx)).length < 900000 := by
  have h2' : ¬ (2 : Int) = tx := fun e => h2 e.symm
  simp [pairsA, pairsQ, oneE, holdsE, aheadE, okP, h2']
theorem st5h : (heldA (stopA (S4 tx) 1) 1).length = 1 := by
  have h1' : ¬ (1 : Int) = tx := fun e => h1 e.symm
  simp [heldA, stopA, waitK, h1, getI]
theorem st5 : relA (S4 tx) 1 = S5 tx := by
  simp [relA, freesA, freeA, stopA, waitK, heldA, getI, getK, settleA, setK, grantF, delI, delK, offK, h1]
theorem st6w : (waitK (S5 tx).w tx).isSome = true := by
  simp [waitK]
theorem st6 : stopA (S5 tx) tx = S6 := by
  simp [stopA, stopQ, waitK, getK, settleA, setK, grantF, offK, dropK]
end
theorem st7h : (heldA (stopA S6 2) 2).length = 1 := by decide
theorem st7 : relA S6 2 = S0 := by
  simp [relA, freesA, freeA, stopA, waitK, heldA, getI, getK, settleA, setK, grantF, delI, delK, offK]
set_option maxHeartbeats 1600000 in
set_option maxRecDepth 100000 in
theorem LockStops_out1 (a b : ByteArray) (tx : Int) (w : World)  (h1 : a.size ≤ 140737488351232) (h2 : b.size ≤ 140737488351232) (h3 : (Lit.int .i64 tx).wf = true) :
    Calls Try.prog 11 #[.string a, .string a, .int .i64 tx] w fun e w' => e = .returned (.bool true) ∧ Below w.heap.size w w' := by
  have CA := fun W => alive_calls W
  go_enter Try.func11, Try.ntmps11
  go_wp2_with (go_at_call 12; refine (CA _).mono ?_; rintro e w1 ⟨rfl, e1⟩)
  all_goals go_ret
  all_goals exact ⟨rfl, e1.out.below0⟩
set_option maxHeartbeats 1600000 in
set_option maxRecDepth 100000 in
theorem LockStops_out2 (a b : ByteArray) (tx : Int) (w : World) (h : 80 < (a.size : Int) + (b.size : Int)) (h1 : a.size ≤ 140737488351232) (h2 : b.size ≤ 140737488351232) (h3 : (Lit.int .i64 tx).wf = true) :
    Calls Try.prog 11 #[.string a, .string b, .int .i64 tx] w fun e w' => e = .returned (.bool true) ∧ Below w.heap.size w w' := by
  have CA := fun W => alive_calls W
  go_enter Try.func11, Try.ntmps11
  go_wp2_with (go_at_call 12; refine (CA _).mono ?_; rintro e w1 ⟨rfl, e1⟩)
  all_goals go_ret
  all_goals exact ⟨rfl, e1.out.below0⟩
set_option maxHeartbeats 1600000 in
set_option maxRecDepth 100000 in
theorem LockStops_out3 (a b : ByteArray) (tx : Int) (w : World)  (h1 : a.size ≤ 140737488351232) (h2 : b.size ≤ 140737488351232) (h3 : (Lit.int .i64 tx).wf = true) :
    Calls Try.prog 11 #[.string a, .string b, .int .i64 1] w fun e w' => e = .returned (.bool true) ∧ Below w.heap.size w w' := by
  have CA := fun W => alive_calls W
  go_enter Try.func11, Try.ntmps11
  go_wp2_with (go_at_call 12; refine (CA _).mono ?_; rintro e w1 ⟨rfl, e1⟩)
  all_goals go_ret
  all_goals exact ⟨rfl, e1.out.below0⟩
set_option maxHeartbeats 1600000 in
set_option maxRecDepth 100000 in
theorem LockStops_out4 (a b : ByteArray) (tx : Int) (w : World)  (h1 : a.size ≤ 140737488351232) (h2 : b.size ≤ 140737488351232) (h3 : (Lit.int .i64 tx).wf = true) :
    Calls Try.prog 11 #[.string a, .string b, .int .i64 2] w fun e w' => e = .returned (.bool true) ∧ Below w.heap.size w w' := by
  have CA := fun W => alive_calls W
  go_enter Try.func11, Try.ntmps11
  go_wp2_with (go_at_call 12; refine (CA _).mono ?_; rintro e w1 ⟨rfl, e1⟩)
  all_goals go_ret
  all_goals exact ⟨rfl, e1.out.below0⟩
set_option maxHeartbeats 1600000 in
set_option maxRecDepth 100000 in
theorem LockStops_walk (a b : ByteArray) (tx : Int) (w : World) (h1 : a.size ≤ 140737488351232) (h2 : b.size ≤ 140737488351232) (h3 : (Lit.int .i64 tx).wf = true) :
    Calls Try.prog 11 #[.string a, .string b, .int .i64 tx] w fun e w' => e = .returned (.bool true) ∧ Below w.heap.size w w' := by
  by_cases hab : a = b
  · subst hab
    exact LockStops_out1 a a tx w h1 h2 h3
  by_cases hsz : 80 < (a.size : Int) + (b.size : Int)
  · exact LockStops_out2 a b tx w hsz h1 h2 h3
  by_cases ht1 : tx = 1
  · subst ht1
    exact LockStops_out3 a b 1 w h1 h2 h3
  by_cases ht2 : tx = 2
  · subst ht2
    exact LockStops_out4 a b 2 w h1 h2 h3
  have q1 : (a.toList == b.toList) = false := beq_eq_false_iff_ne.2 (fun e => hab (toList_iff.1 e))
  have q2 : (tx == 1) = false := beq_eq_false_iff_ne.2 ht1
  have q3 : (tx == 2) = false := beq_eq_false_iff_ne.2 ht2
  have q4 : (tx = 1) = False := eq_false ht1
  have q5 : (tx = 2) = False := eq_false ht2
  have HT := Aside0.mk (And.intro hab (And.intro ht1 ht2))
  have CA := fun W => alive_calls W
  have hE := fun W => eqP_run tx 2 tx 2 W
  simp only [decide_true] at hE
  clear h3 hab ht1 ht2
  go_enter Try.func11, Try.ntmps11
  go_wp2_with (go_at_call 12; refine (CA _).mono ?_; rintro e w1 ⟨rfl, e1⟩)
  have U0 := l_new w1 (bo a b)
  refine (l_ask (bo_inj HT.out.1) U0 (by decide) 1 false true st1).mono ?_
  rintro e w2 ⟨rfl, U1⟩
  go_wp2_with fail
  refine (l_ask (bo_inj HT.out.1) U1 (by decide) 2 true true st2).mono ?_
  rintro e w3 ⟨rfl, U2⟩
  go_wp2_with fail
  refine (l_ask (bo_inj HT.out.1) U2 (by decide) tx false false (st3 tx HT.out.2.1 HT.out.2.2)).mono ?_
  rintro e w4 ⟨rfl, U3⟩
  go_wp2_with fail
  refine (l_ask (bo_inj HT.out.1) U3 (by decide) tx true true (st4 tx HT.out.2.1 HT.out.2.2)).mono ?_
  rintro e w5 ⟨rfl, U4⟩
  have CW : Calls Try.prog 17 #[.pointer (some ⟨w1.heap.size, 0, none⟩), .int .i64 tx] w5 fun e w' => e = .returned (.tuple #[.string b, .bool true]) ∧ w' = w5 := l_waits U4 tx (o := some true) (by simp [waitK])
  go_wp2_with fail
  refine CW.mono ?_
  rintro e w6 ⟨rfl, rfl⟩
  go_wp2_with fail
  refine (l_edges (bo_inj HT.out.1) U4 (by decide) (st4p tx HT.out.2.1 HT.out.2.2) (st4e tx HT.out.2.1 HT.out.2.2)).mono ?_
  rintro e w7 ⟨A, c, rfl, U5, C5⟩
  obtain ⟨ad, rfl, x0, x1⟩ := at_P C5.out 0 (by simp)
  simp only [Nat.zero_mul, List.getD_cons_zero, add0] at x0 x1
  go_wp2_with fail
  refine (l_release (bo_inj HT.out.1) U5 (by decide) 1 (st5 tx HT.out.2.1 HT.out.2.2) (k := 1) (st5h tx HT.out.2.1 HT.out.2.2) (by decide)).mono ?_
  rintro e w8 ⟨rfl, U6⟩
  go_wp2_with fail
  refine (l_holds (bo_inj HT.out.1) U6 tx false (r := 0) (by simp [holdsA, getK])).mono ?_
  rintro e w9 ⟨rfl, rfl⟩
  go_wp2_with fail
  refine (l_stop (bo_inj HT.out.1) U6 (by decide) tx (st6 tx HT.out.2.1 HT.out.2.2) (st6w tx HT.out.2.1 HT.out.2.2)).mono ?_
  rintro e w10 ⟨rfl, U7⟩
  go_wp2_with fail
  refine (l_release (bo_inj HT.out.1) U7 (by decide) 2 st7 (k := 1) st7h (by decide)).mono ?_
  rintro e w11 ⟨rfl, U8⟩
  go_wp2_with fail
  refine (l_holds (bo_inj HT.out.1) U8 tx true (r := 0) (by simp [holdsA, getK])).mono ?_
  rintro e w12 ⟨rfl, rfl⟩
  go_wp2_with fail
  refine (l_edges (bo_inj HT.out.1) U8 (by decide) (l := []) (by decide) (by decide)).mono ?_
  rintro e w13 ⟨A2, c2, rfl, U9, _⟩
  go_wp2_with fail
  refine (l_stop (bo_inj HT.out.1) U9 (by decide) tx (s' := S0) (r := false) (by simp [stopA, waitK]) (by simp [waitK])).mono ?_
  rintro e w14 ⟨rfl, U10⟩
  go_wp2_with fail
  go_ret
  exact ⟨rfl, (e1.out.trans (l_eff U10) (fun _ h => h.elim)).below0⟩
end Go.Proofs.Ytlakklaaapfpeaa.Pure
