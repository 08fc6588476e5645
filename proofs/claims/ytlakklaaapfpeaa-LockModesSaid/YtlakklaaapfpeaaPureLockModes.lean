/- One who has a key alone may have all of it at once; who has all of it shares it, too (LockModes). Conditions: none beyond the given row's own. -/
import Derived.Test.YtlakklaaapfpeaaProg
import Derived.BigRegion
import Derived.BigQuiet
import Derived.Deep.QuietTactic
import Derived.Deep.AppendLies
import Derived.ChangeAlike
import Derived.Outline
import Derived.WalkKit
import Derived.KernelRfl
import Derived.Deep.LoopGhost
import Derived.Deep.RegionLaw
import Derived.Test.YtlakklaaapfpeaaWMore
import Derived.Test.YtlakklaaapfpeaaWKept
import Derived.Test.YtlakklaaapfpeaaLSep
import Derived.Test.YtlakklaaapfpeaaMx
import Derived.Test.YtlakklaaapfpeaaK4
namespace Go.Proofs.Ytlakklaaapfpeaa.Pure
open Go Go.RowKit Go.Proofs.YtlakklaaapfpeaaW.PrintWords Go.Proofs.YtlakklaaapfpeaaW.PrintLast Go.Proofs.YtlakklaaapfpeaaW.PrintMore Go.Proofs.Ytlakklaaapfpeaa.L Go.Proofs.Ytlakklaaapfpeaa.M Go.Proofs.Ytlakklaaapfpeaa.LK
set_option linter.unusedVariables false
set_option linter.unusedSimpArgs false
abbrev M0 : St Unit := ⟨[], []⟩
abbrev M1 (tx : Int) : St Unit := ⟨[((), ⟨[(tx, 1)], []⟩)], []⟩
abbrev M2 (tx : Int) : St Unit := ⟨[((), ⟨[(tx, 2)], []⟩)], []⟩
theorem m1 (tx : Int) : askA M0 tx () false = (M1 tx, true) := by
  simp [askA, againA, waitK, stopA, holdsA, getK, joinA, newK, setK, settleA, grantF, mayB, putI, getI, addF, placeF, putK, offK]
theorem m2 (tx : Int) : askA (M1 tx) tx () true = (M2 tx, true) := by
  simp [askA, againA, waitK, stopA, holdsA, getK, joinA, newK, setK, settleA, grantF, mayB, okP, putI, getI, addF, placeF, putK, offK]
theorem m3 (tx : Int) : askA (M2 tx) tx () false = (M2 tx, true) := by
  simp [askA, againA, waitK, stopA, holdsA, getK, getI]
theorem m4 (tx : Int) : heldA (stopA (M2 tx) tx) tx = [()] := by
  simp [stopA, waitK, heldA, getI]
theorem m5 (tx : Int) : relA (M2 tx) tx = M0 := by
  simp [relA, freesA, freeA, stopA, waitK, heldA, getI, getK, settleA, setK, grantF, delI, delK, offK]
theorem m6 (tx : Int) : heldA (stopA M0 tx) tx = [] := by
  simp [stopA, waitK, heldA]
theorem m7 (tx : Int) : relA M0 tx = M0 := by
  simp [relA, freesA, stopA, waitK, heldA]
set_option maxHeartbeats 1600000 in
set_option maxRecDepth 100000 in
theorem modes_long (key : ByteArray) (tx : Int) (w : World) (h : 40 < (key.size : Int)) (h1 : key.size ≤ 140737488351232) :
    Calls Try.prog 10 #[.string key, .int .i64 tx] w fun e w' => e = .returned (.bool true) ∧ Below w.heap.size w w' := by
  have CA := fun W => alive_calls W
  go_enter Try.func10, Try.ntmps10
  go_wp2_with (go_at_call 12; refine (CA _).mono ?_; rintro e w1 ⟨rfl, e1⟩)
  go_ret
  exact ⟨rfl, e1.out.below0⟩
set_option maxHeartbeats 1600000 in
set_option maxRecDepth 100000 in
theorem LockModes_walk (key : ByteArray) (tx : Int) (w : World) (h1 : key.size ≤ 140737488351232) (h2 : (Lit.int .i64 tx).wf = true) :
    Calls Try.prog 10 #[.string key, .int .i64 tx] w fun e w' => e = .returned (.bool true) ∧ Below w.heap.size w w' := by
  by_cases hs : 40 < (key.size : Int)
  · exact modes_long key tx w hs h1
  have CA := fun W => alive_calls W
  go_enter Try.func10, Try.ntmps10
  go_wp2_with (go_at_call 12; refine (CA _).mono ?_; rintro e w1 ⟨rfl, e1⟩)
  have U0 := l_new w1 (un key)
  refine (l_ask (un_inj key) U0 (by decide) tx () false (m1 tx)).mono ?_
  rintro e w2 ⟨rfl, U1⟩
  go_wp2_with fail
  refine (l_holds (un_inj key) U1 tx () (r := 1) (by simp [holdsA, getK, getI])).mono ?_
  rintro e w2' ⟨rfl, rfl⟩
  go_wp2_with fail
  refine (l_ask (un_inj key) U1 (by decide) tx () true (m2 tx)).mono ?_
  rintro e w3 ⟨rfl, U2⟩
  go_wp2_with fail
  refine (l_holds (un_inj key) U2 tx () (r := 2) (by simp [holdsA, getK, getI])).mono ?_
  rintro e w2' ⟨rfl, rfl⟩
  go_wp2_with fail
  refine (l_ask (un_inj key) U2 (by decide) tx () false (m3 tx)).mono ?_
  rintro e w4 ⟨rfl, U3⟩
  go_wp2_with fail
  refine (l_holds (un_inj key) U3 tx () (r := 2) (by simp [holdsA, getK, getI])).mono ?_
  rintro e w2' ⟨rfl, rfl⟩
  go_wp2_with fail
  refine (l_waits U3 tx (o := none) rfl).mono ?_
  rintro e w2' ⟨rfl, rfl⟩
  go_wp2_with fail
  refine (l_keys (un_inj key) U3 tx (k := 1) (by simp [heldA, getI]) (by decide)).mono ?_
  rintro e w5 ⟨A, c, rfl, U4⟩
  go_wp2_with fail
  refine (l_release (un_inj key) U4 (by decide) tx (m5 tx) (k := 1) (by rw [m4]; rfl) (by decide)).mono ?_
  rintro e w6 ⟨rfl, U5⟩
  go_wp2_with fail
  refine (l_release (un_inj key) U5 (by decide) tx (m7 tx) (k := 0) (by rw [m6]; rfl) (by decide)).mono ?_
  rintro e w7 ⟨rfl, U6⟩
  go_wp2_with fail
  refine (l_holds (un_inj key) U6 tx () (r := 0) (by simp [holdsA, getK])).mono ?_
  rintro e w2' ⟨rfl, rfl⟩
  go_wp2_with fail
  go_ret
  exact ⟨rfl, (e1.out.trans (l_eff U6) (fun _ h => h.elim)).below0⟩
end Go.Proofs.Ytlakklaaapfpeaa.Pure
