/- One that shares a key and asks for all of it goes ahead of those that have nothing; two such wait for each other, and are told (LockUpgrades). Conditions: none beyond the given row's own. -/
import Derived.Test.YtlakklaaapfpeaaProg
import Derived.BigRegion
import Derived.BigQuiet
import Derived.Deep.QuietTactic
import Derived.Deep.AppendLies
import Derived.ChangeAlike
import Derived.Outline
import Derived.WalkKit
import Derived.KernelRfl
import Derived.Deep.LoopGhost
import Derived.Deep.RegionLaw
import Derived.Test.YtlakklaaapfpeaaWMore
import Derived.Test.YtlakklaaapfpeaaWKept
import Derived.Test.YtlakklaaapfpeaaLSep
import Derived.Test.YtlakklaaapfpeaaMx
import Derived.Test.YtlakklaaapfpeaaK4
import Derived.Test.YtlakklaaapfpeaaKOn
namespace Go.Proofs.Ytlakklaaapfpeaa.Pure
open Go Go.RowKit Go.Proofs.YtlakklaaapfpeaaW.PrintWords Go.Proofs.YtlakklaaapfpeaaW.PrintLast Go.Proofs.YtlakklaaapfpeaaW.PrintMore Go.Proofs.Ytlakklaaapfpeaa.L Go.Proofs.Ytlakklaaapfpeaa.M Go.Proofs.Ytlakklaaapfpeaa.LK Go.Proofs.Ytlakklaaapfpeaa.RI
set_option linter.unusedVariables false
set_option linter.unusedSimpArgs false
abbrev kk : ByteArray := ⟨#[107]⟩
def Up1 : St Unit := (askA (⟨[], []⟩ : St Unit) 1 () false).1
def Up2 : St Unit := (askA Up1 2 () false).1
def Up3 : St Unit := (askA Up2 3 () true).1
def Up4 : St Unit := (askA Up3 1 () true).1
def Up5 : St Unit := (askA Up4 2 () true).1
theorem ask_pair {s : St Unit} {tx : Int} {all r : Bool} (h : (askA s tx () all).2 = r) : askA s tx () all = ((askA s tx () all).1, r) := by rw [← h]
theorem up1 : askA (⟨[], []⟩ : St Unit) 1 () false = (Up1, true) := ask_pair (by decide +kernel)
theorem up2 : askA Up1 2 () false = (Up2, true) := ask_pair (by decide +kernel)
theorem up3 : askA Up2 3 () true = (Up3, false) := ask_pair (by decide +kernel)
theorem up4 : askA Up3 1 () true = (Up4, false) := ask_pair (by decide +kernel)
theorem up5 : askA Up4 2 () true = (Up5, false) := ask_pair (by decide +kernel)
abbrev EE : List Pr := [(1, 2), (2, 1), (3, 1), (3, 2)]
theorem upE : edgesA Up5 = EE := by decide +kernel
theorem upL : (pairsA Up5).length < 900000 := by decide +kernel
theorem upA : iterE EE false 5 ([], [1]) = ([2, 1], []) := by decide +kernel
theorem upB : iterE EE true 5 ([], [1]) = ([2, 3, 1], []) := by decide +kernel
theorem upR : honeycombref1_Rising.f 30 (onF [2, 1] [2, 3, 1]) = some [1, 2] := by decide +kernel
theorem upk5 : ∃ k, (heldA (stopA Up5 2) 2).length = k ∧ k < 900000 := ⟨_, rfl, by decide +kernel⟩
theorem upk4 : ∃ k, (heldA (stopA Up4 2) 2).length = k ∧ k < 900000 := ⟨_, rfl, by decide +kernel⟩
theorem upk6 : ∃ k, (heldA (stopA (relA Up4 2) 1) 1).length = k ∧ k < 900000 := ⟨_, rfl, by decide +kernel⟩
theorem uph1 : holdsA (relA Up5 2) 1 () = 2 := by decide +kernel
theorem uph2 : holdsA (relA Up5 2) 3 () = 0 := by decide +kernel
theorem uph3 : holdsA (relA Up4 2) 1 () = 2 := by decide +kernel
theorem uph4 : holdsA (relA Up4 2) 3 () = 0 := by decide +kernel
theorem uph5 : holdsA (relA (relA Up4 2) 1) 3 () = 2 := by decide +kernel
set_option maxHeartbeats 1600000 in
set_option maxRecDepth 100000 in
theorem LockUpgrades_walk (both : Bool) (w : World) :
    Calls Try.prog 6 #[.bool both] w fun e w' => e = .returned (.bool true) ∧ Below w.heap.size w w' := by
  have CA := fun W => alive_calls W
  obtain ⟨k5, hk5, hl5⟩ := upk5
  obtain ⟨k4, hk4, hl4⟩ := upk4
  obtain ⟨k6, hk6, hl6⟩ := upk6
  have HK := Aside0.mk (And.intro hk5 (And.intro hk4 hk6))
  clear hk5 hk4 hk6
  go_enter Try.func6, Try.ntmps6
  go_wp2_with (go_at_call 12; refine (CA _).mono ?_; rintro e w1 ⟨rfl, e1⟩)
  have U0 := l_new w1 (un kk)
  clear CA
  refine (l_ask (un_inj kk) U0 (by decide) 1 () false up1).mono ?_
  rintro e w2 ⟨rfl, U1⟩
  go_wp2_with fail
  refine (l_ask (un_inj kk) U1 (by decide) 2 () false up2).mono ?_
  rintro e w3 ⟨rfl, U2⟩
  go_wp2_with fail
  refine (l_ask (un_inj kk) U2 (by decide) 3 () true up3).mono ?_
  rintro e w4 ⟨rfl, U3⟩
  go_wp2_with fail
  refine (l_ask (un_inj kk) U3 (by decide) 1 () true up4).mono ?_
  rintro e w5 ⟨rfl, U4⟩
  cases both with
  | true =>
    go_wp2_with fail
    refine (l_ask (un_inj kk) U4 (by decide) 2 () true up5).mono ?_
    rintro e w6 ⟨rfl, U5⟩
    go_wp2_with fail
    refine (l_edges (un_inj kk) U5 (by decide) upL upE).mono ?_
    rintro e w7 ⟨A, c, rfl, U6, hC⟩
    go_wp2_with fail
    refine (on_calls w7 A c EE hC.out (by decide) 1 5 (by decide) [2, 1] [2, 3, 1] [1, 2] upA upB (by decide) (by decide) 30 upR).mono ?_
    rintro e w8 ⟨A', c', rfl, e8⟩
    have U7 := l_after U6 e8
    go_wp2_with fail
    refine (l_release (un_inj kk) U7 (by decide) 2 rfl HK.out.1 hl5).mono ?_
    rintro e w9 ⟨rfl, U8⟩
    go_wp2_with fail
    refine (l_holds (un_inj kk) U8 1 () uph1).mono ?_
    rintro e w9' ⟨rfl, rfl⟩
    go_wp2_with fail
    refine (l_holds (un_inj kk) U8 3 () uph2).mono ?_
    rintro e w9' ⟨rfl, rfl⟩
    go_wp2_with fail
    go_ret
    exact ⟨rfl, (e1.out.trans (l_eff U8) (fun _ h => h.elim)).below0⟩
  | false =>
    go_wp2_with fail
    refine (l_release (un_inj kk) U4 (by decide) 2 rfl HK.out.2.1 hl4).mono ?_
    rintro e w9 ⟨rfl, U8⟩
    go_wp2_with fail
    refine (l_holds (un_inj kk) U8 1 () uph3).mono ?_
    rintro e w9' ⟨rfl, rfl⟩
    go_wp2_with fail
    refine (l_holds (un_inj kk) U8 3 () uph4).mono ?_
    rintro e w9' ⟨rfl, rfl⟩
    go_wp2_with fail
    refine (l_release (un_inj kk) U8 (by decide) 1 rfl HK.out.2.2 hl6).mono ?_
    rintro e w10 ⟨rfl, U9⟩
    go_wp2_with fail
    refine (l_holds (un_inj kk) U9 3 () uph5).mono ?_
    rintro e w9' ⟨rfl, rfl⟩
    go_wp2_with fail
    go_ret
    exact ⟨rfl, (e1.out.trans (l_eff U9) (fun _ h => h.elim)).below0⟩
end Go.Proofs.Ytlakklaaapfpeaa.Pure
