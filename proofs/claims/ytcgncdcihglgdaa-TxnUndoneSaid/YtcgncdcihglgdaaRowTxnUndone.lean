/- The law TxnUndone of the given program returns true for every input, and its arguments read behind the call as before. Conditions: none beyond the given row's own. (The frame was laid by wip/gen/myprint.py.) -/
import Derived.Test.YtcgncdcihglgdaaRows
import Derived.Test.YtcgncdcihglgdaaMx0
import Derived.Test.YtcgncdcihglgdaaOpens
import Derived.Test.YtcgncdcihglgdaaPureTxnUndone
import Derived.WalkKit
import Derived.ProofKit
import Derived.OpenShut
import Derived.ShutString
import Derived.ChangeOld
import Derived.Below
import Derived.SizedLaws
namespace Go.Proofs.Ytcgncdcihglgdaa.txnUndone
open Go.ChangeShapes Go.WideShapes Go.ChangeAt Go.RowKit Go.Proofs.YtcgncdcihglgdaaW.PrintWords Go.Proofs.YtcgncdcihglgdaaW.PrintLast Go.Proofs.YtcgncdcihglgdaaW.PrintMore Go.Proofs.Ytcgncdcihglgdaa.Lib Go.Proofs.Ytcgncdcihglgdaa.M
open Go.ChangeMaps (open_string shut_string)
set_option linter.unusedVariables false
theorem own : ownKnob Try.prog.godebug = none := by kernel_rfl
theorem laidOut : laidOutB Try.prog = true := by kernel_rfl
theorem opens3 : Opens Try.prog 3 (Kd.int .i64) (fun x : Int => (Lit.int .i64 x).wf = true) :=
  Opens.int Try.underlying3 (by kernel_rfl)
theorem opens22 : Opens Try.prog 22 (Kd.slice 3 (Kd.int .i64)) (fun x : List Int => (x.length ≤ maxLen ∧ ∀ a_ ∈ x, (Lit.int .i64 a_).wf = true)) :=
  Opens.slice Try.underlying22 (by kernel_rfl) opens3
theorem opens35 : Opens Try.prog 35 (Kd.slice 22 (Kd.slice 3 (Kd.int .i64))) (fun x : List (List Int) => (x.length ≤ maxLen ∧ ∀ a_ ∈ x, (a_.length ≤ maxLen ∧ ∀ b_ ∈ a_, (Lit.int .i64 b_).wf = true))) :=
  Opens.slice Try.underlying35 (by kernel_rfl) opens22
set_option maxRecDepth 100000 in
theorem lifted (os : Os) (started : os.Started) (H : Type) (enc : TypeId × Value → H) :
    ReturnsInHanded {} Try.checked os 4 .any (Rows.txnUndoneSpec.pre6 enc Try.prog Try.f4 Rows.txnUndoneRow.domain false) (Rows.txnUndoneSpec.post enc Try.prog Try.f4 false true false false) := by
  refine returnsInHanded_of_change_sized (C := Try.checked) own started (by kernel_rfl) Try.func4
    (ChangeSpec.witness6 (enc := enc) (C := Try.checked) false ⟨#[], #[.slice none 0 0, .int .i64 0], []⟩ 8 (by kernel_rfl) (by kernel_rfl) (by kernel_rfl) (by kernel_rfl)) ?_
  intro W base args ds gs before hval0 hW hcnd hsz0 _
  have hsz : (DataW.weightsEach Try.prog (Try.f4.params.toList ++ Rows.txnUndoneSpec.plain.varTypes Try.prog) (ds ++ gs)).all (· ≤ reachBytes) = true := hsz0
  have hval : ∀ (j : Nat) t v, Try.f4.params[j]? = some t → args[j]? = some v → Value.okWide Try.prog W .any base t v := hval0
  have hW' := hW
  obtain ⟨p, q, hA0, hV, rfl, hfz, hnd⟩ := hW
  have hA : DataW.TrodAll enc Try.prog W 0 (fun _ => true) true Try.f4.params.toList args.toList ds p := hA0
  rw [Try.params4] at hA hval hsz
  obtain ⟨v0, vs0, d0, ds0, p0, q0, hargs, rfl, rfl, h0, r0⟩ := trodAll_cons hA
  obtain ⟨v1, vs1, d1, ds1, p1, q1, rfl, rfl, rfl, h1, r1⟩ := trodAll_cons r0
  obtain ⟨rfl, rfl, rfl⟩ := trodAll_nil r1
  obtain rfl : args = #[v0, v1] := by cases args; simp_all
  obtain ⟨rfl, rfl⟩ := trodVars_none hV
  obtain ⟨a0, len0, cap0, rfl⟩ := okWide_slice Try.underlying35 (hval 0 35 v0 rfl rfl)
  have k0 := h0
  have lt0 : ∀ x ∈ p0, x.block < W.heap.size := by obtain ⟨m, hm⟩ := k0; exact DataW.trod_lt m _ _ _ hm
  obtain ⟨l0, hl0, hr0, hc0, t0⟩ := opens_slice Try.underlying35 opens22 h0
  subst hl0
  have y0 : l0.length * 24 ≤ 140737488351232 := sized_opens hsz (j := 0) (t := 35) rfl rfl Try.underlying35 (by kernel_rfl) k0
  obtain ⟨a1, rfl, rfl, rfl, w1⟩ := open_int Try.underlying3 (hval 1 3 v1 rfl rfl) h1
  clear hA0 hval0 hsz0 hsz
  refine (Pure.TxnUndone_walk a0 cap0 l0 a1 W t0 y0 w1 hr0 hc0).mono fun e W' ⟨he, bel⟩ => ?_
  subst he
  exact ⟨_, rfl, _, _, _, [], _, [], hW', trodAll_mk1 (shut_bool Try.underlying4 _), (trodAll_cons_mk (Below.trod laidOut (by kernel_rfl) (of_decide_eq_true (by kernel_rfl)) k0 bel lt0) (trodAll_cons_mk (shut_int Try.underlying3 w1) trodAll_mk0)), rfl, bel.frame _, fun h => by cases h⟩
theorem over : Rows.txnUndoneRow.holds Try.pinned (OpenSpec.ofChange Rows.txnUndoneSpec) :=
  OpenClaim.holds_of_wide 4 Try.f4 rfl rfl rfl rfl rfl rfl rfl ⟨rfl, rfl, rfl, rfl, rfl⟩ rfl rfl rfl rfl rfl (by kernel_rfl) Try.func4 (by kernel_rfl)
    (of_decide_eq_true (by kernel_rfl)) (by unfold Func.isWrapper; first | (rw [if_pos (by decide +kernel)]; kernel_rfl) | (rw [if_neg (by decide +kernel)]; exact ⟨rfl, rfl⟩))
    (fun os started H enc _ => lifted os started H enc)
theorem proved : Rows.TxnUndoneSaid := over
#print axioms proved
end Go.Proofs.Ytcgncdcihglgdaa.txnUndone
namespace Go.Proofs.Ytcgncdcihglgdaa
/-- The row, under a short name, for the claim. -/
theorem txnUndone_holds : Rows.TxnUndoneSaid := txnUndone.proved
end Go.Proofs.Ytcgncdcihglgdaa
