/- The law LockAlone of the given program returns true for every input, and its arguments read behind the call as before. Conditions: none beyond the given row's own. (The frame was laid by wip/gen/myprint.py.) -/
import Derived.Test.YtlakklaaapfpeaaRows
import Derived.Test.YtlakklaaapfpeaaMx0
import Derived.Test.YtlakklaaapfpeaaOpens
import Derived.Test.YtlakklaaapfpeaaPureLockAlone
import Derived.WalkKit
import Derived.ProofKit
import Derived.OpenShut
import Derived.ShutString
import Derived.ChangeOld
import Derived.Below
import Derived.SizedLaws
namespace Go.Proofs.Ytlakklaaapfpeaa.lockAlone
open Go.ChangeShapes Go.WideShapes Go.ChangeAt Go.RowKit Go.Proofs.YtlakklaaapfpeaaW.PrintWords Go.Proofs.YtlakklaaapfpeaaW.PrintLast Go.Proofs.YtlakklaaapfpeaaW.PrintMore Go.Proofs.Ytlakklaaapfpeaa.Lib Go.Proofs.Ytlakklaaapfpeaa.M
open Go.ChangeMaps (open_string shut_string)
set_option linter.unusedVariables false
theorem own : ownKnob Try.prog.godebug = none := by kernel_rfl
theorem laidOut : laidOutB Try.prog = true := by kernel_rfl
theorem opens3 : Opens Try.prog 3 (Kd.int .i64) (fun x : Int => (Lit.int .i64 x).wf = true) :=
  Opens.int Try.underlying3 (by kernel_rfl)
theorem opens9 : Opens Try.prog 9 Kd.string (fun x : ByteArray => x.size ≤ maxLen) :=
  Opens.string Try.underlying9 (by kernel_rfl)
theorem opens4 : Opens Try.prog 4 Kd.bool (fun x : Bool => True) :=
  Opens.bool Try.underlying4 (by kernel_rfl)
theorem opens30 : Opens Try.prog 30 k30 (fun x : S30 => ((Lit.int .i64 x.f0).wf = true ∧ (Lit.int .i64 x.f1).wf = true ∧ x.f2.size ≤ maxLen ∧ True)) :=
  Opens.iso (Opens.struct Try.underlying30 (by kernel_rfl) (fun i t' h => by
    match i with
    | 0 => exact ⟨_, rfl, by simpa using h, by kernel_rfl⟩
    | 1 => exact ⟨_, rfl, by simpa using h, by kernel_rfl⟩
    | 2 => exact ⟨_, rfl, by simpa using h, by kernel_rfl⟩
    | 3 => exact ⟨_, rfl, by simpa using h, by kernel_rfl⟩
    | i + 4 => simp at h) (OpensSeg.cons opens3 (OpensSeg.cons opens3 (OpensSeg.cons opens9 (OpensSeg.one opens4))))) _ (fun x => ⟨x.1, x.2.1, x.2.2.1, x.2.2.2⟩) (fun _ => rfl)
theorem opens22 : Opens Try.prog 22 (Kd.slice 30 k30) (fun x : List (S30) => (x.length ≤ maxLen ∧ ∀ a_ ∈ x, ((Lit.int .i64 a_.f0).wf = true ∧ (Lit.int .i64 a_.f1).wf = true ∧ a_.f2.size ≤ maxLen ∧ True))) :=
  Opens.slice Try.underlying22 (by kernel_rfl) opens30
set_option maxRecDepth 100000 in
theorem lifted (os : Os) (started : os.Started) (H : Type) (enc : TypeId × Value → H) :
    ReturnsInHanded {} Try.checked os 3 .any (Rows.lockAloneSpec.pre6 enc Try.prog Try.f3 Rows.lockAloneRow.domain false) (Rows.lockAloneSpec.post enc Try.prog Try.f3 false true false false) := by
  refine returnsInHanded_of_change_sized (C := Try.checked) own started (by kernel_rfl) Try.func3
    (ChangeSpec.witness6 (enc := enc) (C := Try.checked) false ⟨#[], #[.slice none 0 0], []⟩ 8 (by kernel_rfl) (by kernel_rfl) (by kernel_rfl) (by kernel_rfl)) ?_
  intro W base args ds gs before hval0 hW hcnd hsz0 _
  have hsz : (DataW.weightsEach Try.prog (Try.f3.params.toList ++ Rows.lockAloneSpec.plain.varTypes Try.prog) (ds ++ gs)).all (· ≤ reachBytes) = true := hsz0
  have hval : ∀ (j : Nat) t v, Try.f3.params[j]? = some t → args[j]? = some v → Value.okWide Try.prog W .any base t v := hval0
  have hW' := hW
  obtain ⟨p, q, hA0, hV, rfl, hfz, hnd⟩ := hW
  have hA : DataW.TrodAll enc Try.prog W 0 (fun _ => true) true Try.f3.params.toList args.toList ds p := hA0
  rw [Try.params3] at hA hval hsz
  obtain ⟨v0, vs0, d0, ds0, p0, q0, hargs, rfl, rfl, h0, r0⟩ := trodAll_cons hA
  obtain ⟨rfl, rfl, rfl⟩ := trodAll_nil r0
  obtain rfl : args = #[v0] := by cases args; simp_all
  obtain ⟨rfl, rfl⟩ := trodVars_none hV
  obtain ⟨a0, len0, cap0, rfl⟩ := okWide_slice Try.underlying22 (hval 0 22 v0 rfl rfl)
  have k0 := h0
  have lt0 : ∀ x ∈ p0, x.block < W.heap.size := by obtain ⟨m, hm⟩ := k0; exact DataW.trod_lt m _ _ _ hm
  obtain ⟨l0, hl0, hr0, hc0, t0⟩ := opens_slice Try.underlying22 opens30 h0
  subst hl0
  have y0 : l0.length * 40 ≤ 140737488351232 := sized_opens hsz (j := 0) (t := 22) rfl rfl Try.underlying22 (by kernel_rfl) k0
  clear hA0 hval0 hsz0 hsz
  refine (Pure.LockAlone_walk a0 cap0 l0 W t0 y0 hr0 hc0).mono fun e W' ⟨he, bel⟩ => ?_
  subst he
  exact ⟨_, rfl, _, _, _, [], _, [], hW', trodAll_mk1 (shut_bool Try.underlying4 _), (trodAll_cons_mk (Below.trod laidOut (by kernel_rfl) (of_decide_eq_true (by kernel_rfl)) k0 bel lt0) trodAll_mk0), rfl, bel.frame _, fun h => by cases h⟩
theorem over : Rows.lockAloneRow.holds Try.pinned (OpenSpec.ofChange Rows.lockAloneSpec) :=
  OpenClaim.holds_of_wide 3 Try.f3 rfl rfl rfl rfl rfl rfl rfl ⟨rfl, rfl, rfl, rfl, rfl⟩ rfl rfl rfl rfl rfl (by kernel_rfl) Try.func3 (by kernel_rfl)
    (of_decide_eq_true (by kernel_rfl)) (by unfold Func.isWrapper; first | (rw [if_pos (by decide +kernel)]; kernel_rfl) | (rw [if_neg (by decide +kernel)]; exact ⟨rfl, rfl⟩))
    (fun os started H enc _ => lifted os started H enc)
theorem proved : Rows.LockAloneSaid := over
#print axioms proved
end Go.Proofs.Ytlakklaaapfpeaa.lockAlone
namespace Go.Proofs.Ytlakklaaapfpeaa
/-- The row, under a short name, for the claim. -/
theorem lockAlone_holds : Rows.LockAloneSaid := lockAlone.proved
end Go.Proofs.Ytlakklaaapfpeaa
