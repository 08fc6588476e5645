/- The law RestartChecks of the given program returns true for every input, and its arguments read behind the call as before. Conditions: none beyond the given row's own. (The frame was laid by wip/gen/myprint.py.) -/
import Derived.Test.YtiagbkpggeglgaaRows
import Derived.Test.YtiagbkpggeglgaaMx0
import Derived.Test.YtiagbkpggeglgaaOpens
import Derived.Test.YtiagbkpggeglgaaOpensW
import Derived.Test.YtiagbkpggeglgaaPureRestartChecks
import Derived.WalkKit
import Derived.ProofKit
import Derived.OpenShut
import Derived.ShutString
import Derived.ChangeOld
import Derived.Below
import Derived.SizedLaws
namespace Go.Proofs.Ytiagbkpggeglgaa.restartChecks
open Go.ChangeShapes Go.WideShapes Go.ChangeAt Go.RowKit Go.Proofs.YtiagbkpggeglgaaW.PrintWords Go.Proofs.YtiagbkpggeglgaaW.PrintLast Go.Proofs.YtiagbkpggeglgaaW.PrintMore Go.Proofs.Ytiagbkpggeglgaa.LibW Go.Proofs.Ytiagbkpggeglgaa.M
open Go.ChangeMaps (open_string shut_string)
set_option linter.unusedVariables false
theorem own : ownKnob Try.prog.godebug = none := by kernel_rfl
theorem laidOut : laidOutB Try.prog = true := by kernel_rfl
theorem opens3 : Opens Try.prog 3 (Kd.int .i64) (fun x : Int => (Lit.int .i64 x).wf = true) :=
  Opens.int Try.underlying3 (by kernel_rfl)
theorem opens9 : Opens Try.prog 9 Kd.string (fun x : ByteArray => x.size ≤ maxLen) :=
  Opens.string Try.underlying9 (by kernel_rfl)
theorem opens4 : Opens Try.prog 4 Kd.bool (fun x : Bool => True) :=
  Opens.bool Try.underlying4 (by kernel_rfl)
theorem opens25 : Opens Try.prog 25 k25 (fun x : S25 => (x.f0.size ≤ maxLen ∧ x.f1.size ≤ maxLen ∧ (Lit.int .i64 x.f2).wf = true ∧ (Lit.int .i64 x.f3).wf = true)) :=
  Opens.iso (Opens.struct Try.underlying25 (by kernel_rfl) (fun i t' h => by
    match i with
    | 0 => exact ⟨_, rfl, by simpa using h, by kernel_rfl⟩
    | 1 => exact ⟨_, rfl, by simpa using h, by kernel_rfl⟩
    | 2 => exact ⟨_, rfl, by simpa using h, by kernel_rfl⟩
    | 3 => exact ⟨_, rfl, by simpa using h, by kernel_rfl⟩
    | i + 4 => simp at h) (OpensSeg.cons opens9 (OpensSeg.cons opens9 (OpensSeg.cons opens3 (OpensSeg.one opens3))))) _ (fun x => ⟨x.1, x.2.1, x.2.2.1, x.2.2.2⟩) (fun _ => rfl)
theorem opens26 : Opens Try.prog 26 (Kd.slice 3 (Kd.int .i64)) (fun x : List Int => (x.length ≤ 17592186043904 ∧ ∀ a_ ∈ x, (Lit.int .i64 a_).wf = true)) :=
  Opens.slice Try.underlying26 (by kernel_rfl) opens3 (of_decide_eq_true (by kernel_rfl))
theorem opens56 : Opens Try.prog 56 k56 (fun x : S56 => ((Lit.int .i64 x.f0).wf = true ∧ (Lit.int .i64 x.f1).wf = true ∧ x.f2.size ≤ maxLen)) :=
  Opens.iso (Opens.struct Try.underlying56 (by kernel_rfl) (fun i t' h => by
    match i with
    | 0 => exact ⟨_, rfl, by simpa using h, by kernel_rfl⟩
    | 1 => exact ⟨_, rfl, by simpa using h, by kernel_rfl⟩
    | 2 => exact ⟨_, rfl, by simpa using h, by kernel_rfl⟩
    | i + 3 => simp at h) (OpensSeg.cons opens3 (OpensSeg.cons opens3 (OpensSeg.one opens9)))) _ (fun x => ⟨x.1, x.2.1, x.2.2⟩) (fun _ => rfl)
theorem opens27 : Opens Try.prog 27 (Kd.slice 56 k56) (fun x : List (S56) => (x.length ≤ 17592186043904 ∧ ∀ a_ ∈ x, ((Lit.int .i64 a_.f0).wf = true ∧ (Lit.int .i64 a_.f1).wf = true ∧ a_.f2.size ≤ maxLen))) :=
  Opens.slice Try.underlying27 (by kernel_rfl) opens56 (of_decide_eq_true (by kernel_rfl))
theorem opens58 : Opens Try.prog 58 k58 (fun x : S58 => ((Lit.int .i64 x.f0).wf = true ∧ (Lit.int .i64 x.f1).wf = true ∧ True ∧ (x.f3.length ≤ 17592186043904 ∧ ∀ a_ ∈ x.f3, (Lit.int .i64 a_).wf = true))) :=
  Opens.iso (Opens.struct Try.underlying58 (by kernel_rfl) (fun i t' h => by
    match i with
    | 0 => exact ⟨_, rfl, by simpa using h, by kernel_rfl⟩
    | 1 => exact ⟨_, rfl, by simpa using h, by kernel_rfl⟩
    | 2 => exact ⟨_, rfl, by simpa using h, by kernel_rfl⟩
    | 3 => exact ⟨_, rfl, by simpa using h, by kernel_rfl⟩
    | i + 4 => simp at h) (OpensSeg.cons opens3 (OpensSeg.cons opens3 (OpensSeg.cons opens4 (OpensSeg.one opens26))))) _ (fun x => ⟨x.1, x.2.1, x.2.2.1, x.2.2.2⟩) (fun _ => rfl)
theorem opens28 : Opens Try.prog 28 (Kd.slice 58 k58) (fun x : List (S58) => (x.length ≤ 17592186043904 ∧ ∀ a_ ∈ x, ((Lit.int .i64 a_.f0).wf = true ∧ (Lit.int .i64 a_.f1).wf = true ∧ True ∧ (a_.f3.length ≤ 17592186043904 ∧ ∀ b_ ∈ a_.f3, (Lit.int .i64 b_).wf = true)))) :=
  Opens.slice Try.underlying28 (by kernel_rfl) opens58 (of_decide_eq_true (by kernel_rfl))
theorem opens53 : Opens Try.prog 53 k53 (fun x : S53 => ((Lit.int .i64 x.f0).wf = true ∧ (Lit.int .i64 x.f1).wf = true)) :=
  Opens.iso (Opens.struct Try.underlying53 (by kernel_rfl) (fun i t' h => by
    match i with
    | 0 => exact ⟨_, rfl, by simpa using h, by kernel_rfl⟩
    | 1 => exact ⟨_, rfl, by simpa using h, by kernel_rfl⟩
    | i + 2 => simp at h) (OpensSeg.cons opens3 (OpensSeg.one opens3))) _ (fun x => ⟨x.1, x.2⟩) (fun _ => rfl)
theorem opens29 : Opens Try.prog 29 (Kd.slice 53 k53) (fun x : List (S53) => (x.length ≤ 17592186043904 ∧ ∀ a_ ∈ x, ((Lit.int .i64 a_.f0).wf = true ∧ (Lit.int .i64 a_.f1).wf = true))) :=
  Opens.slice Try.underlying29 (by kernel_rfl) opens53 (of_decide_eq_true (by kernel_rfl))
theorem opens31 : Opens Try.prog 31 k31 (fun x : S31 => ((Lit.int .i64 x.f0).wf = true ∧ (Lit.int .i64 x.f1).wf = true ∧ (Lit.int .i64 x.f2).wf = true ∧ (Lit.int .i64 x.f3).wf = true ∧ x.f4.size ≤ maxLen ∧ True ∧ (x.f6.f0.size ≤ maxLen ∧ x.f6.f1.size ≤ maxLen ∧ (Lit.int .i64 x.f6.f2).wf = true ∧ (Lit.int .i64 x.f6.f3).wf = true) ∧ (x.f7.length ≤ 17592186043904 ∧ ∀ a_ ∈ x.f7, (Lit.int .i64 a_).wf = true) ∧ (x.f8.length ≤ 17592186043904 ∧ ∀ a_ ∈ x.f8, ((Lit.int .i64 a_.f0).wf = true ∧ (Lit.int .i64 a_.f1).wf = true ∧ a_.f2.size ≤ maxLen)) ∧ (x.f9.length ≤ 17592186043904 ∧ ∀ a_ ∈ x.f9, ((Lit.int .i64 a_.f0).wf = true ∧ (Lit.int .i64 a_.f1).wf = true ∧ True ∧ (a_.f3.length ≤ 17592186043904 ∧ ∀ b_ ∈ a_.f3, (Lit.int .i64 b_).wf = true))) ∧ (x.f10.length ≤ 17592186043904 ∧ ∀ a_ ∈ x.f10, ((Lit.int .i64 a_.f0).wf = true ∧ (Lit.int .i64 a_.f1).wf = true)))) :=
  Opens.iso (Opens.struct Try.underlying31 (by kernel_rfl) (fun i t' h => by
    match i with
    | 0 => exact ⟨_, rfl, by simpa using h, by kernel_rfl⟩
    | 1 => exact ⟨_, rfl, by simpa using h, by kernel_rfl⟩
    | 2 => exact ⟨_, rfl, by simpa using h, by kernel_rfl⟩
    | 3 => exact ⟨_, rfl, by simpa using h, by kernel_rfl⟩
    | 4 => exact ⟨_, rfl, by simpa using h, by kernel_rfl⟩
    | 5 => exact ⟨_, rfl, by simpa using h, by kernel_rfl⟩
    | 6 => exact ⟨_, rfl, by simpa using h, by kernel_rfl⟩
    | 7 => exact ⟨_, rfl, by simpa using h, by kernel_rfl⟩
    | 8 => exact ⟨_, rfl, by simpa using h, by kernel_rfl⟩
    | 9 => exact ⟨_, rfl, by simpa using h, by kernel_rfl⟩
    | 10 => exact ⟨_, rfl, by simpa using h, by kernel_rfl⟩
    | i + 11 => simp at h) (OpensSeg.cons opens3 (OpensSeg.cons opens3 (OpensSeg.cons opens3 (OpensSeg.cons opens3 (OpensSeg.cons opens9 (OpensSeg.cons opens4 (OpensSeg.cons opens25 (OpensSeg.cons opens26 (OpensSeg.cons opens27 (OpensSeg.cons opens28 (OpensSeg.one opens29)))))))))))) _ (fun x => ⟨x.1, x.2.1, x.2.2.1, x.2.2.2.1, x.2.2.2.2.1, x.2.2.2.2.2.1, x.2.2.2.2.2.2.1, x.2.2.2.2.2.2.2.1, x.2.2.2.2.2.2.2.2.1, x.2.2.2.2.2.2.2.2.2.1, x.2.2.2.2.2.2.2.2.2.2⟩) (fun _ => rfl)
theorem opens22 : Opens Try.prog 22 (Kd.slice 31 k31) (fun x : List (S31) => (x.length ≤ 17592186043904 ∧ ∀ a_ ∈ x, ((Lit.int .i64 a_.f0).wf = true ∧ (Lit.int .i64 a_.f1).wf = true ∧ (Lit.int .i64 a_.f2).wf = true ∧ (Lit.int .i64 a_.f3).wf = true ∧ a_.f4.size ≤ maxLen ∧ True ∧ (a_.f6.f0.size ≤ maxLen ∧ a_.f6.f1.size ≤ maxLen ∧ (Lit.int .i64 a_.f6.f2).wf = true ∧ (Lit.int .i64 a_.f6.f3).wf = true) ∧ (a_.f7.length ≤ 17592186043904 ∧ ∀ b_ ∈ a_.f7, (Lit.int .i64 b_).wf = true) ∧ (a_.f8.length ≤ 17592186043904 ∧ ∀ b_ ∈ a_.f8, ((Lit.int .i64 b_.f0).wf = true ∧ (Lit.int .i64 b_.f1).wf = true ∧ b_.f2.size ≤ maxLen)) ∧ (a_.f9.length ≤ 17592186043904 ∧ ∀ b_ ∈ a_.f9, ((Lit.int .i64 b_.f0).wf = true ∧ (Lit.int .i64 b_.f1).wf = true ∧ True ∧ (b_.f3.length ≤ 17592186043904 ∧ ∀ a_ ∈ b_.f3, (Lit.int .i64 a_).wf = true))) ∧ (a_.f10.length ≤ 17592186043904 ∧ ∀ b_ ∈ a_.f10, ((Lit.int .i64 b_.f0).wf = true ∧ (Lit.int .i64 b_.f1).wf = true))))) :=
  Opens.slice Try.underlying22 (by kernel_rfl) opens31 (of_decide_eq_true (by kernel_rfl))
set_option maxRecDepth 100000 in
theorem lifted (os : Os) (started : os.Started) (H : Type) (enc : TypeId × Value → H) :
    ReturnsInHanded {} Try.checked os 3 .any (Rows.restartChecksSpec.pre6 enc Try.prog Try.f3 Rows.restartChecksRow.domain false) (Rows.restartChecksSpec.post enc Try.prog Try.f3 false true false false) := by
  refine returnsInHanded_of_change_sized (C := Try.checked) own started (by kernel_rfl) Try.func3
    (ChangeSpec.witness6 (enc := enc) (C := Try.checked) false ⟨#[], #[.slice none 0 0, .int .i64 0], []⟩ 8 (by kernel_rfl) (by kernel_rfl) (by kernel_rfl) (by kernel_rfl)) ?_
  intro W base args ds gs before hval0 hW hcnd hsz0 _
  have hsz : (DataW.weightsEach Try.prog (Try.f3.params.toList ++ Rows.restartChecksSpec.plain.varTypes Try.prog) (ds ++ gs)).all (· ≤ reachBytes) = true := hsz0
  have hval : ∀ (j : Nat) t v, Try.f3.params[j]? = some t → args[j]? = some v → Value.okWide Try.prog W .any base t v := hval0
  have hW' := hW
  obtain ⟨p, q, hA0, hV, rfl, hfz, hnd⟩ := hW
  have hA : DataW.TrodAll enc Try.prog W 0 (fun _ => true) true Try.f3.params.toList args.toList ds p := hA0
  rw [Try.params3] at hA hval hsz
  obtain ⟨v0, vs0, d0, ds0, p0, q0, hargs, rfl, rfl, h0, r0⟩ := trodAll_cons hA
  obtain ⟨v1, vs1, d1, ds1, p1, q1, rfl, rfl, rfl, h1, r1⟩ := trodAll_cons r0
  obtain ⟨rfl, rfl, rfl⟩ := trodAll_nil r1
  obtain rfl : args = #[v0, v1] := by cases args; simp_all
  obtain ⟨rfl, rfl⟩ := trodVars_none hV
  obtain ⟨a0, len0, cap0, rfl⟩ := okWide_slice Try.underlying22 (hval 0 22 v0 rfl rfl)
  have k0 := h0
  have lt0 : ∀ x ∈ p0, x.block < W.heap.size := by obtain ⟨m, hm⟩ := k0; exact DataW.trod_lt m _ _ _ hm
  obtain ⟨l0, hl0, hr0, hc0, t0⟩ := opens_slice Try.underlying22 opens31 h0 (fun n hn => by have := List.all_eq_true.1 hsz n (DataW.weights_mem_each (j := 0) rfl rfl n hn); simpa using this) (of_decide_eq_true (by kernel_rfl))
  subst hl0
  have y0 : l0.length * 200 ≤ 140737488351232 := Go.Proofs.Ytiagbkpggeglgaa.Lib.sized_opens hsz (j := 0) (t := 22) rfl rfl Try.underlying22 (by kernel_rfl) k0
  obtain ⟨a1, rfl, rfl, rfl, w1⟩ := open_int Try.underlying3 (hval 1 3 v1 rfl rfl) h1
  clear hA0 hval0 hsz0 hsz
  refine (Pure.RestartChecks_walk a0 cap0 l0 a1 W t0 y0 w1 hr0 hc0).mono fun e W' ⟨he, bel⟩ => ?_
  subst he
  exact ⟨_, rfl, _, _, _, [], _, [], hW', trodAll_mk1 (shut_bool Try.underlying4 _), (trodAll_cons_mk (Below.trod laidOut (by kernel_rfl) (of_decide_eq_true (by kernel_rfl)) k0 bel lt0) (trodAll_cons_mk (shut_int Try.underlying3 w1) trodAll_mk0)), rfl, bel.frame _, fun h => by cases h⟩
theorem over : Rows.restartChecksRow.holds Try.pinned (OpenSpec.ofChange Rows.restartChecksSpec) :=
  OpenClaim.holds_of_wide 3 Try.f3 rfl rfl rfl rfl rfl rfl rfl ⟨rfl, rfl, rfl, rfl, rfl⟩ rfl rfl rfl rfl rfl (by kernel_rfl) Try.func3 (by kernel_rfl)
    (of_decide_eq_true (by kernel_rfl)) (by unfold Func.isWrapper; first | (rw [if_pos (by decide +kernel)]; kernel_rfl) | (rw [if_neg (by decide +kernel)]; exact ⟨rfl, rfl⟩))
    (fun os started H enc _ => lifted os started H enc)
theorem proved : Rows.RestartChecksSaid := over
#print axioms proved
end Go.Proofs.Ytiagbkpggeglgaa.restartChecks
namespace Go.Proofs.Ytiagbkpggeglgaa
/-- The row, under a short name, for the claim. -/
theorem restartChecks_holds : Rows.RestartChecksSaid := restartChecks.proved
end Go.Proofs.Ytiagbkpggeglgaa
