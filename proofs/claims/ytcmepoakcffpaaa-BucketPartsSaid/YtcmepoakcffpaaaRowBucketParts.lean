/- The law BucketParts of the given program returns true for every input, and its arguments read behind the call as before. Conditions: none beyond the given row's own. (The frame was laid by wip/gen/myprint.py.) -/
import Derived.Test.YtcmepoakcffpaaaRows
import Derived.Test.YtcmepoakcffpaaaPTx0
import Derived.Test.YtcmepoakcffpaaaOpens
import Derived.Test.YtcmepoakcffpaaaPureBucketParts
import Derived.WalkKit
import Derived.ProofKit
import Derived.OpenShut
import Derived.ShutString
import Derived.ChangeOld
import Derived.Below
import Derived.SizedLaws
namespace Go.Proofs.Ytcmepoakcffpaaa.bucketParts
open Go.ChangeShapes Go.WideShapes Go.ChangeAt Go.RowKit Go.Proofs.YtcmepoakcffpaaaW.PrintWords Go.Proofs.YtcmepoakcffpaaaW.PrintLast Go.Proofs.YtcmepoakcffpaaaW.PrintMore Go.Proofs.Ytcmepoakcffpaaa.Lib Go.Proofs.Ytcmepoakcffpaaa.PT
open Go.ChangeMaps (open_string shut_string)
set_option linter.unusedVariables false
theorem own : ownKnob Try.prog.godebug = none := by kernel_rfl
theorem laidOut : laidOutB Try.prog = true := by kernel_rfl
theorem opens9 : Opens Try.prog 9 Kd.string (fun x : ByteArray => x.size ≤ maxLen) :=
  Opens.string Try.underlying9 (by kernel_rfl)
theorem opens3 : Opens Try.prog 3 (Kd.int .i64) (fun x : Int => (Lit.int .i64 x).wf = true) :=
  Opens.int Try.underlying3 (by kernel_rfl)
theorem opens25 : Opens Try.prog 25 k25 (fun x : S25 => (x.f0.size ≤ maxLen ∧ x.f1.size ≤ maxLen ∧ (Lit.int .i64 x.f2).wf = true ∧ (Lit.int .i64 x.f3).wf = true)) :=
  Opens.iso (Opens.struct Try.underlying25 (by kernel_rfl) (fun i t' h => by
    match i with
    | 0 => exact ⟨_, rfl, by simpa using h, by kernel_rfl⟩
    | 1 => exact ⟨_, rfl, by simpa using h, by kernel_rfl⟩
    | 2 => exact ⟨_, rfl, by simpa using h, by kernel_rfl⟩
    | 3 => exact ⟨_, rfl, by simpa using h, by kernel_rfl⟩
    | i + 4 => simp at h) (OpensSeg.cons opens9 (OpensSeg.cons opens9 (OpensSeg.cons opens3 (OpensSeg.one opens3))))) _ (fun x => ⟨x.1, x.2.1, x.2.2.1, x.2.2.2⟩) (fun _ => rfl)
theorem opens40 : Opens Try.prog 40 (Kd.slice 25 k25) (fun x : List (S25) => (x.length ≤ maxLen ∧ ∀ a_ ∈ x, (a_.f0.size ≤ maxLen ∧ a_.f1.size ≤ maxLen ∧ (Lit.int .i64 a_.f2).wf = true ∧ (Lit.int .i64 a_.f3).wf = true))) :=
  Opens.slice Try.underlying40 (by kernel_rfl) opens25
set_option maxRecDepth 100000 in
theorem lifted (os : Os) (started : os.Started) (H : Type) (enc : TypeId × Value → H) :
    ReturnsInHanded {} Try.checked os 7 .any (Rows.bucketPartsSpec.pre6 enc Try.prog Try.f7 Rows.bucketPartsRow.domain false) (Rows.bucketPartsSpec.post enc Try.prog Try.f7 false true false false) := by
  refine returnsInHanded_of_change_sized (C := Try.checked) own started (by kernel_rfl) Try.func7
    (ChangeSpec.witness6 (enc := enc) (C := Try.checked) false ⟨#[], #[.slice none 0 0, .int .i64 0], []⟩ 8 (by kernel_rfl) (by kernel_rfl) (by kernel_rfl) (by kernel_rfl)) ?_
  intro W base args ds gs before hval0 hW hcnd hsz0 _
  have hsz : (DataW.weightsEach Try.prog (Try.f7.params.toList ++ Rows.bucketPartsSpec.plain.varTypes Try.prog) (ds ++ gs)).all (· ≤ reachBytes) = true := hsz0
  have hval : ∀ (j : Nat) t v, Try.f7.params[j]? = some t → args[j]? = some v → Value.okWide Try.prog W .any base t v := hval0
  have hW' := hW
  obtain ⟨p, q, hA0, hV, rfl, hfz, hnd⟩ := hW
  have hA : DataW.TrodAll enc Try.prog W 0 (fun _ => true) true Try.f7.params.toList args.toList ds p := hA0
  rw [Try.params7] at hA hval hsz
  obtain ⟨v0, vs0, d0, ds0, p0, q0, hargs, rfl, rfl, h0, r0⟩ := trodAll_cons hA
  obtain ⟨v1, vs1, d1, ds1, p1, q1, rfl, rfl, rfl, h1, r1⟩ := trodAll_cons r0
  obtain ⟨rfl, rfl, rfl⟩ := trodAll_nil r1
  obtain rfl : args = #[v0, v1] := by cases args; simp_all
  obtain ⟨rfl, rfl⟩ := trodVars_none hV
  obtain ⟨a0, len0, cap0, rfl⟩ := okWide_slice Try.underlying40 (hval 0 40 v0 rfl rfl)
  have k0 := h0
  have lt0 : ∀ x ∈ p0, x.block < W.heap.size := by obtain ⟨m, hm⟩ := k0; exact DataW.trod_lt m _ _ _ hm
  obtain ⟨l0, hl0, hr0, hc0, t0⟩ := opens_slice Try.underlying40 opens25 h0
  subst hl0
  have y0 : l0.length * 48 ≤ 140737488351232 := sized_opens hsz (j := 0) (t := 40) rfl rfl Try.underlying40 (by kernel_rfl) k0
  obtain ⟨a1, rfl, rfl, rfl, w1⟩ := open_int Try.underlying3 (hval 1 3 v1 rfl rfl) h1
  clear hA0 hval0 hsz0 hsz
  refine (Pure.BucketParts_walk a0 cap0 l0 a1 W t0 y0 w1 hr0 hc0).mono fun e W' ⟨he, bel⟩ => ?_
  subst he
  exact ⟨_, rfl, _, _, _, [], _, [], hW', trodAll_mk1 (shut_bool Try.underlying4 _), (trodAll_cons_mk (Below.trod laidOut (by kernel_rfl) (of_decide_eq_true (by kernel_rfl)) k0 bel lt0) (trodAll_cons_mk (shut_int Try.underlying3 w1) trodAll_mk0)), rfl, bel.frame _, fun h => by cases h⟩
theorem over : Rows.bucketPartsRow.holds Try.pinned (OpenSpec.ofChange Rows.bucketPartsSpec) :=
  OpenClaim.holds_of_wide 7 Try.f7 rfl rfl rfl rfl rfl rfl rfl ⟨rfl, rfl, rfl, rfl, rfl⟩ rfl rfl rfl rfl rfl (by kernel_rfl) Try.func7 (by kernel_rfl)
    (of_decide_eq_true (by kernel_rfl)) (by unfold Func.isWrapper; first | (rw [if_pos (by decide +kernel)]; kernel_rfl) | (rw [if_neg (by decide +kernel)]; exact ⟨rfl, rfl⟩))
    (fun os started H enc _ => lifted os started H enc)
theorem proved : Rows.BucketPartsSaid := over
#print axioms proved
end Go.Proofs.Ytcmepoakcffpaaa.bucketParts
namespace Go.Proofs.Ytcmepoakcffpaaa
/-- The row, under a short name, for the claim. -/
theorem bucketParts_holds : Rows.BucketPartsSaid := bucketParts.proved
end Go.Proofs.Ytcmepoakcffpaaa
