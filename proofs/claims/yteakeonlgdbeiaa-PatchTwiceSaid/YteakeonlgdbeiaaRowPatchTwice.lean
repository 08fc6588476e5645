/- The law PatchTwice of the given program returns true for every input, and its arguments read behind the call as before. Conditions: none beyond the given row's own. (The frame was laid by wip/gen/myprint.py.) -/
import Derived.Test.YteakeonlgdbeiaaRows
import Derived.Test.YteakeonlgdbeiaaPPx7
import Derived.Test.YteakeonlgdbeiaaOpens
import Derived.Test.YteakeonlgdbeiaaPurePatchTwice
import Derived.WalkKit
import Derived.ProofKit
import Derived.OpenShut
import Derived.ShutString
import Derived.ChangeOld
import Derived.Below
import Derived.SizedLaws
namespace Go.Proofs.Yteakeonlgdbeiaa.patchTwice
open Go.ChangeShapes Go.WideShapes Go.ChangeAt Go.RowKit Go.Proofs.YteakeonlgdbeiaaW.PrintWords Go.Proofs.YteakeonlgdbeiaaW.PrintLast Go.Proofs.YteakeonlgdbeiaaW.PrintMore Go.Proofs.Yteakeonlgdbeiaa.Lib Go.Proofs.Yteakeonlgdbeiaa.PP
open Go.ChangeMaps (open_string shut_string)
set_option linter.unusedVariables false
theorem own : ownKnob Try.prog.godebug = none := by kernel_rfl
theorem laidOut : laidOutB Try.prog = true := by kernel_rfl
theorem opens3 : Opens Try.prog 3 (Kd.int .i64) (fun x : Int => (Lit.int .i64 x).wf = true) :=
  Opens.int Try.underlying3 (by kernel_rfl)
theorem opens9 : Opens Try.prog 9 Kd.string (fun x : ByteArray => x.size ≤ maxLen) :=
  Opens.string Try.underlying9 (by kernel_rfl)
theorem opens26 : Opens Try.prog 26 k26 (fun x : S26 => ((Lit.int .i64 x.f0).wf = true ∧ (Lit.int .i64 x.f1).wf = true ∧ x.f2.size ≤ maxLen)) :=
  Opens.iso (Opens.struct Try.underlying26 (by kernel_rfl) (fun i t' h => by
    match i with
    | 0 => exact ⟨_, rfl, by simpa using h, by kernel_rfl⟩
    | 1 => exact ⟨_, rfl, by simpa using h, by kernel_rfl⟩
    | 2 => exact ⟨_, rfl, by simpa using h, by kernel_rfl⟩
    | i + 3 => simp at h) (OpensSeg.cons opens3 (OpensSeg.cons opens3 (OpensSeg.one opens9)))) _ (fun x => ⟨x.1, x.2.1, x.2.2⟩) (fun _ => rfl)
theorem opens30 : Opens Try.prog 30 (Kd.slice 26 k26) (fun x : List (S26) => (x.length ≤ maxLen ∧ ∀ a_ ∈ x, ((Lit.int .i64 a_.f0).wf = true ∧ (Lit.int .i64 a_.f1).wf = true ∧ a_.f2.size ≤ maxLen))) :=
  Opens.slice Try.underlying30 (by kernel_rfl) opens26
set_option maxRecDepth 100000 in
theorem lifted (os : Os) (started : os.Started) (H : Type) (enc : TypeId × Value → H) :
    ReturnsInHanded {} Try.checked os 7 .any (Rows.patchTwiceSpec.pre6 enc Try.prog Try.f7 Rows.patchTwiceRow.domain false) (Rows.patchTwiceSpec.post enc Try.prog Try.f7 false true false false) := by
  refine returnsInHanded_of_change_sized (C := Try.checked) own started (by kernel_rfl) Try.func7
    (ChangeSpec.witness6 (enc := enc) (C := Try.checked) false ⟨#[], #[.string ByteArray.empty, .slice none 0 0, .int .i64 0], []⟩ 8 (by kernel_rfl) (by kernel_rfl) (by kernel_rfl) (by kernel_rfl)) ?_
  intro W base args ds gs before hval0 hW hcnd hsz0 _
  have hsz : (DataW.weightsEach Try.prog (Try.f7.params.toList ++ Rows.patchTwiceSpec.plain.varTypes Try.prog) (ds ++ gs)).all (· ≤ reachBytes) = true := hsz0
  have hval : ∀ (j : Nat) t v, Try.f7.params[j]? = some t → args[j]? = some v → Value.okWide Try.prog W .any base t v := hval0
  have hW' := hW
  obtain ⟨p, q, hA0, hV, rfl, hfz, hnd⟩ := hW
  have hA : DataW.TrodAll enc Try.prog W 0 (fun _ => true) true Try.f7.params.toList args.toList ds p := hA0
  rw [Try.params7] at hA hval hsz
  obtain ⟨v0, vs0, d0, ds0, p0, q0, hargs, rfl, rfl, h0, r0⟩ := trodAll_cons hA
  obtain ⟨v1, vs1, d1, ds1, p1, q1, rfl, rfl, rfl, h1, r1⟩ := trodAll_cons r0
  obtain ⟨v2, vs2, d2, ds2, p2, q2, rfl, rfl, rfl, h2, r2⟩ := trodAll_cons r1
  obtain ⟨rfl, rfl, rfl⟩ := trodAll_nil r2
  obtain rfl : args = #[v0, v1, v2] := by cases args; simp_all
  obtain ⟨rfl, rfl⟩ := trodVars_none hV
  obtain ⟨a0, rfl, rfl, rfl, y0⟩ := open_string Try.underlying9 (hval 0 9 v0 rfl rfl) h0
  have w0 : a0.size ≤ 140737488351232 := by
    have z := sized_string hsz (j := 0) (t := 9) rfl rfl
    rw [Array.length_toList] at z
    exact z
  obtain ⟨a1, len1, cap1, rfl⟩ := okWide_slice Try.underlying30 (hval 1 30 v1 rfl rfl)
  have k1 := h1
  have lt1 : ∀ x ∈ p1, x.block < W.heap.size := by obtain ⟨m, hm⟩ := k1; exact DataW.trod_lt m _ _ _ hm
  obtain ⟨l1, hl1, hr1, hc1, t1⟩ := opens_slice Try.underlying30 opens26 h1
  subst hl1
  have y1 : l1.length * 32 ≤ 140737488351232 := sized_opens hsz (j := 1) (t := 30) rfl rfl Try.underlying30 (by kernel_rfl) k1
  obtain ⟨a2, rfl, rfl, rfl, w2⟩ := open_int Try.underlying3 (hval 2 3 v2 rfl rfl) h2
  clear hA0 hval0 hsz0 hsz
  refine (honeycomblaw6_PatchTwice.walk Pure.PatchTwice a0 a1 cap1 l1 a2 W w0 t1 y1 w2 hr1 hc1).mono fun e W' ⟨he, bel⟩ => ?_
  subst he
  exact ⟨_, rfl, _, _, _, [], _, [], hW', trodAll_mk1 (shut_bool Try.underlying4 _), (trodAll_cons_mk (shut_string Try.underlying9 y0) (trodAll_cons_mk (Below.trod laidOut (by kernel_rfl) (of_decide_eq_true (by kernel_rfl)) k1 bel lt1) (trodAll_cons_mk (shut_int Try.underlying3 w2) trodAll_mk0))), rfl, bel.frame _, fun h => by cases h⟩
theorem over : Rows.patchTwiceRow.holds Try.pinned (OpenSpec.ofChange Rows.patchTwiceSpec) :=
  OpenClaim.holds_of_wide 7 Try.f7 rfl rfl rfl rfl rfl rfl rfl ⟨rfl, rfl, rfl, rfl, rfl⟩ rfl rfl rfl rfl rfl (by kernel_rfl) Try.func7 (by kernel_rfl)
    (of_decide_eq_true (by kernel_rfl)) (by unfold Func.isWrapper; first | (rw [if_pos (by decide +kernel)]; kernel_rfl) | (rw [if_neg (by decide +kernel)]; exact ⟨rfl, rfl⟩))
    (fun os started H enc _ => lifted os started H enc)
theorem proved : Rows.PatchTwiceSaid := over
#print axioms proved
end Go.Proofs.Yteakeonlgdbeiaa.patchTwice
namespace Go.Proofs.Yteakeonlgdbeiaa
/-- The row, under a short name, for the claim. -/
theorem patchTwice_holds : Rows.PatchTwiceSaid := patchTwice.proved
end Go.Proofs.Yteakeonlgdbeiaa
