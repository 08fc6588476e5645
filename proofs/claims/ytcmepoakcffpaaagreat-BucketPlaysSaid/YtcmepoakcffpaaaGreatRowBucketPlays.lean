/- The law BucketPlays of the given program returns true for every input, and its arguments read behind the call as before. Conditions: none beyond the given row's own. (The frame was laid by wip/gen/myprint.py.) -/
import Derived.Test.YtcmepoakcffpaaaGreatRows
import Derived.Test.YtcmepoakcffpaaaGreatBPx0
import Derived.Test.YtcmepoakcffpaaaGreatOpens
import Derived.Test.YtcmepoakcffpaaaGreatPureBucketPlays
import Derived.WalkKit
import Derived.ProofKit
import Derived.OpenShut
import Derived.ShutString
import Derived.ChangeOld
import Derived.Below
import Derived.SizedLaws
namespace Go.Proofs.YtcmepoakcffpaaaGreat.bucketPlays
open Go.ChangeShapes Go.WideShapes Go.ChangeAt Go.RowKit Go.Proofs.YtcmepoakcffpaaaGreatW.PrintWords Go.Proofs.YtcmepoakcffpaaaGreatW.PrintLast Go.Proofs.YtcmepoakcffpaaaGreatW.PrintMore Go.Proofs.YtcmepoakcffpaaaGreat.Lib Go.Proofs.YtcmepoakcffpaaaGreat.BP
open Go.ChangeMaps (open_string shut_string)
set_option linter.unusedVariables false
theorem own : ownKnob Tryz.prog.godebug = none := by kernel_rfl
theorem laidOut : laidOutB Tryz.prog = true := by kernel_rfl
theorem opens3 : Opens Tryz.prog 3 (Kd.int .i64) (fun x : Int => (Lit.int .i64 x).wf = true) :=
  Opens.int Tryz.underlying3 (by kernel_rfl)
theorem opens9 : Opens Tryz.prog 9 Kd.string (fun x : ByteArray => x.size ≤ maxLen) :=
  Opens.string Tryz.underlying9 (by kernel_rfl)
theorem opens23 : Opens Tryz.prog 23 k23 (fun x : S23 => ((Lit.int .i64 x.f0).wf = true ∧ (Lit.int .i64 x.f1).wf = true ∧ (Lit.int .i64 x.f2).wf = true ∧ x.f3.size ≤ maxLen)) :=
  Opens.iso (Opens.struct Tryz.underlying23 (by kernel_rfl) (fun i t' h => by
    match i with
    | 0 => exact ⟨_, rfl, by simpa using h, by kernel_rfl⟩
    | 1 => exact ⟨_, rfl, by simpa using h, by kernel_rfl⟩
    | 2 => exact ⟨_, rfl, by simpa using h, by kernel_rfl⟩
    | 3 => exact ⟨_, rfl, by simpa using h, by kernel_rfl⟩
    | i + 4 => simp at h) (OpensSeg.cons opens3 (OpensSeg.cons opens3 (OpensSeg.cons opens3 (OpensSeg.one opens9))))) _ (fun x => ⟨x.1, x.2.1, x.2.2.1, x.2.2.2⟩) (fun _ => rfl)
theorem opens42 : Opens Tryz.prog 42 k42 (fun x : S42 => (x.f0.size ≤ maxLen ∧ x.f1.size ≤ maxLen ∧ (Lit.int .i64 x.f2).wf = true ∧ (Lit.int .i64 x.f3).wf = true)) :=
  Opens.iso (Opens.struct Tryz.underlying42 (by kernel_rfl) (fun i t' h => by
    match i with
    | 0 => exact ⟨_, rfl, by simpa using h, by kernel_rfl⟩
    | 1 => exact ⟨_, rfl, by simpa using h, by kernel_rfl⟩
    | 2 => exact ⟨_, rfl, by simpa using h, by kernel_rfl⟩
    | 3 => exact ⟨_, rfl, by simpa using h, by kernel_rfl⟩
    | i + 4 => simp at h) (OpensSeg.cons opens9 (OpensSeg.cons opens9 (OpensSeg.cons opens3 (OpensSeg.one opens3))))) _ (fun x => ⟨x.1, x.2.1, x.2.2.1, x.2.2.2⟩) (fun _ => rfl)
theorem opens44 : Opens Tryz.prog 44 k44 (fun x : S44 => ((Lit.int .i64 x.f0).wf = true ∧ (x.f1.f0.size ≤ maxLen ∧ x.f1.f1.size ≤ maxLen ∧ (Lit.int .i64 x.f1.f2).wf = true ∧ (Lit.int .i64 x.f1.f3).wf = true))) :=
  Opens.iso (Opens.struct Tryz.underlying44 (by kernel_rfl) (fun i t' h => by
    match i with
    | 0 => exact ⟨_, rfl, by simpa using h, by kernel_rfl⟩
    | 1 => exact ⟨_, rfl, by simpa using h, by kernel_rfl⟩
    | i + 2 => simp at h) (OpensSeg.cons opens3 (OpensSeg.one opens42))) _ (fun x => ⟨x.1, x.2⟩) (fun _ => rfl)
theorem opens24 : Opens Tryz.prog 24 (Kd.slice 44 k44) (fun x : List (S44) => (x.length ≤ maxLen ∧ ∀ a_ ∈ x, ((Lit.int .i64 a_.f0).wf = true ∧ (a_.f1.f0.size ≤ maxLen ∧ a_.f1.f1.size ≤ maxLen ∧ (Lit.int .i64 a_.f1.f2).wf = true ∧ (Lit.int .i64 a_.f1.f3).wf = true)))) :=
  Opens.slice Tryz.underlying24 (by kernel_rfl) opens44
set_option maxRecDepth 100000 in
theorem lifted (os : Os) (started : os.Started) (H : Type) (enc : TypeId × Value → H) :
    ReturnsInHanded {} Tryz.checked os 3 .any (Rows.bucketPlaysSpec.pre6 enc Tryz.prog Tryz.f3 Rows.bucketPlaysRow.domain false) (Rows.bucketPlaysSpec.post enc Tryz.prog Tryz.f3 false true false false) := by
  refine returnsInHanded_of_change_sized (C := Tryz.checked) own started (by kernel_rfl) Tryz.func3
    (ChangeSpec.witness6 (enc := enc) (C := Tryz.checked) false ⟨#[], #[.agg #[.int .i64 0, .int .i64 0, .int .i64 0, .string ByteArray.empty], .slice none 0 0], []⟩ 8 (by kernel_rfl) (by kernel_rfl) (by kernel_rfl) (by kernel_rfl)) ?_
  intro W base args ds gs before hval0 hW hcnd hsz0 _
  have hsz : (DataW.weightsEach Tryz.prog (Tryz.f3.params.toList ++ Rows.bucketPlaysSpec.plain.varTypes Tryz.prog) (ds ++ gs)).all (· ≤ reachBytes) = true := hsz0
  have hval : ∀ (j : Nat) t v, Tryz.f3.params[j]? = some t → args[j]? = some v → Value.okWide Tryz.prog W .any base t v := hval0
  have hW' := hW
  obtain ⟨p, q, hA0, hV, rfl, hfz, hnd⟩ := hW
  have hA : DataW.TrodAll enc Tryz.prog W 0 (fun _ => true) true Tryz.f3.params.toList args.toList ds p := hA0
  rw [Tryz.params3] at hA hval hsz
  obtain ⟨v0, vs0, d0, ds0, p0, q0, hargs, rfl, rfl, h0, r0⟩ := trodAll_cons hA
  obtain ⟨v1, vs1, d1, ds1, p1, q1, rfl, rfl, rfl, h1, r1⟩ := trodAll_cons r0
  obtain ⟨rfl, rfl, rfl⟩ := trodAll_nil r1
  obtain rfl : args = #[v0, v1] := by cases args; simp_all
  obtain ⟨rfl, rfl⟩ := trodVars_none hV
  have k0 := h0
  have lt0 : ∀ x ∈ p0, x.block < W.heap.size := by obtain ⟨m, hm⟩ := k0; exact DataW.trod_lt m _ _ _ hm
  obtain ⟨⟨xs0⟩, rfl, hx0⟩ := okWide_struct Tryz.underlying23 (hval 0 23 v0 rfl rfl)
  obtain ⟨a0, ha0, t0⟩ := opens_agg opens23 h0
  obtain rfl := k23_open ha0
  obtain ⟨a1, len1, cap1, rfl⟩ := okWide_slice Tryz.underlying24 (hval 1 24 v1 rfl rfl)
  have k1 := h1
  have lt1 : ∀ x ∈ p1, x.block < W.heap.size := by obtain ⟨m, hm⟩ := k1; exact DataW.trod_lt m _ _ _ hm
  obtain ⟨l1, hl1, hr1, hc1, t1⟩ := opens_slice Tryz.underlying24 opens44 h1
  subst hl1
  have y1 : l1.length * 56 ≤ 140737488351232 := sized_opens hsz (j := 1) (t := 24) rfl rfl Tryz.underlying24 (by kernel_rfl) k1
  clear hA0 hval0 hsz0 hsz
  refine (Pure.BucketPlays_walk a0 a1 cap1 l1 W t0 t1 y1 hr1 hc1).mono fun e W' ⟨he, bel⟩ => ?_
  subst he
  exact ⟨_, rfl, _, _, _, [], _, [], hW', trodAll_mk1 (shut_bool Tryz.underlying4 _), (trodAll_cons_mk (Below.trod laidOut (by kernel_rfl) (of_decide_eq_true (by kernel_rfl)) k0 bel lt0) (trodAll_cons_mk (Below.trod laidOut (by kernel_rfl) (of_decide_eq_true (by kernel_rfl)) k1 bel lt1) trodAll_mk0)), rfl, bel.frame _, fun h => by cases h⟩
theorem over : Rows.bucketPlaysRow.holds Tryz.pinned (OpenSpec.ofChange Rows.bucketPlaysSpec) :=
  OpenClaim.holds_of_wide 3 Tryz.f3 rfl rfl rfl rfl rfl rfl rfl ⟨rfl, rfl, rfl, rfl, rfl⟩ rfl rfl rfl rfl rfl (by kernel_rfl) Tryz.func3 (by kernel_rfl)
    (of_decide_eq_true (by kernel_rfl)) (by unfold Func.isWrapper; first | (rw [if_pos (by decide +kernel)]; kernel_rfl) | (rw [if_neg (by decide +kernel)]; exact ⟨rfl, rfl⟩))
    (fun os started H enc _ => lifted os started H enc)
theorem proved : Rows.BucketPlaysSaid := over
#print axioms proved
end Go.Proofs.YtcmepoakcffpaaaGreat.bucketPlays
namespace Go.Proofs.YtcmepoakcffpaaaGreat
/-- The row, under a short name, for the claim. -/
theorem bucketPlays_holds : Rows.BucketPlaysSaid := bucketPlays.proved
end Go.Proofs.YtcmepoakcffpaaaGreat
