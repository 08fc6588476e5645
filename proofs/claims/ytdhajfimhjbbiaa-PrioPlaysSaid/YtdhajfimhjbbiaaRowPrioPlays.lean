/- The law PrioPlays of the given program returns true for every input, and its arguments read behind the call as before. Conditions: none beyond the given row's own. (The frame was laid by wip/gen/myprint.py.) -/
import Derived.Test.YtdhajfimhjbbiaaRows
import Derived.Test.YtdhajfimhjbbiaaPPx0
import Derived.Test.YtdhajfimhjbbiaaOpens
import Derived.Test.YtdhajfimhjbbiaaPurePrioPlays
import Derived.WalkKit
import Derived.ProofKit
import Derived.OpenShut
import Derived.ShutString
import Derived.ChangeOld
import Derived.Below
import Derived.SizedLaws
namespace Go.Proofs.Ytdhajfimhjbbiaa.prioPlays
open Go.ChangeShapes Go.WideShapes Go.ChangeAt Go.RowKit Go.Proofs.YtdhajfimhjbbiaaW.PrintWords Go.Proofs.YtdhajfimhjbbiaaW.PrintLast Go.Proofs.YtdhajfimhjbbiaaW.PrintMore Go.Proofs.Ytdhajfimhjbbiaa.Lib Go.Proofs.Ytdhajfimhjbbiaa.PP
open Go.ChangeMaps (open_string shut_string)
set_option linter.unusedVariables false
theorem own : ownKnob Try.prog.godebug = none := by kernel_rfl
theorem laidOut : laidOutB Try.prog = true := by kernel_rfl
theorem opens3 : Opens Try.prog 3 (Kd.int .i64) (fun x : Int => (Lit.int .i64 x).wf = true) :=
  Opens.int Try.underlying3 (by kernel_rfl)
theorem opens30 : Opens Try.prog 30 k30 (fun x : S30 => ((Lit.int .i64 x.f0).wf = true ∧ (Lit.int .i64 x.f1).wf = true ∧ (Lit.int .i64 x.f2).wf = true)) :=
  Opens.iso (Opens.struct Try.underlying30 (by kernel_rfl) (fun i t' h => by
    match i with
    | 0 => exact ⟨_, rfl, by simpa using h, by kernel_rfl⟩
    | 1 => exact ⟨_, rfl, by simpa using h, by kernel_rfl⟩
    | 2 => exact ⟨_, rfl, by simpa using h, by kernel_rfl⟩
    | i + 3 => simp at h) (OpensSeg.cons opens3 (OpensSeg.cons opens3 (OpensSeg.one opens3)))) _ (fun x => ⟨x.1, x.2.1, x.2.2⟩) (fun _ => rfl)
theorem opens22 : Opens Try.prog 22 (Kd.slice 30 k30) (fun x : List (S30) => (x.length ≤ maxLen ∧ ∀ a_ ∈ x, ((Lit.int .i64 a_.f0).wf = true ∧ (Lit.int .i64 a_.f1).wf = true ∧ (Lit.int .i64 a_.f2).wf = true))) :=
  Opens.slice Try.underlying22 (by kernel_rfl) opens30
theorem opens36 : Opens Try.prog 36 (Kd.slice 3 (Kd.int .i64)) (fun x : List Int => (x.length ≤ maxLen ∧ ∀ a_ ∈ x, (Lit.int .i64 a_).wf = true)) :=
  Opens.slice Try.underlying36 (by kernel_rfl) opens3
set_option maxRecDepth 100000 in
theorem lifted (os : Os) (started : os.Started) (H : Type) (enc : TypeId × Value → H) :
    ReturnsInHanded {} Try.checked os 9 .any (Rows.prioPlaysSpec.pre6 enc Try.prog Try.f9 Rows.prioPlaysRow.domain false) (Rows.prioPlaysSpec.post enc Try.prog Try.f9 false true false false) := by
  refine returnsInHanded_of_change_sized (C := Try.checked) own started (by kernel_rfl) Try.func9
    (ChangeSpec.witness6 (enc := enc) (C := Try.checked) false ⟨#[], #[.slice none 0 0, .slice none 0 0], []⟩ 8 (by kernel_rfl) (by kernel_rfl) (by kernel_rfl) (by kernel_rfl)) ?_
  intro W base args ds gs before hval0 hW hcnd hsz0 _
  have hsz : (DataW.weightsEach Try.prog (Try.f9.params.toList ++ Rows.prioPlaysSpec.plain.varTypes Try.prog) (ds ++ gs)).all (· ≤ reachBytes) = true := hsz0
  have hval : ∀ (j : Nat) t v, Try.f9.params[j]? = some t → args[j]? = some v → Value.okWide Try.prog W .any base t v := hval0
  have hW' := hW
  obtain ⟨p, q, hA0, hV, rfl, hfz, hnd⟩ := hW
  have hA : DataW.TrodAll enc Try.prog W 0 (fun _ => true) true Try.f9.params.toList args.toList ds p := hA0
  rw [Try.params9] at hA hval hsz
  obtain ⟨v0, vs0, d0, ds0, p0, q0, hargs, rfl, rfl, h0, r0⟩ := trodAll_cons hA
  obtain ⟨v1, vs1, d1, ds1, p1, q1, rfl, rfl, rfl, h1, r1⟩ := trodAll_cons r0
  obtain ⟨rfl, rfl, rfl⟩ := trodAll_nil r1
  obtain rfl : args = #[v0, v1] := by cases args; simp_all
  obtain ⟨rfl, rfl⟩ := trodVars_none hV
  obtain ⟨a0, len0, cap0, rfl⟩ := okWide_slice Try.underlying22 (hval 0 22 v0 rfl rfl)
  have k0 := h0
  have lt0 : ∀ x ∈ p0, x.block < W.heap.size := by obtain ⟨m, hm⟩ := k0; exact DataW.trod_lt m _ _ _ hm
  obtain ⟨l0, hl0, hr0, hc0, t0⟩ := opens_slice Try.underlying22 opens30 h0
  subst hl0
  have y0 : l0.length * 24 ≤ 140737488351232 := sized_opens hsz (j := 0) (t := 22) rfl rfl Try.underlying22 (by kernel_rfl) k0
  obtain ⟨a1, len1, cap1, rfl⟩ := okWide_slice Try.underlying36 (hval 1 36 v1 rfl rfl)
  have k1 := h1
  have lt1 : ∀ x ∈ p1, x.block < W.heap.size := by obtain ⟨m, hm⟩ := k1; exact DataW.trod_lt m _ _ _ hm
  obtain ⟨l1, hl1, hr1, hc1, t1⟩ := opens_slice Try.underlying36 opens3 h1
  subst hl1
  have y1 : l1.length * 8 ≤ 140737488351232 := sized_opens hsz (j := 1) (t := 36) rfl rfl Try.underlying36 (by kernel_rfl) k1
  clear hA0 hval0 hsz0 hsz
  refine (Pure.PrioPlays_walk a0 cap0 l0 a1 cap1 l1 W t0 y0 t1 y1 hr0 hc0 hr1 hc1).mono fun e W' ⟨he, bel⟩ => ?_
  subst he
  exact ⟨_, rfl, _, _, _, [], _, [], hW', trodAll_mk1 (shut_bool Try.underlying4 _), (trodAll_cons_mk (Below.trod laidOut (by kernel_rfl) (of_decide_eq_true (by kernel_rfl)) k0 bel lt0) (trodAll_cons_mk (Below.trod laidOut (by kernel_rfl) (of_decide_eq_true (by kernel_rfl)) k1 bel lt1) trodAll_mk0)), rfl, bel.frame _, fun h => by cases h⟩
theorem over : Rows.prioPlaysRow.holds Try.pinned (OpenSpec.ofChange Rows.prioPlaysSpec) :=
  OpenClaim.holds_of_wide 9 Try.f9 rfl rfl rfl rfl rfl rfl rfl ⟨rfl, rfl, rfl, rfl, rfl⟩ rfl rfl rfl rfl rfl (by kernel_rfl) Try.func9 (by kernel_rfl)
    (of_decide_eq_true (by kernel_rfl)) (by unfold Func.isWrapper; first | (rw [if_pos (by decide +kernel)]; kernel_rfl) | (rw [if_neg (by decide +kernel)]; exact ⟨rfl, rfl⟩))
    (fun os started H enc _ => lifted os started H enc)
theorem proved : Rows.PrioPlaysSaid := over
#print axioms proved
end Go.Proofs.Ytdhajfimhjbbiaa.prioPlays
namespace Go.Proofs.Ytdhajfimhjbbiaa
/-- The row, under a short name, for the claim. -/
theorem prioPlays_holds : Rows.PrioPlaysSaid := prioPlays.proved
end Go.Proofs.Ytdhajfimhjbbiaa
