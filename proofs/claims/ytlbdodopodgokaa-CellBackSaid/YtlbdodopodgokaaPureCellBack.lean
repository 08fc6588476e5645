import Derived.Test.YtlbdodopodgokaaPureCommon
import Derived.Test.YtlbdodopodgokaaMx4
namespace Go.Proofs.Ytlbdodopodgokaa.Pure
open Go Go.RowKit Go.Proofs.Ytlbdodopodgokaa.M Go.Proofs.YtlbdodopodgokaaW.PrintWords Go.Proofs.YtlbdodopodgokaaW.PrintLast Go.Proofs.YtlbdodopodgokaaW.PrintMore
set_option linter.unusedVariables false
open Go.Proofs.Ytlbdodopodgokaa.CP
theorem total_take (l : List Cl) (i : Nat) (h : i < l.length) : total (l.take (i + 1)) = total (l.take i) + csize l[i] := by
  unfold total
  rw [List.take_succ_eq_append_getElem h, List.map_append, List.sum_append]
  simp
theorem total_take_le (l : List Cl) (i : Nat) : total (l.take i) ≤ total l := by
  have h : total l = total (l.take i) + total (l.drop i) := by
    unfold total
    rw [← List.sum_append, ← List.map_append, List.take_append_drop]
  omega
theorem back_l0 (l : List S32) (h60 : l.length ≤ 60) (hr : ∀ c ∈ cls l, right c = true) (hT : 1 + total (cls l) ≤ 240) (hf : fits (cls l) = true) : ∀ (d i : Nat), i + d = l.length → honeycomblaw7_CellBack.l0 ((l.length + 1 + d) + 1) l l true (((1 + total ((cls l).take i) : Nat)) : Int) l (l.length : Int) (i : Int) = some true
  | 0, i, hi => by
    rw [honeycomblaw7_CellBack.l0, if_neg (by omega), if_pos rfl]
    obtain ⟨b, hb, hbi⟩ := Same_up l l (by omega)
    rw [hb _ (by omega), Option.bind_some, hbi.mpr rfl, if_pos rfl]
    have := total_take_le (cls l) i
    rw [if_pos (by omega), Fits_is l (by omega), hf]
    rfl
  | d + 1, i, hi => by
    have ih := back_l0 l h60 hr hT hf d (i + 1) (by omega)
    have hx : i < l.length := by omega
    have hcl : (cls l)[i]'(by rw [cls_length]; exact hx) = (toB l[i]).cl := by simp [cls]
    have hri : right (toB l[i]).cl = true := by rw [← hcl]; exact hr _ (List.getElem_mem _)
    obtain ⟨s1, s2⟩ := right_sizes hri
    have ht := total_take (cls l) i (by rw [cls_length]; exact hx)
    rw [hcl] at ht
    have hle := total_take_le (cls l) (i + 1)
    rw [show l.length + 1 + (d + 1) + 1 = (l.length + 1 + d + 1) + 1 from by omega, honeycomblaw7_CellBack.l0, if_pos (by omega), if_pos (by omega), if_pos (by omega), rd_at l i hx, Size_is _ s1 s2, Option.bind_some]
    have e1 : wrap64 ((((1 + total ((cls l).take i) : Nat)) : Int) + ((csize (toB l[i]).cl : Nat) : Int)) = ((1 + total ((cls l).take (i + 1)) : Nat) : Int) := by unfold wrap64; omega
    have e2 : wrap64 ((i : Int) + 1) = ((i + 1 : Nat) : Int) := by unfold wrap64; omega
    rw [e1, e2]
    exact ih
theorem CellBack : honeycomblaw7_CellBack.Pure := by
  intro l0 h0 _
  refine ⟨(l0.length + 1 + l0.length) + 1 + 1, ?_⟩
  unfold honeycomblaw7_CellBack.f
  by_cases h60 : (l0.length : Int) > 60
  · rw [if_pos h60, honeycomblaw7_CellBack.j0, if_pos rfl, alive_is]
    rfl
  rw [if_neg h60, alive_is, Option.bind_some, Bool.not_true, honeycomblaw7_CellBack.j0, if_neg (by simp)]
  cases hp : put (cls l0) with
  | none =>
    rw [putF_no hp, Option.bind_some]
    refine (if_neg (by simp)).trans ?_
    simp
  | some b =>
    rw [putF_some hp, Option.bind_some]
    refine (if_pos rfl).trans ?_
    show (cell_Get.f ⟨b.toArray⟩).bind _ = _
    rw [put_get hp, Option.bind_some]
    have hf := fits_put hp
    have hc := hp
    unfold put at hc
    split at hc
    · rename_i hc2
      exact back_l0 l0 (by omega) (rises_right hc2.2.1) hc2.2.2 hf l0.length 0 (by omega)
    · cases hc

end Go.Proofs.Ytlbdodopodgokaa.Pure
