import Derived.Test.YtlbdodopodgokaaPureCommon
import Derived.Test.YtlbdodopodgokaaMx5
namespace Go.Proofs.Ytlbdodopodgokaa.Pure
open Go Go.RowKit Go.Proofs.Ytlbdodopodgokaa.M Go.Proofs.YtlbdodopodgokaaW.PrintWords Go.Proofs.YtlbdodopodgokaaW.PrintLast Go.Proofs.YtlbdodopodgokaaW.PrintMore
set_option linter.unusedVariables false
open Go.Proofs.Ytlbdodopodgokaa.CP
theorem Zeros_is (n : Nat) (h : n ≤ 1000) : honeycombref1_Zeros.f (n : Int) = some ⟨(List.replicate n 0).toArray⟩ := by
  unfold honeycombref1_Zeros.f
  have e : mx (n : Int) 0 = (n : Int) := by unfold mx; split <;> omega
  rw [e, if_pos (by omega), if_pos (by omega), Int.toNat_natCast]
  congr 1
  apply eq_of_data
  rw [str_data]
  simp
theorem CellNone : honeycomblaw7_CellNone.Pure := by
  intro a0 _
  refine ⟨1, ?_⟩
  unfold honeycomblaw7_CellNone.f
  have ht : honeycomblaw7_CellNone.j0 1 a0 true = some true := by
    rw [honeycomblaw7_CellNone.j0, if_pos rfl, alive_is]
    rfl
  by_cases h1 : a0 < 0
  · rw [if_pos h1, ht]
  rw [if_neg h1]
  by_cases h2 : a0 > 300
  · rw [if_pos h2, ht]
  rw [if_neg h2, alive_is, Option.bind_some, Bool.not_true, honeycomblaw7_CellNone.j0, if_neg (by simp)]
  obtain ⟨n, rfl⟩ : ∃ n : Nat, a0 = (n : Int) := ⟨a0.toNat, by omega⟩
  have hp : put (cls []) = some (0 :: List.replicate 239 0) := rfl
  have hz : (⟨(List.replicate 240 0).toArray⟩ : ByteArray) = ⟨(0 :: List.replicate 239 (0 : UInt8)).toArray⟩ := rfl
  rw [putF_some hp, Option.bind_some]
  dsimp only
  rw [put_get hp, Option.bind_some, Zeros_is n (by omega), Option.bind_some]
  have hg : cell_Get.f ⟨(List.replicate n 0).toArray⟩ = some ([], decide (n = 240)) := by
    by_cases hn : n = 240
    · subst hn
      rw [hz, put_get hp]
      rfl
    · rw [Get_is, getF_size (by rw [size_data]; simpa using hn), decide_eq_false hn]
      rfl
  rw [hg, Option.bind_some]
  refine (if_pos rfl).trans ?_
  rw [show (240 : Int) = ((240 : Nat) : Int) from rfl, Zeros_is 240 (by decide), Option.bind_some]
  refine (if_pos (by rw [hz])).trans ?_
  refine (if_pos rfl).trans ?_
  refine (if_pos rfl).trans ?_
  refine (if_pos ?_).trans ?_
  · show (decide (n = 240) == ((n : Int) == ((240 : Nat) : Int))) = true
    by_cases hn : n = 240
    · subst hn; rfl
    · have : ((n : Int) == ((240 : Nat) : Int)) = false := beq_eq_false_iff_ne.mpr (by omega)
      rw [this, decide_eq_false hn]
      rfl
  · rfl

end Go.Proofs.Ytlbdodopodgokaa.Pure
