import Derived.Test.YtlbdodopodgokaaPureCommon
import Derived.Test.YtlbdodopodgokaaPureCellNone
namespace Go.Proofs.Ytlbdodopodgokaa.Pure
open Go Go.RowKit Go.Proofs.Ytlbdodopodgokaa.M Go.Proofs.YtlbdodopodgokaaW.PrintWords Go.Proofs.YtlbdodopodgokaaW.PrintLast Go.Proofs.YtlbdodopodgokaaW.PrintMore
set_option linter.unusedVariables false
open Go.Proofs.Ytlbdodopodgokaa.CP
def cellN (size i : Nat) : S32 := ⟨⟨#[107]⟩ ++ strOfNums [(((65 + i : Nat) : Int)) % 256], ⟨(List.replicate size 0).toArray⟩, 0, 0⟩
def cellsN (size n : Nat) : List S32 := (List.range n).map (cellN size)
theorem cellsN_succ (size n : Nat) : cellsN size (n + 1) = cellsN size n ++ [cellN size n] := by simp [cellsN, List.range_succ]
theorem cellN_k (size i : Nat) (h : i < 80) : (toB (cellN size i)).cl.k = [107, UInt8.ofNat (65 + i)] := by
  show ((⟨#[107]⟩ : ByteArray) ++ strOfNums [(((65 + i : Nat) : Int)) % 256]).data.toList = _
  rw [app_data, str_data]
  simp only [List.map_cons, List.map_nil]
  have : ((((65 + i : Nat) : Int)) % 256).toNat = 65 + i := by omega
  rw [this]
  rfl
theorem cellN_v (size i : Nat) : (toB (cellN size i)).cl.v = List.replicate size 0 := rfl
theorem cellN_right (size i : Nat) (h : i < 80) (hs : size ≤ 40) : right (toB (cellN size i)).cl = true := by
  unfold right
  rw [cellN_k size i h, cellN_v]
  simp only [decide_eq_true_eq]
  refine ⟨by simp, by simp, ?_⟩
  rw [if_pos (show (toB (cellN size i)).cl.bl = 0 from rfl)]
  exact ⟨by simpa using hs, rfl⟩
theorem cellN_size (size i : Nat) (h : i < 80) : csize (toB (cellN size i)).cl = 6 + size := by
  unfold csize
  rw [cellN_k size i h, cellN_v, if_pos (show (toB (cellN size i)).cl.bl = 0 from rfl)]
  simp
theorem cellsN_total (size : Nat) : ∀ n, n ≤ 80 → total (cls (cellsN size n)) = n * (6 + size)
  | 0, _ => by simp [cellsN, cls, total]
  | n + 1, h => by
    have ih := cellsN_total size n (by omega)
    rw [cellsN_succ]
    unfold cls total at *
    rw [List.map_append, List.map_append, List.map_append, List.sum_append, ih]
    simp only [List.map_cons, List.map_nil, List.sum_cons, List.sum_nil, cellN_size size n (by omega)]
    rw [Nat.succ_mul]
    omega
theorem cellsN_pw (size n : Nat) (h : n ≤ 80) : ((cls (cellsN size n)).map Cl.k).Pairwise (· < ·) := by
  have e : (cls (cellsN size n)).map Cl.k = (List.range n).map (fun i => (toB (cellN size i)).cl.k) := by simp [cls, cellsN, Function.comp_def]
  rw [e, List.pairwise_map]
  refine List.Pairwise.imp_of_mem ?_ (List.pairwise_lt_range (n := n))
  intro i j hi hj hij
  rw [List.mem_range] at hi hj
  rw [cellN_k size i (by omega), cellN_k size j (by omega)]
  rw [List.cons_lt_cons_iff]
  refine .inr ⟨rfl, ?_⟩
  rw [List.cons_lt_cons_iff]
  refine .inl ?_
  rw [UInt8.lt_iff_toNat_lt, UInt8.toNat_ofNat', UInt8.toNat_ofNat']
  omega
theorem cellsN_put (size n : Nat) (h : n ≤ 80) (hs : size ≤ 40) : (put (cls (cellsN size n))).isSome = decide (1 + n * (6 + size) ≤ 240) ∧ fits (cls (cellsN size n)) = decide (1 + n * (6 + size) ≤ 240) := by
  have hl : (cls (cellsN size n)).length = n := by simp [cls, cellsN]
  have hr : ∀ c ∈ cls (cellsN size n), right c = true := by
    intro c hc
    simp only [cls, cellsN, List.map_map, List.mem_map, List.mem_range] at hc
    obtain ⟨i, hi, rfl⟩ := hc
    exact cellN_right size i (by omega) hs
  have hri := rises_of hr (cellsN_pw size n h)
  have h1 : (put (cls (cellsN size n))).isSome = decide (1 + n * (6 + size) ≤ 240) := by
    unfold put
    rw [cellsN_total size n h, hl]
    by_cases hc : 1 + n * (6 + size) ≤ 240
    · rw [if_pos ⟨by omega, hri, hc⟩, decide_eq_true hc]; rfl
    · rw [if_neg (fun h => hc h.2.2), decide_eq_false hc]; rfl
  refine ⟨h1, ?_⟩
  rw [← h1]
  refine (fits_sorted (List.Perm.refl _) ?_).symm
  have := List.pairwise_map.mp (cellsN_pw size n h)
  exact this.imp (fun h => List.lt_asymm h)
theorem sizes_l0 (n size : Nat) (hn : n ≤ 80) (hs : size ≤ 40) : ∀ (d i : Nat), i + d = n → honeycomblaw7_CellSizes.l0 (d + 1) (n : Int) (size : Int) (cellsN size i) (i : Int) = some true
  | 0, i, hi => by
    have hin : i = n := by omega
    subst hin
    obtain ⟨p1, p2⟩ := cellsN_put size i hn hs
    rw [honeycomblaw7_CellSizes.l0, if_neg (by omega), Put_is, Option.bind_some, Fits_is _ (by simp [cellsN]; omega), putF_isSome, p1, p2]
    have hm : i * (6 + size) ≤ 80 * 46 := Nat.mul_le_mul (by omega) (by omega)
    have e1 : wrap64 (6 + (size : Int)) = ((6 + size : Nat) : Int) := by unfold wrap64; omega
    have e2 : (i : Int) * ((6 + size : Nat) : Int) = ((i * (6 + size) : Nat) : Int) := by push_cast; rfl
    have e3 : wrap64 (((i * (6 + size) : Nat)) : Int) = ((i * (6 + size) : Nat) : Int) := by unfold wrap64; omega
    have e4 : wrap64 (1 + ((i * (6 + size) : Nat) : Int)) = ((1 + i * (6 + size) : Nat) : Int) := by unfold wrap64; omega
    rw [e1, e2, e3, e4]
    have e5 : decide (((1 + i * (6 + size) : Nat) : Int) ≤ 240) = decide (1 + i * (6 + size) ≤ 240) := decide_eq_decide.mpr (by omega)
    rw [e5]
    simp
  | d + 1, i, hi => by
    have ih := sizes_l0 n size hn hs d (i + 1) (by omega)
    rw [honeycomblaw7_CellSizes.l0, if_pos (by omega), Option.bind_some]
    have e1 : wrap64 (65 + (i : Int)) = ((65 + i : Nat) : Int) := by unfold wrap64; omega
    rw [e1, if_pos (by rw [strOfNums_size]; simp), Zeros_is size (by omega), Option.bind_some, if_pos (by simp [cellsN]; omega)]
    have e2 : wrap64 ((i : Int) + 1) = ((i + 1 : Nat) : Int) := by unfold wrap64; omega
    rw [e2]
    rw [cellsN_succ] at ih
    exact ih
theorem CellSizes : honeycomblaw7_CellSizes.Pure := by
  intro a0 a1 _ _
  refine ⟨a0.toNat + 1 + 1, ?_⟩
  unfold honeycomblaw7_CellSizes.f
  have ht : honeycomblaw7_CellSizes.j0 (a0.toNat + 1 + 1) a0 a1 true = some true := by
    rw [honeycomblaw7_CellSizes.j0, if_pos rfl, alive_is]
    rfl
  by_cases h1 : a0 < 0
  · rw [if_pos h1, ht]
  rw [if_neg h1]
  by_cases h2 : a0 > 80
  · rw [if_pos h2, ht]
  rw [if_neg h2]
  by_cases h3 : a1 < 0
  · rw [if_pos h3, ht]
  rw [if_neg h3]
  by_cases h4 : a1 > 40
  · rw [if_pos h4, ht]
  rw [if_neg h4, alive_is, Option.bind_some, Bool.not_true, honeycomblaw7_CellSizes.j0, if_neg (by simp)]
  obtain ⟨n, rfl⟩ : ∃ n : Nat, a0 = (n : Int) := ⟨a0.toNat, by omega⟩
  obtain ⟨s, rfl⟩ : ∃ s : Nat, a1 = (s : Int) := ⟨a1.toNat, by omega⟩
  rw [Int.toNat_natCast]
  exact sizes_l0 n s (by omega) (by omega) n 0 (by omega)

end Go.Proofs.Ytlbdodopodgokaa.Pure
