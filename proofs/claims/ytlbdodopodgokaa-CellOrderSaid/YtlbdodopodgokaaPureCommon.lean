import Derived.Test.YtlbdodopodgokaaMx4
import Derived.Test.YtlbdodopodgokaaCCorr
namespace Go.Proofs.Ytlbdodopodgokaa.Pure
open Go Go.RowKit Go.Proofs.Ytlbdodopodgokaa.M Go.Proofs.YtlbdodopodgokaaW.PrintWords Go.Proofs.YtlbdodopodgokaaW.PrintLast Go.Proofs.YtlbdodopodgokaaW.PrintMore
set_option linter.unusedVariables false
open Go.Proofs.Ytlbdodopodgokaa.CP
/-! ### the cells, as the print has them -/
def cls (l : List S32) : List Cl := (l.map toB).map B.cl
theorem cls_length (l : List S32) : (cls l).length = l.length := by simp [cls]
theorem toB_inj {x y : S32} (h : toB x = toB y) : x = y := by
  have := congrArg ofB h
  rwa [ofB_to, ofB_to] at this
theorem map_of_to (l : List S32) : (l.map toB).map ofB = l := by
  rw [List.map_map]
  exact List.map_id'' ofB_to l
theorem map_to_of (l : List B) : (l.map ofB).map toB = l := by
  rw [List.map_map]
  exact List.map_id'' toB_of l
theorem Put_is (l : List S32) : cell_Put.f l = some (putF (cls l)) := rfl
theorem Get_is (s : ByteArray) : cell_Get.f s = some ((getF s).1.map ofB, (getF s).2) := rfl
theorem Fits_is (l : List S32) (h : l.length < 900000) : cell_Fits.f l = some (fits (cls l)) := if_pos h
theorem toList_eq {s t : ByteArray} : s.toList = t.toList ↔ s = t := by
  rw [Lib.toList_data, Lib.toList_data]
  exact ⟨eq_of_data, fun h => by rw [h]⟩
theorem Size_is (x : S32) (h1 : x.f0.size ≤ 16) (h2 : x.f1.size ≤ 40) : cell_Size.f x.f0 x.f1 x.f2 x.f3 = some ((csize (toB x).cl : Nat) : Int) := by
  unfold cell_Size.f csize
  have e1 : (toB x).cl.k.length = x.f0.size := by rw [size_data]; rfl
  have e2 : (toB x).cl.v.length = x.f1.size := by rw [size_data]; rfl
  have e3 : (toB x).cl.bl = x.f2 := rfl
  rw [e1, e2, e3]
  unfold wrap64
  split
  · simp only [Option.some.injEq]; omega
  · simp only [Option.some.injEq]; omega
theorem right_sizes {x : S32} (h : right (toB x).cl = true) : x.f0.size ≤ 16 ∧ x.f1.size ≤ 40 := by
  simp only [right, decide_eq_true_eq] at h
  obtain ⟨_, h2, h3⟩ := h
  have e1 : (toB x).cl.k.length = x.f0.size := by rw [size_data]; rfl
  have e2 : (toB x).cl.v.length = x.f1.size := by rw [size_data]; rfl
  refine ⟨by omega, ?_⟩
  split at h3
  · omega
  · rw [← e2, h3.2.2.1]; simp
theorem put_get {l : List S32} {b : List UInt8} (h : put (cls l) = some b) : cell_Get.f ⟨b.toArray⟩ = some (l, true) := by
  rw [Get_is, getF_put h]
  simp only [map_of_to]
theorem putF_some {l : List S32} {b : List UInt8} (h : put (cls l) = some b) : cell_Put.f l = some (⟨b.toArray⟩, true) := by
  rw [Put_is]
  simp [putF, h]
theorem putF_no {l : List S32} (h : put (cls l) = none) : cell_Put.f l = some (⟨#[]⟩, false) := by
  rw [Put_is]
  simp [putF, h]
theorem rd_at (l : List S32) (i : Nat) (h : i < l.length) : rd_T32 l (i : Int) = l[i] := by
  unfold rd_T32
  simp [List.getD, h]
theorem eq32 (x y : S32) : ((x.f0.toList == y.f0.toList && (x.f1.toList == y.f1.toList && (x.f2 == y.f2 && x.f3 == y.f3))) = true) ↔ x = y := by
  simp only [Bool.and_eq_true, beq_iff_eq, toList_eq]
  obtain ⟨a, b, c, d⟩ := x
  obtain ⟨a', b', c', d'⟩ := y
  simp only [S32.mk.injEq]
theorem same_l0 (x l : List S32) (hl : x.length = l.length) (hm : x.length < 900000) : ∀ (d i : Nat), i + d = x.length → ∃ b, honeycombbook_SameCells.l0 (d + 1) x l (i : Int) = some b ∧ (b = true ↔ x.drop i = l.drop i)
  | 0, i, hi => by
    refine ⟨true, ?_, ?_⟩
    · unfold honeycombbook_SameCells.l0
      rw [if_neg (by omega)]
    · rw [List.drop_eq_nil_of_le (by omega), List.drop_eq_nil_of_le (by omega)]
      simp
  | d + 1, i, hi => by
    obtain ⟨b, hb, hbi⟩ := same_l0 x l hl hm d (i + 1) (by omega)
    have hx : i < x.length := by omega
    have hy : i < l.length := by omega
    unfold honeycombbook_SameCells.l0
    rw [if_pos (by omega), if_pos (by omega), if_pos (by omega), rd_at x i hx, rd_at l i hy]
    rw [List.drop_eq_getElem_cons hx, List.drop_eq_getElem_cons hy]
    by_cases he : x[i] = l[i]
    · refine ⟨b, ?_, ?_⟩
      · rw [if_pos ((eq32 _ _).mpr he)]
        have : wrap64 ((i : Int) + 1) = ((i + 1 : Nat) : Int) := by unfold wrap64; omega
        rw [this]
        exact hb
      · rw [hbi, he]
        exact ⟨fun h => by rw [h], fun h => (List.cons.inj h).2⟩
    · refine ⟨false, ?_, ?_⟩
      · rw [if_neg (fun h => he ((eq32 _ _).mp h))]
      · exact ⟨fun h => (Bool.noConfusion h), fun h => absurd (List.cons.inj h).1 he⟩
theorem Same_is (x l : List S32) (hm : l.length < 900000) : ∃ b, honeycombbook_SameCells.f (l.length + 1) x l = some b ∧ (b = true ↔ x = l) := by
  unfold honeycombbook_SameCells.f
  by_cases h : (x.length : Int) = (l.length : Int)
  · rw [if_pos h]
    have h2 : x.length = l.length := by omega
    obtain ⟨b, h1, h3⟩ := same_l0 x l h2 (by omega) x.length 0 (by omega)
    rw [← h2]
    exact ⟨b, h1, by simpa using h3⟩
  · rw [if_neg h]
    exact ⟨false, rfl, by simp; intro e; rw [e] at h; exact h rfl⟩
theorem mono_up {α : Type} {f : Nat → Option α} (hm : ∀ k, LeO (f k) (f (k + 1))) {k : Nat} {r : α} (h : f k = some r) : ∀ m, k ≤ m → f m = some r := by
  intro m hk
  induction m with
  | zero => have : k = 0 := by omega
            subst this; exact h
  | succ m ih =>
    rcases Nat.lt_or_ge m k with h2 | h2
    · have : k = m + 1 := by omega
      subst this; exact h
    · exact hm m r (ih h2)
theorem Same_up (x l : List S32) (hm : l.length < 900000) : ∃ b, (∀ k, l.length + 1 ≤ k → honeycombbook_SameCells.f k x l = some b) ∧ (b = true ↔ x = l) := by
  obtain ⟨b, h1, h2⟩ := Same_is x l hm
  exact ⟨b, mono_up (f := fun k => honeycombbook_SameCells.f k x l) (fun k => honeycombbook_SameCells.mono _ _ k) h1, h2⟩
def ex1 : S32 := ⟨⟨#[97]⟩, ⟨#[98, 99]⟩, 0, 0⟩
def ex2 : S32 := ⟨⟨#[98]⟩, ⟨#[]⟩, 7, 100⟩
set_option maxRecDepth 100000 in
theorem alive_is : honeycomblaw7_alive.f = some true := by
  obtain ⟨b, hb⟩ : ∃ b, put (cls [ex1, ex2]) = some b := ⟨_, rfl⟩
  have h1 := putF_some hb
  have h2 := put_get hb
  have hb2 : b = 2 :: 1 :: 97 :: 0 :: 0 :: 2 :: 98 :: 99 :: 1 :: 98 :: 1 :: 0 :: 100 :: 0 :: 7 :: 0 :: List.replicate 224 0 := by
    have : put (cls [ex1, ex2]) = some (2 :: 1 :: 97 :: 0 :: 0 :: 2 :: 98 :: 99 :: 1 :: 98 :: 1 :: 0 :: 100 :: 0 :: 7 :: 0 :: List.replicate 224 0) := by decide +kernel
    rw [this] at hb
    exact (Option.some.inj hb).symm
  unfold honeycomblaw7_alive.f
  show (cell_Put.f [ex1, ex2]).bind _ = _
  rw [h1, Option.bind_some]
  dsimp only
  rw [h2, Option.bind_some]
  have e1 : (⟨b.toArray⟩ : ByteArray).size = 240 := by rw [size_data]; exact put_length hb
  have e2 : ((⟨b.toArray⟩ : ByteArray).extract 0 16).toList = ([2, 1, 97, 0, 0, 2, 98, 99, 1, 98, 1, 0, 100, 0, 7, 0] : List UInt8) := by
    rw [Lib.toList_data, ext_data, hb2]
    rfl
  refine (if_pos rfl).trans ?_
  refine (if_pos (by rw [e1]; rfl)).trans ?_
  refine (if_pos (by decide)).trans ?_
  refine (if_pos (by rw [e1]; decide)).trans ?_
  refine (if_pos e2).trans ?_
  refine (if_pos rfl).trans ?_
  refine (if_pos rfl).trans ?_
  refine (if_pos (by decide)).trans ?_
  refine (if_pos rfl).trans ?_
  refine (if_pos (by decide)).trans ?_
  show (cell_Size.f ex1.f0 ex1.f1 ex1.f2 ex1.f3).bind _ = _
  rw [Size_is ex1 (by decide) (by decide)]
  rfl

end Go.Proofs.Ytlbdodopodgokaa.Pure
