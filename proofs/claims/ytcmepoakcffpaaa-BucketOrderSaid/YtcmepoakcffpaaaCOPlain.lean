import Derived.Test.YtcmepoakcffpaaaCB
import Derived.Test.YtcmepoakcffpaaaMMx
namespace Go.Proofs.Ytcmepoakcffpaaa.CP
open Go Go.RowKit Go.Proofs.YtcmepoakcffpaaaW.PrintWords Go.Proofs.YtcmepoakcffpaaaW.PrintLast Go.Proofs.YtcmepoakcffpaaaW.PrintMore Go.Proofs.Ytcmepoakcffpaaa.MM Go.Proofs.Ytcmepoakcffpaaa.L
set_option linter.unusedVariables false
set_option linter.unusedSimpArgs false
/-! The plain law of BucketOrder. -/
/-- Cells that fit all. -/
structure FitB (l : List B) : Prop where
  right : ∀ c ∈ l, CP.right c.cl = true
  nodup : (l.map B.kk).Nodup
  le : tot l ≤ 239
theorem FitB.perm {l m : List B} (h : FitB l) (hp : m.Perm l) : FitB m :=
  ⟨fun c hc => h.right c (hp.mem_iff.1 hc), (hp.map B.kk).nodup_iff.2 h.nodup, by rw [tot_perm hp]; exact h.le⟩
/-- The page of the first i of them. -/
def OAt (R : List B) (i : Nat) (s : ByteArray) : Prop := ∃ lp, IsP ⟨3, 3, 7, s⟩ lp ∧ lp.Perm (R.take i)
theorem OAt.start (R : List B) : OAt R 0 zeros240 := ⟨[], isP_empty 3 3 7 (.inl rfl), by simp⟩
theorem OAt.step {R : List B} (hR : FitB R) {i : Nat} {s : ByteArray} (h : OAt R i s) (hi : i < R.length) : ∃ b, setP ⟨3, 3, 7, s⟩ R[i] = (⟨3, 3, 7, b⟩, 0) ∧ OAt R (i + 1) b := by
  obtain ⟨lp, hp, hperm⟩ := h
  have hnone : findB lp R[i].kk = none := by
    rw [findB_none]
    intro x hx he
    obtain ⟨j, hj⟩ := List.getElem?_of_mem (hperm.mem_iff.1 hx)
    rw [List.getElem?_take] at hj
    split at hj
    · rename_i hji
      have h1 : (R.map B.kk)[j]? = some R[i].kk := by rw [List.getElem?_map, hj, ← he]; rfl
      have h2 : (R.map B.kk)[i]? = some R[i].kk := by rw [List.getElem?_map, List.getElem?_eq_getElem hi]; rfl
      have := nodup_at hR.nodup h1 h2
      omega
    · cases hj
  have htk : R.take (i + 1) = R.take i ++ [R[i]] := List.take_succ_eq_append_getElem hi
  have hle : tot (R.take (i + 1)) ≤ 239 := by
    have := tot_append (R.take (i + 1)) (R.drop (i + 1))
    rw [List.take_append_drop] at this
    have := hR.le
    omega
  have ht : tot (setB lp R[i]) ≤ 239 := by
    rw [tot_set_none hp.good.rise hnone, tot_perm hperm]
    rw [htk, tot_append, tot_cons, tot_nil] at hle
    omega
  obtain ⟨b, h1, h2⟩ := hp.set (hR.right _ (List.getElem_mem hi)) ht
  refine ⟨b, h1, _, h2, (perm_setB hp.good.rise hnone).trans ?_⟩
  rw [htk]
  exact (List.Perm.cons _ hperm).trans (List.perm_append_singleton _ _).symm
theorem OAt.same {R R' L : List B} (h1 : R.Perm L) (h2 : R'.Perm L) {s s' : ByteArray} (h : OAt R L.length s) (h' : OAt R' L.length s') : s = s' ∧ (cellsP ⟨3, 3, 7, s⟩).1.length = L.length := by
  obtain ⟨a, ha, pa⟩ := h
  obtain ⟨b, hb, pb⟩ := h'
  rw [List.take_of_length_le (by rw [h1.length_eq]; exact Nat.le_refl _)] at pa
  rw [List.take_of_length_le (by rw [h2.length_eq]; exact Nat.le_refl _)] at pb
  have hab : a = b := Rise.ext ha.good.rise hb.good.rise (fun x => by rw [pa.mem_iff, h1.mem_iff, pb.mem_iff, h2.mem_iff])
  subst hab
  refine ⟨?_, by rw [ha.cells]; exact (pa.trans h1).length_eq⟩
  have := IsP.eq ha hb rfl rfl rfl
  injection this
/-- The cells from another one on. -/
def rot (l : List B) (s : Nat) : List B := l.drop s ++ l.take s
theorem rot_perm (l : List B) (s : Nat) : (rot l s).Perm l := by
  unfold rot
  exact List.perm_append_comm.trans (by rw [List.take_append_drop])
theorem rot_length (l : List B) (s : Nat) : (rot l s).length = l.length := (rot_perm l s).length_eq
theorem rot_get (l : List B) (s i : Nat) (hs : s < l.length) (hi : i < l.length) : (rot l s).getD i default = l.getD ((i + s) % l.length) default := by
  unfold rot
  rw [List.getD_eq_getElem?_getD, List.getD_eq_getElem?_getD]
  congr 1
  by_cases h : i + s < l.length
  · rw [Nat.mod_eq_of_lt h, List.getElem?_append_left (by rw [List.length_drop]; omega), List.getElem?_drop, Nat.add_comm]
  · have e : (i + s) % l.length = i + s - l.length := by
      rw [Nat.mod_eq_sub_mod (by omega), Nat.mod_eq_of_lt (by omega)]
    rw [e, List.getElem?_append_right (by rw [List.length_drop]; omega), List.length_drop, List.getElem?_take, if_pos (by omega)]
    congr 1
    omega
/-! ### Fits -/
theorem len_data2 (s : ByteArray) : s.data.toList.length = s.size := by rw [size_data]
theorem toList_eq2 {s t : ByteArray} : s.toList = t.toList ↔ s = t := by
  rw [Lib.toList_data, Lib.toList_data]
  exact ⟨eq_of_data, fun h => by rw [h]⟩
theorem CellRight_is (x : S25) : honeycombref1_CellRight.f x.f0 x.f1 x.f2 x.f3 = some (right (toB x).cl) := by
  unfold honeycombref1_CellRight.f honeycombref1_Key.f right
  have e1 : (toB x).cl.k.length = x.f0.size := len_data2 _
  have e2 : (toB x).cl.v.length = x.f1.size := len_data2 _
  have e3 : (toB x).cl.bl = x.f2 := rfl
  have e4 : (toB x).cl.sz = x.f3 := rfl
  have e5 : (toB x).cl.v = [] ↔ x.f1.toList = [] := by rw [Lib.toList_data]; rfl
  rw [e1, e2, e3, e4]
  by_cases h1 : (x.f0.size : Int) ≥ 1
  · rw [if_pos h1, Option.bind_some]
    by_cases h2 : (x.f0.size : Int) ≤ 16
    · rw [if_pos (by simpa using h2)]
      by_cases h3 : x.f2 = 0
      · rw [if_pos h3]
        by_cases h4 : (x.f1.size : Int) ≤ 40
        · rw [if_pos h4]
          congr 1
          rw [Bool.eq_iff_iff, beq_iff_eq, decide_eq_true_iff, if_pos h3]
          omega
        · rw [if_neg h4]
          congr 1
          symm
          rw [decide_eq_false_iff_not, if_pos h3]
          omega
      · rw [if_neg h3]
        by_cases h4 : x.f2 ≥ 2
        · rw [if_pos h4]
          by_cases h5 : x.f2 < 64
          · rw [if_pos h5]
            by_cases h6 : x.f1.toList = []
            · rw [if_pos h6]
              by_cases h7 : x.f3 > 40
              · rw [if_pos h7]
                congr 1
                rw [Bool.eq_iff_iff, decide_eq_true_iff, decide_eq_true_iff, if_neg h3]
                exact ⟨fun h => ⟨by omega, by omega, h4, h5, e5.2 h6, h7, h⟩, fun h => h.2.2.2.2.2.2⟩
              · rw [if_neg h7]
                congr 1
                symm
                rw [decide_eq_false_iff_not, if_neg h3]
                exact fun h => h7 h.2.2.2.2.2.1
            · rw [if_neg h6]
              congr 1
              symm
              rw [decide_eq_false_iff_not, if_neg h3]
              exact fun h => h6 (e5.1 h.2.2.2.2.1)
          · rw [if_neg h5]
            congr 1
            symm
            rw [decide_eq_false_iff_not, if_neg h3]
            exact fun h => h5 h.2.2.2.1
        · rw [if_neg h4]
          congr 1
          symm
          rw [decide_eq_false_iff_not, if_neg h3]
          exact fun h => h4 h.2.2.1
    · rw [if_neg (by simpa using h2)]
      congr 1
      symm
      rw [decide_eq_false_iff_not]
      omega
  · rw [if_neg h1, Option.bind_some, if_neg (by simp)]
    congr 1
    symm
    rw [decide_eq_false_iff_not]
    omega
theorem right_sz {c : B} (h : right c.cl = true) : c.k.size ≤ 16 ∧ c.v.size ≤ 40 ∧ csize c.cl = 4 + c.k.size + (if c.bl = 0 then c.v.size else 2) := by
  have e0 : csize c.cl = 4 + c.k.size + (if c.bl = 0 then c.v.size else 2) := by
    unfold csize
    rw [show c.cl.k.length = c.k.size from len_data2 _, show c.cl.v.length = c.v.size from len_data2 _]
    rfl
  simp only [right, decide_eq_true_eq] at h
  obtain ⟨h1, h2, h3⟩ := h
  rw [show c.cl.k.length = c.k.size from len_data2 _] at h1 h2
  refine ⟨h2, ?_, e0⟩
  rw [← show c.cl.v.length = c.v.size from len_data2 _]
  split at h3
  · exact h3.1
  · rw [h3.2.2.1]; simp
theorem CellSize_at (x : S25) (h : right (toB x).cl = true) : honeycombref1_CellSize.f x.f0 x.f1 x.f2 x.f3 = some ((csize (toB x).cl : Nat) : Int) ∧ csize (toB x).cl ≤ 60 := by
  obtain ⟨h2, h3, h4⟩ := right_sz h
  have h2' : x.f0.size ≤ 16 := h2
  have h3' : x.f1.size ≤ 40 := h3
  have h4' : csize (toB x).cl = 4 + x.f0.size + (if x.f2 = 0 then x.f1.size else 2) := h4
  clear h2 h3 h4
  rw [h4']
  unfold honeycombref1_CellSize.f wrap64
  split
  · simp only [Option.some.injEq]; omega
  · simp only [Option.some.injEq]; omega
theorem rdc (cs : List S25) (i : Nat) (hx : i < cs.length) : rd_T25 cs (i : Int) = cs[i] := by unfold rd_T25; simp [List.getD, hx]
theorem fits_l1 (l : List S25) (hl : l.length ≤ 40) (n i : Nat) (hn : n ≤ 10000) (hi : i < l.length) (hr : right (toB l[i]).cl = true) (K : Nat) (b : Bool) (hK : ∀ k, K ≤ k → honeycombref1_Fits.l0 k l ((n + csize (toB l[i]).cl : Nat) : Int) ((i + 1 : Nat) : Int) = some b) :
    ∀ (d j : Nat), j + d = i → ∃ b', (∀ k, K + d + 1 ≤ k → honeycombref1_Fits.l1 k l (n : Int) (i : Int) (j : Int) = some b') ∧ (b' = true → b = true ∧ ∀ j' (h : j' < i), j ≤ j' → (toB l[j']).kk ≠ (toB l[i]).kk)
  | 0, j, hj => by
    refine ⟨b, fun k hk => ?_, fun h => ⟨h, fun _ h h2 => (by omega)⟩⟩
    obtain ⟨k, rfl⟩ : ∃ m, k = m + 1 := ⟨k - 1, by omega⟩
    obtain ⟨e1, e2⟩ := CellSize_at l[i] hr
    rw [honeycombref1_Fits.l1, if_neg (by omega), if_pos (by omega), if_pos (by omega), rdc l i hi, e1, Option.bind_some]
    have e3 : wrap64 ((n : Int) + ((csize (toB l[i]).cl : Nat) : Int)) = ((n + csize (toB l[i]).cl : Nat) : Int) := by unfold wrap64; omega
    have e4 : wrap64 ((i : Int) + 1) = ((i + 1 : Nat) : Int) := by unfold wrap64; omega
    rw [e3, e4]
    exact hK k (by omega)
  | d + 1, j, hj => by
    obtain ⟨b', h1, h2⟩ := fits_l1 l hl n i hn hi hr K b hK d (j + 1) (by omega)
    have hjl : j < l.length := by omega
    by_cases he : l[j].f0.toList = l[i].f0.toList
    · refine ⟨false, fun k hk => ?_, fun h => by cases h⟩
      obtain ⟨k, rfl⟩ : ∃ m, k = m + 1 := ⟨k - 1, by omega⟩
      rw [honeycombref1_Fits.l1, if_pos (by omega), if_pos (by omega), if_pos (by omega), if_pos (by omega), if_pos (by omega), rdc l i hi, rdc l j hjl, if_pos he]
    · refine ⟨b', fun k hk => ?_, fun h => ⟨(h2 h).1, fun j' h3 h4 => ?_⟩⟩
      · obtain ⟨k, rfl⟩ : ∃ m, k = m + 1 := ⟨k - 1, by omega⟩
        have e4 : wrap64 ((j : Int) + 1) = ((j + 1 : Nat) : Int) := by unfold wrap64; omega
        rw [honeycombref1_Fits.l1, if_pos (by omega), if_pos (by omega), if_pos (by omega), if_pos (by omega), if_pos (by omega), rdc l i hi, rdc l j hjl, if_neg he, e4]
        exact h1 k (by omega)
      · rcases Nat.lt_or_ge j j' with h5 | h5
        · exact (h2 h).2 j' h3 (by omega)
        · obtain rfl : j' = j := by omega
          intro e
          refine he ?_
          rw [Lib.toList_data, Lib.toList_data]
          exact e
theorem fits_l0 (l : List S25) (hl : l.length ≤ 40) : ∀ (d i : Nat), i + d = l.length → ∀ n : Nat, n ≤ 1 + 60 * i → ∃ K b, (∀ k, K ≤ k → honeycombref1_Fits.l0 k l (n : Int) (i : Int) = some b) ∧
    (b = true → (∀ x ∈ l.drop i, right (toB x).cl = true) ∧ (∀ a (ha : a < l.length) c (hc : c < a), i ≤ a → (toB l[c]).kk ≠ (toB l[a]).kk) ∧ n + tot ((l.drop i).map toB) ≤ 240)
  | 0, i, hi, n, hn => by
    refine ⟨1, decide ((n : Int) ≤ 240), fun k hk => ?_, fun h => ?_⟩
    · obtain ⟨k, rfl⟩ : ∃ m, k = m + 1 := ⟨k - 1, by omega⟩
      rw [honeycombref1_Fits.l0, if_neg (by omega)]
    · have := of_decide_eq_true h
      rw [List.drop_eq_nil_of_le (by omega)]
      exact ⟨fun _ h => (by cases h), fun a ha c hc h => (by omega), by rw [List.map_nil, tot_nil]; omega⟩
  | d + 1, i, hi, n, hn => by
    have hx : i < l.length := by omega
    cases hr : right (toB l[i]).cl with
    | false =>
      refine ⟨1, false, fun k hk => ?_, fun h => by cases h⟩
      obtain ⟨k, rfl⟩ : ∃ m, k = m + 1 := ⟨k - 1, by omega⟩
      rw [honeycombref1_Fits.l0, if_pos (by omega), if_pos (by omega), rdc l i hx, CellRight_is, hr, Option.bind_some, if_neg (by simp)]
    | true =>
      obtain ⟨e1, e2⟩ := CellSize_at l[i] hr
      obtain ⟨K, b, h1, h2⟩ := fits_l0 l hl d (i + 1) (by omega) (n + csize (toB l[i]).cl) (by omega)
      obtain ⟨b', h3, h4⟩ := fits_l1 l hl n i (by omega) hx hr K b h1 i 0 (by omega)
      refine ⟨K + i + 2, b', fun k hk => ?_, fun h => ?_⟩
      · obtain ⟨k, rfl⟩ : ∃ m, k = m + 1 := ⟨k - 1, by omega⟩
        rw [honeycombref1_Fits.l0, if_pos (by omega), if_pos (by omega), rdc l i hx, CellRight_is, hr, Option.bind_some, if_pos rfl]
        exact h3 k (by omega)
      · obtain ⟨h5, h6⟩ := h4 h
        obtain ⟨h7, h8, h9⟩ := h2 h5
        rw [List.drop_eq_getElem_cons hx]
        refine ⟨fun x hx => ?_, fun a ha c hc hia => ?_, ?_⟩
        · rcases List.mem_cons.1 hx with rfl | hx
          · exact hr
          · exact h7 x hx
        · rcases Nat.lt_or_ge i a with h10 | h10
          · exact h8 a ha c hc (by omega)
          · obtain rfl : a = i := by omega
            exact h6 c hc (Nat.zero_le _)
        · rw [List.map_cons, tot_cons]
          omega
theorem fits_has (l : List S25) (hl : l.length ≤ 40) : ∃ k b, honeycombref1_Fits.f k l = some b ∧ (b = true → FitB (l.map toB)) := by
  obtain ⟨K, b, h1, h2⟩ := fits_l0 l hl l.length 0 (by omega) 1 (by omega)
  refine ⟨K, b, h1 K (Nat.le_refl _), fun h => ?_⟩
  obtain ⟨h3, h4, h5⟩ := h2 h
  rw [List.drop_zero] at h3 h5
  refine ⟨fun c hc => ?_, ?_, by omega⟩
  · obtain ⟨x, hx, rfl⟩ := List.mem_map.1 hc
    exact h3 x hx
  · rw [List.map_map, List.Nodup, List.pairwise_map, List.pairwise_iff_getElem]
    intro i j hi hj hij
    exact h4 j hj i hij (Nat.zero_le _)
end Go.Proofs.Ytcmepoakcffpaaa.CP
