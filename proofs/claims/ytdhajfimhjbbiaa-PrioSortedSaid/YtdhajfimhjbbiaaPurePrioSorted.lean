/- The numbers that prio.Sorted answers are the same numbers, falling, whatever their order was (PrioSorted). Conditions: none beyond the given row's own. -/
import Derived.Test.YtdhajfimhjbbiaaSx1
import Derived.Test.YtdhajfimhjbbiaaQMapSep
namespace Go.Proofs.Ytdhajfimhjbbiaa.Pure
open Go Go.RowKit Go.Proofs.Ytdhajfimhjbbiaa.S Go.Proofs.YtdhajfimhjbbiaaW.PrintWords Go.Proofs.YtdhajfimhjbbiaaW.PrintLast Go.Proofs.YtdhajfimhjbbiaaW.PrintMore
set_option linter.unusedVariables false
theorem rd_nat (l : List Int) (i : Nat) (h : i < l.length) : rd l (i : Int) = l[i] := by
  unfold rd
  simp [List.getD_eq_getElem?_getD, h]
theorem wsucc (i : Nat) (h : i < 4611686018427387904) : wrap64 ((i : Int) + 1) = ((i + 1 : Nat) : Int) := by unfold wrap64; omega
theorem sameInts_l0 (a b : List Int) (hl : a.length = b.length) (hm : a.length < 4611686018427387904) : ∀ (d i k : Nat), i + d = a.length → d < k → honeycombbook_SameInts.l0 k a b (i : Int) = some (decide (a.drop i = b.drop i))
  | 0, i, k, hd, hk => by
    obtain ⟨k, rfl⟩ : ∃ m, k = m + 1 := ⟨k - 1, by omega⟩
    rw [honeycombbook_SameInts.l0, if_neg (by omega), List.drop_eq_nil_of_le (by omega), List.drop_eq_nil_of_le (by omega)]
    rfl
  | d + 1, i, k, hd, hk => by
    obtain ⟨k, rfl⟩ : ∃ m, k = m + 1 := ⟨k - 1, by omega⟩
    have hi : i < a.length := by omega
    have hi2 : i < b.length := by omega
    rw [honeycombbook_SameInts.l0, if_pos (by omega), if_pos (by omega), if_pos (by omega), rd_nat _ _ hi, rd_nat _ _ hi2, List.drop_eq_getElem_cons hi, List.drop_eq_getElem_cons hi2]
    by_cases he : a[i] = b[i]
    · rw [if_pos he, wsucc i (by omega), sameInts_l0 a b hl hm d (i + 1) k (by omega) (by omega)]
      exact congrArg some (decide_eq_decide.2 ⟨fun h => by rw [he, h], fun h => by injection h⟩)
    · rw [if_neg he]
      exact congrArg some (decide_eq_false (fun h => he (by injection h))).symm
/-- Are two lists alike? -/
theorem sameInts_ev (a b : List Int) (hm : a.length < 4611686018427387904) : Ev (fun k => honeycombbook_SameInts.f k a b) (decide (a = b)) := by
  refine ⟨a.length + 1, fun k hk => ?_⟩
  show honeycombbook_SameInts.f k a b = _
  unfold honeycombbook_SameInts.f
  by_cases hl : a.length = b.length
  · rw [if_pos (by omega)]
    have := sameInts_l0 a b hl hm a.length 0 k (by omega) (by omega)
    simpa using this
  · rw [if_neg (by omega)]
    have : a ≠ b := fun h => hl (by rw [h])
    simp [this]

open Go.Proofs.Ytdhajfimhjbbiaa.Q
theorem alive_ev : honeycomblaw3_alive.f = some true := rfl
theorem srt_f (l : List Int) (h : l.length < 900000) : prio_Sorted.f l = some (fallL l) := by unfold prio_Sorted.f; rw [if_pos h]
theorem fallL_idem (l : List Int) : fallL (fallL l) = fallL l := (fallL_eq (List.Perm.refl _) (fallL_falls l)).symm
theorem sorted_l1 (l : List Int) (hl : l.length ≤ 60) : ∀ (d i : Nat), i + d = l.length ∨ (d = 0 ∧ l.length < i) → 1 ≤ i → i ≤ 100 → Ev (fun k => honeycomblaw3_PrioSorted.l1 k (l.length : Int) (fallL l) (i : Int)) true
  | 0, i, hd, h1, _ => by
    refine Ev.step (fun k => by rw [honeycomblaw3_PrioSorted.l1, if_neg (by omega), srt_f _ (by rw [fallL_length]; omega), Option.bind_some]) ?_
    rw [fallL_idem]
    have := Ev.bind (f := fun _ x => some x) (sameInts_ev (fallL l) (fallL l) (by rw [fallL_length]; omega)) (Ev.now _)
    simpa using this
  | d + 1, i, hd, h1, h2 => by
    have hi : i < l.length := by omega
    have hi2 : i < (fallL l).length := by rw [fallL_length]; exact hi
    have e : wrap64 ((i : Int) - 1) = ((i - 1 : Nat) : Int) := by unfold wrap64; omega
    refine Ev.step (f := fun k => honeycomblaw3_PrioSorted.l1 k (l.length : Int) (fallL l) ((i + 1 : Nat) : Int)) (fun k => ?_) (sorted_l1 l hl d (i + 1) (by omega) (by omega) (by omega))
    rw [honeycomblaw3_PrioSorted.l1, if_pos (by omega), e, if_pos (by omega), if_pos (by omega), if_pos (by omega), if_pos (by omega), rd_nat _ _ (by omega), rd_nat _ _ hi2, wsucc i (by omega), if_neg]
    have := List.pairwise_iff_getElem.1 (fallL_falls l) (i - 1) i (by omega) hi2 (by omega)
    omega
/-- The list, turned. -/
theorem turned_at (n i : Nat) (t : Int) (hn : 0 < n) (hn2 : n ≤ 60) (hi : i < n) : Int.tmod (wrap64 ((i : Int) + (Int.tmod (wrap64 ((Int.tmod t (n : Int)) + (n : Int))) (n : Int)))) (n : Int) = (((i + (t % (n : Int)).toNat) % n : Nat) : Int) := by
  have b1 := Int.emod_nonneg t (show (n : Int) ≠ 0 by omega)
  have b2 := Int.emod_lt_of_pos t (show 0 < (n : Int) by omega)
  have c1 : -(n : Int) < Int.tmod t n ∧ Int.tmod t n < n := by
    have h1 := Int.lt_tmod_of_pos t (show 0 < (n : Int) by omega)
    have h2 := Int.tmod_lt_of_pos t (show 0 < (n : Int) by omega)
    exact ⟨h1, h2⟩
  have e1 : wrap64 (Int.tmod t n + n) = Int.tmod t n + n := by unfold wrap64; omega
  have e2 : Int.tmod (Int.tmod t n + n) n = t % n := by
    rw [Int.tmod_eq_emod_of_nonneg (by omega), Int.add_emod_right]
    have : Int.tmod t n % n = t % n := by
      rw [Int.tmod_def, Int.sub_mul_emod_self_left]
    exact this
  rw [e1, e2]
  have e3 : wrap64 ((i : Int) + t % n) = (i : Int) + t % n := by unfold wrap64; omega
  rw [e3, Int.tmod_eq_emod_of_nonneg (by omega)]
  have e4 : ((t % (n : Int)).toNat : Int) = t % n := by omega
  rw [Int.natCast_emod, Int.natCast_add, e4]
theorem sorted_l0 (l : List Int) (t : Int) (hl : l.length ≤ 60) (s : Nat) (hs : s = (t % (l.length : Int)).toNat) : ∀ (d i : Nat) (m : List Int), i + d = l.length → m.length = i → (∀ j, j < i → m[j]? = l[(j + s) % l.length]?) → Ev (fun k => honeycomblaw3_PrioSorted.l0 k l t (l.length : Int) m (l.length : Int) (i : Int)) true
  | 0, i, m, hd, hm, hh => by
    have hp : m.Perm l := by
      by_cases h0 : l.length = 0
      · have : m = [] := List.eq_nil_of_length_eq_zero (by omega)
        have : l = [] := List.eq_nil_of_length_eq_zero h0
        subst_vars
        exact List.Perm.refl _
      · have hs2 : s < l.length := by
          have b2 := Int.emod_lt_of_pos t (show 0 < (l.length : Int) by omega)
          have b1 := Int.emod_nonneg t (show (l.length : Int) ≠ 0 by omega)
          omega
        have : m = l.drop s ++ l.take s := by
          apply List.ext_getElem?
          intro j
          by_cases hj : j < i
          · rw [hh j hj, List.getElem?_append]
            simp only [List.length_drop]
            split
            · rw [List.getElem?_drop, Nat.mod_eq_of_lt (by omega), Nat.add_comm]
            · rw [List.getElem?_take, if_pos (by omega), Nat.mod_eq_sub_mod (by omega), Nat.mod_eq_of_lt (by omega)]
              congr 1
              omega
          · rw [List.getElem?_eq_none (by omega), List.getElem?_eq_none (by simp; omega)]
        rw [this]
        exact List.perm_append_comm.trans (by rw [List.take_append_drop])
    have he : fallL m = fallL l := fallL_eq ((fallL_perm m).trans hp) (fallL_falls m)
    refine Ev.step (f := fun k => (honeycombbook_SameInts.f k (fallL l) (fallL l)).bind fun t115 => (honeycomblaw3_PrioSorted.j2 k (l.length : Int) (fallL l) (!t115))) (fun k => ?_) ?_
    · rw [honeycomblaw3_PrioSorted.l0, if_neg (by omega), srt_f _ (by omega), Option.bind_some, srt_f _ (by omega), Option.bind_some, he, if_pos (by rw [fallL_length])]
    · have := Ev.bind (sameInts_ev (fallL l) (fallL l) (by rw [fallL_length]; omega)) (f := fun k t115 => honeycomblaw3_PrioSorted.j2 k (l.length : Int) (fallL l) (!t115)) (r := true) ?_
      · exact this
      · simp only [decide_true, Bool.not_true]
        refine Ev.step (f := fun k => honeycomblaw3_PrioSorted.l1 k (l.length : Int) (fallL l) ((1 : Nat) : Int)) (fun k => by rw [honeycomblaw3_PrioSorted.j2, if_neg (by simp)]; rfl) ?_
        exact sorted_l1 l hl (l.length - 1) 1 (by omega) (by omega) (by omega)
  | d + 1, i, m, hd, hm, hh => by
    have hi : i < l.length := by omega
    have hix : (i + s) % l.length < l.length := Nat.mod_lt _ (by omega)
    refine Ev.step (f := fun k => honeycomblaw3_PrioSorted.l0 k l t (l.length : Int) (m ++ [l[(i + s) % l.length]]) (l.length : Int) ((i + 1 : Nat) : Int)) (fun k => ?_) (sorted_l0 l t hl s hs d (i + 1) (m ++ [l[(i + s) % l.length]]) (by omega) (by simp [hm]) ?_)
    · rw [honeycomblaw3_PrioSorted.l0, if_pos (by omega), if_neg (by omega), turned_at l.length i t (by omega) hl hi, ← hs, if_pos (by omega), if_pos (by omega), if_pos (by omega), rd_nat _ _ hix, wsucc i (by omega)]
    · intro j hj
      by_cases hji : j < i
      · rw [List.getElem?_append_left (by omega), hh j hji]
      · obtain rfl : j = i := by omega
        rw [List.getElem?_append_right (by omega)]
        simp [hm, hix]
theorem PrioSorted : honeycomblaw3_PrioSorted.Pure := by
  intro l t h1 h2 h3 h4
  refine Ev.rounds (g := fun k => honeycomblaw3_PrioSorted.f k l t) ?_
  by_cases hl : (l.length : Int) > 60
  · refine Ev.congr (fun k => if_pos hl) ?_
    refine Ev.step (f := fun _ => some true) (fun k => by rw [honeycomblaw3_PrioSorted.j0, if_pos rfl, alive_ev, Option.bind_some]) (Ev.now _)
  · refine Ev.congr (fun k => if_neg hl) ?_
    simp only [alive_ev, Option.bind_some, Bool.not_true]
    refine Ev.step (f := fun k => honeycomblaw3_PrioSorted.l0 k l t (l.length : Int) [] (l.length : Int) ((0 : Nat) : Int)) (fun k => by rw [honeycomblaw3_PrioSorted.j0, if_neg (by simp)]; rfl) ?_
    exact sorted_l0 l t (by omega) _ rfl l.length 0 [] (by omega) rfl (by omega)

end Go.Proofs.Ytdhajfimhjbbiaa.Pure
