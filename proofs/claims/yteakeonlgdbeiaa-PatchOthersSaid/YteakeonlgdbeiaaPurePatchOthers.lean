/- PatchOthers: patches of other pages do nothing to a page, whatever the input. Conditions: none beyond the given row's own. -/
import Derived.Test.YteakeonlgdbeiaaPPx4
import Derived.Test.YteakeonlgdbeiaaPureCommon
namespace Go.Proofs.Yteakeonlgdbeiaa.Pure
open Go Go.RowKit Go.Proofs.Yteakeonlgdbeiaa.PP Go.Proofs.YteakeonlgdbeiaaW.PrintWords Go.Proofs.YteakeonlgdbeiaaW.PrintLast Go.Proofs.YteakeonlgdbeiaaW.PrintMore
set_option linter.unusedVariables false
def mineOf (page : Int) (l : List S26) : List S26 := l.filter fun q => decide (q.f0 = page)
theorem layAll_mine (page : Int) : ∀ (l : List S26) (s : ByteArray), layAll page s (mineOf page l) = layAll page s l
  | [], s => rfl
  | q :: l, s => by
    unfold mineOf
    rw [List.filter_cons]
    by_cases h : q.f0 = page
    · rw [if_pos (by simpa using h)]
      simp only [layAll, if_pos h]
      exact layAll_mine page l _
    · rw [if_neg (by simpa using h)]
      simp only [layAll, if_neg h]
      exact layAll_mine page l _
theorem mine_snoc (page : Int) (l : List S26) (q : S26) : mineOf page (l ++ [q]) = if q.f0 = page then mineOf page l ++ [q] else mineOf page l := by
  unfold mineOf
  rw [List.filter_append, List.filter_cons]
  by_cases h : q.f0 = page
  · simp [h]
  · simp [h]
theorem take_snoc (l : List S26) (i : Nat) (h : i < l.length) : l.take (i + 1) = l.take i ++ [rd_T26 l (i : Int)] := by
  rw [List.take_succ_eq_append_getElem h]
  congr 2
  unfold rd_T26
  simp [List.getD_eq_getElem?_getD, List.getElem?_eq_getElem h]
theorem Others_loop (b : ByteArray) (page : Int) (l : List S26) (hl : l.length ≤ 20) : ∀ (d i k : Nat), i + d = l.length → d + 100 < k → (∀ q ∈ l.take i, rightQ q) →
    honeycomblaw6_PatchOthers.l0 k b page l (mineOf page (l.take i)) l (l.length : Int) (i : Int) = some true := by
  intro d
  induction d with
  | zero =>
    intro i k hi hk hr
    obtain ⟨k, rfl⟩ : ∃ m, k = m + 1 := ⟨k - 1, by omega⟩
    have ht : l.take i = l := List.take_of_length_le (by omega)
    rw [ht] at hr ⊢
    have hlm : (mineOf page l).length ≤ l.length := List.length_filter_le _ _
    simp only [honeycomblaw6_PatchOthers.l0]
    rw [if_neg (by omega), Page_is]
    simp only [Option.bind_some]
    have hrm : ∀ q ∈ mineOf page l, rightQ q := fun q hq => hr q (List.mem_filter.1 hq).1
    rw [All_is _ page l (by omega) (by omega), All_is _ page (mineOf page l) (by omega) (by omega), if_pos (pageB_size b), if_pos (pageB_size b)]
    simp only [allL]
    rw [if_pos hr, if_pos hrm, layAll_mine]
    simp only [Option.bind_some]
    rw [if_pos trivial, if_pos trivial, if_pos trivial]
    by_cases hm : (mineOf page l).length = 0
    · rw [if_neg (by omega)]
      have he : mineOf page l = [] := List.eq_nil_of_length_eq_zero hm
      have := layAll_mine page l (pageB b)
      rw [he] at this
      rw [← this]
      simp [layAll]
    · rw [if_pos (by omega)]
  | succ d ih =>
    intro i k hi hk hr
    obtain ⟨k, rfl⟩ : ∃ m, k = m + 1 := ⟨k - 1, by omega⟩
    have hlt : i < l.length := by omega
    have hlm : (mineOf page (l.take i)).length ≤ (l.take i).length := List.length_filter_le _ _
    have hlt2 : (l.take i).length ≤ l.length := List.length_take_le' _ _
    simp only [honeycomblaw6_PatchOthers.l0]
    rw [if_pos (by omega), if_pos (by omega), if_pos (by omega), Right_is, succ_in hlt (by omega)]
    simp only [Option.bind_some]
    by_cases hq : rightQ (rd_T26 l (i : Int))
    · have ih2 := ih (i + 1) k (by omega) (by omega) (fun q hm => by
        rw [take_snoc l i hlt] at hm
        rcases List.mem_append.1 hm with h | h
        · exact hr q h
        · rw [List.mem_singleton.1 h]; exact hq)
      rw [take_snoc l i hlt, mine_snoc] at ih2
      rw [if_pos (by simpa using hq)]
      by_cases hp : (rd_T26 l (i : Int)).f0 = page
      · rw [if_pos hp] at ih2 ⊢
        rw [if_pos (by omega)]
        exact ih2
      · rw [if_neg hp] at ih2 ⊢
        exact ih2
    · rw [if_neg (by simpa using hq)]

theorem PatchOthers : honeycomblaw6_PatchOthers.Pure := by
  intro b page l hb hp hl hl2
  refine ⟨703, ?_⟩
  have hA := alive_is (k := 703) (by omega)
  have hA' := alive_is (k := 702) (by omega)
  have hT : honeycomblaw6_PatchOthers.j0 703 b page l true = some true := by
    rw [show (703 : Nat) = 702 + 1 from rfl]
    simp only [honeycomblaw6_PatchOthers.j0]
    rw [if_pos trivial, hA']
    rfl
  unfold honeycomblaw6_PatchOthers.f
  by_cases c1 : (b.size : Int) > 200
  · rw [if_pos c1, hT]
  by_cases c2 : page < 0
  · rw [if_neg c1, if_pos c2, hT]
  by_cases c3 : page ≥ 64
  · rw [if_neg c1, if_neg c2, if_pos c3, hT]
  by_cases c4 : (l.length : Int) > 20
  · rw [if_neg c1, if_neg c2, if_neg c3, if_pos c4, hT]
  rw [if_neg c1, if_neg c2, if_neg c3, if_neg c4, hA]
  simp only [Option.bind_some]
  rw [show (703 : Nat) = 702 + 1 from rfl]
  simp only [honeycomblaw6_PatchOthers.j0]
  rw [if_neg (by decide)]
  exact Others_loop b page l (by omega) l.length 0 702 (by omega) (by omega) (by simp)

end Go.Proofs.Yteakeonlgdbeiaa.Pure
