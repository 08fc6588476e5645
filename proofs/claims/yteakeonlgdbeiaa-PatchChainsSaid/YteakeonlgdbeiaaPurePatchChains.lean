/- PatchChains: what changed from page to page, one behind the other, makes of the first one the last one. Conditions: none beyond the given row's own. -/
import Derived.Test.YteakeonlgdbeiaaPPx5
import Derived.Test.YteakeonlgdbeiaaPureCommon
namespace Go.Proofs.Yteakeonlgdbeiaa.Pure
open Go Go.RowKit Go.Proofs.Yteakeonlgdbeiaa.PP Go.Proofs.YteakeonlgdbeiaaW.PrintWords Go.Proofs.YteakeonlgdbeiaaW.PrintLast Go.Proofs.YteakeonlgdbeiaaW.PrintMore
set_option linter.unusedVariables false
theorem layAll_snoc (page : Int) : ∀ (l : List S26) (s : ByteArray) (q : S26), q.f0 = page → layAll page s (l ++ [q]) = layB (layAll page s l) q
  | [], s, q, h => by simp [layAll, h]
  | x :: l, s, q, h => by
    show layAll page _ (l ++ [q]) = layB (layAll page _ l) q
    exact layAll_snoc page l _ q h
/-- The i-th page. -/
def pg (l : List ByteArray) (i : Nat) : ByteArray := pageB (rdOf ByteArray.empty l (i : Int))
theorem Chains_loop (l : List ByteArray) (h1 : 1 ≤ l.length) (hl : l.length ≤ 12) : ∀ (d i k : Nat) (x : List S26), i + d = l.length → d + 650 < k → x.length ≤ i → (∀ q ∈ x, rightQ q) → layAll 7 (pg l 0) x = pg l (i - 1) →
    honeycomblaw6_PatchChains.l0 k l x (l.length : Int) (i : Int) = some true := by
  intro d
  induction d with
  | zero =>
    intro i k x hi hk hx hr he
    obtain ⟨k, rfl⟩ : ∃ m, k = m + 1 := ⟨k - 1, by omega⟩
    have hw : wrap64 ((l.length : Int) - 1) = ((i - 1 : Nat) : Int) := by unfold wrap64; omega
    simp only [honeycomblaw6_PatchChains.l0]
    rw [if_neg (by omega), if_pos (by omega), Page_is, hw]
    simp only [Option.bind_some]
    rw [All_is _ 7 x (by omega) (by omega), if_pos (pageB_size _)]
    change ((some (allL 7 (pg l 0) x)).bind _) = _
    simp only [allL, if_pos hr, Option.bind_some]
    rw [if_pos trivial, if_pos (by omega), if_pos (by omega), Page_is]
    simp only [Option.bind_some]
    rw [he]
    simp [pg]
  | succ d ih =>
    intro i k x hi hk hx hr he
    obtain ⟨k, rfl⟩ : ∃ m, k = m + 1 := ⟨k - 1, by omega⟩
    have hlt : i < l.length := by omega
    simp only [honeycomblaw6_PatchChains.l0]
    rw [if_pos (by omega), if_pos (by omega), if_pos (by omega)]
    by_cases c1 : ((rdOf ByteArray.empty l (i : Int)).size : Int) > 200
    · rw [if_pos c1]
    rw [if_neg c1]
    by_cases c2 : (i : Int) = 0
    · rw [if_pos c2, succ_in hlt (by omega)]
      have hi0 : i = 0 := by omega
      subst hi0
      exact ih 1 k x (by omega) (by omega) (by omega) hr he
    rw [if_neg c2]
    have hw : wrap64 ((i : Int) - 1) = ((i - 1 : Nat) : Int) := by unfold wrap64; omega
    rw [hw, if_pos (by omega), if_pos (by omega), Page_is, Page_is, succ_in hlt (by omega)]
    simp only [Option.bind_some]
    change ((patch_Diff.f k 7 (pg l (i - 1)) (pg l i)).bind _) = _
    have s1 : (pg l (i - 1)).size = 256 := pageB_size _
    have s2 : (pg l i).size = 256 := pageB_size _
    by_cases e : pg l (i - 1) = pg l i
    · rw [Diff_no (by rw [e]; simp) (by omega)]
      simp only [Option.bind_some]
      rw [if_neg (by decide)]
      change (if (pg l (i - 1)).toList = (pg l i).toList then _ else _) = _
      rw [if_pos (by rw [e])]
      exact ih (i + 1) k x (by omega) (by omega) (by omega) hr (by rw [he, e]; rfl)
    · obtain ⟨a, z, hd⟩ := diff_of s1 s2 e
      rw [Diff_yes (by decide) s1 s2 hd (by omega)]
      simp only [Option.bind_some]
      rw [if_pos trivial, if_pos (by omega)]
      have hq := diff_right (page := 7) (by decide) s2 hd
      refine ih (i + 1) k _ (by omega) (by omega) (by simp; omega) (fun q hm => ?_) ?_
      · rcases List.mem_append.1 hm with h | h
        · exact hr q h
        · rw [List.mem_singleton.1 h]; exact hq
      · rw [layAll_snoc 7 x _ _ rfl, he]
        exact diff_lays (by decide) s1 s2 hd

theorem PatchChains : honeycomblaw6_PatchChains.Pure := by
  intro l hl hl2
  refine ⟨703, ?_⟩
  have hA := alive_is (k := 703) (by omega)
  have hA' := alive_is (k := 702) (by omega)
  have hT : honeycomblaw6_PatchChains.j0 703 l true = some true := by
    rw [show (703 : Nat) = 702 + 1 from rfl]
    simp only [honeycomblaw6_PatchChains.j0]
    rw [if_pos trivial, hA']
    rfl
  unfold honeycomblaw6_PatchChains.f
  by_cases c1 : (l.length : Int) < 1
  · rw [if_pos c1, hT]
  by_cases c4 : (l.length : Int) > 12
  · rw [if_neg c1, if_pos c4, hT]
  rw [if_neg c1, if_neg c4, hA]
  simp only [Option.bind_some]
  rw [show (703 : Nat) = 702 + 1 from rfl]
  simp only [honeycomblaw6_PatchChains.j0]
  rw [if_neg (by decide)]
  exact Chains_loop l (by omega) (by omega) l.length 0 702 [] (by omega) (by omega) (by simp) (by simp) rfl

end Go.Proofs.Yteakeonlgdbeiaa.Pure
