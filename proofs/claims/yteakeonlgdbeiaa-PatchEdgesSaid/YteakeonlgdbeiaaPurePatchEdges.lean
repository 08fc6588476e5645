/- PatchEdges: a patch may go to a page's very end and no further, and has a byte at least, whatever the input. Conditions: none beyond the given row's own. -/
import Derived.Test.YteakeonlgdbeiaaPPx6
import Derived.Test.YteakeonlgdbeiaaPureCommon
namespace Go.Proofs.Yteakeonlgdbeiaa.Pure
open Go Go.RowKit Go.Proofs.Yteakeonlgdbeiaa.PP Go.Proofs.YteakeonlgdbeiaaW.PrintWords Go.Proofs.YteakeonlgdbeiaaW.PrintLast Go.Proofs.YteakeonlgdbeiaaW.PrintMore
set_option linter.unusedVariables false
theorem PatchEdges : honeycomblaw6_PatchEdges.Pure := by
  intro at_ n page ha hn hp
  refine ⟨700, ?_⟩
  have hA := alive_is (k := 700) (by omega)
  have hA' := alive_is (k := 699) (by omega)
  have ha2 : -9223372036854775808 ≤ at_ ∧ at_ ≤ 9223372036854775807 := by simpa [Lit.wf, IntKind.min, IntKind.max, IntKind.signed, IntKind.bits] using ha
  have hT : honeycomblaw6_PatchEdges.j0 700 at_ n page true = some true := by
    rw [show (700 : Nat) = 699 + 1 from rfl]
    simp only [honeycomblaw6_PatchEdges.j0]
    rw [if_pos trivial, hA']
    rfl
  unfold honeycomblaw6_PatchEdges.f
  by_cases h1 : n < 0
  · rw [if_pos h1, hT]
  by_cases h2 : n > 400
  · rw [if_neg h1, if_pos h2, hT]
  rw [if_neg h1, if_neg h2, hA]
  simp only [Option.bind_some]
  rw [show (700 : Nat) = 699 + 1 from rfl]
  simp only [honeycomblaw6_PatchEdges.j0]
  have hz := zerosB_size n.toNat
  have hAp := Apply_is (pageB ⟨#[120]⟩) ⟨page, at_, zerosB n.toNat⟩ (k := 699) (by omega)
  dsimp only at hAp
  have hRi := Right_is page at_ (zerosB n.toNat)
  rw [if_neg (by decide), if_pos (by omega), if_pos (by omega)]
  change ((some (List.replicate n.toNat 0 : List Int)).bind fun y171 => _) = _
  simp only [Option.bind_some, Page_is]
  rw [show strOfNums (List.replicate n.toNat 0) = zerosB n.toNat from rfl, hAp, hRi]
  simp only [Option.bind_some]
  have hs := pageB_size ⟨#[120]⟩
  have hrt : rightQ ⟨page, at_, zerosB n.toNat⟩ ↔ (page ≥ 0 ∧ page < 64 ∧ at_ ≥ 0 ∧ at_ < 256 ∧ n ≥ 1 ∧ n ≤ 256 - at_) := by
    unfold rightQ
    dsimp only
    rw [hz]
    omega
  have hiff : ∀ (b : Bool), (b = true ↔ rightQ ⟨page, at_, zerosB n.toNat⟩) → (if (decide (rightQ ⟨page, at_, zerosB n.toNat⟩) == b) = true then (some ((if (pageB ⟨#[120]⟩).size = 256 ∧ rightQ ⟨page, at_, zerosB n.toNat⟩ then (layB (pageB ⟨#[120]⟩) ⟨page, at_, zerosB n.toNat⟩, true) else (⟨#[]⟩, false)).2 == b)) else some false) = some true := by
    intro b hb
    by_cases hr : rightQ ⟨page, at_, zerosB n.toNat⟩
    · rw [hb.2 hr, if_pos (by simpa using hr), if_pos ⟨hs, hr⟩]; rfl
    · have : b = false := by
        cases b with
        | true => exact absurd (hb.1 rfl) hr
        | false => rfl
      rw [this, if_pos (by simpa using hr), if_neg (fun h => hr h.2)]; rfl
  by_cases c1 : page ≥ 0
  · by_cases c2 : page < 64
    · by_cases c3 : at_ ≥ 0
      · by_cases c4 : at_ < 256
        · by_cases c5 : n ≥ 1
          · have hw : wrap64 (256 - at_) = 256 - at_ := by unfold wrap64; omega
            rw [if_pos c1, if_pos c2, if_pos c3, if_pos c4, if_pos c5, hw]
            exact hiff _ (by rw [decide_eq_true_iff, hrt]; omega)
          · rw [if_pos c1, if_pos c2, if_pos c3, if_pos c4, if_neg c5]
            exact hiff _ (by rw [hrt]; simp; omega)
        · rw [if_pos c1, if_pos c2, if_pos c3, if_neg c4]
          exact hiff _ (by rw [hrt]; simp; omega)
      · rw [if_pos c1, if_pos c2, if_neg c3]
        exact hiff _ (by rw [hrt]; simp; omega)
    · rw [if_pos c1, if_neg c2]
      exact hiff _ (by rw [hrt]; simp; omega)
  · rw [if_neg c1]
    exact hiff _ (by rw [hrt]; simp; omega)

end Go.Proofs.Yteakeonlgdbeiaa.Pure
