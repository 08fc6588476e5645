/- PatchTells: what changed between two pages, whether a patch may be, what it makes of a page, and all of them, are the document's; what is handed in stays. Conditions: none beyond the given row's own. -/
import Derived.Test.YteakeonlgdbeiaaPPx10
import Derived.Test.YteakeonlgdbeiaaPureCommon
namespace Go.Proofs.Yteakeonlgdbeiaa.Pure
open Go Go.RowKit Go.Proofs.Yteakeonlgdbeiaa.PP Go.Proofs.YteakeonlgdbeiaaW.PrintWords Go.Proofs.YteakeonlgdbeiaaW.PrintLast Go.Proofs.YteakeonlgdbeiaaW.PrintMore
set_option linter.unusedVariables false
theorem ref_l1 (page : Int) (old now : ByteArray) : ∀ (k : Nat) (a z : Int), honeycombref1_Diff.l1 k page old now a z = patch_Diff.l1 k page old now a z
  | 0, a, z => by simp [honeycombref1_Diff.l1, patch_Diff.l1]
  | k + 1, a, z => by simp only [honeycombref1_Diff.l1, patch_Diff.l1, ref_l1 page old now k]
theorem ref_l0 (page : Int) (old now : ByteArray) : ∀ (k : Nat) (a z : Int), honeycombref1_Diff.l0 k page old now a z = patch_Diff.l0 k page old now a z
  | 0, a, z => by simp [honeycombref1_Diff.l0, patch_Diff.l0]
  | k + 1, a, z => by simp only [honeycombref1_Diff.l0, patch_Diff.l0, ref_l0 page old now k, ref_l1 page old now k]
theorem ref_j0 (page : Int) (old now : ByteArray) (k : Nat) (b : Bool) : honeycombref1_Diff.j0 k page old now b = patch_Diff.j0 k page old now b := by
  cases k with
  | zero => simp [honeycombref1_Diff.j0, patch_Diff.j0]
  | succ k => simp only [honeycombref1_Diff.j0, patch_Diff.j0, ref_l0 page old now k]
theorem ref_diff (page : Int) (old now : ByteArray) (k : Nat) : honeycombref1_Diff.f k page old now = patch_Diff.f k page old now := by
  unfold honeycombref1_Diff.f patch_Diff.f
  rw [right_is, right_is]
  simp only [Option.bind_some, ref_j0]
  by_cases c1 : page < 0
  · rw [if_pos c1, if_neg (by simp; omega)]
  by_cases c2 : page ≥ 64
  · rw [if_neg c1, if_pos c2, if_neg (by simp; omega)]
  by_cases c3 : (old.size : Int) = 256
  · by_cases c4 : (now.size : Int) = 256
    · rw [if_neg c1, if_neg c2, if_pos c3, if_pos c4, if_pos (by simp; omega), if_pos (by simp; omega)]
    · rw [if_neg c1, if_neg c2, if_pos c3, if_neg c4, if_pos (by simp; omega), if_neg (by simp; omega)]
  · rw [if_neg c1, if_neg c2, if_neg c3, if_neg (by simp; omega)]
theorem ref_right (p a : Int) (b : ByteArray) : honeycombref1_PatchRight.f p a b = patch_Right.f p a b := rfl
theorem ref_apply (s : ByteArray) (q : S26) : honeycombref1_Apply.f s q.f0 q.f1 q.f2 = some (if s.size = 256 ∧ rightQ q then (layB s q, true) else (⟨#[]⟩, false)) := by
  unfold honeycombref1_Apply.f
  by_cases h : s.size = 256
  · rw [if_pos (by omega), ref_right, Right_is]
    simp only [Option.bind_some]
    by_cases hr : rightQ q
    · have hr2 := hr
      obtain ⟨_, _, h1, h2, h3, h4⟩ := hr2
      have hw : wrap64 (q.f1 + (q.f2.size : Int)) = q.f1 + (q.f2.size : Int) := by unfold wrap64; omega
      have e1 : (s.extract 0 q.f1.toNat).size = q.f1.toNat := by rw [ByteArray.size_extract]; omega
      have e2 : (s.extract (q.f1 + (q.f2.size : Int)).toNat s.size).size ≤ 256 := by rw [ByteArray.size_extract]; omega
      rw [if_pos (by simpa using hr), hw, if_pos (by omega), if_pos (by omega), if_pos (by rw [e1]; omega), if_pos (by omega), if_pos (by omega), if_pos (by rw [ByteArray.size_append, e1]; omega), if_pos ⟨h, hr⟩]
      rfl
    · rw [if_neg (by simpa using hr), if_neg (fun h2 => hr h2.2)]
  · rw [if_neg (by omega), if_neg (fun h2 => h h2.1)]
theorem refs_from (page : Int) (l : List S26) (hl : l.length ≤ 9223372036854775807) : ∀ (d i k : Nat) (s : ByteArray), i + d = l.length → d < k → s.size = 256 →
    honeycombref1_Patches.l0 k s page l (i : Int) = some (allL page s (l.drop i)) := by
  intro d
  induction d with
  | zero =>
    intro i k s hi hk hs
    obtain ⟨k, rfl⟩ : ∃ m, k = m + 1 := ⟨k - 1, by omega⟩
    simp only [honeycombref1_Patches.l0]
    rw [if_neg (by omega), List.drop_eq_nil_of_le (by omega)]
    simp [allL, layAll]
  | succ d ih =>
    intro i k s hi hk hs
    obtain ⟨k, rfl⟩ : ∃ m, k = m + 1 := ⟨k - 1, by omega⟩
    have hlt : i < l.length := by omega
    simp only [honeycombref1_Patches.l0]
    rw [if_pos (by omega), if_pos (by omega), rd_drop l i hlt, ref_right, Right_is, succ_in hlt hl, ref_apply]
    generalize hq : rd_T26 l (i : Int) = q
    simp only [Option.bind_some]
    by_cases hr : rightQ q
    · rw [if_pos (by simpa using hr)]
      have key : ∀ s' : ByteArray, s'.size = 256 → allL page s' (l.drop (i + 1)) = (if ∀ x ∈ q :: l.drop (i + 1), rightQ x then (layAll page s' (l.drop (i + 1)), true) else (⟨#[]⟩, false)) := by
        intro s' _
        unfold allL
        by_cases ha : ∀ x ∈ l.drop (i + 1), rightQ x
        · rw [if_pos ha, if_pos (by simpa [hr] using ha)]
        · rw [if_neg ha, if_neg (fun h => ha (fun x hx => h x (by simp [hx])))]
      by_cases hp : q.f0 = page
      · rw [if_pos hp, if_pos ⟨hs, hr⟩]
        rw [ih (i + 1) k _ (by omega) (by omega) (lay_size hs hr), key _ (lay_size hs hr)]
        simp only [allL, layAll, if_pos hp]
      · rw [if_neg hp, ih (i + 1) k s (by omega) (by omega) hs, key s hs]
        simp only [allL, layAll, if_neg hp]
    · rw [if_neg (by simpa using hr)]
      unfold allL
      rw [if_neg (fun h => hr (h q (by simp)))]
theorem refs_is (s : ByteArray) (page : Int) (l : List S26) (hl : l.length ≤ 9223372036854775807) {k : Nat} (hk : l.length < k) :
    honeycombref1_Patches.f k s page l = some (if s.size = 256 then allL page s l else (⟨#[]⟩, false)) := by
  unfold honeycombref1_Patches.f
  by_cases h : s.size = 256
  · rw [if_pos (by omega), if_pos h]
    simpa using refs_from page l hl l.length 0 k s (by omega) hk h
  · rw [if_neg (by omega), if_neg h]
theorem same_from (l : List S26) (hl : l.length ≤ 9223372036854775807) : ∀ (d i k : Nat), i + d = l.length → d < k → honeycombbook_SamePatches.l0 k l l (i : Int) = some true := by
  intro d
  induction d with
  | zero =>
    intro i k hi hk
    obtain ⟨k, rfl⟩ : ∃ m, k = m + 1 := ⟨k - 1, by omega⟩
    simp only [honeycombbook_SamePatches.l0]
    rw [if_neg (by omega)]
  | succ d ih =>
    intro i k hi hk
    obtain ⟨k, rfl⟩ : ∃ m, k = m + 1 := ⟨k - 1, by omega⟩
    have hlt : i < l.length := by omega
    simp only [honeycombbook_SamePatches.l0]
    rw [if_pos (by omega), if_pos (by omega), if_pos (by omega), if_pos (by simp), succ_in hlt hl]
    exact ih (i + 1) k (by omega) (by omega)
theorem stays_is (l : List S26) (hl : l.length ≤ 9223372036854775807) {k : Nat} (hk : l.length < k) : honeycombbook_StaysPatches.f k l l = some true := by
  unfold honeycombbook_StaysPatches.f honeycombbook_SamePatches.f
  rw [if_pos rfl]
  exact same_from l hl l.length 0 k (by omega) hk
theorem lent_is (l : List S26) (hl : l.length ≤ 20) : honeycombbook_LentPatches.f l = some l := by
  unfold honeycombbook_LentPatches.f honeycombbook_copyPatches.f
  rw [if_pos (by simp; omega)]
  simp only [Option.bind_some, List.nil_append]
  rw [if_pos (by omega), if_pos (by omega), if_pos (by simp; omega)]
  simp
theorem Tells_loop (page : Int) (old : ByteArray) (l : List S26) (hl : l.length ≤ 20) : ∀ (d i k : Nat), i + d = l.length → d + 100 < k → honeycomblaw6_PatchTells.l0 k page old l l (l.length : Int) (i : Int) = some true := by
  intro d
  induction d with
  | zero =>
    intro i k hi hk
    obtain ⟨k, rfl⟩ : ∃ m, k = m + 1 := ⟨k - 1, by omega⟩
    simp only [honeycomblaw6_PatchTells.l0]
    rw [if_neg (by omega), lent_is l hl]
    simp only [Option.bind_some]
    rw [All_is old page l (by omega) (by omega), refs_is old page l (by omega) (by omega)]
    simp only [Option.bind_some]
    rw [if_pos trivial, if_pos (by simp), stays_is l (by omega) (by omega)]
    rfl
  | succ d ih =>
    intro i k hi hk
    obtain ⟨k, rfl⟩ : ∃ m, k = m + 1 := ⟨k - 1, by omega⟩
    have hlt : i < l.length := by omega
    simp only [honeycomblaw6_PatchTells.l0]
    rw [if_pos (by omega), if_pos (by omega), if_pos (by omega), succ_in hlt (by omega), Apply_is _ _ (by omega), ref_apply, ref_right, Right_is]
    by_cases c : (((rd_T26 l (i : Int)).f2).size : Int) > 400
    · rw [if_pos c]
    · rw [if_neg c]
      simp only [Option.bind_some]
      rw [if_pos trivial, if_neg (by simp), if_neg (by simp)]
      exact ih (i + 1) k (by omega) (by omega)

theorem Tells_j1 (page : Int) (old now : ByteArray) (l : List S26) (hl : l.length ≤ 20) {k : Nat} (hk : 800 ≤ k) : honeycomblaw6_PatchTells.j1 k page old now l = some true := by
  obtain ⟨k, rfl⟩ : ∃ m, k = m + 3 := ⟨k - 3, by omega⟩
  have hj3 : honeycomblaw6_PatchTells.j3 (k + 1) page old l false = some true := by
    simp only [honeycomblaw6_PatchTells.j3]
    rw [if_neg (by decide)]
    exact Tells_loop page old l hl l.length 0 k (by omega) (by omega)
  have hj2 : ∀ (D : Int × Int × ByteArray × Bool) (c : Bool), c = decide (0 ≤ page ∧ page < 64 ∧ now.size = 256) → honeycomblaw6_PatchTells.j2 (k + 2) page old now l D.2.2.2 D.2.2.2 (if 0 ≤ page ∧ page < 64 ∧ now.size = 256 then (page, (0 : Int), now, true) else (0, 0, ⟨#[]⟩, false)).2.2.2 c D.1 D.2.1 D.2.2.1 D.1 D.2.1 D.2.2.1
      (if 0 ≤ page ∧ page < 64 ∧ now.size = 256 then (page, (0 : Int), now, true) else (0, 0, ⟨#[]⟩, false)).1 (if 0 ≤ page ∧ page < 64 ∧ now.size = 256 then (page, (0 : Int), now, true) else (0, 0, ⟨#[]⟩, false)).2.1 (if 0 ≤ page ∧ page < 64 ∧ now.size = 256 then (page, (0 : Int), now, true) else (0, 0, ⟨#[]⟩, false)).2.2.1 = some true := by
    intro D c hc
    subst hc
    simp only [honeycomblaw6_PatchTells.j2]
    rw [if_neg (by simp), if_neg (by simp)]
    by_cases h : 0 ≤ page ∧ page < 64 ∧ now.size = 256
    · simp only [if_pos h, decide_eq_true h]
      rw [if_neg (by simp), if_pos trivial, if_neg (by simp)]
      exact hj3
    · simp only [if_neg h, decide_eq_false h]
      rw [if_neg (by simp), if_neg (by simp), ByteArray.toList_eq]
      exact hj3
  have hdiff : ∃ D, patch_Diff.f (k + 2) page old now = some D := by
    by_cases h : 0 ≤ page ∧ page < 64 ∧ old.size = 256 ∧ now.size = 256 ∧ old ≠ now
    · obtain ⟨a, z, hd⟩ := diff_of h.2.2.1 h.2.2.2.1 h.2.2.2.2
      exact ⟨_, Diff_yes ⟨h.1, h.2.1⟩ h.2.2.1 h.2.2.2.1 hd (by omega)⟩
    · exact ⟨_, Diff_no h (by omega)⟩
  obtain ⟨D, hD⟩ := hdiff
  simp only [honeycomblaw6_PatchTells.j1]
  rw [ref_diff, hD]
  simp only [Option.bind_some]
  rw [Whole_is]
  simp only [Option.bind_some]
  by_cases c1 : page ≥ 0
  · by_cases c2 : page < 64
    · rw [if_pos c1, if_pos c2]
      exact hj2 D _ (by rw [Bool.eq_iff_iff, beq_iff_eq, decide_eq_true_iff]; omega)
    · rw [if_pos c1, if_neg c2]
      exact hj2 D _ (by symm; apply decide_eq_false; omega)
  · rw [if_neg c1]
    exact hj2 D _ (by symm; apply decide_eq_false; omega)

theorem PatchTells : honeycomblaw6_PatchTells.Pure := by
  intro page old now raw l hp ho hn hl hl2
  refine ⟨903, ?_⟩
  have hA := alive_is (k := 903) (by omega)
  have hA' := alive_is (k := 902) (by omega)
  have hT : honeycomblaw6_PatchTells.j0 903 page old now raw l true = some true := by
    rw [show (903 : Nat) = 902 + 1 from rfl]
    simp only [honeycomblaw6_PatchTells.j0]
    rw [if_pos trivial, hA']
    rfl
  unfold honeycomblaw6_PatchTells.f
  by_cases c1 : (old.size : Int) > 400
  · rw [if_pos c1, hT]
  by_cases c2 : (now.size : Int) > 400
  · rw [if_neg c1, if_pos c2, hT]
  by_cases c3 : (l.length : Int) > 20
  · rw [if_neg c1, if_neg c2, if_pos c3, hT]
  rw [if_neg c1, if_neg c2, if_neg c3, hA]
  simp only [Option.bind_some]
  rw [show (903 : Nat) = 902 + 1 from rfl]
  simp only [honeycomblaw6_PatchTells.j0]
  rw [if_neg (by decide)]
  cases raw with
  | true =>
    rw [if_pos rfl]
    exact Tells_j1 page old now l (by omega) (by omega)
  | false =>
    rw [if_neg (by decide), Page_is, Page_is]
    simp only [Option.bind_some]
    exact Tells_j1 page _ _ l (by omega) (by omega)

end Go.Proofs.Yteakeonlgdbeiaa.Pure
