import Derived.Test.YtcgncdcihglgdaaMx
import Derived.Test.YtcgncdcihglgdaaTBase
namespace Go.Proofs.Ytcgncdcihglgdaa.T
open Go Go.RowKit Go.Proofs.YtcgncdcihglgdaaW.PrintWords Go.Proofs.YtcgncdcihglgdaaW.PrintLast Go.Proofs.YtcgncdcihglgdaaW.PrintMore Go.Proofs.Ytcgncdcihglgdaa.L Go.Proofs.Ytcgncdcihglgdaa.M
set_option linter.unusedVariables false
set_option linter.unusedSimpArgs false
theorem rd_nat (l : List Int) (i : Nat) (h : i < l.length) : rd l (i : Int) = l[i] := by
  unfold rd
  simp [List.getD_eq_getElem?_getD, h]
theorem wsucc (i : Nat) (h : i < 4611686018427387904) : wrap64 ((i : Int) + 1) = ((i + 1 : Nat) : Int) := by unfold wrap64; omega
theorem sameInts_l0 (a b : List Int) (hl : a.length = b.length) (hm : a.length < 4611686018427387904) : ∀ (d i k : Nat), i + d = a.length → d < k → honeycombbook_SameInts.l0 k a b (i : Int) = some (decide (a.drop i = b.drop i))
  | 0, i, k, hd, hk => by
    obtain ⟨k, rfl⟩ : ∃ m, k = m + 1 := ⟨k - 1, by omega⟩
    rw [honeycombbook_SameInts.l0, if_neg (by omega), List.drop_eq_nil_of_le (by omega), List.drop_eq_nil_of_le (by omega)]
    rfl
  | d + 1, i, k, hd, hk => by
    obtain ⟨k, rfl⟩ : ∃ m, k = m + 1 := ⟨k - 1, by omega⟩
    have hi : i < a.length := by omega
    have hi2 : i < b.length := by omega
    rw [honeycombbook_SameInts.l0, if_pos (by omega), if_pos (by omega), if_pos (by omega), rd_nat _ _ hi, rd_nat _ _ hi2, List.drop_eq_getElem_cons hi, List.drop_eq_getElem_cons hi2]
    by_cases he : a[i] = b[i]
    · rw [if_pos he, wsucc i (by omega), sameInts_l0 a b hl hm d (i + 1) k (by omega) (by omega)]
      exact congrArg some (decide_eq_decide.2 ⟨fun h => by rw [he, h], fun h => by injection h⟩)
    · rw [if_neg he]
      exact congrArg some (decide_eq_false (fun h => he (by injection h))).symm
/-- Are two lists alike? -/
theorem sameInts_ev (a b : List Int) (hm : a.length < 4611686018427387904) : Ev (fun k => honeycombbook_SameInts.f k a b) (decide (a = b)) := by
  refine ⟨a.length + 1, fun k hk => ?_⟩
  show honeycombbook_SameInts.f k a b = _
  unfold honeycombbook_SameInts.f
  by_cases hl : a.length = b.length
  · rw [if_pos (by omega)]
    have := sameInts_l0 a b hl hm a.length 0 k (by omega) (by omega)
    simpa using this
  · rw [if_neg (by omega)]
    have : a ≠ b := fun h => hl (by rw [h])
    simp [this]
theorem same_calls (w : World) (A0 : Option Addr) (c0 : Nat) (l0 : List Int) (A1 : Option Addr) (c1 : Nat) (l1 : List Int) (hr0 : Kd.C (Kd.int .i64) w A0 l0.length l0) (hc0 : l0.length ≤ c0) (hr1 : Kd.C (Kd.int .i64) w A1 l1.length l1) (hc1 : l1.length ≤ c1) (hm : l0.length < 900000) :
    Calls Try.prog 14 #[.slice A0 l0.length c0, .slice A1 l1.length c1] w fun e w' => e = .returned (.bool (decide (l0 = l1))) ∧ Drawn0 w w' := by
  obtain ⟨n, hn⟩ := sameInts_ev l0 l1 (by omega)
  exact honeycombbook_SameInts.calls n A0 c0 l0 A1 c1 l1 _ w hr0 hc0 hr1 hc1 (hn n (Nat.le_refl _))
/-- A list that is written out. -/
theorem litC (W : World) (xs : List Int) (hm : xs.length ≤ 9223372036854775807) : Kd.C (Kd.int .i64) (W.alloc (.cells (nums .i64 xs).toArray 3)) (some ⟨W.heap.size, 0, none⟩) xs.length xs := by
  have h : Kd.R (Kd.int .i64) 3 (W.alloc (.cells (nums .i64 xs).toArray 3)) W.heap.size (fun _ => True) (.slice (some ⟨W.heap.size, 0, none⟩) xs.length xs.length) xs :=
    Kd.R_of_own (enc := Value.int .i64) (by simpa [nums, encs] using own_lit W W.heap.size 3 .i64 xs (Nat.le_refl _) hm) (fun _ _ => trivial)
  exact (Kd.R_reads' h).2.2
end Go.Proofs.Ytcgncdcihglgdaa.T
