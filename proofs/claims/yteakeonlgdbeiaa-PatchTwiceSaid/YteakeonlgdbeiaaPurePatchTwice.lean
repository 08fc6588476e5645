/- PatchTwice: a patch that is laid twice is as laid once; with all that came behind it laid anew the page is the same. Conditions: none beyond the given row's own. -/
import Derived.Test.YteakeonlgdbeiaaPPx7
import Derived.Test.YteakeonlgdbeiaaPureCommon
namespace Go.Proofs.Yteakeonlgdbeiaa.Pure
open Go Go.RowKit Go.Proofs.Yteakeonlgdbeiaa.PP Go.Proofs.YteakeonlgdbeiaaW.PrintWords Go.Proofs.YteakeonlgdbeiaaW.PrintLast Go.Proofs.YteakeonlgdbeiaaW.PrintMore
set_option linter.unusedVariables false
/-- Patches laid, each on its own page. -/
def layEach (s : ByteArray) (l : List S26) : ByteArray := l.foldl layB s
theorem layEach_size : ∀ (l : List S26) {s : ByteArray}, s.size = 256 → (∀ q ∈ l, rightQ q) → (layEach s l).size = 256
  | [], s, hs, _ => hs
  | q :: l, s, hs, hq => layEach_size l (lay_size hs (hq q (by simp))) (fun x hx => hq x (by simp [hx]))
/-- What is laid last on a byte counts, if anything is. -/
def lastAt : List S26 → Nat → Option (Option UInt8)
  | [], _ => none
  | q :: l, i => match lastAt l i with
    | some v => some v
    | none => if q.f1.toNat ≤ i ∧ i < q.f1.toNat + q.f2.size then some (byt q.f2 (i - q.f1.toNat)) else none
theorem layEach_byt : ∀ (l : List S26) {s : ByteArray}, s.size = 256 → (∀ q ∈ l, rightQ q) → ∀ i, byt (layEach s l) i = (lastAt l i).getD (byt s i)
  | [], s, _, _, i => rfl
  | q :: l, s, hs, hq, i => by
    have h1 := layEach_byt l (lay_size hs (hq q (by simp))) (fun x hx => hq x (by simp [hx])) i
    show byt (layEach (layB s q) l) i = _
    rw [h1, lay_byt hs (hq q (by simp))]
    show _ = (match lastAt l i with | some v => some v | none => if q.f1.toNat ≤ i ∧ i < q.f1.toNat + q.f2.size then some (byt q.f2 (i - q.f1.toNat)) else none).getD (byt s i)
    cases lastAt l i with
    | some v => rfl
    | none =>
      by_cases c : q.f1.toNat ≤ i ∧ i < q.f1.toNat + q.f2.size
      · simp [c]
      · simp only [if_neg c, Option.getD_none]
theorem lay_again {pre m : List S26} {s : ByteArray} (hs : s.size = 256) (hp : ∀ q ∈ pre, rightQ q) (hm : ∀ q ∈ m, rightQ q) : layEach (layEach s (pre ++ m)) m = layEach s (pre ++ m) := by
  have e : layEach s (pre ++ m) = layEach (layEach s pre) m := List.foldl_append ..
  have h1 := layEach_size pre hs hp
  have h2 := layEach_size m h1 hm
  rw [e]
  refine byt_ext fun i => ?_
  rw [layEach_byt m h2 hm, layEach_byt m h1 hm]
  cases lastAt m i <;> rfl
theorem lay_twice {s : ByteArray} {q : S26} (hs : s.size = 256) (hq : rightQ q) : layB (layB s q) q = layB s q :=
  lay_again (pre := []) (m := [q]) hs (by simp) (by simpa using hq)
theorem take_snoc (l : List S26) (i : Nat) (h : i < l.length) : l.take (i + 1) = l.take i ++ [rd_T26 l (i : Int)] := by
  rw [List.take_succ_eq_append_getElem h]
  congr 2
  unfold rd_T26
  simp [List.getD_eq_getElem?_getD, List.getElem?_eq_getElem h]
theorem Twice_l1 (l : List S26) (hl : l.length ≤ 12) (hr : ∀ q ∈ l, rightQ q) (x : ByteArray) : ∀ (d i k : Nat) (s : ByteArray), i + d = l.length → d + 10 < k → s.size = 256 → layEach s (l.drop i) = x →
    honeycomblaw6_PatchTwice.l1 k l x s (i : Int) = some true := by
  intro d
  induction d with
  | zero =>
    intro i k s hi hk hs he
    obtain ⟨k, rfl⟩ : ∃ m, k = m + 1 := ⟨k - 1, by omega⟩
    rw [List.drop_eq_nil_of_le (by omega)] at he
    simp only [honeycomblaw6_PatchTwice.l1]
    rw [if_neg (by omega), show s = x from he]
    simp
  | succ d ih =>
    intro i k s hi hk hs he
    obtain ⟨k, rfl⟩ : ∃ m, k = m + 1 := ⟨k - 1, by omega⟩
    have hlt : i < l.length := by omega
    have hq := hr _ (rd_mem l i hlt)
    rw [rd_drop l i hlt] at he
    simp only [honeycomblaw6_PatchTwice.l1]
    rw [if_pos (by omega), if_pos (by omega), Apply_is s _ (by omega), if_pos ⟨hs, hq⟩, succ_in hlt (by omega)]
    simp only [Option.bind_some]
    exact ih (i + 1) k _ (by omega) (by omega) (lay_size hs hq) he
theorem place_in (at_ : Int) (n : Nat) (hm : n ≤ 12) :
    ∃ i : Nat, i ≤ n ∧ Int.tmod (wrap64 ((wrap64 ((Int.tmod at_ (wrap64 ((n : Int) + 1))) + (n : Int))) + 1)) (wrap64 ((n : Int) + 1)) = (i : Int) := by
  have h0 : wrap64 ((n : Int) + 1) = (n : Int) + 1 := by unfold wrap64; omega
  rw [h0]
  have h1 := Int.lt_tmod_of_pos at_ (show (0 : Int) < (n : Int) + 1 by omega)
  have h2 := Int.tmod_lt_of_pos at_ (show (0 : Int) < (n : Int) + 1 by omega)
  generalize Int.tmod at_ ((n : Int) + 1) = r at *
  have h3 : wrap64 (r + (n : Int)) = r + (n : Int) := by unfold wrap64; omega
  have h4 : wrap64 (r + (n : Int) + 1) = r + (n : Int) + 1 := by unfold wrap64; omega
  rw [h3, h4]
  have h5 := Int.tmod_nonneg ((n : Int) + 1) (show 0 ≤ r + (n : Int) + 1 by omega)
  have h6 := Int.tmod_lt_of_pos (r + (n : Int) + 1) (show (0 : Int) < (n : Int) + 1 by omega)
  refine ⟨(Int.tmod (r + (n : Int) + 1) ((n : Int) + 1)).toNat, by omega, by omega⟩
theorem Twice_l0 (b : ByteArray) (l : List S26) (hl : l.length ≤ 12) (from_ : Int) : ∀ (d i k : Nat), i + d = l.length → d + 100 < k → (∀ q ∈ l.take i, rightQ q) →
    honeycomblaw6_PatchTwice.l0 k l from_ (layEach (pageB b) (l.take i)) (l.length : Int) (i : Int) = some true := by
  intro d
  induction d with
  | zero =>
    intro i k hi hk hr
    obtain ⟨k, rfl⟩ : ∃ m, k = m + 1 := ⟨k - 1, by omega⟩
    rw [List.take_of_length_le (by omega)] at hr ⊢
    simp only [honeycomblaw6_PatchTwice.l0]
    obtain ⟨j, hj, he⟩ := place_in from_ l.length hl
    have h0 : ¬ wrap64 ((l.length : Int) + 1) = 0 := by unfold wrap64; omega
    rw [if_neg (by omega), if_neg h0, he]
    have hsz := layEach_size l (pageB_size b) hr
    refine Twice_l1 l hl hr _ (l.length - j) j k _ (by omega) (by omega) hsz ?_
    have h1 : l = l.take j ++ l.drop j := (List.take_append_drop j l).symm
    have h2 := lay_again (pre := l.take j) (m := l.drop j) (pageB_size b) (fun q hq => hr q (List.mem_of_mem_take hq)) (fun q hq => hr q (List.mem_of_mem_drop hq))
    rw [← h1] at h2
    exact h2
  | succ d ih =>
    intro i k hi hk hr
    obtain ⟨k, rfl⟩ : ∃ m, k = m + 1 := ⟨k - 1, by omega⟩
    have hlt : i < l.length := by omega
    have hsz := layEach_size (l.take i) (pageB_size b) hr
    simp only [honeycomblaw6_PatchTwice.l0]
    rw [if_pos (by omega), if_pos (by omega), if_pos (by omega), Right_is, succ_in hlt (by omega)]
    simp only [Option.bind_some]
    by_cases hq : rightQ (rd_T26 l (i : Int))
    · have ih2 := ih (i + 1) k (by omega) (by omega) (fun q hm => by
        rw [take_snoc l i hlt] at hm
        rcases List.mem_append.1 hm with h | h
        · exact hr q h
        · rw [List.mem_singleton.1 h]; exact hq)
      rw [take_snoc l i hlt, show layEach (pageB b) (l.take i ++ [rd_T26 l (i : Int)]) = layB (layEach (pageB b) (l.take i)) (rd_T26 l (i : Int)) from List.foldl_append ..] at ih2
      rw [if_pos (by simpa using hq), Apply_is _ _ (by omega), if_pos ⟨hsz, hq⟩]
      simp only [Option.bind_some]
      rw [Apply_is _ _ (by omega), if_pos ⟨lay_size hsz hq, hq⟩, lay_twice hsz hq]
      simp only [Option.bind_some]
      rw [if_pos trivial]
      exact ih2
    · rw [if_neg (by simpa using hq)]

theorem PatchTwice : honeycomblaw6_PatchTwice.Pure := by
  intro b l from_ hb hl hl2 hf
  refine ⟨703, ?_⟩
  have hA := alive_is (k := 703) (by omega)
  have hA' := alive_is (k := 702) (by omega)
  have hT : honeycomblaw6_PatchTwice.j0 703 b l from_ true = some true := by
    rw [show (703 : Nat) = 702 + 1 from rfl]
    simp only [honeycomblaw6_PatchTwice.j0]
    rw [if_pos trivial, hA']
    rfl
  unfold honeycomblaw6_PatchTwice.f
  by_cases c1 : (b.size : Int) > 200
  · rw [if_pos c1, hT]
  by_cases c4 : (l.length : Int) > 12
  · rw [if_neg c1, if_pos c4, hT]
  rw [if_neg c1, if_neg c4, hA]
  simp only [Option.bind_some]
  rw [show (703 : Nat) = 702 + 1 from rfl]
  simp only [honeycomblaw6_PatchTwice.j0]
  rw [if_neg (by decide), Page_is]
  simp only [Option.bind_some]
  have h := Twice_l0 b l (by omega) from_ l.length 0 702 (by omega) (by omega) (by simp)
  rw [List.take_zero, show layEach (pageB b) [] = pageB b from rfl] at h
  have e0 : ((0 : Nat) : Int) = 0 := rfl
  rw [e0] at h
  exact h

end Go.Proofs.Yteakeonlgdbeiaa.Pure
