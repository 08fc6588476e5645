/- What a patch makes of a page (the print's functions, told plainly). Conditions: none beyond the stated ones. -/
import Derived.Test.YtiagbkpggeglgaaGreatRK1
import Derived.Test.YtiagbkpggeglgaaGreatMPx
import Derived.Test.YtiagbkpggeglgaaGreatProg
import Derived.BigRegion
import Derived.BigQuiet
import Derived.Deep.QuietTactic
import Derived.Deep.AppendLies
import Derived.ChangeAlike
import Derived.Outline
import Derived.WalkKit
import Derived.KernelRfl
import Derived.Deep.LoopGhost
import Derived.Deep.RegionLaw
import Derived.Test.YtiagbkpggeglgaaGreatWMore
import Derived.Test.YtiagbkpggeglgaaGreatWKept
import Derived.Test.YtiagbkpggeglgaaGreatLSep
namespace Go.Proofs.YtiagbkpggeglgaaGreat.RS
open Go Go.RowKit Go.Proofs.YtiagbkpggeglgaaGreatW.PrintWords Go.Proofs.YtiagbkpggeglgaaGreatW.PrintLast Go.Proofs.YtiagbkpggeglgaaGreatW.PrintMore Go.Proofs.YtiagbkpggeglgaaGreat.L Go.Proofs.YtiagbkpggeglgaaGreat.MP
set_option linter.unusedVariables false
set_option linter.unusedSimpArgs false
/-! ### bytes -/
def byt (s : ByteArray) (i : Nat) : Option UInt8 := s.data.toList[i]?
theorem byt_ext {s t : ByteArray} (h : ∀ i, byt s i = byt t i) : s = t := by
  have h1 : s.data.toList = t.data.toList := List.ext_getElem? h
  exact ByteArray.ext (Array.toList_inj.1 h1)
theorem byt_none {s : ByteArray} {i : Nat} (h : s.size ≤ i) : byt s i = none := List.getElem?_eq_none (by simpa using h)
theorem byt_append (s t : ByteArray) (i : Nat) : byt (s ++ t) i = if i < s.size then byt s i else byt t (i - s.size) := by
  unfold byt
  rw [ByteArray.data_append, Array.toList_append, List.getElem?_append]
  simp
theorem byt_extract (s : ByteArray) (a e i : Nat) : byt (s.extract a e) i = if i < e - a then byt s (a + i) else none := by
  unfold byt
  rw [ByteArray.data_extract, Array.toList_extract, List.extract_eq_take_drop, List.getElem?_take, List.getElem?_drop]
theorem byt_bt (s : ByteArray) (i : Nat) (h : i < s.size) : byt s i = some (UInt8.ofNat (bt s (i : Int)).toNat) := by
  unfold byt bt
  simp only [Int.toNat_natCast]
  rw [dif_pos h, List.getElem?_eq_getElem (by simpa using h)]
  simp
  rfl
theorem bt_eq_iff (s t : ByteArray) (i : Nat) (hs : i < s.size) (ht : i < t.size) : bt s (i : Int) = bt t (i : Int) ↔ byt s i = byt t i := by
  constructor
  · intro h
    rw [byt_bt s i hs, byt_bt t i ht, h]
  · intro h
    rw [byt_bt s i hs, byt_bt t i ht] at h
    have h1 := congrArg UInt8.toNat (Option.some.inj h)
    have a := bt_range s (i : Int)
    have b := bt_range t (i : Int)
    rw [UInt8.toNat_ofNat', UInt8.toNat_ofNat'] at h1
    omega
theorem toList_inj' {s t : ByteArray} : s.toList = t.toList ↔ s = t := by
  rw [ByteArray.toList_eq, ByteArray.toList_eq]
  exact ⟨fun h => ByteArray.ext (Array.toList_inj.1 h), fun h => by rw [h]⟩
theorem toList_nil {s : ByteArray} : s.toList = ([] : List UInt8) ↔ s.size = 0 := by
  rw [ByteArray.toList_eq]
  constructor
  · intro h
    have := congrArg List.length h
    simpa using this
  · intro h
    exact List.eq_nil_of_length_eq_zero (by simpa using h)

/-! ### patches -/
def rightQ (q : S77) : Prop := 0 ≤ q.f0 ∧ q.f0 < 64 ∧ 0 ≤ q.f1 ∧ q.f1 < 256 ∧ 1 ≤ q.f2.size ∧ (q.f2.size : Int) ≤ 256 - q.f1
instance (q : S77) : Decidable (rightQ q) := by unfold rightQ; infer_instance
def layB (s : ByteArray) (q : S77) : ByteArray := s.extract 0 q.f1.toNat ++ q.f2 ++ s.extract (q.f1 + (q.f2.size : Int)).toNat s.size
theorem Right_is (p a : Int) (b : ByteArray) : patch_Right.f p a b = some (decide (rightQ ⟨p, a, b⟩)) := by
  unfold patch_Right.f
  by_cases h1 : p ≥ 0
  · by_cases h2 : p < 64
    · by_cases h3 : a ≥ 0
      · by_cases h4 : a < 256
        · have hw : wrap64 (256 - a) = 256 - a := by unfold wrap64; omega
          by_cases h5 : b.toList = ([] : List UInt8)
          · have h6 := toList_nil.1 h5
            rw [if_pos h1, if_pos h2, if_pos h3, if_pos h4, if_pos h5]
            congr 1
            symm
            apply decide_eq_false
            unfold rightQ
            dsimp only
            omega
          · have h6 : b.size ≠ 0 := fun h => h5 (toList_nil.2 h)
            rw [if_pos h1, if_pos h2, if_pos h3, if_pos h4, if_neg h5, hw]
            congr 1
            apply decide_eq_decide.2
            unfold rightQ
            dsimp only
            omega
        · rw [if_pos h1, if_pos h2, if_pos h3, if_neg h4]; congr 1; symm; apply decide_eq_false; unfold rightQ; dsimp only; omega
      · rw [if_pos h1, if_pos h2, if_neg h3]; congr 1; symm; apply decide_eq_false; unfold rightQ; dsimp only; omega
    · rw [if_pos h1, if_neg h2]; congr 1; symm; apply decide_eq_false; unfold rightQ; dsimp only; omega
  · rw [if_neg h1]; congr 1; symm; apply decide_eq_false; unfold rightQ; dsimp only; omega
theorem lay_size {s : ByteArray} {q : S77} (hs : s.size = 256) (hq : rightQ q) : (layB s q).size = 256 := by
  obtain ⟨_, _, h1, h2, h3, h4⟩ := hq
  unfold layB
  rw [ByteArray.size_append, ByteArray.size_append, ByteArray.size_extract, ByteArray.size_extract]
  omega
theorem lay_byt {s : ByteArray} {q : S77} (hs : s.size = 256) (hq : rightQ q) (i : Nat) :
    byt (layB s q) i = if q.f1.toNat ≤ i ∧ i < q.f1.toNat + q.f2.size then byt q.f2 (i - q.f1.toNat) else byt s i := by
  obtain ⟨_, _, h1, h2, h3, h4⟩ := hq
  have e1 : (s.extract 0 q.f1.toNat).size = q.f1.toNat := by rw [ByteArray.size_extract]; omega
  have e2 : (q.f1 + (q.f2.size : Int)).toNat = q.f1.toNat + q.f2.size := by omega
  unfold layB
  rw [byt_append, byt_append, ByteArray.size_append, e1, e2, byt_extract, byt_extract]
  by_cases c1 : i < q.f1.toNat
  · rw [if_pos (by omega), if_pos c1, if_pos (by omega), if_neg (by omega), Nat.zero_add]
  · by_cases c2 : i < q.f1.toNat + q.f2.size
    · rw [if_pos c2, if_neg c1, if_pos ⟨by omega, c2⟩]
    · have e3 : (if q.f1.toNat ≤ i ∧ i < q.f1.toNat + q.f2.size then byt q.f2 (i - q.f1.toNat) else byt s i) = byt s i := if_neg (by omega)
      rw [if_neg c2, e3]
      by_cases c3 : i < 256
      · rw [if_pos (by omega)]
        congr 1
        omega
      · rw [if_neg (by omega), byt_none (by omega)]
/-- All patches of a page, laid. -/
def layAll (page : Int) : ByteArray → List S77 → ByteArray
  | s, [] => s
  | s, q :: l => layAll page (if q.f0 = page then layB s q else s) l
def allL (page : Int) (s : ByteArray) (l : List S77) : ByteArray × Bool := if ∀ q ∈ l, rightQ q then (layAll page s l, true) else (⟨#[]⟩, false)
theorem layAll_size {page : Int} : ∀ (l : List S77) {s : ByteArray}, s.size = 256 → (∀ q ∈ l, rightQ q) → (layAll page s l).size = 256
  | [], s, hs, _ => hs
  | q :: l, s, hs, hq => by
    unfold layAll
    refine layAll_size l ?_ (fun x hx => hq x (by simp [hx]))
    split
    · exact lay_size hs (hq q (by simp))
    · exact hs
theorem rd_drop (l : List S77) (i : Nat) (h : i < l.length) : l.drop i = rd_T77 l (i : Int) :: l.drop (i + 1) := by
  rw [List.drop_eq_getElem_cons h]
  congr 1
  unfold rd_T77
  simp [List.getD_eq_getElem?_getD, List.getElem?_eq_getElem h]
theorem rd_mem (l : List S77) (i : Nat) (h : i < l.length) : rd_T77 l (i : Int) ∈ l := by
  have h1 := rd_drop l i h
  have h2 : rd_T77 l (i : Int) ∈ l.drop i := by rw [h1]; simp
  exact List.mem_of_mem_drop h2
theorem succ_in {i n : Nat} (h : i < n) (hn : n ≤ 9223372036854775807) : wrap64 ((i : Int) + 1) = ((i + 1 : Nat) : Int) := by
  unfold wrap64; omega
theorem All_from (page : Int) (l : List S77) (hl : l.length ≤ 9223372036854775807) : ∀ (d i k : Nat) (s : ByteArray), i + d = l.length → d < k → s.size = 256 →
    patch_All.l0 k s page l (i : Int) = some (allL page s (l.drop i)) := by
  intro d
  induction d with
  | zero =>
    intro i k s hi hk hs
    obtain ⟨k, rfl⟩ : ∃ m, k = m + 1 := ⟨k - 1, by omega⟩
    simp only [patch_All.l0]
    rw [if_neg (by omega), List.drop_eq_nil_of_le (by omega)]
    simp [allL, layAll]
  | succ d ih =>
    intro i k s hi hk hs
    obtain ⟨k, rfl⟩ : ∃ m, k = m + 1 := ⟨k - 1, by omega⟩
    have hlt : i < l.length := by omega
    simp only [patch_All.l0]
    rw [if_pos (by omega), if_pos (by omega), rd_drop l i hlt, Right_is, succ_in hlt hl]
    generalize hq : rd_T77 l (i : Int) = q
    simp only [Option.bind_some]
    by_cases hr : rightQ q
    · rw [if_pos (by simpa using hr)]
      have hcond : 0 ≤ q.f1 ∧ q.f1 + (q.f2.size : Int) ≤ (s.size : Int) ∧ s.size ≤ 256 := by
        obtain ⟨_, _, h1, h2, h3, h4⟩ := hr
        omega
      have key : ∀ s' : ByteArray, s'.size = 256 → allL page s' (l.drop (i + 1)) = (if ∀ x ∈ q :: l.drop (i + 1), rightQ x then (layAll page s' (l.drop (i + 1)), true) else (⟨#[]⟩, false)) := by
        intro s' _
        unfold allL
        by_cases ha : ∀ x ∈ l.drop (i + 1), rightQ x
        · rw [if_pos ha, if_pos (by simpa [hr] using ha)]
        · rw [if_neg ha, if_neg (fun h => ha (fun x hx => h x (by simp [hx])))]
      by_cases hp : q.f0 = page
      · rw [if_pos hp, if_pos hcond]
        change patch_All.l0 k (layB s q) page l ((i + 1 : Nat) : Int) = _
        rw [ih (i + 1) k _ (by omega) (by omega) (lay_size hs hr), key _ (lay_size hs hr)]
        simp only [allL, layAll, if_pos hp]
      · rw [if_neg hp, ih (i + 1) k s (by omega) (by omega) hs, key s hs]
        simp only [allL, layAll, if_neg hp]
    · rw [if_neg (by simpa using hr)]
      unfold allL
      rw [if_neg (fun h => hr (h q (by simp)))]
theorem All_is (s : ByteArray) (page : Int) (l : List S77) (hl : l.length ≤ 9223372036854775807) {k : Nat} (hk : l.length < k) :
    patch_All.f k s page l = some (if s.size = 256 then allL page s l else (⟨#[]⟩, false)) := by
  unfold patch_All.f
  by_cases h : s.size = 256
  · rw [if_pos (by omega), if_pos h]
    simpa using All_from page l hl l.length 0 k s (by omega) hk h
  · rw [if_neg (by omega), if_neg h]
theorem Apply_is (s : ByteArray) (q : S77) {k : Nat} (hk : 1 < k) :
    patch_Apply.f k s q.f0 q.f1 q.f2 = some (if s.size = 256 ∧ rightQ q then (layB s q, true) else (⟨#[]⟩, false)) := by
  unfold patch_Apply.f
  rw [All_is s q.f0 [⟨q.f0, q.f1, q.f2⟩] (by simp) hk]
  simp only [Option.bind_some]
  by_cases h : s.size = 256
  · by_cases hr : rightQ q
    · have ha : ∀ x ∈ [(⟨q.f0, q.f1, q.f2⟩ : S77)], rightQ x := by simpa using hr
      rw [if_pos h, if_pos ⟨h, hr⟩, allL, if_pos ha]
      simp [layAll]
    · have ha : ¬ ∀ x ∈ [(⟨q.f0, q.f1, q.f2⟩ : S77)], rightQ x := by simpa using hr
      rw [if_pos h, if_neg (fun h => hr h.2), allL, if_neg ha]
  · rw [if_neg h, if_neg (fun h2 => h h2.1)]

theorem right_is (p : Int) (b : ByteArray) : patch_right.f p b = some (decide (0 ≤ p ∧ p < 64 ∧ b.size = 256)) := by
  unfold patch_right.f
  by_cases h1 : p ≥ 0
  · by_cases h2 : p < 64
    · rw [if_pos h1, if_pos h2]
      congr 1
      rw [Bool.eq_iff_iff, beq_iff_eq, decide_eq_true_iff]
      omega
    · rw [if_pos h1, if_neg h2]; congr 1; symm; apply decide_eq_false; omega
  · rw [if_neg h1]; congr 1; symm; apply decide_eq_false; omega
theorem Whole_is (p : Int) (b : ByteArray) : patch_Whole.f p b = some (if 0 ≤ p ∧ p < 64 ∧ b.size = 256 then (p, 0, b, true) else (0, 0, ⟨#[]⟩, false)) := by
  unfold patch_Whole.f
  rw [right_is]
  simp only [Option.bind_some]
  by_cases c : 0 ≤ p ∧ p < 64 ∧ b.size = 256
  · rw [if_pos (by simpa using c), if_pos c]
  · rw [if_neg (by simpa using c), if_neg c]

/-! ### pages -/
def zerosB (n : Nat) : ByteArray := strOfNums (List.replicate n 0)
theorem zerosB_size (n : Nat) : (zerosB n).size = n := by
  unfold zerosB strOfNums
  show (Array.size _) = n
  simp
def pageB (b : ByteArray) : ByteArray := if b.size > 256 then b.extract 0 256 else b ++ zerosB (256 - b.size)
theorem pageB_size (b : ByteArray) : (pageB b).size = 256 := by
  unfold pageB
  split
  · rw [ByteArray.size_extract]; omega
  · rw [ByteArray.size_append, zerosB_size]; omega
theorem Page_is (b : ByteArray) : honeycomblaw6_Page.f b = some (pageB b) := by
  unfold honeycomblaw6_Page.f pageB
  by_cases h : b.size > 256
  · rw [if_pos (by omega), if_pos (by omega), if_pos (by omega), if_pos h]
  · have hw : wrap64 (256 - (b.size : Int)) = ((256 - b.size : Nat) : Int) := by unfold wrap64; omega
    have hm : mx ((256 - b.size : Nat) : Int) 0 = ((256 - b.size : Nat) : Int) := by unfold mx; split <;> omega
    rw [if_neg (by omega), if_neg h, hw]
    unfold honeycombref1_Zeros.f
    rw [hm, if_pos (by omega), if_pos (by omega)]
    simp only [Option.bind_some, Int.toNat_natCast]
    change (if b.size + (zerosB (256 - b.size)).size ≤ _ then _ else _) = _
    rw [zerosB_size, if_pos (by omega)]
    rfl
/-! ### the calls -/
abbrev q_ (p : Pt) : S77 := ⟨p.1, p.2.1, p.2.2⟩
def rightP (p : Pt) : Prop := rightQ (q_ p)
instance (p : Pt) : Decidable (rightP p) := by unfold rightP; infer_instance
def layP (s : ByteArray) (p : Pt) : ByteArray := layB s (q_ p)
theorem layP_size {s : ByteArray} {p : Pt} (hs : s.size = 256) (hp : rightP p) : (layP s p).size = 256 := lay_size hs hp
theorem page_calls (b : ByteArray) (W : World) : Calls Tryz.prog 12 #[.string b] W fun e w' => e = .returned (.string (pageB b)) ∧ Eff0 W w' :=
  (honeycomblaw6_Page.calls b (pageB b) W (Page_is b)).mono (fun e w' ⟨h, k⟩ => ⟨h, Eff.of_below k⟩)
theorem whole_calls (pg : Int) (b : ByteArray) (hp : 0 ≤ pg ∧ pg < 64) (hb : b.size = 256) (W : World) : Calls Tryz.prog 26 #[.int .i64 pg, .string b] W fun e w' => e = .returned (.tuple #[.agg #[.int .i64 pg, .int .i64 0, .string b], .bool true]) ∧ Eff0 W w' :=
  (patch_Whole.calls pg b pg 0 b true W (by rw [Whole_is, if_pos ⟨hp.1, hp.2, hb⟩])).mono (fun e w' ⟨h, k⟩ => ⟨h, Eff.of_below k⟩)
theorem apply_calls (s : ByteArray) (p : Pt) (hs : s.size = 256) (hp : rightP p) (W : World) : Calls Tryz.prog 27 #[.string s, .agg #[.int .i64 p.1, .int .i64 p.2.1, .string p.2.2]] W fun e w' => e = .returned (.tuple #[.string (layP s p), .bool true]) ∧ Eff0 W w' := by
  have h := Apply_is s (q_ p) (k := 2) (by omega)
  rw [if_pos ⟨hs, hp⟩] at h
  exact (patch_Apply.calls 2 s p.1 p.2.1 p.2.2 _ true W h).mono (fun e w' ⟨h, k⟩ => ⟨h, Eff.of_below k⟩)
theorem applyNo_calls (s : ByteArray) (p : Pt) (hp : ¬ rightP p) (W : World) : Calls Tryz.prog 27 #[.string s, .agg #[.int .i64 p.1, .int .i64 p.2.1, .string p.2.2]] W fun e w' => e = .returned (.tuple #[.string ⟨#[]⟩, .bool false]) ∧ Eff0 W w' := by
  have h := Apply_is s (q_ p) (k := 2) (by omega)
  rw [if_neg (fun h => hp h.2)] at h
  exact (patch_Apply.calls 2 s p.1 p.2.1 p.2.2 _ false W h).mono (fun e w' ⟨h, k⟩ => ⟨h, Eff.of_below k⟩)
end Go.Proofs.YtiagbkpggeglgaaGreat.RS
