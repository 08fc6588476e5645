import Derived.Test.YteakeonlgdbeiaaPPx5
import Derived.Test.YteakeonlgdbeiaaPPx3
import Derived.Test.YteakeonlgdbeiaaPPx8
namespace Go.Proofs.Yteakeonlgdbeiaa.Pure
open Go Go.RowKit Go.Proofs.Yteakeonlgdbeiaa.PP Go.Proofs.YteakeonlgdbeiaaW.PrintWords Go.Proofs.YteakeonlgdbeiaaW.PrintLast Go.Proofs.YteakeonlgdbeiaaW.PrintMore
set_option linter.unusedVariables false
/-! ### bytes -/
def byt (s : ByteArray) (i : Nat) : Option UInt8 := s.data.toList[i]?
theorem byt_ext {s t : ByteArray} (h : ∀ i, byt s i = byt t i) : s = t := by
  have h1 : s.data.toList = t.data.toList := List.ext_getElem? h
  exact ByteArray.ext (Array.toList_inj.1 h1)
theorem byt_none {s : ByteArray} {i : Nat} (h : s.size ≤ i) : byt s i = none := List.getElem?_eq_none (by simpa using h)
theorem byt_append (s t : ByteArray) (i : Nat) : byt (s ++ t) i = if i < s.size then byt s i else byt t (i - s.size) := by
  unfold byt
  rw [ByteArray.data_append, Array.toList_append, List.getElem?_append]
  simp
theorem byt_extract (s : ByteArray) (a e i : Nat) : byt (s.extract a e) i = if i < e - a then byt s (a + i) else none := by
  unfold byt
  rw [ByteArray.data_extract, Array.toList_extract, List.extract_eq_take_drop, List.getElem?_take, List.getElem?_drop]
theorem byt_bt (s : ByteArray) (i : Nat) (h : i < s.size) : byt s i = some (UInt8.ofNat (bt s (i : Int)).toNat) := by
  unfold byt bt
  simp only [Int.toNat_natCast]
  rw [dif_pos h, List.getElem?_eq_getElem (by simpa using h)]
  simp
  rfl
theorem bt_eq_iff (s t : ByteArray) (i : Nat) (hs : i < s.size) (ht : i < t.size) : bt s (i : Int) = bt t (i : Int) ↔ byt s i = byt t i := by
  constructor
  · intro h
    rw [byt_bt s i hs, byt_bt t i ht, h]
  · intro h
    rw [byt_bt s i hs, byt_bt t i ht] at h
    have h1 := congrArg UInt8.toNat (Option.some.inj h)
    have a := bt_range s (i : Int)
    have b := bt_range t (i : Int)
    rw [UInt8.toNat_ofNat', UInt8.toNat_ofNat'] at h1
    omega
theorem toList_inj' {s t : ByteArray} : s.toList = t.toList ↔ s = t := by
  rw [ByteArray.toList_eq, ByteArray.toList_eq]
  exact ⟨fun h => ByteArray.ext (Array.toList_inj.1 h), fun h => by rw [h]⟩
theorem toList_nil {s : ByteArray} : s.toList = ([] : List UInt8) ↔ s.size = 0 := by
  rw [ByteArray.toList_eq]
  constructor
  · intro h
    have := congrArg List.length h
    simpa using this
  · intro h
    exact List.eq_nil_of_length_eq_zero (by simpa using h)

/-! ### patches -/
def rightQ (q : S26) : Prop := 0 ≤ q.f0 ∧ q.f0 < 64 ∧ 0 ≤ q.f1 ∧ q.f1 < 256 ∧ 1 ≤ q.f2.size ∧ (q.f2.size : Int) ≤ 256 - q.f1
instance (q : S26) : Decidable (rightQ q) := by unfold rightQ; infer_instance
def layB (s : ByteArray) (q : S26) : ByteArray := s.extract 0 q.f1.toNat ++ q.f2 ++ s.extract (q.f1 + (q.f2.size : Int)).toNat s.size
theorem Right_is (p a : Int) (b : ByteArray) : patch_Right.f p a b = some (decide (rightQ ⟨p, a, b⟩)) := by
  unfold patch_Right.f
  by_cases h1 : p ≥ 0
  · by_cases h2 : p < 64
    · by_cases h3 : a ≥ 0
      · by_cases h4 : a < 256
        · have hw : wrap64 (256 - a) = 256 - a := by unfold wrap64; omega
          by_cases h5 : b.toList = ([] : List UInt8)
          · have h6 := toList_nil.1 h5
            rw [if_pos h1, if_pos h2, if_pos h3, if_pos h4, if_pos h5]
            congr 1
            symm
            apply decide_eq_false
            unfold rightQ
            dsimp only
            omega
          · have h6 : b.size ≠ 0 := fun h => h5 (toList_nil.2 h)
            rw [if_pos h1, if_pos h2, if_pos h3, if_pos h4, if_neg h5, hw]
            congr 1
            apply decide_eq_decide.2
            unfold rightQ
            dsimp only
            omega
        · rw [if_pos h1, if_pos h2, if_pos h3, if_neg h4]; congr 1; symm; apply decide_eq_false; unfold rightQ; dsimp only; omega
      · rw [if_pos h1, if_pos h2, if_neg h3]; congr 1; symm; apply decide_eq_false; unfold rightQ; dsimp only; omega
    · rw [if_pos h1, if_neg h2]; congr 1; symm; apply decide_eq_false; unfold rightQ; dsimp only; omega
  · rw [if_neg h1]; congr 1; symm; apply decide_eq_false; unfold rightQ; dsimp only; omega
theorem lay_size {s : ByteArray} {q : S26} (hs : s.size = 256) (hq : rightQ q) : (layB s q).size = 256 := by
  obtain ⟨_, _, h1, h2, h3, h4⟩ := hq
  unfold layB
  rw [ByteArray.size_append, ByteArray.size_append, ByteArray.size_extract, ByteArray.size_extract]
  omega
theorem lay_byt {s : ByteArray} {q : S26} (hs : s.size = 256) (hq : rightQ q) (i : Nat) :
    byt (layB s q) i = if q.f1.toNat ≤ i ∧ i < q.f1.toNat + q.f2.size then byt q.f2 (i - q.f1.toNat) else byt s i := by
  obtain ⟨_, _, h1, h2, h3, h4⟩ := hq
  have e1 : (s.extract 0 q.f1.toNat).size = q.f1.toNat := by rw [ByteArray.size_extract]; omega
  have e2 : (q.f1 + (q.f2.size : Int)).toNat = q.f1.toNat + q.f2.size := by omega
  unfold layB
  rw [byt_append, byt_append, ByteArray.size_append, e1, e2, byt_extract, byt_extract]
  by_cases c1 : i < q.f1.toNat
  · rw [if_pos (by omega), if_pos c1, if_pos (by omega), if_neg (by omega), Nat.zero_add]
  · by_cases c2 : i < q.f1.toNat + q.f2.size
    · rw [if_pos c2, if_neg c1, if_pos ⟨by omega, c2⟩]
    · have e3 : (if q.f1.toNat ≤ i ∧ i < q.f1.toNat + q.f2.size then byt q.f2 (i - q.f1.toNat) else byt s i) = byt s i := if_neg (by omega)
      rw [if_neg c2, e3]
      by_cases c3 : i < 256
      · rw [if_pos (by omega)]
        congr 1
        omega
      · rw [if_neg (by omega), byt_none (by omega)]
/-- All patches of a page, laid. -/
def layAll (page : Int) : ByteArray → List S26 → ByteArray
  | s, [] => s
  | s, q :: l => layAll page (if q.f0 = page then layB s q else s) l
def allL (page : Int) (s : ByteArray) (l : List S26) : ByteArray × Bool := if ∀ q ∈ l, rightQ q then (layAll page s l, true) else (⟨#[]⟩, false)
theorem layAll_size {page : Int} : ∀ (l : List S26) {s : ByteArray}, s.size = 256 → (∀ q ∈ l, rightQ q) → (layAll page s l).size = 256
  | [], s, hs, _ => hs
  | q :: l, s, hs, hq => by
    unfold layAll
    refine layAll_size l ?_ (fun x hx => hq x (by simp [hx]))
    split
    · exact lay_size hs (hq q (by simp))
    · exact hs
theorem rd_drop (l : List S26) (i : Nat) (h : i < l.length) : l.drop i = rd_T26 l (i : Int) :: l.drop (i + 1) := by
  rw [List.drop_eq_getElem_cons h]
  congr 1
  unfold rd_T26
  simp [List.getD_eq_getElem?_getD, List.getElem?_eq_getElem h]
theorem rd_mem (l : List S26) (i : Nat) (h : i < l.length) : rd_T26 l (i : Int) ∈ l := by
  have h1 := rd_drop l i h
  have h2 : rd_T26 l (i : Int) ∈ l.drop i := by rw [h1]; simp
  exact List.mem_of_mem_drop h2
theorem succ_in {i n : Nat} (h : i < n) (hn : n ≤ 9223372036854775807) : wrap64 ((i : Int) + 1) = ((i + 1 : Nat) : Int) := by
  unfold wrap64; omega
theorem All_from (page : Int) (l : List S26) (hl : l.length ≤ 9223372036854775807) : ∀ (d i k : Nat) (s : ByteArray), i + d = l.length → d < k → s.size = 256 →
    patch_All.l0 k s page l (i : Int) = some (allL page s (l.drop i)) := by
  intro d
  induction d with
  | zero =>
    intro i k s hi hk hs
    obtain ⟨k, rfl⟩ : ∃ m, k = m + 1 := ⟨k - 1, by omega⟩
    simp only [patch_All.l0]
    rw [if_neg (by omega), List.drop_eq_nil_of_le (by omega)]
    simp [allL, layAll]
  | succ d ih =>
    intro i k s hi hk hs
    obtain ⟨k, rfl⟩ : ∃ m, k = m + 1 := ⟨k - 1, by omega⟩
    have hlt : i < l.length := by omega
    simp only [patch_All.l0]
    rw [if_pos (by omega), if_pos (by omega), rd_drop l i hlt, Right_is, succ_in hlt hl]
    generalize hq : rd_T26 l (i : Int) = q
    simp only [Option.bind_some]
    by_cases hr : rightQ q
    · rw [if_pos (by simpa using hr)]
      have hcond : 0 ≤ q.f1 ∧ q.f1 + (q.f2.size : Int) ≤ (s.size : Int) ∧ s.size ≤ 256 := by
        obtain ⟨_, _, h1, h2, h3, h4⟩ := hr
        omega
      have key : ∀ s' : ByteArray, s'.size = 256 → allL page s' (l.drop (i + 1)) = (if ∀ x ∈ q :: l.drop (i + 1), rightQ x then (layAll page s' (l.drop (i + 1)), true) else (⟨#[]⟩, false)) := by
        intro s' _
        unfold allL
        by_cases ha : ∀ x ∈ l.drop (i + 1), rightQ x
        · rw [if_pos ha, if_pos (by simpa [hr] using ha)]
        · rw [if_neg ha, if_neg (fun h => ha (fun x hx => h x (by simp [hx])))]
      by_cases hp : q.f0 = page
      · rw [if_pos hp, if_pos hcond]
        change patch_All.l0 k (layB s q) page l ((i + 1 : Nat) : Int) = _
        rw [ih (i + 1) k _ (by omega) (by omega) (lay_size hs hr), key _ (lay_size hs hr)]
        simp only [allL, layAll, if_pos hp]
      · rw [if_neg hp, ih (i + 1) k s (by omega) (by omega) hs, key s hs]
        simp only [allL, layAll, if_neg hp]
    · rw [if_neg (by simpa using hr)]
      unfold allL
      rw [if_neg (fun h => hr (h q (by simp)))]
theorem All_is (s : ByteArray) (page : Int) (l : List S26) (hl : l.length ≤ 9223372036854775807) {k : Nat} (hk : l.length < k) :
    patch_All.f k s page l = some (if s.size = 256 then allL page s l else (⟨#[]⟩, false)) := by
  unfold patch_All.f
  by_cases h : s.size = 256
  · rw [if_pos (by omega), if_pos h]
    simpa using All_from page l hl l.length 0 k s (by omega) hk h
  · rw [if_neg (by omega), if_neg h]
theorem Apply_is (s : ByteArray) (q : S26) {k : Nat} (hk : 1 < k) :
    patch_Apply.f k s q.f0 q.f1 q.f2 = some (if s.size = 256 ∧ rightQ q then (layB s q, true) else (⟨#[]⟩, false)) := by
  unfold patch_Apply.f
  rw [All_is s q.f0 [⟨q.f0, q.f1, q.f2⟩] (by simp) hk]
  simp only [Option.bind_some]
  by_cases h : s.size = 256
  · by_cases hr : rightQ q
    · have ha : ∀ x ∈ [(⟨q.f0, q.f1, q.f2⟩ : S26)], rightQ x := by simpa using hr
      rw [if_pos h, if_pos ⟨h, hr⟩, allL, if_pos ha]
      simp [layAll]
    · have ha : ¬ ∀ x ∈ [(⟨q.f0, q.f1, q.f2⟩ : S26)], rightQ x := by simpa using hr
      rw [if_pos h, if_neg (fun h => hr h.2), allL, if_neg ha]
  · rw [if_neg h, if_neg (fun h2 => h h2.1)]

/-! ### what changed -/
theorem first_of {P : Nat → Prop} (n : Nat) (h : ∃ i, i < n ∧ P i) : ∃ a, a < n ∧ P a ∧ ∀ j, j < a → ¬ P j := by
  induction n with
  | zero => obtain ⟨i, hi, _⟩ := h; omega
  | succ n ih =>
    by_cases c : ∃ i, i < n ∧ P i
    · obtain ⟨a, ha, h1, h2⟩ := ih c
      exact ⟨a, by omega, h1, h2⟩
    · obtain ⟨i, hi, hp⟩ := h
      have : i = n := by
        rcases Nat.lt_or_ge i n with h | h
        · exact absurd ⟨i, h, hp⟩ c
        · omega
      subst this
      exact ⟨i, by omega, hp, fun j hj hj2 => c ⟨j, hj, hj2⟩⟩
theorem last_of {P : Nat → Prop} (n : Nat) (h : ∃ i, i < n ∧ P i) : ∃ a, a < n ∧ P a ∧ ∀ j, a < j → j < n → ¬ P j := by
  induction n with
  | zero => obtain ⟨i, hi, _⟩ := h; omega
  | succ n ih =>
    by_cases c : P n
    · exact ⟨n, by omega, c, fun j h1 h2 => by omega⟩
    · have h2 : ∃ i, i < n ∧ P i := by
        obtain ⟨i, hi, hp⟩ := h
        rcases Nat.lt_or_ge i n with h | h
        · exact ⟨i, h, hp⟩
        · have : i = n := by omega
          subst this
          exact absurd hp c
      obtain ⟨a, ha, h3, h4⟩ := ih h2
      refine ⟨a, by omega, h3, fun j h5 h6 => ?_⟩
      rcases Nat.lt_or_ge j n with h | h
      · exact h4 j h5 h
      · have : j = n := by omega
        subst this
        exact c
/-- The first and behind the last byte that changed. -/
structure IsDiff (old now : ByteArray) (a z : Nat) : Prop where mk ::
  lt : a < z
  le : z ≤ 256
  before : ∀ i, i < a → byt old i = byt now i
  at_a : byt old a ≠ byt now a
  at_z : byt old (z - 1) ≠ byt now (z - 1)
  behind : ∀ i, z ≤ i → byt old i = byt now i
theorem IsDiff.unique {old now : ByteArray} {a z a' z' : Nat} (h : IsDiff old now a z) (h' : IsDiff old now a' z') : a = a' ∧ z = z' := by
  constructor
  · rcases Nat.lt_trichotomy a a' with c | c | c
    · exact absurd (h'.before a c) h.at_a
    · exact c
    · exact absurd (h.before a' c) h'.at_a
  · have := h.lt
    have := h'.lt
    rcases Nat.lt_trichotomy z z' with c | c | c
    · exact absurd (h.behind (z' - 1) (by omega)) h'.at_z
    · exact c
    · exact absurd (h'.behind (z - 1) (by omega)) h.at_z
theorem IsDiff.symm {old now : ByteArray} {a z : Nat} (h : IsDiff old now a z) : IsDiff now old a z :=
  ⟨h.lt, h.le, fun i hi => (h.before i hi).symm, fun e => h.at_a e.symm, fun e => h.at_z e.symm, fun i hi => (h.behind i hi).symm⟩
theorem diff_of {old now : ByteArray} (h1 : old.size = 256) (h2 : now.size = 256) (hne : old ≠ now) : ∃ a z, IsDiff old now a z := by
  have hex : ∃ i, i < 256 ∧ byt old i ≠ byt now i := by
    by_cases c : ∃ i, i < 256 ∧ byt old i ≠ byt now i
    · exact c
    · exfalso
      refine hne (byt_ext fun i => ?_)
      rcases Nat.lt_or_ge i 256 with h | h
      · by_cases e : byt old i = byt now i
        · exact e
        · exact absurd ⟨i, h, e⟩ c
      · rw [byt_none (by omega), byt_none (by omega)]
  obtain ⟨a, ha, hpa, hba⟩ := first_of 256 hex
  obtain ⟨z, hz, hpz, hbz⟩ := last_of 256 hex
  have haz : a ≤ z := by
    rcases Nat.lt_or_ge z a with c | c
    · exact absurd hpz (hba z c)
    · exact c
  refine ⟨a, z + 1, by omega, by omega, fun i hi => Classical.not_not.1 (hba i hi), hpa, hpz, fun i hi => ?_⟩
  rcases Nat.lt_or_ge i 256 with h | h
  · exact Classical.not_not.1 (hbz i (by omega) h)
  · rw [byt_none (by omega), byt_none (by omega)]
theorem Diff_l1 {page : Int} {old now : ByteArray} {a : Nat} (h1 : old.size = 256) (h2 : now.size = 256) : ∀ (d z k : Nat), d < k → z + d ≤ 256 → a < z → (∀ i, z ≤ i → byt old i = byt now i) → byt old (z - 1) ≠ byt now (z - 1) →
    patch_Diff.l1 k page old now (a : Int) ((z + d : Nat) : Int) = some (page, (a : Int), now.extract a z, true) := by
  intro d
  induction d with
  | zero =>
    intro z k hk hz haz hb hne
    obtain ⟨k, rfl⟩ : ∃ m, k = m + 1 := ⟨k - 1, by omega⟩
    have hw : wrap64 (((z + 0 : Nat) : Int) - 1) = ((z - 1 : Nat) : Int) := by unfold wrap64; omega
    simp only [patch_Diff.l1]
    rw [hw, if_pos (by omega), if_pos (by omega), if_pos (by omega), if_neg (fun e => hne ((bt_eq_iff old now (z - 1) (by omega) (by omega)).1 e)), if_pos (by omega), if_pos (by omega), if_pos (by omega)]
    simp
  | succ d ih =>
    intro z k hk hz haz hb hne
    obtain ⟨k, rfl⟩ : ∃ m, k = m + 1 := ⟨k - 1, by omega⟩
    have hw : wrap64 (((z + (d + 1) : Nat) : Int) - 1) = ((z + d : Nat) : Int) := by unfold wrap64; omega
    simp only [patch_Diff.l1]
    rw [hw, if_pos (by omega), if_pos (by omega), if_pos (by omega), if_pos ((bt_eq_iff old now (z + d) (by omega) (by omega)).2 (hb _ (by omega)))]
    exact ih z k (by omega) (by omega) haz hb hne
theorem Diff_l0 {page : Int} {old now : ByteArray} {a : Nat} (h1 : old.size = 256) (h2 : now.size = 256) (ha : a < 256) (hb : ∀ i, i < a → byt old i = byt now i) (hne : byt old a ≠ byt now a) : ∀ (d i k : Nat), i + d = a →
    patch_Diff.l0 (k + d + 1) page old now (i : Int) 256 = patch_Diff.l1 k page old now (a : Int) 256 := by
  intro d
  induction d with
  | zero =>
    intro i k hi
    have : i = a := by omega
    subst this
    simp only [patch_Diff.l0]
    rw [if_pos (by omega), if_pos (by omega), if_pos (by omega), if_neg (fun e => hne ((bt_eq_iff old now i (by omega) (by omega)).1 e))]
  | succ d ih =>
    intro i k hi
    have hw : wrap64 ((i : Int) + 1) = ((i + 1 : Nat) : Int) := by unfold wrap64; omega
    rw [show k + (d + 1) + 1 = (k + d + 1) + 1 by omega]
    simp only [patch_Diff.l0]
    rw [if_pos (by omega), if_pos (by omega), if_pos (by omega), if_pos ((bt_eq_iff old now i (by omega) (by omega)).2 (hb _ (by omega))), hw]
    exact ih (i + 1) k (by omega)
theorem right_is (p : Int) (b : ByteArray) : patch_right.f p b = some (decide (0 ≤ p ∧ p < 64 ∧ b.size = 256)) := by
  unfold patch_right.f
  by_cases h1 : p ≥ 0
  · by_cases h2 : p < 64
    · rw [if_pos h1, if_pos h2]
      congr 1
      rw [Bool.eq_iff_iff, beq_iff_eq, decide_eq_true_iff]
      omega
    · rw [if_pos h1, if_neg h2]; congr 1; symm; apply decide_eq_false; omega
  · rw [if_neg h1]; congr 1; symm; apply decide_eq_false; omega
theorem Diff_yes {page : Int} {old now : ByteArray} {a z : Nat} (hp : 0 ≤ page ∧ page < 64) (h1 : old.size = 256) (h2 : now.size = 256) (h : IsDiff old now a z) {k : Nat} (hk : 600 ≤ k) :
    patch_Diff.f k page old now = some (page, (a : Int), now.extract a z, true) := by
  have hne : old ≠ now := fun e => h.at_a (by rw [e])
  have hlt := h.lt
  have hle := h.le
  have base : patch_Diff.f 600 page old now = some (page, (a : Int), now.extract a z, true) := by
    unfold patch_Diff.f
    rw [right_is, right_is]
    simp only [Option.bind_some]
    rw [if_pos (by simp; omega), if_pos (by simp; omega), show (old.toList == now.toList) = false from beq_eq_false_iff_ne.2 (fun e => hne (toList_inj'.1 e))]
    rw [show (600 : Nat) = 599 + 1 from rfl]
    simp only [patch_Diff.j0]
    rw [if_neg (by decide), show (599 : Nat) = (598 - a) + a + 1 by omega]
    have e0 := Diff_l0 (page := page) h1 h2 (show a < 256 by omega) h.before h.at_a a 0 (598 - a) (by omega)
    rw [show ((0 : Nat) : Int) = 0 from rfl] at e0
    rw [e0]
    have e1 := Diff_l1 (page := page) (a := a) h1 h2 (256 - z) z (598 - a) (by omega) (by omega) hlt h.behind h.at_z
    rw [show z + (256 - z) = 256 by omega] at e1
    exact e1
  exact at_rounds (fun k => patch_Diff.mono page old now k) hk base
theorem Diff_no {page : Int} {old now : ByteArray} (h : ¬ (0 ≤ page ∧ page < 64 ∧ old.size = 256 ∧ now.size = 256 ∧ old ≠ now)) {k : Nat} (hk : 0 < k) :
    patch_Diff.f k page old now = some (0, 0, ⟨#[]⟩, false) := by
  obtain ⟨k, rfl⟩ : ∃ m, k = m + 1 := ⟨k - 1, by omega⟩
  unfold patch_Diff.f
  rw [right_is, right_is]
  simp only [Option.bind_some]
  by_cases c1 : 0 ≤ page ∧ page < 64 ∧ old.size = 256
  · rw [if_pos (by simpa using c1)]
    by_cases c2 : 0 ≤ page ∧ page < 64 ∧ now.size = 256
    · rw [if_pos (by simpa using c2)]
      have e : old = now := by
        by_cases e : old = now
        · exact e
        · exact absurd ⟨c1.1, c1.2.1, c1.2.2, c2.2.2, e⟩ h
      rw [e]
      simp [patch_Diff.j0]
    · rw [if_neg (by simpa using c2)]
      simp [patch_Diff.j0]
  · rw [if_neg (by simpa using c1)]
    simp [patch_Diff.j0]
theorem diff_right {page : Int} {old now : ByteArray} {a z : Nat} (hp : 0 ≤ page ∧ page < 64) (h2 : now.size = 256) (h : IsDiff old now a z) : rightQ ⟨page, (a : Int), now.extract a z⟩ := by
  have hlt := h.lt
  have hle := h.le
  have : (now.extract a z).size = z - a := by rw [ByteArray.size_extract]; omega
  unfold rightQ
  dsimp only
  rw [this]
  omega
theorem diff_lays {page : Int} {old now : ByteArray} {a z : Nat} (hp : 0 ≤ page ∧ page < 64) (h1 : old.size = 256) (h2 : now.size = 256) (h : IsDiff old now a z) : layB old ⟨page, (a : Int), now.extract a z⟩ = now := by
  have hlt := h.lt
  have hle := h.le
  have hz : (now.extract a z).size = z - a := by rw [ByteArray.size_extract]; omega
  refine byt_ext fun i => ?_
  rw [lay_byt h1 (diff_right hp h2 h)]
  dsimp only
  rw [hz, Int.toNat_natCast]
  by_cases c : a ≤ i ∧ i < a + (z - a)
  · rw [if_pos c, byt_extract, if_pos (by omega)]
    congr 1
    omega
  · rw [if_neg c]
    rcases Nat.lt_or_ge i a with c2 | c2
    · exact h.before i c2
    · exact h.behind i (by omega)
theorem Whole_is (p : Int) (b : ByteArray) : patch_Whole.f p b = some (if 0 ≤ p ∧ p < 64 ∧ b.size = 256 then (p, 0, b, true) else (0, 0, ⟨#[]⟩, false)) := by
  unfold patch_Whole.f
  rw [right_is]
  simp only [Option.bind_some]
  by_cases c : 0 ≤ p ∧ p < 64 ∧ b.size = 256
  · rw [if_pos (by simpa using c), if_pos c]
  · rw [if_neg (by simpa using c), if_neg c]

/-! ### pages -/
def zerosB (n : Nat) : ByteArray := strOfNums (List.replicate n 0)
theorem zerosB_size (n : Nat) : (zerosB n).size = n := by
  unfold zerosB strOfNums
  show (Array.size _) = n
  simp
def pageB (b : ByteArray) : ByteArray := if b.size > 256 then b.extract 0 256 else b ++ zerosB (256 - b.size)
theorem pageB_size (b : ByteArray) : (pageB b).size = 256 := by
  unfold pageB
  split
  · rw [ByteArray.size_extract]; omega
  · rw [ByteArray.size_append, zerosB_size]; omega
theorem Page_is (b : ByteArray) : honeycomblaw6_Page.f b = some (pageB b) := by
  unfold honeycomblaw6_Page.f pageB
  by_cases h : b.size > 256
  · rw [if_pos (by omega), if_pos (by omega), if_pos (by omega), if_pos h]
  · have hw : wrap64 (256 - (b.size : Int)) = ((256 - b.size : Nat) : Int) := by unfold wrap64; omega
    have hm : mx ((256 - b.size : Nat) : Int) 0 = ((256 - b.size : Nat) : Int) := by unfold mx; split <;> omega
    rw [if_neg (by omega), if_neg h, hw]
    unfold honeycombref1_Zeros.f
    rw [hm, if_pos (by omega), if_pos (by omega)]
    simp only [Option.bind_some, Int.toNat_natCast]
    change (if b.size + (zerosB (256 - b.size)).size ≤ _ then _ else _) = _
    rw [zerosB_size, if_pos (by omega)]
    rfl
theorem alive_is {k : Nat} (hk : 600 ≤ k) : honeycomblaw6_alive.f k = some true := by
  have hd : IsDiff (pageB ⟨#[97, 98, 99, 100, 101, 102]⟩) (pageB ⟨#[97, 98, 88, 100, 89, 102]⟩) 2 5 := by
    have e : ∀ (x y : ByteArray), x.size = 6 → y.size = 6 → ∀ i, (6 ≤ i → byt (pageB x) i = byt (pageB y) i) ∧ (i < 6 → byt (pageB x) i = byt x i) := by
      intro x y hx hy i
      unfold pageB
      rw [if_neg (by omega), if_neg (by omega), byt_append, byt_append, hx, hy]
      exact ⟨fun h => by rw [if_neg (by omega), if_neg (by omega)], fun h => by rw [if_pos h]⟩
    have f := e ⟨#[97, 98, 99, 100, 101, 102]⟩ ⟨#[97, 98, 88, 100, 89, 102]⟩ rfl rfl
    have g := e ⟨#[97, 98, 88, 100, 89, 102]⟩ ⟨#[97, 98, 88, 100, 89, 102]⟩ rfl rfl
    refine ⟨by omega, by omega, fun i hi => ?_, ?_, ?_, fun i hi => ?_⟩
    · rw [(f i).2 (by omega), (g i).2 (by omega)]
      match i, hi with
      | 0, _ => rfl
      | 1, _ => rfl
    · rw [(f 2).2 (by omega), (g 2).2 (by omega)]; decide
    · rw [(f 4).2 (by omega), (g 4).2 (by omega)]; decide
    · rcases Nat.lt_or_ge i 6 with c | c
      · have : i = 5 := by omega
        subst this
        rw [(f 5).2 (by omega), (g 5).2 (by omega)]
        rfl
      · exact (f i).1 c
  have hx : (pageB ⟨#[97, 98, 88, 100, 89, 102]⟩).extract 2 5 = ⟨#[88, 100, 89]⟩ := by
    refine byt_ext fun i => ?_
    have e : ∀ i, i < 6 → byt (pageB ⟨#[97, 98, 88, 100, 89, 102]⟩) i = byt ⟨#[97, 98, 88, 100, 89, 102]⟩ i := by
      intro i hi
      have : pageB ⟨#[97, 98, 88, 100, 89, 102]⟩ = ⟨#[97, 98, 88, 100, 89, 102]⟩ ++ zerosB (256 - 6) := rfl
      rw [this, byt_append, if_pos (by show i < 6; exact hi)]
    rw [byt_extract]
    rcases Nat.lt_or_ge i 3 with c | c
    · rw [if_pos (by omega), e _ (by omega)]
      match i, c with
      | 0, _ => rfl
      | 1, _ => rfl
      | 2, _ => rfl
    · rw [if_neg (by omega), byt_none (by show 3 ≤ i; omega)]
  have hl := diff_lays (page := 2) (by decide) (pageB_size _) (pageB_size _) hd
  have hr := diff_right (page := 2) (by decide) (pageB_size _) hd
  unfold honeycomblaw6_alive.f
  rw [Page_is, Page_is]
  simp only [Option.bind_some]
  rw [Diff_yes (page := 2) (by decide) (pageB_size _) (pageB_size _) hd hk]
  simp only [Option.bind_some]
  have ha := Apply_is (pageB ⟨#[97, 98, 99, 100, 101, 102]⟩) ⟨2, ((2 : Nat) : Int), (pageB ⟨#[97, 98, 88, 100, 89, 102]⟩).extract 2 5⟩ (k := k) (by omega)
  dsimp only at ha
  rw [ha, if_pos ⟨pageB_size _, hr⟩, hl]
  simp only [Option.bind_some]
  rw [hx, if_pos trivial, if_pos (by rw [ByteArray.toList_eq]; rfl), if_pos trivial]
  simp

end Go.Proofs.Yteakeonlgdbeiaa.Pure
