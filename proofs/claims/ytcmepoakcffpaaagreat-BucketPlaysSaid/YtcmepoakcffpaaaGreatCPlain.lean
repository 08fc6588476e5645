import Derived.Lib.Bytealg
import Derived.Test.YtcmepoakcffpaaaGreatWMore
import Derived.Test.YtcmepoakcffpaaaGreatWLast
namespace Go.Proofs.YtcmepoakcffpaaaGreat.CP
open Go Go.RowKit Go.Proofs.YtcmepoakcffpaaaGreatW.PrintWords Go.Proofs.YtcmepoakcffpaaaGreatW.PrintLast Go.Proofs.YtcmepoakcffpaaaGreatW.PrintMore
set_option linter.unusedVariables false
set_option linter.unusedSimpArgs false
/-! The plain law of the cells: no program in sight. -/
/-- A cell, as lists of bytes. -/
structure Cl where
  k : List UInt8
  v : List UInt8
  bl : Int
  sz : Int
deriving DecidableEq
/-- A number in two bytes. -/
def num2 (n : Nat) : List UInt8 := [UInt8.ofNat (n / 256), UInt8.ofNat n]
def enc (c : Cl) : List UInt8 := UInt8.ofNat c.k.length :: (c.k ++ if c.bl = 0 then 0 :: (num2 c.v.length ++ c.v) else 1 :: (num2 c.sz.toNat ++ num2 c.bl.toNat))
def right (c : Cl) : Bool := decide (1 ≤ c.k.length ∧ c.k.length ≤ 16 ∧ if c.bl = 0 then c.v.length ≤ 40 ∧ c.sz = 0 else 2 ≤ c.bl ∧ c.bl < 64 ∧ c.v = [] ∧ 40 < c.sz ∧ c.sz ≤ 400)
def csize (c : Cl) : Nat := 4 + c.k.length + if c.bl = 0 then c.v.length else 2
def total (l : List Cl) : Nat := (l.map csize).sum
def encs (l : List Cl) : List UInt8 := l.flatMap enc
/-- Cells whose keys rise, each right. -/
def rises : List Cl → Bool
  | [] => true
  | [c] => right c
  | c :: d :: l => right c && decide (c.k < d.k) && rises (d :: l)
def put (l : List Cl) : Option (List UInt8) := if l.length ≤ 240 ∧ rises l = true ∧ 1 + total l ≤ 240 then some (UInt8.ofNat l.length :: (encs l ++ List.replicate (239 - total l) 0)) else none
/-- The reader: what is left, and whether something lacked. -/
abbrev Rd := List UInt8 × Bool
def take (n : Nat) (r : Rd) : List UInt8 × Rd := if r.2 = true ∨ r.1.length < n then ([], (r.1, true)) else (r.1.take n, (r.1.drop n, false))
def nval (l : List UInt8) : Nat := l.foldl (fun v b => v * 256 + b.toNat) 0
def num (n : Nat) (r : Rd) : Nat × Rd := (nval (take n r).1, (take n r).2)
def cell (r : Rd) : Cl × Rd :=
  let a := num 1 r; let k := take a.1 a.2; let kd := num 1 k.2; let n := num 2 kd.2
  if kd.1 = 0 then let v := take n.1 n.2; (⟨k.1, v.1, 0, 0⟩, v.2) else let b := num 2 n.2; (⟨k.1, [], b.1, n.1⟩, b.2)
def cells : Nat → Rd → List Cl × Rd
  | 0, r => ([], r)
  | n + 1, r => let c := cell r; let t := cells n c.2; (c.1 :: t.1, t.2)
def readAll (b : List UInt8) : List Cl × Rd := let n := num 1 (b, false); cells n.1 n.2
def get (b : List UInt8) : Option (List Cl) := if (readAll b).2.2 = false ∧ put (readAll b).1 = some b then some (readAll b).1 else none
def fits (l : List Cl) : Bool := decide (l.length ≤ 240 ∧ (∀ c ∈ l, right c = true) ∧ (l.map Cl.k).Nodup ∧ 1 + total l ≤ 240)

theorem enc_length {c : Cl} (h : right c = true) : (enc c).length = csize c := by
  simp only [right, decide_eq_true_eq] at h
  unfold enc csize num2
  split <;> simp <;> omega
theorem nval1 (n : Nat) (h : n < 256) : nval [UInt8.ofNat n] = n := by simp [nval]; omega
theorem nval2 (n : Nat) (h : n < 65536) : nval (num2 n) = n := by simp [nval, num2]; omega
theorem take_app (n : Nat) (a b : List UInt8) (h : a.length = n) : take n (a ++ b, false) = (a, (b, false)) := by
  subst h
  simp [take]
theorem num_app (n : Nat) (a b : List UInt8) (h : a.length = n) : num n (a ++ b, false) = (nval a, (b, false)) := by unfold num; rw [take_app n a b h]
theorem cell_enc (c : Cl) (h : right c = true) (b : List UInt8) : cell (enc c ++ b, false) = (c, (b, false)) := by
  simp only [right, decide_eq_true_eq] at h
  obtain ⟨h1, h2, h3⟩ := h
  obtain ⟨k, v, bl, sz⟩ := c
  simp only at h1 h2 h3
  by_cases hb : bl = 0
  · rw [if_pos hb] at h3
    obtain ⟨h4, h5⟩ := h3
    subst hb h5
    have e : enc ⟨k, v, 0, 0⟩ ++ b = [UInt8.ofNat k.length] ++ (k ++ ([0] ++ (num2 v.length ++ (v ++ b)))) := by simp [enc]
    rw [e]
    unfold cell
    simp only [num_app 1 [UInt8.ofNat k.length] _ rfl, nval1 k.length (by omega), take_app k.length k _ rfl, num_app 1 [0] _ rfl, num_app 2 (num2 v.length) _ rfl, nval2 v.length (by omega), take_app v.length v _ rfl]
    rfl
  · rw [if_neg hb] at h3
    obtain ⟨h4, h5, h6, h7, h8⟩ := h3
    subst h6
    have e : enc ⟨k, [], bl, sz⟩ ++ b = [UInt8.ofNat k.length] ++ (k ++ ([1] ++ (num2 sz.toNat ++ (num2 bl.toNat ++ b)))) := by simp [enc, hb]
    rw [e]
    unfold cell
    simp only [num_app 1 [UInt8.ofNat k.length] _ rfl, nval1 k.length (by omega), take_app k.length k _ rfl, num_app 1 [1] _ rfl, num_app 2 (num2 sz.toNat) _ rfl, num_app 2 (num2 bl.toNat) _ rfl, nval2 sz.toNat (by omega), nval2 bl.toNat (by omega)]
    have e1 : nval [1] = 1 := rfl
    rw [e1, if_neg (by decide)]
    simp only [Int.toNat_of_nonneg (show 0 ≤ bl by omega), Int.toNat_of_nonneg (show 0 ≤ sz by omega)]
theorem cells_encs : ∀ (l : List Cl) (b : List UInt8), (∀ c ∈ l, right c = true) → cells l.length (encs l ++ b, false) = (l, (b, false))
  | [], b, _ => rfl
  | c :: l, b, h => by
    have e : encs (c :: l) ++ b = enc c ++ (encs l ++ b) := by simp [encs]
    rw [e, List.length_cons, cells, cell_enc c (h c (by simp)), cells_encs l b (fun d hd => h d (by simp [hd]))]
theorem rises_right : ∀ {l : List Cl}, rises l = true → ∀ c ∈ l, right c = true
  | [c], h, d, hd => by
    rw [List.mem_singleton] at hd
    subst hd
    exact h
  | c :: d :: l, h, x, hx => by
    simp only [rises, Bool.and_eq_true] at h
    rcases List.mem_cons.mp hx with rfl | hx
    · exact h.1.1
    · exact rises_right h.2 x hx
theorem put_length {l : List Cl} {b : List UInt8} (h : put l = some b) : b.length = 240 := by
  unfold put at h
  split at h
  · rename_i hc
    obtain rfl := Option.some.inj h
    have : (encs l).length = total l := by
      have hr := rises_right hc.2.1
      clear hc h
      induction l with
      | nil => rfl
      | cons c l ih =>
        have := ih (fun d hd => hr d (by simp [hd]))
        have e2 : total (c :: l) = csize c + total l := by simp [total]
        have e3 : encs (c :: l) = enc c ++ encs l := by simp [encs]
        rw [e3, e2, List.length_append, this, enc_length (hr c (by simp))]
    simp [this]
    omega
  · cases h
theorem get_put {l : List Cl} {b : List UInt8} (h : put l = some b) : get b = some l := by
  have h0 := h
  unfold put at h
  split at h
  · rename_i hc
    obtain rfl := Option.some.inj h
    have e : readAll (UInt8.ofNat l.length :: (encs l ++ List.replicate (239 - total l) 0)) = (l, (List.replicate (239 - total l) 0, false)) := by
      unfold readAll
      have := num_app 1 [UInt8.ofNat l.length] (encs l ++ List.replicate (239 - total l) 0) rfl
      rw [List.singleton_append] at this
      simp only [this, nval1 l.length (by omega), cells_encs l _ (rises_right hc.2.1)]
    unfold get
    rw [e]
    simp [h0]
  · cases h
theorem put_of_get {l : List Cl} {b : List UInt8} (h : get b = some l) : put l = some b := by
  unfold get at h
  split at h
  · rename_i hc
    obtain rfl := Option.some.inj h
    exact hc.2
  · cases h
theorem rises_nodup : ∀ {l : List Cl}, rises l = true → (l.map Cl.k).Pairwise (· < ·)
  | [], _ => by simp
  | [c], _ => by simp
  | c :: d :: l, h => by
    simp only [rises, Bool.and_eq_true, decide_eq_true_eq] at h
    have ih := rises_nodup h.2
    rw [List.map_cons, List.pairwise_cons]
    refine ⟨?_, ih⟩
    intro x hx
    rw [List.map_cons] at hx ih
    rcases List.mem_cons.mp hx with rfl | hx
    · exact h.1.2
    · exact List.lt_trans h.1.2 ((List.pairwise_cons.mp ih).1 x hx)
theorem rises_of : ∀ {l : List Cl}, (∀ c ∈ l, right c = true) → (l.map Cl.k).Pairwise (· < ·) → rises l = true
  | [], _, _ => rfl
  | [c], h, _ => h c (by simp)
  | c :: d :: l, h, hp => by
    simp only [rises, Bool.and_eq_true, decide_eq_true_eq]
    rw [List.map_cons, List.pairwise_cons] at hp
    exact ⟨⟨h c (by simp), hp.1 d.k (by simp)⟩, rises_of (fun x hx => h x (by simp [hx])) hp.2⟩
theorem fits_put {l : List Cl} {b : List UInt8} (h : put l = some b) : fits l = true := by
  unfold put at h
  split at h
  · rename_i hc
    simp only [fits, decide_eq_true_eq]
    refine ⟨hc.1, rises_right hc.2.1, ?_, hc.2.2⟩
    exact (rises_nodup hc.2.1).imp (fun h e => absurd h (by rw [e]; exact List.lt_irrefl _))
  · cases h
/-- What is sorted by its keys has room just as what was there had. -/
theorem fits_sorted {l d : List Cl} (hp : l.Perm d) (hs : d.Pairwise (fun a b => ¬ b.k < a.k)) : (put d).isSome = fits l := by
  have hmem : ∀ c, c ∈ d ↔ c ∈ l := fun c => hp.symm.mem_iff
  have htot : total d = total l := by
    unfold total
    exact (hp.symm.map csize).sum_nat
  by_cases hf : fits l = true
  · rw [hf]
    simp only [fits, decide_eq_true_eq] at hf
    have hnd : (d.map Cl.k).Nodup := (hp.map Cl.k).nodup_iff.mp hf.2.2.1
    have hr : rises d = true := by
      refine rises_of (fun c hc => hf.2.1 c ((hmem c).1 hc)) ?_
      rw [List.pairwise_map]
      have hnd' := List.pairwise_map.mp hnd
      refine (hs.and hnd').imp ?_
      rintro a b ⟨h1, h2⟩
      exact (List.le_iff_lt_or_eq.mp (List.not_lt.mp h1)).resolve_right h2
    unfold put
    rw [if_pos ⟨by rw [← hp.length_eq]; exact hf.1, hr, by rw [htot]; exact hf.2.2.2⟩]
    rfl
  · rw [Bool.not_eq_true] at hf
    rw [hf]
    cases hq : put d with
    | none => rfl
    | some b =>
      exfalso
      have := fits_put hq
      simp only [fits, decide_eq_true_eq] at this
      have h2 : fits l = true := by
        simp only [fits, decide_eq_true_eq]
        refine ⟨by rw [hp.length_eq]; exact this.1, fun c hc => this.2.1 c ((hmem c).2 hc), (hp.map Cl.k).nodup_iff.mpr this.2.2.1, by rw [← htot]; exact this.2.2.2⟩
      rw [h2] at hf
      cases hf
theorem bytes_compare : ∀ (a b : List UInt8), (Lib.compareBytes a b < 0) ↔ a < b
  | [], [] => by simp [Lib.compareBytes]
  | [], _ :: _ => by simp [Lib.compareBytes]
  | _ :: _, [] => by simp [Lib.compareBytes]
  | a :: x, b :: y => by
    have ih := bytes_compare x y
    unfold Lib.compareBytes
    rw [List.cons_lt_cons_iff]
    by_cases h1 : a < b
    · simp [h1]
    · rw [if_neg h1]
      by_cases h2 : b < a
      · rw [if_pos h2]
        simp only [h1, false_or, show ¬ ((1 : Int) < 0) by decide, false_iff, not_and]
        intro e
        subst e
        exact absurd h2 h1
      · rw [if_neg h2, ih]
        have e : a = b := UInt8.le_antisymm (UInt8.not_lt.mp h2) (UInt8.not_lt.mp h1)
        simp [h1, e]
end Go.Proofs.YtcmepoakcffpaaaGreat.CP
