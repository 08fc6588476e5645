import Derived.Lib.Bytealg
import Derived.Test.YtcmepoakcffpaaaWMore
import Derived.Test.YtcmepoakcffpaaaWLast
import Derived.Test.YtcmepoakcffpaaaProg
import Derived.BigRegion
import Derived.BigQuiet
import Derived.Deep.QuietTactic
import Derived.Deep.AppendLies
import Derived.ChangeAlike
import Derived.Outline
import Derived.WalkKit
import Derived.KernelRfl
import Derived.Deep.LoopGhost
import Derived.Deep.RegionLaw
import Derived.Test.YtcmepoakcffpaaaWKept
import Derived.Test.YtcmepoakcffpaaaLSep
import Derived.Test.YtcmepoakcffpaaaCRx
import Derived.Shelf.Strings.BuilderK
import Derived.Test.YtcmepoakcffpaaaShelf
import Derived.Sort.Walk0
import Derived.Laws.Cover1
import Derived.Lib.AppendZerosOnto
import Derived.Lib.Overlaps
import Derived.Laws.IdiomCopy
import Derived.Test.YtcmepoakcffpaaaCEx
import Derived.Deep.RegionHeld3
namespace Go.Proofs.Ytcmepoakcffpaaa.CP
open Go Go.RowKit Go.Proofs.YtcmepoakcffpaaaW.PrintWords Go.Proofs.YtcmepoakcffpaaaW.PrintLast Go.Proofs.YtcmepoakcffpaaaW.PrintMore
set_option linter.unusedVariables false
set_option linter.unusedSimpArgs false
/-! The plain law of the cells: no program in sight. -/
/-- A cell, as lists of bytes. -/
structure Cl where
  k : List UInt8
  v : List UInt8
  bl : Int
  sz : Int
deriving DecidableEq
/-- A number in two bytes. -/
def num2 (n : Nat) : List UInt8 := [UInt8.ofNat (n / 256), UInt8.ofNat n]
def enc (c : Cl) : List UInt8 := UInt8.ofNat c.k.length :: (c.k ++ if c.bl = 0 then 0 :: (num2 c.v.length ++ c.v) else 1 :: (num2 c.sz.toNat ++ num2 c.bl.toNat))
def right (c : Cl) : Bool := decide (1 ≤ c.k.length ∧ c.k.length ≤ 16 ∧ if c.bl = 0 then c.v.length ≤ 40 ∧ c.sz = 0 else 2 ≤ c.bl ∧ c.bl < 64 ∧ c.v = [] ∧ 40 < c.sz ∧ c.sz ≤ 400)
def csize (c : Cl) : Nat := 4 + c.k.length + if c.bl = 0 then c.v.length else 2
def total (l : List Cl) : Nat := (l.map csize).sum
def encs (l : List Cl) : List UInt8 := l.flatMap enc
/-- Cells whose keys rise, each right. -/
def rises : List Cl → Bool
  | [] => true
  | [c] => right c
  | c :: d :: l => right c && decide (c.k < d.k) && rises (d :: l)
def put (l : List Cl) : Option (List UInt8) := if l.length ≤ 240 ∧ rises l = true ∧ 1 + total l ≤ 240 then some (UInt8.ofNat l.length :: (encs l ++ List.replicate (239 - total l) 0)) else none
/-- The reader: what is left, and whether something lacked. -/
abbrev Rd := List UInt8 × Bool
def take (n : Nat) (r : Rd) : List UInt8 × Rd := if r.2 = true ∨ r.1.length < n then ([], (r.1, true)) else (r.1.take n, (r.1.drop n, false))
def nval (l : List UInt8) : Nat := l.foldl (fun v b => v * 256 + b.toNat) 0
def num (n : Nat) (r : Rd) : Nat × Rd := (nval (take n r).1, (take n r).2)
def cell (r : Rd) : Cl × Rd :=
  let a := num 1 r; let k := take a.1 a.2; let kd := num 1 k.2; let n := num 2 kd.2
  if kd.1 = 0 then let v := take n.1 n.2; (⟨k.1, v.1, 0, 0⟩, v.2) else let b := num 2 n.2; (⟨k.1, [], b.1, n.1⟩, b.2)
def cells : Nat → Rd → List Cl × Rd
  | 0, r => ([], r)
  | n + 1, r => let c := cell r; let t := cells n c.2; (c.1 :: t.1, t.2)
def readAll (b : List UInt8) : List Cl × Rd := let n := num 1 (b, false); cells n.1 n.2
def get (b : List UInt8) : Option (List Cl) := if (readAll b).2.2 = false ∧ put (readAll b).1 = some b then some (readAll b).1 else none
def fits (l : List Cl) : Bool := decide (l.length ≤ 240 ∧ (∀ c ∈ l, right c = true) ∧ (l.map Cl.k).Nodup ∧ 1 + total l ≤ 240)

theorem enc_length {c : Cl} (h : right c = true) : (enc c).length = csize c := by
  simp only [right, decide_eq_true_eq] at h
  unfold enc csize num2
  split <;> simp <;> omega
theorem nval1 (n : Nat) (h : n < 256) : nval [UInt8.ofNat n] = n := by simp [nval]; omega
theorem nval2 (n : Nat) (h : n < 65536) : nval (num2 n) = n := by simp [nval, num2]; omega
theorem take_app (n : Nat) (a b : List UInt8) (h : a.length = n) : take n (a ++ b, false) = (a, (b, false)) := by
  subst h
  simp [take]
theorem num_app (n : Nat) (a b : List UInt8) (h : a.length = n) : num n (a ++ b, false) = (nval a, (b, false)) := by unfold num; rw [take_app n a b h]
theorem cell_enc (c : Cl) (h : right c = true) (b : List UInt8) : cell (enc c ++ b, false) = (c, (b, false)) := by
  simp only [right, decide_eq_true_eq] at h
  obtain ⟨h1, h2, h3⟩ := h
  obtain ⟨k, v, bl, sz⟩ := c
  simp only at h1 h2 h3
  by_cases hb : bl = 0
  · rw [if_pos hb] at h3
    obtain ⟨h4, h5⟩ := h3
    subst hb h5
    have e : enc ⟨k, v, 0, 0⟩ ++ b = [UInt8.ofNat k.length] ++ (k ++ ([0] ++ (num2 v.length ++ (v ++ b)))) := by simp [enc]
    rw [e]
    unfold cell
    simp only [num_app 1 [UInt8.ofNat k.length] _ rfl, nval1 k.length (by omega), take_app k.length k _ rfl, num_app 1 [0] _ rfl, num_app 2 (num2 v.length) _ rfl, nval2 v.length (by omega), take_app v.length v _ rfl]
    rfl
  · rw [if_neg hb] at h3
    obtain ⟨h4, h5, h6, h7, h8⟩ := h3
    subst h6
    have e : enc ⟨k, [], bl, sz⟩ ++ b = [UInt8.ofNat k.length] ++ (k ++ ([1] ++ (num2 sz.toNat ++ (num2 bl.toNat ++ b)))) := by simp [enc, hb]
    rw [e]
    unfold cell
    simp only [num_app 1 [UInt8.ofNat k.length] _ rfl, nval1 k.length (by omega), take_app k.length k _ rfl, num_app 1 [1] _ rfl, num_app 2 (num2 sz.toNat) _ rfl, num_app 2 (num2 bl.toNat) _ rfl, nval2 sz.toNat (by omega), nval2 bl.toNat (by omega)]
    have e1 : nval [1] = 1 := rfl
    rw [e1, if_neg (by decide)]
    simp only [Int.toNat_of_nonneg (show 0 ≤ bl by omega), Int.toNat_of_nonneg (show 0 ≤ sz by omega)]
theorem cells_encs : ∀ (l : List Cl) (b : List UInt8), (∀ c ∈ l, right c = true) → cells l.length (encs l ++ b, false) = (l, (b, false))
  | [], b, _ => rfl
  | c :: l, b, h => by
    have e : encs (c :: l) ++ b = enc c ++ (encs l ++ b) := by simp [encs]
    rw [e, List.length_cons, cells, cell_enc c (h c (by simp)), cells_encs l b (fun d hd => h d (by simp [hd]))]
theorem rises_right : ∀ {l : List Cl}, rises l = true → ∀ c ∈ l, right c = true
  | [c], h, d, hd => by
    rw [List.mem_singleton] at hd
    subst hd
    exact h
  | c :: d :: l, h, x, hx => by
    simp only [rises, Bool.and_eq_true] at h
    rcases List.mem_cons.mp hx with rfl | hx
    · exact h.1.1
    · exact rises_right h.2 x hx
theorem put_length {l : List Cl} {b : List UInt8} (h : put l = some b) : b.length = 240 := by
  unfold put at h
  split at h
  · rename_i hc
    obtain rfl := Option.some.inj h
    have : (encs l).length = total l := by
      have hr := rises_right hc.2.1
      clear hc h
      induction l with
      | nil => rfl
      | cons c l ih =>
        have := ih (fun d hd => hr d (by simp [hd]))
        have e2 : total (c :: l) = csize c + total l := by simp [total]
        have e3 : encs (c :: l) = enc c ++ encs l := by simp [encs]
        rw [e3, e2, List.length_append, this, enc_length (hr c (by simp))]
    simp [this]
    omega
  · cases h
theorem get_put {l : List Cl} {b : List UInt8} (h : put l = some b) : get b = some l := by
  have h0 := h
  unfold put at h
  split at h
  · rename_i hc
    obtain rfl := Option.some.inj h
    have e : readAll (UInt8.ofNat l.length :: (encs l ++ List.replicate (239 - total l) 0)) = (l, (List.replicate (239 - total l) 0, false)) := by
      unfold readAll
      have := num_app 1 [UInt8.ofNat l.length] (encs l ++ List.replicate (239 - total l) 0) rfl
      rw [List.singleton_append] at this
      simp only [this, nval1 l.length (by omega), cells_encs l _ (rises_right hc.2.1)]
    unfold get
    rw [e]
    simp [h0]
  · cases h
theorem put_of_get {l : List Cl} {b : List UInt8} (h : get b = some l) : put l = some b := by
  unfold get at h
  split at h
  · rename_i hc
    obtain rfl := Option.some.inj h
    exact hc.2
  · cases h
theorem rises_nodup : ∀ {l : List Cl}, rises l = true → (l.map Cl.k).Pairwise (· < ·)
  | [], _ => by simp
  | [c], _ => by simp
  | c :: d :: l, h => by
    simp only [rises, Bool.and_eq_true, decide_eq_true_eq] at h
    have ih := rises_nodup h.2
    rw [List.map_cons, List.pairwise_cons]
    refine ⟨?_, ih⟩
    intro x hx
    rw [List.map_cons] at hx ih
    rcases List.mem_cons.mp hx with rfl | hx
    · exact h.1.2
    · exact List.lt_trans h.1.2 ((List.pairwise_cons.mp ih).1 x hx)
theorem rises_of : ∀ {l : List Cl}, (∀ c ∈ l, right c = true) → (l.map Cl.k).Pairwise (· < ·) → rises l = true
  | [], _, _ => rfl
  | [c], h, _ => h c (by simp)
  | c :: d :: l, h, hp => by
    simp only [rises, Bool.and_eq_true, decide_eq_true_eq]
    rw [List.map_cons, List.pairwise_cons] at hp
    exact ⟨⟨h c (by simp), hp.1 d.k (by simp)⟩, rises_of (fun x hx => h x (by simp [hx])) hp.2⟩
theorem fits_put {l : List Cl} {b : List UInt8} (h : put l = some b) : fits l = true := by
  unfold put at h
  split at h
  · rename_i hc
    simp only [fits, decide_eq_true_eq]
    refine ⟨hc.1, rises_right hc.2.1, ?_, hc.2.2⟩
    exact (rises_nodup hc.2.1).imp (fun h e => absurd h (by rw [e]; exact List.lt_irrefl _))
  · cases h
/-- What is sorted by its keys has room just as what was there had. -/
theorem fits_sorted {l d : List Cl} (hp : l.Perm d) (hs : d.Pairwise (fun a b => ¬ b.k < a.k)) : (put d).isSome = fits l := by
  have hmem : ∀ c, c ∈ d ↔ c ∈ l := fun c => hp.symm.mem_iff
  have htot : total d = total l := by
    unfold total
    exact (hp.symm.map csize).sum_nat
  by_cases hf : fits l = true
  · rw [hf]
    simp only [fits, decide_eq_true_eq] at hf
    have hnd : (d.map Cl.k).Nodup := (hp.map Cl.k).nodup_iff.mp hf.2.2.1
    have hr : rises d = true := by
      refine rises_of (fun c hc => hf.2.1 c ((hmem c).1 hc)) ?_
      rw [List.pairwise_map]
      have hnd' := List.pairwise_map.mp hnd
      refine (hs.and hnd').imp ?_
      rintro a b ⟨h1, h2⟩
      exact (List.le_iff_lt_or_eq.mp (List.not_lt.mp h1)).resolve_right h2
    unfold put
    rw [if_pos ⟨by rw [← hp.length_eq]; exact hf.1, hr, by rw [htot]; exact hf.2.2.2⟩]
    rfl
  · rw [Bool.not_eq_true] at hf
    rw [hf]
    cases hq : put d with
    | none => rfl
    | some b =>
      exfalso
      have := fits_put hq
      simp only [fits, decide_eq_true_eq] at this
      have h2 : fits l = true := by
        simp only [fits, decide_eq_true_eq]
        refine ⟨by rw [hp.length_eq]; exact this.1, fun c hc => this.2.1 c ((hmem c).2 hc), (hp.map Cl.k).nodup_iff.mpr this.2.2.1, by rw [← htot]; exact this.2.2.2⟩
      rw [h2] at hf
      cases hf
theorem bytes_compare : ∀ (a b : List UInt8), (Lib.compareBytes a b < 0) ↔ a < b
  | [], [] => by simp [Lib.compareBytes]
  | [], _ :: _ => by simp [Lib.compareBytes]
  | _ :: _, [] => by simp [Lib.compareBytes]
  | a :: x, b :: y => by
    have ih := bytes_compare x y
    unfold Lib.compareBytes
    rw [List.cons_lt_cons_iff]
    by_cases h1 : a < b
    · simp [h1]
    · rw [if_neg h1]
      by_cases h2 : b < a
      · rw [if_pos h2]
        simp only [h1, false_or, show ¬ ((1 : Int) < 0) by decide, false_iff, not_and]
        intro e
        subst e
        exact absurd h2 h1
      · rw [if_neg h2, ih]
        have e : a = b := UInt8.le_antisymm (UInt8.not_lt.mp h2) (UInt8.not_lt.mp h1)
        simp [h1, e]
end Go.Proofs.Ytcmepoakcffpaaa.CP
namespace Go.Proofs.Ytcmepoakcffpaaa.CP
open Go Go.RowKit Go.Proofs.YtcmepoakcffpaaaW.PrintWords Go.Proofs.YtcmepoakcffpaaaW.PrintLast Go.Proofs.YtcmepoakcffpaaaW.PrintMore Go.Proofs.Ytcmepoakcffpaaa.CR Go.Proofs.Ytcmepoakcffpaaa.L
set_option linter.unusedVariables false
set_option linter.unusedSimpArgs false
/-- A cell as it lies in memory. -/
structure B where
  k : ByteArray
  v : ByteArray
  bl : Int
  sz : Int
deriving Inhabited
def B.cl (c : B) : Cl := ⟨c.k.data.toList, c.v.data.toList, c.bl, c.sz⟩
def cellsB (c : B) : List Value := [.string c.k, .string c.v, .int .i64 c.bl, .int .i64 c.sz]
abbrev B.val (c : B) : Value := .agg #[.string c.k, .string c.v, .int .i64 c.bl, .int .i64 c.sz]
def kdB : Kd B where
  sz := 4
  E := []
  K := fun _ x cs => cs = cellsB x
  M := fun _ _ _ x cs => cs = cellsB x
  K_len := by rintro w x cs rfl; rfl
  K_one := by
    rintro w x cs rfl u hu
    simp only [cellsB, List.mem_cons, List.not_mem_nil, or_false] at hu
    rcases hu with rfl | rfl | rfl | rfl <;> rfl
  K_below := fun _ h => h
  K_of_M := fun h => h
  M_mono := fun _ h => h
  M_bound := fun h => h
  M_move := fun _ h => h
  M_lower := fun _ h => h
theorem at_B {w : World} {A : Option Addr} {n : Nat} {ls : List B} (h : Kd.C kdB w A n ls) (i : Nat) (h1 : i < n) :
    ∃ ad, A = some ad ∧ w.cell? (ad.add (i * 4)) = some (.string (ls.getD i default).k) ∧ w.cell? { block := (ad.add (i * 4)).block, off := (ad.add (i * 4)).off + 1 } = some (.string (ls.getD i default).v) ∧ w.cell? { block := (ad.add (i * 4)).block, off := (ad.add (i * 4)).off + 2 } = some (.int .i64 (ls.getD i default).bl) ∧ w.cell? { block := (ad.add (i * 4)).block, off := (ad.add (i * 4)).off + 3 } = some (.int .i64 (ls.getD i default).sz) := by
  obtain ⟨ad, c, e, _, hK, hc0⟩ := Kd.C_get h (default : B) (i : Int) (by omega) (by omega)
  have hc : ∀ j u, c[j]? = some u → w.cell? (ad.add (i * 4 + j)) = some u := hc0
  have hK2 : c = cellsB (ls.getD i default) := hK
  subst hK2
  have hA : ∀ j, j ≠ 0 → ad.add (i * 4 + j) = { block := (ad.add (i * 4)).block, off := (ad.add (i * 4)).off + j } := by
    intro j hj
    unfold Addr.add
    rw [if_neg (by omega)]
    by_cases hi : i * 4 = 0
    · rw [if_pos hi, hi, Nat.zero_add]
    · rw [if_neg hi, Nat.add_assoc]
  exact ⟨ad, e, hc 0 _ rfl, by rw [← hA 1 (by decide)]; exact hc 1 _ rfl, by rw [← hA 2 (by decide)]; exact hc 2 _ rfl, by rw [← hA 3 (by decide)]; exact hc 3 _ rfl⟩
theorem size_data (b : ByteArray) : b.size = b.data.toList.length := by rw [Array.length_toList]; rfl
theorem toList_nil_iff (b : ByteArray) : b.toList = [] ↔ b.data.toList = [] := by rw [Lib.toList_data]
theorem right_calls (w : World) (c : B) : Calls Try.prog 24 #[c.val] w fun e w' => e = .returned (.bool (right c.cl)) ∧ Eff0 w w' := by
  refine (cell_Right.calls c.k c.v c.bl c.sz (right c.cl) w ?_).mono fun e w' ⟨he, hb⟩ => ⟨he, Eff.of_below hb⟩
  unfold cell_Right.f fnv_Key.f right B.cl
  have h1 := size_data c.k
  have h2 := size_data c.v
  simp only [toList_nil_iff]
  generalize c.k.data.toList = K at *
  generalize c.v.data.toList = V at *
  rw [h1, h2]
  generalize c.bl = bl
  generalize c.sz = sz
  clear h1 h2
  by_cases a : K = []
  · simp [a]
  · have a' : 1 ≤ K.length := by
      rcases Nat.eq_zero_or_pos K.length with h | h
      · exact absurd (List.length_eq_zero_iff.mp h) a
      · exact h
    rw [if_neg a, Option.bind_some]
    by_cases b : K.length ≤ 16
    · rw [decide_eq_true (show (K.length : Int) ≤ 16 by omega), if_pos rfl]
      by_cases d : bl = 0
      · rw [if_pos d]
        by_cases f : V.length ≤ 40
        · rw [if_pos (show (V.length : Int) ≤ 40 by omega)]
          simp only [a', b, d, f, true_and, if_true]
          rw [Option.some.injEq, Bool.eq_iff_iff]
          simp
        · rw [if_neg (show ¬ (V.length : Int) ≤ 40 by omega)]
          simp [d, f]
      · rw [if_neg d]
        by_cases g1 : bl ≥ 2
        · rw [if_pos g1]
          by_cases g2 : bl < 64
          · rw [if_pos g2]
            by_cases g3 : V = []
            · rw [if_pos g3]
              by_cases g4 : sz > 40
              · rw [if_pos g4]
                simp [a', b, d, g1, g2, g3, g4]
              · rw [if_neg g4]
                simp [d, g4]
            · rw [if_neg g3]
              simp [d, g3]
          · rw [if_neg g2]
            simp [d, g2]
        · rw [if_neg g1]
          simp [d]
          intro _ _ h
          omega
    · rw [decide_eq_false (show ¬ (K.length : Int) ≤ 16 by omega), if_neg (by simp)]
      simp [b]
theorem str_data (l : List Int) : (strOfNums l).data.toList = l.map (fun n => UInt8.ofNat n.toNat) := strOfNums_data l
theorem app_data (a b : ByteArray) : (a ++ b).data.toList = a.data.toList ++ b.data.toList := by simp
theorem eq_of_data {a b : ByteArray} (h : a.data.toList = b.data.toList) : a = b := by
  obtain ⟨⟨a⟩⟩ := a
  obtain ⟨⟨b⟩⟩ := b
  simp only at h
  rw [h]
theorem num2_str (n : Nat) (h : n < 65536) : ([((n : Int) / 256) % 256, (n : Int) % 256] : List Int).map (fun z => UInt8.ofNat z.toNat) = num2 n := by
  have e1 : (((n : Int) / 256) % 256).toNat = n / 256 := by omega
  have e2 : ((n : Int) % 256).toNat = n % 256 := by omega
  simp only [List.map_cons, List.map_nil, e1, e2, num2]
  congr 2
  apply UInt8.toNat_inj.mp
  simp
theorem put_f (c : B) (h : right c.cl = true) : cell_put.f c.k c.v c.bl c.sz = some ⟨(enc c.cl).toArray⟩ := by
  simp only [right, decide_eq_true_eq] at h
  obtain ⟨h1, h2, h3⟩ := h
  have s1 := size_data c.k
  have s2 := size_data c.v
  unfold B.cl at h1 h2 h3
  simp only at h1 h2 h3
  rw [← s1] at h1 h2
  unfold cell_put.f cell_number.f
  simp only [Option.bind_some]
  have z1 : (strOfNums ([((c.k.size : Int)) % 256] : List Int)).size = 1 := strOfNums_size _
  have z2 : ∀ a b : Int, (strOfNums [a, b]).size = 2 := fun a b => strOfNums_size _
  have z3 : (⟨#[0]⟩ : ByteArray).size = 1 := rfl
  have z4 : (⟨#[1]⟩ : ByteArray).size = 1 := rfl
  have e1 : (([((c.k.size : Int)) % 256] : List Int).map (fun z => UInt8.ofNat z.toNat)) = [UInt8.ofNat c.k.size] := by
    have : (((c.k.size : Int)) % 256).toNat = c.k.size := by omega
    simp only [List.map_cons, List.map_nil, this]
  have e0 : ([0] : List UInt8) = (⟨#[0]⟩ : ByteArray).data.toList := rfl
  by_cases hb : c.bl = 0
  · rw [if_pos hb] at h3
    obtain ⟨h4, h5⟩ := h3
    rw [← s2] at h4
    rw [if_pos hb]
    rw [if_pos (by rw [z1]; omega), if_pos (by rw [ByteArray.size_append, z1]; omega), if_pos (by simp only [ByteArray.size_append, z1, z2, z3]; omega), if_pos (by simp only [ByteArray.size_append, z1, z2, z3]; omega)]
    congr 1
    apply eq_of_data
    simp only [app_data, str_data]
    rw [e1, num2_str c.v.size (by omega)]
    show _ = enc c.cl
    unfold enc B.cl
    simp only [hb, if_true, ← s1, ← s2]
    simp
  · rw [if_neg hb] at h3
    obtain ⟨h4, h5, h6, h7, h8⟩ := h3
    rw [if_neg hb]
    rw [if_pos (by rw [z1]; omega), if_pos (by rw [ByteArray.size_append, z1]; omega), if_pos (by simp only [ByteArray.size_append, z1, z2, z4]; omega), if_pos (by simp only [ByteArray.size_append, z1, z2, z4]; omega)]
    congr 1
    apply eq_of_data
    simp only [app_data, str_data]
    have e2 : c.bl = ((c.bl.toNat : Nat) : Int) := by omega
    have e3 : c.sz = ((c.sz.toNat : Nat) : Int) := by omega
    rw [e1, e2, e3, num2_str c.bl.toNat (by omega), num2_str c.sz.toNat (by omega)]
    show _ = enc c.cl
    unfold enc B.cl
    simp only [hb, if_false, ← s1]
    simp
theorem put_calls (w : World) (c : B) (h : right c.cl = true) : Calls Try.prog 47 #[c.val] w fun e w' => e = .returned (.string ⟨(enc c.cl).toArray⟩) ∧ Eff0 w w' :=
  (cell_put.calls c.k c.v c.bl c.sz _ w (put_f c h)).mono fun e w' ⟨he, hb⟩ => ⟨he, Eff.of_below hb⟩
end Go.Proofs.Ytcmepoakcffpaaa.CP
namespace Go.Proofs.Ytcmepoakcffpaaa.CP
open Go Go.RowKit Go.Proofs.YtcmepoakcffpaaaW.PrintWords Go.Proofs.YtcmepoakcffpaaaW.PrintLast Go.Proofs.YtcmepoakcffpaaaW.PrintMore Go.Proofs.Ytcmepoakcffpaaa.L
set_option linter.unusedVariables false
set_option linter.unusedSimpArgs false
/-! strings.Builder at this dump: its copy check's far arm has no operations here, so the shelf's contract isn't laid; the three writers by their own walks. -/
abbrev BuiltAt (b : Nat) (bs : List Value) (w : World) : Prop := Lib.BuilderAtF 84 5 b b (.pointer (some ⟨b, 0, none⟩)) bs w
abbrev Built (b : Nat) (bs : List Value) (w : World) : Prop := Lib.IsBuilderF 84 5 b b bs w
theorem info8 : (Try.prog.info? 5).map (fun i => (i.zero, i.size, i.bytes)) = some (some (.int .u8 0), 1, 1) := by kernel_rfl
theorem infoBd : (Try.prog.info? 84).map (·.size) = some 2 := by kernel_rfl
theorem liesBd : liesAt Try.prog Try.prog.depth 84 (2 / Try.prog.cellsOf 84) 0 84 1 = true := by kernel_rfl
set_option maxHeartbeats 1600000 in
set_option maxRecDepth 100000 in
theorem copyCheck_new (b : Nat) (w : World) (h0 : w.cell? ⟨b, 0, none⟩ = some (.pointer none)) (hs : w.shape? b = some (84, 2)) (hf : w.frozen? ⟨b, 0, none⟩ = false) :
    Calls Try.prog 54 #[.pointer (some ⟨b, 0, none⟩)] w fun e w' => e = .returned (.tuple #[]) ∧ w' = w.setCell ⟨b, 0, none⟩ (.pointer (some ⟨b, 0, none⟩)) := by
  obtain ⟨j, hj, hjs⟩ := Option.map_eq_some_iff.1 infoBd
  go_enter Try.func54, Try.ntmps54
  go_wp2
  rw [Lib.run_to_unsafe w ⟨b, 0, none⟩ Try.underlying82 Try.underlying100 hj (by rw [hjs]; decide) hs (Nat.zero_lt_succ 1)]
  simp only [Result.andThen]
  rw [Oper.upon_value]
  go_wp2
  rw [run_callFunc_extern Try.func59 (by kernel_rfl) (by kernel_rfl) (by kernel_rfl) (e := Extern.AbiNoEscape.same) (by kernel_rfl)]
  rw [Lib.run_noEscape]
  simp only [Result.andThen]
  rw [Oper.upon_value]
  go_wp2
  rw [Lib.run_from_unsafe w ⟨b, 0, none⟩ Try.underlying100 Try.underlying82 hj hs liesBd]
  simp only [Result.andThen]
  rw [Oper.upon_value]
  go_wp2
  first | go_end0 | (refine bodyPost_ret (results_none rfl _ _ _) rfl ?_)
  exact ⟨rfl, rfl⟩
set_option maxHeartbeats 1600000 in
set_option maxRecDepth 100000 in
theorem copyCheck_old (b : Nat) (w : World) (h0 : w.cell? ⟨b, 0, none⟩ = some (.pointer (some ⟨b, 0, none⟩))) :
    Calls Try.prog 54 #[.pointer (some ⟨b, 0, none⟩)] w fun e w' => e = .returned (.tuple #[]) ∧ w' = w := by
  obtain ⟨j, hj, _⟩ := Option.map_eq_some_iff.1 infoBd
  go_enter Try.func54, Try.ntmps54
  go_wp2
  rw [Lib.run_neq_ptr_same w _ Try.underlying82 hj]
  go_wp2
  first | go_end0 | (refine bodyPost_ret (results_none rfl _ _ _) rfl ?_)
  exact ⟨rfl, rfl⟩
theorem copyCheck_calls (b : Nat) (bs : List Value) (w : World) (h : Built b bs w) :
    Calls Try.prog 54 #[.pointer (some ⟨b, 0, none⟩)] w fun e w' => e = .returned (.tuple #[]) ∧ BuiltAt b bs w' ∧ Below b w w' := by
  rcases h with h | h
  · refine (copyCheck_new b w h.cell0 h.shape h.frozen0).mono ?_
    rintro e w' ⟨rfl, rfl⟩
    exact ⟨rfl, h.used _, (Below.refl b w).setCell (p := ⟨b, 0, none⟩) (Nat.le_refl _) _⟩
  · refine (copyCheck_old b w h.cell0).mono ?_
    rintro e w' ⟨rfl, rfl⟩
    exact ⟨rfl, h, Below.refl b _⟩
theorem info_split {P : Program} {e : TypeId} {x : Option Value × Nat × Nat} (h : (P.info? e).map (fun i => (i.zero, i.size, i.bytes)) = some x) : ∃ i, P.info? e = some i ∧ i.zero = x.1 ∧ i.size = x.2.1 ∧ i.bytes = x.2.2 := by
  obtain ⟨i, hi, hx⟩ := Option.map_eq_some_iff.1 h
  subst hx
  exact ⟨i, hi, rfl, rfl, rfl⟩
theorem neBd : (84 : Nat) ≠ 5 := by decide
theorem Built.lt {b : Nat} {bs : List Value} {w : World} (h : Built b bs w) : b < w.heap.size := by
  rcases h with ⟨_, v, hb, _⟩ | ⟨_, v, hb, _⟩ <;> exact (Array.getElem?_eq_some_iff.1 hb).1
theorem ownF_slice {w : World} {B n : Nat} {v : Value} {bs : List Value} (h : w.ownsRowF B 5 1 v n bs) : ∃ ao cap, v = .slice ao n cap := by
  rcases h.2 with ⟨hv, h0⟩ | ⟨g, cap, cur, fz, hv, _⟩
  · exact ⟨none, 0, by rw [hv, h0]⟩
  · exact ⟨_, _, hv⟩
/-- What an append leaves of a builder. -/
theorem Built.grown {b : Nat} {bs bs' : List Value} {w w1 w2 : World} {v v' : Value} (hbk : w1.heap[b]? = some (.cells #[.pointer (some ⟨b, 0, none⟩), v] 84 (0, 0))) (hne : v.ownBlock ≠ some b) (hown : w1.ownsRowF b 5 1 v bs.length bs) (hb1 : Below b w w1) (hbw : b ≤ w.heap.size)
    (ho : w2.ownsRowF b 5 1 v' bs'.length bs') (hg : w1.grownBy w2 v.ownBlock) : w2.heap[b]? = some (.cells #[.pointer (some ⟨b, 0, none⟩), v] 84 (0, 0)) ∧ BuiltAt b bs' (w2.setCell ⟨b, 1, none⟩ v') ∧ Below b w (w2.setCell ⟨b, 1, none⟩ v') := by
  have hlt : b < w1.heap.size := (Array.getElem?_eq_some_iff.1 hbk).1
  have hb2 : w2.heap[b]? = some (.cells #[.pointer (some ⟨b, 0, none⟩), v] 84 (0, 0)) := by rw [hg.block b hlt (fun e => hne e.symm)]; exact hbk
  exact ⟨hb2, Lib.BuilderAtF.put (Nat.le_refl _) hb2 ho neBd, (hb1.grown hg (by omega) (fun k hk => (hown.lt k hk).1)).setCell (p := ⟨b, 1, none⟩) (Nat.le_refl _) _⟩
set_option maxHeartbeats 1600000 in
set_option maxRecDepth 100000 in
theorem writeString_calls (b : Nat) (bs : List Value) (s : ByteArray) (w : World) (h : Built b bs w) (hl : bs.length + s.size ≤ 140737488355328) :
    Calls Try.prog 46 #[.pointer (some ⟨b, 0, none⟩), .string s] w fun e w' => e = .returned (.tuple #[.int .i64 s.size, .nilIface]) ∧ BuiltAt b (bs ++ Lib.strCells s) w' ∧ Below b w w' := by
  obtain ⟨i0, hi, hz0, hz1, hz2⟩ := info_split info8
  have hlt0 := h.lt
  have hc3 : bs.length + s.size ≤ maxLen := by unfold maxLen; omega
  have C := copyCheck_calls b bs w h
  clear h
  go_enter Try.func46, Try.ntmps46
  go_wp2_with (first
    | (go_at_call 54; refine C.mono ?_; rintro e w1 ⟨rfl, ⟨_, v, hbk, hown, hne⟩, hb1⟩; obtain ⟨ao, cap, rfl⟩ := ownF_slice hown; have c0 := blk_cell hbk 0; have c1 := blk_cell hbk 1; have H := Aside0.mk (And.intro hbk (And.intro hne (And.intro hown hb1))); have hs1 := hb1.size; clear hbk hne hown hb1)
    | (at_builtin; refine Lib.wpList_append_own_stringF _ rfl (.tmp 12) (.tmp 13) 60 9 rfl b 5 i0 Try.underlying60 Try.underlying9 hi hz0 hz1 hz2 _ _ _ rfl H.out.2.2.1 s rfl hc3 hl (by omega) ?_; intro v' w2 ho hg _; obtain ⟨ao', cap', rfl⟩ := ownF_slice ho; obtain ⟨hb2, hB, hb⟩ := Built.grown (bs' := bs ++ Lib.strCells s) H.out.1 H.out.2.1 H.out.2.2.1 H.out.2.2.2 (Nat.le_of_lt hlt0) (by simpa [Lib.strCells_length] using ho) hg; have d0 := blk_cell hb2 0; have d1 := blk_cell hb2 1; have f1 := blk_frozen hb2 1; have H2 := Aside0.mk (And.intro hB hb); clear ho hg hb2 hB hb c0 c1))
  go_ret2
  exact ⟨rfl, H2.out⟩
theorem lit_one (w : World) (c : Int) : ∀ j u, ([.int .u8 c] : List Value)[j]? = some u → (w.alloc (.cells #[.int .u8 c] 5)).cell? ((⟨w.heap.size, 0, none⟩ : Addr).add j) = some u := by
  intro j u hj
  match j, hj with
  | 0, hj => simp at hj; subst hj; simp [Addr.add]
theorem one_lit (c : Int) : ∀ u ∈ ([.int .u8 c] : List Value), u.oneCell' = true := by
  intro u hu
  simp at hu
  subst hu
  rfl
set_option maxHeartbeats 1600000 in
set_option maxRecDepth 100000 in
theorem writeByte_calls (b : Nat) (bs : List Value) (c : Int) (w : World) (h : Built b bs w) (hl : bs.length + 1 ≤ 140737488355328) :
    Calls Try.prog 45 #[.pointer (some ⟨b, 0, none⟩), .int .u8 c] w fun e w' => e = .returned .nilIface ∧ BuiltAt b (bs ++ [.int .u8 c]) w' ∧ Below b w w' := by
  obtain ⟨i0, hi, hz0, hz1, hz2⟩ := info_split info8
  have hlt0 := h.lt
  have hc3 : bs.length + 1 ≤ maxLen := by unfold maxLen; omega
  have C := copyCheck_calls b bs w h
  clear h
  go_enter Try.func45, Try.ntmps45
  go_wp2_with (first
    | (go_at_call 54; refine C.mono ?_; rintro e w1 ⟨rfl, ⟨_, v, hbk, hown, hne⟩, hb1⟩; obtain ⟨ao, cap, rfl⟩ := ownF_slice hown; have c0 := blk_cell hbk 0; have c1 := blk_cell hbk 1; have hs1 := hb1.size; have H := Aside0.mk (And.intro (((Lib.alloc_old w1 (.cells #[.int .u8 c] 5) b (Nat.lt_of_lt_of_le hlt0 hs1))).trans hbk) (And.intro hne (And.intro (hown.alloc (.cells #[.int .u8 c] 5)) (hb1.alloc (by omega) (.cells #[.int .u8 c] 5))))); clear hbk hne hown hb1)
    | (at_builtin; refine wpList_append_ownF _ rfl (.tmp 11) (.tmp 13) 60 rfl b 5 i0 (.int .u8 0) 1 1 Try.underlying60 hi hz0 hz1 hz2 rfl (by decide) _ _ _ rfl H.out.2.2.1 ⟨w1.heap.size, 0, none⟩ 1 1 [.int .u8 c] rfl rfl (lit_one w1 c) (one_lit c) hc3 (by omega) (by rw [World.size_alloc]; omega) ?_; intro v' w2 ho hg _; obtain ⟨ao', cap', rfl⟩ := ownF_slice ho; obtain ⟨hb2, hB, hb⟩ := Built.grown (bs' := bs ++ [.int .u8 c]) H.out.1 H.out.2.1 H.out.2.2.1 H.out.2.2.2 (Nat.le_of_lt hlt0) (by simpa using ho) hg; have d0 := blk_cell hb2 0; have d1 := blk_cell hb2 1; have f1 := blk_frozen hb2 1; have H2 := Aside0.mk (And.intro hB hb); clear ho hg hb2 hB hb c0 c1))
  go_ret
  exact ⟨rfl, H2.out⟩
end Go.Proofs.Ytcmepoakcffpaaa.CP
namespace Go.Proofs.Ytcmepoakcffpaaa.L
open Go Go.RowKit Go.Proofs.YtcmepoakcffpaaaW.PrintWords Go.Proofs.YtcmepoakcffpaaaW.PrintLast Go.Proofs.YtcmepoakcffpaaaW.PrintMore
set_option linter.unusedVariables false
set_option linter.unusedSimpArgs false
/-! A region that draws its order, whose operations only read, and whose callees may make memory: walked once, in the order of the text. -/
/-- A world that came of w, nothing old changed. -/
structure Since (w : World) where
  here : World
  eff : Eff0 w here
instance (w : World) : Inhabited (Since w) := ⟨⟨w, Eff.refl _ _⟩⟩
theorem Since.cell {w : World} {a : Addr} {v : Value} (hb : a.block < w.heap.size) (h : w.cell? a = some v) (p : Since w) : p.here.cell? a = some v := by
  rw [← h]
  unfold World.cell?
  rw [p.eff.block a.block hb id]
theorem wp_region_since {P : Program} {id : Nat} {Q : Exit → Act → World → Prop} {a : Act} {w : World} {l : List Oper} (hm : P.follows .mixedOrders = true) (hB : Region.lexB .any l.toArray = true)
    (h : wpQuiet P l.toArray (fun w' => ∃ p : Since w, w' = p.here) (fun a' => ∀ w', (∃ p : Since w, w' = p.here) → Q .normal a' w') l a) : (Code.region id l.toArray true).wp P Q a w :=
  wp_region_quiet (C := fun w' => ∃ p : Since w, w' = p.here) hm hB ⟨⟨_, (Eff.refl _ _).drew⟩, rfl⟩ (by simpa using h)
/-- A callee's contract, met in such a world. -/
theorem Calls.since {P : Program} {f : FuncId} {args : Array Value} {w : World} {v : Value} {p : Since w} (h : Calls P f args p.here fun e w' => e = .returned v ∧ Eff0 p.here w') : Calls P f args p.here fun e w'' => e = .returned v ∧ ∃ q : Since w, w'' = q.here :=
  h.mono fun _ w' ⟨he, e1⟩ => ⟨he, ⟨w', p.eff.then0 e1⟩, rfl⟩
section
variable {P : Program} {ops : Array Oper} {C : World → Prop}
/-- An operation whose guard says no. -/
theorem wpQuiet_skip {Q : Act → Prop} {a : Act} {o : Oper} {rest : List Oper} (hw : Region.wanted o (yielded ops a.tmps) = false) {a' : Act} (ha : a.put o.dst undef = a') (h : wpQuiet P ops C Q rest a') : wpQuiet P ops C Q (o :: rest) a := by
  subst ha
  unfold wpQuiet
  rw [if_neg (by rw [hw]; decide)]
  exact h
/-- An operation whose guard says yes. -/
theorem wpQuiet_go {Q : Act → Prop} {a : Act} {o : Oper} {rest : List Oper} (hw : Region.wanted o (yielded ops a.tmps) = true) (h : ∀ K : Act → Prop, (∀ a, wpQuiet P ops C Q rest a → K a) → o.quiet P a C K) : wpQuiet P ops C Q (o :: rest) a := by
  unfold wpQuiet
  rw [if_pos hw]
  exact h _ (fun _ h => h)
end
end Go.Proofs.Ytcmepoakcffpaaa.L
namespace Go.Proofs.Ytcmepoakcffpaaa.CP
open Go Go.RowKit Go.Proofs.YtcmepoakcffpaaaW.PrintWords Go.Proofs.YtcmepoakcffpaaaW.PrintLast Go.Proofs.YtcmepoakcffpaaaW.PrintMore Go.Proofs.Ytcmepoakcffpaaa.CR Go.Proofs.Ytcmepoakcffpaaa.L
set_option linter.unusedVariables false
set_option linter.unusedSimpArgs false
def RdAt (b : Nat) (s : ByteArray) (bad : Bool) : HP := CellsAt b #[.string s, .bool bad] 79
theorem RdAt.set0 {b : Nat} {s : ByteArray} {bad : Bool} {W : World} {F : Nat → Prop} (h : (RdAt b s bad).on W F) (s' : ByteArray) : Upd W F (RdAt b s' bad) (W.setCell ⟨b, 0, none⟩ (.string s')) := CellsAt.set h 0 _
theorem RdAt.set1 {b : Nat} {s : ByteArray} {bad : Bool} {W : World} {F : Nat → Prop} (h : (RdAt b s bad).on W F) (bad' : Bool) : Upd W F (RdAt b s bad') (W.setCell ⟨b, 1, none⟩ (.bool bad')) := CellsAt.set h 1 _
/-- What take tells, and leaves. -/
def takeB (n : Nat) (s : ByteArray) (bad : Bool) : ByteArray × ByteArray × Bool := if bad = true ∨ s.size < n then (⟨#[]⟩, s, true) else (s.extract 0 n, s.extract n s.size, false)
set_option maxHeartbeats 1600000 in
set_option maxRecDepth 100000 in
theorem take_calls (b : Nat) (s : ByteArray) (bad : Bool) (W : World) (F : Nat → Prop) (h : (RdAt b s bad).on W F) (n : Nat) (hn : n < 4294967296) :
    Calls Try.prog 51 #[.pointer (some ⟨b, 0, none⟩), .int .i64 n] W fun e w' => e = .returned (.string (takeB n s bad).1) ∧ Upd W F (RdAt b (takeB n s bad).2.1 (takeB n s bad).2.2) w' := by
  have c0 : W.cell? ⟨b, 0, none⟩ = some (.string s) := CellsAt.cell h 0
  have c1 : W.cell? ⟨b, 1, none⟩ = some (.bool bad) := CellsAt.cell h 1
  have f0 : W.frozen? ⟨b, 0, none⟩ = false := CellsAt.frozen h 0
  have f1 : W.frozen? ⟨b, 1, none⟩ = false := CellsAt.frozen h 1
  cases bad with
  | true =>
    have hr : takeB n s true = (⟨#[]⟩, s, true) := by simp [takeB]
    rw [hr]
    have H := Aside0.mk (RdAt.set1 h true)
    clear h hr
    go_enter Try.func51, Try.ntmps51
    go_wp2
    go_ret
    exact ⟨rfl, H.out⟩
  | false =>
    by_cases hl : s.size < n
    · have hr : takeB n s false = (⟨#[]⟩, s, true) := by simp [takeB, hl]
      rw [hr]
      have p1 : ((s.size : Int) < (n : Int)) = True := eq_true (by omega)
      have H := Aside0.mk (RdAt.set1 h true)
      clear h hr hl
      go_enter Try.func51, Try.ntmps51
      go_wp2
      go_ret
      exact ⟨rfl, H.out⟩
    · have hr : takeB n s false = (s.extract 0 n, s.extract n s.size, false) := by simp [takeB, hl]
      rw [hr]
      have p1 : ((s.size : Int) < (n : Int)) = False := eq_false (by omega)
      have p2 : ((n : Int) ≤ (s.size : Int)) = True := eq_true (by omega)
      have H := Aside0.mk ((RdAt.set1 h false).trans (fun F1 h1 => RdAt.set0 h1 (s.extract n s.size)))
      clear h hr hl
      go_enter Try.func51, Try.ntmps51
      go_wp2
      go_ret
      exact ⟨rfl, H.out⟩
/-- A text's bytes as a number. -/
def nvalB (s : ByteArray) : Nat := nval s.data.toList
def numB (n : Nat) (s : ByteArray) (bad : Bool) : Nat × ByteArray × Bool := (nvalB (takeB n s bad).1, (takeB n s bad).2)
theorem takeB_size (n : Nat) (s : ByteArray) (bad : Bool) : (takeB n s bad).1.size ≤ n := by
  unfold takeB
  split
  · exact Nat.zero_le _
  · simp only [ByteArray.size_extract]; omega
theorem foldl_take (l : List UInt8) (i : Nat) (h : i < l.length) : nval (l.take (i + 1)) = nval (l.take i) * 256 + l[i].toNat := by
  rw [List.take_succ_eq_append_getElem h]
  unfold nval
  rw [List.foldl_append]
  rfl
theorem nval_lt : ∀ (l : List UInt8) (n : Nat), l.length ≤ n → nval l < 256 ^ n := by
  intro l n h
  have h1 : ∀ (l : List UInt8) (v : Nat), l.foldl (fun v b => v * 256 + b.toNat) v < (v + 1) * 256 ^ l.length := by
    intro l
    induction l with
    | nil => intro v; simp
    | cons b l ih =>
      intro v
      rw [List.foldl_cons, List.length_cons]
      refine Nat.lt_of_lt_of_le (ih _) ?_
      rw [Nat.pow_succ, Nat.mul_comm (256 ^ l.length) 256, ← Nat.mul_assoc]
      exact Nat.mul_le_mul_right _ (by have := b.toNat_lt; omega)
  have h2 := h1 l 0
  unfold nval
  refine Nat.lt_of_lt_of_le h2 ?_
  rw [Nat.zero_add, Nat.one_mul]
  exact Nat.pow_le_pow_right (by decide) h
theorem nval_take_le (l : List UInt8) (i : Nat) (h : l.length ≤ 2) (hi : i ≤ l.length) : nval (l.take i) < 65536 := nval_lt _ 2 (by simp; omega)
theorem or8 (v x : Nat) (hv : v < 281474976710656) (hx : x < 256) : bits .or .i64 (wrap64 ((v : Int) * 256)) (wrap64 (x : Int)) = ((v * 256 + x : Nat) : Int) := by
  have e1 : wrap64 ((v : Int) * 256) = (v : Int) * 256 := by unfold wrap64; omega
  have e2 : wrap64 (x : Int) = (x : Int) := by unfold wrap64; omega
  rw [e1, e2, bits_join .i64 62 (by decide) (fun n h0 h1 => by rw [IntKind.wrap_i64]; omega) 8 _ _ (by omega) (by omega) (by omega) (by omega) (by omega) (by omega)]
  omega
set_option maxHeartbeats 1600000 in
set_option maxRecDepth 100000 in
theorem num_calls (b : Nat) (s : ByteArray) (bad : Bool) (W : World) (F : Nat → Prop) (h : (RdAt b s bad).on W F) (n : Nat) (hn : n ≤ 2) :
    Calls Try.prog 41 #[.pointer (some ⟨b, 0, none⟩), .int .i64 n] W fun e w' => e = .returned (.int .i64 (numB n s bad).1) ∧ Upd W F (RdAt b (numB n s bad).2.1 (numB n s bad).2.2) w' := by
  have C := take_calls b s bad W F h n (by omega)
  have hs := takeB_size n s bad
  unfold numB
  dsimp only
  generalize (takeB n s bad).1 = t at *
  generalize (takeB n s bad).2 = r at *
  clear h
  go_enter Try.func41, Try.ntmps41
  go_wp2_with (go_at_call 51; refine C.mono ?_; rintro e w1 ⟨rfl, hU⟩)
  have HU := Aside0.mk hU
  have HS := Aside0.mk hs
  clear C hU hs
  go_loopg [5, 13] t.size (fun k s5 s13 wr => ∃ i : Nat, s13 = .int .i64 i ∧ i + k = t.size ∧ s5 = .int .i64 (nval (t.data.toList.take i)) ∧ wr = w1)
  case atStart => exact ⟨0, rfl, by omega, rfl, rfl⟩
  case round =>
    obtain ⟨i, rfl, h1, rfl, rfl⟩ := hrel
    by_cases hi : i < t.size
    · have p1 : ((i : Int) < (t.size : Int)) = True := eq_true (by omega)
      have p0 : (0 ≤ (i : Int)) = True := eq_true (by omega)
      go_wp2
      have e := or8 (nval (t.data.toList.take i)) t[i].toNat (Nat.lt_of_lt_of_le (nval_take_le t.data.toList i (by rw [← size_data]; have := HS.out; omega) (by rw [← size_data]; omega)) (by decide)) t[i].toNat_lt
      have e2 : nval (t.data.toList.take i) * 256 + t[i].toNat = nval (t.data.toList.take (i + 1)) := by
        rw [foldl_take _ i (by rw [← size_data]; omega)]
        rfl
      rw [e2] at e
      rw [e]
      clear e e2
      go_roundg (gk - 1)
      case measure => omega
      case rel => exact ⟨i + 1, by have := HS.out; rw [show wrap64 ((i : Int) + 1) = ((i + 1 : Nat) : Int) from by unfold wrap64; omega], by omega, rfl, rfl⟩
    · have p1 : ((i : Int) < (t.size : Int)) = False := eq_false (by omega)
      have he : t.data.toList.take i = t.data.toList := List.take_of_length_le (by rw [← size_data]; omega)
      rw [he]
      clear he
      go_wp2
      go_ret
      exact ⟨rfl, HU.out⟩
/-- What a cell's reading tells, and leaves. -/
def cellB (s : ByteArray) (bad : Bool) : B × ByteArray × Bool :=
  let a := numB 1 s bad; let k := takeB a.1 a.2.1 a.2.2; let kd := numB 1 k.2.1 k.2.2; let n := numB 2 kd.2.1 kd.2.2
  if kd.1 = 0 then let v := takeB n.1 n.2.1 n.2.2; (⟨k.1, v.1, 0, 0⟩, v.2) else let b := numB 2 n.2.1 n.2.2; (⟨k.1, ⟨#[]⟩, b.1, n.1⟩, b.2)
theorem numB_lt (n : Nat) (hn : n ≤ 2) (s : ByteArray) (bad : Bool) : (numB n s bad).1 < 65536 := nval_lt _ 2 (by rw [← size_data]; have := takeB_size n s bad; omega)
/-- The reader, alone in its block. -/
def Rd8 (w : World) (b : Nat) (s : ByteArray) (bad : Bool) : Prop := w.heap[b]? = some (.cells #[.string s, .bool bad] 79 (0, 0))
theorem Rd8.lt {w : World} {b : Nat} {s : ByteArray} {bad : Bool} (h : Rd8 w b s bad) : b < w.heap.size := (Array.getElem?_eq_some_iff.1 h).1
theorem Rd8.on {w : World} {b : Nat} {s : ByteArray} {bad : Bool} (h : Rd8 w b s bad) : (RdAt b s bad).on w (fun k => k = b) := ⟨h, rfl, by rintro k rfl; exact h.lt⟩
theorem Rd8.of {W w : World} {b : Nat} {s : ByteArray} {bad : Bool} (h : Upd W (fun k => k = b) (RdAt b s bad) w) : Rd8 w b s bad ∧ Eff (fun k => k = b) W w := by
  obtain ⟨F, h1, e, _⟩ := h
  exact ⟨h1.1, e⟩
theorem take8 (b : Nat) (s : ByteArray) (bad : Bool) (W : World) (h : Rd8 W b s bad) (n : Nat) (hn : n < 4294967296) :
    Calls Try.prog 51 #[.pointer (some ⟨b, 0, none⟩), .int .i64 n] W fun e w' => e = .returned (.string (takeB n s bad).1) ∧ Rd8 w' b (takeB n s bad).2.1 (takeB n s bad).2.2 ∧ Eff (fun k => k = b) W w' :=
  (take_calls b s bad W _ h.on n hn).mono fun e w' ⟨he, hu⟩ => ⟨he, Rd8.of hu⟩
theorem num8 (b : Nat) (s : ByteArray) (bad : Bool) (W : World) (h : Rd8 W b s bad) (n : Nat) (hn : n ≤ 2) :
    Calls Try.prog 41 #[.pointer (some ⟨b, 0, none⟩), .int .i64 n] W fun e w' => e = .returned (.int .i64 (numB n s bad).1) ∧ Rd8 w' b (numB n s bad).2.1 (numB n s bad).2.2 ∧ Eff (fun k => k = b) W w' :=
  (num_calls b s bad W _ h.on n hn).mono fun e w' ⟨he, hu⟩ => ⟨he, Rd8.of hu⟩
end Go.Proofs.Ytcmepoakcffpaaa.CP
namespace Go.Proofs.Ytcmepoakcffpaaa.CP
open Go Go.RowKit Go.Proofs.YtcmepoakcffpaaaW.PrintWords Go.Proofs.YtcmepoakcffpaaaW.PrintLast Go.Proofs.YtcmepoakcffpaaaW.PrintMore Go.Proofs.Ytcmepoakcffpaaa.CR Go.Proofs.Ytcmepoakcffpaaa.L
set_option linter.unusedVariables false
set_option linter.unusedSimpArgs false
theorem Rd8.eff {w w1 : World} {b : Nat} {s : ByteArray} {bad : Bool} (h : Rd8 w b s bad) (e : Eff0 w w1) : Rd8 w1 b s bad := (e.block b h.lt id).trans h
/-- What lies beside the reader. -/
def Fr (b : Nat) (bs : List (Nat × Obj)) (w : World) : Prop := ∀ p ∈ bs, p.1 ≠ b ∧ w.heap[p.1]? = some p.2
theorem Fr.eff {b : Nat} {bs : List (Nat × Obj)} {w w1 : World} (h : Fr b bs w) (e : Eff (fun k => k = b) w w1) : Fr b bs w1 := fun p hp => ⟨(h p hp).1, (e.block p.1 (Array.getElem?_eq_some_iff.1 (h p hp).2).1 (h p hp).1).trans (h p hp).2⟩
theorem Fr.nil (b : Nat) (w : World) : Fr b [] w := fun _ h => by cases h
theorem Fr.new {b : Nat} {bs : List (Nat × Obj)} {w w1 : World} {i : Nat} {o : Obj} (h : Fr b bs w) (e : Eff0 w w1) (hi : i ≠ b) (ho : w1.heap[i]? = some o) : Fr b ((i, o) :: bs) w1 := by
  intro p hp
  rcases List.mem_cons.mp hp with rfl | hp
  · exact ⟨hi, ho⟩
  · exact h.eff (e.any _) p hp
/-- The reader as it stands, what was done since, and what lies beside. -/
def St (W : World) (b : Nat) (r : ByteArray × Bool) (bs : List (Nat × Obj)) (w : World) : Prop := Rd8 w b r.1 r.2 ∧ Eff (fun k => k = b) W w ∧ Fr b bs w
theorem St.num {W : World} {b : Nat} {r : ByteArray × Bool} {bs : List (Nat × Obj)} {w : World} (h : Aside0 (St W b r bs w)) (n : Nat) (hn : n ≤ 2) :
    Calls Try.prog 41 #[.pointer (some ⟨b, 0, none⟩), .int .i64 n] w fun e w' => e = .returned (.int .i64 (numB n r.1 r.2).1) ∧ Aside0 (St W b (numB n r.1 r.2).2 bs w') :=
  (num8 b r.1 r.2 w h.out.1 n hn).mono fun e w' ⟨he, h1, e1⟩ => ⟨he, Aside0.mk ⟨h1, h.out.2.1.trans e1 (fun _ h => .inl h), h.out.2.2.eff e1⟩⟩
theorem St.take {W : World} {b : Nat} {r : ByteArray × Bool} {bs : List (Nat × Obj)} {w : World} (h : Aside0 (St W b r bs w)) (n : Nat) (hn : n < 65536) :
    Calls Try.prog 51 #[.pointer (some ⟨b, 0, none⟩), .int .i64 n] w fun e w' => e = .returned (.string (takeB n r.1 r.2).1) ∧ Aside0 (St W b (takeB n r.1 r.2).2 bs w') :=
  (take8 b r.1 r.2 w h.out.1 n (by omega)).mono fun e w' ⟨he, h1, e1⟩ => ⟨he, Aside0.mk ⟨h1, h.out.2.1.trans e1 (fun _ h => .inl h), h.out.2.2.eff e1⟩⟩
theorem St.alloc {W : World} {b : Nat} {r : ByteArray × Bool} {bs : List (Nat × Obj)} {w : World} (h : Aside0 (St W b r bs w)) (o : Obj) : Aside0 (St W b r ((w.heap.size, o) :: bs) (w.alloc o)) :=
  Aside0.mk ⟨h.out.1.eff ((Eff.refl _ _).alloc o), h.out.2.1.alloc o, h.out.2.2.new ((Eff.refl _ _).alloc o) (by have := h.out.1.lt; omega) (heap_alloc_new w o)⟩
theorem St.blk {W : World} {b : Nat} {r : ByteArray × Bool} {bs : List (Nat × Obj)} {w : World} (h : Aside0 (St W b r bs w)) {i : Nat} {cs : Array Value} {t : Nat} (hm : (i, Obj.cells cs t (0, 0)) ∈ bs) : (∀ j, w.cell? ⟨i, j, none⟩ = cs[j]?) ∧ ∀ j, w.frozen? ⟨i, j, none⟩ = false :=
  ⟨fun j => blk_cell (h.out.2.2 _ hm).2 j, fun j => blk_frozen (h.out.2.2 _ hm).2 j⟩
theorem St.start {W : World} {b : Nat} {s : ByteArray} {bad : Bool} (h : Rd8 W b s bad) : Aside0 (St W b (s, bad) [] W) := Aside0.mk ⟨h, Eff.refl _ _, Fr.nil _ _⟩
theorem rd_set {W w : World} {b : Nat} {s : ByteArray} {bad : Bool} (h : Rd8 w b s bad ∧ Eff (fun k => k = b) W w) {p : Addr} (hb : b ≠ p.block) (hp : W.heap.size ≤ p.block) (u : Value) : Rd8 (w.setCell p u) b s bad ∧ Eff (fun k => k = b) W (w.setCell p u) :=
  ⟨blk_far h.1 hb u, h.2.set p u (.inr hp)⟩
/-- How the cell's reading ends: the cell is stored where the result lies. -/
theorem cell_end {W w : World} {b A : Nat} {r : ByteArray × Bool} {bs : List (Nat × Obj)} {z0 z1 z2 z3 : Value} (h : Aside0 (St W b r bs w)) (hA : w.heap[A]? = some (.cells #[z0, z1, z2, z3] 25 (0, 0))) (hAW : W.heap.size ≤ A) (hb : b < W.heap.size) {B1 : Nat} (hBW : W.heap.size ≤ B1) (hne : B1 ≠ A) (sts : List (Nat × Value)) (q : B) :
    let w1 := sts.foldl (fun w p => w.setCell ⟨B1, p.1, none⟩ p.2) w
    let w2 := (((w1.setCell ⟨A, 0, none⟩ (.string q.k)).setCell ⟨A, 1, none⟩ (.string q.v)).setCell ⟨A, 2, none⟩ (.int .i64 q.bl)).setCell ⟨A, 3, none⟩ (.int .i64 q.sz)
    w2.heap[A]? = some (.cells #[.string q.k, .string q.v, .int .i64 q.bl, .int .i64 q.sz] 25 (0, 0)) ∧ Rd8 w2 b r.1 r.2 ∧ Eff (fun k => k = b) W w2 := by
  have step : ∀ (sts : List (Nat × Value)) (w : World), (Rd8 w b r.1 r.2 ∧ Eff (fun k => k = b) W w) → w.heap[A]? = some (.cells #[z0, z1, z2, z3] 25 (0, 0)) → (Rd8 (sts.foldl (fun w p => w.setCell ⟨B1, p.1, none⟩ p.2) w) b r.1 r.2 ∧ Eff (fun k => k = b) W (sts.foldl (fun w p => w.setCell ⟨B1, p.1, none⟩ p.2) w)) ∧ (sts.foldl (fun w p => w.setCell ⟨B1, p.1, none⟩ p.2) w).heap[A]? = some (.cells #[z0, z1, z2, z3] 25 (0, 0)) := by
    intro sts
    induction sts with
    | nil => exact fun w h1 h2 => ⟨h1, h2⟩
    | cons p sts ih => exact fun w h1 h2 => ih _ (rd_set h1 (p := ⟨B1, p.1, none⟩) (by show b ≠ B1; omega) hBW p.2) (blk_far h2 (p := ⟨B1, p.1, none⟩) (by show A ≠ B1; omega) p.2)
  obtain ⟨h1, h2⟩ := step sts w ⟨h.out.1, h.out.2.1⟩ hA
  have hbA : b ≠ A := by omega
  exact ⟨blk_set (blk_set (blk_set (blk_set h2 0 _) 1 _) 2 _) 3 _, rd_set (rd_set (rd_set (rd_set h1 hbA hAW _) hbA hAW _) hbA hAW _) hbA hAW _⟩
set_option maxHeartbeats 1600000 in
set_option maxRecDepth 100000 in
theorem cell_calls (b : Nat) (s : ByteArray) (bad : Bool) (W : World) (h : Rd8 W b s bad) :
    Calls Try.prog 42 #[.pointer (some ⟨b, 0, none⟩)] W fun e w' => e = .returned (cellB s bad).1.val ∧ Rd8 w' b (cellB s bad).2.1 (cellB s bad).2.2 ∧ Eff (fun k => k = b) W w' := by
  unfold cellB
  dsimp only
  have l1 := numB_lt 1 (by omega) s bad
  have D1 := fun w1 bs (h1 : Aside0 (St W b (s, bad) bs w1)) => St.num h1 1 (by omega)
  have A0 := St.start h
  have hb0 := h.lt
  dsimp only at D1
  generalize numB 1 s bad = a at *
  have D2 := fun w1 bs (h1 : Aside0 (St W b a.2 bs w1)) => St.take h1 a.1 (by omega)
  generalize takeB a.1 a.2.1 a.2.2 = k at *
  have l2 := numB_lt 1 (by omega) k.2.1 k.2.2
  have D3 := fun w1 bs (h1 : Aside0 (St W b k.2 bs w1)) => St.num h1 1 (by omega)
  generalize numB 1 k.2.1 k.2.2 = kd at *
  have l3 := numB_lt 2 (by omega) kd.2.1 kd.2.2
  have D4 := fun w1 bs (h1 : Aside0 (St W b kd.2 bs w1)) => St.num h1 2 (by omega)
  generalize numB 2 kd.2.1 kd.2.2 = n at *
  clear h
  by_cases h5 : kd.1 = 0
  · rw [if_pos h5]
    have D5 := fun w1 bs (h1 : Aside0 (St W b n.2 bs w1)) => St.take h1 n.1 (by omega)
    generalize takeB n.1 n.2.1 n.2.2 = v at *
    have p5 : ((kd.1 : Int) == 0) = true := by rw [h5]; rfl
    clear h5
    go_enter Try.func42, Try.ntmps42
    go_wp2_with (first
      | (go_at_call 41; refine (D1 _ _ (St.alloc A0 _)).mono ?_; rintro e w1 ⟨rfl, A1⟩; clear A0 D1)
      | (go_at_call 51; refine (D2 _ _ A1).mono ?_; rintro e w2 ⟨rfl, A2⟩; clear A1 D2)
      | (go_at_call 41; refine (D3 _ _ (St.alloc A2 _)).mono ?_; rintro e w3 ⟨rfl, A3⟩; clear D3)
      | (go_at_call 41; refine (D4 _ _ A3).mono ?_; rintro e w4 ⟨rfl, A4⟩; clear A3 D4)
      | (go_at_call 51; refine (D5 _ _ A4).mono ?_; rintro e w5 ⟨rfl, A5⟩; clear A4 D5; obtain ⟨g, f⟩ := St.blk A5 (List.mem_cons_self ..); obtain ⟨g', f'⟩ := St.blk A5 (List.mem_cons_of_mem _ (List.mem_cons_self ..)); have g0 := g 0; have g1 := g 1; have g2 := g 2; have g3 := g 3; have f0 := f 0; have f1 := f 1; have f2 := f 2; have f3 := f 3; have g10 := g' 0; have g11 := g' 1; have g12 := g' 2; have g13 := g' 3; have f10 := f' 0; have f11 := f' 1; have f12 := f' 2; have f13 := f' 3; have hne : w2.heap.size ≠ W.heap.size := (by have h77 : W.heap.size < w2.heap.size := blk_lt (A2.out.2.2 _ (List.mem_cons_self ..)).2; omega); clear g g' f f'))
    obtain ⟨hg, hrd⟩ := cell_end A5 (A5.out.2.2 _ (List.mem_cons_of_mem _ (List.mem_cons_self ..))).2 (Nat.le_refl _) hb0 (by have h77 : W.heap.size < w2.heap.size := blk_lt (A2.out.2.2 _ (List.mem_cons_self ..)).2; omega) hne [(1, .string v.1)] ⟨k.1, v.1, 0, 0⟩
    refine bodyPost_ret (results_cell_row rfl _ _ W.heap.size 25 _ (0, 0) _ rfl hg Try.underlying25 rfl (by kernel_rfl)) rfl ?_
    exact ⟨rfl, hrd⟩
  · rw [if_neg h5]
    have D5 := fun w1 bs (h1 : Aside0 (St W b n.2 bs w1)) => St.num h1 2 (by omega)
    generalize numB 2 n.2.1 n.2.2 = v at *
    have p5 : ((kd.1 : Int) == 0) = false := beq_eq_false_iff_ne.mpr (by omega)
    clear h5
    go_enter Try.func42, Try.ntmps42
    go_wp2_with (first
      | (go_at_call 41; refine (D1 _ _ (St.alloc A0 _)).mono ?_; rintro e w1 ⟨rfl, A1⟩; clear A0 D1)
      | (go_at_call 51; refine (D2 _ _ A1).mono ?_; rintro e w2 ⟨rfl, A2⟩; clear A1 D2)
      | (go_at_call 41; refine (D3 _ _ (St.alloc A2 _)).mono ?_; rintro e w3 ⟨rfl, A3⟩; clear D3)
      | (go_at_call 41; refine (D4 _ _ A3).mono ?_; rintro e w4 ⟨rfl, A4⟩; clear A3 D4)
      | (go_at_call 41; refine (D5 _ _ A4).mono ?_; rintro e w5 ⟨rfl, A5⟩; clear A4 D5; obtain ⟨g, f⟩ := St.blk A5 (List.mem_cons_self ..); obtain ⟨g', f'⟩ := St.blk A5 (List.mem_cons_of_mem _ (List.mem_cons_self ..)); have g0 := g 0; have g1 := g 1; have g2 := g 2; have g3 := g 3; have f0 := f 0; have f1 := f 1; have f2 := f 2; have f3 := f 3; have g10 := g' 0; have g11 := g' 1; have g12 := g' 2; have g13 := g' 3; have f10 := f' 0; have f11 := f' 1; have f12 := f' 2; have f13 := f' 3; have hne : w2.heap.size ≠ W.heap.size := (by have h77 : W.heap.size < w2.heap.size := blk_lt (A2.out.2.2 _ (List.mem_cons_self ..)).2; omega); clear g g' f f'))
    obtain ⟨hg, hrd⟩ := cell_end A5 (A5.out.2.2 _ (List.mem_cons_of_mem _ (List.mem_cons_self ..))).2 (Nat.le_refl _) hb0 (by have h77 : W.heap.size < w2.heap.size := blk_lt (A2.out.2.2 _ (List.mem_cons_self ..)).2; omega) hne [(3, .int .i64 n.1), (2, .int .i64 v.1)] ⟨k.1, ⟨#[]⟩, v.1, n.1⟩
    refine bodyPost_ret (results_cell_row rfl _ _ W.heap.size 25 _ (0, 0) _ rfl hg Try.underlying25 rfl (by kernel_rfl)) rfl ?_
    exact ⟨rfl, hrd⟩
end Go.Proofs.Ytcmepoakcffpaaa.CP
namespace Go.Proofs.Ytcmepoakcffpaaa.CP
open Go Go.RowKit Go.Proofs.YtcmepoakcffpaaaW.PrintWords Go.Proofs.YtcmepoakcffpaaaW.PrintLast Go.Proofs.YtcmepoakcffpaaaW.PrintMore Go.Proofs.Ytcmepoakcffpaaa.CR Go.Proofs.Ytcmepoakcffpaaa.L
set_option linter.unusedVariables false
set_option linter.unusedSimpArgs false
/-- Rising, one more behind. -/
def okNext (l : List Cl) (c : Cl) : Bool := match l.getLast? with | none => true | some d => decide (d.k < c.k)
theorem rises_snoc : ∀ (l : List Cl) (c : Cl), rises (l ++ [c]) = (rises l && (right c && okNext l c))
  | [], c => by simp [rises, okNext]
  | [d], c => by simp [rises, okNext]; rw [Bool.and_assoc, Bool.and_comm (right c)]
  | d :: e :: l, c => by
    have ih := rises_snoc (e :: l) c
    have h1 : okNext (d :: e :: l) c = okNext (e :: l) c := by simp [okNext]
    rw [h1]
    show rises (d :: e :: (l ++ [c])) = _
    rw [rises, show e :: (l ++ [c]) = (e :: l) ++ [c] from rfl, ih, rises]
    simp [Bool.and_assoc]
theorem rises_take (l : List Cl) (i : Nat) (h : i < l.length) : rises (l.take (i + 1)) = (rises (l.take i) && (right l[i] && okNext (l.take i) l[i])) := by
  rw [List.take_succ_eq_append_getElem h, rises_snoc]
theorem rises_pre : ∀ (n : Nat) (l : List Cl), rises l = true → rises (l.take n) = true := by
  intro n l h
  refine rises_of (fun c hc => rises_right h c (List.mem_of_mem_take hc)) ?_
  rw [List.map_take]
  exact (rises_nodup h).sublist (List.take_sublist _ _)
theorem rises_false {l : List Cl} {n : Nat} (h : rises (l.take n) = false) : rises l = false := by
  cases hr : rises l with
  | false => rfl
  | true => rw [rises_pre n l hr] at h; cases h
def putF (l : List Cl) : ByteArray × Bool := match put l with | some b => (⟨b.toArray⟩, true) | none => (⟨#[]⟩, false)
theorem putF_none {l : List Cl} (h : rises l = false) : putF l = (⟨#[]⟩, false) := by simp [putF, put, h]
theorem encs_length : ∀ {l : List Cl}, (∀ c ∈ l, right c = true) → (encs l).length = total l
  | [], _ => rfl
  | c :: l, h => by
    have e2 : total (c :: l) = csize c + total l := by simp [total]
    have e3 : encs (c :: l) = enc c ++ encs l := by simp [encs]
    rw [e3, e2, List.length_append, encs_length (fun d hd => h d (by simp [hd])), enc_length (h c (by simp))]
theorem csize_le {c : Cl} (h : right c = true) : csize c ≤ 60 := by
  simp only [right, decide_eq_true_eq] at h
  unfold csize
  obtain ⟨_, h2, h3⟩ := h
  split <;> simp_all <;> omega
theorem total_le : ∀ {l : List Cl}, (∀ c ∈ l, right c = true) → total l ≤ 60 * l.length
  | [], _ => by simp [total]
  | c :: l, h => by
    have e2 : total (c :: l) = csize c + total l := by simp [total]
    have h1 := csize_le (h c (by simp))
    have h2 := total_le (l := l) (fun d hd => h d (by simp [hd]))
    rw [e2, List.length_cons]
    omega
/-- What was written when i cells were gone through. -/
def acc (l : List Cl) (i : Nat) : List UInt8 := UInt8.ofNat l.length :: encs (l.take i)
theorem acc_length {l : List Cl} {i : Nat} (h : rises (l.take i) = true) (hl : l.length ≤ 240) : (acc l i).length ≤ 14401 := by
  have h1 := encs_length (rises_right h)
  have h2 := total_le (rises_right h)
  have h3 : (l.take i).length ≤ 240 := by rw [List.length_take]; omega
  simp only [acc, List.length_cons]
  omega
theorem acc_next (l : List Cl) (i : Nat) (h : i < l.length) : acc l (i + 1) = acc l i ++ enc l[i] := by
  unfold acc encs
  rw [List.take_succ_eq_append_getElem h, List.flatMap_append, List.flatMap_singleton]
  rfl
theorem byteCells_str (s : List UInt8) : Lib.strCells ⟨s.toArray⟩ = Lib.byteCells s := by
  rfl
theorem BuiltAt.below {b : Nat} {p : Value} {bs : List Value} {w w1 : World} (h : Lib.BuilderAtF 84 5 b b p bs w) (e : Eff0 w w1) : Lib.BuilderAtF 84 5 b b p bs w1 := by
  obtain ⟨hB, v, hb, ho, hne⟩ := h
  have hlt : b < w.heap.size := (Array.getElem?_eq_some_iff.1 hb).1
  exact ⟨hB, v, (e.block b hlt id).trans hb, ho.kept (row := none) ⟨e.os, e.tape, e.output, e.size, fun k hk _ => e.block k hk id⟩ (by cases v.ownBlock <;> simp), hne⟩
theorem Built.below {b : Nat} {bs : List Value} {w w1 : World} (h : Built b bs w) (e : Eff0 w w1) : Built b bs w1 := h.imp (fun h => BuiltAt.below h e) (fun h => BuiltAt.below h e)
theorem repeat_zeros (c : Nat) : Lib.repeatL (⟨#[0]⟩ : ByteArray).data.toList c = List.replicate c 0 := by
  induction c with
  | zero => rfl
  | succ n ih =>
    show 0 :: Lib.repeatL (⟨#[0]⟩ : ByteArray).data.toList n = _
    rw [ih]
    rfl
/-- What Put has done so far. -/
def PutS (w : World) (l : List Cl) (i : Nat) (wr : World) : Prop := Built w.heap.size (Lib.byteCells (acc l i)) wr ∧ Below w.heap.size w wr
theorem PutS.eff {w wr w1 : World} {l : List Cl} {i : Nat} (h : PutS w l i wr) (e : Eff0 wr w1) : PutS w l i w1 := ⟨h.1.below e, below_eff h.2 (Nat.le_refl _) e (fun _ h => h.elim)⟩
set_option maxHeartbeats 1600000 in
set_option maxRecDepth 100000 in
theorem put_many (w : World) (A : Option Addr) (c : Nat) (l : List B) (hr : Kd.C kdB w A l.length l) :
    Calls Try.prog 40 #[.slice A l.length c] w fun e w' => e = .returned (.tuple #[.string (putF (l.map B.cl)).1, .bool (putF (l.map B.cl)).2]) ∧ Eff0 w w' := by
  by_cases h240 : l.length ≤ 240
  · have p1 : ((l.length : Int) > 240) = False := eq_false (by omega)
    have hwrap : IntKind.u8.wrap (l.length : Int) = (((UInt8.ofNat l.length).toNat : Nat) : Int) := by
      have : (UInt8.ofNat l.length).toNat = l.length % 256 := by simp
      rw [IntKind.wrap_u8, this]
      omega
    have H := Aside0.mk hr
    have W0 : ∀ o : Obj, w.heap.size ≤ (w.alloc o).heap.size := fun o => by simp
    have CB := writeByte_calls w.heap.size [] ((((UInt8.ofNat l.length).toNat : Nat) : Int)) (w.alloc (.cells #[.pointer none, .slice none 0 0] 84)) (Lib.IsBuilderF.of (Lib.fresh_isBuilder 84 5 w)) (by simp)
    have hl : (l.map B.cl).length = l.length := by simp
    have ha : Lib.byteCells (acc (l.map B.cl) 0) = [] ++ [.int .u8 ((((UInt8.ofNat l.length).toNat : Nat) : Int))] := by simp [acc, encs, Lib.byteCells]
    have A1 : ∀ w1, BuiltAt w.heap.size ([] ++ [.int .u8 ((((UInt8.ofNat l.length).toNat : Nat) : Int))]) w1 ∧ Below w.heap.size (w.alloc (.cells #[.pointer none, .slice none 0 0] 84)) w1 → Aside0 (PutS w (l.map B.cl) 0 w1) := by
      rintro w1 ⟨h1, h2⟩
      refine Aside0.mk ⟨?_, (below_alloc (Below.refl _ _) _).trans h2⟩
      rw [ha]
      exact .inr h1
    clear hr ha
    go_enter Try.func40, Try.ntmps40
    go_wp2_with (first | (go_at_call 45; go_loud (refine CB.mono ?_; rintro e w1 ⟨rfl, hU⟩; have S0 := A1 _ hU; clear hU A1 CB)))
    go_loopg [16] l.length (fun k s16 wr => ∃ i : Nat, s16 = .int .i64 i ∧ i + k = l.length ∧ Aside0 (rises ((l.map B.cl).take i) = true ∧ PutS w (l.map B.cl) i wr))
    case atStart => exact ⟨0, rfl, by omega, Aside0.mk ⟨by simp [rises], S0.out⟩⟩
    case round =>
      clear S0 W0
      obtain ⟨i, rfl, h1, A1⟩ := hrel
      by_cases hi : i < l.length
      · have p2 : ((i : Int) < (l.length : Int)) = True := eq_true (by omega)
        have p0 : (0 ≤ (i : Int)) = True := eq_true (by omega)
        obtain ⟨ad, ea, x0, x1, x2, x3⟩ := at_B (Kd.C_below H.out A1.out.2.2) i hi
        subst ea
        obtain ⟨q, hq⟩ : ∃ q, q = l.getD i default := ⟨_, rfl⟩
        rw [← hq] at x0 x1 x2 x3
        have A2 := Aside0.mk hq
        clear hq
        have A3 : Aside0 (∀ hi2 : i < (l.map B.cl).length, (l.map B.cl)[i] = q.cl) := Aside0.mk (by intro hi2; rw [List.getElem_map]; congr 1; rw [A2.out]; simp [List.getD, hi])
        have b0 := blk_cell (heap_alloc_new wr (.cells #[.string q.k, .string q.v, .int .i64 q.bl, .int .i64 q.sz] 25 (0, 0))) 0
        have b1 := blk_cell (heap_alloc_new wr (.cells #[.string q.k, .string q.v, .int .i64 q.bl, .int .i64 q.sz] 25 (0, 0))) 1
        have b2 := blk_cell (heap_alloc_new wr (.cells #[.string q.k, .string q.v, .int .i64 q.bl, .int .i64 q.sz] 25 (0, 0))) 2
        have b3 := blk_cell (heap_alloc_new wr (.cells #[.string q.k, .string q.v, .int .i64 q.bl, .int .i64 q.sz] 25 (0, 0))) 3
        have hbx : wr.heap.size < (wr.alloc (.cells #[.string q.k, .string q.v, .int .i64 q.bl, .int .i64 q.sz] 25 (0, 0))).heap.size := by simp
        have e0 : Aside0 (Eff0 wr (wr.alloc (.cells #[.string q.k, .string q.v, .int .i64 q.bl, .int .i64 q.sz] 25 (0, 0)))) := Aside0.mk ((Eff.refl _ _).alloc _)
        cases hR : right q.cl with
        | false =>
          have C : ∀ W : World, Calls Try.prog 24 #[.agg #[.string q.k, .string q.v, .int .i64 q.bl, .int .i64 q.sz]] W fun e w' => e = .returned (.bool false) ∧ Eff0 W w' := fun W => by rw [← hR]; exact right_calls W q
          go_wp2
          generalize wr.alloc (.cells #[.string q.k, .string q.v, .int .i64 q.bl, .int .i64 q.sz] 25 (0, 0)) = wq at *
          have B0 := Since.cell hbx b0
          have B1 := Since.cell hbx b1
          have B2 := Since.cell hbx b2
          have B3 := Since.cell hbx b3
          refine wp_region_since (by kernel_rfl) (by kernel_rfl) ?_
          quiet_step (fail)
          quiet_step ((go_at_call 24; exact Calls.since (C _)))
          quiet_step (fail)
          quiet_step (fail)
          iterate 13 (with_reducible refine wpQuiet_skip (by kernel_rfl) (by (simp only [Act.put, List.setIfInBounds_toArray, List.set_cons_zero, List.set_cons_succ]; rfl)) ?_)
          quiet_step (fail)
          refine wpQuiet_nil ?_
          intro _ hw'
          obtain ⟨p, rfl⟩ := hw'
          have hp : putF (l.map B.cl) = (⟨#[]⟩, false) := putF_none (rises_false (n := i + 1) (by rw [rises_take _ i (by rw [hl]; exact hi), A3.out (by rw [hl]; exact hi)]; rw [hR]; simp))
          have HP := Aside0.mk hp
          clear hp
          go_wp2
          go_ret2
          exact ⟨by rw [HP.out]; rfl, (Eff.of_below A1.out.2.2).then0 (e0.out.then0 p.eff)⟩
        | true =>
          have C : ∀ W : World, Calls Try.prog 24 #[.agg #[.string q.k, .string q.v, .int .i64 q.bl, .int .i64 q.sz]] W fun e w' => e = .returned (.bool true) ∧ Eff0 W w' := fun W => by rw [← hR]; exact right_calls W q
          by_cases hz : i = 0
          · have pz1 : ((i : Int) > 0) = False := eq_false (by omega)
            have pz2 : (0 < i) = False := eq_false (by omega)
            have A4 := Aside0.mk hz
            clear hz
            go_wp2
            generalize wr.alloc (.cells #[.string q.k, .string q.v, .int .i64 q.bl, .int .i64 q.sz] 25 (0, 0)) = wq at *
            have B0 := Since.cell hbx b0
            have B1 := Since.cell hbx b1
            have B2 := Since.cell hbx b2
            have B3 := Since.cell hbx b3
            refine wp_region_since (by kernel_rfl) (by kernel_rfl) ?_
            quiet_step (fail)
            quiet_step ((go_at_call 24; exact Calls.since (C _)))
            quiet_step (fail)
            quiet_step (fail)
            iterate 3 ((with_reducible refine wpQuiet_go (by kernel_rfl) (fun K hK => ?_)); go_simp; (with_reducible refine hK _ ?_); clear hK K)
            iterate 9 (with_reducible refine wpQuiet_skip (by kernel_rfl) (by (simp only [Act.put, List.setIfInBounds_toArray, List.set_cons_zero, List.set_cons_succ]; rfl)) ?_)
            ((with_reducible refine wpQuiet_go (by kernel_rfl) (fun K hK => ?_)); go_simp; (with_reducible refine hK _ ?_); clear hK K)
            quiet_step (fail)
            refine wpQuiet_nil ?_
            intro _ hw'
            obtain ⟨p, rfl⟩ := hw'
            have hS := A1.out.2.eff (e0.out.then0 p.eff)
            have hA2 : (acc (l.map B.cl) i).length ≤ 14401 := acc_length A1.out.1 (by rw [hl]; exact h240)
            have CP := put_calls p.here q hR
            have CW : ∀ w1, Eff0 p.here w1 → Calls Try.prog 46 #[.pointer (some ⟨w.heap.size, 0, none⟩), .string ⟨(enc q.cl).toArray⟩] w1 fun e w' => (∃ v, e = .returned v) ∧ Aside0 (rises ((l.map B.cl).take (i + 1)) = true ∧ PutS w (l.map B.cl) (i + 1) w') := by
              intro w1 e1
              have hS1 := hS.eff e1
              have hsz : (⟨(enc q.cl).toArray⟩ : ByteArray).size = (enc q.cl).length := size_data _
              have hle : (enc q.cl).length ≤ 60 := by rw [enc_length hR]; exact csize_le hR
              refine (writeString_calls w.heap.size _ ⟨(enc q.cl).toArray⟩ w1 hS1.1 (by rw [Lib.byteCells_length, hsz]; omega)).mono ?_
              rintro e w' ⟨he, hb, hbel⟩
              refine ⟨⟨_, he⟩, Aside0.mk ⟨?_, ?_, hS1.2.trans hbel⟩⟩
              · rw [rises_take _ i (by rw [hl]; exact hi), A3.out (by rw [hl]; exact hi), A1.out.1, hR]
                have hz := A4.out
                subst hz
                simp [okNext]
              · rw [acc_next _ i (by rw [hl]; exact hi), A3.out (by rw [hl]; exact hi), Lib.byteCells_append]
                exact .inr hb
            have g0 := B0 p
            have g1 := B1 p
            have g2 := B2 p
            have g3 := B3 p
            clear hS hA2 B0 B1 B2 B3 C
            go_wp2_with (first
              | (go_at_call 47; refine CP.mono ?_; rintro e w2 ⟨rfl, e2⟩)
              | (go_at_call 46; refine (CW _ (by first | exact e2 | exact e2.drew)).mono ?_; rintro e w3 ⟨⟨v, rfl⟩, A9⟩; clear CW CP))
            go_roundg (gk - 1)
            case measure => omega
            case rel => exact ⟨i + 1, by simp, by omega, A9⟩
          · obtain ⟨d, hd⟩ : ∃ d, d = l.getD (i - 1) default := ⟨_, rfl⟩
            obtain ⟨ad', ea, y0, _⟩ := at_B (Kd.C_below H.out A1.out.2.2) (i - 1) (by omega)
            injection ea with ea
            subst ea
            rw [← hd] at y0
            have A4 : Aside0 (∀ hi2 : i - 1 < (l.map B.cl).length, (l.map B.cl)[i - 1] = d.cl) := Aside0.mk (by intro hi2; rw [List.getElem_map]; congr 1; rw [hd]; simp [List.getD, show i - 1 < l.length by omega])
            have A5 : Aside0 (okNext ((l.map B.cl).take i) q.cl = decide (d.cl.k < q.cl.k)) := Aside0.mk (by
              have e : (l.map B.cl).take i = (l.map B.cl).take (i - 1) ++ [(l.map B.cl)[i - 1]'(by rw [hl]; omega)] := by
                rw [← List.take_succ_eq_append_getElem]
                congr 1
                omega
              rw [e, A4.out]
              simp [okNext])
            clear hd A4
            have hL0 : Op.bytesLess d.k.toList q.k.toList = decide (d.cl.k < q.cl.k) := by rw [bytesLess_eq, Lib.toList_data, Lib.toList_data]; rfl
            cases hL : decide (d.cl.k < q.cl.k) with
            | false =>
              rw [hL] at hL0 A5
              go_wp2
              obtain ⟨jj, hjj⟩ : ∃ jj : Int, (i : Int) = jj := ⟨_, rfl⟩
              obtain ⟨kk, hkk⟩ : ∃ kk : Int, jj - 1 = kk := ⟨_, rfl⟩
              have pg : (jj > 0) = True := eq_true (by omega)
              have pk0 : (0 ≤ kk) = True := eq_true (by omega)
              have pk1 : (kk < (l.length : Int)) = True := eq_true (by omega)
              have ik : i - 1 = kk.toNat := by omega
              rw [ik] at y0
              have hw : IntKind.i64.wrap (jj - 1) = kk := by rw [IntKind.wrap_i64]; omega
              have hw2 : wrap64 (jj - 1) = kk := by unfold wrap64; omega
              generalize wr.alloc (.cells #[.string q.k, .string q.v, .int .i64 q.bl, .int .i64 q.sz] 25 (0, 0)) = wq at *
              have B0 := Since.cell hbx b0
              have B1 := Since.cell hbx b1
              have B2 := Since.cell hbx b2
              have B3 := Since.cell hbx b3
              have yl : (ad.add (kk.toNat * 4)).block < wr.heap.size := World.block_lt_of_cell? wr _ y0
              have y1 : wq.cell? (ad.add (kk.toNat * 4)) = some (.string d.k) := Since.cell yl y0 ⟨wq, e0.out⟩
              have Y := Since.cell (Nat.lt_of_lt_of_le yl e0.out.size) y1
              rw [hjj]
              have A6 := Aside0.mk hjj
              clear hjj hkk ik
              refine wp_region_since (by kernel_rfl) (by kernel_rfl) ?_
              quiet_step (fail)
              quiet_step ((go_at_call 24; exact Calls.since (C _)))
              quiet_step (fail)
              quiet_step (fail)
              iterate 13 ((with_reducible refine wpQuiet_go (by kernel_rfl) (fun K hK => ?_)); go_simp; (with_reducible refine hK _ ?_); clear hK K)
              quiet_step (fail)
              refine wpQuiet_nil ?_
              intro _ hw'
              obtain ⟨p, rfl⟩ := hw'
              obtain rfl := A6.out
              have hp : putF (l.map B.cl) = (⟨#[]⟩, false) := putF_none (rises_false (n := i + 1) (by rw [rises_take _ i (by rw [hl]; exact hi), A3.out (by rw [hl]; exact hi)]; rw [A5.out]; simp))
              have HP := Aside0.mk hp
              clear hp
              go_wp2
              go_ret2
              exact ⟨by rw [HP.out]; rfl, (Eff.of_below A1.out.2.2).then0 (e0.out.then0 p.eff)⟩
            | true =>
              rw [hL] at hL0 A5
              go_wp2
              obtain ⟨jj, hjj⟩ : ∃ jj : Int, (i : Int) = jj := ⟨_, rfl⟩
              obtain ⟨kk, hkk⟩ : ∃ kk : Int, jj - 1 = kk := ⟨_, rfl⟩
              have pg : (jj > 0) = True := eq_true (by omega)
              have pk0 : (0 ≤ kk) = True := eq_true (by omega)
              have pk1 : (kk < (l.length : Int)) = True := eq_true (by omega)
              have ik : i - 1 = kk.toNat := by omega
              rw [ik] at y0
              have hw : IntKind.i64.wrap (jj - 1) = kk := by rw [IntKind.wrap_i64]; omega
              have hw2 : wrap64 (jj - 1) = kk := by unfold wrap64; omega
              generalize wr.alloc (.cells #[.string q.k, .string q.v, .int .i64 q.bl, .int .i64 q.sz] 25 (0, 0)) = wq at *
              have B0 := Since.cell hbx b0
              have B1 := Since.cell hbx b1
              have B2 := Since.cell hbx b2
              have B3 := Since.cell hbx b3
              have yl : (ad.add (kk.toNat * 4)).block < wr.heap.size := World.block_lt_of_cell? wr _ y0
              have y1 : wq.cell? (ad.add (kk.toNat * 4)) = some (.string d.k) := Since.cell yl y0 ⟨wq, e0.out⟩
              have Y := Since.cell (Nat.lt_of_lt_of_le yl e0.out.size) y1
              rw [hjj]
              have A6 := Aside0.mk hjj
              clear hjj hkk ik
              refine wp_region_since (by kernel_rfl) (by kernel_rfl) ?_
              quiet_step (fail)
              quiet_step ((go_at_call 24; exact Calls.since (C _)))
              quiet_step (fail)
              quiet_step (fail)
              iterate 13 ((with_reducible refine wpQuiet_go (by kernel_rfl) (fun K hK => ?_)); go_simp; (with_reducible refine hK _ ?_); clear hK K)
              quiet_step (fail)
              refine wpQuiet_nil ?_
              intro _ hw'
              obtain ⟨p, rfl⟩ := hw'
              obtain rfl := A6.out
              have hS := A1.out.2.eff (e0.out.then0 p.eff)
              have hA2 : (acc (l.map B.cl) i).length ≤ 14401 := acc_length A1.out.1 (by rw [hl]; exact h240)
              have CP := put_calls p.here q hR
              have CW : ∀ w1, Eff0 p.here w1 → Calls Try.prog 46 #[.pointer (some ⟨w.heap.size, 0, none⟩), .string ⟨(enc q.cl).toArray⟩] w1 fun e w' => (∃ v, e = .returned v) ∧ Aside0 (rises ((l.map B.cl).take (i + 1)) = true ∧ PutS w (l.map B.cl) (i + 1) w') := by
                intro w1 e1
                have hS1 := hS.eff e1
                have hsz : (⟨(enc q.cl).toArray⟩ : ByteArray).size = (enc q.cl).length := size_data _
                have hle : (enc q.cl).length ≤ 60 := by rw [enc_length hR]; exact csize_le hR
                refine (writeString_calls w.heap.size _ ⟨(enc q.cl).toArray⟩ w1 hS1.1 (by rw [Lib.byteCells_length, hsz]; omega)).mono ?_
                rintro e w' ⟨he, hb, hbel⟩
                refine ⟨⟨_, he⟩, Aside0.mk ⟨?_, ?_, hS1.2.trans hbel⟩⟩
                · rw [rises_take _ i (by rw [hl]; exact hi), A3.out (by rw [hl]; exact hi), A1.out.1, hR]
                  rw [A5.out]; rfl
                · rw [acc_next _ i (by rw [hl]; exact hi), A3.out (by rw [hl]; exact hi), Lib.byteCells_append]
                  exact .inr hb
              have g0 := B0 p
              have g1 := B1 p
              have g2 := B2 p
              have g3 := B3 p
              clear hS hA2 B0 B1 B2 B3 C
              go_wp2_with (first
                | (go_at_call 47; refine CP.mono ?_; rintro e w2 ⟨rfl, e2⟩)
                | (go_at_call 46; refine (CW _ (by first | exact e2 | exact e2.drew)).mono ?_; rintro e w3 ⟨⟨v, rfl⟩, A9⟩; clear CW CP))
              go_roundg (gk - 1)
              case measure => omega
              case rel => exact ⟨i + 1, by simp, by omega, A9⟩
      · have p2 : ((i : Int) < (l.length : Int)) = False := eq_false (by omega)
        have hin : i = l.length := by omega
        subst hin
        have hr0 : rises (l.map B.cl) = true := by have := A1.out.1; rwa [List.take_of_length_le (by rw [hl]; exact Nat.le_refl _)] at this
        have hN : (acc (l.map B.cl) l.length).length = 1 + total (l.map B.cl) := by
          unfold acc
          rw [List.take_of_length_le (by rw [hl]; exact Nat.le_refl _), List.length_cons, encs_length (rises_right hr0), Nat.add_comm]
        have CL : ∀ w1, Built w.heap.size (Lib.byteCells (acc (l.map B.cl) l.length)) w1 → Calls Try.prog 48 #[.pointer (some ⟨w.heap.size, 0, none⟩)] w1 fun e w' => e = .returned (.int .i64 ((1 + total (l.map B.cl) : Nat))) ∧ w' = w1 := by
          intro w1 h1
          have := Try.Builder_Len_f _ _ _ w1 h1
          rw [Lib.byteCells_length, hN] at this
          exact this
        have S1 := A1.out.2.1
        by_cases hT : 1 + total (l.map B.cl) ≤ 240
        · have p3 : (((1 + total (l.map B.cl) : Nat) : Int) > 240) = False := eq_false (by omega)
          have CS : Calls Try.prog 49 #[.pointer (some ⟨w.heap.size, 0, none⟩)] wr fun e w' => e = .returned (.string ⟨(acc (l.map B.cl) l.length).toArray⟩) ∧ Built w.heap.size (Lib.byteCells (acc (l.map B.cl) l.length)) w' ∧ Aside0 (Below w.heap.size w w') :=
            (Try.Builder_String_any_k _ _ _ wr S1 (Nat.le_of_lt S1.lt)).mono fun e w' ⟨he, h1, h2, _⟩ => ⟨he, h1, Aside0.mk (A1.out.2.2.trans h2)⟩
          have hq : ((239 - total (l.map B.cl) : Nat) : Int) = 240 - ((1 + total (l.map B.cl) : Nat) : Int) := by omega
          have CR : ∀ w1, Calls Try.prog 50 #[.string ⟨#[0]⟩, .int .i64 ((239 - total (l.map B.cl) : Nat))] w1 fun e w' => e = .returned (.string ⟨(List.replicate (239 - total (l.map B.cl)) 0).toArray⟩) ∧ Aside0 (Eff0 w1 w') := by
            intro w1
            have := Try.strings_Repeat ⟨#[0]⟩ (239 - total (l.map B.cl)) w1 (by omega) (by show 1 * _ ≤ _; omega)
            rw [repeat_zeros] at this
            exact this.mono fun e w' ⟨he, h1⟩ => ⟨he, Aside0.mk (Eff.of_below h1)⟩
          have hput : putF (l.map B.cl) = (⟨(acc (l.map B.cl) l.length).toArray⟩ ++ ⟨(List.replicate (239 - total (l.map B.cl)) 0).toArray⟩, true) := by
            unfold putF put
            rw [if_pos ⟨by rw [hl]; exact h240, hr0, hT⟩]
            refine Prod.ext (eq_of_data ?_) rfl
            rw [app_data]
            show _ = acc (l.map B.cl) l.length ++ List.replicate (239 - total (l.map B.cl)) 0
            unfold acc
            rw [List.take_of_length_le (by rw [hl]; exact Nat.le_refl _)]
            rfl
          have hsz : (⟨(acc (l.map B.cl) l.length).toArray⟩ : ByteArray).size + (⟨(List.replicate (239 - total (l.map B.cl)) 0).toArray⟩ : ByteArray).size = 240 := by
            rw [size_data, size_data]
            show (acc (l.map B.cl) l.length).length + (List.replicate (239 - total (l.map B.cl)) (0 : UInt8)).length = 240
            rw [hN, List.length_replicate]
            omega
          have HP := Aside0.mk hput
          clear hput hN
          generalize (⟨(acc (l.map B.cl) l.length).toArray⟩ : ByteArray) = t1 at *
          generalize (⟨(List.replicate (239 - total (l.map B.cl)) 0).toArray⟩ : ByteArray) = t2 at *
          have p5 : (9223372036854775807 < t1.size + t2.size) = False := eq_false (by omega)
          generalize 239 - total (l.map B.cl) = n2 at *
          generalize 1 + total (l.map B.cl) = n1 at *
          have hw : IntKind.i64.wrap (240 - (n1 : Int)) = (n2 : Int) := by rw [IntKind.wrap_i64]; omega
          have hw2 : wrap64 (240 - (n1 : Int)) = (n2 : Int) := by unfold wrap64; omega
          clear hsz hq
          go_wp2_with (first
            | (go_at_call 48; refine (CL _ S1).mono ?_; rintro e w' ⟨rfl, rfl⟩)
            | (go_at_call 49; refine CS.mono ?_; rintro e w2 ⟨rfl, S2, K2⟩)
            | (go_at_call 48; refine (CL _ S2).mono ?_; rintro e w' ⟨rfl, rfl⟩)
            | (go_at_call 50; refine (CR _).mono ?_; rintro e w3 ⟨rfl, K3⟩))
          go_ret2
          exact ⟨by rw [HP.out]; rfl, (Eff.of_below K2.out).then0 K3.out⟩
        · have p3 : (((1 + total (l.map B.cl) : Nat) : Int) > 240) = True := eq_true (by omega)
          have hput : putF (l.map B.cl) = (⟨#[]⟩, false) := by simp [putF, put, hT]
          have HP := Aside0.mk hput
          clear hput hN
          generalize 1 + total (l.map B.cl) = n1 at *
          go_wp2_with (go_at_call 48; refine (CL _ S1).mono ?_; rintro e w' ⟨rfl, rfl⟩)
          go_ret2
          exact ⟨by rw [HP.out]; rfl, Eff.of_below A1.out.2.2⟩
  · have p1 : ((l.length : Int) > 240) = True := eq_true (by omega)
    have hp : putF (l.map B.cl) = (⟨#[]⟩, false) := by simp [putF, put, h240]
    rw [hp]
    clear hr h240
    go_enter Try.func40, Try.ntmps40
    go_wp2
    go_ret2
    exact ⟨rfl, (Eff.refl _ _).alloc _⟩
end Go.Proofs.Ytcmepoakcffpaaa.CP
namespace Go.Proofs.Ytcmepoakcffpaaa.CP
open Go Go.RowKit Go.Proofs.YtcmepoakcffpaaaW.PrintWords Go.Proofs.YtcmepoakcffpaaaW.PrintLast Go.Proofs.YtcmepoakcffpaaaW.PrintMore Go.Proofs.Ytcmepoakcffpaaa.CR Go.Proofs.Ytcmepoakcffpaaa.L
set_option linter.unusedVariables false
set_option linter.unusedSimpArgs false
theorem infoC : (Try.prog.info? 25).map (fun i => (i.zero, i.size, i.bytes)) = some (some (.agg #[.string ⟨#[]⟩, .string ⟨#[]⟩, .int .i64 0, .int .i64 0]), 4, 48) := by kernel_rfl
/-- The first k cells that the reader gives. -/
def readN (r : ByteArray × Bool) : Nat → List B × (ByteArray × Bool)
  | 0 => ([], r)
  | k + 1 => ((readN r k).1 ++ [(cellB (readN r k).2.1 (readN r k).2.2).1], (cellB (readN r k).2.1 (readN r k).2.2).2)
theorem readN_length (r : ByteArray × Bool) : ∀ k, (readN r k).1.length = k
  | 0 => rfl
  | k + 1 => by rw [readN, List.length_append, readN_length r k]; rfl
def readB (s : ByteArray) : List B × (ByteArray × Bool) := readN (numB 1 s false).2 (numB 1 s false).1
def getF (s : ByteArray) : List B × Bool := if (readB s).2.2 = false ∧ putF ((readB s).1.map B.cl) = (s, true) then ((readB s).1, true) else ([], false)
/-- The reader, and the cells that were read. -/
def GetS (w : World) (r : ByteArray × Bool) (v : Value) (xs : List B) (wr : World) : Prop := Rd8 wr w.heap.size r.1 r.2 ∧ kdB.R 25 wr w.heap.size (fun k => k ≠ w.heap.size) v xs ∧ Below w.heap.size w wr
theorem GetS.cell {w : World} {r : ByteArray × Bool} {v : Value} {xs : List B} {wr : World} (h : Aside0 (GetS w r v xs wr)) :
    Calls Try.prog 42 #[.pointer (some ⟨w.heap.size, 0, none⟩)] wr fun e w' => e = .returned (cellB r.1 r.2).1.val ∧ Aside0 (GetS w (cellB r.1 r.2).2 v xs w') :=
  (cell_calls w.heap.size r.1 r.2 wr h.out.1).mono fun e w' ⟨he, h1, e1⟩ => ⟨he, Aside0.mk ⟨h1, Kd.R_step h.out.2.1 (fun k hk hlt => e1.block k hlt hk), below_eff h.out.2.2 (Nat.le_refl _) e1 (by rintro k rfl; exact Nat.le_refl _)⟩⟩
set_option maxHeartbeats 1600000 in
set_option maxRecDepth 100000 in
theorem get_calls (w : World) (s : ByteArray) :
    Calls Try.prog 33 #[.string s] w fun e w' => ∃ v, e = .returned (.tuple #[v, .bool (getF s).2]) ∧ kdB.R 25 w' w.heap.size (fun _ => True) v (getF s).1 ∧ Below w.heap.size w w' := by
  have N1 : ∀ w1, Rd8 w1 w.heap.size s false ∧ Below w.heap.size w w1 → Calls Try.prog 41 #[.pointer (some ⟨w.heap.size, 0, none⟩), .int .i64 1] w1 fun e w' => e = .returned (.int .i64 (numB 1 s false).1) ∧ Aside0 (GetS w (numB 1 s false).2 (.slice none 0 0) [] w') := by
    intro w1 h1
    refine (num8 w.heap.size s false w1 h1.1 1 (by omega)).mono fun e w' ⟨he, h2, e2⟩ => ⟨he, Aside0.mk ⟨h2, Kd.R_nil _ _ _ _ _, below_eff h1.2 (Nat.le_refl _) e2 (by rintro k rfl; exact Nat.le_refl _)⟩⟩
  have l1 : (numB 1 s false).1 < 256 := nval_lt _ 1 (by rw [← size_data]; exact takeB_size 1 s false)
  have hg : readB s = readN (numB 1 s false).2 (numB 1 s false).1 := rfl
  generalize numB 1 s false = n at *
  have HG := Aside0.mk hg
  clear hg
  go_enter Try.func33, Try.ntmps33
  go_wp2_with (first
    | (go_at_call 41; refine (N1 _ ⟨heap_alloc_new w _, below_alloc (Below.refl _ _) _⟩).mono ?_; rintro e w1 ⟨rfl, A1⟩; clear N1))
  go_loopg [5, 13] n.1 (fun k s5 s13 wr => ∃ i : Nat, s13 = .int .i64 i ∧ i + k = n.1 ∧ Aside0 (GetS w (readN n.2 i).2 s5 (readN n.2 i).1 wr))
  case atStart => exact ⟨0, rfl, by omega, A1⟩
  case round =>
    clear A1
    obtain ⟨i, rfl, h1, A1⟩ := hrel
    by_cases hi : i < n.1
    · have p1 : ((i : Int) < (n.1 : Int)) = True := eq_true (by omega)
      have C := GetS.cell A1
      have hx := Aside0.mk (readN_length n.2 i)
      have hnx : readN n.2 (i + 1) = ((readN n.2 i).1 ++ [(cellB (readN n.2 i).2.1 (readN n.2 i).2.2).1], (cellB (readN n.2 i).2.1 (readN n.2 i).2.2).2) := rfl
      generalize cellB (readN n.2 i).2.1 (readN n.2 i).2.2 = q at *
      generalize (readN n.2 i).1 = xs at *
      obtain ⟨A5, c5, rfl⟩ := Kd.R_slice A1.out.2.1
      have HN := Aside0.mk hnx
      clear hnx A1
      go_wp2_with (first
        | (go_at_call 42; refine C.mono ?_; rintro e w2 ⟨rfl, A2⟩; clear C)
        | (at_builtin; go_loud (refine Kd.R_append kdB (W := w2) (w0 := w) w.heap.size rfl (.tmp 15) (.tmp 18) 40 25 (.agg #[.string ⟨#[]⟩, .string ⟨#[]⟩, .int .i64 0, .int .i64 0]) 48 rfl Try.underlying40 infoC rfl (by decide) (by decide) (.slice A5 xs.length c5) xs q.1 (cellsB q.1) (fun k => k ≠ w.heap.size) (fun _ => False) rfl rfl rfl (fun _ hk => hk.elim) (fun k hk => by have := A2.out.1.lt; omega) A2.out.2.1 A2.out.2.2 A2.out.2.2.size (by have := hx.out; omega) ?_; intro v1 w3 r1 b1 g1 o1; have A3 : Aside0 (GetS w q.2 v1 (xs ++ [q.1]) w3) := Aside0.mk ⟨blk_grown A2.out.1 g1 (fun e => A2.out.2.1.1 _ e.symm rfl), r1, b1⟩; clear r1 b1 g1 o1 A2)))
      go_roundg (gk - 1)
      case measure => omega
      case rel => exact ⟨i + 1, by simp, by omega, by rw [HN.out]; exact A3⟩
    · have p1 : ((i : Int) < (n.1 : Int)) = False := eq_false (by omega)
      have hin : i = n.1 := by omega
      subst hin
      have hgf : getF s = if (readN n.2 n.1).2.2 = false ∧ putF ((readN n.2 n.1).1.map B.cl) = (s, true) then ((readN n.2 n.1).1, true) else ([], false) := by
        unfold getF
        rw [HG.out]
      obtain ⟨A5, c5, rfl, hc5, hC⟩ := Kd.R_reads A1.out.2.1
      have CP := put_many wr A5 c5 _ hC
      generalize (readN n.2 n.1).1 = xs at *
      obtain ⟨pr, hpr⟩ : ∃ pr, pr = putF (xs.map B.cl) := ⟨_, rfl⟩
      rw [← hpr] at CP hgf
      have PE : ∀ w1, Eff0 wr w1 → Aside0 (GetS w (readN n.2 n.1).2 (.slice A5 xs.length c5) xs w1) := fun w1 e1 => Aside0.mk ⟨A1.out.1.eff e1, Kd.R_step A1.out.2.1 (fun k _ hk => e1.block k hk id), below_eff A1.out.2.2 (Nat.le_refl _) e1 (fun _ h => h.elim)⟩
      generalize (readN n.2 n.1).2 = r at *
      have HGF := Aside0.mk hgf
      clear hgf hpr hC hc5 A1
      have CP2 : Calls Try.prog 40 #[.slice A5 xs.length c5] wr fun e w' => e = .returned (.tuple #[.string pr.1, .bool pr.2]) ∧ w'.cell? ⟨w.heap.size, 1, none⟩ = some (.bool r.2) ∧ Aside0 (GetS w r (.slice A5 xs.length c5) xs w') :=
        CP.mono fun e w' ⟨he, e1⟩ => ⟨he, blk_cell (PE w' e1).out.1 1, PE w' e1⟩
      obtain ⟨pb, pk⟩ := pr
      obtain ⟨rs, rb⟩ := r
      dsimp only at CP2 HGF
      clear CP PE
      cases rb with
      | true =>
        have hgf : getF s = ([], false) := by rw [HGF.out]; simp
        have HF := Aside0.mk hgf
        clear hgf HGF
        go_wp2_with (go_at_call 40; refine CP2.mono ?_; rintro e w2 ⟨rfl, c1, A2⟩)
        go_ret2
        refine ⟨.slice none 0 0, ?_, ?_, A2.out.2.2⟩
        · rw [HF.out]; rfl
        · rw [HF.out]; exact Kd.R_nil _ _ _ _ _
      | false =>
        cases pk with
        | false =>
          have hgf : getF s = ([], false) := by rw [HGF.out]; simp
          have HF := Aside0.mk hgf
          clear hgf HGF
          go_wp2_with (go_at_call 40; refine CP2.mono ?_; rintro e w2 ⟨rfl, c1, A2⟩)
          go_ret2
          refine ⟨.slice none 0 0, ?_, ?_, A2.out.2.2⟩
          · rw [HF.out]; rfl
          · rw [HF.out]; exact Kd.R_nil _ _ _ _ _
        | true =>
          by_cases hs : pb = s
          · subst hs
            have hgf : getF pb = (xs, true) := by rw [HGF.out]; simp
            have HF := Aside0.mk hgf
            have q1 : (pb.toList == pb.toList) = true := beq_self_eq_true _
            have q2 : (pb.toList != pb.toList) = false := bne_self_eq_false _
            clear hgf HGF
            go_wp2_with (go_at_call 40; refine CP2.mono ?_; rintro e w2 ⟨rfl, c1, A2⟩)
            go_ret2
            refine ⟨.slice A5 xs.length c5, ?_, ?_, A2.out.2.2⟩
            · rw [HF.out]; rfl
            · rw [HF.out]; exact Kd.R_mono A2.out.2.1 (fun _ _ => trivial)
          · have hgf : getF s = ([], false) := by rw [HGF.out]; simp [hs]
            have HF := Aside0.mk hgf
            have hne : pb.toList ≠ s.toList := fun e => hs (eq_of_data (by rw [← Lib.toList_data, ← Lib.toList_data]; exact e))
            have q1 : (pb.toList == s.toList) = false := beq_eq_false_iff_ne.mpr hne
            have q2 : (pb.toList != s.toList) = true := bne_iff_ne.mpr hne
            clear hgf HGF hne hs
            go_wp2_with (go_at_call 40; refine CP2.mono ?_; rintro e w2 ⟨rfl, c1, A2⟩)
            go_ret2
            refine ⟨.slice none 0 0, ?_, ?_, A2.out.2.2⟩
            · rw [HF.out]; rfl
            · rw [HF.out]; exact Kd.R_nil _ _ _ _ _
end Go.Proofs.Ytcmepoakcffpaaa.CP
namespace Go.Proofs.Ytcmepoakcffpaaa.CP
open Go Go.RowKit Go.Proofs.YtcmepoakcffpaaaW.PrintWords Go.Proofs.YtcmepoakcffpaaaW.PrintLast Go.Proofs.YtcmepoakcffpaaaW.PrintMore Go.Proofs.Ytcmepoakcffpaaa.CR Go.Proofs.Ytcmepoakcffpaaa.L
set_option linter.unusedVariables false
set_option linter.unusedSimpArgs false
/-! What the walks compute is the plain law. -/
def lst (r : ByteArray × Bool) : Rd := (r.1.data.toList, r.2)
theorem ext_data (s : ByteArray) (a e : Nat) : (s.extract a e).data.toList = (s.data.toList.take e).drop a := by
  rw [ByteArray.data_extract, Array.toList_extract, List.extract_eq_take_drop, List.drop_take]
theorem takeB_take (n : Nat) (s : ByteArray) (bad : Bool) : ((takeB n s bad).1.data.toList, lst (takeB n s bad).2) = take n (lst (s, bad)) := by
  unfold takeB take lst
  dsimp only
  rw [← size_data]
  by_cases h : bad = true ∨ s.size < n
  · rw [if_pos h, if_pos h]
  · rw [if_neg h, if_neg h]
    dsimp only
    rw [ext_data, ext_data, List.drop_zero, size_data s, List.take_length]
theorem numB_num (n : Nat) (s : ByteArray) (bad : Bool) : ((numB n s bad).1, lst (numB n s bad).2) = num n (lst (s, bad)) := by
  have h := takeB_take n s bad
  unfold numB num nvalB
  rw [← h]
theorem cellB_cell (s : ByteArray) (bad : Bool) : ((cellB s bad).1.cl, lst (cellB s bad).2) = cell (lst (s, bad)) := by
  unfold cellB cell
  dsimp only
  have h1 := numB_num 1 s bad
  rw [← h1]
  dsimp only
  generalize numB 1 s bad = a
  obtain ⟨a, a2, ab⟩ := a
  dsimp only
  have h2 := takeB_take a a2 ab
  rw [← h2]
  dsimp only
  generalize takeB a a2 ab = k
  obtain ⟨k, ks, kb⟩ := k
  dsimp only
  have h3 := numB_num 1 ks kb
  rw [← h3]
  dsimp only
  generalize numB 1 ks kb = kd
  obtain ⟨kd, ds, db⟩ := kd
  dsimp only
  have h4 := numB_num 2 ds db
  rw [← h4]
  dsimp only
  generalize numB 2 ds db = n
  obtain ⟨n, ns, nb⟩ := n
  dsimp only
  by_cases hk : kd = 0
  · rw [if_pos hk, if_pos hk]
    have h5 := takeB_take n ns nb
    rw [← h5]
    rfl
  · rw [if_neg hk, if_neg hk]
    have h5 := numB_num 2 ns nb
    rw [← h5]
    rfl
theorem cells_snoc : ∀ (k : Nat) (r : Rd), cells (k + 1) r = ((cells k r).1 ++ [(cell (cells k r).2).1], (cell (cells k r).2).2)
  | 0, r => rfl
  | k + 1, r => by
    rw [cells, cells_snoc k (cell r).2, cells]
    rfl
theorem readN_cells (r : ByteArray × Bool) : ∀ k, ((readN r k).1.map B.cl, lst (readN r k).2) = cells k (lst r)
  | 0 => rfl
  | k + 1 => by
    have ih := readN_cells r k
    have h := cellB_cell (readN r k).2.1 (readN r k).2.2
    rw [cells_snoc, ← ih, readN, List.map_append]
    dsimp only
    rw [show lst ((readN r k).2.1, (readN r k).2.2) = lst (readN r k).2 from rfl] at h
    rw [← h]
    rfl
theorem readB_readAll (s : ByteArray) : ((readB s).1.map B.cl, lst (readB s).2) = readAll s.data.toList := by
  unfold readB readAll
  have h := numB_num 1 s false
  rw [readN_cells]
  dsimp only
  rw [show num 1 (s.data.toList, false) = num 1 (lst (s, false)) from rfl, ← h]
theorem cl_inj {c d : B} (h : c.cl = d.cl) : c = d := by
  obtain ⟨k, v, b, s⟩ := c
  obtain ⟨k', v', b', s'⟩ := d
  unfold B.cl at h
  injection h with h1 h2 h3 h4
  have e1 : k = k' := eq_of_data h1
  have e2 : v = v' := eq_of_data h2
  have e3 : b = b' := h3
  have e4 : s = s' := h4
  rw [e1, e2, e3, e4]
theorem map_cl_inj {l m : List B} (h : l.map B.cl = m.map B.cl) : l = m := (List.map_inj_right (fun _ _ e => cl_inj e)).mp h
/-- What was written is read. -/
theorem getF_put {l : List B} {b : List UInt8} (h : put (l.map B.cl) = some b) : getF ⟨b.toArray⟩ = (l, true) := by
  have h1 := get_put h
  unfold get at h1
  split at h1
  · rename_i hc
    have h2 := Option.some.inj h1
    have h3 := readB_readAll ⟨b.toArray⟩
    have h4 : (readB ⟨b.toArray⟩).1 = l := map_cl_inj ((congrArg Prod.fst h3).trans h2)
    have h5 : (readB ⟨b.toArray⟩).2.2 = false := ((congrArg (fun x => x.2.2) h3).trans hc.1)
    unfold getF
    rw [if_pos ⟨h5, by rw [h4]; simp [putF, h]⟩, h4]
  · cases h1
theorem getF_true {s : ByteArray} {x : List B} (h : getF s = (x, true)) : putF (x.map B.cl) = (s, true) := by
  unfold getF at h
  split at h
  · rename_i hc
    injection h with h1
    rw [← h1]
    exact hc.2
  · cases h
theorem putF_put {l : List Cl} {s : ByteArray} (h : putF l = (s, true)) : put l = some s.data.toList := by
  unfold putF at h
  split at h
  · rename_i b hb
    injection h with h1
    rw [← h1, hb]
  · cases h
theorem putF_size {l : List Cl} {s : ByteArray} (h : putF l = (s, true)) : s.size = 240 := by
  rw [size_data]; exact put_length (putF_put h)
theorem getF_size {s : ByteArray} (h : s.size ≠ 240) : getF s = ([], false) := by
  unfold getF
  rw [if_neg (fun hc => h (putF_size hc.2))]
end Go.Proofs.Ytcmepoakcffpaaa.CP
namespace Go.Proofs.Ytcmepoakcffpaaa.L
open Go Go.RowKit Go.Proofs.YtcmepoakcffpaaaW.PrintWords Go.Proofs.YtcmepoakcffpaaaW.PrintLast Go.Proofs.YtcmepoakcffpaaaW.PrintMore Go.Proofs.Ytcmepoakcffpaaa.L
set_option linter.unusedVariables false
set_option linter.unusedSimpArgs false
/-! A row of one's own, cell by cell: what is copied into it, what is put in, at elements of any size. -/
section
variable {P : Program}
theorem run_copyK (W : World) (t t' ty e : TypeId) (i0 : TypeInfo) (k : Nat) (ht : P.underlying t = some (.slice e)) (hi : P.info? e = some i0) (hk : i0.size = k) (b o dLen dCap : Nat) (a : Addr) (sLen sCap : Nat) (cs : List Value)
    (hn : cs.length = Nat.min sLen dLen * k) (hsrc : ∀ j v, cs[j]? = some v → W.cell? (a.add j) = some v) (hc : ∀ j, j < cs.length → (W.cell? ⟨b, o + j, none⟩).isSome = true) (hf : ∀ j, j < cs.length → W.frozen? ⟨b, o + j, none⟩ = false) (h1 : ∀ v ∈ cs, v.oneCell' = true) :
    (Builtin.copy_ #[t, t'] ty #[.slice (some ⟨b, o, none⟩) dLen dCap, .slice (some a) sLen sCap]).run P W = .ok (goInt (Nat.min sLen dLen)) (W.setCells b o cs) := by
  have hl := run_loadCells_list (P := P) W a cs hsrc
  have hst := run_storeCells_cells (P := P) b o cs 0 W (by simpa using hc) (by simpa using hf) h1
  simp only [Nat.add_zero] at hst
  have hl2 : (loadCells a (Nat.min sLen dLen * i0.size)).run P W = .ok cs.toArray W := by rw [hk, ← hn]; exact hl
  simp [Builtin.copy_, run_underlying ht, Builtin.lenOf, Builtin.firstCells, sizeOf, typeInfo, hi, hl2, hst]
/-- A builtin whose run is known, as a step of a walk; as a step of a region that draws. -/
theorem wpList_bi {w : World} {ops : Array Oper} {rest : List Oper} {o : Oper} {a : Act} {Q : Exit → Act → World → Prop} (hgd : o.guard = none) (d s : Operand) (t t' : TypeId) (ho : o.op = .call { callee := .builtin .copy, args := #[d, s], argTypes := #[t, t'] })
    (v u : Value) (hd : a.eval d = v) (hs : a.eval s = u) {v' : Value} {w' : World} (hr : (Builtin.copy_ #[t, t'] o.type #[v, u]).run P w = .ok v' w') (h : wpList P ops Q rest (a.put o.dst v') w') : wpList P ops Q (o :: rest) a w := by
  refine wpList_plain hgd fun K hK => ?_
  unfold Oper.wp execOp
  simp only [ho, resolve, invoke, builtin, Sem.run_bind, Sem.run_pure, Result.andThen_ok, List.map_toArray, List.map_cons, List.map_nil, hd, hs, hr]
  exact hK _ _ h
theorem step_bi {ops : Array Oper} {o : Oper} {a : Act} {w : World} {K : Act → World → Prop} {Q : Exit → Act → World → Prop} {E : Prop} (hgd : o.guard = none) (d s : Operand) (t t' : TypeId) (ho : o.op = .call { callee := .builtin .copy, args := #[d, s], argTypes := #[t, t'] })
    (v u : Value) (hd : a.eval d = v) (hs : a.eval s = u) {v' : Value} {w' : World} (hr : (Builtin.copy_ #[t, t'] o.type #[v, u]).run P w = .ok v' w') (h : K (a.put o.dst v') w') : if Region.wanted o (yielded ops a.tmps) = true then Oper.wp P o a w K Q else E := by
  rw [if_pos (by simp [Region.wanted, hgd])]
  unfold Oper.wp execOp
  simp only [ho, resolve, invoke, builtin, Sem.run_bind, Sem.run_pure, Result.andThen_ok, List.map_toArray, List.map_cons, List.map_nil, hd, hs, hr]
  exact h
/-- clear: the row's cells hold zeros behind. -/
theorem run_clearK {n : Nat} (W : World) (t e ty : TypeId) (z : Value) (ht : P.underlying t = some (.slice e)) (hv : ∀ w, (zeroValue e).run P w = .ok z w) (h1 : ∀ u ∈ (Builtin.zeroCells z.cells n).toList, u.oneCell' = true) (b o c : Nat) (hn : 0 < n)
    (hc : ∀ j, j < (Builtin.zeroCells z.cells n).toList.length → (W.cell? ⟨b, o + j, none⟩).isSome = true) (hf : ∀ j, j < (Builtin.zeroCells z.cells n).toList.length → W.frozen? ⟨b, o + j, none⟩ = false) :
    (Builtin.clear_ #[t] ty #[.slice (some ⟨b, o, none⟩) n c]).run P W = .ok (.tuple #[]) (W.setCells b o (Builtin.zeroCells z.cells n).toList) := by
  have hst := run_storeCells_cells (P := P) b o (Builtin.zeroCells z.cells n).toList 0 W (by simpa using hc) (by simpa using hf) h1
  simp only [Nat.add_zero] at hst
  obtain ⟨m, rfl⟩ : ∃ m, n = m + 1 := ⟨n - 1, by omega⟩
  simp [Builtin.clear_, run_underlying ht, hv, hst]
end
theorem eff_setCells (g o : Nat) (vs : List Value) (W : World) : Eff (fun k => k = g) W (W.setCells g o vs) := by
  obtain ⟨s1, s2, s3, s4⟩ := setCells_same g vs o W
  exact ⟨s1, s2, s3, by rw [s4]; exact Nat.le_refl _, fun k _ hk => setCells_far vs o k hk⟩
section
variable {α : Type} {enc : α → List Value} {k : Nat}
def flatE (enc : α → List Value) (xs : List α) : List Value := xs.flatMap enc
theorem flatE_append (xs ys : List α) : flatE enc (xs ++ ys) = flatE enc xs ++ flatE enc ys := List.flatMap_append
theorem flatE_cons (x : α) (xs : List α) : flatE enc (x :: xs) = enc x ++ flatE enc xs := List.flatMap_cons
theorem flatE_length (hk : ∀ x, (enc x).length = k) : ∀ xs : List α, (flatE enc xs).length = xs.length * k
  | [] => by simp [flatE]
  | x :: xs => by rw [flatE_cons, List.length_append, hk, flatE_length hk xs, List.length_cons, Nat.succ_mul]; omega
theorem flatE_parts (xs : List α) (i : Nat) : flatE enc xs = flatE enc (xs.take i) ++ flatE enc (xs.drop i) := by rw [← flatE_append, List.take_append_drop]
theorem flatE_of_reps : ∀ {xs : List α} {inner : List Value}, Reps (fun x c => c = enc x) k xs inner → inner = flatE enc xs
  | [], inner, h => by
    have := h.1
    simp only [List.length_nil, Nat.zero_mul] at this
    exact List.eq_nil_of_length_eq_zero this
  | x :: xs, inner, h => by
    have h1 := h.2 0 x rfl
    rw [Nat.zero_mul, List.drop_zero] at h1
    have h2 := Kd.reps_drop (m := 1) h
    rw [List.drop_succ_cons, List.drop_zero, Nat.one_mul] at h2
    rw [flatE_cons, ← h1, ← flatE_of_reps h2, List.take_append_drop]
theorem reps_flatE (hk : ∀ x, (enc x).length = k) : ∀ (xs : List α), Reps (fun x c => c = enc x) k xs (flatE enc xs)
  | [] => Reps.none _ _
  | x :: xs => by
    have h := reps_flatE hk xs
    have h1 : Reps (fun x c => c = enc x) k [x] (enc x) := by
      have := Reps.snoc (Reps.none (fun x c => c = enc x) k) (p := x) (c := enc x) rfl (hk x)
      simpa using this
    have := Kd.reps_append h1 h
    rwa [List.singleton_append, ← flatE_cons] at this
/-- A row of one's own that is not nil. -/
structure RowX (enc : α → List Value) (k e : Nat) (W : World) (base g cap : Nat) (xs : List α) : Prop where
  le : base ≤ g
  len : xs.length ≤ cap
  max : cap ≤ maxLen
  has : ∃ cur rest, W.heap[g]? = some (.cells cur e (0, 0)) ∧ cur.size = cap * k ∧ cur.toList = flatE enc xs ++ rest
theorem RowX.of_R {d : Kd α} {e base : Nat} {ok : Nat → Prop} {W : World} {g cap n : Nat} {xs : List α} (hs : d.sz = k) (hM : ∀ {w : World} {base : Nat} {ok : Nat → Prop} {x : α} {cs : List Value}, d.M w base ok x cs → cs = enc x) (h : d.R e W base ok (.slice (some ⟨g, 0, none⟩) n cap) xs) : RowX enc k e W base g cap xs := by
  obtain ⟨_, inner, ho, hr⟩ := h
  have hi : inner = flatE enc xs := flatE_of_reps (k := d.sz) (hr.imp_ (fun _ _ hp => hM hp))
  rcases ho.2 with ⟨hv, _⟩ | ⟨g', cap', cur, hv, hb, hh, hl, hm, hc, ht⟩
  · cases hv
  · injection hv with ha hn hcap
    injection ha with ha
    injection ha with hg
    subst hg; subst hcap
    exact ⟨hb, hl, hm, cur, _, hh, by rw [hc, hs], by rw [← hi, ← ht, List.take_append_drop]⟩
theorem RowX.toR {d : Kd α} {e base : Nat} {ok : Nat → Prop} {W : World} {g cap : Nat} {xs : List α} (hs : d.sz = k) (hk : ∀ x, (enc x).length = k) (hM : ∀ (w : World) (base : Nat) (ok : Nat → Prop) (x : α), d.M w base ok x (enc x)) (h : RowX enc k e W base g cap xs) (hok : ok g) : d.R e W base ok (.slice (some ⟨g, 0, none⟩) xs.length cap) xs := by
  obtain ⟨cur, rest, hh, hc, ht⟩ := h.has
  refine ⟨fun q hq => by simp [Value.ownBlock] at hq; subst hq; exact hok, flatE enc xs, ⟨by rw [flatE_length hk, hs], .inr ⟨g, cap, cur, rfl, h.le, hh, h.len, h.max, by rw [hc, hs], ?_⟩⟩, ?_⟩
  · rw [ht, hs, ← flatE_length hk xs]
    exact List.take_left
  · rw [hs]
    exact (reps_flatE hk xs).imp_ (fun x c hc => by rw [hc]; exact hM _ _ _ x)
theorem RowX.cells {e base : Nat} {W : World} {g cap : Nat} {xs : List α} (h : RowX enc k e W base g cap xs) (j : Nat) (u : Value) (hu : (flatE enc xs)[j]? = some u) : W.cell? ⟨g, j, none⟩ = some u := by
  obtain ⟨cur, rest, hh, _, ht⟩ := h.has
  rw [blk_cell hh j, ← Array.getElem?_toList, ht, List.getElem?_append_left (List.getElem?_eq_some_iff.1 hu).1, hu]
theorem RowX.some {e base : Nat} {W : World} {g cap : Nat} {xs : List α} (h : RowX enc k e W base g cap xs) (j : Nat) (hj : j < cap * k) : (W.cell? ⟨g, j, none⟩).isSome = true := by
  obtain ⟨cur, rest, hh, hc, _⟩ := h.has
  rw [blk_cell hh j]
  simp [hc, hj]
theorem RowX.free {e base : Nat} {W : World} {g cap : Nat} {xs : List α} (h : RowX enc k e W base g cap xs) (j : Nat) : W.frozen? ⟨g, j, none⟩ = false := by
  obtain ⟨cur, rest, hh, _, _⟩ := h.has
  exact blk_frozen hh _
theorem RowX.eff {e base : Nat} {W W1 : World} {g cap : Nat} {xs : List α} {S : Nat → Prop} (h : RowX enc k e W base g cap xs) (e1 : Eff S W W1) (hS : ¬ S g) : RowX enc k e W1 base g cap xs := by
  obtain ⟨cur, rest, hh, hc, ht⟩ := h.has
  exact ⟨h.le, h.len, h.max, cur, rest, by rw [e1.block g (blk_lt hh) hS]; exact hh, hc, ht⟩
/-- Written behind what the row holds: the row is as it was. -/
theorem RowX.behind {e base : Nat} {W : World} {g cap o : Nat} {xs : List α} {vs : List Value} (hk : ∀ x, (enc x).length = k) (h : RowX enc k e W base g cap xs) (ho : xs.length * k ≤ o) (hv : o + vs.length ≤ cap * k) : RowX enc k e (W.setCells g o vs) base g cap xs := by
  obtain ⟨cur, rest, hh, hc, ht⟩ := h.has
  obtain ⟨cur', h3, h4, h5⟩ := setCells_row vs o W cur hh (by rw [hc]; exact hv)
  refine ⟨h.le, h.len, h.max, cur', rest.take (o - xs.length * k) ++ vs ++ cur.toList.drop (o + vs.length), h3, by rw [h4, hc], ?_⟩
  rw [h5]
  simp only [← List.append_assoc]
  congr 2
  rw [ht, List.take_append, flatE_length hk, List.take_of_length_le (by rw [flatE_length hk]; exact ho)]
theorem over_first {A C B Z : List Value} (a : Nat) (ha : A.length = a) : ((A ++ Z).take a ++ C ++ (A ++ Z).drop (a + C.length)) = A ++ (C ++ Z.drop C.length) := by
  subst ha
  rw [List.take_left, List.drop_append]
  simp
/-- An element put in at i: the cells behind go up first, then it is written. -/
theorem RowX.shift {e base : Nat} {W : World} {g cap i : Nat} {xs : List α} (hk : ∀ x, (enc x).length = k) (h : RowX enc k e W base g cap xs) (hi : i ≤ xs.length) (hr : xs.length + 1 ≤ cap) (c : α) :
    RowX enc k e ((W.setCells g ((i + 1) * k) (flatE enc (xs.drop i))).setCells g (i * k) (enc c)) base g cap (xs.take i ++ c :: xs.drop i) := by
  obtain ⟨cur, rest, hh, hc, ht⟩ := h.has
  have la : (flatE enc (xs.take i)).length = i * k := by rw [flatE_length hk, List.length_take, Nat.min_eq_left hi]
  have lb : (flatE enc (xs.drop i)).length = (xs.length - i) * k := by rw [flatE_length hk, List.length_drop]
  have m1 : (i + 1) * k = i * k + k := Nat.succ_mul _ _
  have m2 : (xs.length - i) * k = xs.length * k - i * k := Nat.sub_mul _ _ _
  have m3 : i * k ≤ xs.length * k := Nat.mul_le_mul_right _ hi
  have m4 : (xs.length + 1) * k ≤ cap * k := Nat.mul_le_mul_right _ hr
  have m5 : (xs.length + 1) * k = xs.length * k + k := Nat.succ_mul _ _
  obtain ⟨cur1, h3, h4, h5⟩ := setCells_row (flatE enc (xs.drop i)) ((i + 1) * k) W cur hh (by omega)
  obtain ⟨cur2, g3, g4, g5⟩ := setCells_row (enc c) (i * k) _ cur1 h3 (by rw [h4, hk]; omega)
  refine ⟨h.le, by simp; omega, h.max, cur2, cur.toList.drop ((i + 1) * k + (flatE enc (xs.drop i)).length), g3, by rw [g4, h4, hc], ?_⟩
  rw [flatE_parts xs i, List.append_assoc] at ht
  have e1 : cur1.toList = flatE enc (xs.take i) ++ (cur.toList.drop (i * k)).take k ++ flatE enc (xs.drop i) ++ cur.toList.drop ((i + 1) * k + (flatE enc (xs.drop i)).length) := by
    rw [h5]
    congr 2
    rw [m1, List.take_add]
    congr 1
    rw [ht]
    exact List.take_left' la
  have lc : ((cur.toList.drop (i * k)).take k).length = k := by
    rw [List.length_take, List.length_drop, Array.length_toList, hc]
    omega
  rw [g5, e1, hk, flatE_append, flatE_cons]
  generalize (cur.toList.drop (i * k)).take k = Z at *
  generalize cur.toList.drop _ = Y
  generalize flatE enc (xs.take i) = A at *
  generalize flatE enc (xs.drop i) = Bq at *
  have t1 : (A ++ Z ++ Bq ++ Y).take (i * k) = A := by
    rw [List.append_assoc, List.append_assoc]
    exact List.take_left' la
  have t2 : (A ++ Z ++ Bq ++ Y).drop (i * k + k) = Bq ++ Y := by
    rw [List.append_assoc (A ++ Z)]
    exact List.drop_left' (by rw [List.length_append, la, lc])
  rw [t1, t2]
  simp only [List.append_assoc]
/-- Into a new row: the element first, then the cells behind. -/
theorem rowX_grow {e base : Nat} {W : World} {g cap i : Nat} {xs : List α} {cur : Array Value} {rest : List Value} (hk : ∀ x, (enc x).length = k) (hb : base ≤ g) (hh : W.heap[g]? = some (.cells cur e (0, 0))) (hc : cur.size = cap * k) (ht : cur.toList = flatE enc (xs.take i) ++ rest) (hi : i ≤ xs.length) (hr : xs.length + 1 ≤ cap) (hm : cap ≤ maxLen) (c : α) :
    RowX enc k e ((W.setCells g (i * k) (enc c)).setCells g ((i + 1) * k) (flatE enc (xs.drop i))) base g cap (xs.take i ++ c :: xs.drop i) := by
  have la : (flatE enc (xs.take i)).length = i * k := by rw [flatE_length hk, List.length_take, Nat.min_eq_left hi]
  have lb : (flatE enc (xs.drop i)).length = (xs.length - i) * k := by rw [flatE_length hk, List.length_drop]
  have m1 : (i + 1) * k = i * k + k := Nat.succ_mul _ _
  have m2 : (xs.length - i) * k = xs.length * k - i * k := Nat.sub_mul _ _ _
  have m3 : i * k ≤ xs.length * k := Nat.mul_le_mul_right _ hi
  have m4 : (xs.length + 1) * k ≤ cap * k := Nat.mul_le_mul_right _ hr
  have m5 : (xs.length + 1) * k = xs.length * k + k := Nat.succ_mul _ _
  obtain ⟨cur1, h3, h4, h5⟩ := setCells_row (enc c) (i * k) W cur hh (by rw [hk]; omega)
  obtain ⟨cur2, g3, g4, g5⟩ := setCells_row (flatE enc (xs.drop i)) ((i + 1) * k) _ cur1 h3 (by rw [h4]; omega)
  refine ⟨hb, by simp; omega, hm, cur2, cur1.toList.drop ((i + 1) * k + (flatE enc (xs.drop i)).length), g3, by rw [g4, h4, hc], ?_⟩
  have e1 : cur1.toList.take ((i + 1) * k) = flatE enc (xs.take i) ++ enc c := by
    rw [h5, ht, m1]
    have t1 : (flatE enc (xs.take i) ++ rest).take (i * k) = flatE enc (xs.take i) := List.take_left' la
    rw [t1]
    exact List.take_left' (by rw [List.length_append, la, hk])
  rw [g5, e1, flatE_append, flatE_cons]
  simp only [List.append_assoc]
end
theorem drew_setCells (b : Nat) : ∀ (vs : List Value) (o : Nat) (w : World), (w.setCells b o vs).drew = w.drew.setCells b o vs
  | [], _, _ => rfl
  | v :: r, o, w => by rw [World.setCells, World.setCells, drew_setCells b r]; rfl
end Go.Proofs.Ytcmepoakcffpaaa.L
namespace Go.Proofs.Ytcmepoakcffpaaa.CP
open Go Go.RowKit Go.Proofs.YtcmepoakcffpaaaW.PrintWords Go.Proofs.YtcmepoakcffpaaaW.PrintLast Go.Proofs.YtcmepoakcffpaaaW.PrintMore Go.Proofs.Ytcmepoakcffpaaa.CR Go.Proofs.Ytcmepoakcffpaaa.L
set_option linter.unusedVariables false
set_option linter.unusedSimpArgs false
/-! The plain law of a bucket: rising cells, one put in, one taken out. -/
abbrev B.kk (c : B) : List UInt8 := c.k.data.toList
def Rise (l : List B) : Prop := l.Pairwise (fun a b => a.kk < b.kk)
def posB (l : List B) (key : List UInt8) : Nat := l.countP (fun c => decide (c.kk < key))
def findB (l : List B) (key : List UInt8) : Option B := l.find? (fun c => decide (c.kk = key))
def setB (l : List B) (c : B) : List B := l.filter (fun x => decide (x.kk < c.kk)) ++ c :: l.filter (fun x => decide (c.kk < x.kk))
def cutB (l : List B) (key : List UInt8) : List B := l.filter (fun x => decide (x.kk ≠ key))
theorem Rise.tail {a : B} {l : List B} (h : Rise (a :: l)) : Rise l := (List.pairwise_cons.mp h).2
theorem Rise.head {a : B} {l : List B} (h : Rise (a :: l)) : ∀ x ∈ l, a.kk < x.kk := (List.pairwise_cons.mp h).1
theorem kk_lt_asymm {a b : List UInt8} (h : a < b) : ¬ b < a := fun h2 => List.lt_irrefl a (List.lt_trans h h2)
theorem kk_lt_ne {a b : List UInt8} (h : a < b) : a ≠ b := fun e => List.lt_irrefl b (by rw [e] at h; exact h)
theorem kk_tri (a b : List UInt8) : a < b ∨ a = b ∨ b < a := by
  by_cases h : a < b
  · exact .inl h
  · rcases List.le_iff_lt_or_eq.mp (List.not_lt.mp h) with h2 | h2
    · exact .inr (.inr h2)
    · exact .inr (.inl h2.symm)
theorem filter_none {l : List B} {p : B → Bool} (h : ∀ x ∈ l, p x = false) : l.filter p = [] := by
  rw [List.filter_eq_nil_iff]
  intro x hx
  rw [h x hx]; simp
theorem filter_all {l : List B} {p : B → Bool} (h : ∀ x ∈ l, p x = true) : l.filter p = l := List.filter_eq_self.mpr h
/-- Rising cells stand on both sides of a key's place. -/
theorem split_pos : ∀ {l : List B} (_ : Rise l) (key : List UInt8), l.take (posB l key) = l.filter (fun c => decide (c.kk < key)) ∧ l.drop (posB l key) = l.filter (fun c => !decide (c.kk < key))
  | [], _, _ => by simp [posB]
  | a :: l, h, key => by
    obtain ⟨h1, h2⟩ := split_pos h.tail key
    unfold posB at *
    by_cases ha : a.kk < key
    · rw [List.countP_cons_of_pos (by simpa using ha), List.take_succ_cons, List.drop_succ_cons, h1, h2]
      simp [ha]
    · have hn : ∀ x ∈ l, decide (x.kk < key) = false := fun x hx => decide_eq_false (fun hx2 => ha (List.lt_trans (h.head x hx) hx2))
      have hc : (a :: l).countP (fun c => decide (c.kk < key)) = 0 := by
        rw [List.countP_eq_zero]
        intro x hx
        rcases List.mem_cons.mp hx with rfl | hx
        · simpa using ha
        · rw [hn x hx]; simp
      rw [hc]
      simp only [List.take_zero, List.drop_zero]
      constructor
      · symm
        refine filter_none fun x hx => ?_
        rcases List.mem_cons.mp hx with rfl | hx
        · simpa using ha
        · exact hn x hx
      · symm
        refine filter_all fun x hx => ?_
        rcases List.mem_cons.mp hx with rfl | hx
        · simpa using ha
        · rw [hn x hx]; rfl
theorem posB_le (l : List B) (key : List UInt8) : posB l key ≤ l.length := List.countP_le_length
theorem Rise.sub {l m : List B} (h : Rise l) (hs : m.Sublist l) : Rise m := List.Pairwise.sublist hs h
/-- The cell at a key's place is the key's, or a greater one. -/
theorem drop_pos {l : List B} (h : Rise l) (key : List UInt8) :
    (∃ c, c.kk = key ∧ c ∈ l ∧ l.drop (posB l key) = c :: l.filter (fun x => decide (key < x.kk))) ∨ ((∀ x ∈ l, x.kk ≠ key) ∧ l.drop (posB l key) = l.filter (fun x => decide (key < x.kk))) := by
  have h2 := (split_pos h key).2
  have hm : ∀ x, x ∈ l.drop (posB l key) ↔ x ∈ l ∧ ¬ x.kk < key := fun x => by rw [h2, List.mem_filter]; simp
  have hr : Rise (l.drop (posB l key)) := h.sub (List.drop_sublist _ _)
  have hf : (l.drop (posB l key)).filter (fun x => decide (key < x.kk)) = l.filter (fun x => decide (key < x.kk)) := by
    rw [h2, List.filter_filter]
    congr 1
    funext x
    by_cases hx : key < x.kk
    · simp [hx, kk_lt_asymm hx]
    · simp [hx]
  by_cases hex : ∃ c ∈ l, c.kk = key
  · left
    obtain ⟨c, hc, hk⟩ := hex
    have hcd : c ∈ l.drop (posB l key) := (hm c).2 ⟨hc, by rw [hk]; exact List.lt_irrefl _⟩
    cases hd : l.drop (posB l key) with
    | nil => rw [hd] at hcd; cases hcd
    | cons a r =>
      rw [hd] at hcd hr hf
      have ha : ¬ a.kk < key := ((hm a).1 (by rw [hd]; simp)).2
      have hac : a = c := by
        rcases List.mem_cons.mp hcd with h3 | h3
        · exact h3.symm
        · exact absurd (hk ▸ hr.head c h3) ha
      subst hac
      refine ⟨a, hk, hc, ?_⟩
      rw [← hf, List.filter_cons_of_neg (by simp [hk, List.lt_irrefl]), filter_all fun x hx => ?_]
      have := hr.head x hx
      rw [hk] at this
      exact decide_eq_true this
  · right
    have hne : ∀ x ∈ l, x.kk ≠ key := fun x hx e => hex ⟨x, hx, e⟩
    refine ⟨hne, ?_⟩
    rw [← hf]
    symm
    refine filter_all fun x hx => ?_
    obtain ⟨hx1, hx2⟩ := (hm x).1 hx
    rcases kk_tri x.kk key with h3 | h3 | h3
    · exact absurd h3 hx2
    · exact absurd h3 (hne x hx1)
    · exact decide_eq_true h3
theorem findB_some {l : List B} {key : List UInt8} {c : B} (h : findB l key = some c) : c ∈ l ∧ c.kk = key := by
  unfold findB at h
  exact ⟨List.mem_of_find?_eq_some h, by simpa using List.find?_some h⟩
theorem findB_none {l : List B} {key : List UInt8} : findB l key = none ↔ ∀ x ∈ l, x.kk ≠ key := by
  unfold findB
  rw [List.find?_eq_none]
  simp
theorem Rise.inj {l : List B} (h : Rise l) {a b : B} (ha : a ∈ l) (hb : b ∈ l) (e : a.kk = b.kk) : a = b := by
  induction l with
  | nil => cases ha
  | cons c l ih =>
    rcases List.mem_cons.mp ha with ha1 | ha1
    · rcases List.mem_cons.mp hb with hb1 | hb1
      · rw [ha1, hb1]
      · rw [ha1] at e
        exact absurd e (kk_lt_ne (h.head b hb1))
    · rcases List.mem_cons.mp hb with hb1 | hb1
      · rw [hb1] at e
        exact absurd e.symm (kk_lt_ne (h.head a ha1))
      · exact ih h.tail ha1 hb1
theorem findB_mem {l : List B} (h : Rise l) {c : B} (hc : c ∈ l) : findB l c.kk = some c := by
  cases hf : findB l c.kk with
  | none => exact absurd rfl (findB_none.1 hf c hc)
  | some d =>
    obtain ⟨h1, h2⟩ := findB_some hf
    rw [h.inj h1 hc h2]
theorem findB_iff {l : List B} (h : Rise l) {key : List UInt8} {c : B} : findB l key = some c ↔ c ∈ l ∧ c.kk = key :=
  ⟨findB_some, fun ⟨h1, h2⟩ => by rw [← h2]; exact findB_mem h h1⟩
/-- What stands at the place of a key. -/
theorem pos_had {l : List B} (h : Rise l) {key : List UInt8} {c : B} (hf : findB l key = some c) :
    posB l key < l.length ∧ l[posB l key]? = some c ∧ l.take (posB l key) = l.filter (fun x => decide (x.kk < key)) ∧ l.drop (posB l key + 1) = l.filter (fun x => decide (key < x.kk)) := by
  obtain ⟨h1, h2⟩ := findB_some hf
  rcases drop_pos h key with ⟨d, hd, hdm, he⟩ | ⟨hn, _⟩
  · have hdc : d = c := h.inj hdm h1 (hd.trans h2.symm)
    subst hdc
    have hlt : posB l key < l.length := by
      rcases Nat.lt_or_ge (posB l key) l.length with h3 | h3
      · exact h3
      · rw [List.drop_eq_nil_of_le h3] at he; cases he
    refine ⟨hlt, ?_, (split_pos h key).1, ?_⟩
    · have := congrArg (fun x => x[0]?) he
      simpa using this
    · rw [List.drop_eq_getElem_cons hlt] at he
      exact (List.cons.inj he).2
  · exact absurd h2 (hn c h1)
theorem pos_none {l : List B} (h : Rise l) {key : List UInt8} (hf : findB l key = none) :
    l.take (posB l key) = l.filter (fun x => decide (x.kk < key)) ∧ l.drop (posB l key) = l.filter (fun x => decide (key < x.kk)) := by
  rcases drop_pos h key with ⟨d, hd, hdm, _⟩ | ⟨_, he⟩
  · exact absurd hd (findB_none.1 hf d hdm)
  · exact ⟨(split_pos h key).1, he⟩
theorem set_had {l : List B} (h : Rise l) {c d : B} (hf : findB l c.kk = some d) : l.set (posB l c.kk) c = setB l c := by
  obtain ⟨h1, _, h3, h4⟩ := pos_had h hf
  rw [List.set_eq_take_append_cons_drop, if_pos h1, h3, h4]
  rfl
theorem set_none {l : List B} (h : Rise l) {c : B} (hf : findB l c.kk = none) : l.take (posB l c.kk) ++ c :: l.drop (posB l c.kk) = setB l c := by
  obtain ⟨h3, h4⟩ := pos_none h hf
  rw [h3, h4]
  rfl
theorem cut_had {l : List B} (h : Rise l) {key : List UInt8} {d : B} (hf : findB l key = some d) : l.eraseIdx (posB l key) = cutB l key := by
  obtain ⟨h1, h2, h3, h4⟩ := pos_had h hf
  have hd := (findB_some hf).2
  rw [List.eraseIdx_eq_take_drop_succ]
  have hs : l = l.take (posB l key) ++ d :: l.drop (posB l key + 1) := by
    have : l.drop (posB l key) = d :: l.drop (posB l key + 1) := by
      rw [List.drop_eq_getElem_cons h1]
      rw [List.getElem?_eq_getElem h1] at h2
      rw [Option.some.inj h2]
    rw [← this, List.take_append_drop]
  unfold cutB
  conv => rhs; rw [hs]
  rw [List.filter_append, List.filter_cons_of_neg (by simp [hd])]
  congr 1
  · symm
    refine filter_all fun x hx => ?_
    rw [h3, List.mem_filter] at hx
    exact decide_eq_true (kk_lt_ne (of_decide_eq_true hx.2))
  · symm
    refine filter_all fun x hx => ?_
    rw [h4, List.mem_filter] at hx
    exact decide_eq_true (fun e => kk_lt_ne (of_decide_eq_true hx.2) e.symm)
theorem mem_setB {l : List B} {c x : B} : x ∈ setB l c ↔ x = c ∨ x ∈ l ∧ x.kk ≠ c.kk := by
  unfold setB
  rw [List.mem_append, List.mem_cons, List.mem_filter, List.mem_filter]
  constructor
  · rintro (⟨h1, h2⟩ | h | ⟨h1, h2⟩)
    · exact .inr ⟨h1, kk_lt_ne (of_decide_eq_true h2)⟩
    · exact .inl h
    · exact .inr ⟨h1, fun e => kk_lt_ne (of_decide_eq_true h2) e.symm⟩
  · rintro (h | ⟨h1, h2⟩)
    · exact .inr (.inl h)
    · rcases kk_tri x.kk c.kk with h3 | h3 | h3
      · exact .inl ⟨h1, decide_eq_true h3⟩
      · exact absurd h3 h2
      · exact .inr (.inr ⟨h1, decide_eq_true h3⟩)
theorem mem_cutB {l : List B} {key : List UInt8} {x : B} : x ∈ cutB l key ↔ x ∈ l ∧ x.kk ≠ key := by
  unfold cutB
  rw [List.mem_filter]
  simp
theorem rise_setB {l : List B} (h : Rise l) (c : B) : Rise (setB l c) := by
  unfold setB Rise
  rw [List.pairwise_append]
  refine ⟨h.sub List.filter_sublist, ?_, ?_⟩
  · rw [List.pairwise_cons]
    exact ⟨fun x hx => of_decide_eq_true (List.mem_filter.mp hx).2, h.sub List.filter_sublist⟩
  · intro a ha b hb
    have h1 := of_decide_eq_true (List.mem_filter.mp ha).2
    rcases List.mem_cons.mp hb with rfl | hb
    · exact h1
    · exact List.lt_trans h1 (of_decide_eq_true (List.mem_filter.mp hb).2)
theorem rise_cutB {l : List B} (h : Rise l) (key : List UInt8) : Rise (cutB l key) := h.sub List.filter_sublist
theorem find_setB {l : List B} (h : Rise l) (c : B) (key : List UInt8) : findB (setB l c) key = if key = c.kk then some c else findB l key := by
  by_cases hk : key = c.kk
  · subst hk
    rw [if_pos rfl]
    exact findB_mem (rise_setB h c) (mem_setB.2 (.inl rfl))
  · rw [if_neg hk]
    cases hf : findB l key with
    | none =>
      rw [findB_none] at hf ⊢
      intro x hx
      rcases mem_setB.1 hx with rfl | ⟨hx, _⟩
      · exact fun e => hk e.symm
      · exact hf x hx
    | some d =>
      rw [findB_iff h] at hf
      rw [findB_iff (rise_setB h c)]
      exact ⟨mem_setB.2 (.inr ⟨hf.1, by rw [hf.2]; exact hk⟩), hf.2⟩
theorem find_cutB {l : List B} (h : Rise l) (key k2 : List UInt8) : findB (cutB l key) k2 = if k2 = key then none else findB l k2 := by
  by_cases hk : k2 = key
  · subst hk
    rw [if_pos rfl, findB_none]
    exact fun x hx => (mem_cutB.1 hx).2
  · rw [if_neg hk]
    cases hf : findB l k2 with
    | none =>
      rw [findB_none] at hf ⊢
      exact fun x hx => hf x (mem_cutB.1 hx).1
    | some d =>
      rw [findB_iff h] at hf
      rw [findB_iff (rise_cutB h key)]
      exact ⟨mem_cutB.2 ⟨hf.1, by rw [hf.2]; exact hk⟩, hf.2⟩
/-- Rising cells are told by what is among them. -/
theorem Rise.ext : ∀ {l m : List B}, Rise l → Rise m → (∀ x, x ∈ l ↔ x ∈ m) → l = m
  | [], [], _, _, _ => rfl
  | [], b :: m, _, _, h => by have := (h b).2 (by simp); cases this
  | a :: l, [], _, _, h => by have := (h a).1 (by simp); cases this
  | a :: l, b :: m, hl, hm, h => by
    have hab : a = b := by
      rcases List.mem_cons.mp ((h a).1 (by simp)) with h1 | h1
      · exact h1
      · rcases List.mem_cons.mp ((h b).2 (by simp)) with h2 | h2
        · exact h2.symm
        · exact absurd (hl.head b h2) (kk_lt_asymm (hm.head a h1))
    subst hab
    rw [Rise.ext hl.tail hm.tail (fun x => ?_)]
    constructor
    · intro hx
      rcases List.mem_cons.mp ((h x).1 (by simp [hx])) with rfl | h1
      · exact absurd (hl.head x hx) (List.lt_irrefl _)
      · exact h1
    · intro hx
      rcases List.mem_cons.mp ((h x).2 (by simp [hx])) with rfl | h1
      · exact absurd (hm.head x hx) (List.lt_irrefl _)
      · exact h1
theorem cut_setB {l : List B} (h : Rise l) {c : B} (hf : findB l c.kk = none) : cutB (setB l c) c.kk = l := by
  refine Rise.ext (rise_cutB (rise_setB h c) _) h fun x => ?_
  rw [mem_cutB, mem_setB]
  rw [findB_none] at hf
  constructor
  · rintro ⟨rfl | ⟨h1, _⟩, h2⟩
    · exact absurd rfl h2
    · exact h1
  · exact fun hx => ⟨.inr ⟨hx, hf x hx⟩, hf x hx⟩
def tot (l : List B) : Nat := total (l.map B.cl)
theorem tot_nil : tot [] = 0 := rfl
theorem tot_cons (c : B) (l : List B) : tot (c :: l) = csize c.cl + tot l := by simp [tot, total]
theorem tot_append (l m : List B) : tot (l ++ m) = tot l + tot m := by simp [tot, total]
theorem perm_setB {l : List B} (h : Rise l) {c : B} (hf : findB l c.kk = none) : (setB l c).Perm (c :: l) := by
  rw [← set_none h hf]
  refine List.perm_middle.trans ?_
  rw [List.take_append_drop]
theorem tot_perm {l m : List B} (h : l.Perm m) : tot l = tot m := by
  unfold tot total
  exact ((h.map B.cl).map csize).sum_nat
theorem tot_set_none {l : List B} (h : Rise l) {c : B} (hf : findB l c.kk = none) : tot (setB l c) = tot l + csize c.cl := by
  rw [tot_perm (perm_setB h hf), tot_cons, Nat.add_comm]
theorem tot_set_had {l : List B} (h : Rise l) {c d : B} (hf : findB l c.kk = some d) : tot (setB l c) + csize d.cl = tot l + csize c.cl := by
  obtain ⟨h1, h2, h3, h4⟩ := pos_had h hf
  have hs : l = l.take (posB l c.kk) ++ d :: l.drop (posB l c.kk + 1) := by
    have : l.drop (posB l c.kk) = d :: l.drop (posB l c.kk + 1) := by
      rw [List.drop_eq_getElem_cons h1]
      rw [List.getElem?_eq_getElem h1] at h2
      rw [Option.some.inj h2]
    rw [← this, List.take_append_drop]
  have e1 : tot l = tot (l.filter (fun x => decide (x.kk < c.kk))) + (csize d.cl + tot (l.filter (fun x => decide (c.kk < x.kk)))) := by
    conv => lhs; rw [hs]
    rw [tot_append, tot_cons, h3, h4]
  rw [e1]
  unfold setB
  rw [tot_append, tot_cons]
  omega
theorem len_set_none {l : List B} (h : Rise l) {c : B} (hf : findB l c.kk = none) : (setB l c).length = l.length + 1 := (perm_setB h hf).length_eq
theorem tot_ge : ∀ (l : List B), 4 * l.length ≤ tot l
  | [] => by simp
  | c :: l => by
    have := tot_ge l
    have h2 : 4 ≤ csize c.cl := by unfold csize; omega
    rw [tot_cons, List.length_cons]
    omega
/-- Cells that can be written. -/
structure Good (l : List B) : Prop where
  rise : Rise l
  right : ∀ c ∈ l, right c.cl = true
theorem Good.nil : Good [] := ⟨List.Pairwise.nil, fun _ h => by cases h⟩
theorem Good.set {l : List B} (h : Good l) {c : B} (hc : CP.right c.cl = true) : Good (setB l c) := ⟨rise_setB h.rise c, fun x hx => by
  rcases mem_setB.1 hx with rfl | ⟨h1, _⟩
  · exact hc
  · exact h.right x h1⟩
theorem Good.cut {l : List B} (h : Good l) (key : List UInt8) : Good (cutB l key) := ⟨rise_cutB h.rise key, fun x hx => h.right x (mem_cutB.1 hx).1⟩
theorem Good.rises {l : List B} (h : Good l) : rises (l.map B.cl) = true := by
  refine rises_of (fun c hc => ?_) ?_
  · obtain ⟨b, hb, rfl⟩ := List.mem_map.1 hc
    exact h.right b hb
  · rw [List.map_map, List.pairwise_map]
    exact h.rise
theorem Good.put {l : List B} (h : Good l) : (tot l ≤ 239 → ∃ b, put (l.map B.cl) = some b) ∧ (¬ tot l ≤ 239 → put (l.map B.cl) = none) := by
  unfold CP.put
  have h1 := tot_ge l
  constructor
  · intro ht
    rw [if_pos ⟨by rw [List.length_map]; omega, h.rises, by unfold tot at ht; omega⟩]
    exact ⟨_, rfl⟩
  · intro ht
    rw [if_neg (fun hc => ht (by unfold tot; omega))]
theorem good_of_put {l : List B} {b : List UInt8} (h : CP.put (l.map B.cl) = some b) : Good l ∧ tot l ≤ 239 := by
  unfold CP.put at h
  split at h
  · rename_i hc
    refine ⟨⟨?_, fun c hc2 => rises_right hc.2.1 _ (List.mem_map_of_mem hc2)⟩, by unfold tot; omega⟩
    have := rises_nodup hc.2.1
    rw [List.map_map, List.pairwise_map] at this
    exact this
  · cases h
theorem good_of_get {s : ByteArray} {l : List B} (h : getF s = (l, true)) : Good l ∧ tot l ≤ 239 := good_of_put (putF_put (getF_true h))
theorem getF_false {s : ByteArray} {l : List B} (h : getF s = (l, false)) : l = [] := by
  unfold getF at h
  split at h
  · injection h with _ h2; cases h2
  · injection h with h1 _; exact h1.symm
theorem rise_getF (s : ByteArray) : Rise (getF s).1 := by
  rcases hg : getF s with ⟨l, b⟩
  cases b with
  | true => exact (good_of_get hg).1.rise
  | false => rw [getF_false hg]; exact List.Pairwise.nil
theorem len_getF (s : ByteArray) : (getF s).1.length < 300 := by
  rcases hg : getF s with ⟨l, b⟩
  cases b with
  | true => have := (good_of_get hg).2; have := tot_ge l; show l.length < 300; omega
  | false => rw [getF_false hg]; show 0 < 300; omega
/-- A page. -/
structure Pg where
  kind : Int
  depth : Int
  next : Int
  body : ByteArray
def Pg.none : Pg := ⟨0, 0, 0, ⟨#[]⟩⟩
def cellsP (p : Pg) : List B × Bool := if p.kind = 3 ∨ p.kind = 4 then getF p.body else ([], false)
def withP (p : Pg) (l : List B) : Pg × Int := if (putF (l.map B.cl)).2 then ({ p with body := (putF (l.map B.cl)).1 }, 0) else (Pg.none, 13)
def setP (p : Pg) (c : B) : Pg × Int := if (cellsP p).2 = false then (Pg.none, 2) else if right c.cl = false then (Pg.none, 1) else withP p (setB (cellsP p).1 c)
def cutP (p : Pg) (key : List UInt8) : Pg × Int := if (cellsP p).2 = false then (Pg.none, 2) else if (findB (cellsP p).1 key).isNone then (Pg.none, 3) else withP p (cutB (cellsP p).1 key)
def roomP (p : Pg) : Int := if (cellsP p).2 = false then 0 else 239 - (tot (cellsP p).1 : Nat)
theorem rise_cellsP (p : Pg) : Rise (cellsP p).1 := by
  unfold cellsP
  split
  · exact rise_getF _
  · exact List.Pairwise.nil
theorem len_cellsP (p : Pg) : (cellsP p).1.length < 300 := by
  unfold cellsP
  split
  · exact len_getF _
  · show 0 < 300; omega
end Go.Proofs.Ytcmepoakcffpaaa.CP
namespace Go.Proofs.Ytcmepoakcffpaaa.CP
open Go Go.RowKit Go.Proofs.YtcmepoakcffpaaaW.PrintWords Go.Proofs.YtcmepoakcffpaaaW.PrintLast Go.Proofs.YtcmepoakcffpaaaW.PrintMore Go.Proofs.Ytcmepoakcffpaaa.CR Go.Proofs.Ytcmepoakcffpaaa.L
set_option linter.unusedVariables false
set_option linter.unusedSimpArgs false
theorem bytes_compare0 : ∀ (a b : List UInt8), (Lib.compareBytes a b = 0) ↔ a = b
  | [], [] => by simp [Lib.compareBytes]
  | [], _ :: _ => by simp [Lib.compareBytes]
  | _ :: _, [] => by simp [Lib.compareBytes]
  | a :: x, b :: y => by
    have ih := bytes_compare0 x y
    unfold Lib.compareBytes
    by_cases h1 : a < b
    · rw [if_pos h1]
      simp only [show ¬ ((-1 : Int) = 0) by decide, false_iff, List.cons.injEq, not_and]
      intro e
      subst e
      exact absurd h1 (UInt8.lt_irrefl a)
    · rw [if_neg h1]
      by_cases h2 : b < a
      · rw [if_pos h2]
        simp only [show ¬ ((1 : Int) = 0) by decide, false_iff, List.cons.injEq, not_and]
        intro e
        subst e
        exact absurd h2 h1
      · rw [if_neg h2, ih]
        have e : a = b := UInt8.le_antisymm (UInt8.not_lt.mp h2) (UInt8.not_lt.mp h1)
        simp [e]
theorem posB_of {l : List B} {key : List UInt8} {i : Nat} (hi : i ≤ l.length) (h1 : ∀ t, t < i → (l.getD t default).kk < key) (h2 : ∀ t, i ≤ t → t < l.length → ¬ (l.getD t default).kk < key) : posB l key = i := by
  have e : l = l.take i ++ l.drop i := (List.take_append_drop i l).symm
  unfold posB
  rw [e, List.countP_append]
  have c1 : (l.take i).countP (fun c => decide (c.kk < key)) = i := by
    rw [List.countP_eq_length.mpr, List.length_take, Nat.min_eq_left hi]
    intro x hx
    obtain ⟨t, ht, rfl⟩ := List.mem_iff_getElem.1 hx
    rw [List.length_take] at ht
    have := h1 t (by omega)
    rw [List.getElem_take]
    rw [List.getD_eq_getElem?_getD, List.getElem?_eq_getElem (by omega)] at this
    simpa using this
  have c2 : (l.drop i).countP (fun c => decide (c.kk < key)) = 0 := by
    rw [List.countP_eq_zero]
    intro x hx
    obtain ⟨t, ht, rfl⟩ := List.mem_iff_getElem.1 hx
    rw [List.length_drop] at ht
    have := h2 (i + t) (by omega) (by omega)
    rw [List.getElem_drop]
    rw [List.getD_eq_getElem?_getD, List.getElem?_eq_getElem (by omega)] at this
    simpa using this
  rw [c1, c2]
  omega
theorem found_at {l : List B} (h : Rise l) (key : List UInt8) : (findB l key).isSome = (decide (posB l key < l.length) && decide ((l.getD (posB l key) default).kk = key)) := by
  cases hf : findB l key with
  | some c =>
    obtain ⟨h1, h2, _, _⟩ := pos_had h hf
    have hk := (findB_some hf).2
    rw [decide_eq_true h1, List.getD_eq_getElem?_getD, h2]
    simp [hk]
  | none =>
    rw [findB_none] at hf
    by_cases h1 : posB l key < l.length
    · rw [decide_eq_true h1]
      have := hf l[posB l key] (List.getElem_mem h1)
      rw [List.getD_eq_getElem?_getD, List.getElem?_eq_getElem h1]
      simpa using this
    · rw [decide_eq_false h1]
      rfl
set_option maxHeartbeats 1600000 in
theorem cmpKey_calls (x : B) (key : ByteArray) (W : World) : Calls Try.prog 35 #[x.val, .string key] W fun e w' => e = .returned (.int .i64 (Lib.compareBytes x.kk key.data.toList)) ∧ Eff0 W w' := by
  have hcon := fun W' => Try.strings_Compare x.k key W'
  unfold B.kk
  generalize Lib.compareBytes x.k.data.toList key.data.toList = r at hcon ⊢
  go_enter Try.func35, Try.ntmps35
  go_wp2_with (go_at_call 36; refine (hcon _).mono ?_; rintro e w' ⟨rfl, rfl⟩)
  go_ret
  exact ⟨rfl, (Eff.refl _ _).alloc _⟩
/-- What the search knows. -/
def SeaS (w : World) (l : List B) (key : List UInt8) (lo hi : Nat) (wr : World) : Prop := Eff0 w wr ∧ (∀ t, t < lo → (l.getD t default).kk < key) ∧ (∀ t, hi ≤ t → t < l.length → ¬ (l.getD t default).kk < key)
theorem rise_getD {l : List B} (h : Rise l) {a b : Nat} (hab : a < b) (hb : b < l.length) : (l.getD a default).kk < (l.getD b default).kk := by
  have := (List.pairwise_iff_getElem.mp h) a b (by omega) hb hab
  rw [List.getD_eq_getElem?_getD, List.getD_eq_getElem?_getD, List.getElem?_eq_getElem hb, List.getElem?_eq_getElem (by omega)]
  exact this
set_option maxHeartbeats 1600000 in
set_option maxRecDepth 100000 in
theorem search_calls (w : World) (A : Option Addr) (c : Nat) (l : List B) (key : ByteArray) (hr : Kd.C kdB w A l.length l) (hm : l.length < 300) (hs : Rise l) :
    Calls Try.prog 34 #[.slice A l.length c, .string key, .func (.func 35) #[] #[]] w fun e w' => e = .returned (.tuple #[.int .i64 ((posB l key.data.toList : Nat) : Int), .bool (findB l key.data.toList).isSome]) ∧ Eff0 w w' := by
  have eg : ∀ args w, (callFunc 35 args).run Try.prog w = .ok (.enter 35 args) w := enters_of Try.func35 (by kernel_rfl) rfl
  have hfa := found_at hs key.data.toList
  have H := Aside0.mk (And.intro hr hs)
  obtain ⟨fb, hfb⟩ : ∃ fb, fb = (findB l key.data.toList).isSome := ⟨_, rfl⟩
  obtain ⟨i0, hi0⟩ : ∃ i0, i0 = posB l key.data.toList := ⟨_, rfl⟩
  rw [← hfb, ← hi0] at hfa
  rw [← hfb, ← hi0]
  have HF := Aside0.mk (And.intro hi0 hfa)
  clear hr hs hfa hfb hi0
  go_enter Try.func34, Try.ntmps34
  go_wp2
  go_loopg [9, 10] l.length (fun k s9 s10 wr => ∃ lo hi : Nat, s9 = .int .i64 lo ∧ s10 = .int .i64 hi ∧ lo ≤ hi ∧ hi ≤ l.length ∧ hi - lo ≤ k ∧ Aside0 (SeaS w l key.data.toList lo hi wr))
  case atStart => exact ⟨0, l.length, rfl, rfl, Nat.zero_le _, Nat.le_refl _, by omega, Aside0.mk ⟨Eff.refl _ _, fun t ht => absurd ht (Nat.not_lt_zero _), fun t h1 h2 => absurd h2 (by omega)⟩⟩
  case round =>
    obtain ⟨lo, hi, rfl, rfl, h1, h2, h3, A1⟩ := hrel
    by_cases hlt : lo < hi
    · have p1 : ((lo : Int) < (hi : Int)) = True := eq_true (by omega)
      obtain ⟨m, hmm⟩ : ∃ m : Nat, m = (lo + hi) / 2 := ⟨_, rfl⟩
      have pm : ((lo : Int) + (hi : Int)) / 2 = (m : Int) := by omega
      have b1 : m < l.length := by omega
      have b2 : lo ≤ m := by omega
      have b3 : m < hi := by omega
      have pmi : ((m : Int) < (l.length : Int)) = True := eq_true (by omega)
      obtain ⟨ad, ea, x0, x1, x2, x3⟩ := at_B (Kd.C_below H.out.1 A1.out.1.below0) m b1
      subst ea
      obtain ⟨q, hq⟩ : ∃ q, q = l.getD m default := ⟨_, rfl⟩
      rw [← hq] at x0 x1 x2 x3
      have A2 := Aside0.mk hq
      have C := fun W => cmpKey_calls q key W
      unfold B.val at C
      have hc := bytes_compare q.kk key.data.toList
      generalize Lib.compareBytes q.kk key.data.toList = r at C hc
      clear hmm hq h1
      by_cases hr0 : r < 0
      · have A3 := Aside0.mk (hc.1 hr0)
        clear hc
        go_wp2_with (go_at_fn 35; refine (C _).mono ?_; rintro e w2 ⟨rfl, e2⟩)
        go_roundg (hi - (m + 1))
        case measure => omega
        case rel =>
          refine ⟨m + 1, hi, by simp, rfl, by omega, h2, Nat.le_refl _, Aside0.mk ⟨A1.out.1.then0 (by first | exact e2 | exact ((Eff.refl _ _).alloc _).then0 e2), fun t ht => ?_, A1.out.2.2⟩⟩
          have hk := A3.out
          rw [A2.out] at hk
          rcases Nat.lt_or_ge t m with h4 | h4
          · exact List.lt_trans (rise_getD H.out.2 h4 b1) hk
          · rw [show t = m by omega]; exact hk
      · have A3 := Aside0.mk (fun h => hr0 (hc.2 h))
        clear hc
        go_wp2_with (go_at_fn 35; refine (C _).mono ?_; rintro e w2 ⟨rfl, e2⟩)
        go_roundg (m - lo)
        case measure => omega
        case rel =>
          refine ⟨lo, m, rfl, rfl, b2, by omega, Nat.le_refl _, Aside0.mk ⟨A1.out.1.then0 (by first | exact e2 | exact ((Eff.refl _ _).alloc _).then0 e2), A1.out.2.1, fun t ht htl hlt2 => ?_⟩⟩
          have hk := A3.out
          rw [A2.out] at hk
          rcases Nat.lt_or_ge m t with h4 | h4
          · exact hk (List.lt_trans (rise_getD H.out.2 h4 htl) hlt2)
          · rw [show t = m by omega] at hlt2; exact hk hlt2
    · have p1 : ((lo : Int) < (hi : Int)) = False := eq_false (by omega)
      obtain rfl : lo = hi := by omega
      have hp : posB l key.data.toList = lo := posB_of h2 A1.out.2.1 A1.out.2.2
      obtain ⟨HF1, HF2⟩ := HF.out
      obtain rfl : i0 = lo := HF1.trans hp
      clear hlt h1 h3 hp HF1 HF
      by_cases hn : i0 < l.length
      · have p2 : ((i0 : Int) < (l.length : Int)) = True := eq_true (by omega)
        obtain ⟨ad, ea, x0, x1, x2, x3⟩ := at_B (Kd.C_below H.out.1 A1.out.1.below0) i0 hn
        subst ea
        obtain ⟨q, hq⟩ : ∃ q, q = l.getD i0 default := ⟨_, rfl⟩
        rw [← hq] at x0 x1 x2 x3 HF2
        rw [decide_eq_true hn] at HF2
        have C := fun W => cmpKey_calls q key W
        unfold B.val at C
        have hc := bytes_compare0 q.kk key.data.toList
        generalize Lib.compareBytes q.kk key.data.toList = r at C hc
        obtain rfl : fb = decide (r = 0) := by
          rw [HF2, Bool.true_and]
          exact decide_eq_decide.mpr hc.symm
        clear HF2 hc hq
        go_wp2_with (go_at_fn 35; refine (C _).mono ?_; rintro e w2 ⟨rfl, e2⟩)
        go_ret2
        exact ⟨rfl, A1.out.1.then0 (by first | exact e2 | exact ((Eff.refl _ _).alloc _).then0 e2)⟩
      · have p2 : ((i0 : Int) < (l.length : Int)) = False := eq_false (by omega)
        rw [decide_eq_false hn, Bool.false_and] at HF2
        subst HF2
        go_wp2
        go_ret2
        exact ⟨rfl, A1.out.1⟩
set_option maxHeartbeats 1600000 in
theorem at_calls (w : World) (A : Option Addr) (c : Nat) (l : List B) (key : ByteArray) (hr : Kd.C kdB w A l.length l) (hm : l.length < 300) (hs : Rise l) :
    Calls Try.prog 23 #[.slice A l.length c, .string key] w fun e w' => e = .returned (.tuple #[.int .i64 ((posB l key.data.toList : Nat) : Int), .bool (findB l key.data.toList).isSome]) ∧ Eff0 w w' := by
  have C := search_calls w A c l key hr hm hs
  generalize (findB l key.data.toList).isSome = b at C ⊢
  generalize posB l key.data.toList = i at C ⊢
  clear hr hs
  go_enter Try.func23, Try.ntmps23
  go_wp2_with (go_at_call 34; refine C.mono ?_; rintro e w' ⟨rfl, e1⟩)
  go_ret2
  exact ⟨rfl, e1⟩
end Go.Proofs.Ytcmepoakcffpaaa.CP
namespace Go.Proofs.Ytcmepoakcffpaaa.CP
open Go Go.RowKit Go.Proofs.YtcmepoakcffpaaaW.PrintWords Go.Proofs.YtcmepoakcffpaaaW.PrintLast Go.Proofs.YtcmepoakcffpaaaW.PrintMore Go.Proofs.Ytcmepoakcffpaaa.CR Go.Proofs.Ytcmepoakcffpaaa.L
set_option linter.unusedVariables false
set_option linter.unusedSimpArgs false
theorem lenB (x : B) : (cellsB x).length = 4 := rfl
abbrev RowB (w : World) (base g cap : Nat) (l : List B) : Prop := RowX cellsB 4 25 w base g cap l
theorem rowB_of {e base : Nat} {ok : Nat → Prop} {w : World} {g cap n : Nat} {l : List B} (h : kdB.R e w base ok (.slice (some ⟨g, 0, none⟩) n cap) l) : RowX cellsB 4 e w base g cap l := RowX.of_R (d := kdB) rfl (fun h => h) h
theorem rowB_to {w : World} {base g cap : Nat} {ok : Nat → Prop} {l : List B} (h : RowB w base g cap l) (hok : ok g) : kdB.R 25 w base ok (.slice (some ⟨g, 0, none⟩) l.length cap) l := RowX.toR (d := kdB) rfl lenB (fun _ _ _ _ => rfl) h hok
theorem oneB (l : List B) : ∀ u ∈ flatE cellsB l, u.oneCell' = true := by
  intro u hu
  obtain ⟨x, _, hx⟩ := List.mem_flatMap.1 hu
  simp only [cellsB, List.mem_cons, List.not_mem_nil, or_false] at hx
  rcases hx with rfl | rfl | rfl | rfl <;> rfl
theorem infoC0 : ∃ i0, Try.prog.info? 25 = some i0 ∧ i0.zero = some (.agg #[.string ⟨#[]⟩, .string ⟨#[]⟩, .int .i64 0, .int .i64 0]) ∧ i0.size = 4 ∧ i0.bytes = 48 := by
  obtain ⟨i0, hi, hz⟩ := Option.map_eq_some_iff.1 infoC
  simp only [Prod.mk.injEq] at hz
  exact ⟨i0, hi, hz.1, hz.2.1, hz.2.2⟩
set_option maxHeartbeats 1600000 in
set_option maxRecDepth 100000 in
/-- There is room: in place. -/
theorem insert_shift (w : World) (base g cap i vb : Nat) (l : List B) (c : B) (h : RowB w base g cap l) (hi : i < l.length) (hr : l.length + 1 ≤ cap) (hv : w.heap[vb]? = some (.cells (cellsB c).toArray 25 (0, 0))) (hne : vb ≠ g) :
    Calls Try.prog 25 #[.slice (some ⟨g, 0, none⟩) l.length cap, .int .i64 i, .slice (some ⟨vb, 0, none⟩) 1 1] w fun e w' => e = .returned (.slice (some ⟨g, 0, none⟩) (l.length + 1) cap) ∧ RowB w' base g cap (l.take i ++ c :: l.drop i) ∧ Eff (fun k => k = g) w w' := by
  obtain ⟨i0, hi0, hz0, hz1, hz2⟩ := infoC0
  have hcap : cap ≤ 9223372036854775807 := by have := h.max; simp only [maxLen] at this; omega
  obtain ⟨n, hn⟩ : ∃ n, n = l.length := ⟨_, rfl⟩
  obtain ⟨cur, rest, hh, hcur, hct⟩ := h.has
  have hov : ∀ lb cb, (callFunc 38 #[.slice (some ⟨vb, 0, none⟩) 1 1, .slice (some ⟨g, (i + 1) * 4, none⟩) lb cb]).run Try.prog w = .ok (.value (.bool false)) w := fun lb cb => by
    rw [run_callFunc_extern Try.func38 (by kernel_rfl) (by kernel_rfl) (by kernel_rfl) (e := Extern.SlicesOverlaps.overlaps #[40, 40] #[4]) (by kernel_rfl),
      Lib.run_overlaps_apart w 40 4 25 Try.underlying40 4 Try.sizeOf25 ⟨vb, 0, none⟩ ⟨g, (i + 1) * 4, none⟩ 1 1 lb cb hne 25 25 4 (cap * 4) (by simp [World.shape?, hv, cellsB]) (by simp [World.shape?, hh, hcur]) (by omega) (blk_frozen hv _) (blk_frozen hv _)]
    rfl
  have hcp1 : ∀ ty dc sc, (Builtin.copy_ #[40, 40] ty #[.slice (some ⟨g, (i + 1) * 4, none⟩) (n - i) dc, .slice (some ⟨g, i * 4, none⟩) (n + 1 - i) sc]).run Try.prog w.drew = .ok (goInt ((n - i : Nat) : Int)) (w.drew.setCells g ((i + 1) * 4) (flatE cellsB (l.drop i))) := fun ty dc sc => by
    have hmin : Nat.min (n + 1 - i) (n - i) = n - i := by simp only [Nat.min_def]; split <;> omega
    have hlen : (flatE cellsB (l.drop i)).length = (n - i) * 4 := by rw [flatE_length lenB, List.length_drop, ← hn]
    have := run_copyK (P := Try.prog) w.drew 40 40 ty 25 i0 4 Try.underlying40 hi0 hz1 g ((i + 1) * 4) (n - i) dc ⟨g, i * 4, none⟩ (n + 1 - i) sc (flatE cellsB (l.drop i)) (by rw [hmin, hlen])
      (fun j v hj => by
        rw [Addr.add_lit]
        refine h.cells (i * 4 + j) v ?_
        rw [flatE_parts l i, List.getElem?_append_right (by rw [flatE_length lenB, List.length_take]; omega), flatE_length lenB, List.length_take, Nat.min_eq_left (by omega), Nat.add_sub_cancel_left]
        exact hj)
      (fun j hj => h.some _ (by omega)) (fun j _ => h.free _) (oneB _)
    rw [hmin] at this
    exact this
  obtain ⟨W1, hW1⟩ : ∃ W1, W1 = w.drew.setCells g ((i + 1) * 4) (flatE cellsB (l.drop i)) := ⟨_, rfl⟩
  have e1 : Eff (fun k => k = g) w W1 := by rw [hW1]; exact (Eff.refl _ _).drew.trans (eff_setCells _ _ _ _) (fun _ h => .inl h)
  have hlen : (flatE cellsB (l.drop i)).length = (n - i) * 4 := by rw [flatE_length lenB, List.length_drop, ← hn]
  obtain ⟨cur1, h3, h4, h5⟩ := setCells_row (flatE cellsB (l.drop i)) ((i + 1) * 4) w.drew cur hh (by rw [hcur]; omega)
  rw [← hW1] at h3
  have hcp2 : ∀ ty dc, (Builtin.copy_ #[40, 40] ty #[.slice (some ⟨g, i * 4, none⟩) (n + 1 - i) dc, .slice (some ⟨vb, 0, none⟩) 1 1]).run Try.prog W1 = .ok (goInt ((1 : Nat) : Int)) (W1.setCells g (i * 4) (cellsB c)) := fun ty dc => by
    have hmin : Nat.min 1 (n + 1 - i) = 1 := by simp only [Nat.min_def]; split <;> omega
    have := run_copyK (P := Try.prog) W1 40 40 ty 25 i0 4 Try.underlying40 hi0 hz1 g (i * 4) (n + 1 - i) dc ⟨vb, 0, none⟩ 1 1 (cellsB c) (by rw [hmin]; rfl)
      (fun j v hj => by
        rw [Addr.add_lit, Nat.zero_add, e1.cell (blk_lt hv) (by exact hne), blk_cell hv j, List.getElem?_toArray]
        exact hj)
      (fun j hj => by rw [blk_cell h3]; simp only [cellsB, List.length_cons, List.length_nil] at hj; simp [h4, hcur]; omega) (fun j _ => blk_frozen h3 _) (by intro u hu; exact oneB [c] u (by simpa [flatE] using hu))
    rw [hmin] at this
    exact this
  have hfin : RowB (W1.setCells g (i * 4) (cellsB c)) base g cap (l.take i ++ c :: l.drop i) ∧ Eff (fun k => k = g) w (W1.setCells g (i * 4) (cellsB c)) := by
    refine ⟨?_, e1.trans (eff_setCells _ _ _ _) (fun _ h => .inl h)⟩
    rw [hW1]
    exact RowX.shift lenB (W := w.drew) ⟨h.le, h.len, h.max, cur, rest, hh, hcur, hct⟩ (by omega) hr c
  rw [← hn] at hi hr ⊢
  rw [← hW1] at hcp1
  have W0 := Aside0.mk hfin
  clear hn h hz0 hz1 hz2 hi0 hfin hW1 e1 h3 h4 h5 hlen hh hcur hct hv
  have p1 : ((i : Int) = (n : Int)) = False := eq_false (by omega)
  have p2 : ((n : Int) + 1 > (cap : Int)) = False := eq_false (by omega)
  have p3 : (0 ≤ (i : Int)) = True := eq_true (by omega)
  have p4 : ((i : Int) ≤ (n : Int)) = True := eq_true (by omega)
  have p5 : ((i : Int) ≤ (n : Int) + 1) = True := eq_true (by omega)
  have p6 : (0 ≤ (i : Int) + 1) = True := eq_true (by omega)
  have p8 : (cap = i) = False := eq_false (by omega)
  have p9 : (cap = i + 1) = False := eq_false (by omega)
  have p10 : ((i : Int) + 1).toNat = i + 1 := by omega
  have p11 : IntKind.i64.wrap ((i : Int) + 1) = (i : Int) + 1 := by rw [IntKind.wrap_i64]; omega
  have p12 : ((i : Int) + 1 ≤ (n : Int) + 1) = True := eq_true (by omega)
  have mixed : Try.prog.follows .mixedOrders = true := by kernel_rfl
  go_enter Try.func25, Try.ntmps25
  go_wp2
  go_region_law_o (refine step_bi rfl _ _ 40 40 rfl _ _ (by simp [Act.eval, Act.put]) (by simp [Act.eval, Act.put]) (hcp1 _ _ _) ?_)
  go_wp2_with (at_builtin; refine wpList_bi rfl _ _ 40 40 rfl _ _ rfl rfl (hcp2 _ _) ?_)
  go_ret
  exact ⟨rfl, W0.out⟩
end Go.Proofs.Ytcmepoakcffpaaa.CP
namespace Go.Proofs.Ytcmepoakcffpaaa.CP
open Go Go.RowKit Go.Proofs.YtcmepoakcffpaaaW.PrintWords Go.Proofs.YtcmepoakcffpaaaW.PrintLast Go.Proofs.YtcmepoakcffpaaaW.PrintMore Go.Proofs.Ytcmepoakcffpaaa.CR Go.Proofs.Ytcmepoakcffpaaa.L
set_option linter.unusedVariables false
set_option linter.unusedSimpArgs false
theorem reads1 {w : World} {vb : Nat} {c : B} (hv : w.heap[vb]? = some (.cells (cellsB c).toArray 25 (0, 0))) : Kd.C kdB w (some ⟨vb, 0, none⟩) 1 [c] := by
  refine ⟨rfl, by omega, fun _ => ⟨_, rfl, fun j p hj => ?_⟩⟩
  have h0 : j = 0 := by
    rcases j with _ | j
    · rfl
    · simp at hj
  subst h0
  simp only [List.getElem?_cons_zero, Option.some.injEq] at hj
  subst hj
  refine ⟨cellsB c, rfl, rfl, fun i u hu => ?_⟩
  rw [Addr.add_lit, blk_cell hv, List.getElem?_toArray]
  simpa using hu
set_option maxHeartbeats 1600000 in
set_option maxRecDepth 100000 in
/-- At the end: an append. -/
theorem insert_end (w : World) (base : Nat) (A : Option Addr) (cap vb : Nat) (l : List B) (c : B) (h : kdB.R 25 w base (fun _ => True) (.slice A l.length cap) l) (hb : base ≤ w.heap.size) (hm : l.length < 900000) (hv : w.heap[vb]? = some (.cells (cellsB c).toArray 25 (0, 0))) :
    Calls Try.prog 25 #[.slice A l.length cap, .int .i64 l.length, .slice (some ⟨vb, 0, none⟩) 1 1] w fun e w' => ∃ v', e = .returned v' ∧ kdB.R 25 w' base (fun _ => True) v' (l ++ [c]) ∧ Eff (fun k => (Value.slice A l.length cap).ownBlock = some k) w w' := by
  have H := Aside0.mk h
  have HV := Aside0.mk (reads1 hv)
  clear h hv
  by_cases hc : cap = l.length
  · have pc : (cap = l.length) = True := eq_true hc
    clear hc
    go_enter Try.func25, Try.ntmps25
    go_wp2_with (first | (at_builtin; refine Kd.R_append_rows kdB (w0 := w) base rfl (.tmp 23) (.tmp 24) 40 25 (.agg #[.string ⟨#[]⟩, .string ⟨#[]⟩, .int .i64 0, .int .i64 0]) 48 rfl Try.underlying40 infoC rfl (by decide) (by omega) (.slice A l.length cap) l [c] (some ⟨vb, 0, none⟩) 1 1 (fun _ => True) (fun _ => False) rfl rfl H.out HV.out (fun _ _ h => h) (fun _ h => h.elim) (fun _ _ => trivial) (Below.refl _ _) hb (by omega) ?_; intro v1 w1 ho hb1 hg hat; have A1 := Aside0.mk (And.intro ho hg); clear ho hb1 hg hat))
    go_ret
    exact ⟨_, rfl, A1.out.1, Eff.of_grown A1.out.2 (fun i hi => hi)⟩
  · have pc : (cap = l.length) = False := eq_false hc
    clear hc
    go_enter Try.func25, Try.ntmps25
    go_wp2_with (first | (at_builtin; refine Kd.R_append_rows kdB (w0 := w) base rfl (.tmp 23) (.tmp 24) 40 25 (.agg #[.string ⟨#[]⟩, .string ⟨#[]⟩, .int .i64 0, .int .i64 0]) 48 rfl Try.underlying40 infoC rfl (by decide) (by omega) (.slice A l.length cap) l [c] (some ⟨vb, 0, none⟩) 1 1 (fun _ => True) (fun _ => False) rfl rfl H.out HV.out (fun _ _ h => h) (fun _ h => h.elim) (fun _ _ => trivial) (Below.refl _ _) hb (by omega) ?_; intro v1 w1 ho hb1 hg hat; have A1 := Aside0.mk (And.intro ho hg); clear ho hb1 hg hat))
    go_ret
    exact ⟨_, rfl, A1.out.1, Eff.of_grown A1.out.2 (fun i hi => hi)⟩
set_option maxHeartbeats 1600000 in
set_option maxRecDepth 100000 in
/-- There is no room: a new row. -/
theorem insert_grow (w : World) (base g cap i vb : Nat) (l : List B) (c : B) (h : RowB w base g cap l) (hb : base ≤ w.heap.size) (hi : i < l.length) (hr : cap < l.length + 1) (hm : l.length < 900000) (hv : w.heap[vb]? = some (.cells (cellsB c).toArray 25 (0, 0))) :
    Calls Try.prog 25 #[.slice (some ⟨g, 0, none⟩) l.length cap, .int .i64 i, .slice (some ⟨vb, 0, none⟩) 1 1] w fun e w' => ∃ g' cap', e = .returned (.slice (some ⟨g', 0, none⟩) (l.length + 1) cap') ∧ RowB w' base g' cap' (l.take i ++ c :: l.drop i) ∧ Eff0 w w' := by
  obtain ⟨i0, hi0, hz0, hz1, hz2⟩ := infoC0
  obtain ⟨n, hn⟩ : ∃ n, n = l.length := ⟨_, rfl⟩
  have hcn : n = cap := by have := h.len; omega
  subst hcn
  obtain ⟨q, hq⟩ : ∃ q, i + q = n + 1 := ⟨n + 1 - i, by omega⟩
  have lT : (flatE cellsB (l.take i)).length = i * 4 := by rw [flatE_length lenB, List.length_take, Nat.min_eq_left (by omega)]
  have lD : (flatE cellsB (l.drop i)).length = (n - i) * 4 := by rw [flatE_length lenB, List.length_drop, ← hn]
  have hold : (Builtin.firstCells i0.size i (.slice (some ⟨g, 0, none⟩) i n)).run Try.prog w.drew = .ok (flatE cellsB (l.take i)).toArray w.drew := by
    refine run_firstCells_some (P := Try.prog) w.drew i0.size i ⟨g, 0, none⟩ i n _ (by rw [lT, hz1]) (fun j u hj => ?_)
    rw [Addr.add_lit, Nat.zero_add]
    refine h.cells j u ?_
    rw [flatE_parts l i, List.getElem?_append_left (List.getElem?_eq_some_iff.1 hj).1, hj]
  obtain ⟨cap', hcap⟩ : ∃ cap', cap' = grownCap w (i + q) n 25 := ⟨_, rfl⟩
  have hc1 : i + q ≤ cap' := by rw [hcap]; exact grownCap_ge w (i + q) n _
  have hc2 : cap' ≤ maxLen := by rw [hcap]; exact grownCap_le_maxLen w (i + q) n _ (by simp only [maxLen]; omega)
  have hrun : ∀ ty, (Builtin.append_ #[40, 3] ty #[.slice (some ⟨g, 0, none⟩) i n, .int .i64 q]).run Try.prog w = _ := fun ty => Lib.run_append_grow_zeros w 40 3 ty 25 i0 (.agg #[.string ⟨#[]⟩, .string ⟨#[]⟩, .int .i64 0, .int .i64 0]) .i64 .i64 Try.underlying40 Try.underlying3 hi0 hz0 (some ⟨g, 0, none⟩) i n _ hold q (by omega) (by rw [hz1]; decide) (by omega) (by omega) (by rw [hz2]; omega) (growslice_fits (bytes := i0.bytes) (by omega) (by rw [hz2]; omega))
  rw [← hcap] at hrun
  have lZ : (Builtin.zeroCells (Value.agg #[.string ⟨#[]⟩, .string ⟨#[]⟩, .int .i64 0, .int .i64 0]).cells q).size = q * 4 := by rw [size_zeroCells]; rfl
  have lY : (Builtin.zeroCells (Value.agg #[.string ⟨#[]⟩, .string ⟨#[]⟩, .int .i64 0, .int .i64 0]).cells (cap' - (i + q))).size = (cap' - (i + q)) * 4 := by rw [size_zeroCells]; rfl
  obtain ⟨cur, hcur⟩ : ∃ cur, cur = (flatE cellsB (l.take i)).toArray ++ Builtin.zeroCells (Value.agg #[.string ⟨#[]⟩, .string ⟨#[]⟩, .int .i64 0, .int .i64 0]).cells q ++ Builtin.zeroCells (Value.agg #[.string ⟨#[]⟩, .string ⟨#[]⟩, .int .i64 0, .int .i64 0]).cells (cap' - (i + q)) := ⟨_, rfl⟩
  rw [← hcur] at hrun
  have hcs : cur.size = cap' * 4 := by rw [hcur, Array.size_append, Array.size_append, lZ, lY, List.size_toArray, lT]; omega
  have hct : ∃ rest, cur.toList = flatE cellsB (l.take i) ++ rest := ⟨_, by rw [hcur, Array.toList_append, Array.toList_append, List.append_assoc]⟩
  clear hcur lZ lY
  obtain ⟨rest, hct⟩ := hct
  have e1 : Eff0 w (w.drew.alloc (.cells cur 25)) := (Eff.refl _ _).drew.alloc _
  have hh : (w.drew.alloc (.cells cur 25)).heap[w.heap.size]? = some (.cells cur 25 (0, 0)) := heap_alloc_new w.drew _
  have hgl : g < w.heap.size := by obtain ⟨cur0, _, hh0, _⟩ := h.has; exact blk_lt hh0
  obtain ⟨G, hG⟩ : ∃ G, G = w.heap.size := ⟨_, rfl⟩
  obtain ⟨W1, hW1⟩ : ∃ W1, W1 = w.drew.alloc (.cells cur 25) := ⟨_, rfl⟩
  rw [← hG, ← hW1] at hrun
  rw [← hG, ← hW1] at hh
  rw [← hW1] at e1
  have hcp1 : ∀ ty dc, (Builtin.copy_ #[40, 40] ty #[.slice (some ⟨G, i * 4, none⟩) (n + 1 - i) dc, .slice (some ⟨vb, 0, none⟩) 1 1]).run Try.prog W1 = .ok (goInt ((1 : Nat) : Int)) (W1.setCells G (i * 4) (cellsB c)) := fun ty dc => by
    rw [show n + 1 - i = q by omega]
    have hmin : Nat.min 1 q = 1 := by simp only [Nat.min_def]; split <;> omega
    have := run_copyK (P := Try.prog) W1 40 40 ty 25 i0 4 Try.underlying40 hi0 hz1 G (i * 4) q dc ⟨vb, 0, none⟩ 1 1 (cellsB c) (by rw [hmin]; rfl)
      (fun j v hj => by
        rw [Addr.add_lit, Nat.zero_add, e1.cell (blk_lt hv) id, blk_cell hv j, List.getElem?_toArray]
        exact hj)
      (fun j hj => by rw [blk_cell hh]; simp only [cellsB, List.length_cons, List.length_nil] at hj; simp [hcs]; omega) (fun j _ => blk_frozen hh _) (by intro u hu; exact oneB [c] u (by simpa [flatE] using hu))
    rw [hmin] at this
    exact this
  obtain ⟨W2, hW2⟩ : ∃ W2, W2 = W1.setCells G (i * 4) (cellsB c) := ⟨_, rfl⟩
  rw [← hW2] at hcp1
  have e2 : Eff (fun k => k = G) w W2 := by rw [hW2]; exact (e1.any _).trans (eff_setCells _ _ _ _) (fun _ h => .inl h)
  obtain ⟨cur2, g3, g4, g5⟩ := setCells_row (cellsB c) (i * 4) W1 cur hh (by rw [hcs]; simp only [cellsB, List.length_cons, List.length_nil]; omega)
  rw [← hW2] at g3
  have hcp2 : ∀ ty dc sc, (Builtin.copy_ #[40, 40] ty #[.slice (some ⟨G, (i + 1) * 4, none⟩) (n - i) dc, .slice (some ⟨g, i * 4, none⟩) (n - i) sc]).run Try.prog W2.drew = .ok (goInt ((n - i : Nat) : Int)) (W2.drew.setCells G ((i + 1) * 4) (flatE cellsB (l.drop i))) := fun ty dc sc => by
    have hmin : Nat.min (n - i) (n - i) = n - i := Nat.min_self _
    have := run_copyK (P := Try.prog) W2.drew 40 40 ty 25 i0 4 Try.underlying40 hi0 hz1 G ((i + 1) * 4) (n - i) dc ⟨g, i * 4, none⟩ (n - i) sc (flatE cellsB (l.drop i)) (by rw [hmin, lD])
      (fun j v hj => by
        rw [Addr.add_lit]
        show W2.cell? _ = _
        rw [e2.cell hgl (by omega)]
        refine h.cells (i * 4 + j) v ?_
        rw [flatE_parts l i, List.getElem?_append_right (by omega), lT, Nat.add_sub_cancel_left]
        exact hj)
      (fun j hj => by show (W2.cell? _).isSome = true; rw [blk_cell g3]; simp [g4, hcs]; omega) (fun j _ => blk_frozen (w := W2) g3 _) (oneB _)
    rw [hmin] at this
    exact this
  have hfin : RowB (W2.drew.setCells G ((i + 1) * 4) (flatE cellsB (l.drop i))) base G cap' (l.take i ++ c :: l.drop i) ∧ Eff0 w (W2.drew.setCells G ((i + 1) * 4) (flatE cellsB (l.drop i))) := by
    refine ⟨?_, ⟨?_, ?_, ?_, ?_, ?_⟩⟩
    · rw [hW2, drew_setCells]
      exact rowX_grow (W := W1.drew) lenB (by omega) hh hcs hct (by omega) (by omega) hc2 c
    all_goals
      have e3 : Eff (fun k => k = G) w (W2.drew.setCells G ((i + 1) * 4) (flatE cellsB (l.drop i))) := e2.drew.trans (eff_setCells _ _ _ _) (fun _ h => .inl h)
    · exact e3.os
    · exact e3.tape
    · exact e3.output
    · exact e3.size
    · exact fun k hk _ => e3.block k hk (by omega)
  have W0 := Aside0.mk hfin
  rw [← hn] at hi hm ⊢
  clear h hfin hz0 hz1 hz2 hi0 hW1 hW2 e1 e2 g3 g4 g5 hh hcs hct hv hold lT lD hcap hn hr hG hgl
  have p1 : ((i : Int) = (n : Int)) = False := eq_false (by omega)
  have p2 : ((n : Int) + 1 > (n : Int)) = True := eq_true (by omega)
  have p3 : (0 ≤ (i : Int)) = True := eq_true (by omega)
  have p4 : ((i : Int) ≤ (n : Int)) = True := eq_true (by omega)
  have p5 : (n : Int) + 1 - (i : Int) = (q : Int) := by omega
  have p6 : (0 ≤ (i : Int) + 1) = True := eq_true (by omega)
  have p8 : (n = i) = False := eq_false (by omega)
  have p9 : (cap' = i + 1) = False := eq_false (by omega)
  have p13 : (cap' = i) = False := eq_false (by omega)
  have p10 : ((i : Int) + 1).toNat = i + 1 := by omega
  have p11 : IntKind.i64.wrap ((i : Int) + 1) = (i : Int) + 1 := by rw [IntKind.wrap_i64]; omega
  have p12 : ((i : Int) + 1 ≤ (n : Int) + 1) = True := eq_true (by omega)
  have p14 : ((i : Int) ≤ (n : Int) + 1) = True := eq_true (by omega)
  rw [hq] at hrun
  clear hq
  have mixed : Try.prog.follows .mixedOrders = true := by kernel_rfl
  go_enter Try.func25, Try.ntmps25
  go_wp2_with (first
    | (at_builtin; refine Lib.wpList_append_run _ rfl _ _ _ _ rfl _ _ rfl rfl _ _ (hrun _) ?_)
    | (at_builtin; refine wpList_bi rfl _ _ 40 40 rfl _ _ rfl rfl (hcp1 _ _) ?_))
  go_region_law_o (refine step_bi rfl _ _ 40 40 rfl _ _ (by simp [Act.eval, Act.put]) (by simp [Act.eval, Act.put]) (hcp2 _ _ _) ?_)
  go_wp2
  go_ret
  exact ⟨G, cap', rfl, W0.out⟩
end Go.Proofs.Ytcmepoakcffpaaa.CP
namespace Go.Proofs.Ytcmepoakcffpaaa.CP
open Go Go.RowKit Go.Proofs.YtcmepoakcffpaaaW.PrintWords Go.Proofs.YtcmepoakcffpaaaW.PrintLast Go.Proofs.YtcmepoakcffpaaaW.PrintMore Go.Proofs.Ytcmepoakcffpaaa.CR Go.Proofs.Ytcmepoakcffpaaa.L
set_option linter.unusedVariables false
set_option linter.unusedSimpArgs false
abbrev zB : B := ⟨⟨#[]⟩, ⟨#[]⟩, 0, 0⟩
theorem zeroB : (Builtin.zeroCells (Value.agg #[.string ⟨#[]⟩, .string ⟨#[]⟩, .int .i64 0, .int .i64 0]).cells 1).toList = cellsB zB := by
  simp [Builtin.zeroCells, Value.cells, Array.range, cellsB]
theorem infoSz : (Try.prog.info? 25).map (·.size) = some kdB.sz := by
  obtain ⟨i0, hi0, hz0, hz1, hz2⟩ := infoC0
  rw [hi0]
  exact congrArg some hz1
set_option maxHeartbeats 1600000 in
set_option maxRecDepth 100000 in
theorem delete_calls (w : World) (base g cap i m : Nat) (l : List B) (h : kdB.R 25 w base (fun _ => True) (.slice (some ⟨g, 0, none⟩) (m + 1) cap) l) (hb : base ≤ w.heap.size) (hi : i < m + 1) (hm : m < 900000) :
    Calls Try.prog 27 #[.slice (some ⟨g, 0, none⟩) (m + 1) cap, .int .i64 i, .int .i64 ((i : Int) + 1)] w fun e w' => e = .returned (.slice (some ⟨g, 0, none⟩) m cap) ∧ kdB.R 25 w' base (fun _ => True) (.slice (some ⟨g, 0, none⟩) m cap) (l.eraseIdx i) ∧ Eff (fun k => k = g) w w' := by
  obtain ⟨hl, hlc, _⟩ := Kd.R_reads' h
  have CL : ∀ w1, kdB.R 25 w1 base (fun _ => True) (.slice (some ⟨g, 0, none⟩) (m + 1 - 1) cap) (l.eraseIdx i) → w.drew.grownBy w1 (some g) → (∀ ty c2, (Builtin.clear_ #[40] ty #[.slice (some ⟨g, m * 4, none⟩) 1 c2]).run Try.prog w1 = .ok (.tuple #[]) (w1.setCells g (m * 4) (cellsB zB))) ∧
      Aside0 (kdB.R 25 (w1.setCells g (m * 4) (cellsB zB)) base (fun _ => True) (.slice (some ⟨g, 0, none⟩) m cap) (l.eraseIdx i) ∧ Eff (fun k => k = g) w (w1.setCells g (m * 4) (cellsB zB))) := by
    intro w1 h1 hg
    rw [show m + 1 - 1 = m by omega] at h1
    have hr := rowB_of h1
    have hle : (l.eraseIdx i).length = m := by rw [List.length_eraseIdx_of_lt (by omega)]; omega
    refine ⟨fun ty c2 => by
      have := run_clearK (P := Try.prog) (n := 1) w1 40 25 ty _ Try.underlying40 Try.zeroValue25 (by rw [zeroB]; exact fun u hu => oneB [zB] u (by simpa [flatE] using hu)) g (m * 4) c2 (by decide) (fun j hj => by rw [zeroB, lenB] at hj; exact hr.some _ (by omega)) (fun j _ => hr.free _)
      rwa [zeroB] at this, Aside0.mk ⟨?_, ?_⟩⟩
    · have h2 := rowB_to (ok := fun _ => True) (RowX.behind lenB hr (o := m * 4) (vs := (cellsB zB)) (by omega) (by rw [lenB]; omega)) trivial
      rwa [hle] at h2
    · exact ((Eff.refl _ w).drew.trans (Eff.of_grown hg (S := fun k => k = g) (fun k hk => by injection hk with hk; exact hk.symm)) (fun _ h => .inl h)).trans (eff_setCells _ _ _ _) (fun _ h => .inl h)
  have H := Aside0.mk (Kd.R_drew h)
  clear h
  have p1 : ((i : Int) = (i : Int) + 1) = False := eq_false (by omega)
  have p2 : ((i : Int) ≤ (m : Int) + 1) = True := eq_true (by omega)
  have p3 : (0 ≤ (i : Int)) = True := eq_true (by omega)
  have p4 : ((i : Int) ≤ (i : Int) + 1) = True := eq_true (by omega)
  have p5 : ((i : Int) + 1 ≤ (m : Int) + 1) = True := eq_true (by omega)
  have p6 : (0 ≤ (i : Int) + 1) = True := eq_true (by omega)
  have p7 : ((m : Int) + 1 ≤ (cap : Int)) = True := eq_true (by omega)
  have p8 : ((i : Int) ≤ (cap : Int)) = True := eq_true (by omega)
  have p10 : ((i : Int) + 1).toNat = i + 1 := by omega
  have p12 : (cap = m) = False := eq_false (by omega)
  have p13 : (cap = i) = False := eq_false (by omega)
  have mixed : Try.prog.follows .mixedOrders = true := by kernel_rfl
  clear hl hlc
  by_cases hc : cap = i + 1
  · have pc : (cap = i + 1) = True := eq_true hc
    have HC := Aside0.mk hc
    clear hc
    go_enter Try.func27, Try.ntmps27
    go_wp2
    go_region_law_o (refine Kd.R_delete_step kdB (w0 := w.drew) base rfl (.tmp 22) (.tmp 25) 40 25 rfl Try.underlying40 infoSz (g := g) (n := m + 1) (c := cap) (k := i) (by simp [Act.eval, Act.put]) (by simp [Act.eval, Act.put]; exact ⟨rfl, rfl, rfl⟩) (by simp [HC.out]) (by omega) H.out hi (Below.refl _ _) hb ?_; intro w1 h1 _ hg; obtain ⟨hcl, A1⟩ := CL w1 h1 hg; clear CL h1 hg)
    go_wp2
    go_ret
    exact ⟨rfl, A1.out⟩
  · have pc : (cap = i + 1) = False := eq_false hc
    have HC := Aside0.mk hc
    clear hc
    go_enter Try.func27, Try.ntmps27
    go_wp2
    go_region_law_o (refine Kd.R_delete_step kdB (w0 := w.drew) base rfl (.tmp 22) (.tmp 25) 40 25 rfl Try.underlying40 infoSz (g := g) (n := m + 1) (c := cap) (k := i) (by simp [Act.eval, Act.put]) (by simp [Act.eval, Act.put]; exact ⟨rfl, rfl, rfl⟩) (by rw [if_neg HC.out, Option.map_some, Addr.add_lit, Nat.zero_add]; rfl) (by omega) H.out hi (Below.refl _ _) hb ?_; intro w1 h1 _ hg; obtain ⟨hcl, A1⟩ := CL w1 h1 hg; clear CL h1 hg)
    go_wp2
    go_ret
    exact ⟨rfl, A1.out⟩
end Go.Proofs.Ytcmepoakcffpaaa.CP
namespace Go.Proofs.Ytcmepoakcffpaaa.CP
open Go Go.RowKit Go.Proofs.YtcmepoakcffpaaaW.PrintWords Go.Proofs.YtcmepoakcffpaaaW.PrintLast Go.Proofs.YtcmepoakcffpaaaW.PrintMore Go.Proofs.Ytcmepoakcffpaaa.CR Go.Proofs.Ytcmepoakcffpaaa.L
set_option linter.unusedVariables false
set_option linter.unusedSimpArgs false
abbrev Pg.val (p : Pg) : Value := .agg #[.int .i64 p.kind, .int .i64 p.depth, .int .i64 p.next, .string p.body]
set_option maxHeartbeats 1600000 in
set_option maxRecDepth 100000 in
theorem cells_calls (w : World) (p : Pg) : Calls Try.prog 22 #[p.val] w fun e w' => ∃ v, e = .returned (.tuple #[v, .bool (cellsP p).2]) ∧ kdB.R 25 w' w.heap.size (fun _ => True) v (cellsP p).1 ∧ Below w.heap.size w w' := by
  have CG := fun W => get_calls W p.body
  unfold cellsP
  by_cases h : p.kind = 3 ∨ p.kind = 4
  · rw [if_pos h]
    have CG2 : ∀ W, Eff0 w W → Calls Try.prog 33 #[.string p.body] W fun e w' => ∃ v, e = .returned (.tuple #[v, .bool (getF p.body).2]) ∧ Aside0 (kdB.R 25 w' w.heap.size (fun _ => True) v (getF p.body).1 ∧ Below w.heap.size w w') := fun W e0 => (CG W).mono fun e w' ⟨v, he, hR, hB⟩ => ⟨v, he, Aside0.mk ⟨Kd.R_lower hR e0.size, (e0.then0 (Eff.of_below hB)).below0⟩⟩
    clear CG
    generalize getF p.body = r at CG2 ⊢
    obtain ⟨r1, r2⟩ := r
    dsimp only at CG2 ⊢
    obtain ⟨k, dp, nx, body⟩ := p
    dsimp only at h CG2 ⊢
    rcases h with rfl | rfl
    all_goals
      go_enter Try.func22, Try.ntmps22
      go_wp2_with (go_at_call 33; refine (CG2 _ ((Eff.refl _ _).alloc _)).mono ?_; rintro e w1 ⟨v, rfl, A1⟩)
      go_ret2
      exact ⟨v, rfl, A1.out⟩
  · rw [if_neg h]
    clear CG
    obtain ⟨k, dp, nx, body⟩ := p
    have h3 : (k = 3) = False := eq_false (fun e => h (.inl e))
    have h4 : (k = 4) = False := eq_false (fun e => h (.inr e))
    have h5 : (k != 3) = true := bne_iff_ne.mpr (fun e => h (.inl e))
    have h6 : (k != 4) = true := bne_iff_ne.mpr (fun e => h (.inr e))
    clear h
    go_enter Try.func22, Try.ntmps22
    go_wp2
    go_ret2
    exact ⟨_, rfl, Kd.R_nil _ _ _ _ _, below_alloc (Below.refl _ _) _⟩

/-- What a page's cells are, for the walks: the row, and the reading's end. -/
def CellsS (w w' : World) (v : Value) (l : List B) : Prop := kdB.R 25 w' w.heap.size (fun _ => True) v l ∧ Below w.heap.size w w'
theorem CellsS.R {w w' : World} {v : Value} {l : List B} (h : CellsS w w' v l) : kdB.R 25 w' w.heap.size (fun _ => True) v l := h.1
theorem cells_from (w W : World) (e0 : Eff0 w W) (p : Pg) : Calls Try.prog 22 #[p.val] W fun e w' => ∃ A c, e = .returned (.tuple #[.slice A (cellsP p).1.length c, .bool (cellsP p).2]) ∧ Aside0 (kdB.R 25 w' W.heap.size (fun _ => True) (.slice A (cellsP p).1.length c) (cellsP p).1 ∧ Eff0 W w') := by
  refine (cells_calls W p).mono ?_
  rintro e w' ⟨v, he, hR, hB⟩
  obtain ⟨A, c, rfl⟩ := Kd.R_slice hR
  exact ⟨A, c, he, Aside0.mk ⟨hR, Eff.of_below hB⟩⟩
set_option maxHeartbeats 1600000 in
set_option maxRecDepth 100000 in
theorem bcells_calls (w : World) (p : Pg) : Calls Try.prog 17 #[p.val] w fun e w' => ∃ v, e = .returned v ∧ kdB.R 25 w' w.heap.size (fun _ => True) v (cellsP p).1 ∧ Below w.heap.size w w' := by
  have C := fun W e0 => cells_from w W e0 p
  generalize (cellsP p).1 = l at C ⊢
  generalize (cellsP p).2 = b at C ⊢
  unfold Pg.val at C
  go_enter Try.func17, Try.ntmps17
  go_wp2_with (go_at_call 22; refine (C _ ((Eff.refl _ _).alloc _)).mono ?_; rintro e w1 ⟨A, c, rfl, A1⟩)
  go_ret
  exact ⟨_, rfl, Kd.R_lower A1.out.1 (by simp), ((((Eff.refl _ _).alloc _).then0 A1.out.2)).below0⟩
/-- Two pages of the call's own: the one that came in, and the answer's. -/
structure TwoP (w : World) (p q : Pg) (w1 : World) : Prop where
  a : w1.heap[w.heap.size]? = some (.cells #[.int .i64 p.kind, .int .i64 p.depth, .int .i64 p.next, .string p.body] 23 (0, 0))
  b : w1.heap[w.heap.size + 1]? = some (.cells #[.int .i64 q.kind, .int .i64 q.depth, .int .i64 q.next, .string q.body] 23 (0, 0))
  e : Eff0 w w1
theorem TwoP.made (w : World) (p : Pg) {w1 : World} (e1 : Eff0 ((w.alloc (.cells #[.int .i64 p.kind, .int .i64 p.depth, .int .i64 p.next, .string p.body] 23 (0, 0))).alloc (.cells #[.int .i64 0, .int .i64 0, .int .i64 0, .string ⟨#[]⟩] 23 (0, 0))) w1) : TwoP w p Pg.none w1 := by
  have h1 := heap_alloc2_old w (.cells #[.int .i64 p.kind, .int .i64 p.depth, .int .i64 p.next, .string p.body] 23 (0, 0)) (.cells #[.int .i64 0, .int .i64 0, .int .i64 0, .string ⟨#[]⟩] 23 (0, 0))
  have h2 := heap_alloc2_new w (.cells #[.int .i64 p.kind, .int .i64 p.depth, .int .i64 p.next, .string p.body] 23 (0, 0)) (.cells #[.int .i64 0, .int .i64 0, .int .i64 0, .string ⟨#[]⟩] 23 (0, 0))
  refine ⟨?_, ?_, ((Eff.refl _ _).alloc _ |>.alloc _).then0 e1⟩
  · rw [e1.block _ (blk_lt h1) id]; exact h1
  · rw [e1.block _ (blk_lt h2) id]; exact h2
theorem four_set {w : World} {b t : Nat} {x0 x1 x2 x3 : Value} (h : w.heap[b]? = some (.cells #[x0, x1, x2, x3] t (0, 0))) (y0 y1 y2 y3 : Value) : ((((w.setCell ⟨b, 0, none⟩ y0).setCell ⟨b, 1, none⟩ y1).setCell ⟨b, 2, none⟩ y2).setCell ⟨b, 3, none⟩ y3).heap[b]? = some (.cells #[y0, y1, y2, y3] t (0, 0)) :=
  blk_set (blk_set (blk_set (blk_set h 0 y0) 1 y1) 2 y2) 3 y3
theorem far_set {w : World} {b b' o : Nat} {x : Option Obj} (h : w.heap[b]? = x) (hne : b' ≠ b) (v : Value) : (w.setCell ⟨b', o, none⟩ v).heap[b]? = x := (Below.heap_setCell w ⟨b', o, none⟩ v b (fun e => hne e.symm)).trans h
theorem eff_four {S : Nat → Prop} {w w1 : World} (h : Eff S w w1) {b : Nat} (hb : w.heap.size ≤ b) (y0 y1 y2 y3 : Value) : Eff S w ((((w1.setCell ⟨b, 0, none⟩ y0).setCell ⟨b, 1, none⟩ y1).setCell ⟨b, 2, none⟩ y2).setCell ⟨b, 3, none⟩ y3) :=
  (((h.set _ _ (.inr hb)).set _ _ (.inr hb)).set _ _ (.inr hb)).set _ _ (.inr hb)
set_option maxHeartbeats 1600000 in
set_option maxRecDepth 100000 in
theorem with_calls (w : World) (p : Pg) (A : Option Addr) (c : Nat) (l : List B) (hC : Kd.C kdB w A l.length l) :
    Calls Try.prog 26 #[p.val, .slice A l.length c] w fun e w' => e = .returned (.tuple #[(withP p l).1.val, .int .i64 (withP p l).2]) ∧ Eff0 w w' := by
  have hw : withP p l = if (putF (l.map B.cl)).2 then ({ p with body := (putF (l.map B.cl)).1 }, 0) else (Pg.none, 13) := rfl
  have CP : Calls Try.prog 40 #[.slice A l.length c] ((w.alloc (.cells #[.int .i64 p.kind, .int .i64 p.depth, .int .i64 p.next, .string p.body] 23 (0, 0))).alloc (.cells #[.int .i64 0, .int .i64 0, .int .i64 0, .string ⟨#[]⟩] 23 (0, 0))) fun e w' => e = .returned (.tuple #[.string (putF (l.map B.cl)).1, .bool (putF (l.map B.cl)).2]) ∧ Aside0 (TwoP w p Pg.none w') := by
    refine (put_many _ A c l (Kd.C_alloc (Kd.C_alloc hC _) _)).mono ?_
    rintro e w' ⟨he, e1⟩
    exact ⟨he, Aside0.mk (TwoP.made w p e1)⟩
  clear hC
  generalize putF (l.map B.cl) = r at CP hw
  obtain ⟨r1, r2⟩ := r
  obtain ⟨k, d, n, s⟩ := p
  dsimp only at CP hw
  cases r2 with
  | true =>
    rw [if_pos rfl] at hw
    rw [hw]
    clear hw
    go_enter Try.func26, Try.ntmps26
    go_wp2_with (go_at_call 40; refine CP.mono ?_; rintro e w1 ⟨rfl, T1⟩; have a0 := blk_cell T1.out.a 0; have a1 := blk_cell T1.out.a 1; have a2 := blk_cell T1.out.a 2; have a3 := blk_cell T1.out.a 3; have b0 := blk_cell T1.out.b 0; have b1 := blk_cell T1.out.b 1; have b2 := blk_cell T1.out.b 2; have b3 := blk_cell T1.out.b 3; have fa : ∀ j, w1.frozen? ⟨w.heap.size, j, none⟩ = false := fun j => blk_frozen T1.out.a j; have fb : ∀ j, w1.frozen? ⟨w.heap.size + 1, j, none⟩ = false := fun j => blk_frozen T1.out.b j; clear CP)
    refine bodyPost_ret (results_ct rfl _ _ (w.heap.size + 1) 23 #[.int .i64 k, .int .i64 d, .int .i64 n, .string r1] (0, 0) _ rfl (four_set (far_set T1.out.b (by omega) _) _ _ _ _) Try.underlying23 rfl (by kernel_rfl)) rfl ?_
    exact ⟨rfl, eff_four (T1.out.e.set _ _ (.inr (Nat.le_refl _))) (by omega) _ _ _ _⟩
  | false =>
    rw [if_neg (by simp)] at hw
    rw [hw]
    clear hw
    go_enter Try.func26, Try.ntmps26
    go_wp2_with (go_at_call 40; refine CP.mono ?_; rintro e w1 ⟨rfl, T1⟩; have a0 := blk_cell T1.out.a 0; have a1 := blk_cell T1.out.a 1; have a2 := blk_cell T1.out.a 2; have a3 := blk_cell T1.out.a 3; have b0 := blk_cell T1.out.b 0; have b1 := blk_cell T1.out.b 1; have b2 := blk_cell T1.out.b 2; have b3 := blk_cell T1.out.b 3; have fa : ∀ j, w1.frozen? ⟨w.heap.size, j, none⟩ = false := fun j => blk_frozen T1.out.a j; have fb : ∀ j, w1.frozen? ⟨w.heap.size + 1, j, none⟩ = false := fun j => blk_frozen T1.out.b j; clear CP)
    refine bodyPost_ret (results_ct rfl _ _ (w.heap.size + 1) 23 #[.int .i64 0, .int .i64 0, .int .i64 0, .string ⟨#[]⟩] (0, 0) _ rfl (four_set T1.out.b _ _ _ _) Try.underlying23 rfl (by kernel_rfl)) rfl ?_
    exact ⟨rfl, eff_four T1.out.e (by omega) _ _ _ _⟩
end Go.Proofs.Ytcmepoakcffpaaa.CP
namespace Go.Proofs.Ytcmepoakcffpaaa.CP
open Go Go.RowKit Go.Proofs.YtcmepoakcffpaaaW.PrintWords Go.Proofs.YtcmepoakcffpaaaW.PrintLast Go.Proofs.YtcmepoakcffpaaaW.PrintMore Go.Proofs.Ytcmepoakcffpaaa.CR Go.Proofs.Ytcmepoakcffpaaa.L
set_option linter.unusedVariables false
set_option linter.unusedSimpArgs false
/-- slices.Insert of one cell into a row of one's own. -/
theorem insert_calls (w : World) (base : Nat) (A : Option Addr) (cap i vb : Nat) (l : List B) (c : B) (h : kdB.R 25 w base (fun _ => True) (.slice A l.length cap) l) (hb : base ≤ w.heap.size) (hi : i ≤ l.length) (hm : l.length < 900000) (hv : w.heap[vb]? = some (.cells (cellsB c).toArray 25 (0, 0))) (hne : A.map Addr.block ≠ some vb) :
    Calls Try.prog 25 #[.slice A l.length cap, .int .i64 i, .slice (some ⟨vb, 0, none⟩) 1 1] w fun e w' => ∃ A' c', e = .returned (.slice A' (l.length + 1) c') ∧ kdB.R 25 w' base (fun _ => True) (.slice A' (l.length + 1) c') (l.take i ++ c :: l.drop i) ∧ Eff (fun k => base ≤ k) w w' := by
  have hlen : (l.take i ++ c :: l.drop i).length = l.length + 1 := by simp; omega
  rcases Nat.lt_or_ge i l.length with hlt | hge
  · obtain ⟨g, cap', hv', hbg, hgl, cells, hc⟩ := Kd.R_form h (by omega)
    injection hv' with ha _ hcap
    subst ha hcap
    have hr := rowB_of h
    by_cases hroom : l.length + 1 ≤ cap
    · refine (insert_shift w base g cap i vb l c hr hlt hroom hv (fun e => hne (by rw [e]; rfl))).mono ?_
      rintro e w' ⟨rfl, h1, h2⟩
      have := rowB_to (ok := fun _ => True) h1 trivial
      rw [hlen] at this
      exact ⟨_, _, rfl, this, h2.mono (fun k hk => by rw [hk]; exact hbg)⟩
    · refine (insert_grow w base g cap i vb l c hr hb hlt (by omega) hm hv).mono ?_
      rintro e w' ⟨g', cap', rfl, h1, h2⟩
      have := rowB_to (ok := fun _ => True) h1 trivial
      rw [hlen] at this
      exact ⟨_, _, rfl, this, h2.any _⟩
  · obtain rfl : i = l.length := by omega
    refine (insert_end w base A cap vb l c h hb hm hv).mono ?_
    rintro e w' ⟨v', rfl, h1, h2⟩
    have e1 : l.take l.length ++ c :: l.drop l.length = l ++ [c] := by rw [List.take_length, List.drop_length]
    obtain ⟨A', c', rfl⟩ := Kd.R_slice h1
    rw [e1]
    have hl2 : (l ++ [c]).length = l.length + 1 := by simp
    rw [hl2] at h1 ⊢
    exact ⟨A', c', rfl, h1, h2.mono (fun k hk => Kd.R_base h k hk)⟩
def findD (l : List B) (key : List UInt8) : B := (findB l key).getD zB
structure FndS (w : World) (W : World) : Prop where
  r : W.heap[w.heap.size + 1]? = some (.cells #[.string ⟨#[]⟩, .string ⟨#[]⟩, .int .i64 0, .int .i64 0] 25 (0, 0))
  e : Eff0 w W
set_option maxHeartbeats 1600000 in
set_option maxRecDepth 100000 in
theorem find_calls (w : World) (p : Pg) (key : ByteArray) : Calls Try.prog 9 #[p.val, .string key] w fun e w' => e = .returned (.tuple #[(findD (cellsP p).1 key.data.toList).val, .bool (findB (cellsP p).1 key.data.toList).isSome]) ∧ Eff0 w w' := by
  have hrise := rise_cellsP p
  have hlen := len_cellsP p
  have CC : ∀ W, W = (w.alloc (.cells #[.int .i64 p.kind, .int .i64 p.depth, .int .i64 p.next, .string p.body] 23 (0, 0))).alloc (.cells #[.string ⟨#[]⟩, .string ⟨#[]⟩, .int .i64 0, .int .i64 0] 25 (0, 0)) → Calls Try.prog 22 #[p.val] W fun e w' => ∃ A c, e = .returned (.tuple #[.slice A (cellsP p).1.length c, .bool (cellsP p).2]) ∧ Kd.C kdB w' A (cellsP p).1.length (cellsP p).1 ∧ Aside0 (FndS w w') := by
    rintro W rfl
    refine (cells_calls _ p).mono ?_
    rintro e w' ⟨v, he, hR, hB⟩
    obtain ⟨A, c, rfl, _, hC⟩ := Kd.R_reads hR
    have h2 := heap_alloc2_new w (.cells #[.int .i64 p.kind, .int .i64 p.depth, .int .i64 p.next, .string p.body] 23 (0, 0)) (.cells #[.string ⟨#[]⟩, .string ⟨#[]⟩, .int .i64 0, .int .i64 0] 25 (0, 0))
    have e1 : Eff0 _ w' := Eff.of_below hB
    exact ⟨A, c, he, hC, Aside0.mk ⟨by rw [e1.block _ (blk_lt h2) id]; exact h2, ((Eff.refl _ _).alloc _ |>.alloc _).then0 e1⟩⟩
  unfold Pg.val at CC
  have CA : ∀ W A c, Kd.C kdB W A (cellsP p).1.length (cellsP p).1 → Aside0 (FndS w W) → Calls Try.prog 23 #[.slice A (cellsP p).1.length c, .string key] W fun e w' => e = .returned (.tuple #[.int .i64 ((posB (cellsP p).1 key.data.toList : Nat) : Int), .bool (findB (cellsP p).1 key.data.toList).isSome]) ∧ Aside0 (FndS w w') ∧ Aside0 (Kd.C kdB w' A (cellsP p).1.length (cellsP p).1) := by
    intro W A c hC hS
    refine (at_calls W A c _ key hC hlen hrise).mono ?_
    rintro e w' ⟨he, e1⟩
    exact ⟨he, Aside0.mk ⟨by rw [e1.block _ (blk_lt hS.out.r) id]; exact hS.out.r, hS.out.e.then0 e1⟩, Aside0.mk (Kd.C_below hC e1.below0)⟩
  have hfd : findD (cellsP p).1 key.data.toList = (findB (cellsP p).1 key.data.toList).getD zB := rfl
  cases hf : findB (cellsP p).1 key.data.toList with
  | none =>
    rw [hf] at hfd CA
    rw [hfd]
    clear hfd hf hrise hlen
    generalize (cellsP p).1 = l at CC CA
    generalize (cellsP p).2 = b at CC
    generalize posB l key.data.toList = i at CA
    dsimp only [Option.isSome, Option.getD] at CA ⊢
    go_enter Try.func9, Try.ntmps9
    go_wp2_with (first
      | (go_at_call 22; refine (CC _ rfl).mono ?_; rintro e w1 ⟨A, c, rfl, hC, T1⟩; clear CC)
      | (go_at_call 23; refine (CA _ _ _ hC T1).mono ?_; rintro e w2 ⟨rfl, T2, _⟩; have b0 := blk_cell T2.out.r 0; have b1 := blk_cell T2.out.r 1; have b2 := blk_cell T2.out.r 2; have b3 := blk_cell T2.out.r 3; have fb : ∀ j, w2.frozen? ⟨w.heap.size + 1, j, none⟩ = false := fun j => blk_frozen T2.out.r j; clear CA T1 hC))
    refine bodyPost_ret (results_ct rfl _ _ (w.heap.size + 1) 25 #[.string ⟨#[]⟩, .string ⟨#[]⟩, .int .i64 0, .int .i64 0] (0, 0) _ rfl (four_set T2.out.r _ _ _ _) Try.underlying25 rfl (by kernel_rfl)) rfl ?_
    exact ⟨rfl, eff_four T2.out.e (by omega) _ _ _ _⟩
  | some d =>
    obtain ⟨hlt, hget, _, _⟩ := pos_had hrise hf
    have hgd : (cellsP p).1.getD (posB (cellsP p).1 key.data.toList) default = d := by rw [List.getD_eq_getElem?_getD, hget]; rfl
    rw [hf] at hfd CA
    rw [hfd]
    clear hfd hf hrise hlen hget
    generalize (cellsP p).1 = l at CC CA hlt hgd
    generalize (cellsP p).2 = b at CC
    generalize posB l key.data.toList = i at CA hlt hgd
    dsimp only [Option.isSome, Option.getD] at CA ⊢
    have p1 : ((i : Int) < (l.length : Int)) = True := eq_true (by omega)
    have p2 : (0 ≤ (i : Int)) = True := eq_true (by omega)
    have HG := Aside0.mk hgd
    clear hgd
    go_enter Try.func9, Try.ntmps9
    go_wp2_with (first
      | (go_at_call 22; refine (CC _ rfl).mono ?_; rintro e w1 ⟨A, c, rfl, hC, T1⟩; clear CC)
      | (go_at_call 23; refine (CA _ _ _ hC T1).mono ?_; rintro e w2 ⟨rfl, T2, T3⟩; have b0 := blk_cell T2.out.r 0; have b1 := blk_cell T2.out.r 1; have b2 := blk_cell T2.out.r 2; have b3 := blk_cell T2.out.r 3; have fb : ∀ j, w2.frozen? ⟨w.heap.size + 1, j, none⟩ = false := fun j => blk_frozen T2.out.r j; clear CA T1 hC; obtain ⟨ad, ea, x0, x1, x2, x3⟩ := at_B T3.out i hlt; subst ea; rw [HG.out] at x0 x1 x2 x3))
    refine bodyPost_ret (results_ct rfl _ _ (w.heap.size + 1) 25 (cellsB d).toArray (0, 0) _ rfl (four_set T2.out.r _ _ _ _) Try.underlying25 rfl (by kernel_rfl)) rfl ?_
    exact ⟨rfl, eff_four T2.out.e (by omega) _ _ _ _⟩
end Go.Proofs.Ytcmepoakcffpaaa.CP
namespace Go.Proofs.Ytcmepoakcffpaaa.CP
open Go Go.RowKit Go.Proofs.YtcmepoakcffpaaaW.PrintWords Go.Proofs.YtcmepoakcffpaaaW.PrintLast Go.Proofs.YtcmepoakcffpaaaW.PrintMore Go.Proofs.Ytcmepoakcffpaaa.CR Go.Proofs.Ytcmepoakcffpaaa.L
set_option linter.unusedVariables false
set_option linter.unusedSimpArgs false
theorem size_calls (w : World) (c : B) (h : right c.cl = true) : Calls Try.prog 28 #[c.val] w fun e w' => e = .returned (.int .i64 ((csize c.cl : Nat) : Int)) ∧ Eff0 w w' := by
  refine (cell_Size.calls c.k c.v c.bl c.sz ((csize c.cl : Nat) : Int) w ?_).mono fun e w' ⟨he, hb⟩ => ⟨he, Eff.of_below hb⟩
  simp only [right, decide_eq_true_eq] at h
  obtain ⟨h1, h2, h3⟩ := h
  have e1 : c.cl.k.length = c.k.size := by rw [size_data]; rfl
  have e2 : c.cl.v.length = c.v.size := by rw [size_data]; rfl
  have e3 : c.cl.bl = c.bl := rfl
  rw [e1] at h1 h2
  rw [e2, e3] at h3
  unfold cell_Size.f csize
  rw [e1, e2, e3]
  unfold wrap64
  by_cases hb : c.bl = 0
  · rw [if_pos hb] at h3
    simp only [hb, if_true, ne_eq, not_true_eq_false, if_false, Option.some.injEq]; omega
  · rw [if_neg hb] at h3
    simp only [hb, if_false, ne_eq, not_false_eq_true, if_true, Option.some.injEq]; omega
theorem tot_take (l : List B) (i : Nat) (h : i < l.length) : tot (l.take (i + 1)) = tot (l.take i) + csize (l.getD i default).cl := by
  rw [List.take_succ_eq_append_getElem h, tot_append, tot_cons, tot_nil, List.getD_eq_getElem?_getD, List.getElem?_eq_getElem h]
  rfl
theorem tot_take_le (l : List B) (i : Nat) : tot (l.take i) ≤ tot l := by
  have := tot_append (l.take i) (l.drop i)
  rw [List.take_append_drop] at this
  omega
theorem good_cellsP (p : Pg) : Good (cellsP p).1 ∧ tot (cellsP p).1 ≤ 239 := by
  unfold cellsP
  split
  · rcases hg : getF p.body with ⟨l, b⟩
    cases b with
    | true => exact good_of_get hg
    | false => rw [getF_false hg]; exact ⟨Good.nil, by rw [tot_nil]; omega⟩
  · exact ⟨Good.nil, by rw [tot_nil]; omega⟩
set_option maxHeartbeats 1600000 in
set_option maxRecDepth 100000 in
theorem room_calls (w : World) (p : Pg) : Calls Try.prog 14 #[p.val] w fun e w' => e = .returned (.int .i64 (roomP p)) ∧ Eff0 w w' := by
  obtain ⟨hgood, htot⟩ := good_cellsP p
  have hlen := len_cellsP p
  have CC : ∀ W, Eff0 w W → Calls Try.prog 22 #[p.val] W fun e w' => ∃ A c, e = .returned (.tuple #[.slice A (cellsP p).1.length c, .bool (cellsP p).2]) ∧ Aside0 (Kd.C kdB w' A (cellsP p).1.length (cellsP p).1 ∧ Eff0 w w') := by
    rintro W e0
    refine (cells_calls _ p).mono ?_
    rintro e w' ⟨v, he, hR, hB⟩
    obtain ⟨A, c, rfl, _, hC⟩ := Kd.R_reads hR
    exact ⟨A, c, he, Aside0.mk ⟨hC, e0.then0 (Eff.of_below hB)⟩⟩
  unfold Pg.val at CC
  have hr : roomP p = if (cellsP p).2 = false then 0 else 239 - ((tot (cellsP p).1 : Nat) : Int) := rfl
  generalize (cellsP p).1 = l at *
  generalize (cellsP p).2 = b at *
  cases b with
  | false =>
    rw [if_pos rfl] at hr
    rw [hr]
    clear hr hgood
    go_enter Try.func14, Try.ntmps14
    go_wp2_with (go_at_call 22; refine (CC _ ((Eff.refl _ _).alloc _)).mono ?_; rintro e w1 ⟨A, c, rfl, T1⟩; clear CC)
    go_ret
    exact ⟨rfl, T1.out.2⟩
  | true =>
    rw [if_neg (by simp)] at hr
    obtain ⟨rm, hrm⟩ : ∃ rm, rm = roomP p := ⟨_, rfl⟩
    rw [← hrm] at hr ⊢
    have HG := Aside0.mk (And.intro hgood hr)
    clear hr hgood hrm
    go_enter Try.func14, Try.ntmps14
    go_wp2_with (go_at_call 22; refine (CC _ ((Eff.refl _ _).alloc _)).mono ?_; rintro e w1 ⟨A, c, rfl, T1⟩; clear CC)
    go_loopg [5, 17] l.length (fun k s5 s17 wr => ∃ i t : Nat, s5 = .int .i64 t ∧ s17 = .int .i64 i ∧ i + k = l.length ∧ t ≤ 239 ∧ Aside0 (t + tot (l.take i) = 239 ∧ Eff0 w1 wr))
    case atStart => exact ⟨0, 239, by rfl, rfl, by omega, by omega, Aside0.mk ⟨by simp [tot_nil], Eff.refl _ _⟩⟩
    case round =>
      obtain ⟨i, t, rfl, rfl, h1, h2, A1⟩ := hrel
      by_cases hi : i < l.length
      · have p1 : ((i : Int) < (l.length : Int)) = True := eq_true (by omega)
        obtain ⟨ad, ea, x0, x1, x2, x3⟩ := at_B (Kd.C_below T1.out.1 A1.out.2.below0) i hi
        subst ea
        have hq : right (l.getD i default).cl = true := HG.out.1.right _ (by rw [List.getD_eq_getElem?_getD, List.getElem?_eq_getElem hi]; exact List.getElem_mem hi)
        have A2 := Aside0.mk (tot_take l i hi)
        have A3 := Aside0.mk (tot_take_le l (i + 1))
        generalize l.getD i default = q at *
        have C := fun W => size_calls W q hq
        unfold B.val at C
        generalize csize q.cl = s at *
        clear hq
        have hs : s ≤ t := by have a := A1.out.1; have b := A2.out; have c := A3.out; omega
        have p3 : (t : Int) - (s : Int) = ((t - s : Nat) : Int) := by omega
        have p4 : wrap64 ((t : Int) - (s : Int)) = ((t - s : Nat) : Int) := by unfold wrap64; omega
        have p5 : IntKind.i64.wrap ((t : Int) - (s : Int)) = ((t - s : Nat) : Int) := by rw [IntKind.wrap_i64]; omega
        go_wp2_with (go_at_call 28; refine (C _).mono ?_; rintro e w2 ⟨rfl, e2⟩; clear C)
        go_roundg (gk - 1)
        case measure => omega
        case rel => exact ⟨i + 1, t - s, by simp, by simp, by omega, by omega, Aside0.mk ⟨by have a := A1.out.1; have b := A2.out; omega, (A1.out.2.alloc _).then0 e2⟩⟩
      · have p1 : ((i : Int) < (l.length : Int)) = False := eq_false (by omega)
        obtain rfl : i = l.length := by omega
        have hrm : rm = (t : Int) := by
          have := A1.out.1
          rw [List.take_length] at this
          rw [HG.out.2]
          omega
        subst hrm
        go_wp2
        go_ret
        exact ⟨rfl, T1.out.2.then0 A1.out.2⟩
end Go.Proofs.Ytcmepoakcffpaaa.CP
namespace Go.Proofs.Ytcmepoakcffpaaa.CP
open Go Go.RowKit Go.Proofs.YtcmepoakcffpaaaW.PrintWords Go.Proofs.YtcmepoakcffpaaaW.PrintLast Go.Proofs.YtcmepoakcffpaaaW.PrintMore Go.Proofs.Ytcmepoakcffpaaa.CR Go.Proofs.Ytcmepoakcffpaaa.L
set_option linter.unusedVariables false
set_option linter.unusedSimpArgs false
/-- Set's own blocks: the page, the cell, the answer; and the row. -/
structure SetS (w : World) (p : Pg) (c : B) (v : Value) (l : List B) (W : World) : Prop where
  a : W.heap[w.heap.size]? = some (.cells #[.int .i64 p.kind, .int .i64 p.depth, .int .i64 p.next, .string p.body] 23 (0, 0))
  b : W.heap[w.heap.size + 1]? = some (.cells #[.string c.k, .string c.v, .int .i64 c.bl, .int .i64 c.sz] 25 (0, 0))
  r : W.heap[w.heap.size + 2]? = some (.cells #[.int .i64 0, .int .i64 0, .int .i64 0, .string ⟨#[]⟩] 23 (0, 0))
  row : kdB.R 25 W (w.heap.size + 3) (fun _ => True) v l
  e : Eff0 w W
theorem SetS.eff {w W W1 : World} {p : Pg} {c : B} {v : Value} {l : List B} {S : Nat → Prop} (h : SetS w p c v l W) (e1 : Eff S W W1) (hS : ∀ k, S k → w.heap.size + 3 ≤ k) {v' : Value} {l' : List B} (hR : kdB.R 25 W1 (w.heap.size + 3) (fun _ => True) v' l') : SetS w p c v' l' W1 :=
  ⟨by rw [e1.block _ (blk_lt h.a) (fun hk => by have := hS _ hk; omega)]; exact h.a, by rw [e1.block _ (blk_lt h.b) (fun hk => by have := hS _ hk; omega)]; exact h.b, by rw [e1.block _ (blk_lt h.r) (fun hk => by have := hS _ hk; omega)]; exact h.r, hR,
    ⟨e1.os.trans h.e.os, e1.tape.trans h.e.tape, e1.output.trans h.e.output, Nat.le_trans h.e.size e1.size, fun k hk _ => by rw [e1.block k (Nat.lt_of_lt_of_le hk h.e.size) (fun hq => by have := hS _ hq; omega)]; exact h.e.block k hk id⟩⟩
theorem SetS.eff0 {w W W1 : World} {p : Pg} {c : B} {v : Value} {l : List B} (h : SetS w p c v l W) (e1 : Eff0 W W1) : SetS w p c v l W1 := h.eff e1 (fun _ h => h.elim) (Kd.R_step h.row (fun k _ hk => e1.block k hk id))
theorem SetS.three {w W : World} {p : Pg} {c : B} {v : Value} {l : List B} (h : SetS w p c v l W) : w.heap.size + 3 ≤ W.heap.size := by have := blk_lt h.r; omega
/-- The world of Set behind its first region. -/
abbrev set0 (w : World) (p : Pg) (c : B) : World := ((w.alloc (.cells #[.int .i64 p.kind, .int .i64 p.depth, .int .i64 p.next, .string p.body] 23 (0, 0))).alloc (.cells #[.string c.k, .string c.v, .int .i64 c.bl, .int .i64 c.sz] 25 (0, 0))).alloc (.cells #[.int .i64 0, .int .i64 0, .int .i64 0, .string ⟨#[]⟩] 23 (0, 0))
theorem SetS.made (w : World) (p : Pg) (c : B) {W : World} {v : Value} {l : List B} (hB : Below (set0 w p c).heap.size (set0 w p c) W) (hR : kdB.R 25 W (set0 w p c).heap.size (fun _ => True) v l) : SetS w p c v l W := by
  have hs : (set0 w p c).heap.size = w.heap.size + 3 := by simp [set0]
  have h1 : (set0 w p c).heap[w.heap.size]? = some (.cells #[.int .i64 p.kind, .int .i64 p.depth, .int .i64 p.next, .string p.body] 23 (0, 0)) := by
    have := heap_alloc2_old w (.cells #[.int .i64 p.kind, .int .i64 p.depth, .int .i64 p.next, .string p.body] 23 (0, 0)) (.cells #[.string c.k, .string c.v, .int .i64 c.bl, .int .i64 c.sz] 25 (0, 0))
    rw [Go.heap_alloc_old _ _ (blk_lt this)]
    exact this
  have h2 : (set0 w p c).heap[w.heap.size + 1]? = some (.cells #[.string c.k, .string c.v, .int .i64 c.bl, .int .i64 c.sz] 25 (0, 0)) := by
    have := heap_alloc2_new w (.cells #[.int .i64 p.kind, .int .i64 p.depth, .int .i64 p.next, .string p.body] 23 (0, 0)) (.cells #[.string c.k, .string c.v, .int .i64 c.bl, .int .i64 c.sz] 25 (0, 0))
    rw [Go.heap_alloc_old _ _ (blk_lt this)]
    exact this
  have h3 : (set0 w p c).heap[w.heap.size + 2]? = some (.cells #[.int .i64 0, .int .i64 0, .int .i64 0, .string ⟨#[]⟩] 23 (0, 0)) := by
    have := heap_alloc2_new (w.alloc (.cells #[.int .i64 p.kind, .int .i64 p.depth, .int .i64 p.next, .string p.body] 23 (0, 0))) (.cells #[.string c.k, .string c.v, .int .i64 c.bl, .int .i64 c.sz] 25 (0, 0)) (.cells #[.int .i64 0, .int .i64 0, .int .i64 0, .string ⟨#[]⟩] 23 (0, 0))
    have hs1 : (w.alloc (.cells #[.int .i64 p.kind, .int .i64 p.depth, .int .i64 p.next, .string p.body] 23 (0, 0))).heap.size + 1 = w.heap.size + 2 := by simp
    rw [hs1] at this
    exact this
  refine ⟨by rw [hB.block _ (blk_lt h1)]; exact h1, by rw [hB.block _ (blk_lt h2)]; exact h2, by rw [hB.block _ (blk_lt h3)]; exact h3, by rw [← hs]; exact hR, ?_⟩
  exact (((Eff.refl _ _).alloc _ |>.alloc _).alloc _).then0 (Eff.of_below hB)
theorem SetS.blk0 {w W : World} {p : Pg} {c : B} {v : Value} {l : List B} (h : SetS w p c v l W) : (∀ j, W.cell? ⟨w.heap.size, j, none⟩ = (#[.int .i64 p.kind, .int .i64 p.depth, .int .i64 p.next, .string p.body] : Array Value)[j]?) ∧ (∀ j, W.cell? ⟨w.heap.size + 1, j, none⟩ = (#[.string c.k, .string c.v, .int .i64 c.bl, .int .i64 c.sz] : Array Value)[j]?) ∧ (∀ j, W.cell? ⟨w.heap.size + 2, j, none⟩ = (#[.int .i64 0, .int .i64 0, .int .i64 0, .string ⟨#[]⟩] : Array Value)[j]?) ∧ (∀ j, W.frozen? ⟨w.heap.size + 2, j, none⟩ = false) :=
  ⟨fun j => blk_cell h.a j, fun j => blk_cell h.b j, fun j => blk_cell h.r j, fun j => blk_frozen h.r j⟩
set_option maxHeartbeats 1600000 in
set_option maxRecDepth 100000 in
/-- No such page. -/
theorem set_form (w : World) (p : Pg) (c : B) (hb : (cellsP p).2 = false) : Calls Try.prog 10 #[p.val, c.val] w fun e w' => e = .returned (.tuple #[Pg.none.val, .int .i64 2]) ∧ Eff0 w w' := by
  have CC : Calls Try.prog 22 #[p.val] (set0 w p c) fun e w' => ∃ A n m, e = .returned (.tuple #[.slice A n m, .bool false]) ∧ Aside0 (SetS w p c (.slice A n m) (cellsP p).1 w') := by
    refine (cells_calls _ p).mono ?_
    rintro e w' ⟨v, he, hR, hB⟩
    rw [hb] at he
    obtain ⟨A, c, rfl⟩ := Kd.R_slice hR
    exact ⟨A, _, c, he, Aside0.mk (SetS.made w p _ hB hR)⟩
  clear hb
  unfold Pg.val set0 at CC
  generalize (cellsP p).1 = l at CC
  go_enter Try.func10, Try.ntmps10
  go_wp2_with (go_at_call 22; refine CC.mono ?_; rintro e w1 ⟨A, n, m, rfl, T1⟩; obtain ⟨_, _, b2, f2⟩ := T1.out.blk0; have b20 := b2 0; have b21 := b2 1; have b22 := b2 2; have b23 := b2 3; clear b2 CC)
  refine bodyPost_ret (results_ct rfl _ _ (w.heap.size + 2) 23 #[.int .i64 0, .int .i64 0, .int .i64 0, .string ⟨#[]⟩] (0, 0) _ rfl (four_set T1.out.r _ _ _ _) Try.underlying23 rfl (by kernel_rfl)) rfl ?_
  exact ⟨rfl, eff_four T1.out.e (by omega) _ _ _ _⟩
set_option maxHeartbeats 1600000 in
set_option maxRecDepth 100000 in
/-- No such cell. -/
theorem set_arg (w : World) (p : Pg) (c : B) (hb : (cellsP p).2 = true) (hr : right c.cl = false) : Calls Try.prog 10 #[p.val, c.val] w fun e w' => e = .returned (.tuple #[Pg.none.val, .int .i64 1]) ∧ Eff0 w w' := by
  have CC : Calls Try.prog 22 #[p.val] (set0 w p c) fun e w' => ∃ A n m, e = .returned (.tuple #[.slice A n m, .bool true]) ∧ Aside0 (SetS w p c (.slice A n m) (cellsP p).1 w') := by
    refine (cells_calls _ p).mono ?_
    rintro e w' ⟨v, he, hR, hB⟩
    rw [hb] at he
    obtain ⟨A, c, rfl⟩ := Kd.R_slice hR
    exact ⟨A, _, c, he, Aside0.mk (SetS.made w p _ hB hR)⟩
  have CR : ∀ W v l, Aside0 (SetS w p c v l W) → Calls Try.prog 24 #[.agg #[.string c.k, .string c.v, .int .i64 c.bl, .int .i64 c.sz]] W fun e w' => e = .returned (.bool false) ∧ Aside0 (SetS w p c v l w') := fun W v l h => (right_calls W c).mono fun e w' ⟨he, e1⟩ => ⟨by rw [he, hr], Aside0.mk (h.out.eff0 e1)⟩
  clear hb hr
  unfold Pg.val set0 at CC
  generalize (cellsP p).1 = l at CC
  go_enter Try.func10, Try.ntmps10
  go_wp2_with (first
    | (go_at_call 22; refine CC.mono ?_; rintro e w1 ⟨A, n, m, rfl, T1⟩; obtain ⟨_, b1, _, _⟩ := T1.out.blk0; have b10 := b1 0; have b11 := b1 1; have b12 := b1 2; have b13 := b1 3; clear b1 CC)
    | (go_at_call 24; refine (CR _ _ _ T1).mono ?_; rintro e w2 ⟨rfl, T2⟩; obtain ⟨_, _, b2, f2⟩ := T2.out.blk0; have b20 := b2 0; have b21 := b2 1; have b22 := b2 2; have b23 := b2 3; clear b2 CR))
  refine bodyPost_ret (results_ct rfl _ _ (w.heap.size + 2) 23 #[.int .i64 0, .int .i64 0, .int .i64 0, .string ⟨#[]⟩] (0, 0) _ rfl (four_set T2.out.r _ _ _ _) Try.underlying23 rfl (by kernel_rfl)) rfl ?_
  exact ⟨rfl, eff_four T2.out.e (by omega) _ _ _ _⟩
end Go.Proofs.Ytcmepoakcffpaaa.CP
namespace Go.Proofs.Ytcmepoakcffpaaa.CP
open Go Go.RowKit Go.Proofs.YtcmepoakcffpaaaW.PrintWords Go.Proofs.YtcmepoakcffpaaaW.PrintLast Go.Proofs.YtcmepoakcffpaaaW.PrintMore Go.Proofs.Ytcmepoakcffpaaa.CR Go.Proofs.Ytcmepoakcffpaaa.L
set_option linter.unusedVariables false
set_option linter.unusedSimpArgs false
/-- The row with one element written over. -/
theorem SetS.over {w W : World} {p : Pg} {c : B} {g m i : Nat} {l : List B} (h : SetS w p c (.slice (some ⟨g, 0, none⟩) l.length m) l W) (hi : i < l.length) (x : B) :
    SetS w p c (.slice (some ⟨g, 0, none⟩) l.length m) (l.set i x) ((((W.setCell ⟨g, i * 4, none⟩ (.string x.k)).setCell ⟨g, i * 4 + 1, none⟩ (.string x.v)).setCell ⟨g, i * 4 + 2, none⟩ (.int .i64 x.bl)).setCell ⟨g, i * 4 + 3, none⟩ (.int .i64 x.sz)) := by
  obtain ⟨cc, h1, h2, h3, h4⟩ := Kd.R_elem h.row default (i : Int) (by omega) (by omega)
  obtain ⟨h5, h6⟩ := Kd.R_seg (seg := cellsB x) (j := 0) (x' := x) (okp := fun k => True ∧ k ≠ g) h.row (i : Int) (by omega) (by omega) h1 h3 (Nat.le_refl _) (by
    show _ = cellsB x
    have : cc.length = 4 := h1
    simp [cellsB, this]) (fun k hk => hk)
  have hg : w.heap.size + 3 ≤ g := Kd.R_base h.row g (by simp [Value.ownBlock])
  exact h.eff (S := fun k => k = g) (Eff.of_grown h6 (fun k hk => by injection hk with hk; exact hk.symm)) (by rintro k rfl; exact hg) h5
set_option maxHeartbeats 1600000 in
set_option maxRecDepth 100000 in
/-- The key is there. -/
theorem set_over (w : World) (p : Pg) (c d : B) (hb : (cellsP p).2 = true) (hr : right c.cl = true) (hf : findB (cellsP p).1 c.kk = some d) : Calls Try.prog 10 #[p.val, c.val] w fun e w' => e = .returned (.tuple #[(withP p (setB (cellsP p).1 c)).1.val, .int .i64 (withP p (setB (cellsP p).1 c)).2]) ∧ Eff0 w w' := by
  have hrise := rise_cellsP p
  have hlen := len_cellsP p
  obtain ⟨hlt, _, _, _⟩ := pos_had hrise hf
  have CC : Calls Try.prog 22 #[p.val] (set0 w p c) fun e w' => ∃ g m, e = .returned (.tuple #[.slice (some ⟨g, 0, none⟩) (cellsP p).1.length m, .bool true]) ∧ Aside0 (SetS w p c (.slice (some ⟨g, 0, none⟩) (cellsP p).1.length m) (cellsP p).1 w') := by
    refine (cells_calls _ p).mono ?_
    rintro e w' ⟨v, he, hR, hB⟩
    rw [hb] at he
    obtain ⟨g, m, rfl, _⟩ := Kd.R_form hR (by omega)
    exact ⟨g, m, he, Aside0.mk (SetS.made w p _ hB hR)⟩
  have CR : ∀ W v l, Aside0 (SetS w p c v l W) → Calls Try.prog 24 #[.agg #[.string c.k, .string c.v, .int .i64 c.bl, .int .i64 c.sz]] W fun e w' => e = .returned (.bool true) ∧ Aside0 (SetS w p c v l w') := fun W v l h => (right_calls W c).mono fun e w' ⟨he, e1⟩ => ⟨by rw [he, hr], Aside0.mk (h.out.eff0 e1)⟩
  have CA : ∀ W g m, Aside0 (SetS w p c (.slice (some ⟨g, 0, none⟩) (cellsP p).1.length m) (cellsP p).1 W) → Calls Try.prog 23 #[.slice (some ⟨g, 0, none⟩) (cellsP p).1.length m, .string c.k] W fun e w' => e = .returned (.tuple #[.int .i64 ((posB (cellsP p).1 c.kk : Nat) : Int), .bool true]) ∧ Aside0 (SetS w p c (.slice (some ⟨g, 0, none⟩) (cellsP p).1.length m) (cellsP p).1 w') := by
    intro W g m hS
    obtain ⟨_, _, hC⟩ := Kd.R_reads' hS.out.row
    refine (at_calls W _ m _ c.k hC hlen hrise).mono ?_
    rintro e w' ⟨he, e1⟩
    exact ⟨by rw [he]; unfold B.kk at hf; rw [hf]; rfl, Aside0.mk (hS.out.eff0 e1)⟩
  have CW : ∀ W g m, Aside0 (SetS w p c (.slice (some ⟨g, 0, none⟩) (cellsP p).1.length m) (cellsP p).1 W) → Calls Try.prog 26 #[p.val, .slice (some ⟨g, 0, none⟩) (cellsP p).1.length m] ((((W.setCell ⟨g, posB (cellsP p).1 c.kk * 4, none⟩ (.string c.k)).setCell ⟨g, posB (cellsP p).1 c.kk * 4 + 1, none⟩ (.string c.v)).setCell ⟨g, posB (cellsP p).1 c.kk * 4 + 2, none⟩ (.int .i64 c.bl)).setCell ⟨g, posB (cellsP p).1 c.kk * 4 + 3, none⟩ (.int .i64 c.sz)) fun e w' => e = .returned (.tuple #[(withP p (setB (cellsP p).1 c)).1.val, .int .i64 (withP p (setB (cellsP p).1 c)).2]) ∧ Aside0 (SetS w p c (.slice (some ⟨g, 0, none⟩) (cellsP p).1.length m) ((cellsP p).1.set (posB (cellsP p).1 c.kk) c) w') := by
    intro W g m hS
    have h2 := hS.out.over hlt c
    obtain ⟨h3, _, hC⟩ := Kd.R_reads' h2.row
    rw [h3]
    refine (with_calls _ p _ m _ hC).mono ?_
    rintro e w' ⟨he, e1⟩
    rw [← h3]
    exact ⟨by rw [he, set_had hrise hf], Aside0.mk (h2.eff0 e1)⟩
  unfold Pg.val at CC CW ⊢
  unfold set0 at CC
  generalize withP p (setB (cellsP p).1 c) = res at CW ⊢
  obtain ⟨⟨qk, qd, qn, qs⟩, qe⟩ := res
  dsimp only at CW ⊢
  clear hb hr hf hrise
  have CE : ∀ W g m, Aside0 (SetS w p c (.slice (some ⟨g, 0, none⟩) (cellsP p).1.length m) (cellsP p).1 W) → (∃ u0 u1 u2 u3, W.cell? ⟨g, posB (cellsP p).1 c.kk * 4, none⟩ = some u0 ∧ W.cell? ⟨g, posB (cellsP p).1 c.kk * 4 + 1, none⟩ = some u1 ∧ W.cell? ⟨g, posB (cellsP p).1 c.kk * 4 + 2, none⟩ = some u2 ∧ W.cell? ⟨g, posB (cellsP p).1 c.kk * 4 + 3, none⟩ = some u3) ∧ (∀ j, W.frozen? ⟨g, j, none⟩ = false) ∧ w.heap.size ≠ g ∧ w.heap.size + 1 ≠ g ∧ w.heap.size + 2 ≠ g := by
    intro W g m hS
    have hr := rowB_of hS.out.row
    have hl := hr.len
    have hg := hr.le
    obtain ⟨u0, h0⟩ := Option.isSome_iff_exists.1 (hr.some (posB (cellsP p).1 c.kk * 4) (by omega))
    obtain ⟨u1, h1⟩ := Option.isSome_iff_exists.1 (hr.some (posB (cellsP p).1 c.kk * 4 + 1) (by omega))
    obtain ⟨u2, h2⟩ := Option.isSome_iff_exists.1 (hr.some (posB (cellsP p).1 c.kk * 4 + 2) (by omega))
    obtain ⟨u3, h3⟩ := Option.isSome_iff_exists.1 (hr.some (posB (cellsP p).1 c.kk * 4 + 3) (by omega))
    exact ⟨⟨u0, u1, u2, u3, h0, h1, h2, h3⟩, hr.free, by omega, by omega, by omega⟩
  generalize (cellsP p).1 = l at *
  generalize posB l c.kk = i at *
  have p1 : ((i : Int) < (l.length : Int)) = True := eq_true (by omega)
  have p2 : (0 ≤ (i : Int)) = True := eq_true (by omega)
  clear hlen
  go_enter Try.func10, Try.ntmps10
  go_wp2_with (first
    | (go_at_call 22; refine CC.mono ?_; rintro e w1 ⟨g, m, rfl, T1⟩; obtain ⟨_, b1, _, _⟩ := T1.out.blk0; have b10 := b1 0; have b11 := b1 1; have b12 := b1 2; have b13 := b1 3; clear b1 CC)
    | (go_at_call 24; refine (CR _ _ _ T1).mono ?_; rintro e w2 ⟨rfl, T2⟩; obtain ⟨_, b1, _, _⟩ := T2.out.blk0; have b10 := b1 0; have b11 := b1 1; have b12 := b1 2; have b13 := b1 3; clear b1 CR T1)
    | (go_at_call 23; refine (CA _ _ _ T2).mono ?_; rintro e w3 ⟨rfl, T3⟩; obtain ⟨b0, b1, _, _⟩ := T3.out.blk0; have b00 := b0 0; have b01 := b0 1; have b02 := b0 2; have b03 := b0 3; have b10 := b1 0; have b11 := b1 1; have b12 := b1 2; have b13 := b1 3; clear b0 b1 CA T2; obtain ⟨⟨u0, u1, u2, u3, x0, x1, x2, x3⟩, fx, n0, n1, n2⟩ := CE _ _ _ T3; have CW2 := CW _ _ _ T3; clear CW CE)
    | (go_at_call 26; refine CW2.mono ?_; rintro e w4 ⟨rfl, T4⟩; obtain ⟨_, _, b2, f2⟩ := T4.out.blk0; have b20 := b2 0; have b21 := b2 1; have b22 := b2 2; have b23 := b2 3; clear b2 CW2))
  refine bodyPost_ret (results_ct rfl _ _ (w.heap.size + 2) 23 #[.int .i64 qk, .int .i64 qd, .int .i64 qn, .string qs] (0, 0) _ rfl (four_set T4.out.r _ _ _ _) Try.underlying23 rfl (by kernel_rfl)) rfl ?_
  exact ⟨rfl, eff_four T4.out.e (by omega) _ _ _ _⟩
set_option maxHeartbeats 1600000 in
set_option maxRecDepth 100000 in
/-- The key is not there. -/
theorem set_new (w : World) (p : Pg) (c : B) (hb : (cellsP p).2 = true) (hr : right c.cl = true) (hf : findB (cellsP p).1 c.kk = none) : Calls Try.prog 10 #[p.val, c.val] w fun e w' => e = .returned (.tuple #[(withP p (setB (cellsP p).1 c)).1.val, .int .i64 (withP p (setB (cellsP p).1 c)).2]) ∧ Eff0 w w' := by
  have hrise := rise_cellsP p
  have hlen := len_cellsP p
  have hle := posB_le (cellsP p).1 c.kk
  have CC : Calls Try.prog 22 #[p.val] (set0 w p c) fun e w' => ∃ A m, e = .returned (.tuple #[.slice A (cellsP p).1.length m, .bool true]) ∧ Aside0 (SetS w p c (.slice A (cellsP p).1.length m) (cellsP p).1 w') := by
    refine (cells_calls _ p).mono ?_
    rintro e w' ⟨v, he, hR, hB⟩
    rw [hb] at he
    obtain ⟨A, m, rfl⟩ := Kd.R_slice hR
    exact ⟨A, m, he, Aside0.mk (SetS.made w p _ hB hR)⟩
  have CR : ∀ W v l, Aside0 (SetS w p c v l W) → Calls Try.prog 24 #[.agg #[.string c.k, .string c.v, .int .i64 c.bl, .int .i64 c.sz]] W fun e w' => e = .returned (.bool true) ∧ Aside0 (SetS w p c v l w') := fun W v l h => (right_calls W c).mono fun e w' ⟨he, e1⟩ => ⟨by rw [he, hr], Aside0.mk (h.out.eff0 e1)⟩
  have CA : ∀ W A m, Aside0 (SetS w p c (.slice A (cellsP p).1.length m) (cellsP p).1 W) → Calls Try.prog 23 #[.slice A (cellsP p).1.length m, .string c.k] W fun e w' => e = .returned (.tuple #[.int .i64 ((posB (cellsP p).1 c.kk : Nat) : Int), .bool false]) ∧ Aside0 (SetS w p c (.slice A (cellsP p).1.length m) (cellsP p).1 w') := by
    intro W A m hS
    obtain ⟨_, _, hC⟩ := Kd.R_reads' hS.out.row
    refine (at_calls W _ m _ c.k hC hlen hrise).mono ?_
    rintro e w' ⟨he, e1⟩
    exact ⟨by rw [he]; unfold B.kk at hf; rw [hf]; rfl, Aside0.mk (hS.out.eff0 e1)⟩
  have CI : ∀ W A m, Aside0 (SetS w p c (.slice A (cellsP p).1.length m) (cellsP p).1 W) → Calls Try.prog 25 #[.slice A (cellsP p).1.length m, .int .i64 ((posB (cellsP p).1 c.kk : Nat) : Int), .slice (some ⟨W.heap.size, 0, none⟩) 1 1] (W.alloc (.cells #[.string c.k, .string c.v, .int .i64 c.bl, .int .i64 c.sz] 25 (0, 0))) fun e w' => ∃ A' n' m', e = .returned (.slice A' n' m') ∧ Aside0 (SetS w p c (.slice A' n' m') (setB (cellsP p).1 c) w') := by
    intro W A m hS
    have e0 : Eff0 W (W.alloc (.cells #[.string c.k, .string c.v, .int .i64 c.bl, .int .i64 c.sz] 25 (0, 0))) := (Eff.refl _ _).alloc _
    have h2 := hS.out.eff0 e0
    have h3 := hS.out.three
    refine (insert_calls _ (w.heap.size + 3) A m _ W.heap.size _ c h2.row (by have := e0.size; omega) hle (by omega) (heap_alloc_new W _) (fun hA => ?_)).mono ?_
    · cases A with
      | none => cases hA
      | some a =>
        have := Kd.R_lt hS.out.row a.block rfl
        injection hA with hA
        omega
    · rintro e w' ⟨A', c', rfl, h4, h5⟩
      rw [set_none hrise hf] at h4
      exact ⟨A', _, c', rfl, Aside0.mk (h2.eff h5 (fun k hk => hk) h4)⟩
  have CW : ∀ W A n m, Aside0 (SetS w p c (.slice A n m) (setB (cellsP p).1 c) W) → Calls Try.prog 26 #[p.val, .slice A n m] W fun e w' => e = .returned (.tuple #[(withP p (setB (cellsP p).1 c)).1.val, .int .i64 (withP p (setB (cellsP p).1 c)).2]) ∧ Aside0 (SetS w p c (.slice A n m) (setB (cellsP p).1 c) w') := by
    intro W A n m hS
    obtain ⟨h3, _, hC⟩ := Kd.R_reads' hS.out.row
    subst h3
    refine (with_calls _ p _ m _ hC).mono ?_
    rintro e w' ⟨he, e1⟩
    exact ⟨he, Aside0.mk (hS.out.eff0 e1)⟩
  unfold Pg.val at CC CW ⊢
  unfold set0 at CC
  generalize withP p (setB (cellsP p).1 c) = res at CW ⊢
  obtain ⟨⟨qk, qd, qn, qs⟩, qe⟩ := res
  dsimp only at CW ⊢
  clear hb hr hf hrise
  generalize setB (cellsP p).1 c = l2 at *
  generalize (cellsP p).1 = l at *
  generalize posB l c.kk = i at *
  clear hlen
  go_enter Try.func10, Try.ntmps10
  go_wp2_with (first
    | (go_at_call 22; refine CC.mono ?_; rintro e w1 ⟨g, m, rfl, T1⟩; obtain ⟨_, b1, _, _⟩ := T1.out.blk0; have b10 := b1 0; have b11 := b1 1; have b12 := b1 2; have b13 := b1 3; clear b1 CC)
    | (go_at_call 24; refine (CR _ _ _ T1).mono ?_; rintro e w2 ⟨rfl, T2⟩; obtain ⟨_, b1, _, _⟩ := T2.out.blk0; have b10 := b1 0; have b11 := b1 1; have b12 := b1 2; have b13 := b1 3; clear b1 CR T1)
    | (go_at_call 23; refine (CA _ _ _ T2).mono ?_; rintro e w3 ⟨rfl, T3⟩; obtain ⟨b0, b1, _, _⟩ := T3.out.blk0; have b10 := b1 0; have b11 := b1 1; have b12 := b1 2; have b13 := b1 3; clear b0 b1 CA T2)
    | (go_at_call 25; refine (CI _ _ _ T3).mono ?_; rintro e w4 ⟨A', n', m', rfl, T4⟩; obtain ⟨b0, _, _, _⟩ := T4.out.blk0; have b00 := b0 0; have b01 := b0 1; have b02 := b0 2; have b03 := b0 3; clear b0 CI T3)
    | (go_at_call 26; refine (CW _ _ _ _ T4).mono ?_; rintro e w5 ⟨rfl, T5⟩; obtain ⟨_, _, b2, f2⟩ := T5.out.blk0; have b20 := b2 0; have b21 := b2 1; have b22 := b2 2; have b23 := b2 3; clear b2 CW))
  refine bodyPost_ret (results_ct rfl _ _ (w.heap.size + 2) 23 #[.int .i64 qk, .int .i64 qd, .int .i64 qn, .string qs] (0, 0) _ rfl (four_set T5.out.r _ _ _ _) Try.underlying23 rfl (by kernel_rfl)) rfl ?_
  exact ⟨rfl, eff_four T5.out.e (by omega) _ _ _ _⟩
theorem set_calls (w : World) (p : Pg) (c : B) : Calls Try.prog 10 #[p.val, c.val] w fun e w' => e = .returned (.tuple #[(setP p c).1.val, .int .i64 (setP p c).2]) ∧ Eff0 w w' := by
  unfold setP
  cases hb : (cellsP p).2 with
  | false => rw [if_pos rfl]; exact set_form w p c hb
  | true =>
    rw [if_neg (by simp)]
    cases hr : right c.cl with
    | false => rw [if_pos rfl]; exact set_arg w p c hb hr
    | true =>
      rw [if_neg (by simp)]
      cases hf : findB (cellsP p).1 c.kk with
      | none => exact set_new w p c hb hr hf
      | some d => exact set_over w p c d hb hr hf
end Go.Proofs.Ytcmepoakcffpaaa.CP
namespace Go.Proofs.Ytcmepoakcffpaaa.CP
open Go Go.RowKit Go.Proofs.YtcmepoakcffpaaaW.PrintWords Go.Proofs.YtcmepoakcffpaaaW.PrintLast Go.Proofs.YtcmepoakcffpaaaW.PrintMore Go.Proofs.Ytcmepoakcffpaaa.CR Go.Proofs.Ytcmepoakcffpaaa.L
set_option linter.unusedVariables false
set_option linter.unusedSimpArgs false
/-- Cut's own blocks: the page and the answer; and the row. -/
structure CutS (w : World) (p : Pg) (v : Value) (l : List B) (W : World) : Prop where
  a : W.heap[w.heap.size]? = some (.cells #[.int .i64 p.kind, .int .i64 p.depth, .int .i64 p.next, .string p.body] 23 (0, 0))
  r : W.heap[w.heap.size + 1]? = some (.cells #[.int .i64 0, .int .i64 0, .int .i64 0, .string ⟨#[]⟩] 23 (0, 0))
  row : kdB.R 25 W (w.heap.size + 2) (fun _ => True) v l
  e : Eff0 w W
theorem CutS.eff {w W W1 : World} {p : Pg} {v : Value} {l : List B} {S : Nat → Prop} (h : CutS w p v l W) (e1 : Eff S W W1) (hS : ∀ k, S k → w.heap.size + 2 ≤ k) {v' : Value} {l' : List B} (hR : kdB.R 25 W1 (w.heap.size + 2) (fun _ => True) v' l') : CutS w p v' l' W1 :=
  ⟨by rw [e1.block _ (blk_lt h.a) (fun hk => by have := hS _ hk; omega)]; exact h.a, by rw [e1.block _ (blk_lt h.r) (fun hk => by have := hS _ hk; omega)]; exact h.r, hR,
    ⟨e1.os.trans h.e.os, e1.tape.trans h.e.tape, e1.output.trans h.e.output, Nat.le_trans h.e.size e1.size, fun k hk _ => by rw [e1.block k (Nat.lt_of_lt_of_le hk h.e.size) (fun hq => by have := hS _ hq; omega)]; exact h.e.block k hk id⟩⟩
theorem CutS.eff0 {w W W1 : World} {p : Pg} {v : Value} {l : List B} (h : CutS w p v l W) (e1 : Eff0 W W1) : CutS w p v l W1 := h.eff e1 (fun _ h => h.elim) (Kd.R_step h.row (fun k _ hk => e1.block k hk id))
abbrev cut0 (w : World) (p : Pg) : World := (w.alloc (.cells #[.int .i64 p.kind, .int .i64 p.depth, .int .i64 p.next, .string p.body] 23 (0, 0))).alloc (.cells #[.int .i64 0, .int .i64 0, .int .i64 0, .string ⟨#[]⟩] 23 (0, 0))
theorem CutS.made (w : World) (p : Pg) {W : World} {v : Value} {l : List B} (hB : Below (cut0 w p).heap.size (cut0 w p) W) (hR : kdB.R 25 W (cut0 w p).heap.size (fun _ => True) v l) : CutS w p v l W := by
  have hs : (cut0 w p).heap.size = w.heap.size + 2 := by simp [cut0]
  have T := TwoP.made w p (Eff.of_below hB)
  exact ⟨T.a, T.b, by rw [← hs]; exact hR, T.e⟩
theorem CutS.blk0 {w W : World} {p : Pg} {v : Value} {l : List B} (h : CutS w p v l W) : (∀ j, W.cell? ⟨w.heap.size, j, none⟩ = (#[.int .i64 p.kind, .int .i64 p.depth, .int .i64 p.next, .string p.body] : Array Value)[j]?) ∧ (∀ j, W.cell? ⟨w.heap.size + 1, j, none⟩ = (#[.int .i64 0, .int .i64 0, .int .i64 0, .string ⟨#[]⟩] : Array Value)[j]?) ∧ (∀ j, W.frozen? ⟨w.heap.size + 1, j, none⟩ = false) :=
  ⟨fun j => blk_cell h.a j, fun j => blk_cell h.r j, fun j => blk_frozen h.r j⟩
set_option maxHeartbeats 1600000 in
set_option maxRecDepth 100000 in
theorem cut_form (w : World) (p : Pg) (key : ByteArray) (hb : (cellsP p).2 = false) : Calls Try.prog 11 #[p.val, .string key] w fun e w' => e = .returned (.tuple #[Pg.none.val, .int .i64 2]) ∧ Eff0 w w' := by
  have CC : Calls Try.prog 22 #[p.val] (cut0 w p) fun e w' => ∃ A n m, e = .returned (.tuple #[.slice A n m, .bool false]) ∧ Aside0 (CutS w p (.slice A n m) (cellsP p).1 w') := by
    refine (cells_calls _ p).mono ?_
    rintro e w' ⟨v, he, hR, hB⟩
    rw [hb] at he
    obtain ⟨A, c, rfl⟩ := Kd.R_slice hR
    exact ⟨A, _, c, he, Aside0.mk (CutS.made w p hB hR)⟩
  clear hb
  unfold Pg.val cut0 at CC
  generalize (cellsP p).1 = l at CC
  go_enter Try.func11, Try.ntmps11
  go_wp2_with (go_at_call 22; refine CC.mono ?_; rintro e w1 ⟨A, n, m, rfl, T1⟩; obtain ⟨_, b2, f2⟩ := T1.out.blk0; have b20 := b2 0; have b21 := b2 1; have b22 := b2 2; have b23 := b2 3; clear b2 CC)
  refine bodyPost_ret (results_ct rfl _ _ (w.heap.size + 1) 23 #[.int .i64 0, .int .i64 0, .int .i64 0, .string ⟨#[]⟩] (0, 0) _ rfl (four_set T1.out.r _ _ _ _) Try.underlying23 rfl (by kernel_rfl)) rfl ?_
  exact ⟨rfl, eff_four T1.out.e (by omega) _ _ _ _⟩
set_option maxHeartbeats 1600000 in
set_option maxRecDepth 100000 in
theorem cut_none (w : World) (p : Pg) (key : ByteArray) (hb : (cellsP p).2 = true) (hf : findB (cellsP p).1 key.data.toList = none) : Calls Try.prog 11 #[p.val, .string key] w fun e w' => e = .returned (.tuple #[Pg.none.val, .int .i64 3]) ∧ Eff0 w w' := by
  have hrise := rise_cellsP p
  have hlen := len_cellsP p
  have CC : Calls Try.prog 22 #[p.val] (cut0 w p) fun e w' => ∃ A m, e = .returned (.tuple #[.slice A (cellsP p).1.length m, .bool true]) ∧ Aside0 (CutS w p (.slice A (cellsP p).1.length m) (cellsP p).1 w') := by
    refine (cells_calls _ p).mono ?_
    rintro e w' ⟨v, he, hR, hB⟩
    rw [hb] at he
    obtain ⟨A, m, rfl⟩ := Kd.R_slice hR
    exact ⟨A, m, he, Aside0.mk (CutS.made w p hB hR)⟩
  have CA : ∀ W A m, Aside0 (CutS w p (.slice A (cellsP p).1.length m) (cellsP p).1 W) → Calls Try.prog 23 #[.slice A (cellsP p).1.length m, .string key] W fun e w' => e = .returned (.tuple #[.int .i64 ((posB (cellsP p).1 key.data.toList : Nat) : Int), .bool false]) ∧ Aside0 (CutS w p (.slice A (cellsP p).1.length m) (cellsP p).1 w') := by
    intro W A m hS
    obtain ⟨_, _, hC⟩ := Kd.R_reads' hS.out.row
    refine (at_calls W _ m _ key hC hlen hrise).mono ?_
    rintro e w' ⟨he, e1⟩
    exact ⟨by rw [he, hf]; rfl, Aside0.mk (hS.out.eff0 e1)⟩
  clear hb hf hrise
  unfold Pg.val cut0 at CC
  generalize (cellsP p).1 = l at *
  generalize posB l key.data.toList = i at *
  clear hlen
  go_enter Try.func11, Try.ntmps11
  go_wp2_with (first
    | (go_at_call 22; refine CC.mono ?_; rintro e w1 ⟨A, m, rfl, T1⟩; clear CC)
    | (go_at_call 23; refine (CA _ _ _ T1).mono ?_; rintro e w2 ⟨rfl, T2⟩; obtain ⟨_, b2, f2⟩ := T2.out.blk0; have b20 := b2 0; have b21 := b2 1; have b22 := b2 2; have b23 := b2 3; clear b2 CA))
  refine bodyPost_ret (results_ct rfl _ _ (w.heap.size + 1) 23 #[.int .i64 0, .int .i64 0, .int .i64 0, .string ⟨#[]⟩] (0, 0) _ rfl (four_set T2.out.r _ _ _ _) Try.underlying23 rfl (by kernel_rfl)) rfl ?_
  exact ⟨rfl, eff_four T2.out.e (by omega) _ _ _ _⟩
set_option maxHeartbeats 1600000 in
set_option maxRecDepth 100000 in
theorem cut_one (w : World) (p : Pg) (key : ByteArray) (d : B) (hb : (cellsP p).2 = true) (hf : findB (cellsP p).1 key.data.toList = some d) : Calls Try.prog 11 #[p.val, .string key] w fun e w' => e = .returned (.tuple #[(withP p (cutB (cellsP p).1 key.data.toList)).1.val, .int .i64 (withP p (cutB (cellsP p).1 key.data.toList)).2]) ∧ Eff0 w w' := by
  have hrise := rise_cellsP p
  have hlen := len_cellsP p
  obtain ⟨hlt, -, -, -⟩ := pos_had hrise hf
  have CC : Calls Try.prog 22 #[p.val] (cut0 w p) fun e w' => ∃ g m, e = .returned (.tuple #[.slice (some ⟨g, 0, none⟩) (cellsP p).1.length m, .bool true]) ∧ Aside0 (CutS w p (.slice (some ⟨g, 0, none⟩) (cellsP p).1.length m) (cellsP p).1 w') := by
    refine (cells_calls _ p).mono ?_
    rintro e w' ⟨v, he, hR, hB⟩
    rw [hb] at he
    obtain ⟨g, m, rfl, _⟩ := Kd.R_form hR (by omega)
    exact ⟨g, m, he, Aside0.mk (CutS.made w p hB hR)⟩
  have CA : ∀ W g m, Aside0 (CutS w p (.slice (some ⟨g, 0, none⟩) (cellsP p).1.length m) (cellsP p).1 W) → Calls Try.prog 23 #[.slice (some ⟨g, 0, none⟩) (cellsP p).1.length m, .string key] W fun e w' => e = .returned (.tuple #[.int .i64 ((posB (cellsP p).1 key.data.toList : Nat) : Int), .bool true]) ∧ Aside0 (CutS w p (.slice (some ⟨g, 0, none⟩) (cellsP p).1.length m) (cellsP p).1 w') := by
    intro W g m hS
    obtain ⟨_, _, hC⟩ := Kd.R_reads' hS.out.row
    refine (at_calls W _ m _ key hC hlen hrise).mono ?_
    rintro e w' ⟨he, e1⟩
    exact ⟨by rw [he, hf]; rfl, Aside0.mk (hS.out.eff0 e1)⟩
  have CD : ∀ W g m, Aside0 (CutS w p (.slice (some ⟨g, 0, none⟩) (cellsP p).1.length m) (cellsP p).1 W) → Calls Try.prog 27 #[.slice (some ⟨g, 0, none⟩) (cellsP p).1.length m, .int .i64 ((posB (cellsP p).1 key.data.toList : Nat) : Int), .int .i64 (((posB (cellsP p).1 key.data.toList : Nat) : Int) + 1)] W fun e w' => ∃ n', e = .returned (.slice (some ⟨g, 0, none⟩) n' m) ∧ Aside0 (CutS w p (.slice (some ⟨g, 0, none⟩) n' m) (cutB (cellsP p).1 key.data.toList) w') := by
    intro W g m hS
    have hS2 := hS.out
    have hd := cut_had hrise hf
    obtain ⟨n, hn⟩ : ∃ n, (cellsP p).1.length = n + 1 := ⟨(cellsP p).1.length - 1, by omega⟩
    rw [hn] at hS2 ⊢
    have hg : w.heap.size + 2 ≤ g := Kd.R_base hS2.row g (by simp [Value.ownBlock])
    have hsz := blk_lt hS2.r
    refine (delete_calls W (w.heap.size + 2) g m _ n _ hS2.row (by omega) (by omega) (by omega)).mono ?_
    rintro e w' ⟨rfl, h4, h5⟩
    rw [hd] at h4
    exact ⟨n, rfl, Aside0.mk (hS2.eff h5 (by rintro k rfl; exact hg) h4)⟩
  have CW : ∀ W A n m, Aside0 (CutS w p (.slice A n m) (cutB (cellsP p).1 key.data.toList) W) → Calls Try.prog 26 #[p.val, .slice A n m] W fun e w' => e = .returned (.tuple #[(withP p (cutB (cellsP p).1 key.data.toList)).1.val, .int .i64 (withP p (cutB (cellsP p).1 key.data.toList)).2]) ∧ Aside0 (CutS w p (.slice A n m) (cutB (cellsP p).1 key.data.toList) w') := by
    intro W A n m hS
    obtain ⟨h3, _, hC⟩ := Kd.R_reads' hS.out.row
    subst h3
    refine (with_calls _ p _ m _ hC).mono ?_
    rintro e w' ⟨he, e1⟩
    exact ⟨he, Aside0.mk (hS.out.eff0 e1)⟩
  unfold Pg.val at CC CW ⊢
  unfold cut0 at CC
  generalize withP p (cutB (cellsP p).1 key.data.toList) = res at CW ⊢
  obtain ⟨⟨qk, qd, qn, qs⟩, qe⟩ := res
  dsimp only at CW ⊢
  clear hb hf hrise
  generalize cutB (cellsP p).1 key.data.toList = l2 at *
  generalize (cellsP p).1 = l at *
  generalize posB l key.data.toList = i at *
  have p1 : wrap64 ((i : Int) + 1) = (i : Int) + 1 := by unfold wrap64; omega
  have p2 : IntKind.i64.wrap ((i : Int) + 1) = (i : Int) + 1 := by rw [IntKind.wrap_i64]; omega
  clear hlen
  have DR : ∀ W v l, Aside0 (CutS w p v l W) → Aside0 (CutS w p v l W.drew) := fun W v l h => Aside0.mk (h.out.eff0 (Eff.refl _ _).drew)
  go_enter Try.func11, Try.ntmps11
  go_wp2_with (first
    | (go_at_call 22; refine CC.mono ?_; rintro e w1 ⟨A, m, rfl, T1⟩; clear CC)
    | (go_at_call 23; refine (CA _ _ _ T1).mono ?_; rintro e w2 ⟨rfl, T2⟩; replace T2 := DR _ _ _ T2; obtain ⟨b0, _, _⟩ := T2.out.blk0; have b00 := b0 0; have b01 := b0 1; have b02 := b0 2; have b03 := b0 3; clear b0 CA T1))
  go_region_with (first
    | (go_at_call 27; refine (CD _ _ _ T2).mono ?_; rintro e w3 ⟨n', rfl, T3⟩; obtain ⟨b0, _, _⟩ := T3.out.blk0; have b00 := b0 0; have b01 := b0 1; have b02 := b0 2; have b03 := b0 3; clear b0)
    | (go_at_call 26; refine (CW _ _ _ _ T3).mono ?_; rintro e w4 ⟨rfl, T4⟩; obtain ⟨_, b2, f2⟩ := T4.out.blk0; have b20 := b2 0; have b21 := b2 1; have b22 := b2 2; have b23 := b2 3; clear b2))
  all_goals
    go_wp2
    refine bodyPost_ret (results_ct rfl _ _ (w.heap.size + 1) 23 #[.int .i64 qk, .int .i64 qd, .int .i64 qn, .string qs] (0, 0) _ rfl (four_set T4.out.r _ _ _ _) Try.underlying23 rfl (by kernel_rfl)) rfl ?_
    exact ⟨rfl, eff_four T4.out.e (by omega) _ _ _ _⟩
theorem cut_calls (w : World) (p : Pg) (key : ByteArray) : Calls Try.prog 11 #[p.val, .string key] w fun e w' => e = .returned (.tuple #[(cutP p key.data.toList).1.val, .int .i64 (cutP p key.data.toList).2]) ∧ Eff0 w w' := by
  unfold cutP
  cases hb : (cellsP p).2 with
  | false => rw [if_pos rfl]; exact cut_form w p key hb
  | true =>
    rw [if_neg (by simp)]
    cases hf : findB (cellsP p).1 key.data.toList with
    | none => rw [if_pos (show (none : Option B).isNone = true from rfl)]; exact cut_none w p key hb hf
    | some d => rw [if_neg (show ¬ (some d).isNone = true by simp)]; exact cut_one w p key d hb hf
end Go.Proofs.Ytcmepoakcffpaaa.CP
namespace Go.Proofs.Ytcmepoakcffpaaa.CP
open Go Go.RowKit Go.Proofs.YtcmepoakcffpaaaW.PrintWords Go.Proofs.YtcmepoakcffpaaaW.PrintLast Go.Proofs.YtcmepoakcffpaaaW.PrintMore Go.Proofs.Ytcmepoakcffpaaa.CR Go.Proofs.Ytcmepoakcffpaaa.L
set_option linter.unusedVariables false
set_option linter.unusedSimpArgs false
/-- A page that holds just these cells. -/
structure IsP (p : Pg) (l : List B) : Prop where
  kind : p.kind = 3 ∨ p.kind = 4
  good : Good l
  le : tot l ≤ 239
  body : putF (l.map B.cl) = (p.body, true)
theorem IsP.cells {p : Pg} {l : List B} (h : IsP p l) : cellsP p = (l, true) := by
  unfold cellsP
  rw [if_pos h.kind]
  have h1 := putF_put h.body
  have h2 := getF_put h1
  have e : (⟨p.body.data.toList.toArray⟩ : ByteArray) = p.body := by rw [Array.toArray_toList]
  rwa [e] at h2
theorem IsP.of_cells {p : Pg} {l : List B} (h : cellsP p = (l, true)) : IsP p l := by
  unfold cellsP at h
  split at h
  · rename_i hk
    exact ⟨hk, (good_of_get h).1, (good_of_get h).2, getF_true h⟩
  · injection h with _ h2; cases h2
theorem put_of_good {l : List B} (h : Good l) (ht : tot l ≤ 239) : ∃ b, putF (l.map B.cl) = (b, true) := by
  obtain ⟨b, hb⟩ := h.put.1 ht
  exact ⟨_, by unfold putF; rw [hb]⟩
theorem put_of_long {l : List B} (h : Good l) (ht : ¬ tot l ≤ 239) : putF (l.map B.cl) = (⟨#[]⟩, false) := by unfold putF; rw [h.put.2 ht]
theorem with_fits (p : Pg) (hk : p.kind = 3 ∨ p.kind = 4) {l : List B} (h : Good l) (ht : tot l ≤ 239) : ∃ b, withP p l = (⟨p.kind, p.depth, p.next, b⟩, 0) ∧ IsP ⟨p.kind, p.depth, p.next, b⟩ l := by
  obtain ⟨b, hb⟩ := put_of_good h ht
  refine ⟨b, ?_, hk, h, ht, hb⟩
  unfold withP
  rw [hb]
  rfl
theorem with_long (p : Pg) {l : List B} (h : Good l) (ht : ¬ tot l ≤ 239) : withP p l = (Pg.none, 13) := by
  unfold withP
  rw [put_of_long h ht]
  rfl
theorem IsP.set {p : Pg} {l : List B} (h : IsP p l) {c : B} (hc : right c.cl = true) (ht : tot (setB l c) ≤ 239) : ∃ b, setP p c = (⟨p.kind, p.depth, p.next, b⟩, 0) ∧ IsP ⟨p.kind, p.depth, p.next, b⟩ (setB l c) := by
  unfold setP
  rw [h.cells]
  dsimp only
  rw [if_neg (by simp), if_neg (by rw [hc]; simp)]
  exact with_fits p h.kind (h.good.set hc) ht
theorem IsP.set_long {p : Pg} {l : List B} (h : IsP p l) {c : B} (hc : right c.cl = true) (ht : ¬ tot (setB l c) ≤ 239) : setP p c = (Pg.none, 13) := by
  unfold setP
  rw [h.cells]
  dsimp only
  rw [if_neg (by simp), if_neg (by rw [hc]; simp)]
  exact with_long p (h.good.set hc) ht
theorem IsP.set_arg {p : Pg} {l : List B} (h : IsP p l) {c : B} (hc : right c.cl = false) : setP p c = (Pg.none, 1) := by
  unfold setP
  rw [h.cells]
  dsimp only
  rw [if_neg (by simp), if_pos hc]
theorem tot_cut_le (l : List B) (key : List UInt8) : tot (cutB l key) ≤ tot l := by
  unfold cutB
  induction l with
  | nil => simp
  | cons a l ih =>
    rw [List.filter_cons]
    split
    · rw [tot_cons, tot_cons]; omega
    · rw [tot_cons]; omega
theorem IsP.cut {p : Pg} {l : List B} (h : IsP p l) {key : List UInt8} {d : B} (hf : findB l key = some d) : ∃ b, cutP p key = (⟨p.kind, p.depth, p.next, b⟩, 0) ∧ IsP ⟨p.kind, p.depth, p.next, b⟩ (cutB l key) := by
  unfold cutP
  rw [h.cells]
  dsimp only
  rw [if_neg (by simp), hf, if_neg (by simp)]
  exact with_fits p h.kind (h.good.cut key) (Nat.le_trans (tot_cut_le l key) h.le)
theorem IsP.cut_none {p : Pg} {l : List B} (h : IsP p l) {key : List UInt8} (hf : findB l key = none) : cutP p key = (Pg.none, 3) := by
  unfold cutP
  rw [h.cells]
  dsimp only
  rw [if_neg (by simp), hf, if_pos (by simp)]
theorem IsP.eq {p q : Pg} {l : List B} (h : IsP p l) (h' : IsP q l) (h1 : p.kind = q.kind) (h2 : p.depth = q.depth) (h3 : p.next = q.next) : p = q := by
  obtain ⟨a, b, c, d⟩ := p
  obtain ⟨a', b', c', d'⟩ := q
  have := h.body.symm.trans h'.body
  injection this with h4
  simp only at h1 h2 h3 h4
  rw [h1, h2, h3, h4]
theorem IsP.room {p : Pg} {l : List B} (h : IsP p l) : roomP p = 239 - ((tot l : Nat) : Int) := by
  unfold roomP
  rw [h.cells]
  dsimp only
  rw [if_neg (by simp)]
theorem putF_of {l : List Cl} {b : List UInt8} (h : put l = some b) : putF l = (⟨b.toArray⟩, true) := by simp [putF, h]
/-- A body of zeros. -/
def zeros240 : ByteArray := strOfNums (List.replicate 240 0)
theorem zeros_data : zeros240.data.toList = List.replicate 240 0 := by
  unfold zeros240
  rw [strOfNums_data, List.map_replicate]
  rfl
theorem isP_empty (k d n : Int) (hk : k = 3 ∨ k = 4) : IsP ⟨k, d, n, zeros240⟩ [] := by
  refine ⟨hk, Good.nil, by rw [tot_nil]; omega, ?_⟩
  have hz := zeros_data
  have : put ([] : List Cl) = some (List.replicate 240 0) := by decide +kernel
  have h2 := putF_of this
  generalize List.replicate 240 (0 : UInt8) = r at *
  rw [List.map_nil, h2]
  congr 1
  exact eq_of_data hz.symm
theorem set_nil (c : B) : setB [] c = [c] := rfl
theorem cut_one_nil (c : B) : cutB [c] c.kk = [] := by simp [cutB]
def kv : B := ⟨⟨#[107]⟩, ⟨#[118]⟩, 0, 0⟩
theorem alive_facts : ∃ b, setP ⟨3, 1, 5, zeros240⟩ kv = (⟨3, 1, 5, b⟩, 0) ∧ findD (cellsP ⟨3, 1, 5, b⟩).1 kv.kk = kv ∧ findB (cellsP ⟨3, 1, 5, b⟩).1 kv.kk = some kv ∧ roomP ⟨3, 1, 5, b⟩ = 233 ∧ cutP ⟨3, 1, 5, b⟩ kv.kk = (⟨3, 1, 5, zeros240⟩, 0) := by
  have h0 := isP_empty 3 1 5 (.inl rfl)
  have hr : right kv.cl = true := by decide
  have ht : tot (setB [] kv) = 6 := by decide
  obtain ⟨b, h1, h2⟩ := h0.set hr (by rw [ht]; omega)
  have hf : findB (setB [] kv) kv.kk = some kv := by rw [find_setB List.Pairwise.nil, if_pos rfl]
  have hc := h2.cells
  refine ⟨b, h1, ?_, ?_, ?_, ?_⟩
  · rw [hc]; unfold findD; rw [hf]; rfl
  · rw [hc]; exact hf
  · rw [h2.room, ht]; rfl
  · obtain ⟨b', h3, h4⟩ := h2.cut hf
    rw [set_nil, cut_one_nil] at h4
    rw [h3, IsP.eq h4 h0 rfl rfl rfl]
end Go.Proofs.Ytcmepoakcffpaaa.CP
namespace Go.Proofs.Ytcmepoakcffpaaa.CP
open Go Go.RowKit Go.Proofs.YtcmepoakcffpaaaW.PrintWords Go.Proofs.YtcmepoakcffpaaaW.PrintLast Go.Proofs.YtcmepoakcffpaaaW.PrintMore Go.Proofs.Ytcmepoakcffpaaa.CR Go.Proofs.Ytcmepoakcffpaaa.CE Go.Proofs.Ytcmepoakcffpaaa.L
set_option linter.unusedVariables false
set_option linter.unusedSimpArgs false
theorem empty_calls (k d n : Int) (w : World) : Calls Try.prog 12 #[.int .i64 k, .int .i64 d, .int .i64 n] w fun e w' => e = .returned (.agg #[.int .i64 k, .int .i64 d, .int .i64 n, .string zeros240]) ∧ Eff0 w w' := by
  refine (honeycomblaw8_Empty.calls k d n k d n zeros240 w ?_).mono fun e w' ⟨he, hb⟩ => ⟨he, Eff.of_below hb⟩
  unfold honeycomblaw8_Empty.f honeycombref1_Zeros.f zeros240
  have h : (mx 240 0 : Int) = 240 := by decide
  rw [h]
  rfl
theorem bcell {W w1 : World} (e : Eff0 W w1) : (∀ b o, b < W.heap.size → w1.cell? ⟨b, o, none⟩ = W.cell? ⟨b, o, none⟩) ∧ (∀ b o, b < W.heap.size → w1.frozen? ⟨b, o, none⟩ = W.frozen? ⟨b, o, none⟩) :=
  ⟨fun b o h => e.below0.cell (p := ⟨b, o, none⟩) h, fun b o h => e.below0.frozen (p := ⟨b, o, none⟩) h⟩
theorem held {W W' : World} {b o : Nat} {v : Value} (e : Eff0 W W') (h : W.cell? ⟨b, o, none⟩ = some v) : W'.cell? ⟨b, o, none⟩ = some v := (e.cell (World.block_lt_of_cell? W _ h) (fun h => h)).trans h
theorem eff0_lt {W w1 : World} {o : Obj} (e : Eff0 (W.alloc o) w1) : W.heap.size < w1.heap.size := by
  have := e.size
  simp at this
  omega
set_option maxHeartbeats 1600000 in
set_option maxRecDepth 100000 in
theorem alive_calls (w : World) : Calls Try.prog 8 #[] w fun e w' => e = .returned (.bool true) ∧ Eff0 w w' := by
  obtain ⟨b, h1, h2, h3, h4, h5⟩ := alive_facts
  have CE := fun W => empty_calls 3 1 5 W
  have CS := fun W => set_calls W ⟨3, 1, 5, zeros240⟩ kv
  have CF := fun W => find_calls W ⟨3, 1, 5, b⟩ kv.k
  have CC := fun W => cut_calls W ⟨3, 1, 5, b⟩ kv.k
  have CR := fun W => room_calls W ⟨3, 1, 5, b⟩
  rw [h1] at CS
  rw [show kv.k.data.toList = kv.kk from rfl, h2, h3] at CF
  rw [show kv.k.data.toList = kv.kk from rfl, h5] at CC
  rw [h4] at CR
  unfold Pg.val B.val kv at CS CF
  unfold Pg.val kv at CC
  unfold Pg.val at CR
  dsimp only [Option.isSome] at CS CF CC CR
  clear h1 h2 h3 h4 h5
  have q0 : (zeros240.toList == zeros240.toList) = true := beq_self_eq_true _
  generalize zeros240 = z at *
  go_enter Try.func8, Try.ntmps8
  go_wp2_with (first
    | (go_at_call 12; refine (CE _).mono ?_; rintro e w1 ⟨rfl, e1⟩)
    | (go_at_call 10; refine (CS _).mono ?_; rintro e w2 ⟨rfl, e2⟩; obtain ⟨hc2, hf2⟩ := bcell e2; have hz2 := e2.size)
    | (go_at_call 9; refine (CF _).mono ?_; rintro e w3 ⟨rfl, e3⟩; obtain ⟨hc3, hf3⟩ := bcell e3; have hz3 := eff0_lt e3)
    | (go_at_call 11; refine (CC _).mono ?_; rintro e w4 ⟨rfl, e4⟩; obtain ⟨hc4, hf4⟩ := bcell e4; have hz4 := eff0_lt e4))
  have e5 : Eff0 w (w4.alloc (.cells #[.int .i64 3, .int .i64 1, .int .i64 5, .string z] 23)).drew := ((((e1.then0 e2).alloc _).then0 e3 |>.alloc _).then0 e4 |>.alloc _).drew
  have E4 : Eff0 (w4.alloc (.cells #[.int .i64 3, .int .i64 1, .int .i64 5, .string z] 23)) (w4.alloc (.cells #[.int .i64 3, .int .i64 1, .int .i64 5, .string z] 23)).drew := (Eff.refl _ _).drew
  have E3 : Eff0 _ (w4.alloc (.cells #[.int .i64 3, .int .i64 1, .int .i64 5, .string z] 23)).drew := (e4.alloc _).drew
  have E2 : Eff0 _ (w4.alloc (.cells #[.int .i64 3, .int .i64 1, .int .i64 5, .string z] 23)).drew := ((e3.alloc _).then0 e4 |>.alloc _).drew
  have s0 : (w4.alloc (.cells #[.int .i64 3, .int .i64 1, .int .i64 5, .string z] 23)).drew.cell? ⟨w3.heap.size, 1, none⟩ = some (.string ⟨#[118]⟩) ∧ (w4.alloc (.cells #[.int .i64 3, .int .i64 1, .int .i64 5, .string z] 23)).drew.cell? ⟨w2.heap.size, 0, none⟩ = some (.int .i64 3) ∧ (w4.alloc (.cells #[.int .i64 3, .int .i64 1, .int .i64 5, .string z] 23)).drew.cell? ⟨w2.heap.size, 1, none⟩ = some (.int .i64 1) ∧ (w4.alloc (.cells #[.int .i64 3, .int .i64 1, .int .i64 5, .string z] 23)).drew.cell? ⟨w2.heap.size, 2, none⟩ = some (.int .i64 5) ∧ (w4.alloc (.cells #[.int .i64 3, .int .i64 1, .int .i64 5, .string z] 23)).drew.cell? ⟨w2.heap.size, 3, none⟩ = some (.string b) ∧ (w4.alloc (.cells #[.int .i64 3, .int .i64 1, .int .i64 5, .string z] 23)).drew.cell? ⟨w4.heap.size, 0, none⟩ = some (.int .i64 3) ∧ (w4.alloc (.cells #[.int .i64 3, .int .i64 1, .int .i64 5, .string z] 23)).drew.cell? ⟨w4.heap.size, 1, none⟩ = some (.int .i64 1) ∧ (w4.alloc (.cells #[.int .i64 3, .int .i64 1, .int .i64 5, .string z] 23)).drew.cell? ⟨w4.heap.size, 2, none⟩ = some (.int .i64 5) ∧ (w4.alloc (.cells #[.int .i64 3, .int .i64 1, .int .i64 5, .string z] 23)).drew.cell? ⟨w4.heap.size, 3, none⟩ = some (.string z) :=
    ⟨held E3 (blk_cell (heap_alloc_new w3 _) 1), held E2 (blk_cell (heap_alloc_new w2 _) 0), held E2 (blk_cell (heap_alloc_new w2 _) 1), held E2 (blk_cell (heap_alloc_new w2 _) 2), held E2 (blk_cell (heap_alloc_new w2 _) 3), held E4 (blk_cell (heap_alloc_new w4 _) 0), held E4 (blk_cell (heap_alloc_new w4 _) 1), held E4 (blk_cell (heap_alloc_new w4 _) 2), held E4 (blk_cell (heap_alloc_new w4 _) 3)⟩
  clear E2 E3 E4
  have K : ∀ W W', (Eff0 w W ∧ W.cell? ⟨w3.heap.size, 1, none⟩ = some (.string ⟨#[118]⟩) ∧ W.cell? ⟨w2.heap.size, 0, none⟩ = some (.int .i64 3) ∧ W.cell? ⟨w2.heap.size, 1, none⟩ = some (.int .i64 1) ∧ W.cell? ⟨w2.heap.size, 2, none⟩ = some (.int .i64 5) ∧ W.cell? ⟨w2.heap.size, 3, none⟩ = some (.string b) ∧ W.cell? ⟨w4.heap.size, 0, none⟩ = some (.int .i64 3) ∧ W.cell? ⟨w4.heap.size, 1, none⟩ = some (.int .i64 1) ∧ W.cell? ⟨w4.heap.size, 2, none⟩ = some (.int .i64 5) ∧ W.cell? ⟨w4.heap.size, 3, none⟩ = some (.string z)) → Eff0 W W' → (Eff0 w W' ∧ W'.cell? ⟨w3.heap.size, 1, none⟩ = some (.string ⟨#[118]⟩) ∧ W'.cell? ⟨w2.heap.size, 0, none⟩ = some (.int .i64 3) ∧ W'.cell? ⟨w2.heap.size, 1, none⟩ = some (.int .i64 1) ∧ W'.cell? ⟨w2.heap.size, 2, none⟩ = some (.int .i64 5) ∧ W'.cell? ⟨w2.heap.size, 3, none⟩ = some (.string b) ∧ W'.cell? ⟨w4.heap.size, 0, none⟩ = some (.int .i64 3) ∧ W'.cell? ⟨w4.heap.size, 1, none⟩ = some (.int .i64 1) ∧ W'.cell? ⟨w4.heap.size, 2, none⟩ = some (.int .i64 5) ∧ W'.cell? ⟨w4.heap.size, 3, none⟩ = some (.string z)) := by
    rintro W W' ⟨x, x0, x1, x2, x3, x4, x5, x6, x7, x8⟩ e
    exact ⟨x.then0 e, held e x0, held e x1, held e x2, held e x3, held e x4, held e x5, held e x6, held e x7, held e x8⟩
  have CR2 : ∀ W, (Eff0 w W ∧ W.cell? ⟨w3.heap.size, 1, none⟩ = some (.string ⟨#[118]⟩) ∧ W.cell? ⟨w2.heap.size, 0, none⟩ = some (.int .i64 3) ∧ W.cell? ⟨w2.heap.size, 1, none⟩ = some (.int .i64 1) ∧ W.cell? ⟨w2.heap.size, 2, none⟩ = some (.int .i64 5) ∧ W.cell? ⟨w2.heap.size, 3, none⟩ = some (.string b) ∧ W.cell? ⟨w4.heap.size, 0, none⟩ = some (.int .i64 3) ∧ W.cell? ⟨w4.heap.size, 1, none⟩ = some (.int .i64 1) ∧ W.cell? ⟨w4.heap.size, 2, none⟩ = some (.int .i64 5) ∧ W.cell? ⟨w4.heap.size, 3, none⟩ = some (.string z)) → Calls Try.prog 14 #[.agg #[.int .i64 3, .int .i64 1, .int .i64 5, .string b]] W fun e w' => e = .returned (.int .i64 233) ∧ (Eff0 w w' ∧ w'.cell? ⟨w3.heap.size, 1, none⟩ = some (.string ⟨#[118]⟩) ∧ w'.cell? ⟨w2.heap.size, 0, none⟩ = some (.int .i64 3) ∧ w'.cell? ⟨w2.heap.size, 1, none⟩ = some (.int .i64 1) ∧ w'.cell? ⟨w2.heap.size, 2, none⟩ = some (.int .i64 5) ∧ w'.cell? ⟨w2.heap.size, 3, none⟩ = some (.string b) ∧ w'.cell? ⟨w4.heap.size, 0, none⟩ = some (.int .i64 3) ∧ w'.cell? ⟨w4.heap.size, 1, none⟩ = some (.int .i64 1) ∧ w'.cell? ⟨w4.heap.size, 2, none⟩ = some (.int .i64 5) ∧ w'.cell? ⟨w4.heap.size, 3, none⟩ = some (.string z)) := fun W s => (CR W).mono fun e w' ⟨he, e1⟩ => ⟨he, K _ _ s e1⟩
  have CE2 : ∀ W, (Eff0 w W ∧ W.cell? ⟨w3.heap.size, 1, none⟩ = some (.string ⟨#[118]⟩) ∧ W.cell? ⟨w2.heap.size, 0, none⟩ = some (.int .i64 3) ∧ W.cell? ⟨w2.heap.size, 1, none⟩ = some (.int .i64 1) ∧ W.cell? ⟨w2.heap.size, 2, none⟩ = some (.int .i64 5) ∧ W.cell? ⟨w2.heap.size, 3, none⟩ = some (.string b) ∧ W.cell? ⟨w4.heap.size, 0, none⟩ = some (.int .i64 3) ∧ W.cell? ⟨w4.heap.size, 1, none⟩ = some (.int .i64 1) ∧ W.cell? ⟨w4.heap.size, 2, none⟩ = some (.int .i64 5) ∧ W.cell? ⟨w4.heap.size, 3, none⟩ = some (.string z)) → Calls Try.prog 12 #[.int .i64 3, .int .i64 1, .int .i64 5] W fun e w' => e = .returned (.agg #[.int .i64 3, .int .i64 1, .int .i64 5, .string z]) ∧ (Eff0 w w' ∧ w'.cell? ⟨w3.heap.size, 1, none⟩ = some (.string ⟨#[118]⟩) ∧ w'.cell? ⟨w2.heap.size, 0, none⟩ = some (.int .i64 3) ∧ w'.cell? ⟨w2.heap.size, 1, none⟩ = some (.int .i64 1) ∧ w'.cell? ⟨w2.heap.size, 2, none⟩ = some (.int .i64 5) ∧ w'.cell? ⟨w2.heap.size, 3, none⟩ = some (.string b) ∧ w'.cell? ⟨w4.heap.size, 0, none⟩ = some (.int .i64 3) ∧ w'.cell? ⟨w4.heap.size, 1, none⟩ = some (.int .i64 1) ∧ w'.cell? ⟨w4.heap.size, 2, none⟩ = some (.int .i64 5) ∧ w'.cell? ⟨w4.heap.size, 3, none⟩ = some (.string z)) := fun W s => (CE W).mono fun e w' ⟨he, e1⟩ => ⟨he, K _ _ s e1⟩
  have s1 := And.intro e5 s0
  obtain ⟨y, y0, y1, y2, y3, y4, y5, y6, y7, y8⟩ := s1
  clear K CR CE CS CF CC s0 hc2 hc3 hc4 hf2 hf3 hf4 e5
  go_region_held3 (fun W' => Eff0 w W' ∧ W'.cell? ⟨w3.heap.size, 1, none⟩ = some (.string ⟨#[118]⟩) ∧ W'.cell? ⟨w2.heap.size, 0, none⟩ = some (.int .i64 3) ∧ W'.cell? ⟨w2.heap.size, 1, none⟩ = some (.int .i64 1) ∧ W'.cell? ⟨w2.heap.size, 2, none⟩ = some (.int .i64 5) ∧ W'.cell? ⟨w2.heap.size, 3, none⟩ = some (.string b) ∧ W'.cell? ⟨w4.heap.size, 0, none⟩ = some (.int .i64 3) ∧ W'.cell? ⟨w4.heap.size, 1, none⟩ = some (.int .i64 1) ∧ W'.cell? ⟨w4.heap.size, 2, none⟩ = some (.int .i64 5) ∧ W'.cell? ⟨w4.heap.size, 3, none⟩ = some (.string z)) ((first | (refine ⟨?_, ?_, ?_, ?_, ?_, ?_, ?_, ?_, ?_, ?_⟩ <;> assumption) | (refine ⟨?_, ?_, ?_, ?_, ?_, ?_, ?_, ?_, ?_, ?_⟩ <;> first | assumption | (exact Eff.drew (by assumption))) | go_keep))
    (first
    | (go_at_call 14; refine (CR2 _ (by assumption)).mono ?_; rintro e w5 ⟨rfl, u, u0, u1, u2, u3, u4, u5, u6, u7, u8⟩)
    | (go_at_call 12; refine (CE2 _ (by assumption)).mono ?_; rintro e w6 ⟨rfl, v, v0, v1, v2, v3, v4, v5, v6, v7, v8⟩))
  all_goals
    go_wp2
    go_ret
    exact ⟨rfl, v⟩
end Go.Proofs.Ytcmepoakcffpaaa.CP
