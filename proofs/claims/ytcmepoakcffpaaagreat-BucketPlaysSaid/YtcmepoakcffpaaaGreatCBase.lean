import Derived.Test.YtcmepoakcffpaaaGreatCPlain
import Derived.Test.YtcmepoakcffpaaaGreatProg
import Derived.BigRegion
import Derived.BigQuiet
import Derived.Deep.QuietTactic
import Derived.Deep.AppendLies
import Derived.ChangeAlike
import Derived.Outline
import Derived.WalkKit
import Derived.KernelRfl
import Derived.Deep.LoopGhost
import Derived.Deep.RegionLaw
import Derived.Test.YtcmepoakcffpaaaGreatWMore
import Derived.Test.YtcmepoakcffpaaaGreatWKept
import Derived.Test.YtcmepoakcffpaaaGreatLSep
import Derived.Test.YtcmepoakcffpaaaGreatCRx
namespace Go.Proofs.YtcmepoakcffpaaaGreat.CP
open Go Go.RowKit Go.Proofs.YtcmepoakcffpaaaGreatW.PrintWords Go.Proofs.YtcmepoakcffpaaaGreatW.PrintLast Go.Proofs.YtcmepoakcffpaaaGreatW.PrintMore Go.Proofs.YtcmepoakcffpaaaGreat.CR Go.Proofs.YtcmepoakcffpaaaGreat.L
set_option linter.unusedVariables false
set_option linter.unusedSimpArgs false
/-- A cell as it lies in memory. -/
structure B where
  k : ByteArray
  v : ByteArray
  bl : Int
  sz : Int
deriving Inhabited
def B.cl (c : B) : Cl := ⟨c.k.data.toList, c.v.data.toList, c.bl, c.sz⟩
def cellsB (c : B) : List Value := [.string c.k, .string c.v, .int .i64 c.bl, .int .i64 c.sz]
abbrev B.val (c : B) : Value := .agg #[.string c.k, .string c.v, .int .i64 c.bl, .int .i64 c.sz]
def kdB : Kd B where
  sz := 4
  E := []
  K := fun _ x cs => cs = cellsB x
  M := fun _ _ _ x cs => cs = cellsB x
  K_len := by rintro w x cs rfl; rfl
  K_one := by
    rintro w x cs rfl u hu
    simp only [cellsB, List.mem_cons, List.not_mem_nil, or_false] at hu
    rcases hu with rfl | rfl | rfl | rfl <;> rfl
  K_below := fun _ h => h
  K_of_M := fun h => h
  M_mono := fun _ h => h
  M_bound := fun h => h
  M_move := fun _ h => h
  M_lower := fun _ h => h
theorem at_B {w : World} {A : Option Addr} {n : Nat} {ls : List B} (h : Kd.C kdB w A n ls) (i : Nat) (h1 : i < n) :
    ∃ ad, A = some ad ∧ w.cell? (ad.add (i * 4)) = some (.string (ls.getD i default).k) ∧ w.cell? { block := (ad.add (i * 4)).block, off := (ad.add (i * 4)).off + 1 } = some (.string (ls.getD i default).v) ∧ w.cell? { block := (ad.add (i * 4)).block, off := (ad.add (i * 4)).off + 2 } = some (.int .i64 (ls.getD i default).bl) ∧ w.cell? { block := (ad.add (i * 4)).block, off := (ad.add (i * 4)).off + 3 } = some (.int .i64 (ls.getD i default).sz) := by
  obtain ⟨ad, c, e, _, hK, hc0⟩ := Kd.C_get h (default : B) (i : Int) (by omega) (by omega)
  have hc : ∀ j u, c[j]? = some u → w.cell? (ad.add (i * 4 + j)) = some u := hc0
  have hK2 : c = cellsB (ls.getD i default) := hK
  subst hK2
  have hA : ∀ j, j ≠ 0 → ad.add (i * 4 + j) = { block := (ad.add (i * 4)).block, off := (ad.add (i * 4)).off + j } := by
    intro j hj
    unfold Addr.add
    rw [if_neg (by omega)]
    by_cases hi : i * 4 = 0
    · rw [if_pos hi, hi, Nat.zero_add]
    · rw [if_neg hi, Nat.add_assoc]
  exact ⟨ad, e, hc 0 _ rfl, by rw [← hA 1 (by decide)]; exact hc 1 _ rfl, by rw [← hA 2 (by decide)]; exact hc 2 _ rfl, by rw [← hA 3 (by decide)]; exact hc 3 _ rfl⟩
theorem size_data (b : ByteArray) : b.size = b.data.toList.length := by rw [Array.length_toList]; rfl
theorem toList_nil_iff (b : ByteArray) : b.toList = [] ↔ b.data.toList = [] := by rw [Lib.toList_data]
theorem right_calls (w : World) (c : B) : Calls Tryz.prog 23 #[c.val] w fun e w' => e = .returned (.bool (right c.cl)) ∧ Eff0 w w' := by
  refine (cell_Right.calls c.k c.v c.bl c.sz (right c.cl) w ?_).mono fun e w' ⟨he, hb⟩ => ⟨he, Eff.of_below hb⟩
  unfold cell_Right.f fnv_Key.f right B.cl
  have h1 := size_data c.k
  have h2 := size_data c.v
  simp only [toList_nil_iff]
  generalize c.k.data.toList = K at *
  generalize c.v.data.toList = V at *
  rw [h1, h2]
  generalize c.bl = bl
  generalize c.sz = sz
  clear h1 h2
  by_cases a : K = []
  · simp [a]
  · have a' : 1 ≤ K.length := by
      rcases Nat.eq_zero_or_pos K.length with h | h
      · exact absurd (List.length_eq_zero_iff.mp h) a
      · exact h
    rw [if_neg a, Option.bind_some]
    by_cases b : K.length ≤ 16
    · rw [decide_eq_true (show (K.length : Int) ≤ 16 by omega), if_pos rfl]
      by_cases d : bl = 0
      · rw [if_pos d]
        by_cases f : V.length ≤ 40
        · rw [if_pos (show (V.length : Int) ≤ 40 by omega)]
          simp only [a', b, d, f, true_and, if_true]
          rw [Option.some.injEq, Bool.eq_iff_iff]
          simp
        · rw [if_neg (show ¬ (V.length : Int) ≤ 40 by omega)]
          simp [d, f]
      · rw [if_neg d]
        by_cases g1 : bl ≥ 2
        · rw [if_pos g1]
          by_cases g2 : bl < 64
          · rw [if_pos g2]
            by_cases g3 : V = []
            · rw [if_pos g3]
              by_cases g4 : sz > 40
              · rw [if_pos g4]
                simp [a', b, d, g1, g2, g3, g4]
              · rw [if_neg g4]
                simp [d, g4]
            · rw [if_neg g3]
              simp [d, g3]
          · rw [if_neg g2]
            simp [d, g2]
        · rw [if_neg g1]
          simp [d]
          intro _ _ h
          omega
    · rw [decide_eq_false (show ¬ (K.length : Int) ≤ 16 by omega), if_neg (by simp)]
      simp [b]
theorem str_data (l : List Int) : (strOfNums l).data.toList = l.map (fun n => UInt8.ofNat n.toNat) := strOfNums_data l
theorem app_data (a b : ByteArray) : (a ++ b).data.toList = a.data.toList ++ b.data.toList := by simp
theorem eq_of_data {a b : ByteArray} (h : a.data.toList = b.data.toList) : a = b := by
  obtain ⟨⟨a⟩⟩ := a
  obtain ⟨⟨b⟩⟩ := b
  simp only at h
  rw [h]
theorem num2_str (n : Nat) (h : n < 65536) : ([((n : Int) / 256) % 256, (n : Int) % 256] : List Int).map (fun z => UInt8.ofNat z.toNat) = num2 n := by
  have e1 : (((n : Int) / 256) % 256).toNat = n / 256 := by omega
  have e2 : ((n : Int) % 256).toNat = n % 256 := by omega
  simp only [List.map_cons, List.map_nil, e1, e2, num2]
  congr 2
  apply UInt8.toNat_inj.mp
  simp
theorem put_f (c : B) (h : right c.cl = true) : cell_put.f c.k c.v c.bl c.sz = some ⟨(enc c.cl).toArray⟩ := by
  simp only [right, decide_eq_true_eq] at h
  obtain ⟨h1, h2, h3⟩ := h
  have s1 := size_data c.k
  have s2 := size_data c.v
  unfold B.cl at h1 h2 h3
  simp only at h1 h2 h3
  rw [← s1] at h1 h2
  unfold cell_put.f cell_number.f
  simp only [Option.bind_some]
  have z1 : (strOfNums ([((c.k.size : Int)) % 256] : List Int)).size = 1 := strOfNums_size _
  have z2 : ∀ a b : Int, (strOfNums [a, b]).size = 2 := fun a b => strOfNums_size _
  have z3 : (⟨#[0]⟩ : ByteArray).size = 1 := rfl
  have z4 : (⟨#[1]⟩ : ByteArray).size = 1 := rfl
  have e1 : (([((c.k.size : Int)) % 256] : List Int).map (fun z => UInt8.ofNat z.toNat)) = [UInt8.ofNat c.k.size] := by
    have : (((c.k.size : Int)) % 256).toNat = c.k.size := by omega
    simp only [List.map_cons, List.map_nil, this]
  have e0 : ([0] : List UInt8) = (⟨#[0]⟩ : ByteArray).data.toList := rfl
  by_cases hb : c.bl = 0
  · rw [if_pos hb] at h3
    obtain ⟨h4, h5⟩ := h3
    rw [← s2] at h4
    rw [if_pos hb]
    rw [if_pos (by rw [z1]; omega), if_pos (by rw [ByteArray.size_append, z1]; omega), if_pos (by simp only [ByteArray.size_append, z1, z2, z3]; omega), if_pos (by simp only [ByteArray.size_append, z1, z2, z3]; omega)]
    congr 1
    apply eq_of_data
    simp only [app_data, str_data]
    rw [e1, num2_str c.v.size (by omega)]
    show _ = enc c.cl
    unfold enc B.cl
    simp only [hb, if_true, ← s1, ← s2]
    simp
  · rw [if_neg hb] at h3
    obtain ⟨h4, h5, h6, h7, h8⟩ := h3
    rw [if_neg hb]
    rw [if_pos (by rw [z1]; omega), if_pos (by rw [ByteArray.size_append, z1]; omega), if_pos (by simp only [ByteArray.size_append, z1, z2, z4]; omega), if_pos (by simp only [ByteArray.size_append, z1, z2, z4]; omega)]
    congr 1
    apply eq_of_data
    simp only [app_data, str_data]
    have e2 : c.bl = ((c.bl.toNat : Nat) : Int) := by omega
    have e3 : c.sz = ((c.sz.toNat : Nat) : Int) := by omega
    rw [e1, e2, e3, num2_str c.bl.toNat (by omega), num2_str c.sz.toNat (by omega)]
    show _ = enc c.cl
    unfold enc B.cl
    simp only [hb, if_false, ← s1]
    simp
theorem put_calls (w : World) (c : B) (h : right c.cl = true) : Calls Tryz.prog 101 #[c.val] w fun e w' => e = .returned (.string ⟨(enc c.cl).toArray⟩) ∧ Eff0 w w' :=
  (cell_put.calls c.k c.v c.bl c.sz _ w (put_f c h)).mono fun e w' ⟨he, hb⟩ => ⟨he, Eff.of_below hb⟩
end Go.Proofs.YtcmepoakcffpaaaGreat.CP
