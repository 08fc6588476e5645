/- A master of which a byte is turned is another one, or none (MasterTurned). Conditions: none beyond the given row's own. -/
import Derived.Test.YtiagbkpggeglgaaProg
import Derived.BigRegion
import Derived.BigQuiet
import Derived.Deep.QuietTactic
import Derived.Deep.AppendLies
import Derived.ChangeAlike
import Derived.Outline
import Derived.WalkKit
import Derived.KernelRfl
import Derived.Deep.LoopGhost
import Derived.Deep.RegionLaw
import Derived.Test.YtiagbkpggeglgaaWMore
import Derived.Test.YtiagbkpggeglgaaWKept
import Derived.Test.YtiagbkpggeglgaaLSep
import Derived.Test.YtiagbkpggeglgaaMTx
import Derived.Test.YtiagbkpggeglgaaRMPlain
namespace Go.Proofs.Ytiagbkpggeglgaa.Pure
open Go Go.RowKit Go.Proofs.YtiagbkpggeglgaaW.PrintWords Go.Proofs.YtiagbkpggeglgaaW.PrintLast Go.Proofs.YtiagbkpggeglgaaW.PrintMore Go.Proofs.Ytiagbkpggeglgaa.MT Go.Proofs.Ytiagbkpggeglgaa.L Go.Proofs.Ytiagbkpggeglgaa.RS
set_option linter.unusedVariables false
set_option linter.unusedSimpArgs false
theorem bits_xor8 (a b : Nat) (ha : a < 2 ^ 8) (hb : b < 2 ^ 8) : Go.bits .xor .u8 a b = ((a ^^^ b : Nat) : Int) := by
  have hp : 2 ^ 8 ≤ 2 ^ IntKind.u8.bits := by decide
  have ha' : a % 2 ^ IntKind.u8.bits = a := Nat.mod_eq_of_lt (Nat.lt_of_lt_of_le ha hp)
  have hb' : b % 2 ^ IntKind.u8.bits = b := Nat.mod_eq_of_lt (Nat.lt_of_lt_of_le hb hp)
  have hx : a ^^^ b < 2 ^ 8 := Nat.xor_lt_two_pow ha hb
  simp only [Go.bits, BitVec.ofInt_natCast, BitVec.toNat_xor, BitVec.toNat_ofNat, ha', hb']
  exact wraps_u8 _ (Int.natCast_nonneg _) (by exact_mod_cast hx)
theorem xor_ne (a b : Nat) (hb : b ≠ 0) : a ^^^ b ≠ a := by
  intro h
  have h2 := congrArg (fun x => a ^^^ x) h
  simp only [← Nat.xor_assoc, Nat.xor_self, Nat.zero_xor] at h2
  exact hb h2
theorem app_data (s t : ByteArray) : (s ++ t).data.toList = s.data.toList ++ t.data.toList := by rw [ByteArray.data_append, Array.toList_append]
theorem ext_data (s : ByteArray) (a e : Nat) : (s.extract a e).data.toList = (s.data.toList.drop a).take (e - a) := by rw [ByteArray.data_extract, Array.toList_extract, List.extract_eq_take_drop]
theorem str_data (l : List Int) : (strOfNums l).data.toList = l.map (fun n => UInt8.ofNat n.toNat) := by
  unfold strOfNums
  simp
theorem size_data (s : ByteArray) : s.size = s.data.toList.length := by rw [Array.length_toList]; rfl
theorem turned_ne (s : ByteArray) (m : Nat) (hm : m < s.size) (c : Nat) (hc : c < 256) (hc0 : c ≠ 0) : ((s.extract 0 m ++ strOfNums [Go.bits .xor .u8 (bt s (m : Int)) (c : Int)]) ++ s.extract (m + 1) s.size) ≠ s := by
  intro h
  have hd := congrArg (fun t : ByteArray => t.data.toList[m]?) h
  rw [app_data, app_data, ext_data, List.drop_zero, str_data] at hd
  have hl : (s.data.toList.take (m - 0)).length = m := by rw [List.length_take, ← size_data]; omega
  rw [List.getElem?_append_left (by rw [List.length_append, hl]; simp), List.getElem?_append_right (by omega), hl, Nat.sub_self] at hd
  have hs : m < s.data.toList.length := by rw [← size_data]; exact hm
  rw [List.getElem?_eq_getElem hs] at hd
  have hb : bt s (m : Int) = ((s.data.toList[m].toNat : Nat) : Int) := by
    unfold bt
    rw [Int.toNat_natCast, dif_pos hm]
    rfl
  rw [hb, bits_xor8 _ _ s.data.toList[m].toNat_lt hc] at hd
  simp only [List.map_cons, List.map_nil, List.getElem?_cons_zero, Option.some.injEq, Int.toNat_natCast] at hd
  have h2 := congrArg UInt8.toNat hd
  have hx : s.data.toList[m].toNat ^^^ c < 2 ^ 8 := Nat.xor_lt_two_pow s.data.toList[m].toNat_lt hc
  rw [UInt8.toNat_ofNat', Nat.mod_eq_of_lt (by simpa using hx)] at h2
  exact xor_ne _ _ hc0 h2
theorem MasterTurned : honeycomblaw22_MasterTurned.Pure := by
  intro m a1 a2 h0 h1 h2
  obtain ⟨v, e, c, p, l⟩ := m
  refine ⟨7, ?_⟩
  unfold honeycomblaw22_MasterTurned.f
  dsimp only
  have ht : ∀ b, honeycomblaw22_MasterTurned.j0 7 a1 a2 b true v e c p l = some true := by
    intro b
    rw [honeycomblaw22_MasterTurned.j0, if_pos rfl]
    rfl
  have hp : restart_Put.f 7 v e c p l = _ := Put_is 1 v e c p l
  rw [hp, Option.bind_some]
  by_cases ho : okM v e c p l
  · rw [if_pos ho]
    dsimp only
    rw [if_pos rfl]
    by_cases hz : a2 = 0
    · rw [if_pos hz, ht]
    rw [if_neg hz]
    show honeycomblaw22_MasterTurned.j0 7 a1 a2 (strM v e c p l) (!true) v e c p l = some true
    have hs : (strM v e c p l).size = 64 := strM_size v e c p l
    obtain ⟨s, hsm⟩ : ∃ s, s = strM v e c p l := ⟨_, rfl⟩
    rw [← hsm] at hs ⊢
    rw [Bool.not_true, honeycomblaw22_MasterTurned.j0, if_neg (by simp)]
    have hs2 : (s.size : Int) = 64 := by omega
    rw [if_pos hs2]
    obtain ⟨m, hm, hmr⟩ : ∃ m : Nat, Int.tmod (wrap64 (Int.tmod a1 64 + 64)) 64 = (m : Int) ∧ m < 64 := by
      have e1 := Int.tmod_lt_of_pos a1 (show (0 : Int) < 64 by decide)
      have e2 : -64 < Int.tmod a1 64 := Int.lt_tmod_of_pos a1 (by decide)
      have e3 : wrap64 (Int.tmod a1 64 + 64) = Int.tmod a1 64 + 64 := by unfold wrap64; omega
      rw [e3]
      have e4 : 0 ≤ Int.tmod (Int.tmod a1 64 + 64) 64 := Int.tmod_nonneg _ (by omega)
      have e5 := Int.tmod_lt_of_pos (Int.tmod a1 64 + 64) (show (0 : Int) < 64 by decide)
      exact ⟨(Int.tmod (Int.tmod a1 64 + 64) 64).toNat, by omega, by omega⟩
    rw [hm]
    obtain ⟨c', hc, hcr⟩ : ∃ c : Nat, a2 = (c : Int) ∧ c < 256 := by
      have : 0 ≤ a2 ∧ a2 < 256 := by
        have h3 := h2
        simp [Lit.wf, IntKind.min, IntKind.max, IntKind.bits, IntKind.signed] at h3
        omega
      exact ⟨a2.toNat, by omega, by omega⟩
    have hw2 : wrap64 ((m : Int) + 1) = ((m + 1 : Nat) : Int) := by unfold wrap64; omega
    rw [hw2, Int.toNat_natCast, Int.toNat_natCast]
    have z1 : (s.extract 0 m).size = m := by rw [ByteArray.size_extract]; omega
    have z2 : (s.extract (m + 1) s.size).size = 63 - m := by rw [ByteArray.size_extract]; omega
    have z3 : ∀ x : Int, (strOfNums [x]).size = 1 := fun _ => rfl
    refine (if_pos (by omega)).trans ?_
    refine (if_pos (by omega)).trans ?_
    refine (if_pos (by omega)).trans ?_
    rw [Option.bind_some]
    refine (if_pos (by rw [z1, z3]; omega)).trans ?_
    refine (if_pos (by omega)).trans ?_
    refine (if_pos (by omega)).trans ?_
    refine (if_pos (by rw [ByteArray.size_append, z1, z2, z3]; omega)).trans ?_
    have hne := turned_ne s m (by omega) c' hcr (by omega)
    rw [← hc] at hne
    generalize (s.extract 0 m ++ strOfNums [Go.bits .xor .u8 (bt s (m : Int)) a2]) ++ s.extract (m + 1) s.size = s' at hne ⊢
    have hgi : restart_Get.f 6 s' = _ := Get_is s' 0
    rw [hgi, Option.bind_some]
    by_cases hg : s'.size = 64 ∧ okM (gv s' 2 6) (gv s' 6 10) (gv s' 10 14) (gv s' 14 16) (gv s' 16 18) ∧ strM (gv s' 2 6) (gv s' 6 10) (gv s' 10 14) (gv s' 14 16) (gv s' 16 18) = s'
    · rw [if_pos hg]
      dsimp only
      rw [if_pos rfl]
      congr 1
      obtain ⟨_, _, h3⟩ := hg
      generalize gv s' 2 6 = g1 at *
      generalize gv s' 6 10 = g2 at *
      generalize gv s' 10 14 = g3 at *
      generalize gv s' 14 16 = g4 at *
      generalize gv s' 16 18 = g5 at *
      by_cases k1 : g1 = v
      · by_cases k2 : g2 = e
        · by_cases k3 : g3 = c
          · by_cases k4 : g4 = p
            · by_cases k5 : g5 = l
              · subst k1 k2 k3 k4 k5
                exact absurd (h3.symm.trans hsm.symm) hne
              · simp [k5]
            · simp [k4]
          · simp [k3]
        · simp [k2]
      · simp [k1]
    · rw [if_neg hg]
      dsimp only
      rw [if_neg (by decide)]
  · rw [if_neg ho]
    dsimp only
    rw [if_neg (by decide), ht]
end Go.Proofs.Ytiagbkpggeglgaa.Pure
