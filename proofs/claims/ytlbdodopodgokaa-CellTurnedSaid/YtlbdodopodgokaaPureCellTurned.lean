import Derived.Test.YtlbdodopodgokaaPureCommon
import Derived.Test.YtlbdodopodgokaaMx3
namespace Go.Proofs.Ytlbdodopodgokaa.Pure
open Go Go.RowKit Go.Proofs.Ytlbdodopodgokaa.M Go.Proofs.YtlbdodopodgokaaW.PrintWords Go.Proofs.YtlbdodopodgokaaW.PrintLast Go.Proofs.YtlbdodopodgokaaW.PrintMore
set_option linter.unusedVariables false
open Go.Proofs.Ytlbdodopodgokaa.CP
theorem bits_xor8 (a b : Nat) (ha : a < 2 ^ 8) (hb : b < 2 ^ 8) : Go.bits .xor .u8 a b = ((a ^^^ b : Nat) : Int) := by
  have hp : 2 ^ 8 ≤ 2 ^ IntKind.u8.bits := by decide
  have ha' : a % 2 ^ IntKind.u8.bits = a := Nat.mod_eq_of_lt (Nat.lt_of_lt_of_le ha hp)
  have hb' : b % 2 ^ IntKind.u8.bits = b := Nat.mod_eq_of_lt (Nat.lt_of_lt_of_le hb hp)
  have hx : a ^^^ b < 2 ^ 8 := Nat.xor_lt_two_pow ha hb
  simp only [Go.bits, BitVec.ofInt_natCast, BitVec.toNat_xor, BitVec.toNat_ofNat, ha', hb']
  exact wraps_u8 _ (Int.natCast_nonneg _) (by exact_mod_cast hx)
theorem xor_ne (a b : Nat) (hb : b ≠ 0) : a ^^^ b ≠ a := by
  intro h
  have h2 := congrArg (fun x => a ^^^ x) h
  simp only [← Nat.xor_assoc, Nat.xor_self, Nat.zero_xor] at h2
  exact hb h2
/-- A body of which byte m is turned is another one. -/
theorem turned_ne (s : ByteArray) (m : Nat) (hm : m < s.size) (c : Nat) (hc : c < 256) (hc0 : c ≠ 0) : ((s.extract 0 m ++ strOfNums [Go.bits .xor .u8 (bt s (m : Int)) (c : Int)]) ++ s.extract (m + 1) s.size) ≠ s := by
  intro h
  have hd := congrArg (fun t : ByteArray => t.data.toList[m]?) h
  rw [app_data, app_data, ext_data, List.drop_zero, str_data] at hd
  have hl : (s.data.toList.take m).length = m := by rw [List.length_take, ← size_data]; omega
  rw [List.getElem?_append_left (by rw [List.length_append, hl]; simp), List.getElem?_append_right (by omega), hl, Nat.sub_self] at hd
  have hs : m < s.data.toList.length := by rw [← size_data]; exact hm
  rw [List.getElem?_eq_getElem hs] at hd
  have hb : bt s (m : Int) = ((s.data.toList[m].toNat : Nat) : Int) := by
    unfold bt
    rw [Int.toNat_natCast, dif_pos hm]
    rfl
  rw [hb, bits_xor8 _ _ s.data.toList[m].toNat_lt hc] at hd
  simp only [List.map_cons, List.map_nil, List.getElem?_cons_zero, Option.some.injEq, Int.toNat_natCast] at hd
  have h2 := congrArg UInt8.toNat hd
  have hx : s.data.toList[m].toNat ^^^ c < 2 ^ 8 := Nat.xor_lt_two_pow s.data.toList[m].toNat_lt hc
  rw [UInt8.toNat_ofNat', Nat.mod_eq_of_lt (by simpa using hx)] at h2
  exact xor_ne _ _ hc0 h2
theorem CellTurned : honeycomblaw7_CellTurned.Pure := by
  intro l0 a1 a2 h0 _ h1 h2
  refine ⟨l0.length + 3, ?_⟩
  unfold honeycomblaw7_CellTurned.f
  have ht : ∀ k, honeycomblaw7_CellTurned.j0 (k + 1) l0 a1 a2 true = some true := by
    intro k
    rw [honeycomblaw7_CellTurned.j0, if_pos rfl, alive_is]
    rfl
  by_cases h60 : (l0.length : Int) > 60
  · rw [if_pos h60, ht]
  rw [if_neg h60]
  by_cases hz : a2 = 0
  · rw [if_pos hz, ht]
  rw [if_neg hz, alive_is, Option.bind_some]
  rw [Bool.not_true, honeycomblaw7_CellTurned.j0, if_neg (by simp)]
  cases hp : put (cls l0) with
  | none => rw [putF_no hp, Option.bind_some]; rfl
  | some b =>
    rw [putF_some hp, Option.bind_some]
    have hs : (⟨b.toArray⟩ : ByteArray).size = 240 := by rw [size_data]; exact put_length hp
    have hpf : putF (cls l0) = (⟨b.toArray⟩, true) := by simp [putF, hp]
    generalize (⟨b.toArray⟩ : ByteArray) = s at *
    refine (if_pos rfl).trans ?_
    have hs2 : (s.size : Int) = 240 := by omega
    refine (if_neg (by show ¬ (s.size : Int) = 0; omega)).trans ?_
    have hw : (Lit.int .i64 a1).wf = true := h1
    show (if 0 ≤ (Int.tmod (wrap64 ((Int.tmod a1 (s.size : Int)) + (s.size : Int))) (s.size : Int)) then _ else _) = _
    dsimp only
    rw [hs2]
    obtain ⟨m, hm, hmr⟩ : ∃ m : Nat, Int.tmod (wrap64 (Int.tmod a1 240 + 240)) 240 = (m : Int) ∧ m < 240 := by
      have e1 := Int.tmod_lt_of_pos a1 (show (0 : Int) < 240 by decide)
      have e2 : -240 < Int.tmod a1 240 := Int.lt_tmod_of_pos a1 (by decide)
      have e3 : wrap64 (Int.tmod a1 240 + 240) = Int.tmod a1 240 + 240 := by unfold wrap64; omega
      rw [e3]
      have e4 : 0 ≤ Int.tmod (Int.tmod a1 240 + 240) 240 := Int.tmod_nonneg _ (by omega)
      have e5 := Int.tmod_lt_of_pos (Int.tmod a1 240 + 240) (show (0 : Int) < 240 by decide)
      exact ⟨(Int.tmod (Int.tmod a1 240 + 240) 240).toNat, by omega, by omega⟩
    rw [hm]
    obtain ⟨c, hc, hcr⟩ : ∃ c : Nat, a2 = (c : Int) ∧ c < 256 := by
      have : 0 ≤ a2 ∧ a2 < 256 := by
        have h3 := h2
        simp [Lit.wf, IntKind.min, IntKind.max, IntKind.bits, IntKind.signed] at h3
        omega
      exact ⟨a2.toNat, by omega, by omega⟩
    have hw2 : wrap64 ((m : Int) + 1) = ((m + 1 : Nat) : Int) := by unfold wrap64; omega
    rw [hw2, Int.toNat_natCast, Int.toNat_natCast]
    have z1 : (s.extract 0 m).size = m := by rw [ByteArray.size_extract]; omega
    have z2 : (s.extract (m + 1) s.size).size = 239 - m := by rw [ByteArray.size_extract]; omega
    refine (if_pos (by omega)).trans ?_
    refine (if_pos (by omega)).trans ?_
    refine (if_pos (by omega)).trans ?_
    rw [Option.bind_some]
    refine (if_pos (by rw [z1, strOfNums_size]; simp; omega)).trans ?_
    refine (if_pos (by omega)).trans ?_
    refine (if_pos (by omega)).trans ?_
    refine (if_pos (by rw [ByteArray.size_append, z1, z2, strOfNums_size]; simp; omega)).trans ?_
    have hne := turned_ne s m (by omega) c hcr (by omega)
    rw [← hc] at hne
    generalize (s.extract 0 m ++ strOfNums [Go.bits .xor .u8 (bt s (m : Int)) a2]) ++ s.extract (m + 1) s.size = s' at hne ⊢
    rw [Get_is, Option.bind_some]
    by_cases hg : (getF s').2 = true
    · refine (if_pos hg).trans ?_
      obtain ⟨xs, hx⟩ : ∃ xs, getF s' = (xs, true) := ⟨(getF s').1, by rw [← hg]⟩
      obtain ⟨r, hr, hri⟩ := Same_up ((getF s').1.map ofB) l0 (by omega)
      show ((honeycombbook_SameCells.f (l0.length + 2) ((getF s').1.map ofB) l0).bind _) = _
      rw [hr (l0.length + 2) (by omega), Option.bind_some]
      cases r with
      | false => rfl
      | true =>
        exfalso
        have e := hri.mp rfl
        rw [hx] at e
        have e2 : xs = l0.map toB := by rw [← e, map_to_of]
        have e3 := getF_true hx
        rw [e2] at e3
        have e4 : putF (cls l0) = (s', true) := e3
        rw [hpf] at e4
        injection e4 with e5
        exact hne e5.symm
    · refine (if_neg hg).trans rfl

end Go.Proofs.Ytlbdodopodgokaa.Pure
