/- What a master's bytes are, and what bytes are a master's. Conditions: none beyond the stated ones. -/
import Derived.Test.YtiagbkpggeglgaaGreatProg
import Derived.BigRegion
import Derived.BigQuiet
import Derived.Deep.QuietTactic
import Derived.Deep.AppendLies
import Derived.ChangeAlike
import Derived.Outline
import Derived.WalkKit
import Derived.KernelRfl
import Derived.Deep.LoopGhost
import Derived.Deep.RegionLaw
import Derived.Test.YtiagbkpggeglgaaGreatWMore
import Derived.Test.YtiagbkpggeglgaaGreatWKept
import Derived.Test.YtiagbkpggeglgaaGreatLSep
import Derived.Test.YtiagbkpggeglgaaGreatMRx4
namespace Go.Proofs.YtiagbkpggeglgaaGreat.RS
open Go Go.RowKit Go.Proofs.YtiagbkpggeglgaaGreatW.PrintWords Go.Proofs.YtiagbkpggeglgaaGreatW.PrintLast Go.Proofs.YtiagbkpggeglgaaGreatW.PrintMore Go.Proofs.YtiagbkpggeglgaaGreat.MR Go.Proofs.YtiagbkpggeglgaaGreat.L
set_option linter.unusedVariables false
set_option linter.unusedSimpArgs false
theorem number4 (v : Int) (k : Nat) : restart_number.f (k + 5) v 4 = some (strOfNums [v / 16777216 % 256, v / 65536 % 256, v / 256 % 256, v % 256]) := by
  simp [restart_number.f, restart_number.l0, wrap64, shr, IntKind.bits]
theorem number2 (v : Int) (k : Nat) : restart_number.f (k + 3) v 2 = some (strOfNums [v / 256 % 256, v % 256]) := by
  simp [restart_number.f, restart_number.l0, wrap64, shr, IntKind.bits]
/-- A master's numbers are such. -/
def okM (v e c p l : Int) : Prop := 1 ≤ v ∧ v ≤ 4294967295 ∧ 1 ≤ e ∧ e ≤ 4294967295 ∧ 0 ≤ c ∧ c ≤ 4294967295 ∧ 8 ≤ p ∧ p ≤ 64 ∧ 64 ≤ l ∧ l ≤ 4000
instance (v e c p l : Int) : Decidable (okM v e c p l) := by unfold okM; infer_instance
def bytesM (v e c p l : Int) : List UInt8 := [72, 67] ++ ([v / 16777216 % 256, v / 65536 % 256, v / 256 % 256, v % 256, e / 16777216 % 256, e / 65536 % 256, e / 256 % 256, e % 256, c / 16777216 % 256, c / 65536 % 256, c / 256 % 256, c % 256, p / 256 % 256, p % 256, l / 256 % 256, l % 256].map (fun n => UInt8.ofNat n.toNat)) ++ List.replicate 46 0
def strM (v e c p l : Int) : ByteArray := ⟨(bytesM v e c p l).toArray⟩
theorem strM_size (v e c p l : Int) : (strM v e c p l).size = 64 := rfl
theorem repeat46 : strings_Repeat.f (⟨#[0]⟩ : ByteArray) 46 = some ⟨(List.replicate 46 0).toArray⟩ := by
  unfold strings_Repeat.f
  rw [if_pos (by decide)]
  rfl
theorem bad_j (k : Nat) (v e c p l : Int) : restart_Put.j0 (k + 1) true v e c p l = some (⟨#[]⟩, false) := by
  rw [restart_Put.j0]
  simp
theorem good_j (k : Nat) (v e c p l : Int) : restart_Put.j0 (k + 6) false v e c p l = some (strM v e c p l, true) := by
  rw [restart_Put.j0]
  simp only [Bool.false_eq_true, if_false, number4, number2, Option.bind_some, repeat46]
  have hs4 : ∀ a b c d : Int, (strOfNums [a, b, c, d]).size = 4 := fun _ _ _ _ => rfl
  have hs2 : ∀ a b : Int, (strOfNums [a, b]).size = 2 := fun _ _ => rfl
  simp only [ByteArray.size_append, hs4, hs2]
  have h0 : ((⟨#[72, 67]⟩ : ByteArray)).size = 2 := rfl
  have h46 : ((⟨(List.replicate 46 0).toArray⟩ : ByteArray)).size = 46 := rfl
  simp only [h0, h46]
  simp only [Nat.reduceAdd, Nat.reduceLeDiff, if_true]
  congr 2
theorem Put_is (k : Nat) (v e c p l : Int) : restart_Put.f (k + 6) v e c p l = some (if okM v e c p l then (strM v e c p l, true) else (⟨#[]⟩, false)) := by
  unfold restart_Put.f mn mx
  by_cases h1 : (if e < v then e else v) < 1
  · rw [if_pos h1, bad_j, if_neg]
    intro h
    obtain ⟨a1, a2, a3, a4, _⟩ := h
    split at h1 <;> omega
  rw [if_neg h1]
  by_cases h2 : (if (if v < e then e else v) < c then c else (if v < e then e else v)) > 4294967295
  · rw [if_pos h2, bad_j, if_neg]
    intro h
    obtain ⟨a1, a2, a3, a4, a5, a6, _⟩ := h
    split at h2 <;> split at h2 <;> omega
  rw [if_neg h2]
  have hv : 1 ≤ v ∧ v ≤ 4294967295 ∧ 1 ≤ e ∧ e ≤ 4294967295 ∧ c ≤ 4294967295 := by
    split at h1 <;> split at h2 <;> simp_all <;> omega
  by_cases h3 : c < 0
  · rw [if_pos h3, bad_j, if_neg]
    rintro ⟨_, _, _, _, a, _⟩
    omega
  rw [if_neg h3]
  by_cases h4 : p < 8
  · rw [if_pos h4, bad_j, if_neg]
    rintro ⟨_, _, _, _, _, _, a, _⟩
    omega
  rw [if_neg h4]
  by_cases h5 : p > 64
  · rw [if_pos h5, bad_j, if_neg]
    rintro ⟨_, _, _, _, _, _, _, a, _⟩
    omega
  rw [if_neg h5]
  by_cases h6 : l < 64
  · rw [if_pos h6, bad_j, if_neg]
    rintro ⟨_, _, _, _, _, _, _, _, a, _⟩
    omega
  rw [if_neg h6]
  by_cases h7 : l > 4000
  · rw [decide_eq_true h7, bad_j, if_neg]
    rintro ⟨_, _, _, _, _, _, _, _, _, a⟩
    omega
  rw [decide_eq_false h7, good_j, if_pos]
  refine ⟨hv.1, hv.2.1, hv.2.2.1, hv.2.2.2.1, by omega, hv.2.2.2.2, by omega, by omega, by omega, by omega⟩
def nval (l : List UInt8) : Nat := l.foldl (fun v b => v * 256 + b.toNat) 0
theorem or8 (v x : Nat) (hv : v < 281474976710656) (hx : x < 256) : Go.bits .or .i64 (wrap64 ((v : Int) * 256)) (wrap64 (x : Int)) = ((v * 256 + x : Nat) : Int) := by
  have e1 : wrap64 ((v : Int) * 256) = (v : Int) * 256 := by unfold wrap64; omega
  have e2 : wrap64 (x : Int) = (x : Int) := by unfold wrap64; omega
  rw [e1, e2, bits_join .i64 62 (by decide) (fun n h0 h1 => by rw [IntKind.wrap_i64]; omega) 8 _ _ (by omega) (by omega) (by omega) (by omega) (by omega) (by omega)]
  omega
theorem bt_nat (s : ByteArray) (i : Nat) (h : i < s.data.toList.length) : bt s (i : Int) = ((s.data.toList[i]'h).toNat : Int) := by
  have h' : i < s.size := by simpa using h
  unfold bt
  rw [dif_pos (by simpa using h')]
  rfl
theorem value_l0 (s : ByteArray) (hs : s.size ≤ 4) : ∀ (d i v : Nat), i + d = s.size → v < 256 ^ i → ∀ k, restart_value.l0 (k + d + 1) s v s.size i = some (((s.data.toList.drop i).foldl (fun v b => v * 256 + b.toNat) v : Nat) : Int)
  | 0, i, v, h, hv, k => by
    rw [restart_value.l0, if_neg (by omega), List.drop_eq_nil_of_le (by rw [Array.length_toList]; show s.size ≤ i; omega)]
    rfl
  | d + 1, i, v, h, hv, k => by
    have hi : i < s.data.toList.length := by rw [Array.length_toList]; show i < s.size; omega
    have hx := (s.data.toList[i]'hi).toNat_lt
    have hv2 : v < 281474976710656 := Nat.lt_of_lt_of_le hv (Nat.le_trans (Nat.pow_le_pow_right (by decide) (show i ≤ 4 by omega)) (by decide))
    rw [restart_value.l0, if_pos (by omega), if_pos (by omega), if_pos (by omega), bt_nat s i hi, or8 v _ hv2 hx]
    have e1 : wrap64 ((i : Int) + 1) = ((i + 1 : Nat) : Int) := by unfold wrap64; omega
    rw [e1, ← Nat.add_assoc, value_l0 s hs d (i + 1) _ (by omega) (by rw [Nat.pow_succ]; omega) k, List.drop_eq_getElem_cons hi, List.foldl_cons]
theorem value_is (s : ByteArray) (hs : s.size ≤ 4) (k : Nat) : restart_value.f (k + 5) s = some ((nval s.data.toList : Nat) : Int) := by
  unfold restart_value.f
  have := value_l0 s hs s.size 0 0 (by omega) (by simp) (k + (4 - s.size))
  rw [show k + (4 - s.size) + s.size + 1 = k + 5 by omega] at this
  rw [show ((0 : Nat) : Int) = 0 from rfl] at this
  rw [this]
  rfl
/-- The numbers that lie in 64 bytes. -/
def gv (b : ByteArray) (i j : Nat) : Int := ((nval (b.extract i j).data.toList : Nat) : Int)
theorem Get_is (b : ByteArray) (k : Nat) : restart_Get.f (k + 6) b = some (if b.size = 64 ∧ okM (gv b 2 6) (gv b 6 10) (gv b 10 14) (gv b 14 16) (gv b 16 18) ∧ strM (gv b 2 6) (gv b 6 10) (gv b 10 14) (gv b 14 16) (gv b 16 18) = b then (gv b 2 6, gv b 6 10, gv b 10 14, gv b 14 16, gv b 16 18, true) else (0, 0, 0, 0, 0, false)) := by
  unfold restart_Get.f
  by_cases hb : (b.size : Int) = 64
  · have hs : b.size = 64 := by omega
    have hx : ∀ i j : Nat, j - i ≤ 4 → (b.extract i j).size ≤ 4 := fun i j h => by rw [ByteArray.size_extract]; omega
    rw [if_pos hb]
    simp only [Int.reduceLE, if_true, hb, value_is _ (hx 2 6 (by decide)), value_is _ (hx 6 10 (by decide)), value_is _ (hx 10 14 (by decide)), value_is _ (hx 14 16 (by decide)), value_is _ (hx 16 18 (by decide)), Option.bind_some, Put_is]
    show (if (if okM (gv b 2 6) (gv b 6 10) (gv b 10 14) (gv b 14 16) (gv b 16 18) then (strM (gv b 2 6) (gv b 6 10) (gv b 10 14) (gv b 14 16) (gv b 16 18), true) else ((⟨#[]⟩ : ByteArray), false)).2 = true then (if (if okM (gv b 2 6) (gv b 6 10) (gv b 10 14) (gv b 14 16) (gv b 16 18) then (strM (gv b 2 6) (gv b 6 10) (gv b 10 14) (gv b 14 16) (gv b 16 18), true) else ((⟨#[]⟩ : ByteArray), false)).1.toList = b.toList then some (gv b 2 6, gv b 6 10, gv b 10 14, gv b 14 16, gv b 16 18, true) else some (0, 0, 0, 0, 0, false)) else some (0, 0, 0, 0, 0, false)) = _
    by_cases ho : okM (gv b 2 6) (gv b 6 10) (gv b 10 14) (gv b 14 16) (gv b 16 18)
    · simp only [if_pos ho]
      by_cases he : (strM (gv b 2 6) (gv b 6 10) (gv b 10 14) (gv b 14 16) (gv b 16 18)).toList = b.toList
      · have he2 : strM (gv b 2 6) (gv b 6 10) (gv b 10 14) (gv b 14 16) (gv b 16 18) = b := by
          rw [ByteArray.toList_eq, ByteArray.toList_eq] at he
          exact ByteArray.ext (Array.toList_inj.1 he)
        rw [if_pos trivial, if_pos he, if_pos ⟨hs, ho, he2⟩]
      · rw [if_pos trivial, if_neg he, if_neg]
        rintro ⟨_, _, h⟩
        exact he (by rw [h])
    · simp only [if_neg ho]
      rw [if_neg (by decide), if_neg]
      rintro ⟨_, h, _⟩
      exact ho h
  · rw [if_neg hb, if_neg]
    rintro ⟨h, _⟩
    omega
theorem u8_nat (x : Int) (h : 0 ≤ x ∧ x < 256) : (UInt8.ofNat x.toNat).toNat = x.toNat := by
  rw [UInt8.toNat_ofNat']
  omega
theorem val4 (v : Int) (h : 0 ≤ v ∧ v ≤ 4294967295) : ((nval [UInt8.ofNat (v / 16777216 % 256).toNat, UInt8.ofNat (v / 65536 % 256).toNat, UInt8.ofNat (v / 256 % 256).toNat, UInt8.ofNat (v % 256).toNat] : Nat) : Int) = v := by
  unfold nval
  simp only [List.foldl_cons, List.foldl_nil]
  rw [u8_nat _ (by omega), u8_nat _ (by omega), u8_nat _ (by omega), u8_nat _ (by omega)]
  omega
theorem val2 (v : Int) (h : 0 ≤ v ∧ v ≤ 65535) : ((nval [UInt8.ofNat (v / 256 % 256).toNat, UInt8.ofNat (v % 256).toNat] : Nat) : Int) = v := by
  unfold nval
  simp only [List.foldl_cons, List.foldl_nil]
  rw [u8_nat _ (by omega), u8_nat _ (by omega)]
  omega
/-- A master's bytes are read as that master. -/
theorem gv_own {v e c p l : Int} (h : okM v e c p l) : gv (strM v e c p l) 2 6 = v ∧ gv (strM v e c p l) 6 10 = e ∧ gv (strM v e c p l) 10 14 = c ∧ gv (strM v e c p l) 14 16 = p ∧ gv (strM v e c p l) 16 18 = l := by
  obtain ⟨a1, a2, a3, a4, a5, a6, a7, a8, a9, a10⟩ := h
  have hd : ∀ i j, ((strM v e c p l).extract i j).data.toList = ((bytesM v e c p l).drop i).take (j - i) := fun i j => by
    rw [ByteArray.data_extract, Array.toList_extract, List.extract_eq_take_drop]
    rfl
  unfold gv
  simp only [hd]
  refine ⟨?_, ?_, ?_, ?_, ?_⟩
  · exact val4 v ⟨by omega, a2⟩
  · exact val4 e ⟨by omega, a4⟩
  · exact val4 c ⟨a5, a6⟩
  · exact val2 p ⟨by omega, by omega⟩
  · exact val2 l ⟨by omega, by omega⟩
theorem Get_own {v e c p l : Int} (h : okM v e c p l) (k : Nat) : restart_Get.f (k + 6) (strM v e c p l) = some (v, e, c, p, l, true) := by
  obtain ⟨h1, h2, h3, h4, h5⟩ := gv_own h
  rw [Get_is, h1, h2, h3, h4, h5, if_pos ⟨strM_size _ _ _ _ _, h, rfl⟩]
theorem Get_none {b : ByteArray} (hb : b.size ≠ 64 ∨ ∀ v e c p l, okM v e c p l → strM v e c p l ≠ b) (k : Nat) : restart_Get.f (k + 6) b = some (0, 0, 0, 0, 0, false) := by
  rw [Get_is, if_neg]
  rintro ⟨h1, h2, h3⟩
  rcases hb with hb | hb
  · exact hb h1
  · exact hb _ _ _ _ _ h2 h3
theorem Get_nil (k : Nat) : restart_Get.f (k + 6) (⟨#[]⟩ : ByteArray) = some (0, 0, 0, 0, 0, false) := Get_none (.inl (by decide)) k
theorem Newer_both {a b : ByteArray} {v e c p l v' e' c' p' l' : Int} {k : Nat} (ha : restart_Get.f (k + 6) a = some (v, e, c, p, l, true)) (hb : restart_Get.f (k + 6) b = some (v', e', c', p', l', true)) :
    restart_Newer.f (k + 6) a b = some (if v ≥ v' then (v, e, c, p, l, 0, true) else (v', e', c', p', l', 1, true)) := by
  unfold restart_Newer.f
  simp only [ha, hb, Option.bind_some, if_true]
  rw [restart_Newer.j0]
  by_cases h : v ≥ v'
  · rw [if_pos (decide_eq_true h), if_pos h]
  · rw [if_neg (by simpa using h), if_neg h]
    simp
theorem Newer_left {a b : ByteArray} {v e c p l : Int} {k : Nat} (ha : restart_Get.f (k + 6) a = some (v, e, c, p, l, true)) (hb : restart_Get.f (k + 6) b = some (0, 0, 0, 0, 0, false)) :
    restart_Newer.f (k + 6) a b = some (v, e, c, p, l, 0, true) := by
  unfold restart_Newer.f
  simp only [ha, hb, Option.bind_some, if_true, Bool.false_eq_true, if_false]
  rw [restart_Newer.j0]
  simp
theorem Newer_right {a b : ByteArray} {v e c p l : Int} {k : Nat} (ha : restart_Get.f (k + 6) a = some (0, 0, 0, 0, 0, false)) (hb : restart_Get.f (k + 6) b = some (v, e, c, p, l, true)) :
    restart_Newer.f (k + 6) a b = some (v, e, c, p, l, 1, true) := by
  unfold restart_Newer.f
  simp only [ha, hb, Option.bind_some, if_true, Bool.false_eq_true, if_false]
  rw [restart_Newer.j0]
  simp
theorem Newer_none {a b : ByteArray} {k : Nat} (ha : restart_Get.f (k + 6) a = some (0, 0, 0, 0, 0, false)) (hb : restart_Get.f (k + 6) b = some (0, 0, 0, 0, 0, false)) :
    restart_Newer.f (k + 6) a b = some (0, 0, 0, 0, 0, 0, false) := by
  unfold restart_Newer.f
  simp only [ha, hb, Option.bind_some, Bool.false_eq_true, if_false]
  rw [restart_Newer.j0]
  simp
/-- 64 bytes that are 0 are no master. -/
def zeros64 : ByteArray := ⟨(List.replicate 64 0).toArray⟩
theorem Get_zeros (k : Nat) : restart_Get.f (k + 6) zeros64 = some (0, 0, 0, 0, 0, false) := by
  refine Get_none (.inr (fun v e c p l h e1 => ?_)) k
  have h0 := congrArg (fun b : ByteArray => b.data.toList.head?) e1
  have h1 : (some 72 : Option UInt8) = some 0 := h0
  exact absurd h1 (by decide)
theorem Zeros_64 : honeycombref1_Zeros.f 64 = some zeros64 := by
  unfold honeycombref1_Zeros.f
  rfl
theorem Put_calls (v e c p l : Int) (w : World) : Calls Tryz.prog 7 #[.agg #[.int .i64 v, .int .i64 e, .int .i64 c, .int .i64 p, .int .i64 l]] w fun e' w' => e' = .returned (.tuple #[.string (if okM v e c p l then strM v e c p l else ⟨#[]⟩), .bool (decide (okM v e c p l))]) ∧ Eff0 w w' := by
  refine (restart_Put.calls 6 v e c p l (if okM v e c p l then strM v e c p l else ⟨#[]⟩) (decide (okM v e c p l)) w ?_).mono (fun e w' ⟨h, k⟩ => ⟨h, Eff.of_below k⟩)
  rw [Put_is 0]
  by_cases h : okM v e c p l
  · simp [h]
  · simp [h]
theorem Get_calls {b : ByteArray} {v e c p l : Int} {r : Bool} (h : restart_Get.f 6 b = some (v, e, c, p, l, r)) (w : World) : Calls Tryz.prog 9 #[.string b] w fun e' w' => e' = .returned (.tuple #[.agg #[.int .i64 v, .int .i64 e, .int .i64 c, .int .i64 p, .int .i64 l], .bool r]) ∧ Eff0 w w' :=
  (restart_Get.calls 6 b v e c p l r w h).mono (fun e w' ⟨h, k⟩ => ⟨h, Eff.of_below k⟩)
theorem Newer_calls {a b : ByteArray} {v e c p l i : Int} {r : Bool} (h : restart_Newer.f 6 a b = some (v, e, c, p, l, i, r)) (w : World) : Calls Tryz.prog 11 #[.string a, .string b] w fun e' w' => e' = .returned (.tuple #[.agg #[.int .i64 v, .int .i64 e, .int .i64 c, .int .i64 p, .int .i64 l], .int .i64 i, .bool r]) ∧ Eff0 w w' :=
  (restart_Newer.calls 6 a b v e c p l i r w h).mono (fun e w' ⟨h, k⟩ => ⟨h, Eff.of_below k⟩)
theorem Zeros_calls (w : World) : Calls Tryz.prog 28 #[.int .i64 64] w fun e' w' => e' = .returned (.string zeros64) ∧ Eff0 w w' :=
  (honeycombref1_Zeros.calls 64 zeros64 w Zeros_64).mono (fun e w' ⟨h, k⟩ => ⟨h, Eff.of_below k⟩)
theorem eqM (d : Nat) (w : World) (x0 y0 x1 y1 x2 y2 x3 y3 x4 y4 : Int) :
    (Op.equalIn (d + 2) 23 (.agg #[.int .i64 x0, .int .i64 x1, .int .i64 x2, .int .i64 x3, .int .i64 x4]) (.agg #[.int .i64 y0, .int .i64 y1, .int .i64 y2, .int .i64 y3, .int .i64 y4])).run Tryz.prog w = .ok (x0 == y0 && (x1 == y1 && (x2 == y2 && (x3 == y3 && (x4 == y4))))) w := by
  refine eqA_of Tryz.underlying23 (by kernel_rfl) ?_
  refine eqf_cons (by rfl) (by go_simp; rfl) (by go_simp; rfl) (by go_simp) ?_
  refine eqf_cons (by rfl) (by go_simp; rfl) (by go_simp; rfl) (by go_simp) ?_
  refine eqf_cons (by rfl) (by go_simp; rfl) (by go_simp; rfl) (by go_simp) ?_
  refine eqf_cons (by rfl) (by go_simp; rfl) (by go_simp; rfl) (by go_simp) ?_
  exact eqf_last (by rfl) (by go_simp; rfl) (by go_simp; rfl) (by go_simp)
theorem Put2_calls (v e c p l : Int) (w : World) : Calls Tryz.prog 7 #[.agg #[.int .i64 v, .int .i64 e, .int .i64 c, .int .i64 p, .int .i64 l]] w fun e' w' => ((okM v e c p l ∧ e' = .returned (.tuple #[.string (strM v e c p l), .bool true])) ∨ (¬ okM v e c p l ∧ e' = .returned (.tuple #[.string ⟨#[]⟩, .bool false]))) ∧ Eff0 w w' := by
  refine (Put_calls v e c p l w).mono ?_
  rintro e' w' ⟨rfl, h⟩
  by_cases ho : okM v e c p l
  · exact ⟨.inl ⟨ho, by rw [if_pos ho, decide_eq_true ho]⟩, h⟩
  · exact ⟨.inr ⟨ho, by rw [if_neg ho, decide_eq_false ho]⟩, h⟩
end Go.Proofs.YtiagbkpggeglgaaGreat.RS
