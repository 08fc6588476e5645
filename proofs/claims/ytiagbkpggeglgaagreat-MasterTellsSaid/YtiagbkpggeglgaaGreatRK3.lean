import Derived.Test.YtiagbkpggeglgaaGreatProg
import Derived.BigRegion
import Derived.BigQuiet
import Derived.Deep.QuietTactic
import Derived.Deep.AppendLies
import Derived.ChangeAlike
import Derived.Outline
import Derived.WalkKit
import Derived.KernelRfl
import Derived.Deep.LoopGhost
import Derived.Deep.RegionLaw
import Derived.Test.YtiagbkpggeglgaaGreatWMore
import Derived.Test.YtiagbkpggeglgaaGreatWKept
import Derived.Test.YtiagbkpggeglgaaGreatLSep
import Derived.Test.YtiagbkpggeglgaaGreatMRx
/- What a master's bytes are, and what bytes are a master's. Conditions: none beyond the stated ones. -/
namespace Go.Proofs.YtiagbkpggeglgaaGreat.RS
open Go Go.RowKit Go.Proofs.YtiagbkpggeglgaaGreatW.PrintWords Go.Proofs.YtiagbkpggeglgaaGreatW.PrintLast Go.Proofs.YtiagbkpggeglgaaGreatW.PrintMore Go.Proofs.YtiagbkpggeglgaaGreat.MR Go.Proofs.YtiagbkpggeglgaaGreat.L
set_option linter.unusedVariables false
set_option linter.unusedSimpArgs false
theorem number4 (v : Int) (k : Nat) : restart_number.f (k + 5) v 4 = some (strOfNums [v / 16777216 % 256, v / 65536 % 256, v / 256 % 256, v % 256]) := by
  simp [restart_number.f, restart_number.l0, wrap64, shr, IntKind.bits]
theorem number2 (v : Int) (k : Nat) : restart_number.f (k + 3) v 2 = some (strOfNums [v / 256 % 256, v % 256]) := by
  simp [restart_number.f, restart_number.l0, wrap64, shr, IntKind.bits]
/-- A master's numbers are such. -/
def okM (v e c p l : Int) : Prop := 1 ≤ v ∧ v ≤ 4294967295 ∧ 1 ≤ e ∧ e ≤ 4294967295 ∧ 0 ≤ c ∧ c ≤ 4294967295 ∧ 8 ≤ p ∧ p ≤ 64 ∧ 64 ≤ l ∧ l ≤ 4000
instance (v e c p l : Int) : Decidable (okM v e c p l) := by unfold okM; infer_instance
def bytesM (v e c p l : Int) : List UInt8 := [72, 67] ++ ([v / 16777216 % 256, v / 65536 % 256, v / 256 % 256, v % 256, e / 16777216 % 256, e / 65536 % 256, e / 256 % 256, e % 256, c / 16777216 % 256, c / 65536 % 256, c / 256 % 256, c % 256, p / 256 % 256, p % 256, l / 256 % 256, l % 256].map (fun n => UInt8.ofNat n.toNat)) ++ List.replicate 46 0
def strM (v e c p l : Int) : ByteArray := ⟨(bytesM v e c p l).toArray⟩
theorem strM_size (v e c p l : Int) : (strM v e c p l).size = 64 := rfl
theorem repeat46 : strings_Repeat.f (⟨#[0]⟩ : ByteArray) 46 = some ⟨(List.replicate 46 0).toArray⟩ := by
  unfold strings_Repeat.f
  rw [if_pos (by decide)]
  rfl
theorem bad_j (k : Nat) (v e c p l : Int) : restart_Put.j0 (k + 1) true v e c p l = some (⟨#[]⟩, false) := by
  rw [restart_Put.j0]
  simp
theorem good_j (k : Nat) (v e c p l : Int) : restart_Put.j0 (k + 6) false v e c p l = some (strM v e c p l, true) := by
  rw [restart_Put.j0]
  simp only [Bool.false_eq_true, if_false, number4, number2, Option.bind_some, repeat46]
  have hs4 : ∀ a b c d : Int, (strOfNums [a, b, c, d]).size = 4 := fun _ _ _ _ => rfl
  have hs2 : ∀ a b : Int, (strOfNums [a, b]).size = 2 := fun _ _ => rfl
  simp only [ByteArray.size_append, hs4, hs2]
  have h0 : ((⟨#[72, 67]⟩ : ByteArray)).size = 2 := rfl
  have h46 : ((⟨(List.replicate 46 0).toArray⟩ : ByteArray)).size = 46 := rfl
  simp only [h0, h46]
  simp only [Nat.reduceAdd, Nat.reduceLeDiff, if_true]
  congr 2
theorem Put_is (k : Nat) (v e c p l : Int) : restart_Put.f (k + 6) v e c p l = some (if okM v e c p l then (strM v e c p l, true) else (⟨#[]⟩, false)) := by
  unfold restart_Put.f mn mx
  by_cases h1 : (if e < v then e else v) < 1
  · rw [if_pos h1, bad_j, if_neg]
    intro h
    obtain ⟨a1, a2, a3, a4, _⟩ := h
    split at h1 <;> omega
  rw [if_neg h1]
  by_cases h2 : (if (if v < e then e else v) < c then c else (if v < e then e else v)) > 4294967295
  · rw [if_pos h2, bad_j, if_neg]
    intro h
    obtain ⟨a1, a2, a3, a4, a5, a6, _⟩ := h
    split at h2 <;> split at h2 <;> omega
  rw [if_neg h2]
  have hv : 1 ≤ v ∧ v ≤ 4294967295 ∧ 1 ≤ e ∧ e ≤ 4294967295 ∧ c ≤ 4294967295 := by
    split at h1 <;> split at h2 <;> simp_all <;> omega
  by_cases h3 : c < 0
  · rw [if_pos h3, bad_j, if_neg]
    rintro ⟨_, _, _, _, a, _⟩
    omega
  rw [if_neg h3]
  by_cases h4 : p < 8
  · rw [if_pos h4, bad_j, if_neg]
    rintro ⟨_, _, _, _, _, _, a, _⟩
    omega
  rw [if_neg h4]
  by_cases h5 : p > 64
  · rw [if_pos h5, bad_j, if_neg]
    rintro ⟨_, _, _, _, _, _, _, a, _⟩
    omega
  rw [if_neg h5]
  by_cases h6 : l < 64
  · rw [if_pos h6, bad_j, if_neg]
    rintro ⟨_, _, _, _, _, _, _, _, a, _⟩
    omega
  rw [if_neg h6]
  by_cases h7 : l > 4000
  · rw [decide_eq_true h7, bad_j, if_neg]
    rintro ⟨_, _, _, _, _, _, _, _, _, a⟩
    omega
  rw [decide_eq_false h7, good_j, if_pos]
  refine ⟨hv.1, hv.2.1, hv.2.2.1, hv.2.2.2.1, by omega, hv.2.2.2.2, by omega, by omega, by omega, by omega⟩
def nval (l : List UInt8) : Nat := l.foldl (fun v b => v * 256 + b.toNat) 0
theorem or8 (v x : Nat) (hv : v < 281474976710656) (hx : x < 256) : Go.bits .or .i64 (wrap64 ((v : Int) * 256)) (wrap64 (x : Int)) = ((v * 256 + x : Nat) : Int) := by
  have e1 : wrap64 ((v : Int) * 256) = (v : Int) * 256 := by unfold wrap64; omega
  have e2 : wrap64 (x : Int) = (x : Int) := by unfold wrap64; omega
  rw [e1, e2, bits_join .i64 62 (by decide) (fun n h0 h1 => by rw [IntKind.wrap_i64]; omega) 8 _ _ (by omega) (by omega) (by omega) (by omega) (by omega) (by omega)]
  omega
theorem bt_nat (s : ByteArray) (i : Nat) (h : i < s.data.toList.length) : bt s (i : Int) = ((s.data.toList[i]'h).toNat : Int) := by
  have h' : i < s.size := by simpa using h
  unfold bt
  rw [dif_pos (by simpa using h')]
  rfl
theorem value_l0 (s : ByteArray) (hs : s.size ≤ 4) : ∀ (d i v : Nat), i + d = s.size → v < 256 ^ i → ∀ k, restart_value.l0 (k + d + 1) s v s.size i = some (((s.data.toList.drop i).foldl (fun v b => v * 256 + b.toNat) v : Nat) : Int)
  | 0, i, v, h, hv, k => by
    rw [restart_value.l0, if_neg (by omega), List.drop_eq_nil_of_le (by rw [Array.length_toList]; show s.size ≤ i; omega)]
    rfl
  | d + 1, i, v, h, hv, k => by
    have hi : i < s.data.toList.length := by rw [Array.length_toList]; show i < s.size; omega
    have hx := (s.data.toList[i]'hi).toNat_lt
    have hv2 : v < 281474976710656 := Nat.lt_of_lt_of_le hv (Nat.le_trans (Nat.pow_le_pow_right (by decide) (show i ≤ 4 by omega)) (by decide))
    rw [restart_value.l0, if_pos (by omega), if_pos (by omega), if_pos (by omega), bt_nat s i hi, or8 v _ hv2 hx]
    have e1 : wrap64 ((i : Int) + 1) = ((i + 1 : Nat) : Int) := by unfold wrap64; omega
    rw [e1, ← Nat.add_assoc, value_l0 s hs d (i + 1) _ (by omega) (by rw [Nat.pow_succ]; omega) k, List.drop_eq_getElem_cons hi, List.foldl_cons]
theorem value_is (s : ByteArray) (hs : s.size ≤ 4) (k : Nat) : restart_value.f (k + 5) s = some ((nval s.data.toList : Nat) : Int) := by
  unfold restart_value.f
  have := value_l0 s hs s.size 0 0 (by omega) (by simp) (k + (4 - s.size))
  rw [show k + (4 - s.size) + s.size + 1 = k + 5 by omega] at this
  rw [show ((0 : Nat) : Int) = 0 from rfl] at this
  rw [this]
  rfl
/-- The numbers that lie in 64 bytes. -/
def gv (b : ByteArray) (i j : Nat) : Int := ((nval (b.extract i j).data.toList : Nat) : Int)
theorem Get_is (b : ByteArray) (k : Nat) : restart_Get.f (k + 6) b = some (if b.size = 64 ∧ okM (gv b 2 6) (gv b 6 10) (gv b 10 14) (gv b 14 16) (gv b 16 18) ∧ strM (gv b 2 6) (gv b 6 10) (gv b 10 14) (gv b 14 16) (gv b 16 18) = b then (gv b 2 6, gv b 6 10, gv b 10 14, gv b 14 16, gv b 16 18, true) else (0, 0, 0, 0, 0, false)) := by
  unfold restart_Get.f
  by_cases hb : (b.size : Int) = 64
  · have hs : b.size = 64 := by omega
    have hx : ∀ i j : Nat, j - i ≤ 4 → (b.extract i j).size ≤ 4 := fun i j h => by rw [ByteArray.size_extract]; omega
    rw [if_pos hb]
    simp only [Int.reduceLE, if_true, hb, value_is _ (hx 2 6 (by decide)), value_is _ (hx 6 10 (by decide)), value_is _ (hx 10 14 (by decide)), value_is _ (hx 14 16 (by decide)), value_is _ (hx 16 18 (by decide)), Option.bind_some, Put_is]
    show (if (if okM (gv b 2 6) (gv b 6 10) (gv b 10 14) (gv b 14 16) (gv b 16 18) then (strM (gv b 2 6) (gv b 6 10) (gv b 10 14) (gv b 14 16) (gv b 16 18), true) else ((⟨#[]⟩ : ByteArray), false)).2 = true then (if (if okM (gv b 2 6) (gv b 6 10) (gv b 10 14) (gv b 14 16) (gv b 16 18) then (strM (gv b 2 6) (gv b 6 10) (gv b 10 14) (gv b 14 16) (gv b 16 18), true) else ((⟨#[]⟩ : ByteArray), false)).1.toList = b.toList then some (gv b 2 6, gv b 6 10, gv b 10 14, gv b 14 16, gv b 16 18, true) else some (0, 0, 0, 0, 0, false)) else some (0, 0, 0, 0, 0, false)) = _
    by_cases ho : okM (gv b 2 6) (gv b 6 10) (gv b 10 14) (gv b 14 16) (gv b 16 18)
    · simp only [if_pos ho]
      by_cases he : (strM (gv b 2 6) (gv b 6 10) (gv b 10 14) (gv b 14 16) (gv b 16 18)).toList = b.toList
      · have he2 : strM (gv b 2 6) (gv b 6 10) (gv b 10 14) (gv b 14 16) (gv b 16 18) = b := by
          rw [ByteArray.toList_eq, ByteArray.toList_eq] at he
          exact ByteArray.ext (Array.toList_inj.1 he)
        rw [if_pos trivial, if_pos he, if_pos ⟨hs, ho, he2⟩]
      · rw [if_pos trivial, if_neg he, if_neg]
        rintro ⟨_, _, h⟩
        exact he (by rw [h])
    · simp only [if_neg ho]
      rw [if_neg (by decide), if_neg]
      rintro ⟨_, h, _⟩
      exact ho h
  · rw [if_neg hb, if_neg]
    rintro ⟨h, _⟩
    omega
theorem u8_nat (x : Int) (h : 0 ≤ x ∧ x < 256) : (UInt8.ofNat x.toNat).toNat = x.toNat := by
  rw [UInt8.toNat_ofNat']
  omega
theorem val4 (v : Int) (h : 0 ≤ v ∧ v ≤ 4294967295) : ((nval [UInt8.ofNat (v / 16777216 % 256).toNat, UInt8.ofNat (v / 65536 % 256).toNat, UInt8.ofNat (v / 256 % 256).toNat, UInt8.ofNat (v % 256).toNat] : Nat) : Int) = v := by
  unfold nval
  simp only [List.foldl_cons, List.foldl_nil]
  rw [u8_nat _ (by omega), u8_nat _ (by omega), u8_nat _ (by omega), u8_nat _ (by omega)]
  omega
theorem val2 (v : Int) (h : 0 ≤ v ∧ v ≤ 65535) : ((nval [UInt8.ofNat (v / 256 % 256).toNat, UInt8.ofNat (v % 256).toNat] : Nat) : Int) = v := by
  unfold nval
  simp only [List.foldl_cons, List.foldl_nil]
  rw [u8_nat _ (by omega), u8_nat _ (by omega)]
  omega
/-- A master's bytes are read as that master. -/
theorem gv_own {v e c p l : Int} (h : okM v e c p l) : gv (strM v e c p l) 2 6 = v ∧ gv (strM v e c p l) 6 10 = e ∧ gv (strM v e c p l) 10 14 = c ∧ gv (strM v e c p l) 14 16 = p ∧ gv (strM v e c p l) 16 18 = l := by
  obtain ⟨a1, a2, a3, a4, a5, a6, a7, a8, a9, a10⟩ := h
  have hd : ∀ i j, ((strM v e c p l).extract i j).data.toList = ((bytesM v e c p l).drop i).take (j - i) := fun i j => by
    rw [ByteArray.data_extract, Array.toList_extract, List.extract_eq_take_drop]
    rfl
  unfold gv
  simp only [hd]
  refine ⟨?_, ?_, ?_, ?_, ?_⟩
  · exact val4 v ⟨by omega, a2⟩
  · exact val4 e ⟨by omega, a4⟩
  · exact val4 c ⟨a5, a6⟩
  · exact val2 p ⟨by omega, by omega⟩
  · exact val2 l ⟨by omega, by omega⟩
theorem Get_own {v e c p l : Int} (h : okM v e c p l) (k : Nat) : restart_Get.f (k + 6) (strM v e c p l) = some (v, e, c, p, l, true) := by
  obtain ⟨h1, h2, h3, h4, h5⟩ := gv_own h
  rw [Get_is, h1, h2, h3, h4, h5, if_pos ⟨strM_size _ _ _ _ _, h, rfl⟩]
theorem Get_none {b : ByteArray} (hb : b.size ≠ 64 ∨ ∀ v e c p l, okM v e c p l → strM v e c p l ≠ b) (k : Nat) : restart_Get.f (k + 6) b = some (0, 0, 0, 0, 0, false) := by
  rw [Get_is, if_neg]
  rintro ⟨h1, h2, h3⟩
  rcases hb with hb | hb
  · exact hb h1
  · exact hb _ _ _ _ _ h2 h3
theorem Get_nil (k : Nat) : restart_Get.f (k + 6) (⟨#[]⟩ : ByteArray) = some (0, 0, 0, 0, 0, false) := Get_none (.inl (by decide)) k
theorem Newer_both {a b : ByteArray} {v e c p l v' e' c' p' l' : Int} {k : Nat} (ha : restart_Get.f (k + 6) a = some (v, e, c, p, l, true)) (hb : restart_Get.f (k + 6) b = some (v', e', c', p', l', true)) :
    restart_Newer.f (k + 6) a b = some (if v ≥ v' then (v, e, c, p, l, 0, true) else (v', e', c', p', l', 1, true)) := by
  unfold restart_Newer.f
  simp only [ha, hb, Option.bind_some, if_true]
  rw [restart_Newer.j0]
  by_cases h : v ≥ v'
  · rw [if_pos (decide_eq_true h), if_pos h]
  · rw [if_neg (by simpa using h), if_neg h]
    simp
theorem Newer_left {a b : ByteArray} {v e c p l : Int} {k : Nat} (ha : restart_Get.f (k + 6) a = some (v, e, c, p, l, true)) (hb : restart_Get.f (k + 6) b = some (0, 0, 0, 0, 0, false)) :
    restart_Newer.f (k + 6) a b = some (v, e, c, p, l, 0, true) := by
  unfold restart_Newer.f
  simp only [ha, hb, Option.bind_some, if_true, Bool.false_eq_true, if_false]
  rw [restart_Newer.j0]
  simp
theorem Newer_right {a b : ByteArray} {v e c p l : Int} {k : Nat} (ha : restart_Get.f (k + 6) a = some (0, 0, 0, 0, 0, false)) (hb : restart_Get.f (k + 6) b = some (v, e, c, p, l, true)) :
    restart_Newer.f (k + 6) a b = some (v, e, c, p, l, 1, true) := by
  unfold restart_Newer.f
  simp only [ha, hb, Option.bind_some, if_true, Bool.false_eq_true, if_false]
  rw [restart_Newer.j0]
  simp
theorem Newer_none {a b : ByteArray} {k : Nat} (ha : restart_Get.f (k + 6) a = some (0, 0, 0, 0, 0, false)) (hb : restart_Get.f (k + 6) b = some (0, 0, 0, 0, 0, false)) :
    restart_Newer.f (k + 6) a b = some (0, 0, 0, 0, 0, 0, false) := by
  unfold restart_Newer.f
  simp only [ha, hb, Option.bind_some, Bool.false_eq_true, if_false]
  rw [restart_Newer.j0]
  simp
/-- 64 bytes that are 0 are no master. -/
def zeros64 : ByteArray := ⟨(List.replicate 64 0).toArray⟩
theorem Get_zeros (k : Nat) : restart_Get.f (k + 6) zeros64 = some (0, 0, 0, 0, 0, false) := by
  refine Get_none (.inr (fun v e c p l h e1 => ?_)) k
  have h0 := congrArg (fun b : ByteArray => b.data.toList.head?) e1
  have h1 : (some 72 : Option UInt8) = some 0 := h0
  exact absurd h1 (by decide)
theorem Zeros_64 : honeycombref1_Zeros.f 64 = some zeros64 := by
  unfold honeycombref1_Zeros.f
  rfl
theorem Put_calls (v e c p l : Int) (w : World) : Calls Tryz.prog 7 #[.agg #[.int .i64 v, .int .i64 e, .int .i64 c, .int .i64 p, .int .i64 l]] w fun e' w' => e' = .returned (.tuple #[.string (if okM v e c p l then strM v e c p l else ⟨#[]⟩), .bool (decide (okM v e c p l))]) ∧ Eff0 w w' := by
  refine (restart_Put.calls 6 v e c p l (if okM v e c p l then strM v e c p l else ⟨#[]⟩) (decide (okM v e c p l)) w ?_).mono (fun e w' ⟨h, k⟩ => ⟨h, Eff.of_below k⟩)
  rw [Put_is 0]
  by_cases h : okM v e c p l
  · simp [h]
  · simp [h]
theorem Get_calls {b : ByteArray} {v e c p l : Int} {r : Bool} (h : restart_Get.f 6 b = some (v, e, c, p, l, r)) (w : World) : Calls Tryz.prog 9 #[.string b] w fun e' w' => e' = .returned (.tuple #[.agg #[.int .i64 v, .int .i64 e, .int .i64 c, .int .i64 p, .int .i64 l], .bool r]) ∧ Eff0 w w' :=
  (restart_Get.calls 6 b v e c p l r w h).mono (fun e w' ⟨h, k⟩ => ⟨h, Eff.of_below k⟩)
theorem Newer_calls {a b : ByteArray} {v e c p l i : Int} {r : Bool} (h : restart_Newer.f 6 a b = some (v, e, c, p, l, i, r)) (w : World) : Calls Tryz.prog 11 #[.string a, .string b] w fun e' w' => e' = .returned (.tuple #[.agg #[.int .i64 v, .int .i64 e, .int .i64 c, .int .i64 p, .int .i64 l], .int .i64 i, .bool r]) ∧ Eff0 w w' :=
  (restart_Newer.calls 6 a b v e c p l i r w h).mono (fun e w' ⟨h, k⟩ => ⟨h, Eff.of_below k⟩)
theorem Zeros_calls (w : World) : Calls Tryz.prog 28 #[.int .i64 64] w fun e' w' => e' = .returned (.string zeros64) ∧ Eff0 w w' :=
  (honeycombref1_Zeros.calls 64 zeros64 w Zeros_64).mono (fun e w' ⟨h, k⟩ => ⟨h, Eff.of_below k⟩)
theorem eqM (d : Nat) (w : World) (x0 y0 x1 y1 x2 y2 x3 y3 x4 y4 : Int) :
    (Op.equalIn (d + 2) 23 (.agg #[.int .i64 x0, .int .i64 x1, .int .i64 x2, .int .i64 x3, .int .i64 x4]) (.agg #[.int .i64 y0, .int .i64 y1, .int .i64 y2, .int .i64 y3, .int .i64 y4])).run Tryz.prog w = .ok (x0 == y0 && (x1 == y1 && (x2 == y2 && (x3 == y3 && (x4 == y4))))) w := by
  refine eqA_of Tryz.underlying23 (by kernel_rfl) ?_
  refine eqf_cons (by rfl) (by go_simp; rfl) (by go_simp; rfl) (by go_simp) ?_
  refine eqf_cons (by rfl) (by go_simp; rfl) (by go_simp; rfl) (by go_simp) ?_
  refine eqf_cons (by rfl) (by go_simp; rfl) (by go_simp; rfl) (by go_simp) ?_
  refine eqf_cons (by rfl) (by go_simp; rfl) (by go_simp; rfl) (by go_simp) ?_
  exact eqf_last (by rfl) (by go_simp; rfl) (by go_simp; rfl) (by go_simp)
theorem Put2_calls (v e c p l : Int) (w : World) : Calls Tryz.prog 7 #[.agg #[.int .i64 v, .int .i64 e, .int .i64 c, .int .i64 p, .int .i64 l]] w fun e' w' => ((okM v e c p l ∧ e' = .returned (.tuple #[.string (strM v e c p l), .bool true])) ∨ (¬ okM v e c p l ∧ e' = .returned (.tuple #[.string ⟨#[]⟩, .bool false]))) ∧ Eff0 w w' := by
  refine (Put_calls v e c p l w).mono ?_
  rintro e' w' ⟨rfl, h⟩
  by_cases ho : okM v e c p l
  · exact ⟨.inl ⟨ho, by rw [if_pos ho, decide_eq_true ho]⟩, h⟩
  · exact ⟨.inr ⟨ho, by rw [if_neg ho, decide_eq_false ho]⟩, h⟩
end Go.Proofs.YtiagbkpggeglgaaGreat.RS
/- The reference's master is the program's: the same bytes, and read the same. Conditions: none beyond the stated ones. -/
namespace Go.Proofs.YtiagbkpggeglgaaGreat.RS
open Go Go.RowKit Go.Proofs.YtiagbkpggeglgaaGreatW.PrintWords Go.Proofs.YtiagbkpggeglgaaGreatW.PrintLast Go.Proofs.YtiagbkpggeglgaaGreatW.PrintMore Go.Proofs.YtiagbkpggeglgaaGreat.MR Go.Proofs.YtiagbkpggeglgaaGreat.L
set_option linter.unusedVariables false
set_option linter.unusedSimpArgs false
theorem and255 (x : Int) (h0 : 0 ≤ x) (h1 : x < 2 ^ 62) : Go.bits .and .i64 x 255 = x % 256 := by
  have := bits_mask .i64 62 (by decide) (fun n h0 h1 => by rw [IntKind.wrap_i64]; omega) 8 (by decide) x h0 h1
  exact this
theorem four_is (a : Int) : honeycombref1_four.f a = some (decide (0 ≤ a ∧ a ≤ 4294967295)) := by
  unfold honeycombref1_four.f
  by_cases h : a ≥ 0
  · rw [if_pos h]
    congr 1
    exact decide_eq_decide.2 ⟨fun h2 => ⟨h, h2⟩, fun h2 => h2.2⟩
  · rw [if_neg h, decide_eq_false (by omega)]
theorem big4 (v : Int) (h : 0 ≤ v ∧ v ≤ 4294967295) (k : Nat) : ∃ b, honeycombref1_Big.f (k + 5) v 4 = some (strOfNums [v / 16777216 % 256, v / 65536 % 256, v / 256 % 256, v % 256], b) := by
  have e1 := and255 v h.1 (by omega)
  have e2 := and255 (v / 256) (by omega) (by omega)
  have e3 := and255 (v / 256 / 256) (by omega) (by omega)
  have e4 := and255 (v / 256 / 256 / 256) (by omega) (by omega)
  have d1 : v / 16777216 = v / 256 / 256 / 256 := by omega
  have d2 : v / 65536 = v / 256 / 256 := by omega
  refine ⟨v / 256 / 256 / 256 / 256 == 0, ?_⟩
  rw [d1, d2]
  simp [honeycombref1_Big.f, honeycombref1_Big.l0, wrap64, e1, e2, e3, e4, h.1, List.replicate]
theorem big2 (v : Int) (h : 0 ≤ v ∧ v ≤ 65535) (k : Nat) : ∃ b, honeycombref1_Big.f (k + 3) v 2 = some (strOfNums [v / 256 % 256, v % 256], b) := by
  have e1 := and255 v h.1 (by omega)
  have e2 := and255 (v / 256) (by omega) (by omega)
  refine ⟨v / 256 / 256 == 0, ?_⟩
  simp [honeycombref1_Big.f, honeycombref1_Big.l0, wrap64, e1, e2, h.1, List.replicate]
theorem long_is (v : Int) (h : 0 ≤ v ∧ v ≤ 4294967295) (k : Nat) : honeycombref1_long.f (k + 5) v = some (strOfNums [v / 16777216 % 256, v / 65536 % 256, v / 256 % 256, v % 256]) := by
  obtain ⟨b, e⟩ := big4 v h k
  unfold honeycombref1_long.f
  rw [e]
  rfl
theorem num_is (v : Int) (h : 0 ≤ v ∧ v ≤ 65535) (k : Nat) : honeycombref1_num.f (k + 5) v = some (strOfNums [v / 256 % 256, v % 256]) := by
  obtain ⟨b, e⟩ := big2 v h (k + 2)
  unfold honeycombref1_num.f
  rw [e]
  rfl
theorem Zeros46 : honeycombref1_Zeros.f 46 = some ⟨(List.replicate 46 0).toArray⟩ := by
  unfold honeycombref1_Zeros.f
  rfl
theorem bad_r (k : Nat) (v e c p l : Int) : honeycombref1_MasterPut.j0 (k + 1) true v e c p l = some (⟨#[]⟩, false) := by
  rw [honeycombref1_MasterPut.j0]
  simp
theorem good_r (k : Nat) (v e c p l : Int) (h : okM v e c p l) : honeycombref1_MasterPut.j0 (k + 6) false v e c p l = some (strM v e c p l, true) := by
  obtain ⟨a1, a2, a3, a4, a5, a6, a7, a8, a9, a10⟩ := h
  rw [honeycombref1_MasterPut.j0]
  simp only [Bool.false_eq_true, if_false, long_is v ⟨by omega, a2⟩, long_is e ⟨by omega, a4⟩, long_is c ⟨a5, a6⟩, num_is p ⟨by omega, by omega⟩, num_is l ⟨by omega, by omega⟩, Option.bind_some]
  have hs4 : ∀ a b c d : Int, (strOfNums [a, b, c, d]).size = 4 := fun _ _ _ _ => rfl
  have hs2 : ∀ a b : Int, (strOfNums [a, b]).size = 2 := fun _ _ => rfl
  have h0 : ((⟨#[72, 67]⟩ : ByteArray)).size = 2 := rfl
  have h46 : ((⟨(List.replicate 46 0).toArray⟩ : ByteArray)).size = 46 := rfl
  have hz : wrap64 (64 - ((18 : Nat) : Int)) = 46 := by unfold wrap64; omega
  simp only [ByteArray.size_append, hs4, hs2, h0, Nat.reduceAdd, hz, Zeros46, Option.bind_some, h46, Nat.reduceLeDiff, if_true]
  congr 2
theorem MPut_is (k : Nat) (v e c p l : Int) : honeycombref1_MasterPut.f (k + 6) v e c p l = some (if okM v e c p l then (strM v e c p l, true) else (⟨#[]⟩, false)) := by
  by_cases ho : okM v e c p l
  · rw [if_pos ho]
    have hg := good_r k v e c p l ho
    obtain ⟨a1, a2, a3, a4, a5, a6, a7, a8, a9, a10⟩ := ho
    unfold honeycombref1_MasterPut.f
    rw [if_neg (by omega), four_is, decide_eq_true ⟨by omega, a2⟩]
    simp only [Option.bind_some, if_true]
    rw [if_neg (by omega), four_is, decide_eq_true ⟨by omega, a4⟩]
    simp only [Option.bind_some, if_true]
    rw [four_is, decide_eq_true ⟨a5, a6⟩]
    simp only [Option.bind_some, if_true]
    rw [if_neg (by omega), if_neg (by omega), if_neg (by omega), decide_eq_false (by omega)]
    exact hg
  · rw [if_neg ho]
    unfold honeycombref1_MasterPut.f
    simp only [four_is, Option.bind_some, bad_r, decide_eq_true_eq]
    by_cases h1 : v < 1
    · rw [if_pos h1]
    rw [if_neg h1]
    by_cases h2 : 0 ≤ v ∧ v ≤ 4294967295
    case neg => rw [if_neg h2]
    rw [if_pos h2]
    by_cases h3 : e < 1
    · rw [if_pos h3]
    rw [if_neg h3]
    by_cases h4 : 0 ≤ e ∧ e ≤ 4294967295
    case neg => rw [if_neg h4]
    rw [if_pos h4]
    by_cases h5 : 0 ≤ c ∧ c ≤ 4294967295
    case neg => rw [if_neg h5]
    rw [if_pos h5]
    by_cases h6 : p < 8
    · rw [if_pos h6]
    rw [if_neg h6]
    by_cases h7 : p > 64
    · rw [if_pos h7]
    rw [if_neg h7]
    by_cases h8 : l < 64
    · rw [if_pos h8]
    rw [if_neg h8]
    by_cases h9 : l > 4000
    · rw [decide_eq_true h9, bad_r]
    · exact absurd ⟨by omega, h2.2, by omega, h4.2, h5.1, h5.2, by omega, by omega, by omega, by omega⟩ ho
theorem Of_l0 (s : ByteArray) (hs : s.size ≤ 4) : ∀ (d i v : Nat), i + d = s.size → v < 256 ^ i → ∀ k, honeycombref1_Of.l0 (k + d + 1) s v i = some (((s.data.toList.drop i).foldl (fun v b => v * 256 + b.toNat) v : Nat) : Int)
  | 0, i, v, h, hv, k => by
    rw [honeycombref1_Of.l0, if_neg (by omega), List.drop_eq_nil_of_le (by rw [Array.length_toList]; show s.size ≤ i; omega)]
    rfl
  | d + 1, i, v, h, hv, k => by
    have hi : i < s.data.toList.length := by rw [Array.length_toList]; show i < s.size; omega
    have hx := (s.data.toList[i]'hi).toNat_lt
    have hv2 : v < 281474976710656 := Nat.lt_of_lt_of_le hv (Nat.le_trans (Nat.pow_le_pow_right (by decide) (show i ≤ 4 by omega)) (by decide))
    rw [honeycombref1_Of.l0, if_pos (by omega), if_pos (by omega), bt_nat s i hi]
    have e0 : wrap64 (wrap64 ((v : Int) * 256) + wrap64 ((s.data.toList[i]'hi).toNat : Int)) = ((v * 256 + (s.data.toList[i]'hi).toNat : Nat) : Int) := by
      unfold wrap64
      omega
    have e1 : wrap64 ((i : Int) + 1) = ((i + 1 : Nat) : Int) := by unfold wrap64; omega
    rw [e0, e1, ← Nat.add_assoc, Of_l0 s hs d (i + 1) _ (by omega) (by rw [Nat.pow_succ]; omega) k, List.drop_eq_getElem_cons hi, List.foldl_cons]
theorem Of_is (s : ByteArray) (hs : s.size ≤ 4) (k : Nat) : honeycombref1_Of.f (k + 5) s = some ((nval s.data.toList : Nat) : Int) := by
  unfold honeycombref1_Of.f
  have := Of_l0 s hs s.size 0 0 (by omega) (by simp) (k + (4 - s.size))
  rw [show k + (4 - s.size) + s.size + 1 = k + 5 by omega] at this
  rw [show ((0 : Nat) : Int) = 0 from rfl] at this
  rw [this]
  rfl
theorem MGet_is (b : ByteArray) (k : Nat) : honeycombref1_MasterGet.f (k + 6) b = restart_Get.f (k + 6) b := by
  rw [Get_is]
  unfold honeycombref1_MasterGet.f
  by_cases hb : (b.size : Int) = 64
  · have hs : b.size = 64 := by omega
    have hx : ∀ i j : Nat, j - i ≤ 4 → (b.extract i j).size ≤ 4 := fun i j h => by rw [ByteArray.size_extract]; omega
    rw [if_pos hb]
    simp only [Int.reduceLE, if_true, hb, Of_is _ (hx 2 6 (by decide)), Of_is _ (hx 6 10 (by decide)), Of_is _ (hx 10 14 (by decide)), Of_is _ (hx 14 16 (by decide)), Of_is _ (hx 16 18 (by decide)), Option.bind_some, MPut_is]
    show (if (if okM (gv b 2 6) (gv b 6 10) (gv b 10 14) (gv b 14 16) (gv b 16 18) then (strM (gv b 2 6) (gv b 6 10) (gv b 10 14) (gv b 14 16) (gv b 16 18), true) else ((⟨#[]⟩ : ByteArray), false)).2 = true then (if (if okM (gv b 2 6) (gv b 6 10) (gv b 10 14) (gv b 14 16) (gv b 16 18) then (strM (gv b 2 6) (gv b 6 10) (gv b 10 14) (gv b 14 16) (gv b 16 18), true) else ((⟨#[]⟩ : ByteArray), false)).1.toList = b.toList then some (gv b 2 6, gv b 6 10, gv b 10 14, gv b 14 16, gv b 16 18, true) else some (0, 0, 0, 0, 0, false)) else some (0, 0, 0, 0, 0, false)) = _
    by_cases ho : okM (gv b 2 6) (gv b 6 10) (gv b 10 14) (gv b 14 16) (gv b 16 18)
    · simp only [if_pos ho]
      by_cases he : (strM (gv b 2 6) (gv b 6 10) (gv b 10 14) (gv b 14 16) (gv b 16 18)).toList = b.toList
      · have he2 : strM (gv b 2 6) (gv b 6 10) (gv b 10 14) (gv b 14 16) (gv b 16 18) = b := by
          rw [ByteArray.toList_eq, ByteArray.toList_eq] at he
          exact ByteArray.ext (Array.toList_inj.1 he)
        rw [if_pos trivial, if_pos he, if_pos ⟨hs, ho, he2⟩]
      · rw [if_pos trivial, if_neg he, if_neg]
        rintro ⟨_, _, h⟩
        exact he (by rw [h])
    · simp only [if_neg ho]
      rw [if_neg (by decide), if_neg]
      rintro ⟨_, h, _⟩
      exact ho h
  · rw [if_neg hb, if_neg]
    rintro ⟨h, _⟩
    omega
theorem MPut_calls (v e c p l : Int) (w : World) : Calls Tryz.prog 8 #[.agg #[.int .i64 v, .int .i64 e, .int .i64 c, .int .i64 p, .int .i64 l]] w fun e' w' => e' = .returned (.tuple #[.string (if okM v e c p l then strM v e c p l else ⟨#[]⟩), .bool (decide (okM v e c p l))]) ∧ Eff0 w w' := by
  refine (honeycombref1_MasterPut.calls 6 v e c p l (if okM v e c p l then strM v e c p l else ⟨#[]⟩) (decide (okM v e c p l)) w ?_).mono (fun e w' ⟨h, k⟩ => ⟨h, Eff.of_below k⟩)
  rw [MPut_is 0]
  by_cases h : okM v e c p l
  · simp [h]
  · simp [h]
theorem MGet_calls {b : ByteArray} {v e c p l : Int} {r : Bool} (h : restart_Get.f 6 b = some (v, e, c, p, l, r)) (w : World) : Calls Tryz.prog 10 #[.string b] w fun e' w' => e' = .returned (.tuple #[.agg #[.int .i64 v, .int .i64 e, .int .i64 c, .int .i64 p, .int .i64 l], .bool r]) ∧ Eff0 w w' :=
  (honeycombref1_MasterGet.calls 6 b v e c p l r w ((MGet_is b 0).trans h)).mono (fun e w' ⟨h, k⟩ => ⟨h, Eff.of_below k⟩)
end Go.Proofs.YtiagbkpggeglgaaGreat.RS
/- Every master as bytes and back; of two sectors the newer one (MasterTells), given that alive tells true. Conditions: none beyond the stated ones. -/
namespace Go.Proofs.YtiagbkpggeglgaaGreat.Pure
open Go Go.RowKit Go.Proofs.YtiagbkpggeglgaaGreatW.PrintWords Go.Proofs.YtiagbkpggeglgaaGreatW.PrintLast Go.Proofs.YtiagbkpggeglgaaGreatW.PrintMore Go.Proofs.YtiagbkpggeglgaaGreat.L Go.Proofs.YtiagbkpggeglgaaGreat.MR Go.Proofs.YtiagbkpggeglgaaGreat.RS
set_option linter.unusedVariables false
set_option linter.unusedSimpArgs false
abbrev bx (v e c p l : Int) : Obj := .cells #[.int .i64 v, .int .i64 e, .int .i64 c, .int .i64 p, .int .i64 l] 23
/-- A box of a master lies there. -/
def Bx (w : World) (b : Nat) (v e c p l : Int) : Prop := w.heap[b]? = some (.cells #[.int .i64 v, .int .i64 e, .int .i64 c, .int .i64 p, .int .i64 l] 23 (0, 0))
theorem Bx.lt {w : World} {b : Nat} {v e c p l : Int} (h : Bx w b v e c p l) : b < w.heap.size := by
  unfold Bx at h
  exact (Array.getElem?_eq_some_iff.1 h).1
theorem Bx.keep {w w' : World} {b : Nat} {v e c p l : Int} (h : Bx w b v e c p l) (k : Eff0 w w') : Bx w' b v e c p l := (k.block b h.lt id).trans h
theorem Bx.new (w : World) (v e c p l : Int) : Bx (w.alloc (bx v e c p l)) w.heap.size v e c p l := heap_alloc_new w _
theorem Bx.cells {w : World} {b : Nat} {v e c p l : Int} (h : Bx w b v e c p l) : w.cell? ⟨b, 0, none⟩ = some (.int .i64 v) ∧ w.cell? ⟨b, 1, none⟩ = some (.int .i64 e) ∧ w.cell? ⟨b, 2, none⟩ = some (.int .i64 c) ∧ w.cell? ⟨b, 3, none⟩ = some (.int .i64 p) ∧ w.cell? ⟨b, 4, none⟩ = some (.int .i64 l) := ⟨blk_cell h 0, blk_cell h 1, blk_cell h 2, blk_cell h 3, blk_cell h 4⟩
abbrev by_ (v e c p l : Int) : Obj := .cells #[.int .i64 v, .int .i64 e, .int .i64 c, .int .i64 p, .int .i64 l] 28
/-- A box of the reference's master lies there. -/
def By (w : World) (b : Nat) (v e c p l : Int) : Prop := w.heap[b]? = some (.cells #[.int .i64 v, .int .i64 e, .int .i64 c, .int .i64 p, .int .i64 l] 28 (0, 0))
theorem By.lt {w : World} {b : Nat} {v e c p l : Int} (h : By w b v e c p l) : b < w.heap.size := by
  unfold By at h
  exact (Array.getElem?_eq_some_iff.1 h).1
theorem By.keep {w w' : World} {b : Nat} {v e c p l : Int} (h : By w b v e c p l) (k : Eff0 w w') : By w' b v e c p l := (k.block b h.lt id).trans h
theorem By.new (w : World) (v e c p l : Int) : By (w.alloc (by_ v e c p l)) w.heap.size v e c p l := heap_alloc_new w _
theorem By.cells {w : World} {b : Nat} {v e c p l : Int} (h : By w b v e c p l) : w.cell? ⟨b, 0, none⟩ = some (.int .i64 v) ∧ w.cell? ⟨b, 1, none⟩ = some (.int .i64 e) ∧ w.cell? ⟨b, 2, none⟩ = some (.int .i64 c) ∧ w.cell? ⟨b, 3, none⟩ = some (.int .i64 p) ∧ w.cell? ⟨b, 4, none⟩ = some (.int .i64 l) := ⟨blk_cell h 0, blk_cell h 1, blk_cell h 2, blk_cell h 3, blk_cell h 4⟩
/-- What 64 bytes are read as. -/
theorem get_cases (b : ByteArray) : (∃ v e c p l, restart_Get.f 6 b = some (v, e, c, p, l, true)) ∨ restart_Get.f 6 b = some (0, 0, 0, 0, 0, false) := by
  rw [Get_is b 0]
  split
  · exact .inl ⟨_, _, _, _, _, rfl⟩
  · exact .inr rfl
attribute [local irreducible] strM zeros64
theorem mput_calls {v e c p l : Int} {s : ByteArray} {q : Bool} (hs : (if okM v e c p l then strM v e c p l else ⟨#[]⟩) = s) (hq : decide (okM v e c p l) = q) (w : World) : Calls Tryz.prog 8 #[.agg #[.int .i64 v, .int .i64 e, .int .i64 c, .int .i64 p, .int .i64 l]] w fun e' w' => e' = .returned (.tuple #[.string s, .bool q]) ∧ Eff0 w w' := by
  rw [← hs, ← hq]
  exact MPut_calls v e c p l w
theorem put_calls {v e c p l : Int} {s : ByteArray} {q : Bool} (hs : (if okM v e c p l then strM v e c p l else ⟨#[]⟩) = s) (hq : decide (okM v e c p l) = q) (w : World) : Calls Tryz.prog 7 #[.agg #[.int .i64 v, .int .i64 e, .int .i64 c, .int .i64 p, .int .i64 l]] w fun e' w' => e' = .returned (.tuple #[.string s, .bool q]) ∧ Eff0 w w' := by
  rw [← hs, ← hq]
  exact Put_calls v e c p l w
set_option maxHeartbeats 1600000 in
set_option maxRecDepth 100000 in
theorem MasterTells_of (CA : ∀ w, Calls Tryz.prog 6 #[] w fun e w' => e = .returned (.bool true) ∧ Below w.heap.size w w') (v e c p l : Int) (a b : ByteArray) (w : World) :
    Calls Tryz.prog 3 #[.agg #[.int .i64 v, .int .i64 e, .int .i64 c, .int .i64 p, .int .i64 l], .string a, .string b] w fun e w' => e = .returned (.bool true) ∧ Below w.heap.size w w' := by
  have hE := eqM
  by_cases hs : a.size ≤ 100 ∧ b.size ≤ 100
  · have p1 : ((a.size : Int) > 100) = False := eq_false (by omega)
    have p2 : ((100 : Int) < (a.size : Int)) = False := eq_false (by omega)
    have p3 : ((b.size : Int) > 100) = False := eq_false (by omega)
    have p4 : ((100 : Int) < (b.size : Int)) = False := eq_false (by omega)
    clear hs
    go_enter Tryz.func3, Tryz.ntmps3
    go_wp2_with fail
    refine (CA _).mono ?_
    rintro e' w1 ⟨rfl, b1⟩
    have B0 : Bx w1 w.heap.size v e c p l := (Bx.new w v e c p l).keep (Eff.of_below b1)
    have E1 : Eff0 w w1 := ((Eff.refl _ _).alloc _).then0 (Eff.of_below b1)
    clear b1
    obtain ⟨s, hS⟩ : ∃ s, (if okM v e c p l then strM v e c p l else ⟨#[]⟩) = s := ⟨_, rfl⟩
    obtain ⟨q, hQ⟩ : ∃ q, decide (okM v e c p l) = q := ⟨_, rfl⟩
    obtain ⟨x0, x1, x2, x3, x4⟩ := B0.cells
    go_wp2_with fail
    refine (put_calls hS hQ _).mono ?_
    rintro e' w2 ⟨rfl, e2⟩
    have B1 := B0.keep e2
    have E2 := E1.then0 e2
    clear x0 x1 x2 x3 x4 B0 E1 e2
    obtain ⟨x0, x1, x2, x3, x4⟩ := B1.cells
    go_wp2_with fail
    refine (mput_calls hS hQ _).mono ?_
    rintro e' w3 ⟨rfl, e3⟩
    have B2 := B1.keep e3
    have E3 := E2.then0 e3
    clear x0 x1 x2 x3 x4 B1 E2 e3
    obtain ⟨x0, x1, x2, x3, x4⟩ := B2.cells
    go_upto_if 65 with (fail)
    go_cut [] (fun wx => Aside0 (Eff0 w wx))
    case first =>
      by_cases ho : okM v e c p l
      · obtain rfl : strM v e c p l = s := by rw [if_pos ho] at hS; exact hS
        obtain rfl : true = q := by rw [decide_eq_true ho] at hQ; exact hQ
        clear hS hQ x0 x1 x2 x3 x4
        go_wp2_with fail
        refine (Get_calls (Get_own ho 0) _).mono ?_
        rintro e' w4 ⟨rfl, e4⟩
        have B3 := B2.keep e4
        have E4 := Aside0.mk (E3.then0 e4)
        obtain ⟨x0, x1, x2, x3, x4⟩ := B3.cells
        have l0 := B3.lt
        clear B2 B3 E3 e4 ho
        go_wp2_with fail
        go_meet
        case rel => exact Aside0.mk (E4.out.alloc _)
      · obtain rfl : false = q := by rw [decide_eq_false ho] at hQ; exact hQ
        go_wp2_with fail
        go_meet
        case rel => exact Aside0.mk E3
    case rest =>
      clear x0 x1 x2 x3 x4 hS hQ B2
      have E4 := hcut
      clear E3 hcut
      rcases get_cases a with ⟨va, ea, ca, pa, la, ha⟩ | ha
      · rcases get_cases b with ⟨vb, eb, cb, pb, lb, hb⟩ | hb
        · by_cases hv : va ≥ vb
          · have hN := Newer_both (k := 0) ha hb
            rw [if_pos hv] at hN
            have p5 : (vb > va) = False := eq_false (by omega)
            have p6 : (va < vb) = False := eq_false (by omega)
            clear hv
            go_wp2_with fail
            refine (Get_calls ha _).mono ?_
            rintro e' w5 ⟨rfl, e5⟩
            go_wp2_with fail
            refine (MGet_calls ha _).mono ?_
            rintro e' w6 ⟨rfl, e6⟩
            have B0 : Bx w6 w5.heap.size va ea ca pa la := (Bx.new w5 va ea ca pa la).keep e6
            have E6 := (((E4.out.then0 e5).alloc (bx va ea ca pa la)).then0 e6)
            clear e5 e6 E4
            obtain ⟨x0, x1, x2, x3, x4⟩ := B0.cells
            have l0 := B0.lt
            go_wp2_with fail
            refine (MGet_calls hb _).mono ?_
            rintro e' w7 ⟨rfl, e7⟩
            have B1 : By w7 w6.heap.size va ea ca pa la := (By.new w6 va ea ca pa la).keep e7
            have E7 := ((E6.alloc (by_ va ea ca pa la)).then0 e7)
            clear e7 E6 B0 x0 x1 x2 x3 x4 l0
            go_wp2_with fail
            refine (Newer_calls hN _).mono ?_
            rintro e' w8 ⟨rfl, e8⟩
            have e78 : Eff0 w7 w8 := ((Eff.refl (fun _ => False) w7).alloc (by_ vb eb cb pb lb)).then0 e8
            have B2 : By w8 w7.heap.size vb eb cb pb lb := (By.new w7 vb eb cb pb lb).keep e8
            have B1 := B1.keep e78
            have E8 := E7.then0 e78
            clear e8 e78 E7
            obtain ⟨x0, x1, x2, x3, x4⟩ := B1.cells
            obtain ⟨y0, y1, y2, y3, y4⟩ := B2.cells
            have l1 := B1.lt
            have l2 := B2.lt
            have EE := Aside0.mk E8
            clear B1 B2 E8 ha hb hN
            go_wp2_with fail
            go_ret
            exact ⟨rfl, (((EE.out.alloc _).alloc _)).below0⟩
          · have hN := Newer_both (k := 0) ha hb
            rw [if_neg hv] at hN
            have p5 : (vb > va) = True := eq_true (by omega)
            have p6 : (va < vb) = True := eq_true (by omega)
            clear hv
            go_wp2_with fail
            refine (Get_calls ha _).mono ?_
            rintro e' w5 ⟨rfl, e5⟩
            go_wp2_with fail
            refine (MGet_calls ha _).mono ?_
            rintro e' w6 ⟨rfl, e6⟩
            have B0 : Bx w6 w5.heap.size va ea ca pa la := (Bx.new w5 va ea ca pa la).keep e6
            have E6 := (((E4.out.then0 e5).alloc (bx va ea ca pa la)).then0 e6)
            clear e5 e6 E4
            obtain ⟨x0, x1, x2, x3, x4⟩ := B0.cells
            have l0 := B0.lt
            go_wp2_with fail
            refine (MGet_calls hb _).mono ?_
            rintro e' w7 ⟨rfl, e7⟩
            have B1 : By w7 w6.heap.size va ea ca pa la := (By.new w6 va ea ca pa la).keep e7
            have E7 := ((E6.alloc (by_ va ea ca pa la)).then0 e7)
            clear e7 E6 B0 x0 x1 x2 x3 x4 l0
            go_wp2_with fail
            refine (Newer_calls hN _).mono ?_
            rintro e' w8 ⟨rfl, e8⟩
            have e78 : Eff0 w7 w8 := ((Eff.refl (fun _ => False) w7).alloc (by_ vb eb cb pb lb)).then0 e8
            have B2 : By w8 w7.heap.size vb eb cb pb lb := (By.new w7 vb eb cb pb lb).keep e8
            have B1 := B1.keep e78
            have E8 := E7.then0 e78
            clear e8 e78 E7
            obtain ⟨x0, x1, x2, x3, x4⟩ := B1.cells
            obtain ⟨y0, y1, y2, y3, y4⟩ := B2.cells
            have l1 := B1.lt
            have l2 := B2.lt
            have EE := Aside0.mk E8
            clear B1 B2 E8 ha hb hN
            go_wp2_with fail
            go_ret
            exact ⟨rfl, (((EE.out.alloc _).alloc _)).below0⟩
        · have hN := Newer_left (k := 0) ha hb
          go_wp2_with fail
          refine (Get_calls ha _).mono ?_
          rintro e' w5 ⟨rfl, e5⟩
          go_wp2_with fail
          refine (MGet_calls ha _).mono ?_
          rintro e' w6 ⟨rfl, e6⟩
          have B0 : Bx w6 w5.heap.size va ea ca pa la := (Bx.new w5 va ea ca pa la).keep e6
          have E6 := (((E4.out.then0 e5).alloc (bx va ea ca pa la)).then0 e6)
          clear e5 e6 E4
          obtain ⟨x0, x1, x2, x3, x4⟩ := B0.cells
          have l0 := B0.lt
          go_wp2_with fail
          refine (MGet_calls hb _).mono ?_
          rintro e' w7 ⟨rfl, e7⟩
          have B1 : By w7 w6.heap.size va ea ca pa la := (By.new w6 va ea ca pa la).keep e7
          have E7 := ((E6.alloc (by_ va ea ca pa la)).then0 e7)
          clear e7 E6 B0 x0 x1 x2 x3 x4 l0
          go_wp2_with fail
          refine (Newer_calls hN _).mono ?_
          rintro e' w8 ⟨rfl, e8⟩
          have e78 : Eff0 w7 w8 := ((Eff.refl (fun _ => False) w7).alloc (by_ 0 0 0 0 0)).then0 e8
          have B2 : By w8 w7.heap.size 0 0 0 0 0 := (By.new w7 0 0 0 0 0).keep e8
          have B1 := B1.keep e78
          have E8 := E7.then0 e78
          clear e8 e78 E7
          obtain ⟨x0, x1, x2, x3, x4⟩ := B1.cells
          obtain ⟨y0, y1, y2, y3, y4⟩ := B2.cells
          have l1 := B1.lt
          have l2 := B2.lt
          have EE := Aside0.mk E8
          clear B1 B2 E8 ha hb hN
          go_wp2_with fail
          go_ret
          exact ⟨rfl, (((EE.out.alloc _).alloc _)).below0⟩
      · rcases get_cases b with ⟨vb, eb, cb, pb, lb, hb⟩ | hb
        · have hN := Newer_right (k := 0) ha hb
          go_wp2_with fail
          refine (Get_calls ha _).mono ?_
          rintro e' w5 ⟨rfl, e5⟩
          go_wp2_with fail
          refine (MGet_calls ha _).mono ?_
          rintro e' w6 ⟨rfl, e6⟩
          have B0 : Bx w6 w5.heap.size 0 0 0 0 0 := (Bx.new w5 0 0 0 0 0).keep e6
          have E6 := (((E4.out.then0 e5).alloc (bx 0 0 0 0 0)).then0 e6)
          clear e5 e6 E4
          obtain ⟨x0, x1, x2, x3, x4⟩ := B0.cells
          have l0 := B0.lt
          go_wp2_with fail
          refine (MGet_calls hb _).mono ?_
          rintro e' w7 ⟨rfl, e7⟩
          have B1 : By w7 w6.heap.size 0 0 0 0 0 := (By.new w6 0 0 0 0 0).keep e7
          have E7 := ((E6.alloc (by_ 0 0 0 0 0)).then0 e7)
          clear e7 E6 B0 x0 x1 x2 x3 x4 l0
          go_wp2_with fail
          refine (Newer_calls hN _).mono ?_
          rintro e' w8 ⟨rfl, e8⟩
          have e78 : Eff0 w7 w8 := ((Eff.refl (fun _ => False) w7).alloc (by_ vb eb cb pb lb)).then0 e8
          have B2 : By w8 w7.heap.size vb eb cb pb lb := (By.new w7 vb eb cb pb lb).keep e8
          have B1 := B1.keep e78
          have E8 := E7.then0 e78
          clear e8 e78 E7
          obtain ⟨x0, x1, x2, x3, x4⟩ := B1.cells
          obtain ⟨y0, y1, y2, y3, y4⟩ := B2.cells
          have l1 := B1.lt
          have l2 := B2.lt
          have EE := Aside0.mk E8
          clear B1 B2 E8 ha hb hN
          go_wp2_with fail
          go_ret
          exact ⟨rfl, (((EE.out.alloc _).alloc _)).below0⟩
        · have hN := Newer_none (k := 0) ha hb
          go_wp2_with fail
          refine (Get_calls ha _).mono ?_
          rintro e' w5 ⟨rfl, e5⟩
          go_wp2_with fail
          refine (MGet_calls ha _).mono ?_
          rintro e' w6 ⟨rfl, e6⟩
          have B0 : Bx w6 w5.heap.size 0 0 0 0 0 := (Bx.new w5 0 0 0 0 0).keep e6
          have E6 := (((E4.out.then0 e5).alloc (bx 0 0 0 0 0)).then0 e6)
          clear e5 e6 E4
          obtain ⟨x0, x1, x2, x3, x4⟩ := B0.cells
          have l0 := B0.lt
          go_wp2_with fail
          refine (MGet_calls hb _).mono ?_
          rintro e' w7 ⟨rfl, e7⟩
          have B1 : By w7 w6.heap.size 0 0 0 0 0 := (By.new w6 0 0 0 0 0).keep e7
          have E7 := ((E6.alloc (by_ 0 0 0 0 0)).then0 e7)
          clear e7 E6 B0 x0 x1 x2 x3 x4 l0
          go_wp2_with fail
          refine (Newer_calls hN _).mono ?_
          rintro e' w8 ⟨rfl, e8⟩
          have e78 : Eff0 w7 w8 := ((Eff.refl (fun _ => False) w7).alloc (by_ 0 0 0 0 0)).then0 e8
          have B2 : By w8 w7.heap.size 0 0 0 0 0 := (By.new w7 0 0 0 0 0).keep e8
          have B1 := B1.keep e78
          have E8 := E7.then0 e78
          clear e8 e78 E7
          obtain ⟨x0, x1, x2, x3, x4⟩ := B1.cells
          obtain ⟨y0, y1, y2, y3, y4⟩ := B2.cells
          have l1 := B1.lt
          have l2 := B2.lt
          have EE := Aside0.mk E8
          clear B1 B2 E8 ha hb hN
          go_wp2_with fail
          go_ret
          exact ⟨rfl, (((EE.out.alloc _).alloc _)).below0⟩
  · go_enter Tryz.func3, Tryz.ntmps3
    have hs2 : 100 < a.size ∨ (¬ 100 < a.size ∧ 100 < b.size) := by omega
    rcases hs2 with h | ⟨h1, h⟩
    · have p1 : ((a.size : Int) > 100) = True := eq_true (by omega)
      have p2 : ((100 : Int) < (a.size : Int)) = True := eq_true (by omega)
      go_wp2_with (go_at_call 6; refine (CA _).mono ?_; rintro e' w3 ⟨rfl, b3⟩)
      go_ret
      exact ⟨rfl, (((Eff.refl (fun _ => False) w).alloc _).then0 (Eff.of_below b3)).below0⟩
    · have p1 : ((a.size : Int) > 100) = False := eq_false (by omega)
      have p2 : ((100 : Int) < (a.size : Int)) = False := eq_false (by omega)
      have p3 : ((b.size : Int) > 100) = True := eq_true (by omega)
      have p4 : ((100 : Int) < (b.size : Int)) = True := eq_true (by omega)
      go_wp2_with (go_at_call 6; refine (CA _).mono ?_; rintro e' w3 ⟨rfl, b3⟩)
      go_ret
      exact ⟨rfl, (((Eff.refl (fun _ => False) w).alloc _).then0 (Eff.of_below b3)).below0⟩
end Go.Proofs.YtiagbkpggeglgaaGreat.Pure
