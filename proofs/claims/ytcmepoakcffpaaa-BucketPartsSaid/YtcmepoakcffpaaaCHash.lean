import Derived.Test.YtcmepoakcffpaaaCFx
import Derived.Test.YtcmepoakcffpaaaProg
import Derived.BigRegion
import Derived.BigQuiet
import Derived.Deep.QuietTactic
import Derived.Deep.AppendLies
import Derived.ChangeAlike
import Derived.Outline
import Derived.WalkKit
import Derived.KernelRfl
import Derived.Deep.LoopGhost
import Derived.Deep.RegionLaw
import Derived.Test.YtcmepoakcffpaaaWMore
import Derived.Test.YtcmepoakcffpaaaWKept
import Derived.Test.YtcmepoakcffpaaaLSep
namespace Go.Proofs.Ytcmepoakcffpaaa.SP
open Go Go.RowKit Go.Proofs.YtcmepoakcffpaaaW.PrintWords Go.Proofs.YtcmepoakcffpaaaW.PrintLast Go.Proofs.YtcmepoakcffpaaaW.PrintMore Go.Proofs.Ytcmepoakcffpaaa.L Go.Proofs.Ytcmepoakcffpaaa.CF
set_option linter.unusedVariables false
set_option linter.unusedSimpArgs false
/-! ### what a text's hash is -/
def hstep (h b : Int) : Int := (Go.bits .xor .u32 h (b % 4294967296) * 16777619) % 4294967296
def hsum (l : List UInt8) (h : Int) : Int := l.foldl (fun h b => hstep h (b.toNat : Int)) h
theorem hstep_range (h b : Int) : 0 ≤ hstep h b ∧ hstep h b < 4294967296 := by
  unfold hstep; omega
theorem hsum_range (l : List UInt8) : ∀ h : Int, 0 ≤ h → h < 4294967296 → 0 ≤ hsum l h ∧ hsum l h < 4294967296 := by
  induction l with
  | nil => intro h h0 h1; exact ⟨h0, h1⟩
  | cons b l ih => intro h _ _; exact ih _ (hstep_range h _).1 (hstep_range h _).2
theorem wrap_succ {i n : Nat} (h : i < n) (hn : n ≤ 9223372036854775807) : wrap64 ((i : Int) + 1) = ((i + 1 : Nat) : Int) := by
  unfold wrap64; omega
theorem bt_getElem (s : ByteArray) (i : Nat) (h : i < s.size) : bt s (i : Int) = ((s.data.toList[i]'(by simpa using h)).toNat : Int) := by
  unfold bt
  simp only [Int.toNat_natCast]
  rw [dif_pos h]
  rfl
theorem sum_from (s : ByteArray) (hs : s.size ≤ 9223372036854775807) : ∀ (d i k : Nat) (h : Int), i + d = s.size → d < k →
    fnv_Sum.l0 k s h (s.size : Int) (i : Int) = some (hsum (s.data.toList.drop i) h) := by
  intro d
  induction d with
  | zero =>
    intro i k h hi hk
    obtain ⟨k, rfl⟩ : ∃ m, k = m + 1 := ⟨k - 1, by omega⟩
    simp only [fnv_Sum.l0]
    rw [if_neg (by omega), List.drop_eq_nil_of_le (by simp; omega)]
    rfl
  | succ d ih =>
    intro i k h hi hk
    obtain ⟨k, rfl⟩ : ∃ m, k = m + 1 := ⟨k - 1, by omega⟩
    have hlt : i < s.size := by omega
    simp only [fnv_Sum.l0]
    rw [if_pos (by omega), if_pos (by omega), if_pos (by omega), wrap_succ hlt hs, ih (i + 1) k _ (by omega) (by omega)]
    rw [List.drop_eq_getElem_cons (show i < s.data.toList.length by simpa using hlt), bt_getElem s i hlt]
    rfl
/-- The hash. -/
def hash (s : ByteArray) : Int := hsum s.data.toList 2166136261
theorem hash_range (s : ByteArray) : 0 ≤ hash s ∧ hash s < 4294967296 := hsum_range _ _ (by decide) (by decide)
theorem sum_is (s : ByteArray) (hs : s.size ≤ 9223372036854775807) {k : Nat} (hk : s.size < k) : fnv_Sum.f k s = some (hash s) := by
  have h := sum_from s hs s.size 0 k 2166136261 (by omega) hk
  simpa [fnv_Sum.f, hash] using h
/-- How many of its lowest bits count. -/
def deep (d : Int) : Nat := (mn (mx d 0) 31).toNat
theorem deep_le (d : Int) : deep d ≤ 31 := by unfold deep mn mx; split <;> split <;> omega
theorem pow_deep (e : Nat) (he : e ≤ 31) : (0 : Int) < 2 ^ e ∧ (2 : Int) ^ e ≤ 2147483648 := by
  have h1 : (2 ^ e : Nat) ≤ 2 ^ 31 := Nat.pow_le_pow_right (by decide) he
  have h2 : 0 < (2 ^ e : Nat) := Nat.two_pow_pos e
  have h3 : ((2 ^ e : Nat) : Int) = (2 : Int) ^ e := by simp
  rw [← h3]
  omega
theorem wraps_u32 (n : Int) (h₀ : 0 ≤ n) (h₁ : n < 2 ^ 32) : IntKind.u32.wrap n = n := by rw [IntKind.wrap_u32]; omega

theorem ref_from (s : ByteArray) (hs : s.size ≤ 9223372036854775807) : ∀ (d i k : Nat) (h : Int), i + d = s.size → d < k →
    honeycombref1_Sum.l0 k s h (i : Int) = some (hsum (s.data.toList.drop i) h) := by
  intro d
  induction d with
  | zero =>
    intro i k h hi hk
    obtain ⟨k, rfl⟩ : ∃ m, k = m + 1 := ⟨k - 1, by omega⟩
    simp only [honeycombref1_Sum.l0]
    rw [if_neg (by omega), List.drop_eq_nil_of_le (by simp; omega)]
    rfl
  | succ d ih =>
    intro i k h hi hk
    obtain ⟨k, rfl⟩ : ∃ m, k = m + 1 := ⟨k - 1, by omega⟩
    have hlt : i < s.size := by omega
    simp only [honeycombref1_Sum.l0]
    rw [if_pos (by omega), if_pos (by omega), wrap_succ hlt hs, ih (i + 1) k _ (by omega) (by omega)]
    rw [List.drop_eq_getElem_cons (show i < s.data.toList.length by simpa using hlt), bt_getElem s i hlt]
    rfl
theorem ref_is (s : ByteArray) (hs : s.size ≤ 9223372036854775807) {k : Nat} (hk : s.size < k) : honeycombref1_Sum.f k s = some (hash s) := by
  have h := ref_from s hs s.size 0 k 2166136261 (by omega) hk
  simpa [honeycombref1_Sum.f, hash] using h
theorem refbits_is (s : ByteArray) (hs : s.size ≤ 9223372036854775807) (d : Int) {k : Nat} (hk : s.size < k) : honeycombref1_Bits.f k s d = some (hash s % 2 ^ deep d) := by
  unfold honeycombref1_Bits.f
  rw [ref_is s hs hk]
  simp only [Option.bind_some]
  obtain ⟨p0, p1⟩ := pow_deep _ (deep_le d)
  have h0 := (hash_range s).1
  have h1 := (hash_range s).2
  change (if ((2 ^ deep d) % 4294967296 : Nat) = 0 then none else some (wrap64 (Int.tmod (hash s) ((2 ^ deep d) % 4294967296)))) = _
  have hz : ¬ ((2 ^ deep d) % 4294967296 : Nat) = 0 := by
    intro hz
    have h3 : ((2 ^ deep d : Nat) : Int) = (2 : Int) ^ deep d := by simp
    omega
  rw [if_neg hz, show ((2 ^ deep d) % 4294967296 : Int) = 2 ^ deep d by omega, Int.tmod_eq_emod_of_nonneg h0]
  have := Int.emod_nonneg (hash s) (show (2 : Int) ^ deep d ≠ 0 by omega)
  have := Int.emod_lt_of_pos (hash s) p0
  congr 1
  unfold wrap64
  omega
theorem hash_calls (s : ByteArray) (hs : s.size ≤ 9223372036854775807) (W : World) : Calls Try.prog 31 #[.string s] W fun e w' => e = .returned (.int .u32 (hash s)) ∧ Drawn0 W w' := by
  have h := fnv_Sum.calls (s.size + 1) s (hash s) W (sum_is s hs (Nat.lt_succ_self _))
  exact h
end Go.Proofs.Ytcmepoakcffpaaa.SP
