/- FnvZero: no bits lead to one place, one bit to one of two, too many bits are as many as there are, whatever the input. Conditions: none beyond the given row's own. -/
import Derived.Test.YtcegoipfkjknhaaPFnvZerox
namespace Go.Proofs.Ytcegoipfkjknhaa.Pure
open Go Go.RowKit Go.Proofs.Ytcegoipfkjknhaa.PFnvZero Go.Proofs.YtcegoipfkjknhaaW.PrintWords Go.Proofs.YtcegoipfkjknhaaW.PrintLast Go.Proofs.YtcegoipfkjknhaaW.PrintMore

/-! ### what a text's hash is -/
def hstep (h b : Int) : Int := (Go.bits .xor .u32 h (b % 4294967296) * 16777619) % 4294967296
def hsum (l : List UInt8) (h : Int) : Int := l.foldl (fun h b => hstep h (b.toNat : Int)) h
theorem hstep_range (h b : Int) : 0 ≤ hstep h b ∧ hstep h b < 4294967296 := by
  unfold hstep; omega
theorem hsum_range (l : List UInt8) : ∀ h : Int, 0 ≤ h → h < 4294967296 → 0 ≤ hsum l h ∧ hsum l h < 4294967296 := by
  induction l with
  | nil => intro h h0 h1; exact ⟨h0, h1⟩
  | cons b l ih => intro h _ _; exact ih _ (hstep_range h _).1 (hstep_range h _).2
theorem wrap_succ {i n : Nat} (h : i < n) (hn : n ≤ 140737488351232) : wrap64 ((i : Int) + 1) = ((i + 1 : Nat) : Int) := by
  unfold wrap64; omega
theorem bt_getElem (s : ByteArray) (i : Nat) (h : i < s.size) : bt s (i : Int) = ((s.data.toList[i]'(by simpa using h)).toNat : Int) := by
  unfold bt
  simp only [Int.toNat_natCast]
  rw [dif_pos h]
  rfl
theorem sum_from (s : ByteArray) (hs : s.size ≤ 140737488351232) : ∀ (d i k : Nat) (h : Int), i + d = s.size → d < k →
    fnv_Sum.l0 k s h (s.size : Int) (i : Int) = some (hsum (s.data.toList.drop i) h) := by
  intro d
  induction d with
  | zero =>
    intro i k h hi hk
    obtain ⟨k, rfl⟩ : ∃ m, k = m + 1 := ⟨k - 1, by omega⟩
    simp only [fnv_Sum.l0]
    rw [if_neg (by omega), List.drop_eq_nil_of_le (by simp; omega)]
    rfl
  | succ d ih =>
    intro i k h hi hk
    obtain ⟨k, rfl⟩ : ∃ m, k = m + 1 := ⟨k - 1, by omega⟩
    have hlt : i < s.size := by omega
    simp only [fnv_Sum.l0]
    rw [if_pos (by omega), if_pos (by omega), if_pos (by omega), wrap_succ hlt hs, ih (i + 1) k _ (by omega) (by omega)]
    rw [List.drop_eq_getElem_cons (show i < s.data.toList.length by simpa using hlt), bt_getElem s i hlt]
    rfl
/-- The hash. -/
def hash (s : ByteArray) : Int := hsum s.data.toList 2166136261
theorem hash_range (s : ByteArray) : 0 ≤ hash s ∧ hash s < 4294967296 := hsum_range _ _ (by decide) (by decide)
theorem sum_is (s : ByteArray) (hs : s.size ≤ 140737488351232) {k : Nat} (hk : s.size < k) : fnv_Sum.f k s = some (hash s) := by
  have h := sum_from s hs s.size 0 k 2166136261 (by omega) hk
  simpa [fnv_Sum.f, hash] using h
/-- How many of its lowest bits count. -/
def deep (d : Int) : Nat := (mn (mx d 0) 31).toNat
theorem deep_le (d : Int) : deep d ≤ 31 := by unfold deep mn mx; split <;> split <;> omega
theorem pow_deep (e : Nat) (he : e ≤ 31) : (0 : Int) < 2 ^ e ∧ (2 : Int) ^ e ≤ 2147483648 := by
  have h1 : (2 ^ e : Nat) ≤ 2 ^ 31 := Nat.pow_le_pow_right (by decide) he
  have h2 : 0 < (2 ^ e : Nat) := Nat.two_pow_pos e
  have h3 : ((2 ^ e : Nat) : Int) = (2 : Int) ^ e := by simp
  rw [← h3]
  omega
theorem wraps_u32 (n : Int) (h₀ : 0 ≤ n) (h₁ : n < 2 ^ 32) : IntKind.u32.wrap n = n := by rw [IntKind.wrap_u32]; omega
theorem low_is (t : Int) (h0 : 0 ≤ t) (h1 : t < 4294967296) (e : Nat) (he : e ≤ 31) :
    wrap64 (Go.bits .and .u32 t ((((2 ^ e) % 4294967296) - 1) % 4294967296)) = t % 2 ^ e := by
  obtain ⟨p0, p1⟩ := pow_deep e he
  rw [show (((2 ^ e) % 4294967296) - 1) % 4294967296 = (2 : Int) ^ e - 1 by omega]
  rw [bits_mask .u32 32 (by decide) wraps_u32 e (by omega) t h0 h1]
  have := Int.emod_nonneg t (show (2 : Int) ^ e ≠ 0 by omega)
  have := Int.emod_lt_of_pos t p0
  unfold wrap64
  omega
theorem bits_is (s : ByteArray) (hs : s.size ≤ 140737488351232) (d : Int) {k : Nat} (hk : s.size < k) : fnv_Bits.f k s d = some (hash s % 2 ^ deep d) := by
  unfold fnv_Bits.f
  rw [sum_is s hs hk]
  simp only [Option.bind_some]
  change some (wrap64 (Go.bits .and .u32 (hash s) ((((2 ^ deep d) % 4294967296) - 1) % 4294967296))) = _
  rw [low_is _ (hash_range s).1 (hash_range s).2 _ (deep_le d)]
theorem key_is (s : ByteArray) : fnv_Key.f s = some (decide (1 ≤ s.size ∧ s.size ≤ 16)) := by
  unfold fnv_Key.f
  rw [ByteArray.toList_eq]
  by_cases h : s.data.toList = []
  · rw [if_pos h]
    have : s.size = 0 := by
      have := congrArg List.length h
      simpa using this
    simp [this]
  · rw [if_neg h]
    have : s.size ≠ 0 := fun e => h (List.eq_nil_of_length_eq_zero (by simpa using e))
    congr 1
    apply decide_eq_decide.2
    omega
theorem alive_is {k : Nat} (hk : 1 < k) : honeycomblaw1_alive.f k = some true := by
  obtain ⟨k, rfl⟩ : ∃ m, k = m + 2 := ⟨k - 2, by omega⟩
  have e0 : hash ⟨#[]⟩ = 2166136261 := rfl
  have e1 : hash ⟨#[97]⟩ = 3826002220 := by decide +kernel
  have e2 : hash ⟨#[97]⟩ % 2 ^ deep 4 = 12 := by decide +kernel
  unfold honeycomblaw1_alive.f
  rw [sum_is ⟨#[]⟩ (by decide) (by show 0 < _; omega), e0]
  simp only [Option.bind_some]
  rw [if_pos trivial, sum_is ⟨#[97]⟩ (by decide) (by show 1 < _; omega), e1]
  simp only [Option.bind_some]
  rw [if_pos trivial, bits_is ⟨#[97]⟩ (by decide) 4 (by show 1 < _; omega), e2]
  simp only [Option.bind_some]
  rw [if_pos trivial, key_is]
  simp only [Option.bind_some]
  rw [if_pos (by decide), key_is]
  simp only [Option.bind_some]
  rw [if_neg (by decide)]
  rfl

theorem FnvZero : honeycomblaw1_FnvZero.Pure := by
  intro s n hs hn
  refine ⟨s.size + 3, ?_⟩
  have hA := alive_is (k := s.size + 3) (by omega)
  have hA' := alive_is (k := s.size + 2) (by omega)
  have hT : honeycomblaw1_FnvZero.j0 (s.size + 3) s n true = some true := by
    simp only [honeycomblaw1_FnvZero.j0]
    rw [if_pos trivial, hA']
    rfl
  unfold honeycomblaw1_FnvZero.f
  by_cases h1 : (s.size : Int) > 100
  · rw [if_pos h1, hT]
  by_cases h2 : n < 31
  · rw [if_neg h1, if_pos h2, hT]
  have hn2 : -9223372036854775808 ≤ n ∧ n ≤ 9223372036854775807 := by simpa [Lit.wf, IntKind.min, IntKind.max, IntKind.signed, IntKind.bits] using hn
  have d1 : deep 1 = 1 := by decide
  have d0 : deep 0 = 0 := by decide
  have dm : deep (wrap64 (-n)) = 0 := by
    have : wrap64 (-n) = -n := by unfold wrap64; omega
    rw [this]
    unfold deep mn mx
    split <;> split <;> omega
  have dn : deep n = 31 := by unfold deep mn mx; split <;> split <;> omega
  have d31 : deep 31 = 31 := by decide
  rw [if_neg h1, if_neg h2, hA]
  simp only [Option.bind_some, honeycomblaw1_FnvZero.j0]
  rw [if_neg (by decide), bits_is s hs 1 (by omega), bits_is s hs 0 (by omega), bits_is s hs _ (by omega), bits_is s hs n (by omega), bits_is s hs 31 (by omega), d1, d0, dm, dn, d31]
  simp only [Option.bind_some]
  rw [if_pos (by omega), if_pos (by omega)]
  by_cases h3 : hash s % 2 ^ 1 = 0
  · rw [if_pos h3]
    simp
  · rw [if_neg h3, if_pos (by omega)]
    simp

end Go.Proofs.Ytcegoipfkjknhaa.Pure
