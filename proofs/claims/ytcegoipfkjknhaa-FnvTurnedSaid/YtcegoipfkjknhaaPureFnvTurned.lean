/- FnvTurned: two texts that differ in one byte have two hashes, whatever the input. Conditions: none beyond the given row's own. -/
import Derived.Test.YtcegoipfkjknhaaOFnvTurnedx
namespace Go.Proofs.Ytcegoipfkjknhaa.Pure
open Go Go.RowKit Go.Proofs.Ytcegoipfkjknhaa.PFnvTurned Go.Proofs.YtcegoipfkjknhaaW.PrintWords Go.Proofs.YtcegoipfkjknhaaW.PrintLast Go.Proofs.YtcegoipfkjknhaaW.PrintMore

/-! ### what a text's hash is -/
def hstep (h b : Int) : Int := (Go.bits .xor .u32 h (b % 4294967296) * 16777619) % 4294967296
def hsum (l : List UInt8) (h : Int) : Int := l.foldl (fun h b => hstep h (b.toNat : Int)) h
theorem hstep_range (h b : Int) : 0 ≤ hstep h b ∧ hstep h b < 4294967296 := by
  unfold hstep; omega
theorem hsum_range (l : List UInt8) : ∀ h : Int, 0 ≤ h → h < 4294967296 → 0 ≤ hsum l h ∧ hsum l h < 4294967296 := by
  induction l with
  | nil => intro h h0 h1; exact ⟨h0, h1⟩
  | cons b l ih => intro h _ _; exact ih _ (hstep_range h _).1 (hstep_range h _).2
theorem wrap_succ {i n : Nat} (h : i < n) (hn : n ≤ 140737488351232) : wrap64 ((i : Int) + 1) = ((i + 1 : Nat) : Int) := by
  unfold wrap64; omega
theorem bt_getElem (s : ByteArray) (i : Nat) (h : i < s.size) : bt s (i : Int) = ((s.data.toList[i]'(by simpa using h)).toNat : Int) := by
  unfold bt
  simp only [Int.toNat_natCast]
  rw [dif_pos h]
  rfl
theorem sum_from (s : ByteArray) (hs : s.size ≤ 140737488351232) : ∀ (d i k : Nat) (h : Int), i + d = s.size → d < k →
    fnv_Sum.l0 k s h (s.size : Int) (i : Int) = some (hsum (s.data.toList.drop i) h) := by
  intro d
  induction d with
  | zero =>
    intro i k h hi hk
    obtain ⟨k, rfl⟩ : ∃ m, k = m + 1 := ⟨k - 1, by omega⟩
    simp only [fnv_Sum.l0]
    rw [if_neg (by omega), List.drop_eq_nil_of_le (by simp; omega)]
    rfl
  | succ d ih =>
    intro i k h hi hk
    obtain ⟨k, rfl⟩ : ∃ m, k = m + 1 := ⟨k - 1, by omega⟩
    have hlt : i < s.size := by omega
    simp only [fnv_Sum.l0]
    rw [if_pos (by omega), if_pos (by omega), if_pos (by omega), wrap_succ hlt hs, ih (i + 1) k _ (by omega) (by omega)]
    rw [List.drop_eq_getElem_cons (show i < s.data.toList.length by simpa using hlt), bt_getElem s i hlt]
    rfl
/-- The hash. -/
def hash (s : ByteArray) : Int := hsum s.data.toList 2166136261
theorem hash_range (s : ByteArray) : 0 ≤ hash s ∧ hash s < 4294967296 := hsum_range _ _ (by decide) (by decide)
theorem sum_is (s : ByteArray) (hs : s.size ≤ 140737488351232) {k : Nat} (hk : s.size < k) : fnv_Sum.f k s = some (hash s) := by
  have h := sum_from s hs s.size 0 k 2166136261 (by omega) hk
  simpa [fnv_Sum.f, hash] using h
/-- How many of its lowest bits count. -/
def deep (d : Int) : Nat := (mn (mx d 0) 31).toNat
theorem deep_le (d : Int) : deep d ≤ 31 := by unfold deep mn mx; split <;> split <;> omega
theorem pow_deep (e : Nat) (he : e ≤ 31) : (0 : Int) < 2 ^ e ∧ (2 : Int) ^ e ≤ 2147483648 := by
  have h1 : (2 ^ e : Nat) ≤ 2 ^ 31 := Nat.pow_le_pow_right (by decide) he
  have h2 : 0 < (2 ^ e : Nat) := Nat.two_pow_pos e
  have h3 : ((2 ^ e : Nat) : Int) = (2 : Int) ^ e := by simp
  rw [← h3]
  omega
theorem wraps_u32 (n : Int) (h₀ : 0 ≤ n) (h₁ : n < 2 ^ 32) : IntKind.u32.wrap n = n := by rw [IntKind.wrap_u32]; omega
theorem low_is (t : Int) (h0 : 0 ≤ t) (h1 : t < 4294967296) (e : Nat) (he : e ≤ 31) :
    wrap64 (Go.bits .and .u32 t ((((2 ^ e) % 4294967296) - 1) % 4294967296)) = t % 2 ^ e := by
  obtain ⟨p0, p1⟩ := pow_deep e he
  rw [show (((2 ^ e) % 4294967296) - 1) % 4294967296 = (2 : Int) ^ e - 1 by omega]
  rw [bits_mask .u32 32 (by decide) wraps_u32 e (by omega) t h0 h1]
  have := Int.emod_nonneg t (show (2 : Int) ^ e ≠ 0 by omega)
  have := Int.emod_lt_of_pos t p0
  unfold wrap64
  omega
theorem bits_is (s : ByteArray) (hs : s.size ≤ 140737488351232) (d : Int) {k : Nat} (hk : s.size < k) : fnv_Bits.f k s d = some (hash s % 2 ^ deep d) := by
  unfold fnv_Bits.f
  rw [sum_is s hs hk]
  simp only [Option.bind_some]
  change some (wrap64 (Go.bits .and .u32 (hash s) ((((2 ^ deep d) % 4294967296) - 1) % 4294967296))) = _
  rw [low_is _ (hash_range s).1 (hash_range s).2 _ (deep_le d)]
theorem key_is (s : ByteArray) : fnv_Key.f s = some (decide (1 ≤ s.size ∧ s.size ≤ 16)) := by
  unfold fnv_Key.f
  rw [ByteArray.toList_eq]
  by_cases h : s.data.toList = []
  · rw [if_pos h]
    have : s.size = 0 := by
      have := congrArg List.length h
      simpa using this
    simp [this]
  · rw [if_neg h]
    have : s.size ≠ 0 := fun e => h (List.eq_nil_of_length_eq_zero (by simpa using e))
    congr 1
    apply decide_eq_decide.2
    omega
theorem alive_is {k : Nat} (hk : 1 < k) : honeycomblaw1_alive.f k = some true := by
  obtain ⟨k, rfl⟩ : ∃ m, k = m + 2 := ⟨k - 2, by omega⟩
  have e0 : hash ⟨#[]⟩ = 2166136261 := rfl
  have e1 : hash ⟨#[97]⟩ = 3826002220 := by decide +kernel
  have e2 : hash ⟨#[97]⟩ % 2 ^ deep 4 = 12 := by decide +kernel
  unfold honeycomblaw1_alive.f
  rw [sum_is ⟨#[]⟩ (by decide) (by show 0 < _; omega), e0]
  simp only [Option.bind_some]
  rw [if_pos trivial, sum_is ⟨#[97]⟩ (by decide) (by show 1 < _; omega), e1]
  simp only [Option.bind_some]
  rw [if_pos trivial, bits_is ⟨#[97]⟩ (by decide) 4 (by show 1 < _; omega), e2]
  simp only [Option.bind_some]
  rw [if_pos trivial, key_is]
  simp only [Option.bind_some]
  rw [if_pos (by decide), key_is]
  simp only [Option.bind_some]
  rw [if_neg (by decide)]
  rfl

theorem bits_xor (k : IntKind) (j : Nat) (hj : j ≤ k.bits) (hk : ∀ n : Int, 0 ≤ n → n < 2 ^ j → k.wrap n = n) (a b : Nat) (ha : a < 2 ^ j) (hb : b < 2 ^ j) :
    Go.bits .xor k a b = ((a ^^^ b : Nat) : Int) := by
  have hp : 2 ^ j ≤ 2 ^ k.bits := Nat.pow_le_pow_right (by decide) hj
  have ha' : a % 2 ^ k.bits = a := Nat.mod_eq_of_lt (Nat.lt_of_lt_of_le ha hp)
  have hb' : b % 2 ^ k.bits = b := Nat.mod_eq_of_lt (Nat.lt_of_lt_of_le hb hp)
  have cast : ∀ n : Nat, n < 2 ^ j → ((n : Nat) : Int) < 2 ^ j := fun n h => by exact_mod_cast h
  simp only [Go.bits, BitVec.ofInt_natCast, BitVec.toNat_xor, BitVec.toNat_ofNat, ha', hb']
  exact hk _ (Int.natCast_nonneg _) (cast _ (Nat.xor_lt_two_pow ha hb))
theorem wraps8 (n : Int) (h₀ : 0 ≤ n) (h₁ : n < 2 ^ 8) : IntKind.u8.wrap n = n := by rw [IntKind.wrap_u8]; omega
theorem xor_u32 (a b : Nat) (ha : a < 2 ^ 32) (hb : b < 2 ^ 32) : Go.bits .xor .u32 a b = ((a ^^^ b : Nat) : Int) := bits_xor .u32 32 (by decide) wraps_u32 a b ha hb
theorem xor_u8 (a b : Nat) (ha : a < 2 ^ 8) (hb : b < 2 ^ 8) : Go.bits .xor .u8 a b = ((a ^^^ b : Nat) : Int) := bits_xor .u8 8 (by decide) wraps8 a b ha hb
theorem xor_back (a b : Nat) : (a ^^^ b) ^^^ b = a := by rw [Nat.xor_assoc, Nat.xor_self, Nat.xor_zero]
theorem xor_inj {a b c : Nat} (h : a ^^^ c = b ^^^ c) : a = b := by
  have := congrArg (· ^^^ c) h
  simpa only [xor_back] using this
theorem emod_times (a b n : Int) : (a % n * b) % n = a * b % n := by rw [Int.mul_emod, Int.emod_emod, ← Int.mul_emod]
theorem times_back (x : Int) (hx : 0 ≤ x ∧ x < 4294967296) : (x * 16777619 % 4294967296 * 899433627) % 4294967296 = x := by
  rw [emod_times, Int.mul_assoc, show (16777619 * 899433627 : Int) = 1 + 4294967296 * 3513497 from rfl, Int.mul_add, Int.mul_one, Int.mul_left_comm, Int.add_mul_emod_self_left]
  exact Int.emod_eq_of_lt hx.1 hx.2
theorem times_inj (x y : Int) (hx : 0 ≤ x ∧ x < 4294967296) (hy : 0 ≤ y ∧ y < 4294967296) (h : x * 16777619 % 4294967296 = y * 16777619 % 4294967296) : x = y := by
  rw [← times_back x hx, h, times_back y hy]
theorem hstep_nat (h b : Nat) (hh : h < 2 ^ 32) (hb : b < 256) : hstep h b = ((h ^^^ b : Nat) : Int) * 16777619 % 4294967296 := by
  unfold hstep
  rw [show (b : Int) % 4294967296 = (b : Int) by omega, xor_u32 h b hh (by omega)]
theorem hstep_inj (h h' b b' : Nat) (hh : h < 2 ^ 32) (hh' : h' < 2 ^ 32) (hb : b < 256) (hb' : b' < 256) (e : hstep h b = hstep h' b') : h ^^^ b = h' ^^^ b' := by
  rw [hstep_nat h b hh hb, hstep_nat h' b' hh' hb'] at e
  have l1 : h ^^^ b < 2 ^ 32 := Nat.xor_lt_two_pow hh (by omega)
  have l2 : h' ^^^ b' < 2 ^ 32 := Nat.xor_lt_two_pow hh' (by omega)
  generalize h ^^^ b = p at *
  generalize h' ^^^ b' = q at *
  have h3 := times_inj (p : Int) (q : Int) (by clear e; omega) (by clear e; omega) e
  exact Int.ofNat_inj.1 h3
theorem hsum_inj (l : List UInt8) : ∀ h h' : Int, 0 ≤ h → h < 4294967296 → 0 ≤ h' → h' < 4294967296 → hsum l h = hsum l h' → h = h' := by
  induction l with
  | nil => intro h h' _ _ _ _ e; exact e
  | cons b l ih =>
    intro h h' h0 h1 h0' h1' e
    have e2 := ih _ _ (hstep_range _ _).1 (hstep_range _ _).2 (hstep_range _ _).1 (hstep_range _ _).2 e
    obtain ⟨n, rfl⟩ := Int.eq_ofNat_of_zero_le h0
    obtain ⟨m, rfl⟩ := Int.eq_ofNat_of_zero_le h0'
    have hb := b.toNat_lt
    have := xor_inj (hstep_inj n m b.toNat b.toNat (by omega) (by omega) (by omega) (by omega) e2)
    omega
/-- One byte turned: another hash. -/
theorem hash_turned (u v : List UInt8) (b c : UInt8) (hne : b ≠ c) : hsum (u ++ b :: v) 2166136261 ≠ hsum (u ++ c :: v) 2166136261 := by
  intro e
  unfold hsum at e
  rw [List.foldl_append, List.foldl_append, List.foldl_cons, List.foldl_cons] at e
  have e2 := hsum_inj v _ _ (hstep_range _ _).1 (hstep_range _ _).2 (hstep_range _ _).1 (hstep_range _ _).2 e
  have hr := hsum_range u 2166136261 (by decide) (by decide)
  change hstep (hsum u 2166136261) _ = hstep (hsum u 2166136261) _ at e2
  obtain ⟨n, hn⟩ := Int.eq_ofNat_of_zero_le hr.1
  rw [hn] at e2 hr
  have hb := b.toNat_lt
  have hc := c.toNat_lt
  have e3 := hstep_inj n n b.toNat c.toNat (by omega) (by omega) (by omega) (by omega) e2
  rw [Nat.xor_comm n, Nat.xor_comm n] at e3
  exact hne (UInt8.toNat_inj.1 (xor_inj e3))

/-- The place that is turned. -/
theorem place_in (at_ : Int) (n : Nat) (hn : 0 < n) (hm : n ≤ 100) :
    ∃ i : Nat, i < n ∧ Int.tmod (wrap64 (Int.tmod at_ (n : Int) + (n : Int))) (n : Int) = (i : Int) := by
  have h1 := Int.lt_tmod_of_pos at_ (show (0 : Int) < (n : Int) by omega)
  have h2 := Int.tmod_lt_of_pos at_ (show (0 : Int) < (n : Int) by omega)
  have h3 : wrap64 (Int.tmod at_ (n : Int) + (n : Int)) = Int.tmod at_ (n : Int) + (n : Int) := by unfold wrap64; omega
  rw [h3]
  generalize Int.tmod at_ (n : Int) = r at *
  have h4 := Int.tmod_nonneg (n : Int) (show 0 ≤ r + (n : Int) by omega)
  have h5 := Int.tmod_lt_of_pos (r + (n : Int)) (show (0 : Int) < (n : Int) by omega)
  refine ⟨(Int.tmod (r + (n : Int)) (n : Int)).toNat, by omega, by omega⟩
theorem cut_at (l : List UInt8) (i : Nat) (h : i < l.length) : l = l.take i ++ l[i] :: l.drop (i + 1) := by
  rw [← List.drop_eq_getElem_cons h, List.take_append_drop]
theorem xor_ne (a b : Nat) (hb : b ≠ 0) : a ^^^ b ≠ a := by
  intro h
  have h2 := congrArg (a ^^^ ·) h
  simp only [← Nat.xor_assoc, Nat.xor_self, Nat.zero_xor] at h2
  exact hb h2

theorem FnvTurned : honeycomblaw1_FnvTurned.Pure := by
  intro s at_ by_ hs ha hb
  refine ⟨s.size + 3, ?_⟩
  have hA := alive_is (k := s.size + 3) (by omega)
  have hA' := alive_is (k := s.size + 2) (by omega)
  have hb2 : 0 ≤ by_ ∧ by_ ≤ 255 := by simpa [Lit.wf, IntKind.min, IntKind.max, IntKind.signed, IntKind.bits] using hb
  have hT : honeycomblaw1_FnvTurned.j0 (s.size + 3) s at_ by_ true = some true := by
    simp only [honeycomblaw1_FnvTurned.j0]
    rw [if_pos trivial, hA']
    rfl
  unfold honeycomblaw1_FnvTurned.f
  by_cases h1 : (s.size : Int) < 1
  · rw [if_pos h1, hT]
  by_cases h2 : (s.size : Int) > 100
  · rw [if_neg h1, if_pos h2, hT]
  by_cases h3 : by_ = 0
  · rw [if_neg h1, if_neg h2, if_pos h3, hT]
  rw [if_neg h1, if_neg h2, if_neg h3, hA]
  simp only [Option.bind_some, honeycomblaw1_FnvTurned.j0]
  obtain ⟨i, hi, he⟩ := place_in at_ s.size (by omega) (by omega)
  rw [he]
  have hw : wrap64 ((i : Int) + 1) = ((i + 1 : Nat) : Int) := by unfold wrap64; omega
  rw [hw]
  simp only [Int.toNat_natCast]
  obtain ⟨c, rfl⟩ := Int.eq_ofNat_of_zero_le hb2.1
  have hbt := bt_range s (i : Int)
  obtain ⟨x, hx⟩ := Int.eq_ofNat_of_zero_le hbt.1
  rw [hx] at hbt ⊢
  rw [xor_u8 x c (by omega) (by omega)]
  have hone : (strOfNums [((x ^^^ c : Nat) : Int)]).size = 1 := rfl
  have e1 : (s.extract 0 i).size = i := by rw [ByteArray.size_extract]; omega
  have e2 : (s.extract (i + 1) s.size).size = s.size - (i + 1) := by rw [ByteArray.size_extract]; omega
  rw [if_neg (by decide), if_neg (by omega), if_pos (by omega), if_pos (by omega), if_pos (by omega), if_pos (by rw [e1, hone]; omega), if_pos (by omega), if_pos (by omega),
    if_pos (by rw [ByteArray.size_append, e1, e2, hone]; omega)]
  have hz : (s.extract 0 i ++ strOfNums [((x ^^^ c : Nat) : Int)] ++ s.extract (i + 1) s.size).size = s.size := by
    rw [ByteArray.size_append, ByteArray.size_append, e1, e2, hone]; omega
  rw [sum_is _ (by omega) (by omega), sum_is s hs (by omega)]
  simp only [Option.bind_some, Option.some.injEq, bne_iff_ne]
  have hl : i < s.data.toList.length := by simpa using hi
  have hcut := cut_at s.data.toList i hl
  have hxc : x ^^^ c < 2 ^ 8 := Nat.xor_lt_two_pow (by omega) (by omega)
  have hbyte : (s.data.toList[i]).toNat = x := by
    have := bt_getElem s i hi
    omega
  have hnew : (s.extract 0 i ++ strOfNums [((x ^^^ c : Nat) : Int)] ++ s.extract (i + 1) s.size).data.toList = s.data.toList.take i ++ UInt8.ofNat (x ^^^ c) :: s.data.toList.drop (i + 1) := by
    simp only [ByteArray.data_append, ByteArray.data_extract, Array.toList_append, Array.toList_extract, strOfNums, List.map_cons, List.map_nil, Int.toNat_natCast, List.extract_eq_take_drop, List.drop_zero]
    rw [show (s.data.toList.drop (i + 1)).take (s.size - (i + 1)) = s.data.toList.drop (i + 1) from List.take_of_length_le (by simp)]
    simp
  unfold hash
  rw [hnew]
  conv => rhs; rw [hcut]
  refine hash_turned _ _ _ _ fun e => ?_
  have e4 := congrArg UInt8.toNat e
  rw [UInt8.toNat_ofNat', hbyte, Nat.mod_eq_of_lt hxc] at e4
  exact xor_ne x c (by omega) e4

end Go.Proofs.Ytcegoipfkjknhaa.Pure
