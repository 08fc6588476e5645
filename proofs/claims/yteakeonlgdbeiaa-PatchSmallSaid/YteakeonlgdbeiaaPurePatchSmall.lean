/- PatchSmall: a patch has no byte at its ends that did not change, and between two bytes that changed all are in it, whatever the input. Conditions: none beyond the given row's own. -/
import Derived.Test.YteakeonlgdbeiaaPPx3
import Derived.Test.YteakeonlgdbeiaaPureCommon
import Derived.Lib.ConvBytes
import Derived.Laws.BytesArg
namespace Go.Proofs.Yteakeonlgdbeiaa.Pure
open Go Go.RowKit Go.Proofs.Yteakeonlgdbeiaa.PP Go.Proofs.YteakeonlgdbeiaaW.PrintWords Go.Proofs.YteakeonlgdbeiaaW.PrintLast Go.Proofs.YteakeonlgdbeiaaW.PrintMore
set_option linter.unusedVariables false
attribute [local go_sem] max2_int min2_int max_two min_two max_three min_three max_four min_four
/-- Bytes in memory: block g, behind all that was there. -/
structure BytesAt (W0 W : World) (g : Nat) (xs : List Int) : Prop where mk ::
  below : Below W0.heap.size W0 W
  base : W0.heap.size ≤ g
  cell : ∀ q, q < xs.length → W.cell? ⟨g, q, none⟩ = some (.int .u8 (xs.getD q 0))
  free : ∀ q, q < xs.length → W.frozen? ⟨g, q, none⟩ = false
def bytesI (s : ByteArray) : List Int := s.data.toList.map fun b => (b.toNat : Int)
theorem bytesI_length (s : ByteArray) : (bytesI s).length = s.size := by simp [bytesI]
theorem bytes_new {W0 w : World} (s : ByteArray) (e : TypeId) (h : Below W0.heap.size W0 w) : BytesAt W0 (Lib.bytesWorld w e s) w.heap.size (bytesI s) := by
  have hsz := Lib.bytesWorld_size w e s
  refine ⟨?_, h.size, fun q hq => ?_, fun q hq => ?_⟩
  · exact ⟨h.os, h.tape, h.output, by have := h.size; omega, fun k hk => by rw [Lib.bytesWorld_at_old w e s k (by have := h.size; omega)]; exact h.block k hk⟩
  · rw [bytesI_length] at hq
    rw [Lib.bytesWorld_cell w e s q hq]
    simp [bytesI, List.getD_eq_getElem?_getD, List.getElem?_eq_getElem (show q < s.data.toList.length by simpa using hq)]
  · rw [bytesI_length] at hq
    have := Lib.bytesWorld_at_new w e s
    unfold World.frozen?
    simp [this, Lib.bytesCells]
    omega
theorem BytesAt.set {W0 W : World} {g : Nat} {xs : List Int} (h : BytesAt W0 W g xs) (q : Nat) (hq : q < xs.length) (x : Int) : BytesAt W0 (W.setCell ⟨g, q, none⟩ (.int .u8 x)) g (xs.set q x) := by
  refine ⟨h.below.setCell h.base _, h.base, fun r hr => ?_, fun r hr => ?_⟩
  · rw [List.length_set] at hr
    by_cases e : r = q
    · subst e
      rw [World.cell?_setCell_same' _ _ _ (by rw [h.cell r hr]; rfl)]
      simp [List.getD_eq_getElem?_getD, List.getElem?_set_self hr]
    · rw [World.cell?_setCell_other _ _ _ _ (fun c => e (by injection c with _ c2; exact c2.symm)), h.cell r hr]
      simp only [List.getD_eq_getElem?_getD, List.getElem?_set_ne (fun c => e c.symm)]
  · rw [List.length_set] at hr
    rw [World.frozen?_setCell]
    exact h.free r hr
/-- What the conversion to bytes comes to. -/
theorem conv_new {W0 w : World} (s : ByteArray) (h : Below W0.heap.size W0 w) : ∃ cap w3, (convert 9 24 (.string s)).run Try.prog w = .ok (.slice (some ⟨w.heap.size, 0, none⟩) s.size cap) w3 ∧ BytesAt W0 w3 w.heap.size (bytesI s) :=
  ⟨_, _, Lib.run_convert_string_bytes w 9 24 5 s Try.underlying9 Try.underlying24 Try.underlying5, bytes_new s 5 h⟩
theorem conv_back {W0 w : World} {g cap : Nat} {xs : List Int} (h : BytesAt W0 w g xs) : (convert 24 9 (.slice (some ⟨g, 0, none⟩) xs.length cap)).run Try.prog w = .ok (.string (strOfNums xs)) w :=
  run_convert_bytes_arg w 24 5 Try.underlying24 Try.underlying5 g 0 xs.length cap xs rfl (fun i hi => by rw [Nat.zero_add]; exact h.cell i hi) 9 Try.underlying9

set_option maxHeartbeats 4000000 in
set_option maxRecDepth 100000 in
theorem small_walk1 (b : ByteArray) (x y u v : Int) (i j : Nat) (r1 r2 : Int) (r3 : ByteArray) (w : World) (hb : b.size ≤ 200) (hu : u ≠ 0) (hv : v ≠ 0)
    (hi : Int.tmod (wrap64 (Int.tmod x 256 + 256)) 256 = (i : Int)) (hj : Int.tmod (wrap64 (Int.tmod y 256 + 256)) 256 = (j : Int)) (hi2 : i < 256) (hj2 : j < 256) (hlt : i < j)
    (hd : patch_Diff.f 600 5 (pageB b) (strOfNums (((bytesI (pageB b)).set i (Go.bits .xor .u8 ((bytesI (pageB b)).getD i 0) u)).set j (Go.bits .xor .u8 (((bytesI (pageB b)).set i (Go.bits .xor .u8 ((bytesI (pageB b)).getD i 0) u)).getD j 0) v))) = some (r1, r2, r3, true))
    (h1 : r1 = 5) (h2 : r2 = (i : Int)) (h3 : (r3.size : Int) = (j : Int) - (i : Int) + 1) :
    Calls Try.prog 3 #[.string b, .int .i64 x, .int .i64 y, .int .u8 u, .int .u8 v] w fun e w' => e = .returned (.bool true) ∧ Below w.heap.size w w' := by
  have cb : decide (200 < (b.size : Int)) = false := decide_eq_false (by omega)
  have cb2 : decide (200 < b.size) = false := decide_eq_false (by omega)
  have cu : (u == 0) = false := beq_eq_false_iff_ne.2 hu
  have cv : (v == 0) = false := beq_eq_false_iff_ne.2 hv
  have cij : ((i : Int) == (j : Int)) = false := beq_eq_false_iff_ne.2 (by omega)
  have cij2 : (i == j) = false := beq_eq_false_iff_ne.2 (by omega)
  have HA := Aside0.mk (alive_is (k := 600) (by omega))
  have HP := Aside0.mk (Page_is b)
  have hps := pageB_size b
  have hpl : (bytesI (pageB b)).length = 256 := by rw [bytesI_length, hps]
  have HD := Aside0.mk hd
  have HS := Aside0.mk hps
  have HL := Aside0.mk hpl
  subst h1 h2
  have hlt2 : (i : Int) < (j : Int) := by omega
  have h3b : ((r3.size : Int) == wrap64 (wrap64 ((j : Int) - (i : Int)) + 1)) = true := beq_iff_eq.2 (by unfold wrap64; omega)
  clear hb hu hv hd hps hpl h3
  have HI := Aside0.mk hi2
  have HJ := Aside0.mk hj2
  have ci1 : (0 ≤ (i : Int)) = True := eq_true (by omega)
  have ci2 : ((i : Int) < 256) = True := eq_true (by omega)
  have cj1 : (0 ≤ (j : Int)) = True := eq_true (by omega)
  have cj2 : ((j : Int) < 256) = True := eq_true (by omega)
  have ci3 : (i < 256) = True := eq_true hi2
  have cj3 : (j < 256) = True := eq_true hj2
  clear hi2 hj2
  go_enter Try.func3, Try.ntmps3
  go_wp2_with (first | (go_at_call 10; (with_reducible refine (honeycomblaw6_alive.calls 600 true _ HA.out).mono ?_); rintro e w1 ⟨rfl, hb1⟩))
  refine (honeycomblaw6_Page.calls b (pageB b) _ HP.out).mono ?_
  rintro e w2 ⟨rfl, hb2⟩
  obtain ⟨cap, w3, hcv, HB3⟩ := conv_new (pageB b) (below_step hb1 hb2)
  clear hb1 hb2
  rw [HS.out] at hcv
  have hci := HB3.cell i (by rw [HL.out]; exact HI.out)
  have hfi := HB3.free i (by rw [HL.out]; exact HI.out)
  have HB4 := HB3.set i (by rw [HL.out]; exact HI.out) (Go.bits .xor .u8 ((bytesI (pageB b)).getD i 0) u)
  have hl4 := (show ((bytesI (pageB b)).set i (Go.bits .xor .u8 ((bytesI (pageB b)).getD i 0) u)).length = 256 by rw [List.length_set]; exact HL.out)
  have hcj := HB4.cell j (by rw [hl4]; exact HJ.out)
  have hfj := HB4.free j (by rw [hl4]; exact HJ.out)
  have HB5 := HB4.set j (by rw [hl4]; exact HJ.out) (Go.bits .xor .u8 (((bytesI (pageB b)).set i (Go.bits .xor .u8 ((bytesI (pageB b)).getD i 0) u)).getD j 0) v)
  have hcb := conv_back (cap := cap) HB5
  rw [List.length_set, hl4] at hcb
  have HB6 := Aside0.mk HB5
  clear HB3 HB4 HB5 hl4
  generalize (bytesI (pageB b)).getD i 0 = ci at *
  generalize ((bytesI (pageB b)).set i (Go.bits .xor .u8 ci u)) = l4 at *
  generalize l4.getD j 0 = cj at *
  generalize strOfNums (l4.set j (Go.bits .xor .u8 cj v)) = now at *
  go_wp2_with (first | (go_at_call 12; (with_reducible refine (patch_Diff.calls 600 5 (pageB b) now _ _ _ true _ HD.out).mono ?_); rintro e w6 ⟨rfl, hb6⟩))
  go_ret
  exact ⟨rfl, below_alloc (below_step HB6.out.below hb6) _⟩
set_option maxHeartbeats 4000000 in
set_option maxRecDepth 100000 in
theorem small_walk2 (b : ByteArray) (x y u v : Int) (i j : Nat) (r1 r2 : Int) (r3 : ByteArray) (w : World) (hb : b.size ≤ 200) (hu : u ≠ 0) (hv : v ≠ 0)
    (hi : Int.tmod (wrap64 (Int.tmod x 256 + 256)) 256 = (i : Int)) (hj : Int.tmod (wrap64 (Int.tmod y 256 + 256)) 256 = (j : Int)) (hi2 : i < 256) (hj2 : j < 256) (hlt : j < i)
    (hd : patch_Diff.f 600 5 (pageB b) (strOfNums (((bytesI (pageB b)).set i (Go.bits .xor .u8 ((bytesI (pageB b)).getD i 0) u)).set j (Go.bits .xor .u8 (((bytesI (pageB b)).set i (Go.bits .xor .u8 ((bytesI (pageB b)).getD i 0) u)).getD j 0) v))) = some (r1, r2, r3, true))
    (h1 : r1 = 5) (h2 : r2 = (j : Int)) (h3 : (r3.size : Int) = (i : Int) - (j : Int) + 1) :
    Calls Try.prog 3 #[.string b, .int .i64 x, .int .i64 y, .int .u8 u, .int .u8 v] w fun e w' => e = .returned (.bool true) ∧ Below w.heap.size w w' := by
  have cb : decide (200 < (b.size : Int)) = false := decide_eq_false (by omega)
  have cb2 : decide (200 < b.size) = false := decide_eq_false (by omega)
  have cu : (u == 0) = false := beq_eq_false_iff_ne.2 hu
  have cv : (v == 0) = false := beq_eq_false_iff_ne.2 hv
  have cij : ((i : Int) == (j : Int)) = false := beq_eq_false_iff_ne.2 (by omega)
  have cij2 : (i == j) = false := beq_eq_false_iff_ne.2 (by omega)
  have HA := Aside0.mk (alive_is (k := 600) (by omega))
  have HP := Aside0.mk (Page_is b)
  have hps := pageB_size b
  have hpl : (bytesI (pageB b)).length = 256 := by rw [bytesI_length, hps]
  have HD := Aside0.mk hd
  have HS := Aside0.mk hps
  have HL := Aside0.mk hpl
  subst h1 h2
  have hlt2 : (j : Int) < (i : Int) := by omega
  have h3b : ((r3.size : Int) == wrap64 (wrap64 ((i : Int) - (j : Int)) + 1)) = true := beq_iff_eq.2 (by unfold wrap64; omega)
  clear hb hu hv hd hps hpl h3
  have HI := Aside0.mk hi2
  have HJ := Aside0.mk hj2
  have ci1 : (0 ≤ (i : Int)) = True := eq_true (by omega)
  have ci2 : ((i : Int) < 256) = True := eq_true (by omega)
  have cj1 : (0 ≤ (j : Int)) = True := eq_true (by omega)
  have cj2 : ((j : Int) < 256) = True := eq_true (by omega)
  have ci3 : (i < 256) = True := eq_true hi2
  have cj3 : (j < 256) = True := eq_true hj2
  clear hi2 hj2
  go_enter Try.func3, Try.ntmps3
  go_wp2_with (first | (go_at_call 10; (with_reducible refine (honeycomblaw6_alive.calls 600 true _ HA.out).mono ?_); rintro e w1 ⟨rfl, hb1⟩))
  refine (honeycomblaw6_Page.calls b (pageB b) _ HP.out).mono ?_
  rintro e w2 ⟨rfl, hb2⟩
  obtain ⟨cap, w3, hcv, HB3⟩ := conv_new (pageB b) (below_step hb1 hb2)
  clear hb1 hb2
  rw [HS.out] at hcv
  have hci := HB3.cell i (by rw [HL.out]; exact HI.out)
  have hfi := HB3.free i (by rw [HL.out]; exact HI.out)
  have HB4 := HB3.set i (by rw [HL.out]; exact HI.out) (Go.bits .xor .u8 ((bytesI (pageB b)).getD i 0) u)
  have hl4 := (show ((bytesI (pageB b)).set i (Go.bits .xor .u8 ((bytesI (pageB b)).getD i 0) u)).length = 256 by rw [List.length_set]; exact HL.out)
  have hcj := HB4.cell j (by rw [hl4]; exact HJ.out)
  have hfj := HB4.free j (by rw [hl4]; exact HJ.out)
  have HB5 := HB4.set j (by rw [hl4]; exact HJ.out) (Go.bits .xor .u8 (((bytesI (pageB b)).set i (Go.bits .xor .u8 ((bytesI (pageB b)).getD i 0) u)).getD j 0) v)
  have hcb := conv_back (cap := cap) HB5
  rw [List.length_set, hl4] at hcb
  have HB6 := Aside0.mk HB5
  clear HB3 HB4 HB5 hl4
  generalize (bytesI (pageB b)).getD i 0 = ci at *
  generalize ((bytesI (pageB b)).set i (Go.bits .xor .u8 ci u)) = l4 at *
  generalize l4.getD j 0 = cj at *
  generalize strOfNums (l4.set j (Go.bits .xor .u8 cj v)) = now at *
  go_wp2_with (first | (go_at_call 12; (with_reducible refine (patch_Diff.calls 600 5 (pageB b) now _ _ _ true _ HD.out).mono ?_); rintro e w6 ⟨rfl, hb6⟩))
  go_ret
  exact ⟨rfl, below_alloc (below_step HB6.out.below hb6) _⟩

theorem wraps8 (n : Int) (h₀ : 0 ≤ n) (h₁ : n < 2 ^ 8) : IntKind.u8.wrap n = n := by rw [IntKind.wrap_u8]; omega
theorem bits_xor (k : IntKind) (j : Nat) (hj : j ≤ k.bits) (hk : ∀ n : Int, 0 ≤ n → n < 2 ^ j → k.wrap n = n) (a b : Nat) (ha : a < 2 ^ j) (hb : b < 2 ^ j) :
    Go.bits .xor k a b = ((a ^^^ b : Nat) : Int) := by
  have hp : 2 ^ j ≤ 2 ^ k.bits := Nat.pow_le_pow_right (by decide) hj
  have ha' : a % 2 ^ k.bits = a := Nat.mod_eq_of_lt (Nat.lt_of_lt_of_le ha hp)
  have hb' : b % 2 ^ k.bits = b := Nat.mod_eq_of_lt (Nat.lt_of_lt_of_le hb hp)
  have cast : ∀ n : Nat, n < 2 ^ j → ((n : Nat) : Int) < 2 ^ j := fun n h => by exact_mod_cast h
  simp only [Go.bits, BitVec.ofInt_natCast, BitVec.toNat_xor, BitVec.toNat_ofNat, ha', hb']
  exact hk _ (Int.natCast_nonneg _) (cast _ (Nat.xor_lt_two_pow ha hb))
theorem xor_u8 (a b : Nat) (ha : a < 2 ^ 8) (hb : b < 2 ^ 8) : Go.bits .xor .u8 a b = ((a ^^^ b : Nat) : Int) := bits_xor .u8 8 (by decide) wraps8 a b ha hb
theorem xor_ne (a b : Nat) (hb : b ≠ 0) : a ^^^ b ≠ a := by
  intro h
  have h2 := congrArg (a ^^^ ·) h
  simp only [← Nat.xor_assoc, Nat.xor_self, Nat.zero_xor] at h2
  exact hb h2
/-- A byte that is turned is another byte. -/
theorem turned_ne (c u : Int) (hc : 0 ≤ c ∧ c ≤ 255) (hu : 0 ≤ u ∧ u ≤ 255) (hu0 : u ≠ 0) : Go.bits .xor .u8 c u ≠ c ∧ 0 ≤ Go.bits .xor .u8 c u ∧ Go.bits .xor .u8 c u ≤ 255 := by
  obtain ⟨a, rfl⟩ := Int.eq_ofNat_of_zero_le hc.1
  obtain ⟨b, rfl⟩ := Int.eq_ofNat_of_zero_le hu.1
  rw [xor_u8 a b (by omega) (by omega)]
  have h1 := xor_ne a b (by omega)
  have h2 : a ^^^ b < 2 ^ 8 := Nat.xor_lt_two_pow (by omega) (by omega)
  omega
theorem byt_nums (xs : List Int) (q : Nat) : byt (strOfNums xs) q = xs[q]?.map fun n => UInt8.ofNat n.toNat := by
  unfold byt strOfNums
  simp
theorem nums_size (xs : List Int) : (strOfNums xs).size = xs.length := by
  unfold strOfNums
  show (Array.size _) = _
  simp
theorem bytesI_get (s : ByteArray) (q : Nat) (h : q < s.size) : (bytesI s)[q]? = some (bt s (q : Int)) := by
  unfold bytesI bt
  rw [List.getElem?_map, List.getElem?_eq_getElem (by simpa using h)]
  simp only [Int.toNat_natCast, Option.map_some]
  rw [dif_pos h]
  rfl
theorem bytesI_byt (s : ByteArray) (q : Nat) : (bytesI s)[q]?.map (fun n => UInt8.ofNat n.toNat) = byt s q := by
  unfold bytesI byt
  rw [List.getElem?_map, Option.map_map]
  cases h : s.data.toList[q]? with
  | none => rfl
  | some v => simp
/-- Two places that are turned: where the pages differ. -/
theorem small_diff (s : ByteArray) (hs : s.size = 256) (i j : Nat) (X Y : Int) (hi : i < 256) (hj : j < 256) (hij : i ≠ j) (hX : X ≠ bt s (i : Int)) (hY : Y ≠ bt s (j : Int)) (hX2 : 0 ≤ X ∧ X ≤ 255) (hY2 : 0 ≤ Y ∧ Y ≤ 255) (m M : Nat) (hm : m = min i j) (hM : M = max i j) :
    IsDiff s (strOfNums (((bytesI s).set i X).set j Y)) m (M + 1) := by
  have hne : ∀ (q : Nat) (Z : Int), q < 256 → Z ≠ bt s (q : Int) → 0 ≤ Z ∧ Z ≤ 255 → byt s q ≠ some (UInt8.ofNat Z.toNat) := by
    intro q Z hq hZ hZ2 e
    rw [byt_bt s q (by omega)] at e
    have h1 := congrArg UInt8.toNat (Option.some.inj e)
    have a := bt_range s (q : Int)
    rw [UInt8.toNat_ofNat', UInt8.toNat_ofNat'] at h1
    omega
  have hl : (bytesI s).length = 256 := by rw [bytesI_length, hs]
  have hb : ∀ q, byt (strOfNums (((bytesI s).set i X).set j Y)) q = if q = j then some (UInt8.ofNat Y.toNat) else if q = i then some (UInt8.ofNat X.toNat) else byt s q := by
    intro q
    rw [byt_nums]
    by_cases c1 : q = j
    · subst c1
      rw [if_pos rfl, List.getElem?_set_self (by rw [List.length_set, hl]; exact hj)]
      rfl
    · rw [if_neg c1, List.getElem?_set_ne (fun e => c1 e.symm)]
      by_cases c2 : q = i
      · subst c2
        rw [if_pos rfl, List.getElem?_set_self (by rw [hl]; exact hi)]
        rfl
      · rw [if_neg c2, List.getElem?_set_ne (fun e => c2 e.symm)]
        exact bytesI_byt s q
  refine ⟨by omega, by omega, fun q hq => ?_, ?_, ?_, fun q hq => ?_⟩
  · rw [hb, if_neg (by omega), if_neg (by omega)]
  · rw [hb]
    by_cases c : m = j
    · rw [if_pos c, c]; exact hne j Y hj hY hY2
    · rw [if_neg c, if_pos (by omega), show m = i by omega]; exact hne i X hi hX hX2
  · rw [hb, Nat.add_sub_cancel]
    by_cases c : M = j
    · rw [if_pos c, c]; exact hne j Y hj hY hY2
    · rw [if_neg c, if_pos (by omega), show M = i by omega]; exact hne i X hi hX hX2
  · rw [hb, if_neg (by omega), if_neg (by omega)]
theorem place_in (x : Int) : ∃ i : Nat, i < 256 ∧ Int.tmod (wrap64 (Int.tmod x 256 + 256)) 256 = (i : Int) := by
  have h1 := Int.lt_tmod_of_pos x (show (0 : Int) < 256 by omega)
  have h2 := Int.tmod_lt_of_pos x (show (0 : Int) < 256 by omega)
  generalize Int.tmod x 256 = r at *
  have h3 : wrap64 (r + 256) = r + 256 := by unfold wrap64; omega
  rw [h3]
  have h5 := Int.tmod_nonneg 256 (show 0 ≤ r + 256 by omega)
  have h6 := Int.tmod_lt_of_pos (r + 256) (show (0 : Int) < 256 by omega)
  exact ⟨(Int.tmod (r + 256) 256).toNat, by omega, by omega⟩
set_option maxHeartbeats 4000000 in
set_option maxRecDepth 100000 in
theorem small_out (b : ByteArray) (x y u v : Int) (w : World) (h : b.size > 200 ∨ u = 0 ∨ v = 0) :
    Calls Try.prog 3 #[.string b, .int .i64 x, .int .i64 y, .int .u8 u, .int .u8 v] w fun e w' => e = .returned (.bool true) ∧ Below w.heap.size w w' := by
  have HA := Aside0.mk (alive_is (k := 600) (by omega))
  by_cases c1 : b.size > 200
  · have cb : decide (200 < (b.size : Int)) = true := decide_eq_true (by omega)
    have cb2 : decide (200 < b.size) = true := decide_eq_true (by omega)
    clear h c1
    go_enter Try.func3, Try.ntmps3
    go_wp2_with (first | (go_at_call 10; (with_reducible refine (honeycomblaw6_alive.calls 600 true _ HA.out).mono ?_); rintro e w1 ⟨rfl, hb1⟩))
    go_ret
    exact ⟨rfl, hb1⟩
  · have cb : decide (200 < (b.size : Int)) = false := decide_eq_false (by omega)
    have cb2 : decide (200 < b.size) = false := decide_eq_false (by omega)
    by_cases c2 : u = 0
    · have cu : (u == 0) = true := beq_iff_eq.2 c2
      clear h c1 c2
      go_enter Try.func3, Try.ntmps3
      go_wp2_with (first | (go_at_call 10; (with_reducible refine (honeycomblaw6_alive.calls 600 true _ HA.out).mono ?_); rintro e w1 ⟨rfl, hb1⟩))
      go_ret
      exact ⟨rfl, hb1⟩
    · have cu : (u == 0) = false := beq_eq_false_iff_ne.2 c2
      have cv : (v == 0) = true := beq_iff_eq.2 (by rcases h with h | h | h <;> first | exact absurd h c1 | exact absurd h c2 | exact h)
      clear h c1 c2
      go_enter Try.func3, Try.ntmps3
      go_wp2_with (first | (go_at_call 10; (with_reducible refine (honeycomblaw6_alive.calls 600 true _ HA.out).mono ?_); rintro e w1 ⟨rfl, hb1⟩))
      go_ret
      exact ⟨rfl, hb1⟩
set_option maxHeartbeats 4000000 in
set_option maxRecDepth 100000 in
theorem small_same (b : ByteArray) (x y u v : Int) (i : Nat) (w : World) (hb : b.size ≤ 200) (hu : u ≠ 0) (hv : v ≠ 0)
    (hi : Int.tmod (wrap64 (Int.tmod x 256 + 256)) 256 = (i : Int)) (hj : Int.tmod (wrap64 (Int.tmod y 256 + 256)) 256 = (i : Int)) :
    Calls Try.prog 3 #[.string b, .int .i64 x, .int .i64 y, .int .u8 u, .int .u8 v] w fun e w' => e = .returned (.bool true) ∧ Below w.heap.size w w' := by
  have cb : decide (200 < (b.size : Int)) = false := decide_eq_false (by omega)
  have cb2 : decide (200 < b.size) = false := decide_eq_false (by omega)
  have cu : (u == 0) = false := beq_eq_false_iff_ne.2 hu
  have cv : (v == 0) = false := beq_eq_false_iff_ne.2 hv
  have HA := Aside0.mk (alive_is (k := 600) (by omega))
  have HP := Aside0.mk (Page_is b)
  clear hb hu hv
  go_enter Try.func3, Try.ntmps3
  go_wp2_with (first | (go_at_call 10; (with_reducible refine (honeycomblaw6_alive.calls 600 true _ HA.out).mono ?_); rintro e w1 ⟨rfl, hb1⟩) | (go_at_call 11; (with_reducible refine (honeycomblaw6_Page.calls b (pageB b) _ HP.out).mono ?_); rintro e w2 ⟨rfl, hb2⟩))
  go_ret
  exact ⟨rfl, below_step hb1 hb2⟩
/-- The law, at every input. -/
theorem PatchSmall_walk (b : ByteArray) (x y u v : Int) (w : World) (hs : b.size ≤ 140737488351232) (hx : (Lit.int .i64 x).wf = true) (hy : (Lit.int .i64 y).wf = true) (hu : (Lit.int .u8 u).wf = true) (hv : (Lit.int .u8 v).wf = true) :
    Calls Try.prog 3 #[.string b, .int .i64 x, .int .i64 y, .int .u8 u, .int .u8 v] w fun e w' => e = .returned (.bool true) ∧ Below w.heap.size w w' := by
  have hu2 : 0 ≤ u ∧ u ≤ 255 := by simpa [Lit.wf, IntKind.min, IntKind.max, IntKind.signed, IntKind.bits] using hu
  have hv2 : 0 ≤ v ∧ v ≤ 255 := by simpa [Lit.wf, IntKind.min, IntKind.max, IntKind.signed, IntKind.bits] using hv
  by_cases h : b.size > 200 ∨ u = 0 ∨ v = 0
  · exact small_out b x y u v w h
  · obtain ⟨i, hi2, hi⟩ := place_in x
    obtain ⟨j, hj2, hj⟩ := place_in y
    have hb : b.size ≤ 200 := by omega
    have hu0 : u ≠ 0 := by omega
    have hv0 : v ≠ 0 := by omega
    by_cases hij : i = j
    · subst hij
      exact small_same b x y u v i w hb hu0 hv0 hi hj
    · have hps := pageB_size b
      have g1 : (bytesI (pageB b)).getD i 0 = bt (pageB b) (i : Int) := by rw [List.getD_eq_getElem?_getD, bytesI_get _ i (by omega)]; rfl
      have g2 : ∀ X : Int, ((bytesI (pageB b)).set i X).getD j 0 = bt (pageB b) (j : Int) := by
        intro X
        rw [List.getD_eq_getElem?_getD, List.getElem?_set_ne hij, bytesI_get _ j (by omega)]; rfl
      obtain ⟨n1, n2, n3⟩ := turned_ne _ u (bt_range (pageB b) (i : Int)) hu2 hu0
      obtain ⟨m1, m2, m3⟩ := turned_ne _ v (bt_range (pageB b) (j : Int)) hv2 hv0
      have hns : (strOfNums (((bytesI (pageB b)).set i (Go.bits .xor .u8 (bt (pageB b) (i : Int)) u)).set j (Go.bits .xor .u8 (bt (pageB b) (j : Int)) v))).size = 256 := by
        rw [nums_size, List.length_set, List.length_set, bytesI_length, hps]
      obtain ⟨N, hN⟩ : ∃ N, N = strOfNums (((bytesI (pageB b)).set i (Go.bits .xor .u8 (bt (pageB b) (i : Int)) u)).set j (Go.bits .xor .u8 (bt (pageB b) (j : Int)) v)) := ⟨_, rfl⟩
      rw [← hN] at hns
      rcases Nat.lt_or_ge i j with c | c
      · have hd := small_diff (pageB b) hps i j _ _ hi2 hj2 hij n1 m1 ⟨n2, n3⟩ ⟨m2, m3⟩ i j (by omega) (by omega)
        rw [← hN] at hd
        have hD := Diff_yes (page := 5) (by decide) hps hns hd (k := 600) (by omega)
        refine small_walk1 b x y u v i j 5 (i : Int) (N.extract i (j + 1)) w hb hu0 hv0 hi hj hi2 hj2 c ?_ rfl rfl ?_
        · rw [g2, g1, ← hN]; exact hD
        · rw [ByteArray.size_extract]; omega
      · have hd := small_diff (pageB b) hps i j _ _ hi2 hj2 hij n1 m1 ⟨n2, n3⟩ ⟨m2, m3⟩ j i (by omega) (by omega)
        rw [← hN] at hd
        have hD := Diff_yes (page := 5) (by decide) hps hns hd (k := 600) (by omega)
        refine small_walk2 b x y u v i j 5 (j : Int) (N.extract j (i + 1)) w hb hu0 hv0 hi hj hi2 hj2 (by omega) ?_ rfl rfl ?_
        · rw [g2, g1, ← hN]; exact hD
        · rw [ByteArray.size_extract]; omega

end Go.Proofs.Yteakeonlgdbeiaa.Pure
