-- Laid by wip/gen/myprint.py of this session, on the kit's print.
import Derived.Test.YtcmepoakcffpaaaMx0
namespace Go.Proofs.Ytcmepoakcffpaaa.M
open Go.RowKit Go.Proofs.YtcmepoakcffpaaaW.PrintWords Go.Proofs.YtcmepoakcffpaaaW.PrintLast Go.Proofs.YtcmepoakcffpaaaW.PrintMore
attribute [local go_sem] max2_int min2_int max_two min_two max_three min_three max_four min_four   -- for this text's walks alone
set_option linter.unusedVariables false
set_option linter.unusedSimpArgs false

/-! ### fnv_Key: function 37 -/
def fnv_Key.f (a0 : ByteArray) : Option (Bool) := if a0.toList = ([] : List UInt8) then (some false) else (some (decide ((a0.size : Int) ≤ 16)))
set_option maxHeartbeats 8000000 in
set_option maxRecDepth 100000 in
theorem fnv_Key.calls (a0 : ByteArray) (r : Bool) (w : World) (h : fnv_Key.f a0 = some r) :
    Calls Try.prog 37 #[.string a0] w fun e w' => e = .returned (.bool r) ∧ Drawn0 w w' := by
  have H : (if a0.toList = ([] : List UInt8) then (some false) else (some (decide ((a0.size : Int) ≤ 16)))) = some r := h
  clear h
  by_cases c2 : a0.toList = ([] : List UInt8)
  · rw [if_pos c2] at H
    have c2b0 : (a0.toList == ([] : List UInt8)) = true := beq_iff_eq.mpr c2
    (try (have c2b9 : (a0.toList.isEmpty) = true := by simpa using c2))
    have c2b1 : (a0.toList != ([] : List UInt8)) = false := bne_eq_false_iff_eq.mpr c2
    clear c2
    obtain rfl := Option.some.inj H
    go_enter Try.func37, Try.ntmps37
    go_wp2
    go_ret
    exact ⟨by first | rfl | (simp; done) | (simp [*]; done), by repeat (first | exact Drawn0.refl _ | apply Drawn0.step)⟩
  · rw [if_neg c2] at H
    have c2b0 : (a0.toList == ([] : List UInt8)) = false := beq_eq_false_iff_ne.mpr c2
    (try (have c2b9 : (a0.toList.isEmpty) = false := by simpa using c2))
    have c2b1 : (a0.toList != ([] : List UInt8)) = true := bne_iff_ne.mpr c2
    obtain rfl := Option.some.inj H
    go_enter Try.func37, Try.ntmps37
    go_wp2
    go_ret
    exact ⟨by first | rfl | (simp; done) | (simp [*]; done), by repeat (first | exact Drawn0.refl _ | apply Drawn0.step)⟩

/-! ### none_honeycombcellRight: function 24 -/


-- NOT PRINTED: function 59 (abi_NoEscape)

-- NOT PRINTED: function 54 (strings_Builder_copyCheck)

-- NOT PRINTED: function 45 (strings_Builder_WriteByte)

-- NOT PRINTED: function 46 (strings_Builder_WriteString)

/-! ### none_honeycombcellnumber: function 55 -/


/-! ### none_honeycombcellput: function 47 -/


-- NOT PRINTED: function 48 (strings_Builder_Len)

-- NOT PRINTED: function 49 (strings_Builder_String)

/-! ### none_mathbitsMul32: function 60 -/


/-! ### none_mathbitsMul64: function 61 -/


/-! ### none_mathbitsMul: function 56 -/


/-! ### none_internalstringsliteHasPrefix: function 62 -/


/-! ### none_stringsHasPrefix: function 57 -/


-- NOT PRINTED: function 64 (bytealg_MakeNoZero)

-- NOT PRINTED: function 63 (strings_Builder_grow)

-- NOT PRINTED: function 58 (strings_Builder_Grow)

-- NOT PRINTED: function 50 (strings_Repeat)

/-! ### none_honeycombcellPut: function 40 -/


/-! ### none_honeycombcellreadertake: function 51 -/


/-! ### none_honeycombcellreadernum: function 41 -/


/-! ### none_honeycombcellreadercell: function 42 -/


/-! ### none_honeycombcellGet: function 33 -/


/-! ### none_honeycombbucketcells: function 22 -/


/-! ### none_slicesBinarySearchFunchoneycombapiCellhoneycombapiCellstring: function 34 -/


/-! ### none_honeycombbucketat: function 23 -/


/-! ### bucket_Find: function 9 -/
def toB (x : S25) : Go.Proofs.Ytcmepoakcffpaaa.CP.B := ⟨x.f0, x.f1, x.f2, x.f3⟩
def ofB (x : Go.Proofs.Ytcmepoakcffpaaa.CP.B) : S25 := ⟨x.k, x.v, x.bl, x.sz⟩
theorem toB_of (x : Go.Proofs.Ytcmepoakcffpaaa.CP.B) : toB (ofB x) = x := rfl
theorem ofB_to (x : S25) : ofB (toB x) = x := rfl
theorem k_toB {w : World} {x : S25} {cs : List Value} (h : k25.K w x cs) : Go.Proofs.Ytcmepoakcffpaaa.CP.kdB.K w (toB x) cs := k25_open h
theorem c_toB {w : World} {A : Option Addr} {n : Nat} {l : List (S25)} (h : Kd.C k25 w A n l) : Kd.C Go.Proofs.Ytcmepoakcffpaaa.CP.kdB w A n (l.map toB) := by
  obtain ⟨h1, h2, h3⟩ := h
  refine ⟨by rw [List.length_map]; exact h1, h2, fun hn => ?_⟩
  obtain ⟨ad, e, hc⟩ := h3 hn
  refine ⟨ad, e, fun j p hj => ?_⟩
  rw [List.getElem?_map] at hj
  obtain ⟨q, hq, rfl⟩ := Option.map_eq_some_iff.1 hj
  obtain ⟨c, hl, hK, hcc⟩ := hc j q hq
  exact ⟨c, hl, k_toB hK, hcc⟩
theorem r_ofB {e base : Nat} {ok : Nat → Prop} {w : World} {v : Value} {xs : List Go.Proofs.Ytcmepoakcffpaaa.CP.B} (h : Go.Proofs.Ytcmepoakcffpaaa.CP.kdB.R e w base ok v xs) : k25.R e w base ok v (xs.map ofB) := by
  obtain ⟨h0, inner, ho, hr1, hr2⟩ := h
  refine ⟨h0, inner, by rw [List.length_map]; exact ho, by rw [List.length_map]; exact hr1, fun j p hj => ?_⟩
  rw [List.getElem?_map] at hj
  obtain ⟨q, hq, rfl⟩ := Option.map_eq_some_iff.1 hj
  have h1 : (inner.drop (j * 4)).take 4 = Go.Proofs.Ytcmepoakcffpaaa.CP.cellsB q := hr2 j q hq
  show k25.M w base _ (ofB q) ((inner.drop (j * 4)).take 4)
  rw [h1]
  exact k25_mkM w base _ (ofB q)
def bucket_Find.f (a0_0 a0_1 a0_2 : Int) (a0_3 : ByteArray) (a1 : ByteArray) : Option (ByteArray × ByteArray × Int × Int × Bool) := some ((Go.Proofs.Ytcmepoakcffpaaa.CP.findD (Go.Proofs.Ytcmepoakcffpaaa.CP.cellsP ⟨a0_0, a0_1, a0_2, a0_3⟩).1 a1.data.toList).k, (Go.Proofs.Ytcmepoakcffpaaa.CP.findD (Go.Proofs.Ytcmepoakcffpaaa.CP.cellsP ⟨a0_0, a0_1, a0_2, a0_3⟩).1 a1.data.toList).v, (Go.Proofs.Ytcmepoakcffpaaa.CP.findD (Go.Proofs.Ytcmepoakcffpaaa.CP.cellsP ⟨a0_0, a0_1, a0_2, a0_3⟩).1 a1.data.toList).bl, (Go.Proofs.Ytcmepoakcffpaaa.CP.findD (Go.Proofs.Ytcmepoakcffpaaa.CP.cellsP ⟨a0_0, a0_1, a0_2, a0_3⟩).1 a1.data.toList).sz, (Go.Proofs.Ytcmepoakcffpaaa.CP.findB (Go.Proofs.Ytcmepoakcffpaaa.CP.cellsP ⟨a0_0, a0_1, a0_2, a0_3⟩).1 a1.data.toList).isSome)
theorem bucket_Find.calls (a0_0 a0_1 a0_2 : Int) (a0_3 : ByteArray) (a1 : ByteArray) (r1 r2 : ByteArray) (r3 r4 : Int) (r5 : Bool) (w : World) (h : bucket_Find.f a0_0 a0_1 a0_2 a0_3 a1 = some (r1, r2, r3, r4, r5)) :
    Calls Try.prog 9 #[.agg #[.int .i64 a0_0, .int .i64 a0_1, .int .i64 a0_2, .string a0_3], .string a1] w fun e w' => e = .returned (.tuple #[.agg #[.string r1, .string r2, .int .i64 r3, .int .i64 r4], .bool r5]) ∧ Below w.heap.size w w' := by
  have h1 := Option.some.inj h
  simp only [Prod.mk.injEq] at h1
  obtain ⟨rfl, rfl, rfl, rfl, rfl⟩ := h1
  exact (Go.Proofs.Ytcmepoakcffpaaa.CP.find_calls w ⟨a0_0, a0_1, a0_2, a0_3⟩ a1).mono fun e w' ⟨he, e1⟩ => ⟨he, e1.below0⟩


/-! ### none_slicesoverlapshoneycombapiCell: function 38 -/


/-! ### none_slicesReversehoneycombapiCellhoneycombapiCell: function 53 -/


/-! ### none_slicesrotateLefthoneycombapiCell: function 44 -/


/-! ### none_slicesrotateRighthoneycombapiCell: function 39 -/


/-! ### none_slicesInserthoneycombapiCellhoneycombapiCell: function 25 -/


/-! ### none_honeycombbucketwith: function 26 -/


/-! ### bucket_Set: function 10 -/
def bucket_Set.f (a0_0 a0_1 a0_2 : Int) (a0_3 : ByteArray) (a1_0 a1_1 : ByteArray) (a1_2 a1_3 : Int) : Option (Int × Int × Int × ByteArray × Int) := some ((Go.Proofs.Ytcmepoakcffpaaa.CP.setP ⟨a0_0, a0_1, a0_2, a0_3⟩ ⟨a1_0, a1_1, a1_2, a1_3⟩).1.kind, (Go.Proofs.Ytcmepoakcffpaaa.CP.setP ⟨a0_0, a0_1, a0_2, a0_3⟩ ⟨a1_0, a1_1, a1_2, a1_3⟩).1.depth, (Go.Proofs.Ytcmepoakcffpaaa.CP.setP ⟨a0_0, a0_1, a0_2, a0_3⟩ ⟨a1_0, a1_1, a1_2, a1_3⟩).1.next, (Go.Proofs.Ytcmepoakcffpaaa.CP.setP ⟨a0_0, a0_1, a0_2, a0_3⟩ ⟨a1_0, a1_1, a1_2, a1_3⟩).1.body, (Go.Proofs.Ytcmepoakcffpaaa.CP.setP ⟨a0_0, a0_1, a0_2, a0_3⟩ ⟨a1_0, a1_1, a1_2, a1_3⟩).2)
theorem bucket_Set.calls (a0_0 a0_1 a0_2 : Int) (a0_3 : ByteArray) (a1_0 a1_1 : ByteArray) (a1_2 a1_3 : Int) (r1 r2 r3 : Int) (r4 : ByteArray) (r5 : Int) (w : World) (h : bucket_Set.f a0_0 a0_1 a0_2 a0_3 a1_0 a1_1 a1_2 a1_3 = some (r1, r2, r3, r4, r5)) :
    Calls Try.prog 10 #[.agg #[.int .i64 a0_0, .int .i64 a0_1, .int .i64 a0_2, .string a0_3], .agg #[.string a1_0, .string a1_1, .int .i64 a1_2, .int .i64 a1_3]] w fun e w' => e = .returned (.tuple #[.agg #[.int .i64 r1, .int .i64 r2, .int .i64 r3, .string r4], .int .i64 r5]) ∧ Below w.heap.size w w' := by
  have h1 := Option.some.inj h
  simp only [Prod.mk.injEq] at h1
  obtain ⟨rfl, rfl, rfl, rfl, rfl⟩ := h1
  exact (Go.Proofs.Ytcmepoakcffpaaa.CP.set_calls w ⟨a0_0, a0_1, a0_2, a0_3⟩ ⟨a1_0, a1_1, a1_2, a1_3⟩).mono fun e w' ⟨he, e1⟩ => ⟨he, e1.below0⟩


/-! ### none_slicesDeletehoneycombapiCellhoneycombapiCell: function 27 -/


/-! ### bucket_Cut: function 11 -/
def bucket_Cut.f (a0_0 a0_1 a0_2 : Int) (a0_3 : ByteArray) (a1 : ByteArray) : Option (Int × Int × Int × ByteArray × Int) := some ((Go.Proofs.Ytcmepoakcffpaaa.CP.cutP ⟨a0_0, a0_1, a0_2, a0_3⟩ a1.data.toList).1.kind, (Go.Proofs.Ytcmepoakcffpaaa.CP.cutP ⟨a0_0, a0_1, a0_2, a0_3⟩ a1.data.toList).1.depth, (Go.Proofs.Ytcmepoakcffpaaa.CP.cutP ⟨a0_0, a0_1, a0_2, a0_3⟩ a1.data.toList).1.next, (Go.Proofs.Ytcmepoakcffpaaa.CP.cutP ⟨a0_0, a0_1, a0_2, a0_3⟩ a1.data.toList).1.body, (Go.Proofs.Ytcmepoakcffpaaa.CP.cutP ⟨a0_0, a0_1, a0_2, a0_3⟩ a1.data.toList).2)
theorem bucket_Cut.calls (a0_0 a0_1 a0_2 : Int) (a0_3 : ByteArray) (a1 : ByteArray) (r1 r2 r3 : Int) (r4 : ByteArray) (r5 : Int) (w : World) (h : bucket_Cut.f a0_0 a0_1 a0_2 a0_3 a1 = some (r1, r2, r3, r4, r5)) :
    Calls Try.prog 11 #[.agg #[.int .i64 a0_0, .int .i64 a0_1, .int .i64 a0_2, .string a0_3], .string a1] w fun e w' => e = .returned (.tuple #[.agg #[.int .i64 r1, .int .i64 r2, .int .i64 r3, .string r4], .int .i64 r5]) ∧ Below w.heap.size w w' := by
  have h1 := Option.some.inj h
  simp only [Prod.mk.injEq] at h1
  obtain ⟨rfl, rfl, rfl, rfl, rfl⟩ := h1
  exact (Go.Proofs.Ytcmepoakcffpaaa.CP.cut_calls w ⟨a0_0, a0_1, a0_2, a0_3⟩ a1).mono fun e w' ⟨he, e1⟩ => ⟨he, e1.below0⟩


/-! ### honeycombref1_Zeros: function 15 -/
def honeycombref1_Zeros.f (a0 : Int) : Option (ByteArray) := if 0 ≤ (mx a0 0) then (if (mx a0 0 : Int).toNat ≤ 281474976710656 then (some (strOfNums (List.replicate (mx a0 0 : Int).toNat 0))) else (none)) else (none)
set_option maxHeartbeats 8000000 in
set_option maxRecDepth 100000 in
theorem honeycombref1_Zeros.calls (a0 : Int) (r : ByteArray) (w : World) (h : honeycombref1_Zeros.f a0 = some r) :
    Calls Try.prog 15 #[.int .i64 a0] w fun e w' => e = .returned (.string r) ∧ Below w.heap.size w w' := by
  have HB := Aside0.mk (Below.refl w.heap.size w)
  have H : (if 0 ≤ (mx a0 0) then (if (mx a0 0 : Int).toNat ≤ 281474976710656 then (some (strOfNums (List.replicate (mx a0 0 : Int).toNat 0))) else (none)) else (none)) = some r := h
  clear h
  obtain ⟨ji2, hji2⟩ : ∃ j_ : Int, (mx a0 0) = j_ := ⟨_, rfl⟩
  replace H : (if 0 ≤ (ji2) then (if (ji2 : Int).toNat ≤ 281474976710656 then (some (strOfNums (List.replicate (ji2 : Int).toNat 0))) else (none)) else (none)) = some r := by first | (rw [hji2] at H; exact H) | (simp only [hji2] at H ⊢; exact H)
  (try (have hji2l : 0 ≤ ji2 := by (rw [← hji2]; unfold mx; (repeat' split) <;> omega)))
  (try (have hji2m : 0 ≤ ji2 := by omega))
  have hji2_ : (if a0 < 0 then 0 else a0) = ji2 := hji2
  by_cases c3 : 0 ≤ (ji2)
  · rw [if_pos c3] at H
    have c3b0 := eq_true c3
    have c3b1 : decide (0 ≤ (ji2)) = true := decide_eq_true c3
    clear c3
    by_cases c4 : (ji2 : Int).toNat ≤ 281474976710656
    · rw [if_pos c4] at H
      have c4b0 := eq_true c4
      have c4b1 : decide ((ji2 : Int).toNat ≤ 281474976710656) = true := decide_eq_true c4
      clear c4
      obtain ⟨y101, hy101⟩ : ∃ y_ : List Int, y_ = (List.replicate (ji2 : Int).toNat 0) := ⟨_, rfl⟩
      replace H : (some (strOfNums y101)) = some r := by first | (rw [hy101]; with_reducible exact H) | (have H2_ := (Option.bind_some _ _).symm.trans H; rw [hy101]; with_reducible exact H2_) | (have H2_ := (Option.bind_some _ _).symm.trans H; with_reducible exact H2_) | with_reducible exact H | (rw [hy101]; exact H) | exact H
      have Ny101 := Aside0.mk hy101
      clear hy101
      obtain rfl := Option.some.inj H
      go_enter Try.func15, Try.ntmps15
      go_wp2_with (first | ((with_reducible refine gate_dst (N := 5) rfl ?_); refine Kd.R_make (Kd.int .u8) _ 5 rfl (N := 5) rfl 60 _ _ rfl ji2 rfl rfl Try.underlying60 (.int .u8 0) 1 info5 rfl (by decide) (by omega) 0 (ok := fun _ => True) (okp := fun _ => True) rfl (fun _ hk => hk) trivial (of_decide_eq_true (by first | (with_reducible assumption) | assumption)) (Nat.le_trans (Nat.mul_le_mul_right _ (of_decide_eq_true (by first | (with_reducible assumption) | assumption) : ji2.toNat ≤ 281474976710656)) (by omega)) (Below.refl _ _) (Nat.le_refl _) ?_; intro v102 w5 ho6 hb hg_ hnew_; clear hg_ hnew_; (first | rw [← Ny101.out] at ho6 | (simp only [Int.reduceToNat] at ho6; rw [← Ny101.out] at ho6)); have n0_ := Aside0.mk (Kd.R_lower ho6 (below_size (by repeat (first | (with_reducible first | exact HB.out | apply below_alloc | apply pw_below_drewN | apply below_drew1) | exact HB.out)))); have n1_ := Aside0.mk (below_step (by repeat (first | (with_reducible first | exact HB.out | apply below_alloc | apply pw_below_drewN | apply below_drew1) | exact HB.out)) hb); clear HB; have HO103 := n0_; have HB := n1_; clear n0_ n1_; clear hb ho6; have hcv7 := own_string (P := Try.prog) Try.underlying60 Try.underlying5 Try.underlying9 (Kd.own_of_R HO103.out)))
      go_ret
      exact ⟨by first | rfl | (simp [errW_none, errW_some] <;> rfl) | (simp only [← hji2]; first | rfl | (simp [errW_none, errW_some] <;> rfl)) | (simp [*, errW_none, errW_some] <;> rfl), by repeat (first | (with_reducible first | exact HB.out | apply below_alloc | apply pw_below_drewN | apply below_drew1) | exact HB.out)⟩
    · rw [if_neg c4] at H
      exact absurd H (by simp)
  · rw [if_neg c3] at H
    exact absurd H (by simp)

/-! ### honeycomblaw8_Empty: function 12 -/
def honeycomblaw8_Empty.f (a0 : Int) (a1 : Int) (a2 : Int) : Option (Int × Int × Int × ByteArray) := (honeycombref1_Zeros.f 240).bind fun t105 => (some (a0, a1, a2, t105))
set_option maxHeartbeats 8000000 in
set_option maxRecDepth 100000 in
theorem honeycomblaw8_Empty.calls (a0 : Int) (a1 : Int) (a2 : Int) (r1 : Int) (r2 : Int) (r3 : Int) (r4 : ByteArray) (w : World) (h : honeycomblaw8_Empty.f a0 a1 a2 = some (r1, r2, r3, r4)) :
    Calls Try.prog 12 #[.int .i64 a0, .int .i64 a1, .int .i64 a2] w fun e w' => e = .returned (.agg #[.int .i64 r1, .int .i64 r2, .int .i64 r3, .string r4]) ∧ Below w.heap.size w w' := by
  have hu23 := Try.underlying23
  have HB := Aside0.mk (Below.refl w.heap.size w)
  have H : ((honeycombref1_Zeros.f 240).bind fun t105 => (some (a0, a1, a2, t105))) = some (r1, r2, r3, r4) := h
  clear h
  replace H := Option.bind_eq_some_iff.mp H
  obtain ⟨t105, A40, H⟩ := H
  replace H : (some (a0, a1, a2, t105)) = some (r1, r2, r3, r4) := H
  have A4 := Aside0.mk A40
  clear A40
  simp only [Option.some.injEq, Prod.mk.injEq] at H
  obtain ⟨rfl, rfl, rfl, rfl⟩ := H
  go_enter Try.func12, Try.ntmps12
  go_wp2_with (first | ((with_reducible refine gate_dst (N := 6) rfl ?_); refine box_event ?hg (N := 6) ?hd (cs := #[.int .i64 0, .int .i64 0, .int .i64 0, .string (⟨#[]⟩ : ByteArray)]) (t := 23) ?hr ?_; (case hd => rfl); (case hg => rfl); (case hr => first | (go_simp; done) | (go_simp; rfl)); intro gb104 hg w5 hbox hb; have n0_ := Aside0.mk (below_step (by repeat (first | (with_reducible first | exact HB.out | apply below_alloc | apply pw_below_drewN | apply below_drew1) | exact HB.out)) hb); have n1_ := Aside0.mk (hbox); have n2_ := Aside0.mk ((by rw [hg]; exact (below_size (by repeat (first | (with_reducible first | exact HB.out | apply below_alloc | apply pw_below_drewN | apply below_drew1) | exact HB.out))) : w.heap.size ≤ gb104)); have n3_ := Aside0.mk ((by rw [hg]; exact (below_size (by repeat (first | (with_reducible first | exact HB.out | apply below_alloc | apply pw_below_drewN | apply below_drew1) | exact HB.out))) : w.heap.size ≤ gb104)); clear HB; have HB := n0_; have BK104 := n1_; have GW104 := n2_; have GE104 := n3_; clear n0_ n1_ n2_ n3_; clear hb hbox hg) | ((with_reducible refine gate_callee (f := 15) rfl ?_); refine goesL_ (some 10) rfl rfl Try.func15 (by kernel_rfl) rfl #[.int .i64 240] rfl (by (try simp only [List.map_toArray, List.map_cons, List.map_nil]); first | done | rfl | (simp only [List.length_drop, List.length_take]; rfl)) ?_; (with_reducible refine (honeycombref1_Zeros.calls 240 t105 _ A4.out).mono ?_); rintro e w6 ⟨rfl, hb⟩; refine ⟨_, rfl, ?_⟩; have n0_ := Aside0.mk (blk_below (g := gb104) (o := .cells #[.int .i64 0, .int .i64 0, .int .i64 0, .string (⟨#[]⟩ : ByteArray)] 23 (0, 0)) (by (with_reducible repeat (first | refine blk_drewN ?_ _ | refine blk_drew ?_ | refine blk_alloc ?_ _)); exact BK104.out) hb); have n1_ := Aside0.mk (below_step (by repeat (first | (with_reducible first | exact HB.out | apply below_alloc | apply pw_below_drewN | apply below_drew1 | refine below_set ?_ GE104.out) | exact HB.out)) hb); clear BK104; clear HB; have BK104 := n0_; have HB := n1_; clear n0_ n1_; (try clear hb); (try clear hb2); (try clear hk); (try clear hi); have hcz7_0 : w6.cell? ⟨gb104, 0, none⟩ = some (.int .i64 0) := (blk_cell BK104.out 0).trans rfl; have hcz7_1 : w6.cell? ⟨gb104, 1, none⟩ = some (.int .i64 0) := (blk_cell BK104.out 1).trans rfl; have hcz7_2 : w6.cell? ⟨gb104, 2, none⟩ = some (.int .i64 0) := (blk_cell BK104.out 2).trans rfl; have hcz7_3 : w6.cell? ⟨gb104, 3, none⟩ = some (.string (⟨#[]⟩ : ByteArray)) := (blk_cell BK104.out 3).trans rfl; have hfz7_0 := blk_frozen BK104.out 0; have hfz7_1 := blk_frozen BK104.out 1; have hfz7_2 := blk_frozen BK104.out 2; have hfz7_3 := blk_frozen BK104.out 3))
  refine bodyPost_ret (results_cell_row rfl _ _ gb104 23 #[.int .i64 a0, .int .i64 a1, .int .i64 a2, .string t105] (0, 0) _ rfl (by (with_reducible repeat (first | refine blk_drewN ?_ _ | refine blk_drew ?_ | refine blk_alloc ?_ _)); refine blk_put (cs := #[.int .i64 a0, .int .i64 a1, .int .i64 a2, .string (⟨#[]⟩ : ByteArray)]) ?_ 3 _ rfl; (with_reducible repeat (first | refine blk_drewN ?_ _ | refine blk_drew ?_ | refine blk_alloc ?_ _)); refine blk_put (cs := #[.int .i64 a0, .int .i64 a1, .int .i64 0, .string (⟨#[]⟩ : ByteArray)]) ?_ 2 _ rfl; (with_reducible repeat (first | refine blk_drewN ?_ _ | refine blk_drew ?_ | refine blk_alloc ?_ _)); refine blk_put (cs := #[.int .i64 a0, .int .i64 0, .int .i64 0, .string (⟨#[]⟩ : ByteArray)]) ?_ 1 _ rfl; (with_reducible repeat (first | refine blk_drewN ?_ _ | refine blk_drew ?_ | refine blk_alloc ?_ _)); refine blk_put (cs := #[.int .i64 0, .int .i64 0, .int .i64 0, .string (⟨#[]⟩ : ByteArray)]) ?_ 0 _ rfl; (with_reducible repeat (first | refine blk_drewN ?_ _ | refine blk_drew ?_ | refine blk_alloc ?_ _)); exact BK104.out) Try.underlying23 rfl (by kernel_rfl)) rfl ?_
  exact ⟨by first | rfl | (simp [errW_none, errW_some] <;> rfl) | (simp [*, errW_none, errW_some] <;> rfl), by repeat (first | (with_reducible first | exact HB.out | apply below_alloc | apply pw_below_drewN | apply below_drew1 | refine below_set ?_ GE104.out) | exact HB.out)⟩

/-! ### none_honeycombcellSize: function 28 -/


/-! ### bucket_Room: function 14 -/
def bucket_Room.f (a0_0 a0_1 a0_2 : Int) (a0_3 : ByteArray) : Option (Int) := some (Go.Proofs.Ytcmepoakcffpaaa.CP.roomP ⟨a0_0, a0_1, a0_2, a0_3⟩)
theorem bucket_Room.calls (a0_0 a0_1 a0_2 : Int) (a0_3 : ByteArray) (r : Int) (w : World) (h : bucket_Room.f a0_0 a0_1 a0_2 a0_3 = some r) :
    Calls Try.prog 14 #[.agg #[.int .i64 a0_0, .int .i64 a0_1, .int .i64 a0_2, .string a0_3]] w fun e w' => e = .returned (.int .i64 r) ∧ Below w.heap.size w w' := by
  obtain rfl := Option.some.inj h
  exact (Go.Proofs.Ytcmepoakcffpaaa.CP.room_calls w ⟨a0_0, a0_1, a0_2, a0_3⟩).mono fun e w' ⟨he, e1⟩ => ⟨he, e1.below0⟩


/-! ### honeycomblaw8_alive: function 8 -/
def honeycomblaw8_alive.f : Option (Bool) := some true
theorem honeycomblaw8_alive.calls (r : Bool) (w : World) (h : honeycomblaw8_alive.f = some r) : Calls Try.prog 8 #[] w fun e w' => e = .returned (.bool r) ∧ Below w.heap.size w w' := by
  obtain rfl := Option.some.inj h
  exact (Go.Proofs.Ytcmepoakcffpaaa.CP.alive_calls w).mono fun e w' ⟨he, e1⟩ => ⟨he, e1.below0⟩


/-! ### honeycombref1_Key: function 13 -/
def honeycombref1_Key.f (a0 : ByteArray) : Option (Bool) := if (a0.size : Int) ≥ 1 then (some (decide ((a0.size : Int) ≤ 16))) else (some false)
set_option maxHeartbeats 8000000 in
set_option maxRecDepth 100000 in
theorem honeycombref1_Key.calls (a0 : ByteArray) (r : Bool) (w : World) (h : honeycombref1_Key.f a0 = some r) :
    Calls Try.prog 13 #[.string a0] w fun e w' => e = .returned (.bool r) ∧ Drawn0 w w' := by
  have H : (if (a0.size : Int) ≥ 1 then (some (decide ((a0.size : Int) ≤ 16))) else (some false)) = some r := h
  clear h
  by_cases c2 : (a0.size : Int) ≥ 1
  · rw [if_pos c2] at H
    have c2b0 : decide (1 ≤ (a0.size : Int)) = true := decide_eq_true c2
    have c2b1 : decide (1 ≤ a0.size) = true := decide_eq_true (by omega)
    clear c2
    obtain rfl := Option.some.inj H
    go_enter Try.func13, Try.ntmps13
    go_wp2
    go_ret
    exact ⟨by first | rfl | (simp; done) | (simp [*]; done), by repeat (first | exact Drawn0.refl _ | apply Drawn0.step)⟩
  · rw [if_neg c2] at H
    have c2b0 : decide (1 ≤ (a0.size : Int)) = false := decide_eq_false c2
    have c2b1 : decide (1 ≤ a0.size) = false := decide_eq_false (by omega)
    clear c2
    obtain rfl := Option.some.inj H
    go_enter Try.func13, Try.ntmps13
    go_wp2
    go_ret
    exact ⟨by first | rfl | (simp; done) | (simp [*]; done), by repeat (first | exact Drawn0.refl _ | apply Drawn0.step)⟩

/-! ### honeycombref1_CellSize: function 16 -/
def honeycombref1_CellSize.f (a0_0 : ByteArray) (a0_1 : ByteArray) (a0_2 : Int) (a0_3 : Int) : Option (Int) := if a0_2 = 0 then (some (wrap64 ((wrap64 (4 + (a0_0.size : Int))) + (a0_1.size : Int)))) else (some (wrap64 ((wrap64 (4 + (a0_0.size : Int))) + 2)))
set_option maxHeartbeats 8000000 in
set_option maxRecDepth 100000 in
theorem honeycombref1_CellSize.calls (a0_0 : ByteArray) (a0_1 : ByteArray) (a0_2 : Int) (a0_3 : Int) (r : Int) (w : World) (h : honeycombref1_CellSize.f a0_0 a0_1 a0_2 a0_3 = some r) :
    Calls Try.prog 16 #[.agg #[.string a0_0, .string a0_1, .int .i64 a0_2, .int .i64 a0_3]] w fun e w' => e = .returned (.int .i64 r) ∧ Below w.heap.size w w' := by
  have hu25 := Try.underlying25
  have HB := Aside0.mk (Below.refl w.heap.size w)
  have H : (if a0_2 = 0 then (some (wrap64 ((wrap64 (4 + (a0_0.size : Int))) + (a0_1.size : Int)))) else (some (wrap64 ((wrap64 (4 + (a0_0.size : Int))) + 2)))) = some r := h
  clear h
  by_cases c2 : a0_2 = 0
  · rw [if_pos c2] at H
    have c2b0 : (a0_2 == 0) = true := beq_iff_eq.mpr c2
    have c2b1 : (a0_2 != 0) = false := bne_eq_false_iff_eq.mpr c2
    clear c2
    obtain rfl := Option.some.inj H
    go_enter Try.func16, Try.ntmps16
    go_wp2_with (first | ((with_reducible refine gate_dst (N := 1) rfl ?_); refine box_event ?hg (N := 1) ?hd (cs := #[.string a0_0, .string a0_1, .int .i64 a0_2, .int .i64 a0_3]) (t := 25) ?hr ?_; (case hd => rfl); (case hg => rfl); (case hr => first | (go_simp; done) | (go_simp; rfl)); intro gb106 hg w3 hbox hb; have n0_ := Aside0.mk (below_step (by repeat (first | (with_reducible first | exact HB.out | apply below_alloc | apply pw_below_drewN | apply below_drew1) | exact HB.out)) hb); have n1_ := Aside0.mk (hbox); have n2_ := Aside0.mk ((by rw [hg]; exact (below_size (by repeat (first | (with_reducible first | exact HB.out | apply below_alloc | apply pw_below_drewN | apply below_drew1) | exact HB.out))) : w.heap.size ≤ gb106)); have n3_ := Aside0.mk ((by rw [hg]; exact (below_size (by repeat (first | (with_reducible first | exact HB.out | apply below_alloc | apply pw_below_drewN | apply below_drew1) | exact HB.out))) : w.heap.size ≤ gb106)); clear HB; have HB := n0_; have BK106 := n1_; have GW106 := n2_; have GE106 := n3_; clear n0_ n1_ n2_ n3_; clear hb hbox hg; have hcz4_0 : w3.cell? ⟨gb106, 0, none⟩ = some (.string a0_0) := (blk_cell BK106.out 0).trans rfl; have hcz4_1 : w3.cell? ⟨gb106, 1, none⟩ = some (.string a0_1) := (blk_cell BK106.out 1).trans rfl; have hcz4_2 : w3.cell? ⟨gb106, 2, none⟩ = some (.int .i64 a0_2) := (blk_cell BK106.out 2).trans rfl; have hcz4_3 : w3.cell? ⟨gb106, 3, none⟩ = some (.int .i64 a0_3) := (blk_cell BK106.out 3).trans rfl; have hfz4_0 := blk_frozen BK106.out 0; have hfz4_1 := blk_frozen BK106.out 1; have hfz4_2 := blk_frozen BK106.out 2; have hfz4_3 := blk_frozen BK106.out 3))
    go_ret
    exact ⟨by first | rfl | (simp [errW_none, errW_some] <;> rfl) | (simp [*, errW_none, errW_some] <;> rfl), by repeat (first | (with_reducible first | exact HB.out | apply below_alloc | apply pw_below_drewN | apply below_drew1 | refine below_set ?_ GE106.out) | exact HB.out)⟩
  · rw [if_neg c2] at H
    have c2b0 : (a0_2 == 0) = false := beq_eq_false_iff_ne.mpr c2
    have c2b1 : (a0_2 != 0) = true := bne_iff_ne.mpr c2
    obtain rfl := Option.some.inj H
    go_enter Try.func16, Try.ntmps16
    go_wp2_with (first | ((with_reducible refine gate_dst (N := 1) rfl ?_); refine box_event ?hg (N := 1) ?hd (cs := #[.string a0_0, .string a0_1, .int .i64 a0_2, .int .i64 a0_3]) (t := 25) ?hr ?_; (case hd => rfl); (case hg => rfl); (case hr => first | (go_simp; done) | (go_simp; rfl)); intro gb106 hg w5 hbox hb; have n0_ := Aside0.mk (below_step (by repeat (first | (with_reducible first | exact HB.out | apply below_alloc | apply pw_below_drewN | apply below_drew1) | exact HB.out)) hb); have n1_ := Aside0.mk (hbox); have n2_ := Aside0.mk ((by rw [hg]; exact (below_size (by repeat (first | (with_reducible first | exact HB.out | apply below_alloc | apply pw_below_drewN | apply below_drew1) | exact HB.out))) : w.heap.size ≤ gb106)); have n3_ := Aside0.mk ((by rw [hg]; exact (below_size (by repeat (first | (with_reducible first | exact HB.out | apply below_alloc | apply pw_below_drewN | apply below_drew1) | exact HB.out))) : w.heap.size ≤ gb106)); clear HB; have HB := n0_; have BK106 := n1_; have GW106 := n2_; have GE106 := n3_; clear n0_ n1_ n2_ n3_; clear hb hbox hg; have hcz6_0 : w5.cell? ⟨gb106, 0, none⟩ = some (.string a0_0) := (blk_cell BK106.out 0).trans rfl; have hcz6_1 : w5.cell? ⟨gb106, 1, none⟩ = some (.string a0_1) := (blk_cell BK106.out 1).trans rfl; have hcz6_2 : w5.cell? ⟨gb106, 2, none⟩ = some (.int .i64 a0_2) := (blk_cell BK106.out 2).trans rfl; have hcz6_3 : w5.cell? ⟨gb106, 3, none⟩ = some (.int .i64 a0_3) := (blk_cell BK106.out 3).trans rfl; have hfz6_0 := blk_frozen BK106.out 0; have hfz6_1 := blk_frozen BK106.out 1; have hfz6_2 := blk_frozen BK106.out 2; have hfz6_3 := blk_frozen BK106.out 3))
    go_ret
    exact ⟨by first | rfl | (simp [errW_none, errW_some] <;> rfl) | (simp [*, errW_none, errW_some] <;> rfl), by repeat (first | (with_reducible first | exact HB.out | apply below_alloc | apply pw_below_drewN | apply below_drew1 | refine below_set ?_ GE106.out) | exact HB.out)⟩

/-! ### bucket_Cells: function 17 -/
def bucket_Cells.f (a0_0 a0_1 a0_2 : Int) (a0_3 : ByteArray) : Option (List (S25)) := some ((Go.Proofs.Ytcmepoakcffpaaa.CP.cellsP ⟨a0_0, a0_1, a0_2, a0_3⟩).1.map ofB)
theorem bucket_Cells.calls (a0_0 a0_1 a0_2 : Int) (a0_3 : ByteArray) (r : List (S25)) (w : World) (h : bucket_Cells.f a0_0 a0_1 a0_2 a0_3 = some r) :
    Calls Try.prog 17 #[.agg #[.int .i64 a0_0, .int .i64 a0_1, .int .i64 a0_2, .string a0_3]] w fun e w' => ∃ v0_ : Value, e = .returned v0_ ∧ Kd.R k25 25 w' w.heap.size (fun _ => True) v0_ r ∧ Below w.heap.size w w' := by
  obtain rfl := Option.some.inj h
  exact (Go.Proofs.Ytcmepoakcffpaaa.CP.bcells_calls w ⟨a0_0, a0_1, a0_2, a0_3⟩).mono fun e w' ⟨v, he, hR, hB⟩ => ⟨v, he, r_ofB hR, hB⟩


end Go.Proofs.Ytcmepoakcffpaaa.M
