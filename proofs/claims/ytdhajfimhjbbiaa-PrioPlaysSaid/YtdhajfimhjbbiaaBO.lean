import Derived.Test.YtdhajfimhjbbiaaBG
import Derived.Test.YtdhajfimhjbbiaaProg
import Derived.BigRegion
import Derived.BigQuiet
import Derived.Deep.QuietTactic
import Derived.Deep.AppendLies
import Derived.ChangeAlike
import Derived.Outline
import Derived.WalkKit
import Derived.KernelRfl
import Derived.Deep.LoopGhost
import Derived.Deep.RegionLaw
import Derived.Test.YtdhajfimhjbbiaaWMore
import Derived.Test.YtdhajfimhjbbiaaWKept
import Derived.Test.YtdhajfimhjbbiaaLSep
namespace Go.Proofs.Ytdhajfimhjbbiaa.BO
open Go Go.RowKit Go.Proofs.YtdhajfimhjbbiaaW.PrintWords Go.Proofs.YtdhajfimhjbbiaaW.PrintLast Go.Proofs.YtdhajfimhjbbiaaW.PrintMore Go.Proofs.Ytdhajfimhjbbiaa.L
set_option linter.unusedVariables false
set_option linter.unusedSimpArgs false
/-! ### numbers: marks, copies -/
abbrev encI (x : Int) : List Value := [.int .i64 x]
theorem lenI (x : Int) : (encI x).length = 1 := rfl
theorem oneI (x : Int) : ∀ u ∈ encI x, u.oneCell' = true := by
  intro u hu
  rw [List.mem_singleton.1 hu]
  rfl
abbrev RI (v : Value) (xs : List Int) : HP := RwAt encI 1 3 v xs
theorem infoI0 : ∃ i0, Try.prog.info? 3 = some i0 ∧ i0.zero = some (.int .i64 0) ∧ i0.size = 1 ∧ i0.bytes = 8 := by
  have h : (Try.prog.info? 3).map (fun i => (i.zero, i.size, i.bytes)) = some (some (.int .i64 0), 1, 8) := by kernel_rfl
  obtain ⟨i0, hi, hz⟩ := Option.map_eq_some_iff.1 h
  simp only [Prod.mk.injEq] at hz
  exact ⟨i0, hi, hz.1, hz.2.1, hz.2.2⟩
/-- A number behind a row: the number's literal is newly made. -/
theorem ri_add {v : Value} {xs : List Int} {W : World} {F : Nat → Prop} (h : (RI v xs).on W F) (x : Int) (hm : xs.length < 800000) :
    ∃ A c W', (∀ ty, (Builtin.append_ #[36, 36] ty #[v, .slice (some ⟨W.heap.size, 0, none⟩) 1 1]).run Try.prog (W.alloc (.cells #[.int .i64 x] 3)) = .ok (.slice A (xs ++ [x]).length c) W') ∧ Upd W F (RI (.slice A (xs ++ [x]).length c) (xs ++ [x])) W' := by
  obtain ⟨i0, hi, hz, hs, hb⟩ := infoI0
  have h1 := HP.eff0 h ((Eff.refl (fun _ => False) W).alloc (.cells #[.int .i64 x] 3))
  have hsrc := lit_src (P := Try.prog) (enc := encI) (tx := 36) (size := i0.size) (zs := [x]) lenI oneI Try.underlying36 hs (heap_alloc_new W (.cells #[.int .i64 x] 3)) 1
  obtain ⟨A, c, W', hr, hU⟩ := RwAt.append (P := Try.prog) (t := 36) (tx := 36) (by decide) lenI oneI Try.underlying36 hi hz rfl hs (by omega) h1 hsrc (by simp only [List.length_singleton]; omega)
  exact ⟨A, c, W', hr, Upd.of ((Eff.refl (fun _ => False) W).alloc _) hU⟩
/-- Rows of numbers behind one another. -/
theorem ri_join {u v x : Value} {xs ys zs : List Int} {W : World} {F G : Nat → Prop} (h : (Gr encI 1 3 u xs v ys).on W F) (hx : Rw encI 1 3 x zs W G) (hm : ys.length + zs.length < 900000) :
    ∃ A c W', (∀ ty, (Builtin.append_ #[36, 36] ty #[v, x]).run Try.prog W = .ok (.slice A (ys ++ zs).length c) W') ∧ Upd W F (Gr encI 1 3 u xs (.slice A (ys ++ zs).length c) (ys ++ zs)) W' := by
  obtain ⟨i0, hi, hz, hs, hb⟩ := infoI0
  exact Gr.append (P := Try.prog) (t := 36) (tx := 36) (by decide) lenI oneI Try.underlying36 hi hz rfl hs (by omega) h (Rw.src lenI oneI Try.underlying36 hs hx) hm
theorem ri_C {v : Value} {xs : List Int} {W : World} {F : Nat → Prop} (h : Rw encI 1 3 v xs W F) : ∃ A c, v = .slice A xs.length c ∧ xs.length ≤ c ∧ Kd.C (Kd.int .i64) W A xs.length xs := Rw.C (d := Kd.int .i64) rfl lenI (fun _ _ _ _ => rfl) h
/-- Marks. -/
def markL (i from_ n : Nat) : List Int := (List.range n).map (fun t => -1000000 * (i : Int) - ((from_ + t : Nat) : Int) - 7)
theorem markL_len (i f n : Nat) : (markL i f n).length = n := by unfold markL; simp
theorem markL_succ (i f n : Nat) : markL i f (n + 1) = markL i f n ++ [-1000000 * (i : Int) - ((f + n : Nat) : Int) - 7] := by
  unfold markL
  rw [List.range_succ, List.map_append]
  rfl
theorem markL_more (i f n m : Nat) : markL i f n ++ markL i (f + n) m = markL i f (n + m) := by
  unfold markL
  rw [List.range_add, List.map_append, List.map_map]
  congr 1
  refine List.map_congr_left (fun t _ => ?_)
  simp only [Function.comp_apply, Nat.add_assoc]
theorem markL_get (i n j : Nat) (h : j < n) : (markL i 0 n)[j]? = some (-1000000 * (i : Int) - (j : Int) - 7) := by
  unfold markL
  rw [List.getElem?_map, List.getElem?_range h]
  simp
set_option maxHeartbeats 1600000 in
set_option maxRecDepth 100000 in
theorem mark_calls (i f n : Nat) (hi : i < 900) (hf : f + n < 700000) (W : World) : Calls Try.prog 78 #[.int .i64 i, .int .i64 f, .int .i64 n] W fun e w' => ∃ A c, e = .returned (.slice A n c) ∧ Aside0 (Upd W (fun _ => False) (RI (.slice A n c) (markL i f n)) w') := by
  go_enter Try.func78, Try.ntmps78
  go_wp2
  go_loopg [7, 8] n (fun k s7 s8 wr => ∃ (j : Nat) (A : Option Addr) (c : Nat), s7 = .slice A j c ∧ s8 = .int .i64 ((f : Int) + (j : Int)) ∧ j + k = n ∧ Aside0 (Upd W (fun _ => False) (RI (.slice A j c) (markL i f j)) wr))
  case atStart => exact ⟨0, none, 0, rfl, by simp, by omega, Aside0.mk (Upd.same (RwAt.nil W) (Eff.refl _ _))⟩
  case round =>
    obtain ⟨j, A, c, rfl, rfl, hj, U⟩ := hrel
    by_cases hz : j < n
    · have p1 : ((f : Int) + (j : Int) < (f : Int) + (n : Int)) = True := eq_true (by omega)
      have p2 : ((j : Int) < (n : Int)) = True := eq_true (by omega)
      obtain ⟨F, hF, eF, kF⟩ := U.out
      obtain ⟨A', c', W', hr, hU⟩ := ri_add hF (-1000000 * (i : Int) - ((f + j : Nat) : Int) - 7) (by rw [markL_len]; omega)
      rw [← markL_succ, markL_len] at hr hU
      have e1 : -1000000 * (i : Int) - ((f : Int) + (j : Int)) - 7 = -1000000 * (i : Int) - ((f + j : Nat) : Int) - 7 := by omega
      rw [← e1] at hr
      have HU := Aside0.mk (upd_go eF kF hU)
      have HJ := Aside0.mk (And.intro hz hj)
      have hi9 : (i : Int) < 900 := by omega
      have hj9 : (j : Int) < 700000 := by omega
      have hf9 : (f : Int) < 700000 := by omega
      clear hz hj U hF eF kF hU e1
      go_wp2_with (at_builtin; refine Lib.wpList_append_run _ rfl (.tmp 17) (.tmp 23) 36 36 rfl _ _ rfl rfl _ _ (hr _) ?_)
      go_roundg (gk - 1)
      case measure => have := HJ.out; omega
      case rel => exact ⟨j + 1, A', c', rfl, by simp; omega, by have := HJ.out; omega, HU⟩
    · have p1 : ((f : Int) + (j : Int) < (f : Int) + (n : Int)) = False := eq_false (by omega)
      have p2 : ((j : Int) < (n : Int)) = False := eq_false (by omega)
      obtain rfl : j = n := by omega
      clear hz hj
      go_wp2
      go_ret
      exact ⟨_, _, rfl, U⟩
set_option maxHeartbeats 1600000 in
set_option maxRecDepth 100000 in
theorem copy_calls (xs : List Int) (v : Value) (W : World) (G : Nat → Prop) (h : Rw encI 1 3 v xs W G) (hm : xs.length < 800000) : Calls Try.prog 29 #[v] W fun e w' => ∃ A c, e = .returned (.slice A xs.length c) ∧ Aside0 (Upd W (fun _ => False) (RI (.slice A xs.length c) xs) w') := by
  obtain ⟨A, c, W', hr, hU⟩ := ri_join (Gr.start (RwAt.nil W)) h (by simp only [List.length_nil]; omega)
  rw [List.nil_append] at hr hU
  obtain ⟨A1, c1, hv⟩ := h.form
  subst hv
  have HU := Aside0.mk (hU.imp (fun _ h => Gr.now h))
  clear hU h
  go_enter Try.func29, Try.ntmps29
  go_wp2_with (at_builtin; refine Lib.wpList_append_run _ rfl (.const (.slice none 0 0)) (.tmp 3) 36 36 rfl _ _ rfl rfl _ _ (hr _) ?_)
  go_ret
  exact ⟨_, _, rfl, HU⟩
set_option maxHeartbeats 1600000 in
set_option maxRecDepth 100000 in
theorem same_calls (xs : List Int) (A B : Option Addr) (c d : Nat) (W : World) (hA : Kd.C (Kd.int .i64) W A xs.length xs) (hB : Kd.C (Kd.int .i64) W B xs.length xs) (hl : xs.length < 900000) : Calls Try.prog 16 #[.slice A xs.length c, .slice B xs.length d] W fun e w' => e = .returned (.bool true) ∧ Drawn0 W w' := by
  have H := Aside0.mk (And.intro hA hB)
  clear hA hB
  go_enter Try.func16, Try.ntmps16
  go_wp2_with fail
  go_loopg [5] xs.length (fun k s5 wr => ∃ (i : Nat), s5 = .int .i64 (i : Int) ∧ i + k = xs.length ∧ Drawn0 W wr)
  case atStart => exact ⟨0, rfl, by omega, Drawn0.refl _⟩
  case round =>
    obtain ⟨i, rfl, hik, hw⟩ := hrel
    by_cases hi : i < xs.length
    · have p4 : ((i : Int) < (xs.length : Int)) = True := eq_true (by omega)
      have p5 : (0 : Int) ≤ (i : Int) := by omega
      have hii : i < 900000 := by omega
      obtain ⟨a1, rfl, x0⟩ := Kd.at_int (Kd.C_below H.out.1 ((Eff.refl (fun _ => False) _).drawn hw).below0) (i : Int) (by omega) (by omega)
      obtain ⟨b1, rfl, y0⟩ := Kd.at_int (Kd.C_below H.out.2 ((Eff.refl (fun _ => False) _).drawn hw).below0) (i : Int) (by omega) (by omega)
      rw [Int.toNat_natCast] at x0 y0
      have HW := Aside0.mk (And.intro hw hik)
      generalize rd xs (i : Int) = v at *
      clear hw hik
      go_wp2_with fail
      go_quiet (fail)
      go_wp2_with fail
      go_roundg (gk - 1)
      case measure => have := HW.out.2; omega
      case rel => exact ⟨i + 1, by simp, by have := HW.out.2; omega, HW.out.1.step _⟩
    · have p4 : ((i : Int) < (xs.length : Int)) = False := eq_false (by omega)
      have HW := Aside0.mk hw
      clear hw
      go_wp2_with fail
      go_ret
      exact ⟨rfl, HW.out⟩
end Go.Proofs.Ytdhajfimhjbbiaa.BO
namespace Go.Proofs.Ytdhajfimhjbbiaa.BO
open Go Go.RowKit Go.Proofs.YtdhajfimhjbbiaaW.PrintWords Go.Proofs.YtdhajfimhjbbiaaW.PrintLast Go.Proofs.YtdhajfimhjbbiaaW.PrintMore Go.Proofs.Ytdhajfimhjbbiaa.L
set_option linter.unusedVariables false
set_option linter.unusedSimpArgs false
/-! ### lists of numbers that are handed in: copied, lent, as they were -/
theorem c_src {W : World} {A : Option Addr} {xs : List Int} (c : Nat) (h : Kd.C (Kd.int .i64) W A xs.length xs) : Src Try.prog 1 36 (.slice A xs.length c) xs.length (flatE encI xs) W := by
  cases A with
  | none =>
    have h0 : xs = [] := by
      cases xs with
      | nil => rfl
      | cons x xs =>
        obtain ⟨ad, e, _⟩ := Kd.at_int h 0 (by omega) (by simp only [List.length_cons]; omega)
        cases e
    subst h0
    exact Src.ofNil (P := Try.prog) W Try.underlying36 c
  | some ad =>
    refine Src.ofSlice (P := Try.prog) W Try.underlying36 ad xs.length c (flatE encI xs) (by rw [flatE_length (k := 1) lenI]) (fun j u hu => ?_) (oneL oneI xs)
    have hj := (List.getElem?_eq_some_iff.1 hu).1
    rw [flatE_length (k := 1) lenI, Nat.mul_one] at hj
    obtain ⟨a1, e1, x0⟩ := Kd.at_int h (j : Int) (by omega) (by omega)
    injection e1 with e1
    subst e1
    have hfl : ∀ l : List Int, flatE encI l = l.map (fun x => .int .i64 x) := fun l => by
      unfold flatE
      induction l with
      | nil => rfl
      | cons a l ih => rw [List.flatMap_cons, ih]; rfl
    rw [hfl, List.getElem?_map, List.getElem?_eq_getElem hj] at hu
    injection hu with hu
    subst hu
    have e2 : rd xs (j : Int) = xs[j] := by unfold rd; simp [List.getD_eq_getElem?_getD, hj]
    rw [e2, Int.toNat_natCast] at x0
    exact x0
/-- append([]int(nil), l...) of a list that is handed in. -/
theorem ri_cloneC {W : World} {A : Option Addr} {xs : List Int} (c : Nat) (h : Kd.C (Kd.int .i64) W A xs.length xs) (hm : xs.length < 800000) :
    ∃ (B : Option Addr) (d : Nat) (W' : World), (∀ ty, (Builtin.append_ #[36, 36] ty #[.slice none 0 0, .slice A xs.length c]).run Try.prog W = .ok (.slice B xs.length d) W') ∧ Upd W (fun _ => False) (RI (.slice B xs.length d) xs) W' := by
  obtain ⟨i0, hi, hz, hs, hb⟩ := infoI0
  obtain ⟨B, d, W', hr, hU⟩ := RwAt.append (P := Try.prog) (t := 36) (tx := 36) (by decide) lenI oneI Try.underlying36 hi hz rfl hs (by omega) (RwAt.nil W) (by rw [hs]; exact c_src c h) (by simp only [List.length_nil]; omega)
  rw [List.nil_append] at hr hU
  exact ⟨B, d, W', hr, hU⟩
set_option maxHeartbeats 1600000 in
set_option maxRecDepth 100000 in
theorem copyC_calls (xs : List Int) (A : Option Addr) (c : Nat) (W : World) (h : Kd.C (Kd.int .i64) W A xs.length xs) (hm : xs.length < 800000) : Calls Try.prog 29 #[.slice A xs.length c] W fun e w' => ∃ B d, e = .returned (.slice B xs.length d) ∧ Aside0 (Upd W (fun _ => False) (RI (.slice B xs.length d) xs) w') := by
  obtain ⟨B, d, W', hr, hU⟩ := ri_cloneC c h hm
  have HU := Aside0.mk hU
  clear hU h
  go_enter Try.func29, Try.ntmps29
  go_wp2_with (at_builtin; refine Lib.wpList_append_run _ rfl (.const (.slice none 0 0)) (.tmp 3) 36 36 rfl _ _ rfl rfl _ _ (hr _) ?_)
  go_ret
  exact ⟨_, _, rfl, HU⟩
set_option maxHeartbeats 1600000 in
set_option maxRecDepth 100000 in
theorem lent_calls (xs : List Int) (A : Option Addr) (c : Nat) (W : World) (h : Kd.C (Kd.int .i64) W A xs.length xs) (hm : xs.length < 700000) : Calls Try.prog 19 #[.slice A xs.length c] W fun e w' => ∃ B d, e = .returned (.slice B xs.length d) ∧ xs.length < d ∧ Aside0 (Upd W (fun _ => False) (RI (.slice B (xs.length + 1) d) (xs ++ [-77])) w') := by
  have CC := copyC_calls xs A c W h (by omega)
  have NX : ∀ w' B d, Upd W (fun _ => False) (RI (.slice B xs.length d) xs) w' → ∃ (q : Option Addr × Nat) (W3 : World), (∀ ty, (Builtin.append_ #[36, 36] ty #[.slice B xs.length d, .slice (some ⟨w'.heap.size, 0, none⟩) 1 1]).run Try.prog (w'.alloc (.cells #[.int .i64 (-77)] 3)) = .ok (.slice q.1 (xs.length + 1) q.2) W3) ∧ (∃ g, q.1 = some g) ∧ xs.length + 1 ≤ q.2 ∧ Aside0 (Upd W (fun _ => False) (RI (.slice q.1 (xs.length + 1) q.2) (xs ++ [-77])) W3) := by
    intro w' B d hU
    obtain ⟨F, hF, eF, kF⟩ := hU
    obtain ⟨A', c', W', hr, hU2⟩ := ri_add hF (-77) (by omega)
    rw [List.length_append, List.length_singleton] at hr hU2
    obtain ⟨F3, h3, _, _⟩ := id hU2
    rcases h3.1 with ⟨_, h0⟩ | ⟨g, cap, hv, hX, _⟩
    · exact absurd h0 (by simp)
    · injection hv with e1 e2 e3
      have := hX.len
      rw [List.length_append, List.length_singleton] at this
      exact ⟨(A', c'), W', hr, ⟨_, e1⟩, by show _ ≤ c'; omega, Aside0.mk (upd_go eF kF hU2)⟩
  clear h
  go_enter Try.func19, Try.ntmps19
  go_wp2_with (first
    | (go_at_call 29; refine CC.mono ?_; rintro e w' ⟨B, d, rfl, U1⟩; obtain ⟨⟨q1, q2⟩, W3, hr, ⟨g, hg⟩, hq, O6⟩ := NX _ _ _ U1.out; dsimp only at hr hg hq O6; subst hg; have hq2 : (xs.length : Int) ≤ (q2 : Int) := by omega)
    | (at_builtin; refine Lib.wpList_append_run _ rfl (.tmp 4) (.tmp 5) 36 36 rfl _ _ rfl rfl _ _ (hr _) ?_))
  go_ret
  exact ⟨_, _, rfl, by omega, O6⟩
theorem ri_cell' {v : Value} {xs : List Int} {W : World} {F : Nat → Prop} (h : Rw encI 1 3 v xs W F) (i : Nat) (hi : i < xs.length) : ∃ g c, v = .slice (some ⟨g, 0, none⟩) xs.length c ∧ xs.length ≤ c ∧ W.cell? ⟨g, i, none⟩ = some (.int .i64 xs[i]) := by
  rcases h with ⟨_, rfl⟩ | ⟨g, cap, rfl, hX, _⟩
  · exact absurd hi (Nat.not_lt_zero _)
  · refine ⟨g, cap, rfl, hX.len, hX.cells i _ ?_⟩
    have hfl : ∀ l : List Int, flatE encI l = l.map (fun x => .int .i64 x) := fun l => by
      unfold flatE
      induction l with
      | nil => rfl
      | cons a l ih => rw [List.flatMap_cons, ih]; rfl
    rw [hfl, List.getElem?_map, List.getElem?_eq_getElem hi]
    rfl
set_option maxHeartbeats 1600000 in
set_option maxRecDepth 100000 in
theorem stays_calls (xs : List Int) (A B : Option Addr) (c d : Nat) (W : World) (F : Nat → Prop) (h : Rw encI 1 3 (.slice B (xs.length + 1) d) (xs ++ [-77]) W F) (hA : Kd.C (Kd.int .i64) W A xs.length xs) (hm : xs.length < 700000) : Calls Try.prog 22 #[.slice B xs.length d, .slice A xs.length c] W fun e w' => e = .returned (.bool true) ∧ Drawn0 W w' := by
  obtain ⟨B1, k1, u1, hk, C1⟩ := ri_C h
  injection u1 with u1 u2 u3
  subst u1 u3
  have C2 := Kd.C_take C1 (m := xs.length) (by simp)
  rw [List.take_left] at C2
  have CS := same_calls xs B A d c W C2 hA (by omega)
  obtain ⟨g, c2, e2, hc2, x0⟩ := ri_cell' h xs.length (by simp)
  injection e2 with e2 e3 e4
  subst e2 e4
  have e5 : (xs ++ [(-77 : Int)])[xs.length]'(by simp) = -77 := by simp
  rw [e5] at x0
  have p1 : IntKind.i64.wrap ((xs.length : Int) + 1) = (xs.length : Int) + 1 := by rw [IntKind.wrap_i64]; omega
  have p2 : wrap64 ((xs.length : Int) + 1) = (xs.length : Int) + 1 := by unfold wrap64; omega
  have hk1 : xs.length + 1 ≤ d := by simpa using hk
  have hk2 : (xs.length : Int) + 1 ≤ (d : Int) := by omega
  have HX : ∀ w', Drawn0 W w' → w'.cell? ⟨g, xs.length, none⟩ = some (.int .i64 (-77)) := fun w' dn => ((Eff.refl (fun _ => False) W).drawn dn |>.cell (World.block_lt_of_cell? W _ x0) id).trans x0
  have HX2 := Aside0.mk HX
  clear h C1 C2 hA u2 e3 hk e5 hc2 HX x0
  go_enter Try.func22, Try.ntmps22
  go_wp2_with (go_at_call 16; refine CS.mono ?_; rintro e w' ⟨rfl, dn⟩; have x1 := HX2.out _ dn)
  go_ret
  exact ⟨rfl, dn⟩
end Go.Proofs.Ytdhajfimhjbbiaa.BO
namespace Go.Proofs.Ytdhajfimhjbbiaa.BO
open Go Go.RowKit Go.Proofs.YtdhajfimhjbbiaaW.PrintWords Go.Proofs.YtdhajfimhjbbiaaW.PrintLast Go.Proofs.YtdhajfimhjbbiaaW.PrintMore Go.Proofs.Ytdhajfimhjbbiaa.L
set_option linter.unusedVariables false
set_option linter.unusedSimpArgs false
/-! ### the document's Sorted: numbers falling, put in one by one -/
/-- Falling up to place i. -/
def Fall (ys : List Int) (i : Nat) : Prop := ∀ p q, p < q → q < i → ys.getD q 0 ≤ ys.getD p 0
/-- .. but for place k, up to place i. -/
def FallBut (ys : List Int) (i k : Nat) : Prop := ∀ p q, p < q → q ≤ i → q ≠ k → ys.getD q 0 ≤ ys.getD p 0
theorem Fall.but {ys : List Int} {i : Nat} (h : Fall ys i) : FallBut ys i i := fun p q h1 h2 h3 => h p q h1 (by omega)
theorem FallBut.done0 {ys : List Int} {i : Nat} (h : FallBut ys i 0) : Fall ys (i + 1) := fun p q h1 h2 => h p q h1 (by omega) (by omega)
theorem FallBut.done {ys : List Int} {i m : Nat} (hm : m + 1 ≤ i) (h : FallBut ys i (m + 1)) (hle : ys.getD (m + 1) 0 ≤ ys.getD m 0) : Fall ys (i + 1) := fun p q h1 h2 => by
  by_cases hq : q = m + 1
  · subst hq
    by_cases hp : p = m
    · subst hp; exact hle
    · have := h p m (by omega) (by omega) (by omega)
      omega
  · exact h p q h1 (by omega) hq
def swp (ys : List Int) (m : Nat) : List Int := (ys.set (m + 1) (ys.getD m 0)).set m (ys.getD (m + 1) 0)
theorem swp_len (ys : List Int) (m : Nat) : (swp ys m).length = ys.length := by simp [swp]
theorem swp_get (ys : List Int) (m : Nat) (hm : m + 1 < ys.length) (p : Nat) : (swp ys m).getD p 0 = if p = m then ys.getD (m + 1) 0 else if p = m + 1 then ys.getD m 0 else ys.getD p 0 := by
  unfold swp
  rw [List.getD_eq_getElem?_getD, List.getElem?_set]
  by_cases h1 : m = p
  · subst h1
    rw [if_pos rfl, if_pos (by rw [List.length_set]; omega), if_pos rfl]
    rfl
  · rw [if_neg h1, if_neg (fun e => h1 e.symm), List.getElem?_set]
    by_cases h2 : m + 1 = p
    · subst h2
      rw [if_pos rfl, if_pos hm, if_pos rfl]
      rfl
    · rw [if_neg h2, if_neg (fun e => h2 e.symm), List.getD_eq_getElem?_getD]
theorem swp_perm (ys : List Int) (m : Nat) (hm : m + 1 < ys.length) : (swp ys m).Perm ys := by
  have h := @List.set_set_perm _ ys (m + 1) m hm (by omega)
  unfold swp
  have e1 : ys.getD m 0 = ys[m] := by simp [List.getD_eq_getElem?_getD, show m < ys.length by omega]
  have e2 : ys.getD (m + 1) 0 = ys[m + 1] := by simp [List.getD_eq_getElem?_getD, hm]
  rw [e1, e2]
  exact h
theorem FallBut.swp {ys : List Int} {i m : Nat} (hi : i < ys.length) (hm : m + 1 ≤ i) (h : FallBut ys i (m + 1)) (hlt : ys.getD m 0 < ys.getD (m + 1) 0) : FallBut (swp ys m) i m := fun p q h1 h2 h3 => by
  rw [swp_get ys m (by omega), swp_get ys m (by omega)]
  have a1 := h p q h1 h2
  have a2 : p < m → ys.getD m 0 ≤ ys.getD p 0 := fun hp => h p m hp (by omega) (by omega)
  have a3 : m < q → q ≠ m + 1 → ys.getD q 0 ≤ ys.getD m 0 := fun h4 h5 => h m q h4 h2 h5
  have a4 : m + 1 < q → ys.getD q 0 ≤ ys.getD (m + 1) 0 := fun h4 => h (m + 1) q h4 h2 (by omega)
  rw [if_neg h3]
  by_cases hq : q = m + 1
  · rw [if_pos hq]
    by_cases hp : p = m
    · rw [if_pos hp]; omega
    · rw [if_neg hp, if_neg (by omega)]
      exact a2 (by omega)
  · rw [if_neg hq]
    by_cases hp : p = m
    · rw [if_pos hp]; exact a4 (by omega)
    · rw [if_neg hp]
      by_cases hp2 : p = m + 1
      · rw [if_pos hp2]; exact a3 (by omega) hq
      · rw [if_neg hp2]; exact a1 hq
theorem Fall.pairwise {ys : List Int} (h : Fall ys ys.length) : ys.Pairwise (fun a b => b ≤ a) := by
  rw [List.pairwise_iff_getElem]
  intro i j hi hj hij
  have := h i j hij hj
  simpa [List.getD_eq_getElem?_getD, hi, hj] using this
/-- Two neighbours change places. -/
theorem swap_upd {W wr : World} {B : Option Addr} {n d : Nat} {ys : List Int} (hU : Upd W (fun _ => False) (RI (.slice B n d) ys) wr) (m : Nat) (hm : m + 1 < ys.length) : ∃ g, B = some ⟨g, 0, none⟩ ∧ wr.cell? ⟨g, m + 1, none⟩ = some (.int .i64 (ys.getD (m + 1) 0)) ∧ wr.cell? ⟨g, m, none⟩ = some (.int .i64 (ys.getD m 0)) ∧ wr.frozen? ⟨g, m + 1, none⟩ = false ∧ wr.frozen? ⟨g, m, none⟩ = false ∧
    Upd W (fun _ => False) (RI (.slice B n d) (swp ys m)) ((wr.setCell ⟨g, m + 1, none⟩ (.int .i64 (ys.getD m 0))).setCell ⟨g, m, none⟩ (.int .i64 (ys.getD (m + 1) 0))) := by
  obtain ⟨F, hF, eF, kF⟩ := hU
  obtain ⟨g, c, hv, _, x1⟩ := ri_cell' hF.1 (m + 1) hm
  obtain ⟨g2, c2, hv2, _, x2⟩ := ri_cell' hF.1 m (by omega)
  injection hv with e1 e2 e3
  injection hv2 with e4 e5 e6
  subst e1
  injection e4 with e4
  injection e4 with e4
  subst e4
  obtain ⟨g3, c3, hv3, _, _, f1, U1⟩ := RwAt.put (f := fun x => Value.int .i64 x) hF (m + 1) hm (ys.getD m 0)
  injection hv3 with e7 e8 e9
  injection e7 with e7
  injection e7 with e7
  subst e7
  obtain ⟨F1, h1, ef1, k1⟩ := U1
  obtain ⟨g4, c4, hv4, _, _, f2, U2⟩ := RwAt.put (f := fun x => Value.int .i64 x) h1 m (by rw [List.length_set]; omega) (ys.getD (m + 1) 0)
  injection hv4 with e10 e11 e12
  injection e10 with e10
  injection e10 with e10
  subst e10
  have e1' : ys.getD m 0 = ys[m] := by simp [List.getD_eq_getElem?_getD, show m < ys.length by omega]
  have e2' : ys.getD (m + 1) 0 = ys[m + 1] := by simp [List.getD_eq_getElem?_getD, hm]
  refine ⟨g, rfl, by rw [x1, e2'], by rw [x2, e1'], f1, by simpa [World.frozen?_setCell] using f2, ?_⟩
  exact upd_go eF kF (upd_go ef1 k1 U2)
set_option maxHeartbeats 3200000 in
set_option maxRecDepth 100000 in
theorem refsort_calls (xs : List Int) (A : Option Addr) (c : Nat) (W : World) (h : Kd.C (Kd.int .i64) W A xs.length xs) (hm : xs.length < 700000) : Calls Try.prog 21 #[.slice A xs.length c] W fun e w' => ∃ B d ys, e = .returned (.slice B xs.length d) ∧ Aside0 (ys.Perm xs ∧ ys.Pairwise (fun a b => b ≤ a) ∧ Upd W (fun _ => False) (RI (.slice B xs.length d) ys) w') := by
  obtain ⟨B, d, W', hr, hU⟩ := ri_cloneC c h (by omega)
  have HU := Aside0.mk hU
  clear hU h
  go_enter Try.func21, Try.ntmps21
  go_wp2_with (at_builtin; refine Lib.wpList_append_run _ rfl (.const (.slice none 0 0)) (.tmp 6) 36 36 rfl _ _ rfl rfl _ _ (hr _) ?_)
  clear hr
  go_loopg [4] xs.length (fun k s4 wr => ∃ (i : Nat) (ys : List Int), s4 = .int .i64 (i : Int) ∧ xs.length ≤ i + k ∧ 1 ≤ i ∧ i < 800000 ∧ Aside0 (ys.Perm xs ∧ Fall ys i ∧ Upd W (fun _ => False) (RI (.slice B xs.length d) ys) wr))
  case atStart => exact ⟨1, xs, rfl, by omega, Nat.le_refl _, by decide, Aside0.mk ⟨List.Perm.refl _, fun p q h1 h2 => by omega, HU.out⟩⟩
  case round =>
    clear HU
    rename Nat => gq
    obtain ⟨i, ys, rfl, hik, hi1, hi8, S1⟩ := hrel
    rename World => wo
    by_cases hi : i < xs.length
    · have p4 : ((i : Int) < (xs.length : Int)) = True := eq_true (by omega)
      have T1 := Aside0.mk (And.intro hik (And.intro hi1 hi))
      clear hik hi1 hi
      go_wp2_with fail
      go_loopg [5] (i + 1) (fun k s5 wr => ∃ (t : Nat) (ys : List Int), s5 = .int .i64 (t : Int) ∧ t + 1 = k ∧ t ≤ i ∧ Aside0 (ys.Perm xs ∧ FallBut ys i t ∧ Upd W (fun _ => False) (RI (.slice B xs.length d) ys) wr))
      case atStart => exact ⟨i, ys, rfl, rfl, Nat.le_refl _, Aside0.mk ⟨S1.out.1, S1.out.2.1.but, S1.out.2.2⟩⟩
      case round =>
        clear S1
        obtain ⟨t, zs, rfl, htk, hti, Z1⟩ := hrel
        have hzl : zs.length = xs.length := Z1.out.1.length_eq
        cases t with
        | zero =>
          have p5 : (((0 : Nat) : Int) > 0) = False := eq_false (by omega)
          have R1 := Aside0.mk (And.intro Z1.out.1 (And.intro Z1.out.2.1.done0 Z1.out.2.2))
          clear Z1 hzl htk hti
          go_wp2_with fail
          go_quiet (fail)
          go_wp2_with fail
          go_roundg (gq - 1)
          case measure => have := T1.out; omega
          case rel => exact ⟨i + 1, zs, by simp, by have := T1.out; omega, by omega, by have := T1.out; omega, Aside0.mk ⟨R1.out.1, R1.out.2.1, R1.out.2.2.after ((Eff.refl _ wr).drewN nq)⟩⟩
        | succ m =>
          have hml : m + 1 < zs.length := by have := T1.out; omega
          obtain ⟨g, rfl, x1, x2, f1, f2, U2⟩ := swap_upd Z1.out.2.2 m hml
          have em : ((m + 1 : Nat) : Int) = (m : Int) + 1 := by omega
          rw [em]
          have p5 : ((m : Int) + 1 > 0) = True := eq_true (by omega)
          have p5' : (0 : Int) ≤ (m : Int) + 1 := by omega
          have p5n : ((m : Int) + 1).toNat = m + 1 := by omega
          have p6 : IntKind.i64.wrap ((m : Int) + 1 - 1) = (m : Int) := by rw [IntKind.wrap_i64]; omega
          have p7 : wrap64 ((m : Int) + 1 - 1) = (m : Int) := by unfold wrap64; omega
          have p9 : (m : Int) + 1 < (xs.length : Int) := by omega
          have p9' : (m : Int) < (xs.length : Int) := by omega
          clear em
          by_cases hgt : zs.getD (m + 1) 0 > zs.getD m 0
          · have p8 : (zs.getD (m + 1) 0 > zs.getD m 0) = True := eq_true hgt
            have R2 := Aside0.mk (And.intro ((swp_perm zs m hml).trans Z1.out.1) (Z1.out.2.1.swp (by have := T1.out; omega) hti hgt))
            have US := Aside0.mk (fun nq => swap_upd (Z1.out.2.2.after ((Eff.refl _ wr).drewN nq)) m hml)
            have pm : IntKind.i64.wrap (m : Int) = (m : Int) := by rw [IntKind.wrap_i64]; omega
            generalize zs.getD (m + 1) 0 = y1 at *
            generalize zs.getD m 0 = y2 at *
            have T2 := Aside0.mk (And.intro htk (And.intro hti hml))
            have hm9 : m < 800000 := by have := T1.out; omega
            clear Z1 hzl htk hti hml U2 hgt
            go_wp2_with fail
            go_quiet (fail)
            go_wp2_with fail
            obtain ⟨g', eg, z1, z2, h1, h2, U2⟩ := US.out (nq + 1)
            injection eg with eg
            injection eg with eg
            subst eg
            have U3 := Aside0.mk U2
            clear U2 US
            have v1 : (wr.drewN (nq + 1)).cell? ⟨g, m + 1, none⟩ = some (.int .i64 y1) := z1
            have v2 : (wr.drewN (nq + 1)).cell? ⟨g, m, none⟩ = some (.int .i64 y2) := z2
            have v3 : ((wr.drewN (nq + 1)).setCell ⟨g, m + 1, none⟩ (.int .i64 y2)).cell? ⟨g, m, none⟩ = some (.int .i64 y2) := by
              rw [World.cell?_setCell_other]
              · exact z2
              · intro e
                injection e with _ e
                omega
            have w1 : (wr.drewN (nq + 1)).frozen? ⟨g, m + 1, none⟩ = false := h1
            have w2 : (wr.drewN (nq + 1)).frozen? ⟨g, m, none⟩ = false := h2
            go_region_law (fail)
            all_goals go_wp2_with fail
            all_goals go_roundg (gk - 1)
            all_goals first
              | (have := T2.out; omega)
              | exact ⟨m, swp zs m, by simp, by have := T2.out; omega, by have := T2.out; omega, Aside0.mk ⟨R2.out.1, R2.out.2, U3.out⟩⟩
          · have p8 : (zs.getD (m + 1) 0 > zs.getD m 0) = False := eq_false hgt
            have R1 := Aside0.mk (And.intro Z1.out.1 (And.intro (Z1.out.2.1.done hti (by omega)) Z1.out.2.2))
            generalize zs.getD (m + 1) 0 = y1 at *
            generalize zs.getD m 0 = y2 at *
            have hm9 : m < 800000 := by have := T1.out; omega
            clear Z1 hzl htk hti hml U2 hgt
            go_wp2_with fail
            go_quiet (fail)
            go_wp2_with fail
            go_roundg (gq - 1)
            case measure => have := T1.out; omega
            case rel => exact ⟨i + 1, zs, by simp, by have := T1.out; omega, by omega, by have := T1.out; omega, Aside0.mk ⟨R1.out.1, R1.out.2.1, R1.out.2.2.after ((Eff.refl _ wr).drewN nq)⟩⟩
    · have p4 : ((i : Int) < (xs.length : Int)) = False := eq_false (by omega)
      have hF : Fall ys ys.length := fun p q h1 h2 => S1.out.2.1 p q h1 (by have := S1.out.1.length_eq; omega)
      have R1 := Aside0.mk (And.intro S1.out.1 (And.intro hF.pairwise S1.out.2.2))
      clear S1 hF hik hi1 hi
      go_wp2_with fail
      go_ret
      exact ⟨_, _, ys, rfl, R1⟩
end Go.Proofs.Ytdhajfimhjbbiaa.BO
