import Derived.Test.YtcmepoakcffpaaaBLists
import Derived.Test.YtcmepoakcffpaaaCHash
import Derived.Deep.RegionHeld3
import Derived.Test.YtcmepoakcffpaaaProg
import Derived.BigRegion
import Derived.BigQuiet
import Derived.Deep.QuietTactic
import Derived.Deep.AppendLies
import Derived.ChangeAlike
import Derived.Outline
import Derived.WalkKit
import Derived.KernelRfl
import Derived.Deep.LoopGhost
import Derived.Deep.RegionLaw
import Derived.Test.YtcmepoakcffpaaaWMore
import Derived.Test.YtcmepoakcffpaaaWKept
import Derived.Test.YtcmepoakcffpaaaLSep
namespace Go.Proofs.Ytcmepoakcffpaaa.SP
open Go Go.RowKit Go.Proofs.YtcmepoakcffpaaaW.PrintWords Go.Proofs.YtcmepoakcffpaaaW.PrintLast Go.Proofs.YtcmepoakcffpaaaW.PrintMore Go.Proofs.Ytcmepoakcffpaaa.L
set_option linter.unusedVariables false
set_option linter.unusedSimpArgs false
/-! ### cells parted by a bit: where they go -/
abbrev Ce := ByteArray × ByteArray × Int × Int
abbrev encC (c : Ce) : List Value := [.string c.1, .string c.2.1, .int .i64 c.2.2.1, .int .i64 c.2.2.2]
theorem lenC (x : Ce) : (encC x).length = 4 := rfl
theorem oneC (x : Ce) : ∀ u ∈ encC x, u.oneCell' = true := by
  intro u hu
  simp only [encC, List.mem_cons, List.not_mem_nil, or_false] at hu
  rcases hu with rfl | rfl | rfl | rfl <;> rfl
abbrev RC (v : Value) (xs : List Ce) : HP := RwAt encC 4 25 v xs
theorem infoC0 : ∃ i0, Try.prog.info? 25 = some i0 ∧ i0.zero = some (.agg #[.string ⟨#[]⟩, .string ⟨#[]⟩, .int .i64 0, .int .i64 0]) ∧ i0.size = 4 ∧ i0.bytes = 48 := by
  have h : (Try.prog.info? 25).map (fun i => (i.zero, i.size, i.bytes)) = some (some (.agg #[.string ⟨#[]⟩, .string ⟨#[]⟩, .int .i64 0, .int .i64 0]), 4, 48) := by kernel_rfl
  obtain ⟨i0, hi, hz⟩ := Option.map_eq_some_iff.1 h
  simp only [Prod.mk.injEq] at hz
  exact ⟨i0, hi, hz.1, hz.2.1, hz.2.2⟩
theorem rc_add {v : Value} {xs : List Ce} {W : World} {F : Nat → Prop} (h : (RC v xs).on W F) (x : Ce) (hm : xs.length < 800000) :
    ∃ (r : Option Addr × Nat) (W' : World), (∀ ty, (Builtin.append_ #[40, 40] ty #[v, .slice (some ⟨W.heap.size, 0, none⟩) 1 1]).run Try.prog (W.alloc (.cells #[.string x.1, .string x.2.1, .int .i64 x.2.2.1, .int .i64 x.2.2.2] 25)) = .ok (.slice r.1 (xs.length + 1) r.2) W') ∧ Upd W F (RC (.slice r.1 (xs.length + 1) r.2) (xs ++ [x])) W' := by
  obtain ⟨i0, hi, hz, hsz, hb⟩ := infoC0
  have h1 := HP.eff0 h ((Eff.refl (fun _ => False) W).alloc (.cells #[.string x.1, .string x.2.1, .int .i64 x.2.2.1, .int .i64 x.2.2.2] 25))
  have hsrc := lit_src (P := Try.prog) (enc := encC) (tx := 40) (size := i0.size) (zs := [x]) lenC oneC Try.underlying40 hsz (heap_alloc_new W (.cells #[.string x.1, .string x.2.1, .int .i64 x.2.2.1, .int .i64 x.2.2.2] 25)) 1
  obtain ⟨A, c, W', hr, hU⟩ := RwAt.append (P := Try.prog) (t := 40) (tx := 40) (by decide) lenC oneC Try.underlying40 hi hz rfl hsz (by omega) h1 hsrc (by simp only [List.length_singleton]; omega)
  rw [List.length_append, List.length_singleton] at hr hU
  exact ⟨(A, c), W', hr, Upd.of ((Eff.refl (fun _ => False) W).alloc _) hU⟩
/-- Both halves, in the box hb. -/
abbrev HvL (hb : Nat) (v0 v1 : Value) (xs ys : List Ce) : List HP := [CellsAt hb #[v0, v1] 63, RC v0 xs, RC v1 ys]
set_option maxHeartbeats 1600000 in
set_option maxRecDepth 100000 in
theorem add0_calls {w W : World} {hb : Nat} {v0 v1 : Value} {xs ys : List Ce} (o : Own w W (Stars (HvL hb v0 v1 xs ys))) (x : Ce) (hm : xs.length < 700000) :
    Calls Try.prog 30 #[.pointer (some ⟨hb, 0, none⟩), .int .i64 0, .agg #[.string x.1, .string x.2.1, .int .i64 x.2.2.1, .int .i64 x.2.2.2]] W fun e w' => e = .returned (.tuple #[]) ∧ ∃ v0', Aside0 (Own w w' (Stars (HvL hb v0' v1 (xs ++ [x]) ys))) := by
  have o0 := Own.alloc o (.cells #[.string x.1, .string x.2.1, .int .i64 x.2.2.1, .int .i64 x.2.2.2] 25)
  obtain ⟨F1, h1⟩ := o.fact 1 rfl
  obtain ⟨A1, c1, hv⟩ := h1.1.form
  subst hv
  obtain ⟨wb, hwb⟩ : ∃ wb, wb = (W.alloc (.cells #[.string x.1, .string x.2.1, .int .i64 x.2.2.1, .int .i64 x.2.2.2] 25)).drew := ⟨_, rfl⟩
  have ob : Own w wb (Stars (HvL hb (.slice A1 xs.length c1) v1 xs ys)) := by rw [hwb]; exact o0.drew
  obtain ⟨r, W1, hr, o1⟩ := Own.actAt (X := Option Addr × Nat) (p := fun r W' => ∀ ty, (Builtin.append_ #[40, 40] ty #[.slice A1 xs.length c1, .slice (some ⟨wb.heap.size, 0, none⟩) 1 1]).run Try.prog (wb.alloc (.cells #[.string x.1, .string x.2.1, .int .i64 x.2.2.1, .int .i64 x.2.2.2] 25)) = .ok (.slice r.1 (xs.length + 1) r.2) W') (S' := fun r => RC (.slice r.1 (xs.length + 1) r.2) (xs ++ [x])) ob 1 rfl (fun F hF => rc_add hF x (by omega))
  have o2 := o1.setCellAt 0 rfl 0 (.slice r.1 (xs.length + 1) r.2)
  obtain ⟨hc, hf⟩ := o.cellsAt 0 rfl
  have x0 : W.cell? ⟨hb, 0, none⟩ = some (.slice A1 xs.length c1) := hc 0
  have hlt : hb < W.heap.size := World.block_lt_of_cell? W _ x0
  obtain ⟨hc1, hf1⟩ := o1.cellsAt 0 rfl
  obtain ⟨u0, y0⟩ : ∃ u, W1.cell? ⟨hb, 0, none⟩ = some u := ⟨_, hc1 0⟩
  have g0 : W1.frozen? ⟨hb, 0, none⟩ = false := hf1 0
  have O2 := Aside0.mk o2
  subst hwb
  have hsz : (W.alloc (.cells #[.string x.1, .string x.2.1, .int .i64 x.2.2.1, .int .i64 x.2.2.2] 25)).drew.heap.size = W.heap.size + 1 := by simp [World.drew]
  rw [hsz] at hr
  clear o o0 ob o1 o2 h1 hc hf hc1 hf1 hm hsz
  go_enter Try.func30, Try.ntmps30
  go_wp2_with fail
  go_region_law (first | (refine step_ap rfl (.tmp 13) (.tmp 15) 40 40 rfl _ _ (by simp [Act.eval, Act.put]) (by simp [Act.eval, Act.put]) (hr _) ?_) | fail)
  all_goals go_end0
  all_goals exact ⟨rfl, _, Aside0.mk (by first | exact O2.out | exact O2.out.drew | exact O2.out.drewN _)⟩
set_option maxHeartbeats 1600000 in
set_option maxRecDepth 100000 in
theorem add1_calls {w W : World} {hb : Nat} {v0 v1 : Value} {xs ys : List Ce} (o : Own w W (Stars (HvL hb v0 v1 xs ys))) (x : Ce) (hm : ys.length < 700000) :
    Calls Try.prog 30 #[.pointer (some ⟨hb, 0, none⟩), .int .i64 1, .agg #[.string x.1, .string x.2.1, .int .i64 x.2.2.1, .int .i64 x.2.2.2]] W fun e w' => e = .returned (.tuple #[]) ∧ ∃ v1', Aside0 (Own w w' (Stars (HvL hb v0 v1' xs (ys ++ [x])))) := by
  have o0 := Own.alloc o (.cells #[.string x.1, .string x.2.1, .int .i64 x.2.2.1, .int .i64 x.2.2.2] 25)
  obtain ⟨F1, h1⟩ := o.fact 2 rfl
  obtain ⟨A1, c1, hv⟩ := h1.1.form
  subst hv
  obtain ⟨wb, hwb⟩ : ∃ wb, wb = (W.alloc (.cells #[.string x.1, .string x.2.1, .int .i64 x.2.2.1, .int .i64 x.2.2.2] 25)).drew := ⟨_, rfl⟩
  have ob : Own w wb (Stars (HvL hb v0 (.slice A1 ys.length c1) xs ys)) := by rw [hwb]; exact o0.drew
  obtain ⟨r, W1, hr, o1⟩ := Own.actAt (X := Option Addr × Nat) (p := fun r W' => ∀ ty, (Builtin.append_ #[40, 40] ty #[.slice A1 ys.length c1, .slice (some ⟨wb.heap.size, 0, none⟩) 1 1]).run Try.prog (wb.alloc (.cells #[.string x.1, .string x.2.1, .int .i64 x.2.2.1, .int .i64 x.2.2.2] 25)) = .ok (.slice r.1 (ys.length + 1) r.2) W') (S' := fun r => RC (.slice r.1 (ys.length + 1) r.2) (ys ++ [x])) ob 2 rfl (fun F hF => rc_add hF x (by omega))
  have o2 := o1.setCellAt 0 rfl 1 (.slice r.1 (ys.length + 1) r.2)
  obtain ⟨hc, hf⟩ := o.cellsAt 0 rfl
  have x0 : W.cell? ⟨hb, 1, none⟩ = some (.slice A1 ys.length c1) := hc 1
  have hlt : hb < W.heap.size := World.block_lt_of_cell? W _ x0
  obtain ⟨hc1, hf1⟩ := o1.cellsAt 0 rfl
  obtain ⟨u0, y0⟩ : ∃ u, W1.cell? ⟨hb, 1, none⟩ = some u := ⟨_, hc1 1⟩
  have g0 : W1.frozen? ⟨hb, 1, none⟩ = false := hf1 1
  have O2 := Aside0.mk o2
  subst hwb
  have hsz : (W.alloc (.cells #[.string x.1, .string x.2.1, .int .i64 x.2.2.1, .int .i64 x.2.2.2] 25)).drew.heap.size = W.heap.size + 1 := by simp [World.drew]
  rw [hsz] at hr
  clear o o0 ob o1 o2 h1 hc hf hc1 hf1 hm hsz
  go_enter Try.func30, Try.ntmps30
  go_wp2_with fail
  go_region_law (first | (refine step_ap rfl (.tmp 13) (.tmp 15) 40 40 rfl _ _ (by simp [Act.eval, Act.put]) (by simp [Act.eval, Act.put]) (hr _) ?_) | fail)
  all_goals go_end0
  all_goals exact ⟨rfl, _, Aside0.mk (by first | exact O2.out | exact O2.out.drew | exact O2.out.drewN _)⟩
/-- Cells that lie to be read. -/
def RdC (W : World) (A : Option Addr) (xs : List Ce) : Prop := ∀ j u, (flatE encC xs)[j]? = some u → ∃ ad, A = some ad ∧ W.cell? (ad.add j) = some u
theorem add_block (a : Addr) (n : Nat) : (a.add n).block = a.block := by unfold Addr.add; split <;> rfl
theorem RdC.keep {W W' : World} {A : Option Addr} {xs : List Ce} (h : RdC W A xs) {S : Nat → Prop} (e : Eff S W W') (hS : ∀ ad, A = some ad → ¬ S ad.block) : RdC W' A xs := fun j u hu => by
  obtain ⟨ad, ha, hc⟩ := h j u hu
  refine ⟨ad, ha, ?_⟩
  have hb := World.block_lt_of_cell? W _ hc
  rw [add_block] at hb
  rw [← hc]
  unfold World.cell?
  rw [add_block, e.block _ hb (hS ad ha)]
theorem RdC.of_rw {v : Value} {xs : List Ce} {W : World} {F : Nat → Prop} (h : Rw encC 4 25 v xs W F) : ∃ A c, v = .slice A xs.length c ∧ xs.length ≤ c ∧ RdC W A xs := by
  obtain ⟨A, c, hv, hl, hr⟩ := h.reads
  refine ⟨A, c, hv, hl, fun j u hu => ?_⟩
  obtain ⟨g, hA, hc⟩ := hr j u hu
  exact ⟨_, hA, by rw [add_zero_off']; exact hc⟩
theorem add_more (a : Addr) (n j : Nat) (hj : 0 < j) : a.add (n + j) = { block := (a.add n).block, off := (a.add n).off + j } := by
  unfold Addr.add
  rw [if_neg (by omega)]
  split
  · rename_i h
    subst h
    simp
  · simp [Nat.add_assoc]
theorem RdC.at {W : World} {A : Option Addr} {xs : List Ce} (h : RdC W A xs) (i : Nat) (hi : i < xs.length) : ∃ ad, A = some ad ∧ W.cell? (ad.add (i * 4)) = some (.string (xs[i]).1) ∧ W.cell? { block := (ad.add (i * 4)).block, off := (ad.add (i * 4)).off + 1 } = some (.string (xs[i]).2.1) ∧ W.cell? { block := (ad.add (i * 4)).block, off := (ad.add (i * 4)).off + 2 } = some (.int .i64 (xs[i]).2.2.1) ∧ W.cell? { block := (ad.add (i * 4)).block, off := (ad.add (i * 4)).off + 3 } = some (.int .i64 (xs[i]).2.2.2) := by
  have hx : xs = xs.take i ++ xs[i] :: xs.drop (i + 1) := by simp
  have key : ∀ j u, (encC xs[i])[j]? = some u → (flatE encC xs)[i * 4 + j]? = some u := by
    intro j u hu
    have hj : j < 4 := (List.getElem?_eq_some_iff.1 hu).1
    generalize xs[i] = q at *
    rw [hx, flatE_append, flatE_cons, List.getElem?_append_right (by rw [flatE_length (k := 4) lenC, List.length_take]; omega), flatE_length (k := 4) lenC, List.length_take, Nat.min_eq_left (by omega), Nat.add_sub_cancel_left, List.getElem?_append_left (by rw [lenC]; exact hj)]
    exact hu
  obtain ⟨ad, ha, h0⟩ := h _ _ (key 0 _ rfl)
  obtain ⟨ad1, ha1, h1⟩ := h _ _ (key 1 _ rfl)
  obtain ⟨ad2, ha2, h2⟩ := h _ _ (key 2 _ rfl)
  obtain ⟨ad3, ha3, h3⟩ := h _ _ (key 3 _ rfl)
  subst ha
  injection ha1 with ha1
  injection ha2 with ha2
  injection ha3 with ha3
  subst ha1 ha2 ha3
  rw [add_more _ _ _ (by decide)] at h1 h2 h3
  exact ⟨ad, rfl, h0, h1, h2, h3⟩
def bitd (d : Nat) (s : ByteArray) : Nat := (hash s).toNat / 2 ^ d % 2
theorem bit_is (s : ByteArray) (d : Nat) : wrap64 (Go.bits .and .u32 (hash s / 2 ^ d) 1) = ((bitd d s : Nat) : Int) := by
  obtain ⟨h0, h1⟩ := hash_range s
  obtain ⟨n, hn⟩ : ∃ n : Nat, hash s = (n : Int) := ⟨(hash s).toNat, by omega⟩
  unfold bitd
  rw [hn] at h1 ⊢
  have e : (n : Int) / 2 ^ d = ((n / 2 ^ d : Nat) : Int) := by
    rw [Int.natCast_ediv, Int.natCast_pow]
    rfl
  rw [e, Int.toNat_natCast]
  have hle : n / 2 ^ d ≤ n := Nat.div_le_self _ _
  generalize n / 2 ^ d = m at *
  have h := bits_mask .u32 32 (by decide) wraps_u32 1 (by decide) (m : Int) (by omega) (by omega)
  have h2 : Go.bits .and .u32 (m : Int) 1 = (m : Int) % 2 := h
  rw [h2]
  unfold wrap64
  omega
theorem bitd_two (d : Nat) (s : ByteArray) : bitd d s = 0 ∨ bitd d s = 1 := by unfold bitd; omega
def half (d b : Nat) (xs : List Ce) : List Ce := xs.filter (fun x => decide (bitd d x.1 = b))
theorem half_take (d b : Nat) (xs : List Ce) (i : Nat) (h : i < xs.length) : half d b (xs.take (i + 1)) = half d b (xs.take i) ++ (if bitd d (xs[i]).1 = b then [xs[i]] else []) := by
  unfold half
  rw [List.take_succ_eq_append_getElem h, List.filter_append]
  congr 1
  by_cases hb : bitd d (xs[i]).1 = b
  · rw [if_pos hb, List.filter_cons_of_pos (by simpa using hb)]
    rfl
  · rw [if_neg hb, List.filter_cons_of_neg (by simpa using hb)]
    rfl
theorem half_len (d b : Nat) (xs : List Ce) : (half d b xs).length ≤ xs.length := List.length_filter_le _ _
set_option maxHeartbeats 1600000 in
set_option maxRecDepth 100000 in
theorem split_calls (w : World) (A : Option Addr) (c : Nat) (xs : List Ce) (d : Nat) (hd : d ≤ 31) (hr : RdC w A xs) (hl : xs.length < 600000) (hk : ∀ x ∈ xs, x.1.size ≤ 9223372036854775807) :
    Calls Try.prog 20 #[.int .i64 d, .slice A xs.length c] w fun e w' => ∃ v0 v1, e = .returned (.tuple #[v0, v1]) ∧ Aside0 (Own w w' (Stars (HvL w.heap.size v0 v1 (half d 0 xs) (half d 1 xs)))) := by
  have p1 : ((d : Int) ≥ 0) = True := eq_true (by omega)
  have p2 : ((d : Int) ≤ 31) = True := eq_true (by omega)
  have H := Aside0.mk (And.intro hr hk)
  have O0 : Own w (w.alloc (.cells #[.slice none 0 0, .slice none 0 0] 63)) (Stars (HvL w.heap.size (.slice none 0 0) (.slice none 0 0) [] [])) := by
    have o1 := (Own.cellsNew (l := []) (Own.start w) #[.slice none 0 0, .slice none 0 0] 63)
    have o2 := o1.newAt (N := RC (.slice none 0 0) []) (Eff.refl _ _) (RwAt.nil _) (fun _ h => h.elim)
    exact o2.newAt (N := RC (.slice none 0 0) []) (Eff.refl _ _) (RwAt.nil _) (fun _ h => h.elim)
  clear hr hk
  go_enter Try.func20, Try.ntmps20
  go_wp2_with fail
  go_loopg [14] xs.length (fun k s14 wr => ∃ (i : Nat) (v0 v1 : Value), s14 = .int .i64 (i : Int) ∧ i + k = xs.length ∧ Aside0 (Own w wr (Stars (HvL w.heap.size v0 v1 (half d 0 (xs.take i)) (half d 1 (xs.take i))))))
  case atStart => exact ⟨0, _, _, rfl, by omega, Aside0.mk O0⟩
  case round =>
    clear O0
    obtain ⟨i, v0, v1, rfl, hik, O1⟩ := hrel
    by_cases hi : i < xs.length
    · have p3 : ((i : Int) < (xs.length : Int)) = True := eq_true (by omega)
      have p4 : (0 : Int) ≤ (i : Int) := by omega
      have hi9 : i < 600000 := by omega
      obtain ⟨ad, rfl, x0, x1, x2, x3⟩ := (H.out.1.keep (Eff.of_below (S := fun _ => False) O1.out.below) (fun _ _ => id)).at i hi
      have CH := fun W => hash_calls (xs[i]).1 (H.out.2 _ (List.getElem_mem hi)) W
      have h0 := half_take d 0 xs i hi
      have h1 := half_take d 1 xs i hi
      have n0 := half_len d 0 (xs.take i)
      have n1 := half_len d 1 (xs.take i)
      rw [List.length_take] at n0 n1
      generalize xs[i] = x at *
      have HI := Aside0.mk (And.intro hi (And.intro hik (And.intro h0 (And.intro h1 (And.intro n0 n1)))))
      clear hi hik h0 h1 n0 n1
      go_wp2_with fail
      refine (CH _).mono ?_
      rintro e' w2 ⟨rfl, ⟨nd, rfl⟩⟩
      go_wp2_with fail
      rw [bit_is]
      have O2 := (O1.out.alloc (.cells #[.string x.1, .string x.2.1, .int .i64 x.2.2.1, .int .i64 x.2.2.2] 25)).drewN nd
      rcases bitd_two d x.1 with hb | hb
      · rw [hb]
        have CA := add0_calls O2 x (by have := HI.out; omega)
        have e0 : half d 0 (xs.take (i + 1)) = half d 0 (xs.take i) ++ [x] := by rw [HI.out.2.2.1, if_pos hb]
        have e1 : half d 1 (xs.take (i + 1)) = half d 1 (xs.take i) := by rw [HI.out.2.2.2.1, if_neg (by omega), List.append_nil]
        rw [← e0, ← e1] at CA
        have CA2 := Aside0.mk CA
        clear CA O1 O2 e0 e1 x0 x1 x2 x3 hb
        refine CA2.out.mono ?_
        rintro e' w3 ⟨rfl, v0', O3⟩
        go_wp2_with fail
        go_roundg (gk - 1)
        case measure => have := HI.out; omega
        case rel => exact ⟨i + 1, v0', v1, by simp, by have := HI.out; omega, O3⟩
      · rw [hb]
        have CA := add1_calls O2 x (by have := HI.out; omega)
        have e0 : half d 0 (xs.take (i + 1)) = half d 0 (xs.take i) := by rw [HI.out.2.2.1, if_neg (by omega), List.append_nil]
        have e1 : half d 1 (xs.take (i + 1)) = half d 1 (xs.take i) ++ [x] := by rw [HI.out.2.2.2.1, if_pos hb]
        rw [← e0, ← e1] at CA
        have CA2 := Aside0.mk CA
        clear CA O1 O2 e0 e1 x0 x1 x2 x3 hb
        refine CA2.out.mono ?_
        rintro e' w3 ⟨rfl, v1', O3⟩
        go_wp2_with fail
        go_roundg (gk - 1)
        case measure => have := HI.out; omega
        case rel => exact ⟨i + 1, v0, v1', by simp, by have := HI.out; omega, O3⟩
    · have p3 : ((i : Int) < (xs.length : Int)) = False := eq_false (by omega)
      obtain rfl : i = xs.length := by omega
      rw [List.take_length] at O1
      obtain ⟨hc, _⟩ := O1.out.cellsAt 0 rfl
      have x0 : wr.cell? ⟨w.heap.size, 0, none⟩ = some v0 := hc 0
      have x1 : wr.cell? ⟨w.heap.size, 1, none⟩ = some v1 := hc 1
      obtain ⟨F1, h1⟩ := O1.out.fact 1 rfl
      obtain ⟨F2, h2⟩ := O1.out.fact 2 rfl
      obtain ⟨A1, c1, e1⟩ := h1.1.form
      obtain ⟨A2, c2, e2⟩ := h2.1.form
      subst e1 e2
      clear hi hik hc h1 h2
      go_wp2_with fail
      go_quiet (fail)
      go_wp2_with fail
      go_ret2
      exact ⟨_, _, rfl, Aside0.mk (by first | exact O1.out.drewN _ | exact O1.out.drew | exact O1.out)⟩
end Go.Proofs.Ytcmepoakcffpaaa.SP
