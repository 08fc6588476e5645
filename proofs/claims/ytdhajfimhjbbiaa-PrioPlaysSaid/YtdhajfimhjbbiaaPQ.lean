import Derived.Test.YtdhajfimhjbbiaaPFx
import Derived.Test.YtdhajfimhjbbiaaQQDrop
import Derived.Test.YtdhajfimhjbbiaaBO
import Derived.Test.YtdhajfimhjbbiaaProg
import Derived.BigRegion
import Derived.BigQuiet
import Derived.Deep.QuietTactic
import Derived.Deep.AppendLies
import Derived.ChangeAlike
import Derived.Outline
import Derived.WalkKit
import Derived.KernelRfl
import Derived.Deep.LoopGhost
import Derived.Deep.RegionLaw
import Derived.Test.YtdhajfimhjbbiaaWMore
import Derived.Test.YtdhajfimhjbbiaaWKept
import Derived.Test.YtdhajfimhjbbiaaLSep
namespace Go.Proofs.Ytdhajfimhjbbiaa.PL
open Go Go.RowKit Go.Proofs.YtdhajfimhjbbiaaW.PrintWords Go.Proofs.YtdhajfimhjbbiaaW.PrintLast Go.Proofs.YtdhajfimhjbbiaaW.PrintMore Go.Proofs.Ytdhajfimhjbbiaa.PF
set_option linter.unusedVariables false
set_option linter.unusedSimpArgs false
/-! ### the document's First -/
open Go.Proofs.Ytdhajfimhjbbiaa.Q (leB leB_iff leB_trans leB_refl lessB Srt)
def pr (x : S48) : Int × Int := (x.f0, x.f1)
theorem rd48 (xs : List S48) (i : Nat) : rd_T48 xs (i : Int) = xs.getD i z48 := by unfold rd_T48; rw [Int.toNat_natCast]
theorem first_step {its : List S48} {i b : Nat} (h : ∀ p, p < i → leB (pr (its.getD b z48)) (pr (its.getD p z48)) = true) (q : Nat) (h1 : leB (pr (its.getD q z48)) (pr (its.getD b z48)) = true) (h2 : leB (pr (its.getD q z48)) (pr (its.getD i z48)) = true) : ∀ p, p < i + 1 → leB (pr (its.getD q z48)) (pr (its.getD p z48)) = true := fun p hp => by
  by_cases e : p = i
  · rw [e]; exact h2
  · exact leB_trans h1 (h p (by omega))
theorem first_l0 (its : List S48) (hl : its.length < 900000) : ∀ (d i j k : Nat), i + d = its.length → j < i → d < k → (∀ p, p < i → leB (pr (its.getD j z48)) (pr (its.getD p z48)) = true) →
    ∃ r : Nat, honeycombref1_First.l0 k its (j : Int) (i : Int) = some (r : Int) ∧ r < its.length ∧ ∀ p, p < its.length → leB (pr (its.getD r z48)) (pr (its.getD p z48)) = true
  | 0, i, j, k, hi, hj, hk, h => by
    obtain ⟨k, rfl⟩ : ∃ m, k = m + 1 := ⟨k - 1, by omega⟩
    refine ⟨j, ?_, by omega, fun p hp => h p (by omega)⟩
    rw [honeycombref1_First.l0, if_neg (by omega)]
  | d + 1, i, j, k, hi, hj, hk, h => by
    obtain ⟨k, rfl⟩ : ∃ m, k = m + 1 := ⟨k - 1, by omega⟩
    have ihi := first_l0 its hl d (i + 1) i k (by omega) (by omega) (by omega)
    have ihj := first_l0 its hl d (i + 1) j k (by omega) (by omega) (by omega)
    have e1 : wrap64 ((i : Int) + 1) = ((i + 1 : Nat) : Int) := by unfold wrap64; omega
    rw [honeycombref1_First.l0, if_pos (by omega), if_neg (by omega), if_pos (by omega), if_pos (by omega), if_pos (by omega), e1, rd48, rd48]
    have hr := leB_refl (pr (its.getD i z48))
    have hr2 := leB_refl (pr (its.getD j z48))
    by_cases g1 : (its.getD i z48).f0 > (its.getD j z48).f0
    · rw [if_pos g1]
      exact ihi (first_step h i (by rw [leB_iff]; exact .inl g1) hr)
    · rw [if_neg g1]
      by_cases g2 : (its.getD i z48).f0 = (its.getD j z48).f0
      · rw [if_pos g2]
        by_cases g3 : (its.getD i z48).f1 < (its.getD j z48).f1
        · rw [if_pos g3]
          exact ihi (first_step h i (by rw [leB_iff]; exact .inr ⟨g2, Int.le_of_lt g3⟩) hr)
        · rw [if_neg g3]
          exact ihj (first_step h j hr2 (by rw [leB_iff]; exact .inr ⟨g2.symm, by show (its.getD j z48).f1 ≤ (its.getD i z48).f1; omega⟩))
      · rw [if_neg g2]
        exact ihj (first_step h j hr2 (by rw [leB_iff]; exact .inl (by show (its.getD i z48).f0 < (its.getD j z48).f0; omega)))
theorem first_f (its : List S48) (hl : its.length < 900000) : ∃ (k : Nat) (r : Int), honeycombref1_First.f k its = some r ∧ ((its = [] ∧ r = -1) ∨ ∃ j : Nat, r = (j : Int) ∧ j < its.length ∧ ∀ p, p < its.length → leB (pr (its.getD j z48)) (pr (its.getD p z48)) = true) := by
  unfold honeycombref1_First.f
  cases its with
  | nil => exact ⟨1, -1, by simp [honeycombref1_First.l0], .inl ⟨rfl, rfl⟩⟩
  | cons x xs =>
    obtain ⟨r, h1, h2, h3⟩ := first_l0 (x :: xs) hl xs.length 1 0 (xs.length + 1) (by simp only [List.length_cons]; omega) (by omega) (by omega) (fun p hp => by
      obtain rfl : p = 0 := by omega
      exact leB_refl _)
    refine ⟨xs.length + 2, r, ?_, .inr ⟨r, rfl, h2, h3⟩⟩
    have e1 : wrap64 ((0 : Int) + 1) = ((1 : Nat) : Int) := by unfold wrap64; omega
    rw [honeycombref1_First.l0, if_pos (by simp only [List.length_cons]; omega), if_pos (by omega), e1]
    exact h1
end Go.Proofs.Ytdhajfimhjbbiaa.PL
namespace Go.Proofs.Ytdhajfimhjbbiaa.PL
open Go Go.RowKit Go.Proofs.YtdhajfimhjbbiaaW.PrintWords Go.Proofs.YtdhajfimhjbbiaaW.PrintLast Go.Proofs.YtdhajfimhjbbiaaW.PrintMore Go.Proofs.Ytdhajfimhjbbiaa.L Go.Proofs.Ytdhajfimhjbbiaa.PF
set_option linter.unusedVariables false
set_option linter.unusedSimpArgs false
/-! ### the rows of the law: what was put in; the queue leaves them -/
abbrev encIt (x : S48) : List Value := [.int .i64 x.f0, .int .i64 x.f1]
theorem lenIt (x : S48) : (encIt x).length = 2 := rfl
theorem oneIt (x : S48) : ∀ u ∈ encIt x, u.oneCell' = true := by
  intro u hu
  simp only [encIt, List.mem_cons, List.not_mem_nil, or_false] at hu
  rcases hu with rfl | rfl <;> rfl
abbrev RIt (v : Value) (xs : List S48) : HP := RwAt encIt 2 48 v xs
theorem infoIt : ∃ i0, Try.prog.info? 48 = some i0 ∧ i0.zero = some (.agg #[.int .i64 0, .int .i64 0]) ∧ i0.size = 2 ∧ i0.bytes = 16 := by
  have h : (Try.prog.info? 48).map (fun i => (i.zero, i.size, i.bytes)) = some (some (.agg #[.int .i64 0, .int .i64 0]), 2, 16) := by kernel_rfl
  obtain ⟨i0, hi, hz⟩ := Option.map_eq_some_iff.1 h
  simp only [Prod.mk.injEq] at hz
  exact ⟨i0, hi, hz.1, hz.2.1, hz.2.2⟩
theorem rit_C {v : Value} {xs : List S48} {W : World} {F : Nat → Prop} (h : Rw encIt 2 48 v xs W F) : ∃ A c, v = .slice A xs.length c ∧ xs.length ≤ c ∧ Kd.C k48 W A xs.length xs := Rw.C (d := k48) rfl lenIt (fun w base ok x => k48_mkM w base ok x) h
theorem add_block (a : Addr) (n : Nat) : (a.add n).block = a.block := by unfold Addr.add; split <;> rfl
theorem add_more (a : Addr) (n j : Nat) (hj : 0 < j) : a.add (n + j) = { block := (a.add n).block, off := (a.add n).off + j } := by
  unfold Addr.add
  rw [if_neg (by omega)]
  split
  · rename_i h
    subst h
    simp
  · simp [Nat.add_assoc]
/-- Items that lie to be read, as what is put behind others. -/
theorem it_src {W : World} {A : Option Addr} {xs : List S48} (c : Nat) (h : Kd.C k48 W A xs.length xs) : Src Try.prog 2 45 (.slice A xs.length c) xs.length (flatE encIt xs) W := by
  cases A with
  | none =>
    have h0 : xs = [] := by
      cases xs with
      | nil => rfl
      | cons x xs =>
        obtain ⟨ad, e, _⟩ := at_T48 h 0 (by omega) (by simp only [List.length_cons]; omega)
        cases e
    subst h0
    exact Src.ofNil (P := Try.prog) W Try.underlying45 c
  | some ad =>
    refine Src.ofSlice (P := Try.prog) W Try.underlying45 ad xs.length c (flatE encIt xs) (by rw [flatE_length (k := 2) lenIt]) (fun j u hu => ?_) (oneL oneIt xs)
    have hj := (List.getElem?_eq_some_iff.1 hu).1
    rw [flatE_length (k := 2) lenIt] at hj
    obtain ⟨i, r, rfl, hr⟩ : ∃ i r, j = i * 2 + r ∧ r < 2 := ⟨j / 2, j % 2, by omega, by omega⟩
    have hi : i < xs.length := by omega
    obtain ⟨a1, e1, x0, x1⟩ := at_T48 h (i : Int) (by omega) (by omega)
    injection e1 with e1
    subst e1
    have e : rd_T48 xs (i : Int) = xs[i] := by unfold rd_T48; simp [List.getD, hi]
    rw [e, Int.toNat_natCast] at x0 x1
    have hx : xs = xs.take i ++ xs[i] :: xs.drop (i + 1) := by simp
    have hl : (xs.take i).length = i := by rw [List.length_take]; omega
    generalize xs[i] = q at *
    rw [hx, flatE_append, flatE_cons, List.getElem?_append_right (by rw [flatE_length (k := 2) lenIt, hl]; omega), flatE_length (k := 2) lenIt, hl, Nat.add_sub_cancel_left, List.getElem?_append_left (by rw [lenIt]; exact hr)] at hu
    rcases (by omega : r = 0 ∨ r = 1) with rfl | rfl
    · injection hu with hu; subst hu; exact x0
    · injection hu with hu; subst hu; rw [add_more _ _ _ (by decide)]; exact x1
/-- Items behind a row of one's own. -/
theorem it_join {v : Value} {A : Option Addr} {xs zs : List S48} {c : Nat} {W : World} {F : Nat → Prop} (h : (RIt v xs).on W F) (hz : Kd.C k48 W A zs.length zs) (hm : xs.length + zs.length < 900000) :
    ∃ (q : Option Addr × Nat) (W' : World), (∀ ty, (Builtin.append_ #[45, 45] ty #[v, .slice A zs.length c]).run Try.prog W = .ok (.slice q.1 (xs ++ zs).length q.2) W') ∧ Upd W F (RIt (.slice q.1 (xs ++ zs).length q.2) (xs ++ zs)) W' := by
  obtain ⟨i0, hi, hzr, hs, hb⟩ := infoIt
  obtain ⟨B, d, W', hr, hU⟩ := RwAt.append (P := Try.prog) (t := 45) (tx := 45) (by decide) lenIt oneIt Try.underlying45 hi hzr rfl hs (by omega) h (by rw [hs]; exact it_src c hz) hm
  exact ⟨(B, d), W', hr, hU⟩
theorem it_add {v : Value} {xs : List S48} {W : World} {F : Nat → Prop} (h : (RIt v xs).on W F) (x : S48) (hm : xs.length < 800000) :
    ∃ (q : Option Addr × Nat) (W' : World), (∀ ty, (Builtin.append_ #[45, 45] ty #[v, .slice (some ⟨W.heap.size, 0, none⟩) 1 1]).run Try.prog (W.alloc (.cells #[.int .i64 x.f0, .int .i64 x.f1] 48)) = .ok (.slice q.1 (xs.length + 1) q.2) W') ∧ Upd W F (RIt (.slice q.1 (xs.length + 1) q.2) (xs ++ [x])) W' := by
  obtain ⟨i0, hi, hzr, hs, hb⟩ := infoIt
  have h1 := HP.eff0 h ((Eff.refl (fun _ => False) W).alloc (.cells #[.int .i64 x.f0, .int .i64 x.f1] 48))
  have hsrc := lit_src (P := Try.prog) (enc := encIt) (tx := 45) (size := i0.size) (zs := [x]) lenIt oneIt Try.underlying45 hs (heap_alloc_new W (.cells #[.int .i64 x.f0, .int .i64 x.f1] 48)) 1
  obtain ⟨A, c, W', hr, hU⟩ := RwAt.append (P := Try.prog) (t := 45) (tx := 45) (by decide) lenIt oneIt Try.underlying45 hi hzr rfl hs (by omega) h1 hsrc (by simp only [List.length_singleton]; omega)
  rw [List.length_append, List.length_singleton] at hr hU
  exact ⟨(A, c), W', hr, Upd.of ((Eff.refl (fun _ => False) W).alloc _) hU⟩
/-- What was put in, as a row. -/
def HR (W : World) (v : Value) (xs : List S48) : Prop := ∃ F, (RIt v xs).on W F
theorem HR.nil (W : World) : HR W (.slice none 0 0) [] := ⟨_, RwAt.nil W⟩
theorem HR.eff0 {W W' : World} {v : Value} {xs : List S48} (h : HR W v xs) (e : Eff0 W W') : HR W' v xs := h.imp (fun _ h => HP.eff0 h e)
theorem HR.C {W : World} {v : Value} {xs : List S48} (h : HR W v xs) : ∃ A c, v = .slice A xs.length c ∧ xs.length ≤ c ∧ Kd.C k48 W A xs.length xs := by
  obtain ⟨F, h⟩ := h
  exact rit_C h.1
theorem q_of_l {S : Nat → Prop} {W W' : World} (e : Eff S W W') : Go.Proofs.Ytdhajfimhjbbiaa.Q.Eff S W W' := ⟨e.os, e.tape, e.output, e.size, e.block⟩
theorem l_of_q {S : Nat → Prop} {W W' : World} (e : Go.Proofs.Ytdhajfimhjbbiaa.Q.Eff S W W') : Eff S W W' := ⟨e.os, e.tape, e.output, e.size, e.block⟩
theorem HR.q {w W W' : World} {v : Value} {xs : List S48} (h : HR W v xs) (e : Go.Proofs.Ytdhajfimhjbbiaa.Q.QEff w W W') : HR W' v xs := by
  obtain ⟨F, h⟩ := h
  refine ⟨F, ?_, fun b hb => Nat.lt_of_lt_of_le (h.2 b hb) e.size⟩
  rcases h.1 with hn | ⟨g, cap, hv, hX, hF⟩
  · exact .inl hn
  · obtain ⟨cur, rest, hh, hc, ht⟩ := hX.has
    have hb := e.block g (by have := (Array.getElem?_eq_some_iff.1 hh).1; exact this) (fun ht => by
      obtain ⟨_, cells, t, h2, h3⟩ := ht
      rw [hh] at h2
      injection h2 with h2
      injection h2 with _ h2
      subst h2
      revert h3
      decide)
    exact .inr ⟨g, cap, hv, ⟨hX.le, hX.len, hX.max, cur, rest, hb.trans hh, hc, ht⟩, hF⟩
/-- A pop of the first one leaves the others. -/
theorem take_drop_pop (xs : List S48) (j : Nat) (hj : j < xs.length) : (xs[j] :: (xs.take j ++ xs.drop (j + 1))).Perm xs := by
  have h : xs = xs.take j ++ xs[j] :: xs.drop (j + 1) := by simp
  conv => rhs; rw [h]
  exact List.perm_middle.symm
/-! ### the queue that is none -/
set_option maxHeartbeats 1600000 in
set_option maxRecDepth 100000 in
theorem push_none (W : World) (x y : Int) : Calls Try.prog 11 #[.pointer none, .int .i64 x, .int .i64 y] W fun e w' => e = .returned (.tuple #[]) ∧ Eff0 W w' := by
  go_enter Try.func11, Try.ntmps11
  go_wp2_with fail
  all_goals go_end0
  all_goals exact ⟨rfl, by first | exact Eff.refl _ _ | exact (Eff.refl _ _).drew | exact (Eff.refl _ _).drewN _⟩
set_option maxHeartbeats 1600000 in
set_option maxRecDepth 100000 in
theorem len_none (W : World) : Calls Try.prog 14 #[.pointer none] W fun e w' => e = .returned (.int .i64 0) ∧ Eff0 W w' := by
  go_enter Try.func14, Try.ntmps14
  go_wp2_with fail
  all_goals go_ret
  all_goals exact ⟨rfl, by first | exact Eff.refl _ _ | exact (Eff.refl _ _).drew | exact (Eff.refl _ _).drewN _⟩
set_option maxHeartbeats 1600000 in
set_option maxRecDepth 100000 in
theorem peek_none (W : World) : Calls Try.prog 12 #[.pointer none] W fun e w' => e = .returned (.tuple #[.int .i64 0, .int .i64 0, .bool false]) ∧ Eff0 W w' := by
  go_enter Try.func12, Try.ntmps12
  go_wp2_with (go_at_call 14; refine (len_none _).mono ?_; rintro e w' ⟨rfl, en⟩)
  first | go_ret3 | go_ret | go_ret2 | go_end0
  exact ⟨rfl, en⟩
set_option maxHeartbeats 1600000 in
set_option maxRecDepth 100000 in
theorem pop_none (W : World) : Calls Try.prog 13 #[.pointer none] W fun e w' => e = .returned (.tuple #[.int .i64 0, .int .i64 0, .bool false]) ∧ Eff0 W w' := by
  go_enter Try.func13, Try.ntmps13
  go_wp2_with (go_at_call 12; refine (peek_none _).mono ?_; rintro e w' ⟨rfl, en⟩)
  first | go_ret3 | go_ret | go_ret2 | go_end0
  exact ⟨rfl, en⟩
set_option maxHeartbeats 1600000 in
set_option maxRecDepth 100000 in
theorem drop_none (W : World) (id : Int) : Calls Try.prog 17 #[.pointer none, .int .i64 id] W fun e w' => e = .returned (.int .i64 0) ∧ Eff0 W w' := by
  have E : Eff0 W (W.alloc (.cells #[.int .i64 id] 3)) := (Eff.refl _ _).alloc _
  go_enter Try.func17, Try.ntmps17
  go_wp2_with (go_at_call 14; refine (len_none _).mono ?_; rintro e w' ⟨rfl, en⟩; replace E := E.then0 en; clear en)
  go_ret
  exact ⟨rfl, E⟩
end Go.Proofs.Ytdhajfimhjbbiaa.PL
