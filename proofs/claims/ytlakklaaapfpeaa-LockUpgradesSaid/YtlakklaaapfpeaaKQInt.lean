import Derived.Deep.AppendSrc
import Derived.Test.YtlakklaaapfpeaaProg
import Derived.BigRegion
import Derived.BigQuiet
import Derived.Deep.QuietTactic
import Derived.Deep.AppendLies
import Derived.ChangeAlike
import Derived.Outline
import Derived.WalkKit
import Derived.KernelRfl
import Derived.Deep.LoopGhost
import Derived.Deep.RegionLaw
import Derived.Test.YtlakklaaapfpeaaWMore
import Derived.Test.YtlakklaaapfpeaaWKept
import Derived.Test.YtlakklaaapfpeaaLSep
import Derived.Test.YtlakklaaapfpeaaK4
namespace Go.Proofs.Ytlakklaaapfpeaa.LK
open Go Go.RowKit Go.Proofs.YtlakklaaapfpeaaW.PrintWords Go.Proofs.YtlakklaaapfpeaaW.PrintLast Go.Proofs.YtlakklaaapfpeaaW.PrintMore Go.Proofs.Ytlakklaaapfpeaa.L
set_option linter.unusedVariables false
set_option linter.unusedSimpArgs false
def cellsI (c : Int) : List Value := [.int .i64 c]
theorem lenI (x : Int) : (cellsI x).length = 1 := rfl
theorem oneI (l : List Int) : ∀ u ∈ flatE cellsI l, u.oneCell' = true := by
  intro u hu
  obtain ⟨x, _, hx⟩ := List.mem_flatMap.1 hu
  simp only [cellsI, List.mem_cons, List.not_mem_nil, or_false] at hx
  subst hx; rfl
abbrev RowI (w : World) (g cap : Nat) (l : List Int) : Prop := RowX cellsI 1 3 w 0 g cap l
/-- v is the queue xs: a row whose first ones may have been taken. -/
def QI (v : Value) (xs : List Int) : HP where
  on := fun W F => ((∃ A, v = .slice A 0 0 ∧ xs = []) ∨ ∃ g cap pre, v = .slice (some ⟨g, pre.length * 1, none⟩) xs.length (cap - pre.length) ∧ RowI W g cap (pre ++ xs) ∧ F g) ∧ ∀ k, F k → k < W.heap.size
  frame := by
    rintro W W' F ⟨h, hl⟩ hk
    refine ⟨?_, fun k hF => lt_of_same (hl k hF) (hk k hF)⟩
    rcases h with h | ⟨g, cap, pre, h1, h2, h3⟩
    · exact .inl h
    · obtain ⟨cur, rest, hh, hc, ht⟩ := h2.has
      exact .inr ⟨g, cap, pre, h1, ⟨h2.le, h2.len, h2.max, cur, rest, (hk g h3).trans hh, hc, ht⟩, h3⟩
  lt := fun h hk => h.2 _ hk
theorem QI.empty (W : World) : (QI (.slice none 0 0) []).on W (fun _ => False) := ⟨.inl ⟨_, rfl, rfl⟩, fun _ h => h.elim⟩
/-- What is read of it. -/
theorem QI.reads {v : Value} {xs : List Int} {W : World} {F : Nat → Prop} (h : (QI v xs).on W F) : ∃ A c, v = .slice A xs.length c ∧ xs.length ≤ c ∧ ∀ i, i < xs.length → ∃ g o, A = some ⟨g, o, none⟩ ∧ W.cell? ⟨g, o + i, none⟩ = some (.int .i64 (xs.getD i default)) := by
  rcases h.1 with ⟨A, rfl, rfl⟩ | ⟨g, cap, pre, rfl, h2, h3⟩
  · exact ⟨A, 0, rfl, Nat.le_refl _, fun i hi => absurd hi (Nat.not_lt_zero _)⟩
  · have hl := h2.len
    rw [List.length_append] at hl
    refine ⟨_, _, rfl, by omega, fun i hi => ⟨g, pre.length * 1, rfl, ?_⟩⟩
    have key : ∀ j u, (cellsI (xs.getD i default))[j]? = some u → W.cell? ⟨g, pre.length * 1 + i * 1 + j, none⟩ = some u := by
      intro j u hu
      have hj : j < 1 := (List.getElem?_eq_some_iff.1 hu).1
      refine h2.cells _ _ ?_
      rw [flatE_append, List.getElem?_append_right (by rw [flatE_length lenI]; omega), flatE_length lenI]
      have hx : xs = xs.take i ++ xs.getD i default :: xs.drop (i + 1) := by
        simp [List.getD, hi]
      rw [show pre.length * 1 + i * 1 + j - pre.length * 1 = i * 1 + j by omega]
      generalize hq : xs.getD i default = q at *
      rw [hx, flatE_append, flatE_cons, List.getElem?_append_right (by rw [flatE_length lenI, List.length_take]; omega), flatE_length lenI, List.length_take, Nat.min_eq_left (by omega), Nat.add_sub_cancel_left, List.getElem?_append_left (by rw [lenI]; exact hj)]
      exact hu
    have := key 0 _ rfl
    rwa [Nat.mul_one i, Nat.add_zero] at this
/-- The first one is taken. -/
theorem QI.pop {x : Int} {xs : List Int} {A : Option Addr} {n c : Nat} {W : World} {F : Nat → Prop} (h : (QI (.slice A n c) (x :: xs)).on W F) : (QI (sliced A 1 n c 1) xs).on W F := by
  refine ⟨?_, h.2⟩
  rcases h.1 with ⟨A, _, hx⟩ | ⟨g, cap, pre, hv, h2, h3⟩
  · cases hx
  · injection hv with ha hn hc
    subst ha hn hc
    have hl := h2.len
    rw [List.length_append, List.length_cons] at hl
    unfold sliced
    by_cases hcap : cap - pre.length = 1
    · left
      have hx : xs = [] := by
        cases xs with
        | nil => rfl
        | cons _ _ => simp only [List.length_cons] at hl; omega
      subst hx
      rw [if_pos hcap]
      exact ⟨_, by rw [hcap]; rfl, rfl⟩
    · right
      refine ⟨g, cap, pre ++ [x], ?_, by rw [List.append_assoc]; exact h2, h3⟩
      rw [if_neg hcap, Option.map_some, at_off, List.length_append, List.length_cons, List.length_cons, List.length_nil]
      all_goals (congr 1 <;> first | omega | (congr 2; omega))
theorem infoI0 : ∃ i0, Try.prog.info? 3 = some i0 ∧ i0.zero = some (.int .i64 0) ∧ i0.size = 1 ∧ i0.bytes = 8 := by
  have h : (Try.prog.info? 3).map (fun i => (i.zero, i.size, i.bytes)) = some (some (.int .i64 0), 1, 8) := by kernel_rfl
  obtain ⟨i0, hi, hz⟩ := Option.map_eq_some_iff.1 h
  simp only [Prod.mk.injEq] at hz
  exact ⟨i0, hi, hz.1, hz.2.1, hz.2.2⟩
theorem QI.old {A : Option Addr} {n c : Nat} {xs : List Int} {W : World} {F : Nat → Prop} (h : (QI (.slice A n c) xs).on W F) (W' : World) (hk : ∀ k, F k → W'.heap[k]? = W.heap[k]?) : (Builtin.firstCells 1 xs.length (.slice A n c)).run Try.prog W' = .ok (flatE cellsI xs).toArray W' := by
  rcases h.1 with ⟨A', hv, rfl⟩ | ⟨g, cap, pre, hv, h2, h3⟩
  · injection hv with ha hn hc
    subst ha hn hc
    exact first_none
  · injection hv with ha hn hc
    subst ha hn hc
    obtain ⟨cur, rest, hh, hcs, ht⟩ := h2.has
    have h2' : RowI W' g cap (pre ++ xs) := ⟨h2.le, h2.len, h2.max, cur, rest, (hk g h3).trans hh, hcs, ht⟩
    refine run_firstCells_some (P := Try.prog) W' 1 xs.length ⟨g, pre.length * 1, none⟩ xs.length _ _ (flatE_length lenI xs) (fun j u hj => ?_)
    rw [Addr.add_lit]
    refine h2'.cells _ u ?_
    rw [flatE_append, List.getElem?_append_right (by rw [flatE_length lenI]; omega), flatE_length lenI, Nat.add_sub_cancel_left, hj]
/-- One more behind. -/
theorem QI.append {A : Option Addr} {n c vb : Nat} {xs : List Int} {x : Int} {W : World} {F : Nat → Prop} (h : (QI (.slice A n c) xs).on W F) (hm : xs.length < 900000) (hv : W.heap[vb]? = some (.cells (cellsI x).toArray 3 (0, 0))) (ty : TypeId) :
    ∃ v' w', (Builtin.append_ #[44, 44] ty #[.slice A n c, .slice (some ⟨vb, 0, none⟩) 1 1]).run Try.prog W = .ok v' w' ∧ Upd W F (QI v' (xs ++ [x])) w' := by
  obtain ⟨i0, hi0, hz0, hz1, hz2⟩ := infoI0
  have hs : Src Try.prog i0.size 44 (.slice (some ⟨vb, 0, none⟩) 1 1) 1 (cellsI x) W :=
    Src.ofSlice (P := Try.prog) W Try.underlying44 ⟨vb, 0, none⟩ 1 1 (cellsI x) (by rw [hz1]; rfl) (fun j u hj => by rw [Addr.add_lit, Nat.zero_add, blk_cell hv j, List.getElem?_toArray]; exact hj) (by intro u hu; exact oneI [x] u (by simpa [flatE] using hu))
  have hn : n = xs.length := by
    rcases h.1 with ⟨A', hv, rfl⟩ | ⟨g, cap, pre, hv, h2, h3⟩
    · injection hv with _ hn _
    · injection hv with _ hn _
  by_cases hroom : xs.length + 1 ≤ c
  · rcases h.1 with ⟨A', hv', rfl⟩ | ⟨g, cap, pre, hv', h2, h3⟩
    · injection hv' with _ _ hc
      omega
    · injection hv' with ha hn' hc
      subst ha hc
      subst hn
      have hl := h2.len
      rw [List.length_append] at hl
      obtain ⟨cur, rest, hh, hcs, ht⟩ := h2.has
      have hrun := run_append_room_src (P := Try.prog) W 44 44 ty 3 i0 Try.underlying44 hi0 g (pre.length * 1) xs.length (cap - pre.length) _ 1 _ hs hroom
        (fun j hj => h2.some _ (by rw [lenI] at hj; rw [hz1]; omega)) (fun j _ => h2.free _)
      refine ⟨_, _, hrun, ?_⟩
      have hsh := RowX.shift lenI h2 (i := (pre ++ xs).length) (Nat.le_refl _) (by rw [List.length_append]; omega) x
      rw [List.drop_length, List.take_length] at hsh
      have hw : W.setCells g (((pre ++ xs).length + 1) * 1) (flatE cellsI []) = W := rfl
      rw [hw] at hsh
      have e : pre.length * 1 + xs.length * i0.size = (pre ++ xs).length * 1 := by rw [hz1, List.length_append]; omega
      rw [e]
      refine ⟨F, ⟨.inr ⟨g, cap, pre, by rw [List.length_append]; rfl, by rw [← List.append_assoc]; exact hsh, h3⟩, fun k hk => ?_⟩, (eff_setCells g _ _ W).mono (fun i hi => by subst hi; exact h3), fun _ hk => .inl hk⟩
      exact Nat.lt_of_lt_of_le (h.2 k hk) (eff_setCells g _ (cellsI x) W).size
  · have hold := QI.old h W.drew (fun k _ => rfl)
    subst hn
    have hrun := run_append_grow_src (P := Try.prog) W 44 44 ty 3 i0 _ Try.underlying44 hi0 hz0 A xs.length c _ (by rw [hz1]; exact hold) _ 1 _ hs (by omega) (by omega) (growslice_fits (bytes := i0.bytes) (by omega) (by rw [hz2]; omega))
    refine ⟨_, _, hrun, ?_⟩
    obtain ⟨cap', hcap⟩ : ∃ cap', cap' = grownCap W (xs.length + 1) c 3 := ⟨_, rfl⟩
    have hc1 : xs.length + 1 ≤ cap' := by rw [hcap]; exact grownCap_ge W _ c _
    have hc2 : cap' ≤ maxLen := by rw [hcap]; exact grownCap_le_maxLen W _ c _ (by simp only [maxLen]; omega)
    rw [← hcap]
    have hflat : flatE cellsI xs ++ cellsI x = flatE cellsI (xs ++ [x]) := by rw [flatE_append]; simp [flatE]
    rw [hflat]
    refine Upd.mk (F' := fun k => k = W.heap.size) ⟨.inr ⟨W.heap.size, cap', [], by rw [List.length_append]; rfl, ⟨Nat.zero_le _, by simp; omega, hc2, _, _, heap_alloc_new W.drew _, ?_, by rw [List.nil_append, Array.toList_append]⟩, rfl⟩, by rintro k rfl; show _ < (W.drew.alloc _).heap.size; simp⟩ (((Eff.refl _ _).drew.alloc _).any F) (fun k hk => .inr (by rw [hk]; exact Nat.le_refl _))
    rw [Array.size_append, List.size_toArray, flatE_length lenI, List.length_append, size_zeroCells]
    show (xs.length + 1) * 1 + (cap' - (xs.length + 1)) * 1 = cap' * 1
    omega
theorem QI.shape {v : Value} {xs : List Int} {W : World} {F : Nat → Prop} (h : (QI v xs).on W F) : ∃ A c, v = .slice A xs.length c := by
  obtain ⟨A, c, hv, _⟩ := QI.reads h
  exact ⟨A, c, hv⟩
/-- One more behind, the one to be added newly made. -/
theorem qi_add {A : Option Addr} {n c : Nat} {xs : List Int} {W w : World} {F : Nat → Prop} {R : HP} (u : Upd W F (Sep (QI (.slice A n c) xs) R) w) (hm : xs.length < 900000) (x : Int) :
    ∃ A' c' w', (∀ ty, (Builtin.append_ #[44, 44] ty #[.slice A n c, .slice (some ⟨w.heap.size, 0, none⟩) 1 1]).run Try.prog (w.alloc (.cells #[.int .i64 x] 3)) = .ok (.slice A' (xs.length + 1) c') w') ∧ Upd W F (Sep (QI (.slice A' (xs.length + 1) c') (xs ++ [x])) R) w' := by
  have u2 := u.after ((Eff.refl (fun _ => False) w).alloc (.cells #[.int .i64 x] 3))
  obtain ⟨G, hG, e1, k1⟩ := u2
  obtain ⟨F2, h2, _, lift⟩ := Sep.focus hG
  have hrun := fun ty => QI.append h2 hm (x := x) (heap_alloc_new w (.cells #[.int .i64 x] 3)) ty
  obtain ⟨v, w', hr, hU⟩ := hrun 0
  obtain ⟨A', c', hv⟩ : ∃ A c, v = .slice A (xs ++ [x]).length c := by
    obtain ⟨G3, hG3, _⟩ := hU
    exact QI.shape hG3
  rw [List.length_append, List.length_singleton] at hv
  subst hv
  refine ⟨A', c', w', fun ty => hr, Upd.go e1 k1 (lift _ _ hU)⟩
theorem qi_len {A : Option Addr} {n c : Nat} {xs : List Int} {W w : World} {F : Nat → Prop} {R : HP} (u : Upd W F (Sep (QI (.slice A n c) xs) R) w) : n = xs.length ∧ ∀ i, i < xs.length → ∃ g o, A = some ⟨g, o, none⟩ ∧ w.cell? ⟨g, o + i, none⟩ = some (.int .i64 (xs.getD i default)) := by
  obtain ⟨_, ⟨G1, G2, g1, _, _⟩, _⟩ := u
  obtain ⟨A', c', hv, _, hR⟩ := QI.reads g1
  injection hv with ha hn hc
  subst ha
  exact ⟨hn, hR⟩
end Go.Proofs.Ytlakklaaapfpeaa.LK
