import Derived.Test.YtlakklaaapfpeaaProg
import Derived.BigRegion
import Derived.BigQuiet
import Derived.Deep.QuietTactic
import Derived.Deep.AppendLies
import Derived.ChangeAlike
import Derived.Outline
import Derived.WalkKit
import Derived.KernelRfl
import Derived.Deep.LoopGhost
import Derived.Deep.RegionLaw
import Derived.Test.YtlakklaaapfpeaaWMore
import Derived.Test.YtlakklaaapfpeaaWKept
import Derived.Test.YtlakklaaapfpeaaLSep
import Derived.Test.YtlakklaaapfpeaaLRowCut
import Derived.Deep.AppendSrc
import Derived.Lib.AppendZerosOnto
import Derived.Lib.Overlaps
import Derived.Shelf.RegionOpenPlain
import Derived.Deep.RegionHeld3
namespace Go.Proofs.Ytlakklaaapfpeaa.LK
open Go Go.RowKit Go.Proofs.YtlakklaaapfpeaaW.PrintWords Go.Proofs.YtlakklaaapfpeaaW.PrintLast Go.Proofs.YtlakklaaapfpeaaW.PrintMore Go.Proofs.Ytlakklaaapfpeaa.L
set_option linter.unusedVariables false
set_option linter.unusedSimpArgs false
/-! ### what the table holds -/
/-- Who waits. -/
structure Wt where
  tx : Int
  all : Bool
  own : Bool
deriving Inhabited
def cellsT (c : Wt) : List Value := [.int .i64 c.tx, .bool c.all, .bool c.own]
abbrev Wt.v (c : Wt) : Value := .agg #[.int .i64 c.tx, .bool c.all, .bool c.own]
theorem lenT (x : Wt) : (cellsT x).length = 3 := rfl
theorem oneT (l : List Wt) : ∀ u ∈ flatE cellsT l, u.oneCell' = true := by
  intro u hu
  obtain ⟨x, _, hx⟩ := List.mem_flatMap.1 hu
  simp only [cellsT, List.mem_cons, List.not_mem_nil, or_false] at hx
  rcases hx with rfl | rfl | rfl <;> rfl
abbrev RowT (w : World) (g cap : Nat) (l : List Wt) : Prop := RowX cellsT 3 62 w 0 g cap l
/-- v is the queue xs: a row whose first ones may have been taken. -/
def QAt (v : Value) (xs : List Wt) : HP where
  on := fun W F => ((∃ A, v = .slice A 0 0 ∧ xs = []) ∨ ∃ g cap pre, v = .slice (some ⟨g, pre.length * 3, none⟩) xs.length (cap - pre.length) ∧ RowT W g cap (pre ++ xs) ∧ F g) ∧ ∀ k, F k → k < W.heap.size
  frame := by
    rintro W W' F ⟨h, hl⟩ hk
    refine ⟨?_, fun k hF => lt_of_same (hl k hF) (hk k hF)⟩
    rcases h with h | ⟨g, cap, pre, h1, h2, h3⟩
    · exact .inl h
    · obtain ⟨cur, rest, hh, hc, ht⟩ := h2.has
      exact .inr ⟨g, cap, pre, h1, ⟨h2.le, h2.len, h2.max, cur, rest, (hk g h3).trans hh, hc, ht⟩, h3⟩
  lt := fun h hk => h.2 _ hk
theorem QAt.empty (W : World) : (QAt (.slice none 0 0) []).on W (fun _ => False) := ⟨.inl ⟨_, rfl, rfl⟩, fun _ h => h.elim⟩
theorem at_off (g o i : Nat) : (⟨g, o, none⟩ : Addr).add i = ⟨g, o + i, none⟩ := by
  unfold Addr.add
  split
  · subst_vars; rfl
  · rfl
/-- What is read of it. -/
theorem QAt.reads {v : Value} {xs : List Wt} {W : World} {F : Nat → Prop} (h : (QAt v xs).on W F) : ∃ A c, v = .slice A xs.length c ∧ xs.length ≤ c ∧ ∀ i, i < xs.length → ∃ g o, A = some ⟨g, o, none⟩ ∧ W.cell? ⟨g, o + i * 3, none⟩ = some (.int .i64 (xs.getD i default).tx) ∧ W.cell? ⟨g, o + i * 3 + 1, none⟩ = some (.bool (xs.getD i default).all) ∧ W.cell? ⟨g, o + i * 3 + 2, none⟩ = some (.bool (xs.getD i default).own) := by
  rcases h.1 with ⟨A, rfl, rfl⟩ | ⟨g, cap, pre, rfl, h2, h3⟩
  · exact ⟨A, 0, rfl, Nat.le_refl _, fun i hi => absurd hi (Nat.not_lt_zero _)⟩
  · have hl := h2.len
    rw [List.length_append] at hl
    refine ⟨_, _, rfl, by omega, fun i hi => ⟨g, pre.length * 3, rfl, ?_⟩⟩
    have key : ∀ j u, (cellsT (xs.getD i default))[j]? = some u → W.cell? ⟨g, pre.length * 3 + i * 3 + j, none⟩ = some u := by
      intro j u hu
      have hj : j < 3 := (List.getElem?_eq_some_iff.1 hu).1
      refine h2.cells _ _ ?_
      rw [flatE_append, List.getElem?_append_right (by rw [flatE_length lenT]; omega), flatE_length lenT]
      have hx : xs = xs.take i ++ xs.getD i default :: xs.drop (i + 1) := by
        simp [List.getD, hi]
      rw [show pre.length * 3 + i * 3 + j - pre.length * 3 = i * 3 + j by omega]
      generalize hq : xs.getD i default = q at *
      rw [hx, flatE_append, flatE_cons, List.getElem?_append_right (by rw [flatE_length lenT, List.length_take]; omega), flatE_length lenT, List.length_take, Nat.min_eq_left (by omega), Nat.add_sub_cancel_left, List.getElem?_append_left (by rw [lenT]; exact hj)]
      exact hu
    exact ⟨key 0 _ rfl, key 1 _ rfl, key 2 _ rfl⟩
/-- The first one is taken. -/
theorem QAt.pop {x : Wt} {xs : List Wt} {A : Option Addr} {n c : Nat} {W : World} {F : Nat → Prop} (h : (QAt (.slice A n c) (x :: xs)).on W F) : (QAt (sliced A 1 n c 3) xs).on W F := by
  refine ⟨?_, h.2⟩
  rcases h.1 with ⟨A, _, hx⟩ | ⟨g, cap, pre, hv, h2, h3⟩
  · cases hx
  · injection hv with ha hn hc
    subst ha hn hc
    have hl := h2.len
    rw [List.length_append, List.length_cons] at hl
    unfold sliced
    by_cases hcap : cap - pre.length = 1
    · left
      have hx : xs = [] := by
        cases xs with
        | nil => rfl
        | cons _ _ => simp only [List.length_cons] at hl; omega
      subst hx
      rw [if_pos hcap]
      exact ⟨_, by rw [hcap]; rfl, rfl⟩
    · right
      refine ⟨g, cap, pre ++ [x], ?_, by rw [List.append_assoc]; exact h2, h3⟩
      rw [if_neg hcap, Option.map_some, at_off, List.length_append, List.length_cons, List.length_cons, List.length_nil]
      all_goals (congr 1 <;> first | omega | (congr 2; omega))
/-! ### an entry -/
/-- Who holds a key, and how; who waits. -/
structure Le where
  h : List (Int × Int)
  q : List Wt
deriving Inhabited
def ints (l : List (Int × Int)) : List (Int × Value) := l.map (fun p => (p.1, .int .i64 p.2))
def putI (l : List (Int × Int)) (k v : Int) : List (Int × Int) := if l.any (fun p => decide (p.1 = k)) then l.map (fun p => if p.1 = k then (k, v) else p) else l ++ [(k, v)]
def getI (l : List (Int × Int)) (k : Int) : Int := ((l.find? (fun p => decide (p.1 = k))).map (·.2)).getD 0
def delI (l : List (Int × Int)) (k : Int) : List (Int × Int) := l.filter (fun p => decide (p.1 ≠ k))
theorem look_ints (l : List (Int × Int)) (k : Int) : L.look (ints l) k = ((l.find? (fun p => decide (p.1 = k))).map (fun p => Value.int .i64 p.2)) := by
  unfold L.look ints
  rw [List.find?_map]
  have e : ((fun p : Int × Value => decide (p.1 = k)) ∘ fun p : Int × Int => (p.1, Value.int .i64 p.2)) = fun p => decide (p.1 = k) := rfl
  rw [e]
  cases l.find? (fun p => decide (p.1 = k)) <;> rfl
theorem look_getI (l : List (Int × Int)) (k : Int) : (L.look (ints l) k).getD (.int .i64 0) = .int .i64 (getI l k) := by
  rw [look_ints]
  unfold getI
  cases l.find? (fun p => decide (p.1 = k)) <;> rfl
theorem ints_put (l : List (Int × Int)) (k v : Int) : L.put (ints l) k (.int .i64 v) = ints (putI l k v) := by
  unfold L.put putI
  have e : (L.look (ints l) k).isSome = l.any (fun p => decide (p.1 = k)) := by
    rw [look_ints]
    cases hf : l.find? (fun p => decide (p.1 = k)) with
    | none => simpa using hf
    | some p =>
      have h1 := List.mem_of_find?_eq_some hf
      have h2 : p.1 = k := by simpa using List.find?_some hf
      simp only [Option.map_some, Option.isSome_some]
      exact (List.any_eq_true.2 ⟨p, h1, by simpa using h2⟩).symm
  rw [e]
  split
  · unfold ints
    rw [List.map_map, List.map_map]
    refine List.map_congr_left (fun p _ => ?_)
    simp only [Function.comp_apply]
    split <;> rfl
  · unfold ints
    simp
theorem ints_del (l : List (Int × Int)) (k : Int) : L.del (ints l) k = ints (delI l k) := by
  unfold L.del ints delI
  rw [List.filter_map]
  rfl
/-- Something is there. -/
def HEx {α : Type} (f : α → HP) : HP where
  on := fun W F => ∃ a, (f a).on W F
  frame := fun ⟨a, h⟩ hk => ⟨a, (f a).frame h hk⟩
  lt := fun ⟨a, h⟩ hk => (f a).lt h hk
/-- Block b is an entry. -/
def EntAt (b : Nat) (x : Le) : HP := HEx (fun p : Nat × Value => Sep (CellsAt b #[.map (some p.1), p.2] 59) (Sep (MapHP keyInt p.1 (ints x.h)) (QAt p.2 x.q)))
/-! ### the table -/
abbrev Ws := List (Int × ByteArray)
def txts (l : Ws) : List (Int × Value) := l.map (fun p => (p.1, .string p.2))
/-- The keys with their entries; who waits for which. -/
structure Tb where
  kb : Option Nat
  k : List (ByteArray × Nat × Le)
  wb : Option Nat
  w : Ws
def TabAt (b : Nat) (s : Tb) : HP := Sep (CellsAt b #[.map s.kb, .map s.wb] 28) (Sep (PMap keyStr EntAt s.kb s.k) (MapPart keyInt s.wb (txts s.w)))
end Go.Proofs.Ytlakklaaapfpeaa.LK
namespace Go.Proofs.Ytlakklaaapfpeaa.LK
open Go Go.RowKit Go.Proofs.YtlakklaaapfpeaaW.PrintWords Go.Proofs.YtlakklaaapfpeaaW.PrintLast Go.Proofs.YtlakklaaapfpeaaW.PrintMore Go.Proofs.Ytlakklaaapfpeaa.L
set_option linter.unusedVariables false
set_option linter.unusedSimpArgs false
theorem infoT0 : ∃ i0, Try.prog.info? 62 = some i0 ∧ i0.zero = some (.agg #[.int .i64 0, .bool false, .bool false]) ∧ i0.size = 3 ∧ i0.bytes = 16 := by
  have h : (Try.prog.info? 62).map (fun i => (i.zero, i.size, i.bytes)) = some (some (.agg #[.int .i64 0, .bool false, .bool false]), 3, 16) := by kernel_rfl
  obtain ⟨i0, hi, hz⟩ := Option.map_eq_some_iff.1 h
  simp only [Prod.mk.injEq] at hz
  exact ⟨i0, hi, hz.1, hz.2.1, hz.2.2⟩
theorem first_none {W : World} {A : Option Addr} {k c : Nat} : (Builtin.firstCells k 0 (.slice A 0 c)).run Try.prog W = .ok (#[] : Array Value) W := by
  cases A with
  | none => exact run_firstCells_none W k 0 0 c
  | some a => exact run_firstCells_some (P := Try.prog) W k 0 a 0 c [] (by simp) (fun j v h => by simp at h)
theorem QAt.old {A : Option Addr} {n c : Nat} {xs : List Wt} {W : World} {F : Nat → Prop} (h : (QAt (.slice A n c) xs).on W F) (W' : World) (hk : ∀ k, F k → W'.heap[k]? = W.heap[k]?) : (Builtin.firstCells 3 xs.length (.slice A n c)).run Try.prog W' = .ok (flatE cellsT xs).toArray W' := by
  rcases h.1 with ⟨A', hv, rfl⟩ | ⟨g, cap, pre, hv, h2, h3⟩
  · injection hv with ha hn hc
    subst ha hn hc
    exact first_none
  · injection hv with ha hn hc
    subst ha hn hc
    obtain ⟨cur, rest, hh, hcs, ht⟩ := h2.has
    have h2' : RowT W' g cap (pre ++ xs) := ⟨h2.le, h2.len, h2.max, cur, rest, (hk g h3).trans hh, hcs, ht⟩
    refine run_firstCells_some (P := Try.prog) W' 3 xs.length ⟨g, pre.length * 3, none⟩ xs.length _ _ (flatE_length lenT xs) (fun j u hj => ?_)
    rw [Addr.add_lit]
    refine h2'.cells _ u ?_
    rw [flatE_append, List.getElem?_append_right (by rw [flatE_length lenT]; omega), flatE_length lenT, Nat.add_sub_cancel_left, hj]
/-- One more behind. -/
theorem QAt.append {A : Option Addr} {n c vb : Nat} {xs : List Wt} {x : Wt} {W : World} {F : Nat → Prop} (h : (QAt (.slice A n c) xs).on W F) (hm : xs.length < 900000) (hv : W.heap[vb]? = some (.cells (cellsT x).toArray 62 (0, 0))) (ty : TypeId) :
    ∃ v' w', (Builtin.append_ #[57, 57] ty #[.slice A n c, .slice (some ⟨vb, 0, none⟩) 1 1]).run Try.prog W = .ok v' w' ∧ Upd W F (QAt v' (xs ++ [x])) w' := by
  obtain ⟨i0, hi0, hz0, hz1, hz2⟩ := infoT0
  have hs : Src Try.prog i0.size 57 (.slice (some ⟨vb, 0, none⟩) 1 1) 1 (cellsT x) W :=
    Src.ofSlice (P := Try.prog) W Try.underlying57 ⟨vb, 0, none⟩ 1 1 (cellsT x) (by rw [hz1]; rfl) (fun j u hj => by rw [Addr.add_lit, Nat.zero_add, blk_cell hv j, List.getElem?_toArray]; exact hj) (by intro u hu; exact oneT [x] u (by simpa [flatE] using hu))
  have hn : n = xs.length := by
    rcases h.1 with ⟨A', hv, rfl⟩ | ⟨g, cap, pre, hv, h2, h3⟩
    · injection hv with _ hn _
    · injection hv with _ hn _
  by_cases hroom : xs.length + 1 ≤ c
  · rcases h.1 with ⟨A', hv', rfl⟩ | ⟨g, cap, pre, hv', h2, h3⟩
    · injection hv' with _ _ hc
      omega
    · injection hv' with ha hn' hc
      subst ha hc
      subst hn
      have hl := h2.len
      rw [List.length_append] at hl
      obtain ⟨cur, rest, hh, hcs, ht⟩ := h2.has
      have hrun := run_append_room_src (P := Try.prog) W 57 57 ty 62 i0 Try.underlying57 hi0 g (pre.length * 3) xs.length (cap - pre.length) _ 1 _ hs hroom
        (fun j hj => h2.some _ (by rw [lenT] at hj; rw [hz1]; omega)) (fun j _ => h2.free _)
      refine ⟨_, _, hrun, ?_⟩
      have hsh := RowX.shift lenT h2 (i := (pre ++ xs).length) (Nat.le_refl _) (by rw [List.length_append]; omega) x
      rw [List.drop_length, List.take_length] at hsh
      have hw : W.setCells g (((pre ++ xs).length + 1) * 3) (flatE cellsT []) = W := rfl
      rw [hw] at hsh
      have e : pre.length * 3 + xs.length * i0.size = (pre ++ xs).length * 3 := by rw [hz1, List.length_append]; omega
      rw [e]
      refine ⟨F, ⟨.inr ⟨g, cap, pre, by rw [List.length_append]; rfl, by rw [← List.append_assoc]; exact hsh, h3⟩, fun k hk => ?_⟩, (eff_setCells g _ _ W).mono (fun i hi => by subst hi; exact h3), fun _ hk => .inl hk⟩
      exact Nat.lt_of_lt_of_le (h.2 k hk) (eff_setCells g _ (cellsT x) W).size
  · have hold := QAt.old h W.drew (fun k _ => rfl)
    subst hn
    have hrun := run_append_grow_src (P := Try.prog) W 57 57 ty 62 i0 _ Try.underlying57 hi0 hz0 A xs.length c _ (by rw [hz1]; exact hold) _ 1 _ hs (by omega) (by omega) (growslice_fits (bytes := i0.bytes) (by omega) (by rw [hz2]; omega))
    refine ⟨_, _, hrun, ?_⟩
    obtain ⟨cap', hcap⟩ : ∃ cap', cap' = grownCap W (xs.length + 1) c 62 := ⟨_, rfl⟩
    have hc1 : xs.length + 1 ≤ cap' := by rw [hcap]; exact grownCap_ge W _ c _
    have hc2 : cap' ≤ maxLen := by rw [hcap]; exact grownCap_le_maxLen W _ c _ (by simp only [maxLen]; omega)
    rw [← hcap]
    have hflat : flatE cellsT xs ++ cellsT x = flatE cellsT (xs ++ [x]) := by rw [flatE_append]; simp [flatE]
    rw [hflat]
    refine Upd.mk (F' := fun k => k = W.heap.size) ⟨.inr ⟨W.heap.size, cap', [], by rw [List.length_append]; rfl, ⟨Nat.zero_le _, by simp; omega, hc2, _, _, heap_alloc_new W.drew _, ?_, by rw [List.nil_append, Array.toList_append]⟩, rfl⟩, by rintro k rfl; show _ < (W.drew.alloc _).heap.size; simp⟩ (((Eff.refl _ _).drew.alloc _).any F) (fun k hk => .inr (by rw [hk]; exact Nat.le_refl _))
    rw [Array.size_append, List.size_toArray, flatE_length lenT, List.length_append, size_zeroCells]
    show (xs.length + 1) * 3 + (cap' - (xs.length + 1)) * 3 = cap' * 3
    omega
end Go.Proofs.Ytlakklaaapfpeaa.LK
namespace Go.Proofs.Ytlakklaaapfpeaa.LK
open Go Go.RowKit Go.Proofs.YtlakklaaapfpeaaW.PrintWords Go.Proofs.YtlakklaaapfpeaaW.PrintLast Go.Proofs.YtlakklaaapfpeaaW.PrintMore Go.Proofs.Ytlakklaaapfpeaa.L
set_option linter.unusedVariables false
set_option linter.unusedSimpArgs false
set_option maxHeartbeats 1600000 in
set_option maxRecDepth 100000 in
/-- There is room: in place. -/
theorem insert_shift (w : World) (g cap i vb : Nat) (pre xs : List Wt) (c : Wt) (h : RowT w g cap (pre ++ xs)) (hi : i < xs.length) (hr : pre.length + xs.length + 1 ≤ cap) (hv : w.heap[vb]? = some (.cells (cellsT c).toArray 62 (0, 0))) (hne : vb ≠ g) :
    Calls Try.prog 39 #[.slice (some ⟨g, pre.length * 3, none⟩) xs.length (cap - pre.length), .int .i64 i, .slice (some ⟨vb, 0, none⟩) 1 1] w fun e w' => e = .returned (.slice (some ⟨g, pre.length * 3, none⟩) (xs.length + 1) (cap - pre.length)) ∧ RowT w' g cap (pre ++ (xs.take i ++ c :: xs.drop i)) ∧ Eff (fun k => k = g) w w' := by
  obtain ⟨i0, hi0, hz0, hz1, hz2⟩ := infoT0
  have hcap : cap ≤ 9223372036854775807 := by have := h.max; simp only [maxLen] at this; omega
  obtain ⟨n, hn⟩ : ∃ n, n = xs.length := ⟨_, rfl⟩
  obtain ⟨O, hO⟩ : ∃ O, O = pre.length * 3 := ⟨_, rfl⟩
  obtain ⟨C, hC⟩ : ∃ C, C = cap - pre.length := ⟨_, rfl⟩
  obtain ⟨cur, rest, hh, hcur, hct⟩ := h.has
  have hov : ∀ lb cb, (callFunc 47 #[.slice (some ⟨vb, 0, none⟩) 1 1, .slice (some ⟨g, O + (i + 1) * 3, none⟩) lb cb]).run Try.prog w = .ok (.value (.bool false)) w := fun lb cb => by
    rw [run_callFunc_extern Try.func47 (by kernel_rfl) (by kernel_rfl) (by kernel_rfl) (e := Extern.SlicesOverlaps.overlaps #[57, 57] #[4]) (by kernel_rfl),
      Lib.run_overlaps_apart w 57 4 62 Try.underlying57 3 Try.sizeOf62 ⟨vb, 0, none⟩ ⟨g, O + (i + 1) * 3, none⟩ 1 1 lb cb hne 62 62 3 (cap * 3) (by simp [World.shape?, hv, cellsT]) (by simp [World.shape?, hh, hcur]) (by omega) (blk_frozen hv _) (blk_frozen hv _)]
    rfl
  have hcp1 : ∀ ty dc sc, (Builtin.copy_ #[57, 57] ty #[.slice (some ⟨g, O + (i + 1) * 3, none⟩) (n - i) dc, .slice (some ⟨g, O + i * 3, none⟩) (n + 1 - i) sc]).run Try.prog w.drew = .ok (goInt ((n - i : Nat) : Int)) (w.drew.setCells g (O + (i + 1) * 3) (flatE cellsT (xs.drop i))) := fun ty dc sc => by
    have hmin : Nat.min (n + 1 - i) (n - i) = n - i := by simp only [Nat.min_def]; split <;> omega
    have hlen : (flatE cellsT (xs.drop i)).length = (n - i) * 3 := by rw [flatE_length lenT, List.length_drop, ← hn]
    have := run_copyK (P := Try.prog) w.drew 57 57 ty 62 i0 3 Try.underlying57 hi0 hz1 g (O + (i + 1) * 3) (n - i) dc ⟨g, O + i * 3, none⟩ (n + 1 - i) sc (flatE cellsT (xs.drop i)) (by rw [hmin, hlen])
      (fun j v hj => by
        rw [Addr.add_lit]
        refine h.cells (O + i * 3 + j) v ?_
        rw [flatE_append, List.getElem?_append_right (by rw [flatE_length lenT]; omega), flatE_length lenT, ← hO, show O + i * 3 + j - O = i * 3 + j by omega]
        rw [flatE_parts xs i, List.getElem?_append_right (by rw [flatE_length lenT, List.length_take]; omega), flatE_length lenT, List.length_take, Nat.min_eq_left (by omega), Nat.add_sub_cancel_left]
        exact hj)
      (fun j hj => h.some _ (by omega)) (fun j _ => h.free _) (oneT _)
    rw [hmin] at this
    exact this
  obtain ⟨W1, hW1⟩ : ∃ W1, W1 = w.drew.setCells g (O + (i + 1) * 3) (flatE cellsT (xs.drop i)) := ⟨_, rfl⟩
  have e1 : Eff (fun k => k = g) w W1 := by rw [hW1]; exact (Eff.refl _ _).drew.trans (eff_setCells _ _ _ _) (fun _ h => .inl h)
  have hlen : (flatE cellsT (xs.drop i)).length = (n - i) * 3 := by rw [flatE_length lenT, List.length_drop, ← hn]
  obtain ⟨cur1, h3, h4, h5⟩ := setCells_row (flatE cellsT (xs.drop i)) (O + (i + 1) * 3) w.drew cur hh (by rw [hcur]; omega)
  rw [← hW1] at h3
  have hcp2 : ∀ ty dc, (Builtin.copy_ #[57, 57] ty #[.slice (some ⟨g, O + i * 3, none⟩) (n + 1 - i) dc, .slice (some ⟨vb, 0, none⟩) 1 1]).run Try.prog W1 = .ok (goInt ((1 : Nat) : Int)) (W1.setCells g (O + i * 3) (cellsT c)) := fun ty dc => by
    have hmin : Nat.min 1 (n + 1 - i) = 1 := by simp only [Nat.min_def]; split <;> omega
    have := run_copyK (P := Try.prog) W1 57 57 ty 62 i0 3 Try.underlying57 hi0 hz1 g (O + i * 3) (n + 1 - i) dc ⟨vb, 0, none⟩ 1 1 (cellsT c) (by rw [hmin]; rfl)
      (fun j v hj => by
        rw [Addr.add_lit, Nat.zero_add, e1.cell (blk_lt hv) (by exact hne), blk_cell hv j, List.getElem?_toArray]
        exact hj)
      (fun j hj => by rw [blk_cell h3]; simp only [cellsT, List.length_cons, List.length_nil] at hj; simp [h4, hcur]; omega) (fun j _ => blk_frozen h3 _) (by intro u hu; exact oneT [c] u (by simpa [flatE] using hu))
    rw [hmin] at this
    exact this
  have hfin : RowT (W1.setCells g (O + i * 3) (cellsT c)) g cap (pre ++ (xs.take i ++ c :: xs.drop i)) ∧ Eff (fun k => k = g) w (W1.setCells g (O + i * 3) (cellsT c)) := by
    refine ⟨?_, e1.trans (eff_setCells _ _ _ _) (fun _ h => .inl h)⟩
    rw [hW1]
    have hs := RowX.shift lenT (W := w.drew) (e := 62) (base := 0) (g := g) (cap := cap) (xs := pre ++ xs) (i := pre.length + i) ⟨h.le, h.len, h.max, cur, rest, hh, hcur, hct⟩ (by rw [List.length_append]; omega) (by rw [List.length_append]; omega) c
    rw [List.take_append, List.take_of_length_le (Nat.le_add_right _ _), List.drop_append, List.drop_of_length_le (Nat.le_add_right _ _), Nat.add_sub_cancel_left, List.nil_append, List.append_assoc] at hs
    rw [show (pre.length + i + 1) * 3 = O + (i + 1) * 3 by omega, show (pre.length + i) * 3 = O + i * 3 by omega] at hs
    exact hs
  rw [← hn] at hi hr ⊢
  rw [← hO, ← hC]
  rw [← hW1] at hcp1
  have hr2 : n + 1 ≤ C := by omega
  have hC2 : C ≤ 9223372036854775807 := by omega
  have W0 := Aside0.mk hfin
  clear hn h hz0 hz1 hz2 hi0 hfin hW1 e1 h3 h4 h5 hlen hh hcur hct hv hO hC hr hcap
  have p1 : ((i : Int) = (n : Int)) = False := eq_false (by omega)
  have p2 : ((n : Int) + 1 > (C : Int)) = False := eq_false (by omega)
  have p3 : (0 ≤ (i : Int)) = True := eq_true (by omega)
  have p4 : ((i : Int) ≤ (n : Int)) = True := eq_true (by omega)
  have p5 : ((i : Int) ≤ (n : Int) + 1) = True := eq_true (by omega)
  have p6 : (0 ≤ (i : Int) + 1) = True := eq_true (by omega)
  have p8 : (C = i) = False := eq_false (by omega)
  have p9 : (C = i + 1) = False := eq_false (by omega)
  have p10 : ((i : Int) + 1).toNat = i + 1 := by omega
  have p11 : IntKind.i64.wrap ((i : Int) + 1) = (i : Int) + 1 := by rw [IntKind.wrap_i64]; omega
  have p12 : ((i : Int) + 1 ≤ (n : Int) + 1) = True := eq_true (by omega)
  have mixed : Try.prog.follows .mixedOrders = true := by kernel_rfl
  go_enter Try.func39, Try.ntmps39
  go_wp2
  go_region_law_o (refine step_bi rfl _ _ 57 57 rfl _ _ (by simp [Act.eval, Act.put]) (by simp [Act.eval, Act.put]) (hcp1 _ _ _) ?_)
  go_wp2_with (at_builtin; refine wpList_bi rfl _ _ 57 57 rfl _ _ rfl rfl (hcp2 _ _) ?_)
  go_ret
  exact ⟨rfl, W0.out⟩
set_option maxHeartbeats 1600000 in
set_option maxRecDepth 100000 in
/-- There is no room: a new row. -/
theorem insert_grow (w : World) (g cap i vb : Nat) (pre l : List Wt) (c : Wt) (h : RowT w g cap (pre ++ l)) (hi : i < l.length) (hr : cap < pre.length + l.length + 1) (hm : l.length < 900000) (hv : w.heap[vb]? = some (.cells (cellsT c).toArray 62 (0, 0))) :
    Calls Try.prog 39 #[.slice (some ⟨g, pre.length * 3, none⟩) l.length (cap - pre.length), .int .i64 i, .slice (some ⟨vb, 0, none⟩) 1 1] w fun e w' => ∃ g' cap', e = .returned (.slice (some ⟨g', 0, none⟩) (l.length + 1) cap') ∧ w.heap.size ≤ g' ∧ RowT w' g' cap' (l.take i ++ c :: l.drop i) ∧ Eff0 w w' := by
  obtain ⟨i0, hi0, hz0, hz1, hz2⟩ := infoT0
  obtain ⟨n, hn⟩ : ∃ n, n = l.length := ⟨_, rfl⟩
  obtain ⟨O, hO⟩ : ∃ O, O = pre.length * 3 := ⟨_, rfl⟩
  have hcn : n = cap - pre.length := by have := h.len; rw [List.length_append] at this; omega
  rw [← hcn, ← hO]
  obtain ⟨q, hq⟩ : ∃ q, i + q = n + 1 := ⟨n + 1 - i, by omega⟩
  have lT : (flatE cellsT (l.take i)).length = i * 3 := by rw [flatE_length lenT, List.length_take, Nat.min_eq_left (by omega)]
  have lD : (flatE cellsT (l.drop i)).length = (n - i) * 3 := by rw [flatE_length lenT, List.length_drop, ← hn]
  have hcl : ∀ j u, (flatE cellsT l)[j]? = some u → w.cell? ⟨g, O + j, none⟩ = some u := fun j u hj => by
    refine h.cells (O + j) u ?_
    rw [flatE_append, List.getElem?_append_right (by rw [flatE_length lenT]; omega), flatE_length lenT, ← hO, Nat.add_sub_cancel_left, hj]
  have hold : (Builtin.firstCells i0.size i (.slice (some ⟨g, O, none⟩) i n)).run Try.prog w.drew = .ok (flatE cellsT (l.take i)).toArray w.drew := by
    refine run_firstCells_some (P := Try.prog) w.drew i0.size i ⟨g, O, none⟩ i n _ (by rw [lT, hz1]) (fun j u hj => ?_)
    rw [Addr.add_lit]
    refine hcl j u ?_
    rw [flatE_parts l i, List.getElem?_append_left (List.getElem?_eq_some_iff.1 hj).1, hj]
  obtain ⟨cap', hcap⟩ : ∃ cap', cap' = grownCap w (i + q) n 62 := ⟨_, rfl⟩
  have hc1 : i + q ≤ cap' := by rw [hcap]; exact grownCap_ge w (i + q) n _
  have hc2 : cap' ≤ maxLen := by rw [hcap]; exact grownCap_le_maxLen w (i + q) n _ (by simp only [maxLen]; omega)
  have hrun : ∀ ty, (Builtin.append_ #[57, 3] ty #[.slice (some ⟨g, O, none⟩) i n, .int .i64 q]).run Try.prog w = _ := fun ty => Lib.run_append_grow_zeros w 57 3 ty 62 i0 (.agg #[.int .i64 0, .bool false, .bool false]) .i64 .i64 Try.underlying57 Try.underlying3 hi0 hz0 (some ⟨g, O, none⟩) i n _ hold q (by omega) (by rw [hz1]; decide) (by omega) (by omega) (by rw [hz2]; omega) (growslice_fits (bytes := i0.bytes) (by omega) (by rw [hz2]; omega))
  rw [← hcap] at hrun
  have lZ : (Builtin.zeroCells (Value.agg #[.int .i64 0, .bool false, .bool false]).cells q).size = q * 3 := by rw [size_zeroCells]; rfl
  have lY : (Builtin.zeroCells (Value.agg #[.int .i64 0, .bool false, .bool false]).cells (cap' - (i + q))).size = (cap' - (i + q)) * 3 := by rw [size_zeroCells]; rfl
  obtain ⟨cur, hcur⟩ : ∃ cur, cur = (flatE cellsT (l.take i)).toArray ++ Builtin.zeroCells (Value.agg #[.int .i64 0, .bool false, .bool false]).cells q ++ Builtin.zeroCells (Value.agg #[.int .i64 0, .bool false, .bool false]).cells (cap' - (i + q)) := ⟨_, rfl⟩
  rw [← hcur] at hrun
  have hcs : cur.size = cap' * 3 := by rw [hcur, Array.size_append, Array.size_append, lZ, lY, List.size_toArray, lT]; omega
  have hct : ∃ rest, cur.toList = flatE cellsT (l.take i) ++ rest := ⟨_, by rw [hcur, Array.toList_append, Array.toList_append, List.append_assoc]⟩
  clear hcur lZ lY
  obtain ⟨rest, hct⟩ := hct
  have e1 : Eff0 w (w.drew.alloc (.cells cur 62)) := (Eff.refl _ _).drew.alloc _
  have hh : (w.drew.alloc (.cells cur 62)).heap[w.heap.size]? = some (.cells cur 62 (0, 0)) := heap_alloc_new w.drew _
  have hgl : g < w.heap.size := by obtain ⟨cur0, _, hh0, _⟩ := h.has; exact blk_lt hh0
  obtain ⟨G, hG⟩ : ∃ G, G = w.heap.size := ⟨_, rfl⟩
  obtain ⟨W1, hW1⟩ : ∃ W1, W1 = w.drew.alloc (.cells cur 62) := ⟨_, rfl⟩
  rw [← hG, ← hW1] at hrun
  rw [← hG, ← hW1] at hh
  rw [← hW1] at e1
  have hcp1 : ∀ ty dc, (Builtin.copy_ #[57, 57] ty #[.slice (some ⟨G, i * 3, none⟩) (n + 1 - i) dc, .slice (some ⟨vb, 0, none⟩) 1 1]).run Try.prog W1 = .ok (goInt ((1 : Nat) : Int)) (W1.setCells G (i * 3) (cellsT c)) := fun ty dc => by
    rw [show n + 1 - i = q by omega]
    have hmin : Nat.min 1 q = 1 := by simp only [Nat.min_def]; split <;> omega
    have := run_copyK (P := Try.prog) W1 57 57 ty 62 i0 3 Try.underlying57 hi0 hz1 G (i * 3) q dc ⟨vb, 0, none⟩ 1 1 (cellsT c) (by rw [hmin]; rfl)
      (fun j v hj => by
        rw [Addr.add_lit, Nat.zero_add, e1.cell (blk_lt hv) id, blk_cell hv j, List.getElem?_toArray]
        exact hj)
      (fun j hj => by rw [blk_cell hh]; simp only [cellsT, List.length_cons, List.length_nil] at hj; simp [hcs]; omega) (fun j _ => blk_frozen hh _) (by intro u hu; exact oneT [c] u (by simpa [flatE] using hu))
    rw [hmin] at this
    exact this
  obtain ⟨W2, hW2⟩ : ∃ W2, W2 = W1.setCells G (i * 3) (cellsT c) := ⟨_, rfl⟩
  rw [← hW2] at hcp1
  have e2 : Eff (fun k => k = G) w W2 := by rw [hW2]; exact (e1.any _).trans (eff_setCells _ _ _ _) (fun _ h => .inl h)
  obtain ⟨cur2, g3, g4, g5⟩ := setCells_row (cellsT c) (i * 3) W1 cur hh (by rw [hcs]; simp only [cellsT, List.length_cons, List.length_nil]; omega)
  rw [← hW2] at g3
  have hcp2 : ∀ ty dc sc, (Builtin.copy_ #[57, 57] ty #[.slice (some ⟨G, (i + 1) * 3, none⟩) (n - i) dc, .slice (some ⟨g, O + i * 3, none⟩) (n - i) sc]).run Try.prog W2.drew = .ok (goInt ((n - i : Nat) : Int)) (W2.drew.setCells G ((i + 1) * 3) (flatE cellsT (l.drop i))) := fun ty dc sc => by
    have hmin : Nat.min (n - i) (n - i) = n - i := Nat.min_self _
    have := run_copyK (P := Try.prog) W2.drew 57 57 ty 62 i0 3 Try.underlying57 hi0 hz1 G ((i + 1) * 3) (n - i) dc ⟨g, O + i * 3, none⟩ (n - i) sc (flatE cellsT (l.drop i)) (by rw [hmin, lD])
      (fun j v hj => by
        rw [Addr.add_lit]
        show W2.cell? _ = _
        rw [e2.cell hgl (by omega), Nat.add_assoc]
        refine hcl (i * 3 + j) v ?_
        rw [flatE_parts l i, List.getElem?_append_right (by omega), lT, Nat.add_sub_cancel_left]
        exact hj)
      (fun j hj => by show (W2.cell? _).isSome = true; rw [blk_cell g3]; simp [g4, hcs]; omega) (fun j _ => blk_frozen (w := W2) g3 _) (oneT _)
    rw [hmin] at this
    exact this
  have hfin : w.heap.size ≤ G ∧ RowT (W2.drew.setCells G ((i + 1) * 3) (flatE cellsT (l.drop i))) G cap' (l.take i ++ c :: l.drop i) ∧ Eff0 w (W2.drew.setCells G ((i + 1) * 3) (flatE cellsT (l.drop i))) := by
    refine ⟨by omega, ?_, ⟨?_, ?_, ?_, ?_, ?_⟩⟩
    · rw [hW2, drew_setCells]
      exact rowX_grow (W := W1.drew) lenT (Nat.zero_le _) hh hcs hct (by omega) (by omega) hc2 c
    all_goals
      have e3 : Eff (fun k => k = G) w (W2.drew.setCells G ((i + 1) * 3) (flatE cellsT (l.drop i))) := e2.drew.trans (eff_setCells _ _ _ _) (fun _ h => .inl h)
    · exact e3.os
    · exact e3.tape
    · exact e3.output
    · exact e3.size
    · exact fun k hk _ => e3.block k hk (by omega)
  have W0 := Aside0.mk hfin
  rw [← hn] at hi hm ⊢
  clear h hfin hz0 hz1 hz2 hi0 hW1 hW2 e1 e2 g3 g4 g5 hh hcs hct hv hold lT lD hcap hn hr hG hgl hcn hO hcl
  have p1 : ((i : Int) = (n : Int)) = False := eq_false (by omega)
  have p2 : ((n : Int) + 1 > (n : Int)) = True := eq_true (by omega)
  have p3 : (0 ≤ (i : Int)) = True := eq_true (by omega)
  have p4 : ((i : Int) ≤ (n : Int)) = True := eq_true (by omega)
  have p5 : (n : Int) + 1 - (i : Int) = (q : Int) := by omega
  have p6 : (0 ≤ (i : Int) + 1) = True := eq_true (by omega)
  have p8 : (n = i) = False := eq_false (by omega)
  have p9 : (cap' = i + 1) = False := eq_false (by omega)
  have p13 : (cap' = i) = False := eq_false (by omega)
  have p10 : ((i : Int) + 1).toNat = i + 1 := by omega
  have p11 : IntKind.i64.wrap ((i : Int) + 1) = (i : Int) + 1 := by rw [IntKind.wrap_i64]; omega
  have p12 : ((i : Int) + 1 ≤ (n : Int) + 1) = True := eq_true (by omega)
  have p14 : ((i : Int) ≤ (n : Int) + 1) = True := eq_true (by omega)
  rw [hq] at hrun
  clear hq
  have mixed : Try.prog.follows .mixedOrders = true := by kernel_rfl
  go_enter Try.func39, Try.ntmps39
  go_wp2_with (first
    | (at_builtin; refine Lib.wpList_append_run _ rfl _ _ _ _ rfl _ _ rfl rfl _ _ (hrun _) ?_)
    | (at_builtin; refine wpList_bi rfl _ _ 57 57 rfl _ _ rfl rfl (hcp1 _ _) ?_))
  go_region_law_o (refine step_bi rfl _ _ 57 57 rfl _ _ (by simp [Act.eval, Act.put]) (by simp [Act.eval, Act.put]) (hcp2 _ _ _) ?_)
  go_wp2
  go_ret
  exact ⟨G, cap', rfl, W0.out⟩
set_option maxHeartbeats 1600000 in
set_option maxRecDepth 100000 in
/-- At the end: an append. -/
theorem insert_end (W : World) (F : Nat → Prop) (A : Option Addr) (cap vb : Nat) (l : List Wt) (c : Wt) (h : (QAt (.slice A l.length cap) l).on W F) (hm : l.length < 900000) (hv : W.heap[vb]? = some (.cells (cellsT c).toArray 62 (0, 0))) :
    Calls Try.prog 39 #[.slice A l.length cap, .int .i64 l.length, .slice (some ⟨vb, 0, none⟩) 1 1] W fun e w' => ∃ v', e = .returned v' ∧ Upd W F (QAt v' (l ++ [c])) w' := by
  have hR := fun ty => QAt.append (x := c) h hm hv ty
  obtain ⟨v1, w1, hrun, hU⟩ : ∃ v1 w1, (∀ ty, (Builtin.append_ #[57, 57] ty #[.slice A l.length cap, .slice (some ⟨vb, 0, none⟩) 1 1]).run Try.prog W = .ok v1 w1) ∧ Upd W F (QAt v1 (l ++ [c])) w1 := by
    obtain ⟨v1, w1, h1, h2⟩ := hR 0
    exact ⟨v1, w1, fun ty => h1, h2⟩
  have W0 := Aside0.mk hU
  have hle : l.length ≤ cap := by
    rcases h.1 with ⟨A', hv, rfl⟩ | ⟨g, cap, pre, hv, h2, h3⟩
    · exact Nat.zero_le _
    · injection hv with _ _ hc
      have := h2.len
      rw [List.length_append] at this
      omega
  have HX := Aside0.mk hrun
  clear h hv hR hU hrun
  by_cases hc : cap = l.length
  · have pc : (cap = l.length) = True := eq_true hc
    clear hc
    go_enter Try.func39, Try.ntmps39
    go_wp2_with (at_builtin; refine Lib.wpList_append_run _ rfl _ _ _ _ rfl _ _ rfl rfl _ _ (HX.out _) ?_)
    go_ret
    exact ⟨_, rfl, W0.out⟩
  · have pc : (cap = l.length) = False := eq_false hc
    clear hc
    go_enter Try.func39, Try.ntmps39
    go_wp2_with (at_builtin; refine Lib.wpList_append_run _ rfl _ _ _ _ rfl _ _ rfl rfl _ _ (HX.out _) ?_)
    go_ret
    exact ⟨_, rfl, W0.out⟩
/-- slices.Insert of one. -/
theorem insert_calls (W : World) (F : Nat → Prop) (A : Option Addr) (n cap i vb : Nat) (l : List Wt) (c : Wt) (h : (QAt (.slice A n cap) l).on W F) (hi : i ≤ l.length) (hm : l.length < 900000) (hv : W.heap[vb]? = some (.cells (cellsT c).toArray 62 (0, 0))) (hne : ¬ F vb) :
    Calls Try.prog 39 #[.slice A n cap, .int .i64 i, .slice (some ⟨vb, 0, none⟩) 1 1] W fun e w' => ∃ v', e = .returned v' ∧ Upd W F (QAt v' (l.take i ++ c :: l.drop i)) w' := by
  have hn : n = l.length := by
    obtain ⟨A', c', hv', _⟩ := QAt.reads h
    injection hv'
  subst hn
  by_cases he : i = l.length
  · subst he
    rw [List.take_length, List.drop_length]
    exact insert_end W F A cap vb l c h hm hv
  have h0 := h
  rcases h.1 with ⟨A', hv', rfl⟩ | ⟨g, cap', pre, hv', h2, h3⟩
  · exact absurd (Nat.le_zero.1 hi) he
  · injection hv' with ha _ hc
    subst ha hc
    have hlen : (l.take i ++ c :: l.drop i).length = l.length + 1 := by simp; omega
    by_cases hr : pre.length + l.length + 1 ≤ cap'
    · refine (insert_shift W g cap' i vb pre l c h2 (by omega) hr hv (fun e => hne (e ▸ h3))).mono ?_
      rintro e w' ⟨rfl, hR, hE⟩
      refine ⟨_, rfl, Upd.mk (F' := F) ⟨.inr ⟨g, cap', pre, by rw [hlen], hR, h3⟩, fun k hk => Nat.lt_of_lt_of_le (h.2 k hk) hE.size⟩ (hE.mono (fun k hk => by subst hk; exact h3)) (fun _ hk => .inl hk)⟩
    · refine (insert_grow W g cap' i vb pre l c h2 (by omega) (by omega) hm hv).mono ?_
      rintro e w' ⟨g', cap2, rfl, hg, hR, hE⟩
      obtain ⟨cur, rest, hh, _⟩ := hR.has
      exact ⟨_, rfl, Upd.mk (F' := fun k => k = g') ⟨.inr ⟨g', cap2, [], by rw [hlen]; rfl, hR, rfl⟩, by rintro k rfl; exact blk_lt hh⟩ (hE.any F) (by rintro k rfl; exact .inr hg)⟩
end Go.Proofs.Ytlakklaaapfpeaa.LK
namespace Go.Proofs.Ytlakklaaapfpeaa.LK
open Go Go.RowKit Go.Proofs.YtlakklaaapfpeaaW.PrintWords Go.Proofs.YtlakklaaapfpeaaW.PrintLast Go.Proofs.YtlakklaaapfpeaaW.PrintMore Go.Proofs.Ytlakklaaapfpeaa.L
set_option linter.unusedVariables false
set_option linter.unusedSimpArgs false
/-- Nobody else that holds the key is in the way. -/
def okP (w : Wt) (p : Int × Int) : Bool := p.1 == w.tx || !(w.all || p.2 == 2)
def mayB (l : List (Int × Int)) (w : Wt) : Bool := l.all (okP w)
theorem ints_keys (l : List (Int × Int)) : (ints l).map (·.1) = l.map (·.1) := by unfold ints; rw [List.map_map]; rfl
/-- One of what is left is drawn. -/
theorem ints_draw {lf : List (Int × Int)} (hn : (lf.map (·.1)).Nodup) {p : Int × Value} (hp : p ∈ ints lf) : ∃ v, p.2 = .int .i64 v ∧ L.del (ints lf) p.1 = ints (delI lf p.1) ∧ lf.Perm ((p.1, v) :: delI lf p.1) := by
  unfold ints at hp
  obtain ⟨q, hq, rfl⟩ := List.mem_map.1 hp
  refine ⟨q.2, rfl, ints_del lf q.1, ?_⟩
  have h1 := del_perm (left := ints lf) (by rw [ints_keys]; exact hn) (p := (q.1, .int .i64 q.2)) (List.mem_map.2 ⟨q, hq, rfl⟩)
  rw [ints_del] at h1
  obtain ⟨i, hi⟩ := List.getElem?_of_mem hq
  clear h1 hp
  induction lf generalizing i with
  | nil => cases hq
  | cons a lf ih =>
    rw [List.map_cons, List.nodup_cons] at hn
    unfold delI
    rcases List.mem_cons.1 hq with rfl | hq'
    · rw [List.filter_cons_of_neg (by simp), List.filter_eq_self.2]
      intro x hx
      simp only [ne_eq, decide_not, Bool.not_eq_eq_eq_not, Bool.not_true, decide_eq_false_iff_not]
      exact fun e => hn.1 (List.mem_map.2 ⟨x, hx, e⟩)
    · have hne : a.1 ≠ q.1 := fun e => hn.1 (List.mem_map.2 ⟨q, hq', e.symm⟩)
      rw [List.filter_cons_of_pos (by simpa using hne)]
      obtain ⟨j, hj⟩ := List.getElem?_of_mem hq'
      exact ((ih hn.2 hq' j hj).cons a).trans (List.Perm.swap _ _ _)
theorem delI_nodup {lf : List (Int × Int)} (hn : (lf.map (·.1)).Nodup) (k : Int) : ((delI lf k).map (·.1)).Nodup := by
  unfold delI
  exact List.Nodup.sublist (List.Sublist.map _ List.filter_sublist) hn
theorem mayB_draw {lf lf' : List (Int × Int)} {p : Int × Int} (w : Wt) (h : lf.Perm (p :: lf')) : mayB lf w = (okP w p && mayB lf' w) := by
  unfold mayB
  rw [h.all_eq, List.all_cons]
set_option maxHeartbeats 1600000 in
set_option maxRecDepth 100000 in
theorem may_calls (eb hb : Nat) (l : List (Int × Int)) (w : Wt) (W : World) (c0 : W.cell? ⟨eb, 0, none⟩ = some (.map (some hb))) (hM : MapAt keyInt W hb (ints l)) :
    Calls Try.prog 46 #[.pointer (some ⟨eb, 0, none⟩), .agg #[.int .i64 w.tx, .bool w.all, .bool w.own]] W fun e w' => e = .returned (.bool (mayB l w)) ∧ Eff0 W w' := by
  obtain ⟨tx, all, own⟩ := w
  have hn := hM.nodup
  rw [ints_keys] at hn
  have heb : eb < W.heap.size := World.block_lt_of_cell? _ _ c0
  have hM1 : ∀ o : Obj, MapAt keyInt (W.alloc o) hb (ints l) := fun o => hM.move (((Eff.refl (fun _ => False) _).alloc o).block _ hM.lt id)
  have hsz : ∀ o, (W.alloc o).heap.size = W.heap.size + 1 := fun o => by simp
  have A0 := Aside0.mk hn
  clear hn hM
  go_enter Try.func46, Try.ntmps46
  go_wp2_with (at_range; refine wpList_range_map rfl (.tmp 10) rfl rfl (hM1 _) Try.underlying56 ?_; intro o' hI; rw [hsz] at hI; rw [hsz])
  go_frame
  go_loopg [] l.length (fun k wr => ∃ lf : List (Int × Int), Iter keyInt wr (W.heap.size + 1) hb (ints l) (ints lf) ∧ lf.length ≤ k ∧ Aside0 ((lf.map (·.1)).Nodup ∧ mayB lf ⟨tx, all, own⟩ = mayB l ⟨tx, all, own⟩ ∧ Eff0 W wr) ∧ wr.cell? ⟨W.heap.size, 0, none⟩ = some (.int .i64 tx) ∧ wr.cell? ⟨W.heap.size, 1, none⟩ = some (.bool all))
  case atStart =>
    refine ⟨l, hI, Nat.le_refl _, Aside0.mk ⟨A0.out, rfl, ((Eff.refl _ _).alloc _).alloc _⟩, ?_, ?_⟩
    · exact blk_cell (heap_alloc2_old W _ _) 0
    · exact blk_cell (heap_alloc2_old W _ _) 1
  case round =>
    obtain ⟨lf, hI, hk, A1, x0, x1⟩ := hrel
    go_wp2_with (at_next; refine wpList_next_map rfl (.tmp 11) rfl rfl hI ?_ ?_)
    · intro h0
      have hlf : lf = [] := by cases lf with | nil => rfl | cons _ _ => cases h0
      subst hlf
      have A2 := Aside0.mk (And.intro A1.out.2.1.symm A1.out.2.2)
      clear h0 hI A1 hM1 hk
      go_wp2
      go_ret
      exact ⟨by rw [A2.out.1]; rfl, A2.out.2⟩
    · intro k0 v0 w' hp hI' hg hs hen
      obtain ⟨v, hv, hd, hpm⟩ := ints_draw A1.out.1 hp
      dsimp only at hv hd hpm
      subst hv
      have hr := Iter.lt hI
      have E2 : Eff (fun k => k = W.heap.size + 1) wr w' := Eff.of_grown hg (fun k hk => by injection hk with hk; exact hk.symm)
      have y0 : w'.cell? ⟨W.heap.size, 0, none⟩ = some (.int .i64 tx) := (E2.cell (by omega) (by omega)).trans x0
      have y1 : w'.cell? ⟨W.heap.size, 1, none⟩ = some (.bool all) := (E2.cell (by omega) (by omega)).trans x1
      have hlen : (delI lf k0).length + 1 ≤ gk := by have := hpm.length_eq; rw [List.length_cons] at this; omega
      have hmb := mayB_draw ⟨tx, all, own⟩ hpm
      rw [A1.out.2.1] at hmb
      rw [hd] at hI'
      have A2 := Aside0.mk (And.intro (delI_nodup A1.out.1 k0) (And.intro hmb (And.intro (A1.out.2.2.trans E2 (fun k hk => .inr (by rw [hk]; omega))) hI')))
      have hen2 : (Instr.entry (.pointer (some ⟨W.heap.size + 1, 0, none⟩))).run Try.prog w' = .ok (.tuple #[.int .i64 k0, .int .i64 v]) w' := hen
      have HL := Aside0.mk hlen
      clear hp hd hpm hr E2 hmb hI hI' hg hs hen x0 x1 A1 hk hlen
      rw [show keyInt.enc k0 = .int .i64 k0 from rfl]
      generalize delI lf k0 = lf' at *
      by_cases hk0 : k0 = tx
      · subst hk0
        go_wp2
        go_roundg (gk - 1)
        case measure => have := HL.out; omega
        case rel =>
          refine ⟨lf', A2.out.2.2.2, by have := HL.out; omega, Aside0.mk ⟨A2.out.1, ?_, A2.out.2.2.1⟩, y0, y1⟩
          rw [A2.out.2.1]
          simp [okP]
      · have n1 : (k0 == tx) = false := beq_eq_false_iff_ne.mpr hk0
        have n2 : (k0 = tx) = False := eq_false hk0
        cases all with
        | true =>
          clear hk0
          go_wp2
          go_ret
          refine ⟨?_, A2.out.2.2.1⟩
          rw [A2.out.2.1]
          simp [okP, n2]
        | false =>
          by_cases hv2 : v = 2
          · subst hv2
            clear hk0
            go_wp2
            go_ret
            refine ⟨?_, A2.out.2.2.1⟩
            rw [A2.out.2.1]
            simp [okP, n2]
          · have n3 : (v == 2) = false := beq_eq_false_iff_ne.mpr hv2
            have n4 : (v = 2) = False := eq_false hv2
            clear hk0 hv2
            go_wp2
            go_roundg (gk - 1)
            case measure => have := HL.out; omega
            case rel =>
              refine ⟨lf', A2.out.2.2.2, by have := HL.out; omega, Aside0.mk ⟨A2.out.1, ?_, A2.out.2.2.1⟩, y0, y1⟩
              rw [A2.out.2.1]
              simp [okP, n3]
end Go.Proofs.Ytlakklaaapfpeaa.LK
namespace Go.Proofs.Ytlakklaaapfpeaa.LK
open Go Go.RowKit Go.Proofs.YtlakklaaapfpeaaW.PrintWords Go.Proofs.YtlakklaaapfpeaaW.PrintLast Go.Proofs.YtlakklaaapfpeaaW.PrintMore Go.Proofs.Ytlakklaaapfpeaa.L
set_option linter.unusedVariables false
set_option linter.unusedSimpArgs false
abbrev kdI : Kd Int := Kd.int .i64
/-- Those that wait first have the key, as long as it may be: who holds it then, who waits, who has it. -/
def grantF : List (Int × Int) → List Wt → List (Int × Int) × List Wt × List Int
  | h, [] => (h, [], [])
  | h, w :: q => if mayB h w then ((grantF (putI h w.tx (if w.all then 2 else if getI h w.tx < 1 then 1 else getI h w.tx)) q).1, (grantF (putI h w.tx (if w.all then 2 else if getI h w.tx < 1 then 1 else getI h w.tx)) q).2.1, w.tx :: (grantF (putI h w.tx (if w.all then 2 else if getI h w.tx < 1 then 1 else getI h w.tx)) q).2.2) else (h, w :: q, [])
theorem putI_putI (l : List (Int × Int)) (k a b : Int) : putI (putI l k a) k b = putI l k b := by
  have h2 : ∀ l : List (Int × Int), (l.any (fun p => decide (p.1 = k))) = true → putI (l.map (fun p => if p.1 = k then (k, a) else p)) k b = l.map (fun p => if p.1 = k then (k, b) else p) := by
    intro l hl
    unfold putI
    have h3 : ((l.map (fun p => if p.1 = k then (k, a) else p)).any (fun p => decide (p.1 = k))) = true := by
      obtain ⟨p, hp, he⟩ := List.any_eq_true.1 hl
      have he : p.1 = k := by simpa using he
      exact List.any_eq_true.2 ⟨(k, a), List.mem_map.2 ⟨p, hp, by rw [if_pos he]⟩, by simp⟩
    rw [if_pos h3, List.map_map]
    refine List.map_congr_left (fun p _ => ?_)
    simp only [Function.comp_apply]
    split
    · simp
    · rename_i h; simp [h]
  by_cases hl : (l.any (fun p => decide (p.1 = k))) = true
  · have e1 : putI l k a = l.map (fun p => if p.1 = k then (k, a) else p) := if_pos hl
    have e2 : putI l k b = l.map (fun p => if p.1 = k then (k, b) else p) := if_pos hl
    rw [e1, h2 l hl, e2]
  · have e1 : putI l k a = l ++ [(k, a)] := if_neg hl
    have e2 : putI l k b = l ++ [(k, b)] := if_neg hl
    rw [e1, e2]
    unfold putI
    rw [if_pos (by simp), List.map_append]
    congr 1
    · refine (List.map_congr_left (fun p hp => ?_)).trans (List.map_id _)
      have : p.1 ≠ k := fun e => hl (List.any_eq_true.2 ⟨p, hp, by simpa using e⟩)
      rw [if_neg this]
      rfl
    · simp
/-- An entry in its parts, and those that got the key so far. -/
def GrAt (eb hb : Nat) (h : List (Int × Int)) (vq : Value) (q : List Wt) (vo : Value) (out : List Int) : HP :=
  Sep (Sep (CellsAt eb #[.map (some hb), vq] 59) (Sep (MapHP keyInt hb (ints h)) (QAt vq q))) (RowAt kdI 3 vo out)
section
variable {eb hb : Nat} {h : List (Int × Int)} {vq vo : Value} {q : List Wt} {out : List Int} {W w : World} {F : Nat → Prop}
theorem GrAt.facts (hg : (GrAt eb hb h vq q vo out).on w F) : w.cell? ⟨eb, 0, none⟩ = some (.map (some hb)) ∧ w.cell? ⟨eb, 1, none⟩ = some vq ∧ (∀ i, w.frozen? ⟨eb, i, none⟩ = false) ∧ MapAt keyInt w hb (ints h) ∧ (∃ G, (QAt vq q).on w G) := by
  obtain ⟨F1, F2, ⟨G1, G2, g1, ⟨K1, K2, k1, k2, _, _⟩, _, _⟩, h2, _, _⟩ := hg
  exact ⟨CellsAt.cell g1 0, CellsAt.cell g1 1, CellsAt.frozen g1, k1.1, K2, k2⟩
theorem GrAt.start (he : (EntAt eb ⟨h, q⟩).on w F) : ∃ hb vq, (GrAt eb hb h vq q (.slice none 0 0) []).on w F := by
  obtain ⟨⟨hb, vq⟩, h1⟩ := he
  exact ⟨hb, vq, F, fun _ => False, h1, ⟨Kd.R_nil _ _ _ _ _, fun _ h => h.elim⟩, fun _ _ h => h, fun k => by simp⟩
theorem GrAt.end_ (hg : (GrAt eb hb h vq q vo out).on w F) : (Sep (EntAt eb ⟨h, q⟩) (RowAt kdI 3 vo out)).on w F :=
  Sep.imp hg (fun _ h => ⟨(hb, vq), h⟩) (fun _ h => h)
/-- Another queue is put in. -/
theorem GrAt.setQ {vq' : Value} {q' : List Wt} (hg : (GrAt eb hb h vq q vo out).on w F) (hq : ∀ G, (QAt vq q).on w G → (QAt vq' q').on w G) : Upd w F (GrAt eb hb h vq' q' vo out) (w.setCell ⟨eb, 1, none⟩ vq') := by
  refine Upd.left hg (fun F1 h1 => ?_)
  have h2 : (Sep (CellsAt eb #[.map (some hb), vq] 59) (Sep (MapHP keyInt hb (ints h)) (QAt vq' q'))).on w F1 := Sep.imp h1 (fun _ h => h) (fun _ h => Sep.imp h (fun _ h => h) (fun G h => hq G h))
  exact Upd.left h2 (fun G hG => CellsAt.set hG 1 vq')
/-- One holds it. -/
theorem GrAt.put (hg : (GrAt eb hb h vq q vo out).on w F) (k v : Int) : ∃ w', (Instr.mapUpdate 56 (.map (some hb)) (.int .i64 k) (.int .i64 v)).run Try.prog w = .ok () w' ∧ Upd w F (GrAt eb hb (putI h k v) vq q vo out) w' ∧ w'.heap.size = w.heap.size ∧ w.grownBy w' (some hb) := by
  obtain ⟨c0, c1, f, hM, _⟩ := GrAt.facts hg
  obtain ⟨w', hrun, hm, hgr, hs⟩ := hM.update Try.underlying56 Try.underlying3 k (.int .i64 v)
  rw [ints_put] at hm
  exact ⟨w', hrun, Upd.left hg (fun F1 h1 => Upd.right h1 (fun F2 h2 => Upd.left h2 (fun F3 h3 => MapHP.upd h3 hm hgr))), hs, hgr⟩
end
end Go.Proofs.Ytlakklaaapfpeaa.LK
namespace Go.Proofs.Ytlakklaaapfpeaa.LK
open Go Go.RowKit Go.Proofs.YtlakklaaapfpeaaW.PrintWords Go.Proofs.YtlakklaaapfpeaaW.PrintLast Go.Proofs.YtlakklaaapfpeaaW.PrintMore Go.Proofs.Ytlakklaaapfpeaa.L
set_option linter.unusedVariables false
set_option linter.unusedSimpArgs false
theorem GrAt.look {eb hb : Nat} {h : List (Int × Int)} {vq vo : Value} {q : List Wt} {out : List Int} {w : World} {F : Nat → Prop} (hg : (GrAt eb hb h vq q vo out).on w F) (k : Int) : (Instr.lookup 56 (.map (some hb)) (.int .i64 k) false).run Try.prog w = .ok (.int .i64 (getI h k)) w := by
  obtain ⟨_, _, _, hM, _⟩ := GrAt.facts hg
  have := hM.lookup (P := Try.prog) Try.underlying56 Try.underlying3 (z := .int .i64 0) (by kernel_rfl) k false
  rw [← look_getI]
  exact this
theorem Upd.appends {α : Type} {d : Kd α} {e : Nat} {v : Value} {xs : List α} {W w : World} {F : Nat → Prop} {S : HP} (h : Upd W F (Sep S (RowAt d e v xs)) w) :
    ∃ ok : Nat → Prop, d.R e w 0 ok v xs ∧ (∀ k, w.heap.size ≤ k → ok k) ∧ ∀ v1 w1 zs, d.R e w1 0 ok v1 zs → w.grownBy w1 v.ownBlock → Upd W F (Sep S (RowAt d e v1 zs)) w1 := by
  obtain ⟨F1, hS, e1, k1⟩ := h
  obtain ⟨F2, h2, k2, u2⟩ := Sep.focusR hS
  refine ⟨fun k => F2 k ∨ w.heap.size ≤ k, Kd.R_mono h2.1 (fun _ h => .inl h), fun _ h => .inr h, fun v1 w1 zs hR hg => ?_⟩
  have hU : Upd w F2 (RowAt d e v1 zs) w1 :=
    ⟨fun k => (F2 k ∨ w.heap.size ≤ k) ∧ k < w1.heap.size, ⟨Kd.R_mono (Kd.R_bound hR) (fun k hk => ⟨hk.1, hk.2.2.1⟩), fun k hk => hk.2⟩, Eff.of_grown hg (fun k hk => h2.1.1 k hk), fun k hk => hk.1⟩
  obtain ⟨F', h', ef, hk⟩ := u2 _ _ hU
  refine ⟨F', h', e1.trans ef k1, fun k hk' => ?_⟩
  rcases hk k hk' with h | h
  · exact k1 k h
  · exact .inr (Nat.le_trans e1.size h)
theorem infoInt : (Try.prog.info? 3).map (fun i => (i.zero, i.size, i.bytes)) = some (some (.int .i64 0), 1, 8) := by kernel_rfl
/-- What has been done so far: those that got the key, and what is left to do. -/
structure GrIn (W : World) (F : Nat → Prop) (eb hb : Nat) (h0 : List (Int × Int)) (q0 : List Wt) (h : List (Int × Int)) (vq : Value) (q : List Wt) (vo : Value) (out : List Int) (wr : World) : Prop where
  u : Upd W F (GrAt eb hb h vq q vo out) wr
  r : grantF h0 q0 = ((grantF h q).1, (grantF h q).2.1, out ++ (grantF h q).2.2)
  l : out.length + q.length = q0.length
theorem GrIn.fact {W : World} {F : Nat → Prop} {eb hb : Nat} {h0 h : List (Int × Int)} {q0 q : List Wt} {vq vo : Value} {out : List Int} {wr : World} (g : GrIn W F eb hb h0 q0 h vq q vo out wr) : ∃ G, (GrAt eb hb h vq q vo out).on wr G := by
  obtain ⟨G, hG, _⟩ := g.u
  exact ⟨G, hG⟩
set_option maxHeartbeats 1600000 in
set_option maxRecDepth 100000 in
theorem grant_calls (eb : Nat) (x : Le) (W : World) (F : Nat → Prop) (he : (EntAt eb x).on W F) (hm : x.q.length < 900000) :
    Calls Try.prog 38 #[.pointer (some ⟨eb, 0, none⟩)] W fun e w' => ∃ v, e = .returned v ∧ Aside0 (Upd W F (Sep (EntAt eb ⟨(grantF x.h x.q).1, (grantF x.h x.q).2.1⟩) (RowAt kdI 3 v (grantF x.h x.q).2.2)) w') := by
  obtain ⟨h0, q0⟩ := x
  obtain ⟨hb, vq0, hs⟩ := GrAt.start he
  have H0 := Aside0.mk (GrIn.mk (F := F) (h0 := h0) (q0 := q0) (Upd.same hs (Eff.refl _ _)) (by rw [List.nil_append]) (by simp))
  have HM := Aside0.mk hm
  clear hs he hm
  go_enter Try.func38, Try.ntmps38
  go_wp2_with fail
  go_loopg [3] q0.length (fun k s3 wr => ∃ h vq q out, q.length = k ∧ Aside0 (GrIn W F eb hb h0 q0 h vq q s3 out wr))
  case atStart => exact ⟨h0, vq0, q0, [], rfl, H0⟩
  case round =>
    obtain ⟨h, vq, q, out, hk, A1⟩ := hrel
    obtain ⟨G, hG⟩ := A1.out.fact
    obtain ⟨c0, c1, f, hM, G2, hQ⟩ := GrAt.facts hG
    obtain ⟨A, c, rfl, hc, hR⟩ := QAt.reads hQ
    have A2 := Aside0.mk (And.intro hG hQ)
    clear hG hQ
    have HK := Aside0.mk (And.intro hk hc)
    clear hk hc
    cases q with
    | nil =>
      simp only [List.length_nil] at c1
      clear hR
      go_wp2
      go_ret
      refine ⟨_, rfl, Aside0.mk ?_⟩
      have hr := A1.out.r
      rw [hr]
      unfold grantF
      rw [List.append_nil]
      obtain ⟨F', h1, h2, h3⟩ := A1.out.u
      exact ⟨F', GrAt.end_ h1, h2, h3⟩
    | cons w q =>
      obtain ⟨g, o, rfl, x0, x1, x2⟩ := hR 0 (by simp)
      obtain ⟨tx, all, own⟩ := w
      simp only [Nat.zero_mul, Nat.add_zero, List.getD_cons_zero] at x0 x1 x2
      simp only [List.length_cons] at c1 A1 A2 HK
      have p1 : ((q.length : Int) + 1 > 0) = True := eq_true (by omega)
      have p2 : (0 < (q.length : Int) + 1) = True := eq_true (by omega)
      clear hR
      have CM := may_calls eb hb h ⟨tx, all, own⟩ wr c0 hM
      cases hmay : mayB h ⟨tx, all, own⟩ with
      | false =>
        rw [hmay] at CM
        go_wp2_with (go_at_call 46; refine CM.mono ?_; rintro e w3 ⟨rfl, e3⟩)
        go_ret
        refine ⟨_, rfl, Aside0.mk ?_⟩
        have hr := A1.out.r
        rw [hr]
        unfold grantF
        rw [hmay, if_neg (by simp), List.append_nil]
        obtain ⟨F', h1, h2, h3⟩ := A1.out.u.after e3
        exact ⟨F', GrAt.end_ h1, h2, h3⟩
      | true =>
        rw [hmay] at CM
        have HC := Aside0.mk CM
        have HX := Aside0.mk (And.intro hmay (And.intro hM x0))
        clear CM hM hmay
        go_upto_region 4 with (go_at_call 46; refine HC.out.mono ?_; rintro e w3 ⟨rfl, e3⟩)
        have z0 : w3.cell? ⟨g, o, none⟩ = some (.int .i64 tx) := (e3.cell (World.block_lt_of_cell? _ _ x0) id).trans x0
        have z1 : w3.cell? ⟨g, o + 1, none⟩ = some (.bool all) := (e3.cell (World.block_lt_of_cell? _ _ x1) id).trans x1
        have z2 : w3.cell? ⟨g, o + 2, none⟩ = some (.bool own) := (e3.cell (World.block_lt_of_cell? _ _ x2) id).trans x2
        have d1 : w3.cell? ⟨eb, 1, none⟩ = some (.slice (some ⟨g, o, none⟩) (q.length + 1) c) := (e3.cell (World.block_lt_of_cell? _ _ c1) id).trans c1
        have heb : eb < w3.heap.size := World.block_lt_of_cell? _ _ d1
        have hgb : g < w3.heap.size := World.block_lt_of_cell? _ _ z0
        have U3 := A1.out.u.after e3
        have f3 : ∀ i, w3.frozen? ⟨eb, i, none⟩ = false := by
          obtain ⟨_, h1, _⟩ := U3
          exact (GrAt.facts h1).2.2.1
        have U5 := Aside0.mk ((U3.trans (fun F1 h1 => GrAt.setQ h1 (fun G hG => QAt.pop hG))).after ((Eff.refl _ _).alloc (.cells #[.int .i64 tx, .bool all, .bool own] 62)))
        have hnew : ∀ v : Value, ((w3.setCell ⟨eb, 1, none⟩ v).alloc (.cells #[.int .i64 tx, .bool all, .bool own] 62)).heap[w3.heap.size]? = some (.cells #[.int .i64 tx, .bool all, .bool own] 62 (0, 0)) := fun v => by
          have := heap_alloc_new (w3.setCell ⟨eb, 1, none⟩ v) (.cells #[.int .i64 tx, .bool all, .bool own] 62)
          rwa [show (w3.setCell ⟨eb, 1, none⟩ v).heap.size = w3.heap.size by simp [World.setCell]] at this
        have HN := Aside0.mk hnew
        clear U3 x0 x1 x2 c0 c1 hnew
        go_upto_region 5 with (fail)
        go_cut [] (fun wx => ∃ vq', Aside0 (Upd W F (GrAt eb hb h vq' q u3 out) wx ∧ wx.heap[w3.heap.size]? = some (.cells #[.int .i64 tx, .bool all, .bool own] 62 (0, 0))))
        case first =>
          by_cases hc1 : c = 1
          · have pc : (c = 1) = True := eq_true hc1
            have V5 := U5.out
            unfold sliced at V5
            rw [if_pos hc1, Nat.add_sub_cancel] at V5
            have V6 := Aside0.mk V5
            clear hc1 V5 U5
            go_wp2
            go_meet
            case rel => exact ⟨_, Aside0.mk ⟨V6.out, HN.out _⟩⟩
          · have pc : (c = 1) = False := eq_false hc1
            have V5 := U5.out
            unfold sliced at V5
            rw [if_neg hc1, Nat.add_sub_cancel, Option.map_some, at_off] at V5
            have V6 := Aside0.mk V5
            clear hc1 V5 U5
            go_wp2
            go_meet
            case rel => exact ⟨_, Aside0.mk ⟨V6.out, HN.out _⟩⟩
        case rest =>
          obtain ⟨vq', H5⟩ := hcut
          clear A2 e3 HC HN f heb hgb U5 z0 z1 z2 d1 f3
          go_upto_region 6 with (fail)
          go_cut [] (fun wx => Aside0 (Upd W F (GrAt eb hb (putI h tx (if getI h tx < 1 then 1 else getI h tx)) vq' q u3 out) wx ∧ wx.heap[w3.heap.size]? = some (.cells #[.int .i64 tx, .bool all, .bool own] 62 (0, 0))))
          case first =>
            obtain ⟨G5, hG5, _⟩ := H5.out.1
            obtain ⟨c0, c1, f5, hM5, _⟩ := GrAt.facts hG5
            have b0 : wc.cell? ⟨w3.heap.size, 0, none⟩ = some (.int .i64 tx) := blk_cell H5.out.2 0
            have hGd : (GrAt eb hb h vq' q u3 out).on wc.drew G5 := HP.eff0 hG5 ((Eff.refl _ _).drew)
            have hL := GrAt.look hGd tx
            obtain ⟨w6, hP, u6, s6, g6⟩ := GrAt.put hGd tx (if getI h tx < 1 then 1 else getI h tx)
            have U6 := Aside0.mk (H5.out.1.trans (fun F1 h1 => Upd.of ((Eff.refl _ _).drew) (by
              obtain ⟨w6', hP', u6', _, _⟩ := GrAt.put (HP.eff0 h1 ((Eff.refl _ _).drew)) tx (if getI h tx < 1 then 1 else getI h tx)
              have e := hP.symm.trans hP'
              injection e with _ e
              subst e
              exact u6')))
            have hbne : hb ≠ w3.heap.size := by
              rintro rfl
              obtain ⟨es, cl, hh, _⟩ := hM5
              rw [H5.out.2] at hh
              cases hh
            have H6 := Aside0.mk (show w6.heap[w3.heap.size]? = some (.cells #[.int .i64 tx, .bool all, .bool own] 62 (0, 0)) from ((Eff.of_grown g6 (S := fun k => k = hb) (fun k hk => by injection hk with hk; exact hk.symm)).block _ (blk_lt H5.out.2) (fun h => hbne h.symm)).trans H5.out.2)
            clear hG5 hGd hM5 u6 g6 s6 c1 hbne
            go_region
            all_goals go_wp2_with fail
            all_goals go_meet
            all_goals (case rel => exact Aside0.mk ⟨U6.out, H6.out⟩)
          case rest =>
            have H6 := hcut
            have b1 : _ = some (Value.bool all) := blk_cell H6.out.2 1
            go_upto_if 53 with (fail)
            go_cut [] (fun wx => Aside0 (Upd W F (GrAt eb hb (putI h tx (if all = true then 2 else if getI h tx < 1 then 1 else getI h tx)) vq' q u3 out) wx ∧ wx.heap[w3.heap.size]? = some (.cells #[.int .i64 tx, .bool all, .bool own] 62 (0, 0))))
            case first =>
              cases all with
              | false =>
                go_wp2
                go_meet
                case rel => exact Aside0.mk ⟨by rw [if_neg (by simp)]; exact H6.out.1, H6.out.2⟩
              | true =>
                obtain ⟨G5, hG5, _⟩ := H6.out.1
                obtain ⟨c0, c1, f5, hM5, _⟩ := GrAt.facts hG5
                have b0 : wc.cell? ⟨w3.heap.size, 0, none⟩ = some (.int .i64 tx) := blk_cell H6.out.2 0
                obtain ⟨w7, hP, u7, s7, g7⟩ := GrAt.put (HP.eff0 hG5 ((Eff.refl _ _).drew)) tx 2
                have U7 := Aside0.mk (H6.out.1.trans (fun F1 h1 => Upd.of ((Eff.refl _ _).drew) (by
                  obtain ⟨w7', hP', u7', _, _⟩ := GrAt.put (HP.eff0 h1 ((Eff.refl _ _).drew)) tx 2
                  have e := hP.symm.trans hP'
                  injection e with _ e
                  subst e
                  rw [putI_putI] at u7'
                  exact u7')))
                have hbne : hb ≠ w3.heap.size := by
                  rintro rfl
                  obtain ⟨es, cl, hh, _⟩ := hM5
                  rw [H6.out.2] at hh
                  cases hh
                have H7 := Aside0.mk (show w7.heap[w3.heap.size]? = some (.cells #[.int .i64 tx, .bool true, .bool own] 62 (0, 0)) from ((Eff.of_grown g7 (S := fun k => k = hb) (fun k hk => by injection hk with hk; exact hk.symm)).block _ (blk_lt H6.out.2) (fun h => hbne h.symm)).trans H6.out.2)
                clear hG5 hM5 u7 g7 s7 c1 hbne
                go_wp2_with fail
                go_region
                all_goals go_wp2_with fail
                all_goals go_meet
                all_goals (case rel => exact Aside0.mk ⟨by rw [if_pos trivial]; exact U7.out, H7.out⟩)
            case rest =>
              have H7 := hcut
              obtain ⟨ok, hR, hok, hN⟩ := Upd.appends H7.out.1
              have HR := Aside0.mk (And.intro hR (And.intro hok hN))
              have hlo : (out.length + 1) * 8 ≤ 140737488355328 := by
                have hl1 := A1.out.l
                have hl2 := HM.out
                rw [List.length_cons] at hl1
                omega
              have HO := Aside0.mk hlo
              have b0 : wc.cell? ⟨w3.heap.size, 0, none⟩ = some (.int .i64 tx) := blk_cell H7.out.2 0
              clear hR hok hN hlo
              go_wp2_with (at_builtin; go_loud (refine Kd.R_append (Kd.int .i64) (W := wc) (w0 := wc) 0 rfl (.tmp 60) (.tmp 63) 44 3 (.int .i64 0) 8 rfl Try.underlying44 infoInt rfl (by decide) (by decide) u3 out tx [.int .i64 tx] ok (fun _ => False) rfl rfl rfl (fun _ hk => hk.elim) HR.out.2.1 HR.out.1 (Below.refl _ _) (Nat.zero_le _) HO.out ?_); intro v1 w8 r1 b1 g1 o1; have H8 := Aside0.mk (HR.out.2.2 v1 w8 _ r1 g1); clear r1 b1 g1 o1)
              go_roundg (gk - 1)
              case measure => have := HK.out.1; omega
              case rel =>
                refine ⟨_, vq', q, out ++ [tx], by have := HK.out.1; omega, Aside0.mk ⟨H8.out, ?_, ?_⟩⟩
                · rw [A1.out.r]
                  conv => lhs; unfold grantF
                  rw [if_pos HX.out.1]
                  simp only [List.append_assoc, List.singleton_append]
                · have := A1.out.l
                  rw [List.length_cons] at this
                  rw [List.length_append, List.length_singleton]
                  omega
end Go.Proofs.Ytlakklaaapfpeaa.LK
namespace Go.Proofs.Ytlakklaaapfpeaa.LK
open Go Go.RowKit Go.Proofs.YtlakklaaapfpeaaW.PrintWords Go.Proofs.YtlakklaaapfpeaaW.PrintLast Go.Proofs.YtlakklaaapfpeaaW.PrintMore Go.Proofs.Ytlakklaaapfpeaa.L
set_option linter.unusedVariables false
set_option linter.unusedSimpArgs false
/-- Where one that waits has its place. -/
def placeF (w : Wt) (q : List Wt) : Nat := if w.own then (q.takeWhile (·.own)).length else q.length
def addF (w : Wt) (q : List Wt) : List Wt := q.take (placeF w q) ++ w :: q.drop (placeF w q)
theorem takeWhile_at : ∀ (q : List Wt) (i : Nat), i ≤ (q.takeWhile (·.own)).length → i < q.length → ((q.getD i default).own = true ↔ i < (q.takeWhile (·.own)).length)
  | [], i, _, h => absurd h (Nat.not_lt_zero _)
  | a :: q, i, hi, h => by
    cases ha : a.own with
    | false =>
      rw [List.takeWhile_cons_of_neg (by simp [ha])] at hi ⊢
      have : i = 0 := by simpa using hi
      subst this
      simp [ha]
    | true =>
      rw [List.takeWhile_cons_of_pos (by simp [ha])] at hi ⊢
      cases i with
      | zero => simp [ha]
      | succ i =>
        rw [List.length_cons] at hi h
        have := takeWhile_at q i (by omega) (by omega)
        rw [List.length_cons]
        simp only [List.getD_cons_succ]
        rw [this]
        omega
theorem takeWhile_le (q : List Wt) : (q.takeWhile (·.own)).length ≤ q.length := (List.takeWhile_sublist _).length_le
theorem placeF_le (w : Wt) (q : List Wt) : placeF w q ≤ q.length := by
  unfold placeF
  split
  · exact takeWhile_le q
  · exact Nat.le_refl _
theorem Upd.cell {W w4 : World} {G : Nat → Prop} {S : HP} (u : Upd W G S w4) (b : Nat) (hb : b < W.heap.size) (hg : ¬ G b) (i : Nat) : w4.cell? ⟨b, i, none⟩ = W.cell? ⟨b, i, none⟩ := by
  obtain ⟨_, _, e, _⟩ := u
  exact e.cell hb hg
theorem Upd.slice {W w4 : World} {G : Nat → Prop} {v : Value} {q : List Wt} (u : Upd W G (QAt v q) w4) : ∃ A n c, v = .slice A n c := by
  obtain ⟨_, h, _⟩ := u
  obtain ⟨A, c, hv, _⟩ := QAt.reads h
  exact ⟨A, _, c, hv⟩
theorem EntAt.facts {eb : Nat} {x : Le} {w : World} {F : Nat → Prop} (h : (EntAt eb x).on w F) : ∃ hb vq G, w.cell? ⟨eb, 0, none⟩ = some (.map (some hb)) ∧ w.cell? ⟨eb, 1, none⟩ = some vq ∧ (∀ i, w.frozen? ⟨eb, i, none⟩ = false) ∧ MapAt keyInt w hb (ints x.h) ∧ (QAt vq x.q).on w G ∧ (∀ k, G k → F k) ∧
    ∀ vq' q' w', Upd w G (QAt vq' q') w' → w'.cell? ⟨eb, 0, none⟩ = some (.map (some hb)) ∧ w'.cell? ⟨eb, 1, none⟩ = some vq ∧ (∀ i, w'.frozen? ⟨eb, i, none⟩ = false) ∧ Upd w F (EntAt eb ⟨x.h, q'⟩) (w'.setCell ⟨eb, 1, none⟩ vq') := by
  obtain ⟨⟨hb, vq⟩, h0⟩ := h
  have h00 := h0
  obtain ⟨F1, F2, g1, ⟨K1, K2, k1, k2, kd, kF⟩, gd, gF⟩ := h00
  obtain ⟨G1, s1, t1, u1⟩ := Sep.focusR h0
  obtain ⟨G2, s2, t2, u2⟩ := Sep.focusR s1
  refine ⟨hb, vq, G2, CellsAt.cell g1 0, CellsAt.cell g1 1, CellsAt.frozen g1, k1.1, s2, fun k hk => t1 k (t2 k hk), fun vq' q' w' hu => ?_⟩
  have h1 := u1 _ _ (u2 _ _ hu)
  have h2 := h1.trans (fun G hG => Upd.left hG (fun G1 hG1 => CellsAt.set hG1 1 vq'))
  obtain ⟨X, ⟨X1, X2, y1, _⟩, _⟩ := h1
  exact ⟨CellsAt.cell y1 0, CellsAt.cell y1 1, CellsAt.frozen y1, h2.imp (fun G hG => ⟨(hb, vq'), hG⟩)⟩
set_option maxHeartbeats 1600000 in
set_option maxRecDepth 100000 in
theorem add_calls (eb : Nat) (x : Le) (t : Wt) (W : World) (F : Nat → Prop) (he : (EntAt eb x).on W F) (hm : x.q.length < 900000) :
    Calls Try.prog 25 #[.pointer (some ⟨eb, 0, none⟩), .agg #[.int .i64 t.tx, .bool t.all, .bool t.own]] W fun e w' => e = .returned (.tuple #[]) ∧ Aside0 (Upd W F (EntAt eb ⟨x.h, addF t x.q⟩) w') := by
  obtain ⟨hb, vq, G, c0, c1, f, hM, hQ, hGF, hU⟩ := EntAt.facts he
  obtain ⟨A, c, rfl, hc, hR⟩ := QAt.reads hQ
  have heb : eb < W.heap.size := World.block_lt_of_cell? _ _ c0
  obtain ⟨h0, q⟩ := x
  dsimp only at hm hQ hc hR hU c1 hM ⊢
  obtain ⟨W1, hW1⟩ : ∃ W1, W1 = W.alloc (.cells #[.int .i64 t.tx, .bool t.all, .bool t.own] 62) := ⟨_, rfl⟩
  have HU := Aside0.mk hU
  have HQ := Aside0.mk (And.intro hQ (And.intro hGF (And.intro hm hR)))
  clear hU hQ hGF hm hR hM he
  have d1 : W1.cell? ⟨eb, 1, none⟩ = some (.slice A q.length c) := by rw [hW1]; exact (((Eff.refl (fun _ => False) W).alloc _).cell heb id).trans c1
  have e1 : Eff0 W W1 := by rw [hW1]; exact (Eff.refl _ _).alloc _
  have b2 : W1.cell? ⟨W.heap.size, 2, none⟩ = some (.bool t.own) := by rw [hW1]; exact blk_cell (heap_alloc_new W _) 2
  obtain ⟨tx, all, own⟩ := t
  dsimp only at hW1 b2 ⊢
  go_enter Try.func25, Try.ntmps25
  go_upto_if 11 with (fail)
  rw [← hW1]
  have d0 : W1.heap[W.heap.size]? = some (.cells #[.int .i64 tx, .bool all, .bool own] 62 (0, 0)) := by rw [hW1]; exact heap_alloc_new W _
  have HD := Aside0.mk (And.intro d0 e1)
  clear d0 e1 hW1 c1 c0 f b2
  go_cut [4] (fun v wx => v = .int .i64 (placeF ⟨tx, all, own⟩ q) ∧ wx = W1)
  case first =>
    cases own with
    | false =>
      go_wp2
      go_meet
      case rel => exact ⟨rfl, rfl⟩
    | true =>
      have hple := takeWhile_le q
      go_wp2_with fail
      go_loopg [4] q.length (fun k s4 wx => ∃ i : Nat, s4 = .int .i64 i ∧ i + k = q.length ∧ i ≤ (q.takeWhile (·.own)).length ∧ wx = W1)
      case atStart => exact ⟨0, rfl, by omega, Nat.zero_le _, rfl⟩
      case round =>
        obtain ⟨i, rfl, hik, hi, rfl⟩ := hrel
        by_cases hin : i < q.length
        · have p1 : ((i : Int) < (q.length : Int)) = True := eq_true (by omega)
          obtain ⟨g, o, rfl, x0, x1, x2⟩ := HQ.out.2.2.2 i hin
          have y2 := (HD.out.2.cell (World.block_lt_of_cell? _ _ x2) id).trans x2
          have hiff := takeWhile_at q i hi hin
          generalize (q.getD i default).own = ow at *
          cases ow with
          | true =>
            have hlt : i < (q.takeWhile (·.own)).length := hiff.1 rfl
            have hm2 := HQ.out.2.2.1
            clear hiff x0 x1 x2
            go_wp2_with fail
            go_roundg (gk - 1)
            case measure => omega
            case rel => exact ⟨i + 1, by simp, by omega, by omega, rfl⟩
          | false =>
            have hnl : ¬ i < (q.takeWhile (·.own)).length := fun h => by cases hiff.2 h
            have HE := Aside0.mk (show placeF ⟨tx, all, true⟩ q = i by unfold placeF; rw [if_pos rfl]; omega)
            clear hiff x0 x1 x2 hnl hi hple hik
            go_wp2
            go_meet
            case rel => exact ⟨by rw [HE.out], rfl⟩
        · have p1 : ((i : Int) < (q.length : Int)) = False := eq_false (by omega)
          have HE := Aside0.mk (show placeF ⟨tx, all, true⟩ q = i by unfold placeF; rw [if_pos rfl]; omega)
          clear hi hple hik hin
          go_wp2
          go_meet
          case rel => exact ⟨by rw [HE.out], rfl⟩
  case rest =>
    obtain ⟨rfl, rfl⟩ := hcut
    go_wp2_with fail
    have hpl := placeF_le ⟨tx, all, own⟩ q
    have HA := Aside0.mk (show addF ⟨tx, all, own⟩ q = q.take (placeF ⟨tx, all, own⟩ q) ++ ⟨tx, all, own⟩ :: q.drop (placeF ⟨tx, all, own⟩ q) from rfl)
    generalize placeF ⟨tx, all, own⟩ q = p at *
    have b0 : wc.cell? ⟨W.heap.size, 0, none⟩ = some (.int .i64 tx) := blk_cell HD.out.1 0
    have b1 : wc.cell? ⟨W.heap.size, 1, none⟩ = some (.bool all) := blk_cell HD.out.1 1
    have b2 : wc.cell? ⟨W.heap.size, 2, none⟩ = some (.bool own) := blk_cell HD.out.1 2
    have hW3 : (wc.drew.alloc (.cells #[.int .i64 tx, .bool all, .bool own] 62)).heap[wc.heap.size]? = some (.cells #[.int .i64 tx, .bool all, .bool own] 62 (0, 0)) := heap_alloc_new wc.drew _
    have E3 : Eff0 W (wc.drew.alloc (.cells #[.int .i64 tx, .bool all, .bool own] 62)) := (HD.out.2.drew).alloc _
    have CI := Aside0.mk (insert_calls (wc.drew.alloc (.cells #[.int .i64 tx, .bool all, .bool own] 62)) G A q.length c p wc.heap.size q ⟨tx, all, own⟩ (HP.eff0 HQ.out.1 E3) hpl HQ.out.2.2.1 hW3 (fun hg => by have := HP.lt _ HQ.out.1 hg; have := HD.out.2.size; omega))
    clear hW3
    have hlt : eb < wc.heap.size := World.block_lt_of_cell? _ _ d1
    have hG0 : ¬ G W.heap.size := fun hg => by have := HP.lt _ HQ.out.1 hg; omega
    have hs0 : W.heap.size < wc.heap.size := blk_lt HD.out.1
    have hc3 : ∀ i, (wc.drew.alloc (.cells #[.int .i64 tx, .bool all, .bool own] 62)).cell? ⟨W.heap.size, i, none⟩ = wc.cell? ⟨W.heap.size, i, none⟩ := fun i => ((Eff.refl (fun _ => False) wc).drew.alloc _).cell hs0 id
    have HY := Aside0.mk (And.intro hG0 (And.intro (show W.heap.size < (wc.drew.alloc (.cells #[.int .i64 tx, .bool all, .bool own] 62)).heap.size by simp; omega) hc3))
    clear hc3
    clear hG0
    go_region_with (go_at_call 39; refine CI.out.mono ?_; rintro e w4 ⟨v4, rfl, U4⟩; obtain ⟨A4, n4, c4, rfl⟩ := Upd.slice U4; obtain ⟨z0, z1, zf, U5⟩ := HU.out _ _ w4 (Upd.of E3 U4); have U6 := Aside0.mk U5; clear U5; have zf1 := zf 1; have hY := fun i => (Upd.cell U4 W.heap.size HY.out.2.1 HY.out.1 i).trans (HY.out.2.2 i); have y0 := (hY 0).trans b0; have y1 := (hY 1).trans b1; have y2 := (hY 2).trans b2)
    all_goals go_wp2_with fail
    all_goals go_end0
    all_goals exact ⟨rfl, by rw [HA.out]; exact U6⟩
end Go.Proofs.Ytlakklaaapfpeaa.LK
namespace Go.Proofs.Ytlakklaaapfpeaa.LK
open Go Go.RowKit Go.Proofs.YtlakklaaapfpeaaW.PrintWords Go.Proofs.YtlakklaaapfpeaaW.PrintLast Go.Proofs.YtlakklaaapfpeaaW.PrintMore Go.Proofs.Ytlakklaaapfpeaa.L
set_option linter.unusedVariables false
set_option linter.unusedSimpArgs false
/-- For which key one waits. -/
def waitF (l : Ws) (tx : Int) : Option ByteArray := (l.find? (fun p => decide (p.1 = tx))).map (·.2)
theorem look_txts (l : Ws) (k : Int) : L.look (txts l) k = (waitF l k).map Value.string := by
  unfold L.look txts waitF
  rw [List.find?_map]
  have e : ((fun p : Int × Value => decide (p.1 = k)) ∘ fun p : Int × ByteArray => (p.1, Value.string p.2)) = fun p => decide (p.1 = k) := rfl
  rw [e]
  cases l.find? (fun p => decide (p.1 = k)) <;> rfl
theorem TabAt.facts {b : Nat} {s : Tb} {W : World} {F : Nat → Prop} (h : (TabAt b s).on W F) : W.cell? ⟨b, 0, none⟩ = some (.map s.kb) ∧ W.cell? ⟨b, 1, none⟩ = some (.map s.wb) ∧ (∀ i, W.frozen? ⟨b, i, none⟩ = false) ∧ (∃ G, (PMap keyStr EntAt s.kb s.k).on W G ∧ ∀ k, G k → F k) ∧ ∃ G, (MapPart keyInt s.wb (txts s.w)).on W G ∧ ∀ k, G k → F k := by
  obtain ⟨F1, F2, h1, ⟨G1, G2, g1, g2, gd, gF⟩, hd, hF⟩ := h
  exact ⟨CellsAt.cell h1 0, CellsAt.cell h1 1, CellsAt.frozen h1, ⟨G1, g1, fun k hk => (hF k).2 (.inr ((gF k).2 (.inl hk)))⟩, G2, g2, fun k hk => (hF k).2 (.inr ((gF k).2 (.inr hk)))⟩
theorem zeroS (w : World) : (zeroValue 9).run Try.prog w = .ok (.string ⟨#[]⟩) w := by kernel_rfl
theorem TabAt.lookW {b : Nat} {s : Tb} {W : World} {F : Nat → Prop} (h : (TabAt b s).on W F) (k : Int) : (Instr.lookup 26 (.map s.wb) (.int .i64 k) true).run Try.prog W = .ok (.tuple #[.string ((waitF s.w k).getD ⟨#[]⟩), .bool (waitF s.w k).isSome]) W := by
  obtain ⟨_, _, _, _, G, h1, _⟩ := TabAt.facts h
  have e : ∀ o : Option ByteArray, (if true then Value.tuple #[(o.map Value.string).getD (.string ⟨#[]⟩), .bool (o.map Value.string).isSome] else (o.map Value.string).getD (.string ⟨#[]⟩)) = .tuple #[.string (o.getD ⟨#[]⟩), .bool o.isSome] := by
    intro o; cases o <;> rfl
  cases hm : s.wb with
  | none =>
    rw [hm] at h1
    have h2 : txts s.w = [] := h1.1
    have h3 : s.w = [] := by cases hs : s.w with | nil => rfl | cons _ _ => rw [hs] at h2; cases h2
    rw [h3]
    exact lookup_nil keyInt W Try.underlying26 Try.underlying3 (zeroS W) k true
  | some m =>
    rw [hm] at h1
    have := h1.1.lookup (P := Try.prog) Try.underlying26 Try.underlying3 (zeroS W) k true
    rw [look_txts, e] at this
    exact this
set_option maxHeartbeats 1600000 in
set_option maxRecDepth 100000 in
theorem waits_calls (b : Nat) (s : Tb) (W : World) (F : Nat → Prop) (tx : Int) (h : (TabAt b s).on W F) :
    Calls Try.prog 17 #[.pointer (some ⟨b, 0, none⟩), .int .i64 tx] W fun e w' => e = .returned (.tuple #[.string ((waitF s.w tx).getD ⟨#[]⟩), .bool (waitF s.w tx).isSome]) ∧ w' = W := by
  obtain ⟨c0, c1, f, _⟩ := TabAt.facts h
  have hL := TabAt.lookW h tx
  clear h
  go_enter Try.func17, Try.ntmps17
  go_wp2
  go_ret2
  exact ⟨rfl, rfl⟩
end Go.Proofs.Ytlakklaaapfpeaa.LK
namespace Go.Proofs.Ytlakklaaapfpeaa.LK
open Go Go.RowKit Go.Proofs.YtlakklaaapfpeaaW.PrintWords Go.Proofs.YtlakklaaapfpeaaW.PrintLast Go.Proofs.YtlakklaaapfpeaaW.PrintMore Go.Proofs.Ytlakklaaapfpeaa.L
set_option linter.unusedVariables false
set_option linter.unusedSimpArgs false
section
variable {K X : Type} [DecidableEq K]
set_option linter.unusedSectionVars false
variable {κ : Key K} {O : Nat → X → HP} {mb : Option Nat} {l : List (K × Nat × X)} {W W' : World} {F : Nat → Prop}
theorem sep_swap {A B C : HP} {W : World} {F : Nat → Prop} (h : (Sep (Sep A B) C).on W F) : (Sep (Sep A C) B).on W F :=
  Sep.assoc' (Sep.imp (Sep.assoc h) (fun _ h => h) (fun _ h => Sep.comm h))
/-- One is looked at, and leaves something beside. -/
theorem PMap.focusR {k : K} {b : Nat} {x : X} (h : (PMap κ O mb l).on W F) (hg : getP l k = some (b, x)) : ∃ F1, (O b x).on W F1 ∧ (∀ k, F1 k → F k) ∧ ∀ (x' : X) (R : HP) (W' : World), Upd W F1 (Sep (O b x') R) W' → Upd W F (Sep (PMap κ O mb (setP l k x')) R) W' := by
  have hn := PMap.nodup h
  obtain ⟨l1, l2, hl, _⟩ := getP_split hg
  obtain ⟨F2, h2, k2, u2⟩ := Sep.focusR h
  rw [hl] at h2 hn
  unfold many at h2
  rw [List.map_append, List.map_cons] at h2
  obtain ⟨F1, h1, k1, u1⟩ := Sep.focus (Stars.focus h2)
  refine ⟨F1, h1, fun k hk => k2 k (k1 k hk), fun x' R W' c => ?_⟩
  have h3 := u2 _ _ (u1 _ _ c)
  unfold PMap
  rw [ptrs_setP]
  refine h3.imp (fun G hG => ?_)
  refine Sep.assoc' (Sep.imp hG (fun _ h => h) (fun _ h => ?_))
  refine Sep.imp (sep_swap h) (fun _ h => ?_) (fun _ h => h)
  rw [hl, setP_split hn]
  unfold many
  rw [List.map_append, List.map_cons]
  exact Stars.unfocus h
end
theorem TabAt.focus {b : Nat} {s : Tb} {W : World} {F : Nat → Prop} {key : ByteArray} {eb : Nat} {x : Le} (h : (TabAt b s).on W F) (hg : getP s.k key = some (eb, x)) : ∃ F1, (EntAt eb x).on W F1 ∧ (∀ k, F1 k → F k) ∧ ∀ (x' : Le) (R : HP) (W' : World), Upd W F1 (Sep (EntAt eb x') R) W' → Upd W F (Sep (TabAt b { s with k := setP s.k key x' }) R) W' := by
  obtain ⟨F2, h2, k2, u2⟩ := Sep.focusR h
  obtain ⟨F3, h3, k3, u3⟩ := Sep.focus h2
  obtain ⟨F1, h1, k1, u1⟩ := PMap.focusR h3 hg
  refine ⟨F1, h1, fun k hk => k2 k (k3 k (k1 k hk)), fun x' R W' c => ?_⟩
  refine (u2 _ _ (u3 _ _ (u1 x' R W' c))).imp (fun G hG => ?_)
  exact Sep.assoc' (Sep.imp hG (fun _ h => h) (fun _ h => sep_swap h))
/-- Those that got the key wait no more. -/
def delsW (w : Ws) (out : List Int) : Ws := w.filter (fun p => !out.contains p.1)
/-- Those that wait for a key have it, as long as it may be; a key that nobody has or wants is gone. -/
def settleF (s : Tb) (key : ByteArray) : Tb := match getP s.k key with
  | none => s
  | some (_, x) => { s with
      k := if (grantF x.h x.q).1 = [] ∧ (grantF x.h x.q).2.1 = [] then delP s.k key else setP s.k key ⟨(grantF x.h x.q).1, (grantF x.h x.q).2.1⟩
      w := delsW s.w (grantF x.h x.q).2.2 }
end Go.Proofs.Ytlakklaaapfpeaa.LK
namespace Go.Proofs.Ytlakklaaapfpeaa.LK
open Go Go.RowKit Go.Proofs.YtlakklaaapfpeaaW.PrintWords Go.Proofs.YtlakklaaapfpeaaW.PrintLast Go.Proofs.YtlakklaaapfpeaaW.PrintMore Go.Proofs.Ytlakklaaapfpeaa.L
set_option linter.unusedVariables false
set_option linter.unusedSimpArgs false
def delW (w : Ws) (tx : Int) : Ws := w.filter (fun p => decide (p.1 ≠ tx))
theorem txts_del (w : Ws) (k : Int) : L.del (txts w) k = txts (delW w k) := by
  unfold L.del txts delW
  rw [List.filter_map]
  rfl
theorem delsW_nil (w : Ws) : delsW w [] = w := by unfold delsW; simp
theorem delsW_snoc (w : Ws) (o : List Int) (tx : Int) : delsW w (o ++ [tx]) = delW (delsW w o) tx := by
  unfold delsW delW
  rw [List.filter_filter]
  refine List.filter_congr (fun p _ => ?_)
  by_cases h : p.1 = tx <;> simp [h]
theorem TabAt.delW {b m : Nat} {s : Tb} {W : World} {F : Nat → Prop} (h : (TabAt b s).on W F) (hm : s.wb = some m) (tx : Int) (ty : TypeId) : ∃ w', (Builtin.delete_ #[26, 3] ty #[.map (some m), .int .i64 tx]).run Try.prog W = .ok (.tuple #[]) w' ∧ Upd W F (TabAt b { s with w := LK.delW s.w tx }) w' := by
  obtain ⟨kb, k, wb, w⟩ := s
  dsimp only at hm
  subst hm
  obtain ⟨F2, h2, k2, u2⟩ := Sep.focusR h
  obtain ⟨F3, h3, k3, u3⟩ := Sep.focusR h2
  obtain ⟨w', hrun, hM, hg, hs⟩ := h3.1.drop (P := Try.prog) Try.underlying26 Try.underlying3 tx ty
  rw [txts_del] at hM
  exact ⟨w', hrun, u2 _ _ (u3 _ _ (MapHP.upd (κ := keyInt) h3 hM hg))⟩
theorem at_int {w : World} {A : Option Addr} {n : Nat} {xs : List Int} (h : Kd.C kdI w A n xs) (i : Nat) (h1 : i < n) :
    ∃ ad, A = some ad ∧ w.cell? (ad.add i) = some (.int .i64 (xs.getD i 0)) := by
  obtain ⟨ad, c, e, _, hK, hc0⟩ := Kd.C_get h 0 (i : Int) (by omega) (by omega)
  have hc : ∀ j u, c[j]? = some u → w.cell? (ad.add (i * 1 + j)) = some u := hc0
  have hK2 : c = [.int .i64 (xs.getD i 0)] := hK
  subst hK2
  have := hc 0 _ rfl
  rw [Nat.mul_one, Nat.add_zero] at this
  exact ⟨ad, e, this⟩
theorem TabAt.lookK {b : Nat} {s : Tb} {W : World} {F : Nat → Prop} (h : (TabAt b s).on W F) (key : ByteArray) : (Instr.lookup 25 (.map s.kb) (.string key) false).run Try.prog W = .ok (ptrOf (getP s.k key)) W := by
  obtain ⟨_, _, _, ⟨G, h1, _⟩, _⟩ := TabAt.facts h
  exact PMap.look h1 Try.underlying25 Try.underlying9 (by kernel_rfl) key
end Go.Proofs.Ytlakklaaapfpeaa.LK
namespace Go.Proofs.Ytlakklaaapfpeaa.LK
open Go Go.RowKit Go.Proofs.YtlakklaaapfpeaaW.PrintWords Go.Proofs.YtlakklaaapfpeaaW.PrintLast Go.Proofs.YtlakklaaapfpeaaW.PrintMore Go.Proofs.Ytlakklaaapfpeaa.L
set_option linter.unusedVariables false
set_option linter.unusedSimpArgs false
theorem Upd.row {W w : World} {F : Nat → Prop} {S : HP} {v : Value} {xs : List Int} (u : Upd W F (Sep S (RowAt kdI 3 v xs)) w) : ∃ A c, v = .slice A xs.length c ∧ Kd.C kdI w A xs.length xs := by
  obtain ⟨G, ⟨G1, G2, _, g2, _⟩, _⟩ := u
  obtain ⟨A, c, hv, _, hC⟩ := RowAt.reads g2
  exact ⟨A, c, hv, hC⟩
theorem Upd.tab {W w : World} {F : Nat → Prop} {b : Nat} {s : Tb} {R : HP} (u : Upd W F (Sep (TabAt b s) R) w) : w.cell? ⟨b, 0, none⟩ = some (.map s.kb) ∧ w.cell? ⟨b, 1, none⟩ = some (.map s.wb) := by
  obtain ⟨G, ⟨G1, G2, g1, _⟩, _⟩ := u
  obtain ⟨c0, c1, _⟩ := TabAt.facts g1
  exact ⟨c0, c1⟩
theorem Upd.go {W w w' : World} {F G : Nat → Prop} {T : HP} (e1 : Eff F W w) (k1 : ∀ k, G k → F k ∨ W.heap.size ≤ k) (u : Upd w G T w') : Upd W F T w' := by
  obtain ⟨F2, h2, e2, k2⟩ := u
  refine ⟨F2, h2, e1.trans e2 k1, fun i hi => ?_⟩
  rcases k2 i hi with h | h
  · exact k1 i h
  · exact .inr (Nat.le_trans e1.size h)
theorem Upd.del {W w : World} {F : Nat → Prop} {b m : Nat} {s : Tb} {R : HP} (u : Upd W F (Sep (TabAt b s) R) w) (hm : s.wb = some m) (tx : Int) : ∃ w', (∀ ty, (Builtin.delete_ #[26, 3] ty #[.map (some m), .int .i64 tx]).run Try.prog w = .ok (.tuple #[]) w') ∧ Upd W F (Sep (TabAt b { s with w := LK.delW s.w tx }) R) w' := by
  obtain ⟨G, hG, e1, k1⟩ := u
  obtain ⟨F1, h1, _, lift⟩ := Sep.focus hG
  obtain ⟨w', hrun, u2⟩ := TabAt.delW h1 hm tx 0
  exact ⟨w', fun ty => hrun, Upd.go e1 k1 (lift _ _ u2)⟩
theorem getP_set {k : List (ByteArray × Nat × Le)} {key : ByteArray} {eb : Nat} {x x' : Le} (h : getP k key = some (eb, x)) : getP (setP k key x') key = some (eb, x') := by
  rw [getP_setP, h]
  simp
theorem del_set (k : List (ByteArray × Nat × Le)) (key : ByteArray) (x' : Le) : delP (setP k key x') key = delP k key := by
  unfold delP setP
  induction k with
  | nil => rfl
  | cons p k ih =>
    rw [List.map_cons]
    by_cases h : p.1 = key
    · rw [if_pos h, List.filter_cons_of_neg (by simp [h]), List.filter_cons_of_neg (by simp [h]), ih]
    · rw [if_neg h, List.filter_cons_of_pos (by simp [h]), List.filter_cons_of_pos (by simp [h]), ih]
theorem Upd.ent {W w : World} {F : Nat → Prop} {b eb : Nat} {s : Tb} {R : HP} {key : ByteArray} {x : Le} (u : Upd W F (Sep (TabAt b s) R) w) (hg : getP s.k key = some (eb, x)) : ∃ hb vq, w.cell? ⟨eb, 0, none⟩ = some (.map (some hb)) ∧ w.cell? ⟨eb, 1, none⟩ = some vq ∧ MapAt keyInt w hb (ints x.h) ∧ ∃ G, (QAt vq x.q).on w G := by
  obtain ⟨G, ⟨G1, G2, g1, _⟩, _⟩ := u
  obtain ⟨F1, h1, _⟩ := TabAt.focus g1 hg
  obtain ⟨hb, vq, G3, c0, c1, _, hM, hQ, _⟩ := EntAt.facts h1
  exact ⟨hb, vq, c0, c1, hM, G3, hQ⟩
theorem Upd.drop {W w : World} {F : Nat → Prop} {T R : HP} (u : Upd W F (Sep T R) w) : Upd W F T w := by
  obtain ⟨G, ⟨G1, G2, g1, _, _, hF⟩, e, hk⟩ := u
  exact ⟨G1, g1, e, fun k h => hk k ((hF k).2 (.inl h))⟩
theorem Upd.delK {W w : World} {F : Nat → Prop} {b mk eb : Nat} {s : Tb} {key : ByteArray} {x : Le} (u : Upd W F (TabAt b s) w) (hm : s.kb = some mk) (hg : getP s.k key = some (eb, x)) : ∃ w', (∀ ty, (Builtin.delete_ #[25, 9] ty #[.map (some mk), .string key]).run Try.prog w = .ok (.tuple #[]) w') ∧ Upd W F (TabAt b { s with k := delP s.k key }) w' := by
  obtain ⟨kb, k, wb, ws⟩ := s
  dsimp only at hm hg
  subst hm
  obtain ⟨G, hG, e1, k1⟩ := u
  obtain ⟨F2, h2, _, u2⟩ := Sep.focusR hG
  obtain ⟨F3, h3, _, u3⟩ := Sep.focus h2
  obtain ⟨w', hrun, u4⟩ := PMap.drop (P := Try.prog) h3 hg Try.underlying25 Try.underlying9 0
  exact ⟨w', fun ty => hrun, Upd.go e1 k1 (u2 _ _ (u3 _ _ u4))⟩
theorem grantF_len : ∀ (h : List (Int × Int)) (q : List Wt), (grantF h q).2.2.length + (grantF h q).2.1.length = q.length
  | h, [] => rfl
  | h, w :: q => by
    unfold grantF
    split
    · have := grantF_len (putI h w.tx (if w.all then 2 else if getI h w.tx < 1 then 1 else getI h w.tx)) q
      simp only [List.length_cons]
      omega
    · simp
set_option maxHeartbeats 1600000 in
set_option maxRecDepth 100000 in
theorem settle_calls (b : Nat) (s : Tb) (W : World) (F : Nat → Prop) (key : ByteArray) (eb : Nat) (x : Le) (m mk : Nat) (h : (TabAt b s).on W F) (hg : getP s.k key = some (eb, x)) (hm : s.wb = some m) (hmk : s.kb = some mk) (hq : x.q.length < 900000) :
    Calls Try.prog 24 #[.pointer (some ⟨b, 0, none⟩), .string key] W fun e w' => e = .returned (.tuple #[]) ∧ Aside0 (Upd W F (TabAt b (settleF s key)) w') := by
  obtain ⟨c0, c1, f, _⟩ := TabAt.facts h
  rw [hmk] at c0
  have hL := TabAt.lookK h key
  rw [hg, hmk] at hL
  obtain ⟨F1, hE, hF1, hU⟩ := TabAt.focus h hg
  have CG := Aside0.mk (grant_calls eb x W F1 hE hq)
  have HU := Aside0.mk hU
  dsimp only [ptrOf, Option.map_some] at hL
  clear hE hF1 hU h
  go_enter Try.func24, Try.ntmps24
  go_wp2_with (go_at_call 38; refine CG.out.mono ?_; rintro e w1 ⟨v, rfl, U1⟩; have U2 := Aside0.mk (HU.out _ _ _ U1.out); obtain ⟨A, c, rfl, _⟩ := Upd.row U2.out; clear U1)
  have hgl := grantF_len x.h x.q
  generalize hgr : grantF x.h x.q = r at *
  obtain ⟨h', q', out⟩ := r
  dsimp only at U2 ⊢
  have HS := Aside0.mk (And.intro hg (And.intro hmk hgr))
  clear hgr CG HU hL c0 c1 f
  have B : out.length < 900000 := by dsimp only at hgl; omega
  clear hgl
  go_loopg [16] out.length (fun k s16 wr => ∃ i : Nat, s16 = .int .i64 i ∧ i + k = out.length ∧ Aside0 (Upd W F (Sep (TabAt b ⟨s.kb, setP s.k key ⟨h', q'⟩, s.wb, delsW s.w (out.take i)⟩) (RowAt kdI 3 (.slice A out.length c) out)) wr))
  case atStart => exact ⟨0, rfl, by omega, Aside0.mk (by rw [List.take_zero, delsW_nil]; exact U2.out)⟩
  case round =>
    obtain ⟨i, rfl, hik, A1⟩ := hrel
    have cc := Upd.tab A1.out
    obtain ⟨c0, c1⟩ := cc
    dsimp only at c0 c1
    rw [hm] at c1
    by_cases hi : i < out.length
    · have p1 : ((i : Int) < (out.length : Int)) = True := eq_true (by omega)
      obtain ⟨A', c', hv, hC⟩ := Upd.row A1.out
      injection hv with ha _ hcc
      subst ha hcc
      obtain ⟨ad, rfl, x0⟩ := at_int hC i hi
      obtain ⟨w2, hrun, U3⟩ := Upd.del A1.out hm (out.getD i 0)
      dsimp only at U3
      have A2 := Aside0.mk U3
      have HT := Aside0.mk (show out.take (i + 1) = out.take i ++ [out.getD i 0] by rw [List.take_succ_eq_append_getElem hi]; simp [List.getD, hi])
      clear U3 hC
      generalize out.getD i 0 = tx at *
      go_wp2
      go_roundg (gk - 1)
      case measure => omega
      case rel =>
        refine ⟨i + 1, by simp, by omega, Aside0.mk ?_⟩
        rw [HT.out, delsW_snoc]
        exact A2.out
    · have p1 : ((i : Int) < (out.length : Int)) = False := eq_false (by omega)
      obtain rfl : i = out.length := by omega
      rw [List.take_length] at A1
      have hg2 := getP_set (x' := ⟨h', q'⟩) hg
      obtain ⟨hb, vq, d0, d1, hM, G, hQ⟩ := Upd.ent A1.out hg2
      obtain ⟨A', c', rfl, _, _⟩ := QAt.reads hQ
      have hlen := fun ty => hM.len (P := Try.prog) Try.underlying56 ty
      rw [show (ints h').length = h'.length by unfold ints; simp] at hlen
      have U5 := Upd.drop A1.out
      rw [hmk] at c0
      have HF := Aside0.mk (show settleF s key = { s with k := if h' = [] ∧ q' = [] then delP s.k key else setP s.k key ⟨h', q'⟩, w := delsW s.w out } by unfold settleF; rw [hg]; dsimp only; rw [HS.out.2.2])
      obtain ⟨w5, hrun, U6⟩ := Upd.delK U5 (mk := mk) hmk hg2
      rw [del_set] at U6
      have H5 := Aside0.mk (And.intro U5 U6)
      clear U5 U6 hM hQ hg2 A1
      dsimp only at d0 d1 hlen
      cases h' with
      | nil =>
        cases q' with
        | nil =>
          simp only [List.length_nil] at hlen d1
          go_wp2
          go_end0
          refine ⟨rfl, Aside0.mk ?_⟩
          rw [HF.out]
          rw [if_pos ⟨trivial, trivial⟩]
          exact H5.out.2
        | cons a q' =>
          simp only [List.length_nil, List.length_cons] at hlen d1
          go_wp2
          go_end0
          refine ⟨rfl, Aside0.mk ?_⟩
          rw [HF.out, if_neg (by simp)]
          exact H5.out.1
      | cons a h' =>
        simp only [List.length_cons] at hlen
        go_wp2
        go_end0
        refine ⟨rfl, Aside0.mk ?_⟩
        rw [HF.out, if_neg (by simp)]
        exact H5.out.1
end Go.Proofs.Ytlakklaaapfpeaa.LK
