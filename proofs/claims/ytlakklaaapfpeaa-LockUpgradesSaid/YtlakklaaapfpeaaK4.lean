import Derived.Test.YtlakklaaapfpeaaLSortRow
import Derived.Test.YtlakklaaapfpeaaShelf
import Derived.Deep.RegionHeld3
import Derived.Sort.Walk0
import Derived.Laws.Cover1
import Derived.Test.YtlakklaaapfpeaaProg
import Derived.BigRegion
import Derived.BigQuiet
import Derived.Deep.QuietTactic
import Derived.Deep.AppendLies
import Derived.ChangeAlike
import Derived.Outline
import Derived.WalkKit
import Derived.KernelRfl
import Derived.Deep.LoopGhost
import Derived.Deep.RegionLaw
import Derived.Test.YtlakklaaapfpeaaWMore
import Derived.Test.YtlakklaaapfpeaaWKept
import Derived.Test.YtlakklaaapfpeaaLSep
import Derived.Test.YtlakklaaapfpeaaK3
import Derived.ChangeKeysEq
import Derived.Laws.StructEq
namespace Go.Proofs.Ytlakklaaapfpeaa.LK
open Go Go.RowKit Go.Proofs.YtlakklaaapfpeaaW.PrintWords Go.Proofs.YtlakklaaapfpeaaW.PrintLast Go.Proofs.YtlakklaaapfpeaaW.PrintMore Go.Proofs.Ytlakklaaapfpeaa.L
set_option linter.unusedVariables false
set_option linter.unusedSimpArgs false
open Go.Sort
def cfP (x y : Pr) : Int := if x.1 < y.1 then -1 else if y.1 < x.1 then 1 else if x.2 < y.2 then -1 else if y.2 < x.2 then 1 else 0
theorem ltOfP (x y : Pr) : ltOf cfP x y = ltP x y := by
  unfold ltOf cfP ltP
  rw [Bool.eq_iff_iff]
  simp only [decide_eq_true_eq, Bool.or_eq_true, Bool.and_eq_true]
  by_cases h1 : x.1 < y.1
  · simp [h1]
  · rw [if_neg h1]
    by_cases h2 : y.1 < x.1
    · rw [if_pos h2]
      simp only [show ¬ ((1 : Int) < 0) by decide, false_iff]
      omega
    · rw [if_neg h2]
      by_cases h3 : x.2 < y.2
      · rw [if_pos h3]
        simp only [show ((-1 : Int) < 0) by decide, true_iff]
        omega
      · rw [if_neg h3]
        by_cases h4 : y.2 < x.2
        · rw [if_pos h4]
          simp only [show ¬ ((1 : Int) < 0) by decide, false_iff]
          omega
        · rw [if_neg h4]
          simp only [show ¬ ((0 : Int) < 0) by decide, false_iff]
          omega
theorem swoP : SWO (ltOf cfP) where
  irrefl x := by rw [ltOfP]; exact ltP_irrefl x
  trans x y z h1 h2 := by rw [ltOfP] at *; exact ltP_trans h1 h2
  ntrans x y z h1 h2 := by
    rw [ltOfP] at *
    cases h : ltP x z with
    | false => rfl
    | true =>
      cases h3 : ltP z y with
      | true => rw [ltP_trans h h3] at h1; cases h1
      | false =>
        have e := ltP_total h2 h3
        rw [e] at h1
        rw [h] at h1
        cases h1
def orF (x y : Int) : Int := if x = 0 then y else x
set_option maxHeartbeats 1600000 in
set_option maxRecDepth 100000 in
theorem or_calls (w : World) (ab : Nat) (x y : Int) (h : w.heap[ab]? = some (.cells #[.int .i64 x, .int .i64 y] 3 (0, 0))) :
    Calls Try.prog 31 #[.slice (some ⟨ab, 0, none⟩) 2 2] w fun e w' => e = .returned (.int .i64 (orF x y)) ∧ w' = w := by
  have x0 : w.cell? ⟨ab, 0, none⟩ = some (.int .i64 x) := blk_cell h 0
  have x1 : w.cell? ⟨ab, 1, none⟩ = some (.int .i64 y) := blk_cell h 1
  clear h
  go_enter Try.func31, Try.ntmps31
  go_wp2
  go_loopg [8] 2 (fun k s8 wr => wr = w ∧ ((s8 = .int .i64 0 ∧ k = 2) ∨ (s8 = .int .i64 1 ∧ k = 1 ∧ x = 0) ∨ (s8 = .int .i64 2 ∧ k = 0 ∧ x = 0 ∧ y = 0)))
  case atStart => exact ⟨rfl, .inl ⟨rfl, rfl⟩⟩
  case round =>
    obtain ⟨rfl, ⟨rfl, rfl⟩ | ⟨rfl, rfl, hx⟩ | ⟨rfl, rfl, hx, hy⟩⟩ := hrel
    · by_cases hx : x = 0
      · have HX := Aside0.mk hx
        subst hx
        clear HX
        go_wp2
        go_roundg 1
        case measure => decide
        case rel => simp
      · have n1 : (x == 0) = false := beq_eq_false_iff_ne.2 hx
        have n2 : (x != 0) = true := by rw [bne, n1]; rfl
        have n3 : (x = 0) = False := eq_false hx
        clear hx
        go_wp2
        go_ret
        exact ⟨by unfold orF; simp only [n3, if_false]; rfl, rfl⟩
    · subst hx
      by_cases hy : y = 0
      · subst hy
        go_wp2
        go_roundg 0
        case measure => decide
        case rel => simp
      · have n1 : (y == 0) = false := beq_eq_false_iff_ne.2 hy
        have n2 : (y != 0) = true := by rw [bne, n1]; rfl
        have n3 : (y = 0) = False := eq_false hy
        clear hy
        go_wp2
        go_ret
        exact ⟨by unfold orF; rw [if_pos rfl]; rfl, rfl⟩
    · subst hx hy
      go_wp2
      go_ret
      exact ⟨by unfold orF; rw [if_pos rfl]; rfl, rfl⟩
theorem cfP_eq (x y : Pr) : cfP x y = orF (Lib.compareInt x.1 y.1) (Lib.compareInt x.2 y.2) := by
  unfold cfP orF Lib.compareInt
  by_cases h1 : x.1 < y.1
  · simp [h1]
  · by_cases h2 : y.1 < x.1
    · simp [h1, h2]
    · simp [h1, h2]
set_option maxHeartbeats 1600000 in
set_option maxRecDepth 100000 in
theorem closureP (x y : Pr) (W : World) : Calls Try.prog 30 #[.agg #[.int .i64 x.1, .int .i64 x.2], .agg #[.int .i64 y.1, .int .i64 y.2]] W fun e w' => e = .returned (.int .i64 (cfP x y)) ∧ ∃ q os', w' = grow (W.drewN q) os' := by
  rw [cfP_eq]
  obtain ⟨a, b⟩ := x
  obtain ⟨c, d⟩ := y
  dsimp only
  go_enter Try.func30, Try.ntmps30
  go_wp2
  have z0 : ∀ W' : World, ((W.alloc (.cells #[.int .i64 a, .int .i64 b] 47)).alloc (.cells #[.int .i64 c, .int .i64 d] 47)) = W' → W'.cell? ⟨W.heap.size, 0, none⟩ = some (.int .i64 a) ∧ W'.cell? ⟨W.heap.size, 1, none⟩ = some (.int .i64 b) ∧ W'.cell? ⟨W.heap.size + 1, 0, none⟩ = some (.int .i64 c) ∧ W'.cell? ⟨W.heap.size + 1, 1, none⟩ = some (.int .i64 d) := by
    rintro _ rfl
    have h1 := heap_alloc2_old W (.cells #[.int .i64 a, .int .i64 b] 47) (.cells #[.int .i64 c, .int .i64 d] 47)
    have h2 := heap_alloc_new (W.alloc (.cells #[.int .i64 a, .int .i64 b] 47)) (.cells #[.int .i64 c, .int .i64 d] 47)
    rw [show (W.alloc (.cells #[.int .i64 a, .int .i64 b] 47)).heap.size = W.heap.size + 1 by simp] at h2
    exact ⟨blk_cell h1 0, blk_cell h1 1, blk_cell h2 0, blk_cell h2 1⟩
  have hgr : ∃ os, ((W.alloc (.cells #[.int .i64 a, .int .i64 b] 47)).alloc (.cells #[.int .i64 c, .int .i64 d] 47)) = grow W os := ⟨_, by rw [alloc_eq_grow, alloc_eq_grow, grow_grow]⟩
  generalize (W.alloc (.cells #[.int .i64 a, .int .i64 b] 47)).alloc (.cells #[.int .i64 c, .int .i64 d] 47) = W2 at *
  obtain ⟨y0, y1, y2, y3⟩ := z0 W2 rfl
  have HG := Aside0.mk hgr
  clear z0 hgr
  have hO : (W2.alloc (.cells #[.int .i64 (Lib.compareInt a c), .int .i64 (Lib.compareInt b d)] 3)).drew.heap[W2.heap.size]? = some (.cells #[.int .i64 (Lib.compareInt a c), .int .i64 (Lib.compareInt b d)] 3 (0, 0)) := heap_alloc_new W2 _
  go_region_held3 (fun w' => w'.cell? ⟨W.heap.size, 0, none⟩ = some (.int .i64 a) ∧ w'.cell? ⟨W.heap.size, 1, none⟩ = some (.int .i64 b) ∧ w'.cell? ⟨W.heap.size + 1, 0, none⟩ = some (.int .i64 c) ∧ w'.cell? ⟨W.heap.size + 1, 1, none⟩ = some (.int .i64 d)) (go_keep) (first
    | (go_at_call 32; refine (Try.cmp_Compare_int _ _ _).mono ?_; rintro e w5 ⟨rfl, rfl⟩)
    | (go_at_call 31; refine (or_calls _ _ _ _ hO).mono ?_; rintro e w5 ⟨rfl, rfl⟩))
  go_wp2_with fail
  go_ret
  obtain ⟨os, rfl⟩ := HG.out
  refine ⟨rfl, 1, os ++ #[.cells #[.int .i64 (Lib.compareInt a c), .int .i64 (Lib.compareInt b d)] 3 (0, 0)], ?_⟩
  rw [alloc_eq_grow, grow_grow]
  rfl
theorem cmpP (blk off size : Nat) (w : World) : CmpLays Try.prog 30 #[] cellsP 2 cfP blk off size w := fun _ _ _ _ x y => closureP x y _
theorem sortP_calls (base : Nat) (w1 : World) (v : Value) (xs : List Pr) (h : kdP.R 47 w1 base (fun _ => True) v xs) (hl : xs.length < 900000) :
    Calls Try.prog 29 #[v, .func (.func 30) #[] #[]] w1 fun e w' => e = .returned (.tuple #[]) ∧ Aside0 (∃ ys, xs.Perm ys ∧ ys.Pairwise (fun a b => ltP b a = false) ∧ kdP.R 47 w' base (fun _ => True) v ys ∧ Eff (fun k => v.ownBlock = some k) w1 w') := by
  rcases Kd.R_own h with ⟨inner, ho⟩
  rcases ho.2 with ⟨hv, h0⟩ | ⟨g, cap, cur, hv, hg, _⟩
  · have hnil : xs = [] := List.length_eq_zero_iff.mp h0
    subst hnil
    subst hv
    refine (Try.slices_SortFunc_none (α := Pr) none 0 _ w1).mono ?_
    rintro e w' ⟨rfl, rfl⟩
    exact ⟨rfl, Aside0.mk ⟨[], List.Perm.refl _, List.Pairwise.nil, h, Eff.refl _ _⟩⟩
  · subst hv
    have eg : ∀ args w, (callFunc 30 args).run Try.prog w = .ok (.enter 30 args) w := enters_of Try.func30 (by kernel_rfl) rfl
    have hX : RowX cellsP 2 47 w1 base g cap xs := RowX.of_R (d := kdP) rfl (fun h => h) h
    have hH : HoldsK cellsP 2 w1 g 0 xs.toArray := holds_of_R (d := kdP) rfl (by decide) (fun h => h) h
    have hgl : g < w1.heap.size := Kd.R_lt h g (by simp [Value.ownBlock])
    have hcon := Try.slices_SortFunc 2 Try.isAgg47 Try.sizeOf47 cellsP (fun _ => rfl) (fun x v hv => by simp [cellsP] at hv; rcases hv with rfl | rfl <;> rfl) cfP swoP 30 #[] g 0 cap xs.toArray w1 eg (cmpP g 0 xs.toArray.size w1) hH hgl (by simp; omega)
    refine hcon.mono ?_
    rintro e w' ⟨rfl, d, n, os, hp, hs, rfl⟩
    obtain ⟨p1, p2⟩ := perm_list hp
    have p2' : d.size = xs.length := by rw [p2]; rfl
    have hR : kdP.R 47 _ base (fun _ => True) (.slice (some ⟨g, 0, none⟩) d.toList.length cap) d.toList := RowX.toR (d := kdP) rfl (fun _ => rfl) (fun _ _ _ _ => rfl) (rowX_sortK (enc := cellsP) (k := 2) (fun _ => rfl) (by decide) hX n d os p2') trivial
    rw [Array.length_toList, p2'] at hR
    have h2 := sorted_list (b := d) (by rw [p2]; exact hs)
    exact ⟨rfl, Aside0.mk ⟨d.toList, p1, h2.imp (fun {a b} h3 => by rw [ltOfP] at h3; exact h3), hR, sort_eff.mono (fun k hk => by subst hk; simp [Value.ownBlock])⟩⟩
end Go.Proofs.Ytlakklaaapfpeaa.LK
namespace Go.Proofs.Ytlakklaaapfpeaa.LK
open Go Go.RowKit Go.Proofs.YtlakklaaapfpeaaW.PrintWords Go.Proofs.YtlakklaaapfpeaaW.PrintLast Go.Proofs.YtlakklaaapfpeaaW.PrintMore Go.Proofs.Ytlakklaaapfpeaa.L
set_option linter.unusedVariables false
set_option linter.unusedSimpArgs false
theorem lenP (x : Pr) : (cellsP x).length = 2 := rfl
theorem oneP (l : List Pr) : ∀ u ∈ flatE cellsP l, u.oneCell' = true := by
  intro u hu
  obtain ⟨x, _, hx⟩ := List.mem_flatMap.1 hu
  simp only [cellsP, List.mem_cons, List.not_mem_nil, or_false] at hx
  rcases hx with rfl | rfl <;> rfl
abbrev RowP (w : World) (base g cap : Nat) (l : List Pr) : Prop := RowX cellsP 2 47 w base g cap l
theorem RowP.at {W : World} {base g cap : Nat} {ys : List Pr} (h : RowP W base g cap ys) (i : Nat) (hi : i < ys.length) : W.cell? ⟨g, i * 2, none⟩ = some (.int .i64 (ys.getD i default).1) ∧ W.cell? ⟨g, i * 2 + 1, none⟩ = some (.int .i64 (ys.getD i default).2) := by
  have key : ∀ j u, (cellsP (ys.getD i default))[j]? = some u → W.cell? ⟨g, i * 2 + j, none⟩ = some u := by
    intro j u hu
    have hj : j < 2 := (List.getElem?_eq_some_iff.1 hu).1
    refine h.cells _ _ ?_
    have hx : ys = ys.take i ++ ys.getD i default :: ys.drop (i + 1) := by simp [List.getD, hi]
    generalize hq : ys.getD i default = q at *
    rw [hx, flatE_append, flatE_cons, List.getElem?_append_right (by rw [flatE_length lenP, List.length_take]; omega), flatE_length lenP, List.length_take, Nat.min_eq_left (by omega), Nat.add_sub_cancel_left, List.getElem?_append_left (by rw [lenP]; exact hj)]
    exact hu
  exact ⟨key 0 _ rfl, key 1 _ rfl⟩
theorem RowP.put {W : World} {base g cap : Nat} {ys : List Pr} (h : RowP W base g cap ys) (i : Nat) (hi : i < ys.length) (c : Pr) : RowP ((W.setCell ⟨g, i * 2, none⟩ (.int .i64 c.1)).setCell ⟨g, i * 2 + 1, none⟩ (.int .i64 c.2)) base g cap (ys.set i c) ∧
    Eff (fun k => k = g) W ((W.setCell ⟨g, i * 2, none⟩ (.int .i64 c.1)).setCell ⟨g, i * 2 + 1, none⟩ (.int .i64 c.2)) := by
  exact ⟨RowX.set lenP h hi c, eff_setCells g (i * 2) (cellsP c) W⟩
theorem zerosP (n : Nat) : ∀ u ∈ (Builtin.zeroCells (Value.agg #[.int .i64 0, .int .i64 0]).cells n).toList, u.oneCell' = true := by
  intro u hu
  simp only [Builtin.zeroCells, Array.toList_map, List.mem_map] at hu
  obtain ⟨i, _, rfl⟩ := hu
  have e : (Value.agg #[.int .i64 0, .int .i64 0]).cells = #[.int .i64 0, .int .i64 0] := rfl
  rw [e]
  have : i % 2 = 0 ∨ i % 2 = 1 := by omega
  rcases this with h | h <;> simp [h, Value.oneCell']
theorem RowP.clear {W : World} {base g cap : Nat} {ys : List Pr} (h : RowP W base g cap ys) (i : Nat) (hi : i < ys.length) (c : Nat) : ∃ W', (∀ ty, (Builtin.clear_ #[39] ty #[.slice (some ⟨g, i * 2, none⟩) (ys.length - i) c]).run Try.prog W = .ok (.tuple #[]) W') ∧ RowP W' base g cap (ys.take i) ∧ Eff (fun k => k = g) W W' := by
  have hl := h.len
  have hz : (Builtin.zeroCells (Value.agg #[.int .i64 0, .int .i64 0]).cells (ys.length - i)).toList.length = (ys.length - i) * 2 := by rw [Array.length_toList, size_zeroCells]; rfl
  refine ⟨_, fun ty => run_clearK (P := Try.prog) (n := ys.length - i) W 39 47 ty (.agg #[.int .i64 0, .int .i64 0]) Try.underlying39 Try.zeroValue47 (zerosP _) g (i * 2) c (by omega) (fun j hj => ?_) (fun j _ => h.free _), ?_, eff_setCells _ _ _ _⟩
  · rw [hz] at hj
    exact h.some _ (by omega)
  · exact RowX.behind lenP (RowX.take h i) (by rw [List.length_take]; omega) (by rw [hz]; omega)
theorem cF_at (xs : List Pr) (j : Nat) (hj : j + 1 < xs.length) : cF none (xs.take (j + 2)) = cF none (xs.take (j + 1)) ++ (if xs.getD j default = xs.getD (j + 1) default then [] else [xs.getD (j + 1) default]) := by
  have e1 : xs.take (j + 2) = xs.take (j + 1) ++ [xs.getD (j + 1) default] := by
    rw [List.take_succ_eq_append_getElem hj]
    simp [List.getD, hj]
  have e2 : (xs.take (j + 1)).getLast? = some (xs.getD j default) := by
    rw [List.take_succ_eq_append_getElem (by omega), List.getLast?_concat]
    simp [List.getD, show j < xs.length by omega]
  rw [e1, cF_snoc, e2]
  congr 1
  simp only [Option.some_or, Option.some.injEq]
theorem cF_one (xs : List Pr) : cF none (xs.take 1) = xs.take 1 := by
  cases xs with
  | nil => rfl
  | cons a l => simp [cF]
theorem drop_next {a b : List Pr} {n : Nat} (h : a.drop n = b.drop n) : a.drop (n + 1) = b.drop (n + 1) := by
  have := congrArg (List.drop 1) h
  rwa [List.drop_drop, List.drop_drop] at this
theorem pr_eq (a b : Pr) : (a = b) = (a.1 = b.1 ∧ a.2 = b.2) := by
  rw [eq_iff_iff]
  exact Prod.ext_iff
theorem eqP_run (a b c d : Int) (W : World) : (Op.equalIn 10000 47 (.agg #[.int .i64 a, .int .i64 b]) (.agg #[.int .i64 c, .int .i64 d])).run Try.prog W = .ok (decide (((a, b) : Pr) = (c, d))) W := by
  obtain ⟨i0, hi, hz⟩ := Option.map_eq_some_iff.1 infoInt
  simp only [Prod.mk.injEq] at hz
  have hc : Try.prog.cellsOf 3 = 1 := by kernel_rfl
  have p0 : ∀ (x y : Value), (part 3 #[x, y] 0).run Try.prog W = .ok x W := fun x y => by simp [part, Try.isAgg3 W]
  have p1 : ∀ (x y : Value), (part 3 #[x, y] 1).run Try.prog W = .ok y W := fun x y => by simp [part, Try.isAgg3 W]
  have hq := fun x y => run_equalIn_int (P := Try.prog) (w := W) 9998 3 .i64 .i64 x y Try.underlying3
  rw [show (10000 : Nat) = 9999 + 1 from rfl, run_equalIn_array (w := W) 9999 _ _ Try.underlying47 hi, hc]
  simp only [show (9998 + 1 : Nat) = 9999 from rfl] at hq
  simp [Op.eqItems, List.range, List.range.loop, hq, p0, p1]
  by_cases h1 : a = c
  · by_cases h2 : b = d
    · subst h1 h2; simp
    · subst h1; simp [h2]
  · simp [h1]
set_option maxHeartbeats 1600000 in
set_option maxRecDepth 100000 in
theorem compactP_calls (base : Nat) (w : World) (v : Value) (xs : List Pr) (h : kdP.R 47 w base (fun _ => True) v xs) (hl : xs.length < 900000) :
    Calls Try.prog 33 #[v] w fun e w' => ∃ v', e = .returned v' ∧ Aside0 (kdP.R 47 w' base (fun _ => True) v' (cF none xs) ∧ Eff (fun k => v.ownBlock = some k) w w') := by
  by_cases hs : xs.length < 2
  · obtain ⟨A, c, rfl⟩ := Kd.R_slice h
    have p1 : ((xs.length : Int) < 2) = True := eq_true (by omega)
    have hx : cF none xs = xs := by
      have := cF_one xs
      rwa [List.take_of_length_le (by omega)] at this
    have H := Aside0.mk (And.intro h hx)
    clear h hs hx hl
    go_enter Try.func33, Try.ntmps33
    go_wp2
    go_ret
    exact ⟨_, rfl, Aside0.mk ⟨by rw [H.out.2]; exact H.out.1, Eff.refl _ _⟩⟩
  · rcases Kd.R_own h with ⟨inner, ho⟩
    rcases ho.2 with ⟨hv, h0⟩ | ⟨g, cap, cur, hv, hg, _⟩
    · exact absurd h0 (by omega)
    · subst hv
      have hX : RowP w base g cap xs := RowX.of_R (d := kdP) rfl (fun h => h) h
      have hcl := hX.len
      have hcm := hX.max
      simp only [maxLen] at hcm
      have p0 : ((xs.length : Int) < 2) = False := eq_false (by omega)
      have HK : ∀ w' l, RowP w' base g cap l → kdP.R 47 w' base (fun _ => True) (.slice (some ⟨g, 0, none⟩) l.length cap) l := fun w' l hx => RowX.toR (d := kdP) rfl (fun _ => rfl) (fun _ _ _ _ => rfl) hx trivial
      have H := Aside0.mk (And.intro hX HK)
      clear h ho hX HK hg
      go_enter Try.func33, Try.ntmps33
      go_wp2_with fail
      go_loopg [3] (xs.length - 1) (fun k s3 wr => ∃ j : Nat, s3 = .int .i64 ((j : Int) + 1) ∧ j + 1 + k = xs.length ∧ Aside0 (cF none (xs.take (j + 1)) = xs.take (j + 1)) ∧ Aside0 (∃ n, wr = w.drewN n))
      case atStart => exact ⟨0, rfl, by omega, Aside0.mk (cF_one xs), Aside0.mk ⟨0, rfl⟩⟩
      case round =>
        obtain ⟨j, rfl, hjk, A1, A2⟩ := hrel
        obtain ⟨n0, rfl⟩ := A2.out
        by_cases hi : j + 1 < xs.length
        · have p1 : ((j : Int) + 1 < (xs.length : Int)) = True := eq_true (by omega)
          obtain ⟨x0, x1⟩ := RowP.at H.out.1 (j + 1) hi
          obtain ⟨y0, y1⟩ := RowP.at H.out.1 j (by omega)
          have hc := Aside0.mk (cF_at xs j hi)
          have q1 : (0 : Int) ≤ (j : Int) + 1 := by omega
          have q2 : (j : Int) + 1 - 1 = (j : Int) := by omega
          have q3 : IntKind.i64.wrap ((j : Int) + 1 - 1) = (j : Int) := by rw [IntKind.wrap_i64]; omega
          have q6 : IntKind.i64.wrap (j : Int) = (j : Int) := by rw [IntKind.wrap_i64]; omega
          have q7 : (0 : Int) ≤ (j : Int) := by omega
          have q4 : ((j : Int) + 1).toNat = j + 1 := by omega
          have q5 : ((j : Int) < (xs.length : Int)) = True := eq_true (by omega)
          have HI := Aside0.mk hi
          have HT := Aside0.mk (show xs.take (j + 2) = xs.take (j + 1) ++ [xs.getD (j + 1) default] by rw [List.take_succ_eq_append_getElem hi]; simp [List.getD, hi])
          clear hi A2
          generalize xs.getD (j + 1) default = p at *
          generalize xs.getD j default = q at *
          obtain ⟨p1', p2'⟩ := p
          obtain ⟨r1', r2'⟩ := q
          dsimp only at x0 x1 y0 y1
          have hE := fun W => eqP_run p1' p2' r1' r2' W
          by_cases hpq : ((p1', p2') : Pr) = (r1', r2')
          · have hd : decide (((p1', p2') : Pr) = (r1', r2')) = true := decide_eq_true hpq
            rw [hd] at hE
            have hc2 : xs.take (j + 1) = cF none (xs.take (j + 2)) := by
              rw [hc.out, if_pos hpq.symm, List.append_nil, A1.out]
            have HC2 := Aside0.mk hc2
            have hil := HI.out
            have pc : (cap = j + 1) = False := eq_false (by omega)
            have s1 : ((j : Int) + 1 ≤ (xs.length : Int)) = True := eq_true (by omega)
            have s2 : ((j : Int) + 1 ≤ (cap : Int)) = True := eq_true (by omega)
            clear hd hpq hc2 hc hil
            go_wp2_with fail
            go_quiet (fail)
            go_wp2_with fail
            obtain ⟨g0, rfl⟩ : ∃ g0 : Nat, g0 = gk := ⟨_, rfl⟩
            clear x0 x1 y0 y1 hE q1 q2 q3 q4 q5 q6 q7
            have hm1 := HI.out
            have hA : RowP (w.drewN (n0 + nq)) base g cap xs := RowX.eff H.out.1 ((Eff.refl (fun _ => False) w).drewN _) id
            have HA := Aside0.mk hA
            clear hA
            go_loopg [3, 5] (xs.length - (j + 1) - 1) (fun k s3 s5 wr => ∃ (i e : Nat) (ys : List Pr), s3 = .int .i64 i ∧ s5 = .int .i64 ((e : Int) + 1) ∧ e + 1 + k = xs.length - (j + 1) ∧ i ≤ j + 1 + e ∧ Aside0 (ys.length = xs.length ∧ ys.take i = cF none (xs.take (j + 1 + e + 1)) ∧ ys.drop (j + 1 + e) = xs.drop (j + 1 + e) ∧ RowP wr base g cap ys ∧ Eff (fun k => k = g) w wr))
            case atStart => exact ⟨j + 1, 0, xs, by simp, by simp, by omega, by omega, Aside0.mk ⟨rfl, HC2.out, rfl, HA.out, ((Eff.refl (fun _ => False) w).drewN _).any _⟩⟩
            case round =>
              obtain ⟨i, e, ys, rfl, rfl, hek, hie, B1⟩ := hrel
              by_cases he : e + 1 < xs.length - (j + 1)
              · have t1 : ((e : Int) + 1 < ((xs.length - (j + 1) : Nat) : Int)) = True := eq_true (by omega)
                obtain ⟨x0, x1⟩ := RowP.at B1.out.2.2.2.1 (j + 1 + e + 1) (by rw [B1.out.1]; omega)
                obtain ⟨y0, y1⟩ := RowP.at B1.out.2.2.2.1 (j + 1 + e) (by rw [B1.out.1]; omega)
                obtain ⟨z0, z1⟩ := RowP.at B1.out.2.2.2.1 i (by rw [B1.out.1]; omega)
                have f0 := B1.out.2.2.2.1.free (i * 2)
                have f1 := B1.out.2.2.2.1.free (i * 2 + 1)
                rw [show (j + 1 + e + 1) * 2 = (j + 1) * 2 + (e + 1) * 2 by omega] at x0 x1
                rw [show (j + 1 + e) * 2 = (j + 1) * 2 + e * 2 by omega] at y0 y1
                have hx : ys.getD (j + 1 + e + 1) default = xs.getD (j + 1 + e + 1) default := by
                  have := congrArg (fun z => z[1]?) B1.out.2.2.1
                  simp only [List.getElem?_drop] at this
                  rw [List.getD_eq_getElem?_getD, List.getD_eq_getElem?_getD, this]
                have hy : ys.getD (j + 1 + e) default = xs.getD (j + 1 + e) default := by
                  have := congrArg (fun z => z[0]?) B1.out.2.2.1
                  simp only [List.getElem?_drop, Nat.add_zero] at this
                  rw [List.getD_eq_getElem?_getD, List.getD_eq_getElem?_getD, this]
                have hc := Aside0.mk (cF_at xs (j + 1 + e) (by omega))
                rw [hx] at x0 x1
                rw [hy] at y0 y1
                have q1 : (0 : Int) ≤ (e : Int) + 1 := by omega
                have q2 : (e : Int) + 1 - 1 = (e : Int) := by omega
                have q3 : IntKind.i64.wrap ((e : Int) + 1 - 1) = (e : Int) := by rw [IntKind.wrap_i64]; omega
                have q6 : IntKind.i64.wrap (e : Int) = (e : Int) := by rw [IntKind.wrap_i64]; omega
                have q7 : (0 : Int) ≤ (e : Int) := by omega
                have q4 : ((e : Int) + 1).toNat = e + 1 := by omega
                have q5 : ((e : Int) < ((xs.length - (j + 1) : Nat) : Int)) = True := eq_true (by omega)
                have r1 : ((i : Int) < (xs.length : Int)) = True := eq_true (by omega)
                have r2 : (0 : Int) ≤ (i : Int) := by omega
                have hii : i < 900000 := by omega
                have hee : e < 900000 := by omega
                have HIE := Aside0.mk (And.intro hie (And.intro he hek))
                clear hx hy hie he hek
                generalize xs.getD (j + 1 + e + 1) default = pp at *
                generalize xs.getD (j + 1 + e) default = rr at *
                generalize ys.getD i default = zz at *
                obtain ⟨a1, a2⟩ := pp
                obtain ⟨b1, b2⟩ := rr
                obtain ⟨d1, d2⟩ := zz
                dsimp only at x0 x1 y0 y1 z0 z1
                have hE := fun W => eqP_run a1 a2 b1 b2 W
                by_cases hpq : ((a1, a2) : Pr) = (b1, b2)
                · have hd : decide (((a1, a2) : Pr) = (b1, b2)) = true := decide_eq_true hpq
                  rw [hd] at hE
                  have HC3 := Aside0.mk (show cF none (xs.take (j + 1 + e + 2)) = cF none (xs.take (j + 1 + e + 1)) by rw [hc.out, if_pos hpq.symm, List.append_nil])
                  clear hd hpq hc
                  go_wp2_with fail
                  go_quiet (fail)
                  go_wp2_with fail
                  go_roundg (gk - 1)
                  case measure => have := HIE.out; omega
                  case rel =>
                    have := HIE.out
                    obtain ⟨b1', b2', b3', b4', b5'⟩ := B1.out
                    refine ⟨i, e + 1, ys, by simp, by simp, by omega, by omega, Aside0.mk ⟨b1', by rw [b2', ← HC3.out]; rfl, ?_, RowX.eff b4' ((Eff.refl (fun _ => False) _).drewN nq) id, b5'.trans ((Eff.refl (fun _ => False) _).drewN nq) (fun _ h => h.elim)⟩⟩
                    rw [show j + 1 + (e + 1) = j + 1 + e + 1 by omega]; exact drop_next b3'
                · have hd : decide (((a1, a2) : Pr) = (b1, b2)) = false := decide_eq_false hpq
                  rw [hd] at hE
                  have HC3 := Aside0.mk (show cF none (xs.take (j + 1 + e + 2)) = cF none (xs.take (j + 1 + e + 1)) ++ [(a1, a2)] by rw [hc.out, if_neg (fun e => hpq e.symm)])
                  clear hd hpq hc
                  go_wp2_with fail
                  go_quiet (fail)
                  go_wp2_with fail
                  go_roundg (gk - 1)
                  case measure => have := HIE.out; omega
                  case rel =>
                    have := HIE.out
                    obtain ⟨b1', b2', b3', b4', b5'⟩ := B1.out
                    have hW := RowP.put (RowX.eff b4' ((Eff.refl (fun _ => False) _).drewN nq) id) i (by rw [b1']; omega) (a1, a2)
                    refine ⟨i + 1, e + 1, ys.set i (a1, a2), by simp, by simp, by omega, by omega, Aside0.mk ⟨by rw [List.length_set]; exact b1', ?_, ?_, hW.1, (b5'.trans ((Eff.refl (fun _ => False) _).drewN nq) (fun _ h => h.elim)).trans hW.2 (fun _ h => .inl h)⟩⟩
                    · rw [show j + 1 + (e + 1) + 1 = j + 1 + e + 2 by omega, HC3.out, ← b2', List.take_succ_eq_append_getElem (by rw [List.length_set]; omega), List.take_set_of_le (by omega)]
                      simp
                    · rw [List.drop_set_of_lt (by omega), show j + 1 + (e + 1) = j + 1 + e + 1 by omega]; exact drop_next b3'
              · have t1 : ((e : Int) + 1 < ((xs.length - (j + 1) : Nat) : Int)) = False := eq_false (by omega)
                obtain ⟨b1', b2', b3', b4', b5'⟩ := B1.out
                obtain ⟨W9, hrun, hR9, hE9⟩ := RowP.clear b4' i (by rw [b1']; omega) (cap - i)
                rw [b1'] at hrun
                have hlen : (ys.take i).length = i := by rw [List.length_take, b1']; omega
                have hcf : ys.take i = cF none xs := by rw [b2', List.take_of_length_le (by omega)]
                have r1 : ((i : Int) ≤ (xs.length : Int)) = True := eq_true (by omega)
                have r2 : (0 : Int) ≤ (i : Int) := by omega
                have r3 : ((i : Int) ≤ (cap : Int)) = True := eq_true (by omega)
                have r4 : (cap = i) = False := eq_false (by omega)
                have hK := H.out.2 _ _ hR9
                rw [hlen, hcf] at hK
                have HZ := Aside0.mk (And.intro hK (b5'.trans hE9 (fun _ h => .inl h)))
                clear hK b1' b2' b3' b4' b5' hR9 hE9 hlen hcf B1 he hie hek
                go_wp2
                go_ret
                refine ⟨_, rfl, Aside0.mk ⟨HZ.out.1, HZ.out.2.mono (fun k hk => by subst hk; simp [Value.ownBlock])⟩⟩
          · have hd : decide (((p1', p2') : Pr) = (r1', r2')) = false := decide_eq_false hpq
            rw [hd] at hE
            have hc2 : cF none (xs.take (j + 2)) = xs.take (j + 2) := by
              rw [hc.out, if_neg (fun e => hpq e.symm), A1.out, HT.out]
            have HC2 := Aside0.mk hc2
            clear hd hpq hc2 hc
            go_wp2_with fail
            go_quiet (fail)
            go_wp2_with fail
            go_roundg (gk - 1)
            case measure => have := HI.out; omega
            case rel =>
              have := HI.out
              exact ⟨j + 1, by simp, by omega, HC2, Aside0.mk ⟨n0 + nq, rfl⟩⟩
        · have p1 : ((j : Int) + 1 < (xs.length : Int)) = False := eq_false (by omega)
          have ha := A1.out
          rw [List.take_of_length_le (by omega)] at ha
          have HA := Aside0.mk ha
          clear ha hi A1
          go_wp2
          go_ret
          refine ⟨_, rfl, Aside0.mk ⟨?_, (Eff.refl _ _).drewN _⟩⟩
          rw [HA.out]
          exact H.out.2 _ _ (RowX.eff H.out.1 ((Eff.refl (fun _ => False) w).drewN n0) id)
end Go.Proofs.Ytlakklaaapfpeaa.LK
namespace Go.Proofs.Ytlakklaaapfpeaa.LK
open Go Go.RowKit Go.Proofs.YtlakklaaapfpeaaW.PrintWords Go.Proofs.YtlakklaaapfpeaaW.PrintLast Go.Proofs.YtlakklaaapfpeaaW.PrintMore Go.Proofs.Ytlakklaaapfpeaa.L
set_option linter.unusedVariables false
set_option linter.unusedSimpArgs false
/-! ### keys by other names -/
section
variable {K K' : Type} [DecidableEq K] [DecidableEq K']
set_option linter.unusedSectionVars false
def mapS (f : K → K') (s : St K) : St K' := ⟨s.k.map (fun p => (f p.1, p.2)), s.w.map (fun p => (p.1, f p.2))⟩
abbrev mk1 (f : K → K') : K × Le → K' × Le := fun p => (f p.1, p.2)
variable {f : K → K'} (hf : ∀ a b, f a = f b → a = b)
include hf
theorem dec_f (a b : K) : decide (f a = f b) = decide (a = b) := by
  by_cases h : a = b
  · simp [h]
  · rw [decide_eq_false h, decide_eq_false (fun e => h (hf _ _ e))]
theorem getK_map (l : List (K × Le)) (key : K) : getK (l.map (mk1 f)) (f key) = getK l key := by
  unfold getK
  rw [List.find?_map]
  have e : ((fun p : K' × Le => decide (p.1 = f key)) ∘ mk1 f) = fun p => decide (p.1 = key) := by funext p; exact dec_f hf _ _
  rw [e]
  cases l.find? (fun p => decide (p.1 = key)) <;> rfl
theorem setK_map (l : List (K × Le)) (key : K) (x : Le) : setK (l.map (mk1 f)) (f key) x = (setK l key x).map (mk1 f) := by
  unfold setK
  rw [List.map_map, List.map_map]
  refine List.map_congr_left (fun p _ => ?_)
  simp only [Function.comp_apply, mk1]
  by_cases h : p.1 = key
  · simp [h]
  · rw [if_neg (fun e => h (hf _ _ e)), if_neg h]
theorem delK_map (l : List (K × Le)) (key : K) : delK (l.map (mk1 f)) (f key) = (delK l key).map (mk1 f) := by
  unfold delK
  rw [List.filter_map]
  congr 1
  refine List.filter_congr (fun p _ => ?_)
  simp only [Function.comp_apply, mk1, ne_eq, decide_not, dec_f hf]
omit hf in
theorem waitK_map (w : List (Int × K)) (tx : Int) : waitK (w.map (fun p => (p.1, f p.2))) tx = (waitK w tx).map f := by
  unfold waitK
  rw [List.find?_map]
  have e : ((fun p : Int × K' => decide (p.1 = tx)) ∘ fun p : Int × K => (p.1, f p.2)) = fun p => decide (p.1 = tx) := rfl
  rw [e]
  cases w.find? (fun p => decide (p.1 = tx)) <;> rfl
omit hf in
theorem offK_map (w : List (Int × K)) (out : List Int) : offK (w.map (fun p => (p.1, f p.2))) out = (offK w out).map (fun p => (p.1, f p.2)) := by
  unfold offK
  rw [List.filter_map]
  rfl
omit hf in
theorem dropK_map (w : List (Int × K)) (tx : Int) : dropK (w.map (fun p => (p.1, f p.2))) tx = (dropK w tx).map (fun p => (p.1, f p.2)) := by
  unfold dropK
  rw [List.filter_map]
  rfl
omit hf in
theorem putK_map (w : List (Int × K)) (tx : Int) (key : K) : putK (w.map (fun p => (p.1, f p.2))) tx (f key) = (putK w tx key).map (fun p => (p.1, f p.2)) := by
  unfold putK
  rw [List.any_map]
  have e : ((fun p : Int × K' => decide (p.1 = tx)) ∘ fun p : Int × K => (p.1, f p.2)) = fun p => decide (p.1 = tx) := rfl
  rw [e]
  split
  · rw [List.map_map, List.map_map]
    refine List.map_congr_left (fun p _ => ?_)
    simp only [Function.comp_apply]
    split <;> rfl
  · rw [List.map_append]
    rfl
theorem settleA_map (s : St K) (key : K) : settleA (mapS f s) (f key) = mapS f (settleA s key) := by
  unfold settleA mapS
  dsimp only
  rw [getK_map hf]
  cases getK s.k key with
  | none => rfl
  | some x =>
    dsimp only
    rw [delK_map hf, setK_map hf, offK_map]
    split <;> rfl
theorem stopA_map (s : St K) (tx : Int) : stopA (mapS f s) tx = mapS f (stopA s tx) := by
  unfold stopA
  have e : waitK (mapS f s).w tx = (waitK s.w tx).map f := waitK_map _ _
  rw [e]
  cases waitK s.w tx with
  | none => rfl
  | some key =>
    dsimp only [Option.map_some]
    have e2 : getK (mapS f s).k (f key) = getK s.k key := getK_map hf _ _
    rw [e2]
    cases getK s.k key with
    | none => rfl
    | some x =>
      dsimp only
      rw [← settleA_map hf]
      unfold mapS
      dsimp only
      rw [setK_map hf, dropK_map]
theorem holdsA_map (s : St K) (tx : Int) (key : K) : holdsA (mapS f s) tx (f key) = holdsA s tx key := by
  unfold holdsA
  have e2 : getK (mapS f s).k (f key) = getK s.k key := getK_map hf _ _
  rw [e2]
theorem againA_map (s : St K) (tx : Int) (key : K) (all : Bool) : againA (mapS f s) tx (f key) all = againA s tx key all := by
  unfold againA
  have e2 : getK (mapS f s).k (f key) = getK s.k key := getK_map hf _ _
  have e : waitK (mapS f s).w tx = (waitK s.w tx).map f := waitK_map _ _
  rw [e2, e]
  congr 1
  cases waitK s.w tx with
  | none => simp
  | some a => simp only [Option.map_some, Option.some.injEq, dec_f hf]
theorem newK_map (l : List (K × Le)) (key : K) : newK (l.map (mk1 f)) (f key) = (newK l key).map (mk1 f) := by
  unfold newK
  rw [getK_map hf]
  split
  · rfl
  · rw [List.map_append]; rfl
theorem joinA_map (s : St K) (tx : Int) (key : K) (all own : Bool) : joinA (mapS f s) tx (f key) all own = mapS f (joinA s tx key all own) := by
  unfold joinA
  have e : newK (mapS f s).k (f key) = (newK s.k key).map (mk1 f) := newK_map hf _ _
  rw [e, getK_map hf]
  cases getK (newK s.k key) key with
  | none => rfl
  | some x =>
    dsimp only
    unfold mapS
    dsimp only
    rw [setK_map hf, putK_map]
theorem askA_map (s : St K) (tx : Int) (key : K) (all : Bool) : askA (mapS f s) tx (f key) all = (mapS f (askA s tx key all).1, (askA s tx key all).2) := by
  unfold askA
  rw [againA_map hf, settleA_map hf, againA_map hf, stopA_map hf, holdsA_map hf, joinA_map hf, settleA_map hf]
  split
  · rfl
  · split
    · rfl
    · have e : waitK (mapS f (settleA (joinA (stopA s tx) tx key all (holdsA (stopA s tx) tx key == 1)) key)).w tx = _ := waitK_map _ _
      rw [e]
      cases waitK (settleA (joinA (stopA s tx) tx key all (holdsA (stopA s tx) tx key == 1)) key).w tx <;> rfl
theorem freeA_map (s : St K) (tx : Int) (key : K) : freeA (mapS f s) tx (f key) = mapS f (freeA s tx key) := by
  unfold freeA
  have e2 : getK (mapS f s).k (f key) = getK s.k key := getK_map hf _ _
  rw [e2]
  cases getK s.k key with
  | none => rfl
  | some x =>
    dsimp only
    rw [← settleA_map hf]
    unfold mapS
    dsimp only
    rw [setK_map hf]
theorem heldA_map (s : St K) (tx : Int) : heldA (mapS f s) tx = (heldA s tx).map f := by
  unfold heldA mapS
  dsimp only
  rw [List.filter_map, List.map_map, List.map_map]
  rfl
theorem freesA_map (tx : Int) : ∀ (l : List K) (s : St K), freesA (mapS f s) tx (l.map f) = mapS f (freesA s tx l)
  | [], _ => rfl
  | a :: l, s => by
    have := freesA_map tx l (freeA s tx a)
    unfold freesA at this ⊢
    rw [List.map_cons, List.foldl_cons, List.foldl_cons, freeA_map hf, this]
theorem relA_map (s : St K) (tx : Int) : relA (mapS f s) tx = mapS f (relA s tx) := by
  unfold relA
  rw [stopA_map hf, heldA_map hf, freesA_map hf]
omit hf in
theorem pairsA_map (s : St K) : pairsA (mapS f s) = pairsA s := by
  unfold pairsA mapS
  dsimp only
  rw [List.flatMap_map]
end
end Go.Proofs.Ytlakklaaapfpeaa.LK
namespace Go.Proofs.Ytlakklaaapfpeaa.LK
open Go Go.RowKit Go.Proofs.YtlakklaaapfpeaaW.PrintWords Go.Proofs.YtlakklaaapfpeaaW.PrintLast Go.Proofs.YtlakklaaapfpeaaW.PrintMore Go.Proofs.Ytlakklaaapfpeaa.L
set_option linter.unusedVariables false
set_option linter.unusedSimpArgs false
variable {n : Bool} {W w : World} {F : Nat → Prop} {b : Nat} {s : St ByteArray}
theorem u_ask (u : UT W F b n s w) (ho : Ok 899998 s) (tx : Int) (key : ByteArray) (all : Bool) :
    Calls Try.prog 13 #[.pointer (some ⟨b, 0, none⟩), .int .i64 tx, .string key, .bool all] w fun e w' => e = .returned (.bool (askA s tx key all).2) ∧ UT W F b true (askA s tx key all).1 w' :=
  Upd.then_ (r := fun e => e = .returned (.bool (askA s tx key all).2)) u.out (fun G h => ask_calls b s w G tx key all h ho)
theorem u_edges (u : UT W F b n s w) (ho : Ok 899999 s) (hl : (pairsA s).length < 900000) :
    Calls Try.prog 19 #[.pointer (some ⟨b, 0, none⟩)] w fun e w' => ∃ A c, e = .returned (.slice A (edgesA s).length c) ∧ Aside0 (Upd W F (Sep (TabA b n s) (RowAt kdP 47 (.slice A (edgesA s).length c) (edgesA s))) w') := by
  obtain ⟨G, h1, e1, k1⟩ := u.out
  refine (edges_calls b s w G h1 ho hl (fun w1 v xs h hx => sortP_calls _ w1 v xs h hx) (fun w1 v xs h hx => compactP_calls _ w1 v xs h hx)).mono ?_
  rintro e w' ⟨v, rfl, A⟩
  obtain ⟨a3, a4⟩ := A.out
  obtain ⟨A', c', rfl⟩ := Kd.R_slice a3
  refine ⟨A', c', rfl, Aside0.mk ?_⟩
  refine Upd.go e1 k1 (Upd.new h1 a4 (F' := fun k => w.heap.size ≤ k ∧ k < w'.heap.size) ⟨Kd.R_lower (Kd.R_mono (Kd.R_bound a3) (fun k hk => ⟨hk.2.1, hk.2.2.1⟩)) (Nat.zero_le _), fun k hk => hk.2⟩ (fun k hk => hk.1))
theorem Upd.rowP {S : HP} {v : Value} {xs : List Pr} (u : Upd W F (Sep S (RowAt kdP 47 v xs)) w) : ∃ A c, v = .slice A xs.length c ∧ Kd.C kdP w A xs.length xs := by
  obtain ⟨G, ⟨G1, G2, _, g2, _⟩, _⟩ := u
  obtain ⟨A, c, hv, _, hC⟩ := RowAt.reads g2
  exact ⟨A, c, hv, hC⟩
theorem u_drop {R : HP} (u : Upd W F (Sep (TabA b n s) R) w) : UT W F b n s w := Aside0.mk (Upd.drop u)
theorem u_after (u : UT W F b n s w) {w' : World} (e : Eff0 w w') : UT W F b n s w' := Aside0.mk (u.out.after e)
/-- A table that is made. -/
theorem u_new (w : World) : UT w (fun _ => False) w.heap.size false ⟨[], []⟩ (w.alloc (.cells #[.map none, .map none] 28)) := by
  have h : (TabA w.heap.size false ⟨[], []⟩).on (w.alloc (.cells #[.map none, .map none] 28)) (fun k => k = w.heap.size) := by
    refine TabA.mk (t := ⟨none, [], none, []⟩) ?_ rfl ⟨rfl, rfl⟩
    refine ⟨fun k => k = w.heap.size, fun _ => False, ⟨heap_alloc_new w _, rfl, by rintro k rfl; simp⟩, ⟨fun _ => False, fun _ => False, PMap.none _ _ _, ⟨rfl, fun _ h => h⟩, fun _ h => h.elim, fun k => by simp⟩, fun _ _ h => h, fun k => by simp⟩
  have u := Upd.new (S := Emp) (W := w) (F := fun _ => False) (fun _ h => h) ((Eff.refl (fun _ => False) w).alloc (.cells #[.map none, .map none] 28)) h (by rintro k rfl; exact Nat.le_refl _)
  refine Aside0.mk (Upd.drop (u.imp (fun G hG => Sep.comm hG)))
theorem u_eff (u : UT w (fun _ => False) b n s W) : Eff0 w W := by
  obtain ⟨_, _, e, _⟩ := u.out
  exact e
theorem Ok.empty {K : Type} [DecidableEq K] (N : Nat) : Ok N (⟨[], []⟩ : St K) := ⟨List.Pairwise.nil, List.Pairwise.nil, fun p h => absurd h List.not_mem_nil, fun p h => absurd h List.not_mem_nil⟩
theorem add_off (ad : Addr) (i j : Nat) (hj : j ≠ 0) : ad.add (i + j) = { block := (ad.add i).block, off := (ad.add i).off + j } := by
  unfold Addr.add
  rw [if_neg (by omega)]
  by_cases hi : i = 0
  · rw [if_pos hi, hi, Nat.zero_add]
  · rw [if_neg hi, Nat.add_assoc]
theorem at_P {w : World} {A : Option Addr} {n : Nat} {xs : List Pr} (h : Kd.C kdP w A n xs) (i : Nat) (h1 : i < n) :
    ∃ ad, A = some ad ∧ w.cell? (ad.add (i * 2)) = some (.int .i64 (xs.getD i default).1) ∧ w.cell? { block := (ad.add (i * 2)).block, off := (ad.add (i * 2)).off + 1 } = some (.int .i64 (xs.getD i default).2) := by
  obtain ⟨ad, c, e, _, hK, hc0⟩ := Kd.C_get h (default : Pr) (i : Int) (by omega) (by omega)
  have hc : ∀ j u, c[j]? = some u → w.cell? (ad.add (i * 2 + j)) = some u := hc0
  have hK2 : c = cellsP (xs.getD i default) := hK
  subst hK2
  exact ⟨ad, e, hc 0 _ rfl, by rw [← add_off _ _ 1 (by decide)]; exact hc 1 _ rfl⟩
set_option maxHeartbeats 1600000 in
set_option maxRecDepth 100000 in
theorem samePairs_yes (W : World) (A B : Option Addr) (c d n : Nat) (l : List Pr) (hA : Kd.C kdP W A n l) (hB : Kd.C kdP W B n l) (hn : n = l.length) (hl : n < 900000) :
    Calls Try.prog 22 #[.slice A n c, .slice B n d] W fun e w' => e = .returned (.bool true) ∧ Eff0 W w' := by
  subst hn
  have HC := Aside0.mk (And.intro hA hB)
  clear hA hB
  go_enter Try.func22, Try.ntmps22
  go_wp2_with fail
  go_loopg [5] l.length (fun k s5 wr => ∃ i : Nat, s5 = .int .i64 i ∧ i + k = l.length ∧ Aside0 (∃ n, wr = W.drewN n))
  case atStart => exact ⟨0, rfl, by omega, Aside0.mk ⟨0, rfl⟩⟩
  case round =>
    obtain ⟨i, rfl, hik, A1⟩ := hrel
    obtain ⟨n0, rfl⟩ := A1.out
    by_cases hi : i < l.length
    · have p1 : ((i : Int) < (l.length : Int)) = True := eq_true (by omega)
      have p2 : (0 : Int) ≤ (i : Int) := by omega
      obtain ⟨ad, rfl, x0, x1⟩ := at_P HC.out.1 i hi
      obtain ⟨bd, rfl, y0, y1⟩ := at_P HC.out.2 i hi
      generalize l.getD i default = p at *
      obtain ⟨a, b⟩ := p
      dsimp only at x0 x1 y0 y1
      have hE := fun W => eqP_run a b a b W
      simp only [decide_true] at hE
      have HI := Aside0.mk (And.intro hi hik)
      have hii : i < 900000 := by omega
      clear hi hik A1
      go_wp2_with fail
      go_quiet (fail)
      go_wp2_with fail
      go_roundg (gk - 1)
      case measure => have := HI.out; omega
      case rel =>
        have := HI.out
        exact ⟨i + 1, by simp, by omega, Aside0.mk ⟨n0 + nq, rfl⟩⟩
    · have p1 : ((i : Int) < (l.length : Int)) = False := eq_false (by omega)
      clear hi
      go_wp2
      go_ret
      exact ⟨rfl, (Eff.refl _ _).drewN _⟩
end Go.Proofs.Ytlakklaaapfpeaa.LK
namespace Go.Proofs.Ytlakklaaapfpeaa.LK
open Go Go.RowKit Go.Proofs.YtlakklaaapfpeaaW.PrintWords Go.Proofs.YtlakklaaapfpeaaW.PrintLast Go.Proofs.YtlakklaaapfpeaaW.PrintMore Go.Proofs.Ytlakklaaapfpeaa.L
set_option linter.unusedVariables false
set_option linter.unusedSimpArgs false
abbrev ka : ByteArray := ⟨#[97]⟩
abbrev un (key : ByteArray) : Unit → ByteArray := fun _ => key
theorem un_inj (key : ByteArray) : ∀ a b : Unit, un key a = un key b → a = b := fun _ _ _ => rfl
abbrev E0 : St Unit := ⟨[], []⟩
abbrev E1 : St Unit := (askA E0 1 () true).1
abbrev E2 : St Unit := (askA E1 2 () false).1
set_option maxHeartbeats 1600000 in
set_option maxRecDepth 100000 in
theorem alive_calls (w : World) : Calls Try.prog 12 #[] w fun e w' => e = .returned (.bool true) ∧ Aside0 (Eff0 w w') := by
  have U0 := u_new w
  have e1 := askA_map (un_inj ka) E0 1 () true
  have e2 := askA_map (un_inj ka) E1 2 () false
  have e3 := relA_map (un_inj ka) E2 1
  have e4 := holdsA_map (un_inj ka) (relA E2 1) 2 ()
  have e5 : edgesA (mapS (un ka) E2) = [(2, 1)] := by unfold edgesA; rw [pairsA_map]; decide
  have e6 : (pairsA (mapS (un ka) E2)).length < 900000 := by rw [pairsA_map]; decide
  have e7 : (heldA (stopA (mapS (un ka) E2) 1) 1).length = 1 := by rw [stopA_map (un_inj ka), heldA_map (un_inj ka), List.length_map]; decide
  have o0 : Ok 0 (mapS (un ka) E0) := Ok.empty 0
  have o1 : Ok 1 (mapS (un ka) E1) := by have := o0.ask 1 (un ka ()) true; rw [e1] at this; exact this
  have o2 : Ok 2 (mapS (un ka) E2) := by have := o1.ask 2 (un ka ()) false; rw [e2] at this; exact this
  have C1 := Aside0.mk (u_ask U0 (o0.mono (by omega)) 1 (un ka ()) true)
  rw [show (⟨[], []⟩ : St ByteArray) = mapS (un ka) E0 from rfl, e1, show (askA E0 1 () true).2 = true by decide] at C1
  have C2 := Aside0.mk (fun w' (u : UT w (fun _ => False) w.heap.size true (mapS (un ka) E1) w') => u_ask u (o1.mono (by omega)) 2 (un ka ()) false)
  rw [e2, show (askA E1 2 () false).2 = false by decide] at C2
  have C3 := Aside0.mk (fun w' (u : UT w (fun _ => False) w.heap.size true (mapS (un ka) E2) w') => u_edges u (o2.mono (by omega)) e6)
  rw [e5] at C3
  have C4 := Aside0.mk (fun w' (u : UT w (fun _ => False) w.heap.size true (mapS (un ka) E2) w') => release_calls u (o2.mono (by omega)) 1 (by rw [e7]; decide))
  rw [e7, e3] at C4
  have C5 := Aside0.mk (fun w' (u : UT w (fun _ => False) w.heap.size true (mapS (un ka) (relA E2 1)) w') => u_holds u 2 (un ka ()))
  rw [e4, show holdsA (relA E2 1) 2 () = 1 by decide] at C5
  have HU := U0
  clear e1 e2 e3 e4 e5 e6 e7 o0 o1 o2 U0
  go_enter Try.func12, Try.ntmps12
  go_wp2_with (go_at_call 13; refine C1.out.mono ?_; rintro e w1 ⟨rfl, U1⟩; clear C1)
  go_wp2_with (go_at_call 13; refine (C2.out _ U1).mono ?_; rintro e w2 ⟨rfl, U2⟩; clear C2)
  go_wp2_with (go_at_call 19; refine (C3.out _ U2).mono ?_; rintro e w3 ⟨A, c, rfl, A3⟩; clear C3 U2)
  have hL : (w3.alloc (.cells #[.int .i64 2, .int .i64 1] 47)).heap[w3.heap.size]? = some (.cells #[.int .i64 2, .int .i64 1] 47 (0, 0)) := heap_alloc_new w3 _
  have CP : Calls Try.prog 22 #[.slice A 1 c, .slice (some ⟨w3.heap.size, 0, none⟩) 1 1] (w3.alloc (.cells #[.int .i64 2, .int .i64 1] 47)) fun e w' => e = .returned (.bool true) ∧ Aside0 (UT w (fun _ => False) w.heap.size true (mapS (un ka) E2) w') := by
    obtain ⟨A', c', hv, hC⟩ := Upd.rowP A3.out
    injection hv with ha _ hc
    subst ha hc
    have hC2 : Kd.C kdP (w3.alloc (.cells #[.int .i64 2, .int .i64 1] 47)) (some ⟨w3.heap.size, 0, none⟩) 1 [(2, 1)] := by
      refine ⟨rfl, by decide, fun _ => ⟨_, rfl, fun j p hj => ?_⟩⟩
      cases j with
      | succ j => simp at hj
      | zero =>
        simp only [List.getElem?_cons_zero, Option.some.injEq] at hj
        subst hj
        refine ⟨cellsP (2, 1), rfl, rfl, fun i u hu => ?_⟩
        rw [Addr.add_lit, Nat.zero_mul, Nat.zero_add, Nat.zero_add, blk_cell hL i, ← Array.getElem?_toList]
        exact hu
    refine (samePairs_yes _ A (some ⟨w3.heap.size, 0, none⟩) c 1 1 [(2, 1)] (Kd.C_below hC ((Eff.refl (fun _ => False) w3).alloc _).below0) hC2 rfl (by decide)).mono ?_
    rintro e w4 ⟨rfl, k4⟩
    exact ⟨rfl, Aside0.mk (u_after (u_drop A3.out) (((Eff.refl (fun _ => False) w3).alloc _).trans k4 (fun _ h => h.elim)))⟩
  have HCP := Aside0.mk CP
  clear CP hL A3
  go_wp2_with (go_at_call 22; refine HCP.out.mono ?_; rintro e w4 ⟨rfl, A4⟩; have U4 := A4.out; clear HCP)
  go_wp2_with (go_at_call 15; refine (C4.out _ U4).mono ?_; rintro e w5 ⟨rfl, U5⟩; clear C4 U4)
  go_wp2_with (go_at_call 16; refine (C5.out _ U5).mono ?_; rintro e w6 ⟨rfl, rfl⟩; clear C5)
  go_ret
  exact ⟨rfl, Aside0.mk (u_eff U5)⟩
end Go.Proofs.Ytlakklaaapfpeaa.LK
namespace Go.Proofs.Ytlakklaaapfpeaa.LK
open Go Go.RowKit Go.Proofs.YtlakklaaapfpeaaW.PrintWords Go.Proofs.YtlakklaaapfpeaaW.PrintLast Go.Proofs.YtlakklaaapfpeaaW.PrintMore Go.Proofs.Ytlakklaaapfpeaa.L
set_option linter.unusedVariables false
set_option linter.unusedSimpArgs false
variable {K : Type} [DecidableEq K] {f : K → ByteArray} {n : Bool} {W w : World} {F : Nat → Prop} {b N : Nat} {s s' : St K}
set_option linter.unusedSectionVars false
theorem Ok.map (hf : ∀ a b, f a = f b → a = b) (h : Ok N s) : Ok N (mapS f s) := by
  refine ⟨?_, ?_, fun p hp => ?_, fun p hp => ?_⟩
  · unfold mapS
    dsimp only
    rw [List.map_map]
    have : ((fun p : ByteArray × Le => p.1) ∘ fun p : K × Le => (f p.1, p.2)) = f ∘ (fun p : K × Le => p.1) := rfl
    rw [this, ← List.map_map]
    exact List.pairwise_map.2 (h.k.imp (fun hne e => hne (hf _ _ e)))
  · unfold mapS
    dsimp only
    rw [List.map_map]
    exact h.w
  · obtain ⟨q, hq, rfl⟩ := List.mem_map.1 hp
    obtain ⟨x, hx, ht⟩ := h.q q hq
    exact ⟨x, (getK_map hf s.k q.2).trans hx, ht⟩
  · obtain ⟨q, hq, rfl⟩ := List.mem_map.1 hp
    exact h.l q hq
/-- The table in use: its state by other keys' names, all well. -/
abbrev UL (W : World) (F : Nat → Prop) (b : Nat) (n : Bool) (f : K → ByteArray) (s : St K) (N : Nat) (w : World) : Prop := Aside0 (UT W F b n (mapS f s) w ∧ Ok N s)
theorem l_new (w : World) (f : K → ByteArray) : UL w (fun _ => False) w.heap.size false f (⟨[], []⟩ : St K) 0 (w.alloc (.cells #[.map none, .map none] 28)) := Aside0.mk ⟨u_new w, Ok.empty 0⟩
theorem l_eff (u : UL w (fun _ => False) b n f s N W) : Eff0 w W := u_eff u.out.1
theorem l_after (u : UL W F b n f s N w) {w' : World} (e : Eff0 w w') : UL W F b n f s N w' := Aside0.mk ⟨u_after u.out.1 e, u.out.2⟩
theorem l_ask (hf : ∀ a b, f a = f b → a = b) (u : UL W F b n f s N w) (hN : N ≤ 899998) (tx : Int) (key : K) (all : Bool) {r : Bool} (h : askA s tx key all = (s', r)) :
    Calls Try.prog 13 #[.pointer (some ⟨b, 0, none⟩), .int .i64 tx, .string (f key), .bool all] w fun e w' => e = .returned (.bool r) ∧ UL W F b true f s' (N + 1) w' := by
  have ho := u.out.2
  have h1 := askA_map hf s tx key all
  have h2 := ho.ask tx key all
  rw [h] at h1 h2
  refine (u_ask u.out.1 ((ho.map hf).mono hN) tx (f key) all).mono ?_
  rintro e w' ⟨rfl, U⟩
  rw [h1] at U ⊢
  exact ⟨rfl, Aside0.mk ⟨U, h2⟩⟩
theorem l_holds (hf : ∀ a b, f a = f b → a = b) (u : UL W F b n f s N w) (tx : Int) (key : K) {r : Int} (h : holdsA s tx key = r) :
    Calls Try.prog 16 #[.pointer (some ⟨b, 0, none⟩), .int .i64 tx, .string (f key)] w fun e w' => e = .returned (.int .i64 r) ∧ w' = w := by
  have := u_holds u.out.1 tx (f key)
  rw [holdsA_map hf, h] at this
  exact this
theorem l_waits (u : UL W F b n f s N w) (tx : Int) {o : Option K} (h : waitK s.w tx = o) :
    Calls Try.prog 17 #[.pointer (some ⟨b, 0, none⟩), .int .i64 tx] w fun e w' => e = .returned (.tuple #[.string ((o.map f).getD ⟨#[]⟩), .bool o.isSome]) ∧ w' = w := by
  have := u_waits u.out.1 tx
  have e : waitK (mapS f s).w tx = (waitK s.w tx).map f := waitK_map _ _
  rw [e, h, Option.isSome_map] at this
  exact this
theorem l_stop (hf : ∀ a b, f a = f b → a = b) (u : UL W F b n f s N w) (hN : N ≤ 899998) (tx : Int) {r : Bool} (h : stopA s tx = s') (hr : (waitK s.w tx).isSome = r) :
    Calls Try.prog 14 #[.pointer (some ⟨b, 0, none⟩), .int .i64 tx] w fun e w' => e = .returned (.bool r) ∧ UL W F b n f s' N w' := by
  have ho := u.out.2
  have h2 := ho.stop tx
  refine (u_stop u.out.1 ((ho.map hf).mono (by omega)) tx).mono ?_
  rintro e w' ⟨rfl, U⟩
  have e : waitK (mapS f s).w tx = (waitK s.w tx).map f := waitK_map _ _
  rw [e, Option.isSome_map, hr]
  rw [stopA_map hf, h] at U
  rw [h] at h2
  exact ⟨rfl, Aside0.mk ⟨U, h2⟩⟩
theorem l_release (hf : ∀ a b, f a = f b → a = b) (u : UL W F b n f s N w) (hN : N ≤ 899998) (tx : Int) {k : Nat} (h : relA s tx = s') (hk : (heldA (stopA s tx) tx).length = k) (hl : k < 900000) :
    Calls Try.prog 15 #[.pointer (some ⟨b, 0, none⟩), .int .i64 tx] w fun e w' => e = .returned (.int .i64 (k : Int)) ∧ UL W F b n f s' N w' := by
  have ho := u.out.2
  have h2 := ho.rel tx
  have hk2 : (heldA (stopA (mapS f s) tx) tx).length = k := by rw [stopA_map hf, heldA_map hf, List.length_map, hk]
  have := release_calls u.out.1 ((ho.map hf).mono (by omega)) tx (by rw [hk2]; exact hl)
  rw [hk2, relA_map hf, h] at this
  rw [h] at h2
  refine this.mono ?_
  rintro e w' ⟨rfl, U⟩
  exact ⟨rfl, Aside0.mk ⟨U, h2⟩⟩
theorem l_edges (hf : ∀ a b, f a = f b → a = b) (u : UL W F b n f s N w) (hN : N ≤ 899998) {l : List Pr} (hl : (pairsA s).length < 900000) (h : edgesA s = l) :
    Calls Try.prog 19 #[.pointer (some ⟨b, 0, none⟩)] w fun e w' => ∃ A c, e = .returned (.slice A l.length c) ∧ UL W F b n f s N w' ∧ Aside0 (Kd.C kdP w' A l.length l) := by
  have he : edgesA (mapS f s) = l := by unfold edgesA at h ⊢; rw [pairsA_map]; exact h
  refine (u_edges u.out.1 ((u.out.2.map hf).mono (by omega)) (by rw [pairsA_map]; exact hl)).mono ?_
  rintro e w' ⟨A, c, rfl, A3⟩
  have A4 := A3.out
  rw [he] at A4 ⊢
  obtain ⟨A', c', hv, hC⟩ := Upd.rowP A4
  injection hv with ha _ hc
  subst ha hc
  exact ⟨A, c, rfl, Aside0.mk ⟨u_drop A4, u.out.2⟩, Aside0.mk hC⟩
theorem l_keys (hf : ∀ a b, f a = f b → a = b) (u : UL W F b n f s N w) (tx : Int) {k : Nat} (h : (heldA s tx).length = k) (hl : k < 900000) :
    Calls Try.prog 18 #[.pointer (some ⟨b, 0, none⟩), .int .i64 tx] w fun e w' => ∃ A c, e = .returned (.slice A k c) ∧ UL W F b n f s N w' := by
  have hk : (heldA (mapS f s) tx).length = k := by rw [heldA_map hf, List.length_map, h]
  refine (u_keys u.out.1 tx (by rw [hk]; exact hl)).mono ?_
  rintro e w' ⟨v, ys, rfl, A3⟩
  obtain ⟨h1, _, h3⟩ := A3.out
  obtain ⟨A, c, hv, _⟩ := Upd.rowS h3
  rw [h1.length_eq, hk] at hv
  exact ⟨A, c, by rw [hv], Aside0.mk ⟨u_drop h3, u.out.2⟩⟩
end Go.Proofs.Ytlakklaaapfpeaa.LK
