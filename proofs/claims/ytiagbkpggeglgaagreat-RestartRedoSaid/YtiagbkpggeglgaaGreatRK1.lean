import Derived.Test.YtiagbkpggeglgaaGreatLSep
import Derived.Shelf.SlSortCmp.WholeK
import Derived.Shelf.SlSortCmp.NoneTotal
import Derived.Lib.AppendZerosOnto
import Derived.Lib.Overlaps
import Derived.Laws.IdiomCopy
import Derived.Deep.RegionLaw
import Derived.Test.YtiagbkpggeglgaaGreatProg
import Derived.BigRegion
import Derived.BigQuiet
import Derived.Deep.QuietTactic
import Derived.Deep.AppendLies
import Derived.ChangeAlike
import Derived.Outline
import Derived.WalkKit
import Derived.KernelRfl
import Derived.Deep.LoopGhost
import Derived.Test.YtiagbkpggeglgaaGreatWMore
import Derived.Test.YtiagbkpggeglgaaGreatWKept
import Derived.Deep.RegionHeld3
import Derived.Lib.SliceRun
import Derived.Test.YtiagbkpggeglgaaGreatShelf
import Derived.Lib.RowBridge
import Derived.Sort.Walk0
import Derived.Laws.Cover1
import Derived.Deep.CutBlock
import Derived.RegionTactic
namespace Go.Proofs.YtiagbkpggeglgaaGreat.L
open Go Go.RowKit Go.Proofs.YtiagbkpggeglgaaGreatW.PrintWords Go.Proofs.YtiagbkpggeglgaaGreatW.PrintLast Go.Proofs.YtiagbkpggeglgaaGreatW.PrintMore Go.Proofs.YtiagbkpggeglgaaGreat.L
set_option linter.unusedVariables false
set_option linter.unusedSimpArgs false
/-! slices.SortFunc at structs: between the shelf's words and ours. -/
open Go.Sort
section
variable {α : Type} [Inhabited α] {enc : α → List Value} {k : Nat}
theorem add_zero_off (b n : Nat) : (⟨b, 0, none⟩ : Addr).add n = ⟨b, n, none⟩ := by
  unfold Addr.add
  split
  · rename_i h; rw [h]
  · simp
theorem holds_of_R {d : Kd α} {e base : Nat} {ok : Nat → Prop} {w : World} {g cap : Nat} {xs : List α} (hs : d.sz = k) (hk : 0 < k) (hM : ∀ {w : World} {base : Nat} {ok : Nat → Prop} {x : α} {cs : List Value}, d.M w base ok x cs → cs = enc x) (h : d.R e w base ok (.slice (some ⟨g, 0, none⟩) xs.length cap) xs) : HoldsK enc k w g 0 xs.toArray := by
  intro j hj
  rw [size_flatK] at hj
  have hj2 : j < xs.length * k := hj
  have hi : j / k < xs.length := Nat.div_lt_of_lt_mul (by rw [Nat.mul_comm]; exact hj2)
  have hjk : j % k < k := Nat.mod_lt _ hk
  have e2 : j / k * k + j % k = j := Nat.div_add_mod' j k
  rw [get_flatK _ _ _ _ hj]
  generalize j / k = q at *
  generalize j % k = r at *
  obtain ⟨c, hcl, hm, hcc, hf⟩ := Kd.R_elem h (default : α) ((q : Nat) : Int) (by omega) (by omega)
  have hc := hM hm
  rw [hs] at hcl hcc hf
  rw [Int.toNat_natCast] at hcc hf hc
  have hx : xs.getD q default = xs.toArray[q]! := by simp [List.getD, hi, getElem!_pos]
  subst e2
  refine ⟨?_, ?_⟩
  · rw [Nat.zero_add]
    refine (hcc r _ (List.getElem?_eq_getElem (by omega))).trans ?_
    subst hc
    rw [hx] at hcl
    show _ = some (enc xs.toArray[q]!)[r]!
    rw [getElem!_pos _ _ (by omega)]
    congr 1
    simp only [hx]
  · rw [Nat.zero_add]
    exact hf _
theorem C_of_holds {d : Kd α} {w : World} {g : Nat} {a : Array α} (hs : d.sz = k) (hl : ∀ x, (enc x).length = k) (hK : ∀ x, d.K w x (enc x)) (h : HoldsK enc k w g 0 a) (hn : a.size ≤ 9223372036854775807) : Kd.C d w (some ⟨g, 0, none⟩) a.size a.toList := by
  refine ⟨by simp, hn, fun _ => ⟨_, rfl, fun j p hj => ⟨enc p, by rw [hl, hs], hK p, fun i u hu => ?_⟩⟩⟩
  have hja : j < a.size := by
    have := (List.getElem?_eq_some_iff.1 hj).1
    simpa using this
  have hik : i < k := by rw [← hl p]; exact (List.getElem?_eq_some_iff.1 hu).1
  have hp : p = a[j]! := by
    rw [getElem!_pos a j hja]
    have := (List.getElem?_eq_some_iff.1 hj).2
    simpa using this.symm
  have := (HoldsK.cell h hja hik).1
  rw [add_zero_off, hs]
  rw [Nat.zero_add] at this
  rw [this, ← hp]
  obtain ⟨h1, h2⟩ := List.getElem?_eq_some_iff.1 hu
  rw [getElem!_pos (enc p) i h1, h2]
theorem sort_eff {w : World} {g n : Nat} {a : Array α} {os : Array Obj} : Eff (fun j => j = g) w (sortWorldK enc k w g 0 n a os) := by
  refine ⟨rfl, rfl, rfl, ?_, fun j hj hne => ?_⟩
  · show _ ≤ ((w.heap.modify g _) ++ os).size
    simp
  · show ((w.heap.modify g _) ++ os)[j]? = _
    rw [Array.getElem?_append_left (by simpa using hj), Array.getElem?_modify, if_neg (fun h => hne h.symm)]
theorem perm_list {a b : Array α} (h : PermIn 0 a.size a b) : a.toList.Perm b.toList ∧ b.size = a.size := by
  obtain ⟨hs, _, hp⟩ := h
  have e1 : a.extract 0 a.size = a := by simp
  have e2 : b.extract 0 a.size = b := by rw [← hs]; simp
  rw [e1, e2] at hp
  exact ⟨hp.symm, hs⟩
theorem sorted_list {lt : α → α → Bool} {b : Array α} (h : SortedIn lt 0 b.size b) : b.toList.Pairwise (fun x y => lt y x = false) := by
  rw [List.pairwise_iff_getElem]
  intro i j hi hj hij
  have := h i j (Nat.zero_le _) hij (by simpa using hj)
  rw [getElem!_pos b i (by simpa using hi), getElem!_pos b j (by simpa using hj)] at this
  simpa using this
end
end Go.Proofs.YtiagbkpggeglgaaGreat.L
namespace Go.Proofs.YtiagbkpggeglgaaGreat.L
open Go Go.RowKit Go.Proofs.YtiagbkpggeglgaaGreatW.PrintWords Go.Proofs.YtiagbkpggeglgaaGreatW.PrintLast Go.Proofs.YtiagbkpggeglgaaGreatW.PrintMore Go.Proofs.YtiagbkpggeglgaaGreat.L
set_option linter.unusedVariables false
set_option linter.unusedSimpArgs false
/-! A row of one's own, cell by cell: what is copied into it, what is put in, at elements of any size. -/
section
variable {P : Program}
theorem run_copyK (W : World) (t t' ty e : TypeId) (i0 : TypeInfo) (k : Nat) (ht : P.underlying t = some (.slice e)) (hi : P.info? e = some i0) (hk : i0.size = k) (b o dLen dCap : Nat) (a : Addr) (sLen sCap : Nat) (cs : List Value)
    (hn : cs.length = Nat.min sLen dLen * k) (hsrc : ∀ j v, cs[j]? = some v → W.cell? (a.add j) = some v) (hc : ∀ j, j < cs.length → (W.cell? ⟨b, o + j, none⟩).isSome = true) (hf : ∀ j, j < cs.length → W.frozen? ⟨b, o + j, none⟩ = false) (h1 : ∀ v ∈ cs, v.oneCell' = true) :
    (Builtin.copy_ #[t, t'] ty #[.slice (some ⟨b, o, none⟩) dLen dCap, .slice (some a) sLen sCap]).run P W = .ok (goInt (Nat.min sLen dLen)) (W.setCells b o cs) := by
  have hl := run_loadCells_list (P := P) W a cs hsrc
  have hst := run_storeCells_cells (P := P) b o cs 0 W (by simpa using hc) (by simpa using hf) h1
  simp only [Nat.add_zero] at hst
  have hl2 : (loadCells a (Nat.min sLen dLen * i0.size)).run P W = .ok cs.toArray W := by rw [hk, ← hn]; exact hl
  simp [Builtin.copy_, run_underlying ht, Builtin.lenOf, Builtin.firstCells, sizeOf, typeInfo, hi, hl2, hst]
/-- A builtin whose run is known, as a step of a walk; as a step of a region that draws. -/
theorem wpList_bi {w : World} {ops : Array Oper} {rest : List Oper} {o : Oper} {a : Act} {Q : Exit → Act → World → Prop} (hgd : o.guard = none) (d s : Operand) (t t' : TypeId) (ho : o.op = .call { callee := .builtin .copy, args := #[d, s], argTypes := #[t, t'] })
    (v u : Value) (hd : a.eval d = v) (hs : a.eval s = u) {v' : Value} {w' : World} (hr : (Builtin.copy_ #[t, t'] o.type #[v, u]).run P w = .ok v' w') (h : wpList P ops Q rest (a.put o.dst v') w') : wpList P ops Q (o :: rest) a w := by
  refine wpList_plain hgd fun K hK => ?_
  unfold Oper.wp execOp
  simp only [ho, resolve, invoke, builtin, Sem.run_bind, Sem.run_pure, Result.andThen_ok, List.map_toArray, List.map_cons, List.map_nil, hd, hs, hr]
  exact hK _ _ h
theorem step_bi {ops : Array Oper} {o : Oper} {a : Act} {w : World} {K : Act → World → Prop} {Q : Exit → Act → World → Prop} {E : Prop} (hgd : o.guard = none) (d s : Operand) (t t' : TypeId) (ho : o.op = .call { callee := .builtin .copy, args := #[d, s], argTypes := #[t, t'] })
    (v u : Value) (hd : a.eval d = v) (hs : a.eval s = u) {v' : Value} {w' : World} (hr : (Builtin.copy_ #[t, t'] o.type #[v, u]).run P w = .ok v' w') (h : K (a.put o.dst v') w') : if Region.wanted o (yielded ops a.tmps) = true then Oper.wp P o a w K Q else E := by
  rw [if_pos (by simp [Region.wanted, hgd])]
  unfold Oper.wp execOp
  simp only [ho, resolve, invoke, builtin, Sem.run_bind, Sem.run_pure, Result.andThen_ok, List.map_toArray, List.map_cons, List.map_nil, hd, hs, hr]
  exact h
/-- clear: the row's cells hold zeros behind. -/
theorem run_clearK {n : Nat} (W : World) (t e ty : TypeId) (z : Value) (ht : P.underlying t = some (.slice e)) (hv : ∀ w, (zeroValue e).run P w = .ok z w) (h1 : ∀ u ∈ (Builtin.zeroCells z.cells n).toList, u.oneCell' = true) (b o c : Nat) (hn : 0 < n)
    (hc : ∀ j, j < (Builtin.zeroCells z.cells n).toList.length → (W.cell? ⟨b, o + j, none⟩).isSome = true) (hf : ∀ j, j < (Builtin.zeroCells z.cells n).toList.length → W.frozen? ⟨b, o + j, none⟩ = false) :
    (Builtin.clear_ #[t] ty #[.slice (some ⟨b, o, none⟩) n c]).run P W = .ok (.tuple #[]) (W.setCells b o (Builtin.zeroCells z.cells n).toList) := by
  have hst := run_storeCells_cells (P := P) b o (Builtin.zeroCells z.cells n).toList 0 W (by simpa using hc) (by simpa using hf) h1
  simp only [Nat.add_zero] at hst
  obtain ⟨m, rfl⟩ : ∃ m, n = m + 1 := ⟨n - 1, by omega⟩
  simp [Builtin.clear_, run_underlying ht, hv, hst]
end
theorem eff_setCells (g o : Nat) (vs : List Value) (W : World) : Eff (fun k => k = g) W (W.setCells g o vs) := by
  obtain ⟨s1, s2, s3, s4⟩ := setCells_same g vs o W
  exact ⟨s1, s2, s3, by rw [s4]; exact Nat.le_refl _, fun k _ hk => setCells_far vs o k hk⟩
section
variable {α : Type} {enc : α → List Value} {k : Nat}
def flatE (enc : α → List Value) (xs : List α) : List Value := xs.flatMap enc
theorem flatE_append (xs ys : List α) : flatE enc (xs ++ ys) = flatE enc xs ++ flatE enc ys := List.flatMap_append
theorem flatE_cons (x : α) (xs : List α) : flatE enc (x :: xs) = enc x ++ flatE enc xs := List.flatMap_cons
theorem flatE_length (hk : ∀ x, (enc x).length = k) : ∀ xs : List α, (flatE enc xs).length = xs.length * k
  | [] => by simp [flatE]
  | x :: xs => by rw [flatE_cons, List.length_append, hk, flatE_length hk xs, List.length_cons, Nat.succ_mul]; omega
theorem flatE_parts (xs : List α) (i : Nat) : flatE enc xs = flatE enc (xs.take i) ++ flatE enc (xs.drop i) := by rw [← flatE_append, List.take_append_drop]
theorem flatE_of_reps : ∀ {xs : List α} {inner : List Value}, Reps (fun x c => c = enc x) k xs inner → inner = flatE enc xs
  | [], inner, h => by
    have := h.1
    simp only [List.length_nil, Nat.zero_mul] at this
    exact List.eq_nil_of_length_eq_zero this
  | x :: xs, inner, h => by
    have h1 := h.2 0 x rfl
    rw [Nat.zero_mul, List.drop_zero] at h1
    have h2 := Kd.reps_drop (m := 1) h
    rw [List.drop_succ_cons, List.drop_zero, Nat.one_mul] at h2
    rw [flatE_cons, ← h1, ← flatE_of_reps h2, List.take_append_drop]
theorem reps_flatE (hk : ∀ x, (enc x).length = k) : ∀ (xs : List α), Reps (fun x c => c = enc x) k xs (flatE enc xs)
  | [] => Reps.none _ _
  | x :: xs => by
    have h := reps_flatE hk xs
    have h1 : Reps (fun x c => c = enc x) k [x] (enc x) := by
      have := Reps.snoc (Reps.none (fun x c => c = enc x) k) (p := x) (c := enc x) rfl (hk x)
      simpa using this
    have := Kd.reps_append h1 h
    rwa [List.singleton_append, ← flatE_cons] at this
/-- A row of one's own that is not nil. -/
structure RowX (enc : α → List Value) (k e : Nat) (W : World) (base g cap : Nat) (xs : List α) : Prop where
  le : base ≤ g
  len : xs.length ≤ cap
  max : cap ≤ maxLen
  has : ∃ cur rest, W.heap[g]? = some (.cells cur e (0, 0)) ∧ cur.size = cap * k ∧ cur.toList = flatE enc xs ++ rest
theorem RowX.of_R {d : Kd α} {e base : Nat} {ok : Nat → Prop} {W : World} {g cap n : Nat} {xs : List α} (hs : d.sz = k) (hM : ∀ {w : World} {base : Nat} {ok : Nat → Prop} {x : α} {cs : List Value}, d.M w base ok x cs → cs = enc x) (h : d.R e W base ok (.slice (some ⟨g, 0, none⟩) n cap) xs) : RowX enc k e W base g cap xs := by
  obtain ⟨_, inner, ho, hr⟩ := h
  have hi : inner = flatE enc xs := flatE_of_reps (k := d.sz) (hr.imp_ (fun _ _ hp => hM hp))
  rcases ho.2 with ⟨hv, _⟩ | ⟨g', cap', cur, hv, hb, hh, hl, hm, hc, ht⟩
  · cases hv
  · injection hv with ha hn hcap
    injection ha with ha
    injection ha with hg
    subst hg; subst hcap
    exact ⟨hb, hl, hm, cur, _, hh, by rw [hc, hs], by rw [← hi, ← ht, List.take_append_drop]⟩
theorem RowX.toR {d : Kd α} {e base : Nat} {ok : Nat → Prop} {W : World} {g cap : Nat} {xs : List α} (hs : d.sz = k) (hk : ∀ x, (enc x).length = k) (hM : ∀ (w : World) (base : Nat) (ok : Nat → Prop) (x : α), d.M w base ok x (enc x)) (h : RowX enc k e W base g cap xs) (hok : ok g) : d.R e W base ok (.slice (some ⟨g, 0, none⟩) xs.length cap) xs := by
  obtain ⟨cur, rest, hh, hc, ht⟩ := h.has
  refine ⟨fun q hq => by simp [Value.ownBlock] at hq; subst hq; exact hok, flatE enc xs, ⟨by rw [flatE_length hk, hs], .inr ⟨g, cap, cur, rfl, h.le, hh, h.len, h.max, by rw [hc, hs], ?_⟩⟩, ?_⟩
  · rw [ht, hs, ← flatE_length hk xs]
    exact List.take_left
  · rw [hs]
    exact (reps_flatE hk xs).imp_ (fun x c hc => by rw [hc]; exact hM _ _ _ x)
theorem RowX.cells {e base : Nat} {W : World} {g cap : Nat} {xs : List α} (h : RowX enc k e W base g cap xs) (j : Nat) (u : Value) (hu : (flatE enc xs)[j]? = some u) : W.cell? ⟨g, j, none⟩ = some u := by
  obtain ⟨cur, rest, hh, _, ht⟩ := h.has
  rw [blk_cell hh j, ← Array.getElem?_toList, ht, List.getElem?_append_left (List.getElem?_eq_some_iff.1 hu).1, hu]
theorem RowX.some {e base : Nat} {W : World} {g cap : Nat} {xs : List α} (h : RowX enc k e W base g cap xs) (j : Nat) (hj : j < cap * k) : (W.cell? ⟨g, j, none⟩).isSome = true := by
  obtain ⟨cur, rest, hh, hc, _⟩ := h.has
  rw [blk_cell hh j]
  simp [hc, hj]
theorem RowX.free {e base : Nat} {W : World} {g cap : Nat} {xs : List α} (h : RowX enc k e W base g cap xs) (j : Nat) : W.frozen? ⟨g, j, none⟩ = false := by
  obtain ⟨cur, rest, hh, _, _⟩ := h.has
  exact blk_frozen hh _
theorem RowX.eff {e base : Nat} {W W1 : World} {g cap : Nat} {xs : List α} {S : Nat → Prop} (h : RowX enc k e W base g cap xs) (e1 : Eff S W W1) (hS : ¬ S g) : RowX enc k e W1 base g cap xs := by
  obtain ⟨cur, rest, hh, hc, ht⟩ := h.has
  exact ⟨h.le, h.len, h.max, cur, rest, by rw [e1.block g (blk_lt hh) hS]; exact hh, hc, ht⟩
/-- Written behind what the row holds: the row is as it was. -/
theorem RowX.behind {e base : Nat} {W : World} {g cap o : Nat} {xs : List α} {vs : List Value} (hk : ∀ x, (enc x).length = k) (h : RowX enc k e W base g cap xs) (ho : xs.length * k ≤ o) (hv : o + vs.length ≤ cap * k) : RowX enc k e (W.setCells g o vs) base g cap xs := by
  obtain ⟨cur, rest, hh, hc, ht⟩ := h.has
  obtain ⟨cur', h3, h4, h5⟩ := setCells_row vs o W cur hh (by rw [hc]; exact hv)
  refine ⟨h.le, h.len, h.max, cur', rest.take (o - xs.length * k) ++ vs ++ cur.toList.drop (o + vs.length), h3, by rw [h4, hc], ?_⟩
  rw [h5]
  simp only [← List.append_assoc]
  congr 2
  rw [ht, List.take_append, flatE_length hk, List.take_of_length_le (by rw [flatE_length hk]; exact ho)]
theorem over_first {A C B Z : List Value} (a : Nat) (ha : A.length = a) : ((A ++ Z).take a ++ C ++ (A ++ Z).drop (a + C.length)) = A ++ (C ++ Z.drop C.length) := by
  subst ha
  rw [List.take_left, List.drop_append]
  simp
/-- An element put in at i: the cells behind go up first, then it is written. -/
theorem RowX.shift {e base : Nat} {W : World} {g cap i : Nat} {xs : List α} (hk : ∀ x, (enc x).length = k) (h : RowX enc k e W base g cap xs) (hi : i ≤ xs.length) (hr : xs.length + 1 ≤ cap) (c : α) :
    RowX enc k e ((W.setCells g ((i + 1) * k) (flatE enc (xs.drop i))).setCells g (i * k) (enc c)) base g cap (xs.take i ++ c :: xs.drop i) := by
  obtain ⟨cur, rest, hh, hc, ht⟩ := h.has
  have la : (flatE enc (xs.take i)).length = i * k := by rw [flatE_length hk, List.length_take, Nat.min_eq_left hi]
  have lb : (flatE enc (xs.drop i)).length = (xs.length - i) * k := by rw [flatE_length hk, List.length_drop]
  have m1 : (i + 1) * k = i * k + k := Nat.succ_mul _ _
  have m2 : (xs.length - i) * k = xs.length * k - i * k := Nat.sub_mul _ _ _
  have m3 : i * k ≤ xs.length * k := Nat.mul_le_mul_right _ hi
  have m4 : (xs.length + 1) * k ≤ cap * k := Nat.mul_le_mul_right _ hr
  have m5 : (xs.length + 1) * k = xs.length * k + k := Nat.succ_mul _ _
  obtain ⟨cur1, h3, h4, h5⟩ := setCells_row (flatE enc (xs.drop i)) ((i + 1) * k) W cur hh (by omega)
  obtain ⟨cur2, g3, g4, g5⟩ := setCells_row (enc c) (i * k) _ cur1 h3 (by rw [h4, hk]; omega)
  refine ⟨h.le, by simp; omega, h.max, cur2, cur.toList.drop ((i + 1) * k + (flatE enc (xs.drop i)).length), g3, by rw [g4, h4, hc], ?_⟩
  rw [flatE_parts xs i, List.append_assoc] at ht
  have e1 : cur1.toList = flatE enc (xs.take i) ++ (cur.toList.drop (i * k)).take k ++ flatE enc (xs.drop i) ++ cur.toList.drop ((i + 1) * k + (flatE enc (xs.drop i)).length) := by
    rw [h5]
    congr 2
    rw [m1, List.take_add]
    congr 1
    rw [ht]
    exact List.take_left' la
  have lc : ((cur.toList.drop (i * k)).take k).length = k := by
    rw [List.length_take, List.length_drop, Array.length_toList, hc]
    omega
  rw [g5, e1, hk, flatE_append, flatE_cons]
  generalize (cur.toList.drop (i * k)).take k = Z at *
  generalize cur.toList.drop _ = Y
  generalize flatE enc (xs.take i) = A at *
  generalize flatE enc (xs.drop i) = Bq at *
  have t1 : (A ++ Z ++ Bq ++ Y).take (i * k) = A := by
    rw [List.append_assoc, List.append_assoc]
    exact List.take_left' la
  have t2 : (A ++ Z ++ Bq ++ Y).drop (i * k + k) = Bq ++ Y := by
    rw [List.append_assoc (A ++ Z)]
    exact List.drop_left' (by rw [List.length_append, la, lc])
  rw [t1, t2]
  simp only [List.append_assoc]
/-- Into a new row: the element first, then the cells behind. -/
theorem rowX_grow {e base : Nat} {W : World} {g cap i : Nat} {xs : List α} {cur : Array Value} {rest : List Value} (hk : ∀ x, (enc x).length = k) (hb : base ≤ g) (hh : W.heap[g]? = some (.cells cur e (0, 0))) (hc : cur.size = cap * k) (ht : cur.toList = flatE enc (xs.take i) ++ rest) (hi : i ≤ xs.length) (hr : xs.length + 1 ≤ cap) (hm : cap ≤ maxLen) (c : α) :
    RowX enc k e ((W.setCells g (i * k) (enc c)).setCells g ((i + 1) * k) (flatE enc (xs.drop i))) base g cap (xs.take i ++ c :: xs.drop i) := by
  have la : (flatE enc (xs.take i)).length = i * k := by rw [flatE_length hk, List.length_take, Nat.min_eq_left hi]
  have lb : (flatE enc (xs.drop i)).length = (xs.length - i) * k := by rw [flatE_length hk, List.length_drop]
  have m1 : (i + 1) * k = i * k + k := Nat.succ_mul _ _
  have m2 : (xs.length - i) * k = xs.length * k - i * k := Nat.sub_mul _ _ _
  have m3 : i * k ≤ xs.length * k := Nat.mul_le_mul_right _ hi
  have m4 : (xs.length + 1) * k ≤ cap * k := Nat.mul_le_mul_right _ hr
  have m5 : (xs.length + 1) * k = xs.length * k + k := Nat.succ_mul _ _
  obtain ⟨cur1, h3, h4, h5⟩ := setCells_row (enc c) (i * k) W cur hh (by rw [hk]; omega)
  obtain ⟨cur2, g3, g4, g5⟩ := setCells_row (flatE enc (xs.drop i)) ((i + 1) * k) _ cur1 h3 (by rw [h4]; omega)
  refine ⟨hb, by simp; omega, hm, cur2, cur1.toList.drop ((i + 1) * k + (flatE enc (xs.drop i)).length), g3, by rw [g4, h4, hc], ?_⟩
  have e1 : cur1.toList.take ((i + 1) * k) = flatE enc (xs.take i) ++ enc c := by
    rw [h5, ht, m1]
    have t1 : (flatE enc (xs.take i) ++ rest).take (i * k) = flatE enc (xs.take i) := List.take_left' la
    rw [t1]
    exact List.take_left' (by rw [List.length_append, la, hk])
  rw [g5, e1, flatE_append, flatE_cons]
  simp only [List.append_assoc]
end
theorem drew_setCells (b : Nat) : ∀ (vs : List Value) (o : Nat) (w : World), (w.setCells b o vs).drew = w.drew.setCells b o vs
  | [], _, _ => rfl
  | v :: r, o, w => by rw [World.setCells, World.setCells, drew_setCells b r]; rfl
end Go.Proofs.YtiagbkpggeglgaaGreat.L
namespace Go.Proofs.YtiagbkpggeglgaaGreat.L
open Go Go.RowKit Go.Proofs.YtiagbkpggeglgaaGreatW.PrintWords Go.Proofs.YtiagbkpggeglgaaGreatW.PrintLast Go.Proofs.YtiagbkpggeglgaaGreatW.PrintMore Go.Proofs.YtiagbkpggeglgaaGreat.L
set_option linter.unusedVariables false
set_option linter.unusedSimpArgs false
/-! a row behind a sort: it is a row still -/
open Go.Sort
section
set_option linter.unusedSectionVars false
variable {α β : Type} [Inhabited α] [Inhabited β] {enc : α → List Value} {k : Nat}
theorem rowX_of_cells {e base : Nat} {W : World} {g cap : Nat} {ys : List α} {cur : Array Value} (hk : ∀ x, (enc x).length = k) (hb : base ≤ g) (hh : W.heap[g]? = some (.cells cur e (0, 0))) (hc : cur.size = cap * k) (hl : ys.length ≤ cap) (hm : cap ≤ maxLen) (hC : ∀ j, j < ys.length * k → cur[j]? = (flatE enc ys)[j]?) : RowX enc k e W base g cap ys := by
  refine ⟨hb, hl, hm, cur, cur.toList.drop (ys.length * k), hh, hc, ?_⟩
  have e1 : cur.toList.take (ys.length * k) = flatE enc ys := by
    apply List.ext_getElem?
    intro j
    rw [List.getElem?_take]
    split
    · rename_i hj
      rw [Array.getElem?_toList]
      exact hC j hj
    · rename_i hj
      rw [List.getElem?_eq_none (by rw [flatE_length hk]; omega)]
  rw [← e1, List.take_append_drop]
theorem putRow_block {f : β → Value} {W : World} {g off : Nat} {cur : Array Value} {e : Nat} {fr : Nat × Nat} (hh : W.heap[g]? = some (.cells cur e fr)) (n : Nat) (d : Array β) (os : Array Obj) : (grow (putRow f (Sort.ahead W n) g off d) os).heap[g]? = some (.cells (putCells f off d cur) e fr) := by
  have hlt : g < W.heap.size := (Array.getElem?_eq_some_iff.1 hh).1
  show ((W.heap.modify g (onCells (putCells f off d))) ++ os)[g]? = _
  rw [Array.getElem?_append_left (by simpa using hlt), Array.getElem?_modify, if_pos rfl, hh]
  rfl
theorem putRow_eff {f : β → Value} {W : World} {g off : Nat} (n : Nat) (d : Array β) (os : Array Obj) : Eff (fun j => j = g) W (grow (putRow f (Sort.ahead W n) g off d) os) := by
  refine ⟨rfl, rfl, rfl, ?_, fun j hj hne => ?_⟩
  · show _ ≤ ((W.heap.modify g _) ++ os).size
    simp
  · show ((W.heap.modify g _) ++ os)[j]? = _
    rw [Array.getElem?_append_left (by simpa using hj), Array.getElem?_modify, if_neg (fun h => hne h.symm)]
theorem putCells_get (f : β → Value) (d : Array β) (cur : Array Value) (j : Nat) (hj : j < d.size) (hc : j < cur.size) : (putCells f 0 d cur)[j]? = some (f d[j]!) := by
  unfold putCells
  rw [Array.getElem?_mapIdx, Array.getElem?_eq_getElem hc]
  simp [hj]
/-- One cell an element. -/
theorem rowX_sort1 {f : β → Value} {e base : Nat} {W : World} {g cap : Nat} {xs ys : List α} (hk : ∀ x, (enc x).length = k) (h : RowX enc k e W base g cap xs) (n : Nat) (d : Array β) (os : Array Obj) (hys : ys.length = xs.length) (hd : d.size = ys.length * k) (hf : ∀ j, j < d.size → (flatE enc ys)[j]? = some (f d[j]!)) : RowX enc k e (grow (putRow f (Sort.ahead W n) g 0 d) os) base g cap ys := by
  obtain ⟨cur, rest, hh, hc, ht⟩ := h.has
  have hl := h.len
  have hm : xs.length * k ≤ cap * k := Nat.mul_le_mul_right _ hl
  refine rowX_of_cells hk h.le (putRow_block hh n d os) ?_ (by omega) h.max (fun j hj => ?_)
  · unfold putCells
    rw [Array.size_mapIdx]
    exact hc
  · rw [putCells_get f d cur j (by omega) (by rw [hc, ← hys] at *; omega), hf j (by omega)]
theorem flat_get (hk : ∀ x, (enc x).length = k) (h0 : 0 < k) (ys : List α) (j : Nat) (hj : j < ys.length * k) : (flatE enc ys)[j]? = some (flatK enc k ys.toArray)[j]! := by
  rw [get_flatK _ _ _ j (by simpa using hj)]
  have hq : j / k < ys.length := Nat.div_lt_of_lt_mul (by rw [Nat.mul_comm]; exact hj)
  have hr : j % k < k := Nat.mod_lt _ h0
  have e2 : j / k * k + j % k = j := Nat.div_add_mod' j k
  generalize j / k = q at *
  generalize j % k = r at *
  subst e2
  have ex : ys = ys.take q ++ ys[q] :: ys.drop (q + 1) := by rw [List.getElem_cons_drop, List.take_append_drop]
  have la : (flatE enc (ys.take q)).length = q * k := by rw [flatE_length hk, List.length_take, Nat.min_eq_left (by omega)]
  have hel : ys.toArray[q]! = ys[q] := by simp [hq]
  rw [hel]
  conv => lhs; rw [ex]
  rw [flatE_append, flatE_cons, List.getElem?_append_right (by omega), la, Nat.add_sub_cancel_left, List.getElem?_append_left (by rw [hk]; exact hr), List.getElem?_eq_getElem (by rw [hk]; exact hr), getElem!_pos _ _ (by rw [hk]; exact hr)]
/-- k cells an element. -/
theorem rowX_sortK {e base : Nat} {W : World} {g cap : Nat} {xs : List α} (hk : ∀ x, (enc x).length = k) (h0 : 0 < k) (h : RowX enc k e W base g cap xs) (n : Nat) (d : Array α) (os : Array Obj) (hys : d.size = xs.length) : RowX enc k e (sortWorldK enc k W g 0 n d os) base g cap d.toList := by
  refine rowX_sort1 (f := id) hk h n (flatK enc k d) os (by rw [Array.length_toList]; exact hys) (by simp) (fun j hj => ?_)
  have := flat_get hk h0 d.toList j (by simpa using hj)
  simpa using this
end
end Go.Proofs.YtiagbkpggeglgaaGreat.L
namespace Go.Proofs.YtiagbkpggeglgaaGreat.L
open Go Go.RowKit Go.Proofs.YtiagbkpggeglgaaGreatW.PrintWords Go.Proofs.YtiagbkpggeglgaaGreatW.PrintLast Go.Proofs.YtiagbkpggeglgaaGreatW.PrintMore Go.Proofs.YtiagbkpggeglgaaGreat.L
set_option linter.unusedVariables false
set_option linter.unusedSimpArgs false
/-! What lies in memory as a list of parts, each in blocks of its own: parts by their places. -/
theorem Stars.pull {S : HP} {W : World} : ∀ {l : List HP} {i : Nat} {F : Nat → Prop}, l[i]? = some S → (Stars l).on W F → (Sep S (Stars (l.eraseIdx i))).on W F
  | [], _, _, h, _ => by cases h
  | T :: l, 0, F, h, hF => by
    injection h with h
    subst h
    exact hF
  | T :: l, i + 1, F, h, hF => by
    have h2 : (Sep T (Sep S (Stars (l.eraseIdx i)))).on W F := Sep.imp hF (fun _ h => h) (fun _ h3 => Stars.pull (by simpa using h) h3)
    have h3 : (Sep (Sep S T) (Stars (l.eraseIdx i))).on W F := Sep.imp (Sep.assoc' h2) (fun _ h => Sep.comm h) (fun _ h => h)
    exact Sep.assoc h3
theorem Stars.push {S : HP} {W : World} : ∀ {l : List HP} {i : Nat} {F : Nat → Prop}, i < l.length → (Sep S (Stars (l.eraseIdx i))).on W F → (Stars (l.set i S)).on W F
  | [], _, _, h, _ => by simp at h
  | T :: l, 0, F, h, hF => hF
  | T :: l, i + 1, F, h, hF => by
    have h2 : (Sep S (Sep T (Stars (l.eraseIdx i)))).on W F := hF
    have h3 : (Sep (Sep T S) (Stars (l.eraseIdx i))).on W F := Sep.imp (Sep.assoc' h2) (fun _ h => Sep.comm h) (fun _ h => h)
    exact Sep.imp (Sep.assoc h3) (fun _ h => h) (fun _ h4 => Stars.push (by simpa using h) h4)
theorem Stars.add {N : HP} {W : World} : ∀ {l : List HP} {F : Nat → Prop}, (Sep (Stars l) N).on W F → (Stars (l ++ [N])).on W F
  | [], F, h => Sep.comm h
  | T :: l, F, h => Sep.imp (Sep.assoc h) (fun _ h => h) (fun _ h => Stars.add h)
theorem Stars.one {N : HP} {W : World} {F : Nat → Prop} (h : N.on W F) : (Stars [N]).on W F := ⟨F, fun _ => False, h, fun _ h => h, fun _ _ h => h, fun _ => by simp⟩
theorem Stars.ofOne {N : HP} {W : World} {F : Nat → Prop} (h : (Stars [N]).on W F) : N.on W F := by
  obtain ⟨F1, F2, h1, h2, hd, hF⟩ := h
  have : F = F1 := funext fun k => propext ((hF k).trans ⟨fun h => h.elim id (fun h => absurd h (h2 k)), .inl⟩)
  rw [this]
  exact h1
theorem Stars.del {S : HP} {W : World} {l : List HP} {i : Nat} {F : Nat → Prop} (hi : l[i]? = some S) (h : (Stars l).on W F) : ∃ F2, (Stars (l.eraseIdx i)).on W F2 ∧ ∀ k, F2 k → F k := by
  obtain ⟨F1, F2, h1, h2, hd, hF⟩ := Stars.pull hi h
  exact ⟨F2, h2, fun k hk => (hF k).2 (.inr hk)⟩
/-- Parts in another order. -/
theorem Stars.perm {W : World} {l l' : List HP} (h : l.Perm l') : ∀ {F : Nat → Prop}, (Stars l).on W F → (Stars l').on W F := by
  induction h with
  | nil => exact fun h => h
  | cons x _ ih => exact fun h => Sep.imp h (fun _ h => h) (fun _ h => ih h)
  | swap x y l =>
    intro F h
    exact Sep.assoc (Sep.imp (Sep.assoc' h) (fun _ h => Sep.comm h) (fun _ h => h))
  | trans _ _ i1 i2 => exact fun h => i2 (i1 h)
theorem Stars.append {W : World} : ∀ {l m : List HP} {F : Nat → Prop}, (Stars (l ++ m)).on W F → (Sep (Stars l) (Stars m)).on W F
  | [], m, F, h => ⟨fun _ => False, F, fun _ h => h, h, fun _ h => h.elim, fun _ => by simp⟩
  | T :: l, m, F, h => Sep.assoc' (Sep.imp h (fun _ h => h) (fun _ h => Stars.append h))
theorem Stars.unappend {W : World} : ∀ {l m : List HP} {F : Nat → Prop}, (Sep (Stars l) (Stars m)).on W F → (Stars (l ++ m)).on W F
  | [], m, F, h => by
    obtain ⟨F1, F2, h1, h2, hd, hF⟩ := h
    have : F = F2 := funext fun k => propext ((hF k).trans ⟨fun h => h.elim (fun h => absurd h (h1 k)) id, .inr⟩)
    rw [this]
    exact h2
  | T :: l, m, F, h => Sep.imp (Sep.assoc h) (fun _ h => h) (fun _ h => Stars.unappend h)
section
variable {w W W' : World} {l : List HP} {S S' N : HP} {i : Nat}
theorem Own.fact (o : Own w W (Stars l)) (i : Nat) (hi : l[i]? = some S) : ∃ F, S.on W F := by
  obtain ⟨_, F, h, _⟩ := o
  obtain ⟨F1, _, h1, _⟩ := Stars.pull hi h
  exact ⟨F1, h1⟩
theorem Own.at_ (o : Own w W (Stars l)) (i : Nat) (hi : l[i]? = some S) : Own w W S := by
  have := o.imp (T := Sep S (Stars (l.eraseIdx i))) (fun _ h => Stars.pull hi h)
  exact this.left
theorem Own.setAt (o : Own w W (Stars l)) (i : Nat) (hi : l[i]? = some S) (c : ∀ F, S.on W F → Upd W F S' W') : Own w W' (Stars (l.set i S')) := by
  have hl : i < l.length := (List.getElem?_eq_some_iff.1 hi).1
  have h1 := o.imp (T := Sep S (Stars (l.eraseIdx i))) (fun _ h => Stars.pull hi h)
  exact (h1.upd (S' := Sep S' (Stars (l.eraseIdx i))) (fun F hF => Upd.left hF c)).imp (fun _ h => Stars.push hl h)
theorem Own.impAt (o : Own w W (Stars l)) (i : Nat) (hi : l[i]? = some S) (c : ∀ F, S.on W F → S'.on W F) : Own w W (Stars (l.set i S')) :=
  o.setAt i hi (fun F hF => ⟨F, c F hF, Eff.refl _ _, fun _ h => .inl h⟩)
theorem Own.newAt (o : Own w W (Stars l)) (e : Eff0 W W') {F' : Nat → Prop} (n : N.on W' F') (hn : ∀ k, F' k → W.heap.size ≤ k) : Own w W' (Stars (l ++ [N])) := (o.new e n hn).imp (fun _ h => Stars.add h)
theorem Own.addAt (o : Own w W (Sep (Stars l) N)) : Own w W (Stars (l ++ [N])) := o.imp (fun _ h => Stars.add h)
theorem Own.pullAt (o : Own w W (Stars l)) (i : Nat) (hi : l[i]? = some S) : Own w W (Sep S (Stars (l.eraseIdx i))) := o.imp (fun _ h => Stars.pull hi h)
theorem Own.pushAt (o : Own w W (Sep S (Stars (l.eraseIdx i)))) (hi : i < l.length) : Own w W (Stars (l.set i S)) := o.imp (fun _ h => Stars.push hi h)
theorem Own.dropAt (o : Own w W (Stars l)) (i : Nat) (hi : l[i]? = some S) : Own w W (Stars (l.eraseIdx i)) := (o.pullAt i hi).right
theorem Own.cellsNew (o : Own w W (Stars l)) (cs : Array Value) (t : Nat) : Own w (W.alloc (.cells cs t)) (Stars (l ++ [CellsAt W.heap.size cs t])) := (Own.newCells o cs t).addAt
theorem Own.perm {l' : List HP} (o : Own w W (Stars l)) (h : l.Perm l') : Own w W (Stars l') := o.imp (fun _ hF => Stars.perm h hF)
theorem Own.cellsAt {b t : Nat} {cs : Array Value} (o : Own w W (Stars l)) (i : Nat) (hi : l[i]? = some (CellsAt b cs t)) : (∀ j, W.cell? ⟨b, j, none⟩ = cs[j]?) ∧ (∀ j, W.frozen? ⟨b, j, none⟩ = false) := Own.cells (o.at_ i hi)
theorem Own.setCellAt {b t : Nat} {cs : Array Value} (o : Own w W (Stars l)) (i : Nat) (hi : l[i]? = some (CellsAt b cs t)) (j : Nat) (u : Value) : Own w (W.setCell ⟨b, j, none⟩ u) (Stars (l.set i (CellsAt b (cs.setIfInBounds j u) t))) := o.setAt i hi (fun _ hF => CellsAt.set hF j u)
/-- A call that works on one part. -/
theorem Own.callAt {P : Program} {f : FuncId} {args : Array Value} {X : Type} {S' : X → HP} {E : X → Ending → World → Prop} (o : Own w W (Stars l)) (i : Nat) (hi : l[i]? = some S) (c : ∀ F, S.on W F → Calls P f args W (fun e W' => ∃ x, E x e W' ∧ Upd W F (S' x) W')) : Calls P f args W (fun e W' => ∃ x, E x e W' ∧ Own w W' (Stars (l.set i (S' x)))) := by
  have hl : i < l.length := (List.getElem?_eq_some_iff.1 hi).1
  have o1 := o.pullAt i hi
  obtain ⟨hb, F, hF, hFw⟩ := o1
  obtain ⟨F1, h1, k1, u1⟩ := Sep.focus hF
  refine (c F1 h1).mono ?_
  rintro e W' ⟨x, hE, hU⟩
  obtain ⟨F', h', ef, hk⟩ := u1 _ _ hU
  refine ⟨x, hE, Own.pushAt (S := S' x) ⟨below_eff hb (Nat.le_refl _) ef hFw, F', h', fun k hk' => ?_⟩ hl⟩
  rcases hk k hk' with h | h
  · exact hFw k h
  · exact Nat.le_trans hb.size h
/-- A call that only makes memory, of which N is told. -/
theorem Own.callNew {P : Program} {f : FuncId} {args : Array Value} {X : Type} {N : X → HP} {E : X → Ending → World → Prop} (o : Own w W (Stars l)) (c : Calls P f args W (fun e W' => ∃ x, E x e W' ∧ Own W W' (N x))) : Calls P f args W (fun e W' => ∃ x, E x e W' ∧ Own w W' (Stars (l ++ [N x]))) := by
  refine c.mono ?_
  rintro e W' ⟨x, hE, hb, F, hF, hk⟩
  exact ⟨x, hE, o.newAt (Eff.of_below hb) hF hk⟩
end
/-! ### a map that is gone through -/
section
variable {K : Type} [DecidableEq K] {κ : Key K}
/-- The map in block b, and what goes through it, in block r. -/
def MapIt (κ : Key K) (r b : Nat) (l left : List (K × Value)) : HP where
  on := fun W F => Iter κ W r b l left ∧ F b ∧ F r ∧ ∀ k, F k → k < W.heap.size
  frame := fun h hk => ⟨Iter.move h.1 (hk _ h.2.1) (hk _ h.2.2.1), h.2.1, h.2.2.1, fun k hF => lt_of_same (h.2.2.2 k hF) (hk k hF)⟩
  lt := fun h hk => h.2.2.2 _ hk
theorem MapIt.start {b : Nat} {l : List (K × Value)} {W : World} {F : Nat → Prop} (h : (MapHP κ b l).on W F) {o : Obj} (hI : Iter κ (W.alloc o) W.heap.size b l l) : Upd W F (MapIt κ W.heap.size b l l) (W.alloc o) := by
  refine ⟨fun k => F k ∨ k = W.heap.size, ⟨hI, .inl h.2.1, .inr rfl, fun k hk => ?_⟩, (Eff.refl _ _).alloc _, fun k hk => hk.imp id (fun h => Nat.le_of_eq h.symm)⟩
  rcases hk with h' | rfl
  · have := h.2.2 k h'
    simp
    omega
  · simp
theorem MapIt.next {r b : Nat} {l left left' : List (K × Value)} {W w' : World} {F : Nat → Prop} (h : (MapIt κ r b l left).on W F) (hI : Iter κ w' r b l left') (hg : W.grownBy w' (some r)) : Upd W F (MapIt κ r b l left') w' :=
  ⟨F, ⟨hI, h.2.1, h.2.2.1, fun k hk => Nat.lt_of_lt_of_le (h.2.2.2 k hk) hg.size⟩, Eff.of_grown hg (fun i hi => by injection hi with hi; subst hi; exact h.2.2.1), fun _ hk => .inl hk⟩
theorem MapIt.stop {r b : Nat} {l left : List (K × Value)} {W : World} {F : Nat → Prop} (h : (MapIt κ r b l left).on W F) : (MapHP κ b l).on W F := ⟨h.1.map, h.2.1, h.2.2.2⟩
end
end Go.Proofs.YtiagbkpggeglgaaGreat.L
namespace Go.Proofs.YtiagbkpggeglgaaGreat.RS
open Go Go.RowKit Go.Proofs.YtiagbkpggeglgaaGreatW.PrintWords Go.Proofs.YtiagbkpggeglgaaGreatW.PrintLast Go.Proofs.YtiagbkpggeglgaaGreatW.PrintMore Go.Proofs.YtiagbkpggeglgaaGreat.L
set_option linter.unusedVariables false
set_option linter.unusedSimpArgs false
/-! ### what a log comes to -/
abbrev kdI : Kd Int := Kd.int .i64
/-- A patch: its page, where, its bytes. -/
abbrev Pt := Int × Int × ByteArray
/-- The patches lie there to be read. -/
def PtsAt (W : World) (B : Option Addr) (ps : List Pt) : Prop := ∀ i, i < ps.length → ∃ ad, B = some ad ∧ W.cell? (ad.add (i * 3)) = some (.int .i64 (ps.getD i default).1) ∧ W.cell? { block := (ad.add (i * 3)).block, off := (ad.add (i * 3)).off + 1 } = some (.int .i64 (ps.getD i default).2.1) ∧ W.cell? { block := (ad.add (i * 3)).block, off := (ad.add (i * 3)).off + 2 } = some (.string (ps.getD i default).2.2)
def ints (l : List (Int × Int)) : List (Int × Value) := l.map (fun p => (p.1, .int .i64 p.2))
def putI (l : List (Int × Int)) (k v : Int) : List (Int × Int) := if l.any (fun p => decide (p.1 = k)) then l.map (fun p => if p.1 = k then (k, v) else p) else l ++ [(k, v)]
def getI (l : List (Int × Int)) (k : Int) : Int := ((l.find? (fun p => decide (p.1 = k))).map (·.2)).getD 0
def delI (l : List (Int × Int)) (k : Int) : List (Int × Int) := l.filter (fun p => decide (p.1 ≠ k))
theorem look_ints (l : List (Int × Int)) (k : Int) : L.look (ints l) k = ((l.find? (fun p => decide (p.1 = k))).map (fun p => Value.int .i64 p.2)) := by
  unfold L.look ints
  rw [List.find?_map]
  have e : ((fun p : Int × Value => decide (p.1 = k)) ∘ fun p : Int × Int => (p.1, Value.int .i64 p.2)) = fun p => decide (p.1 = k) := rfl
  rw [e]
  cases l.find? (fun p => decide (p.1 = k)) <;> rfl
theorem look_getI (l : List (Int × Int)) (k : Int) : (L.look (ints l) k).getD (.int .i64 0) = .int .i64 (getI l k) := by
  rw [look_ints]
  unfold getI
  cases l.find? (fun p => decide (p.1 = k)) <;> rfl
theorem ints_put (l : List (Int × Int)) (k v : Int) : L.put (ints l) k (.int .i64 v) = ints (putI l k v) := by
  unfold L.put putI
  have e : (L.look (ints l) k).isSome = l.any (fun p => decide (p.1 = k)) := by
    rw [look_ints]
    cases hf : l.find? (fun p => decide (p.1 = k)) with
    | none => simpa using hf
    | some p =>
      have h1 := List.mem_of_find?_eq_some hf
      have h2 : p.1 = k := by simpa using List.find?_some hf
      simp only [Option.map_some, Option.isSome_some]
      exact (List.any_eq_true.2 ⟨p, h1, by simpa using h2⟩).symm
  rw [e]
  split
  · unfold ints
    rw [List.map_map, List.map_map]
    refine List.map_congr_left (fun p _ => ?_)
    simp only [Function.comp_apply]
    split <;> rfl
  · unfold ints
    simp
theorem ints_del (l : List (Int × Int)) (k : Int) : L.del (ints l) k = ints (delI l k) := by
  unfold L.del ints delI
  rw [List.filter_map]
  rfl
/-- What is known of a transaction; where its pages lie. -/
structure Tv where
  tx : Int
  last : Int
  com : Bool
  A : Option Addr
  c : Nat
  p : List Int
deriving Inhabited
abbrev Tv.v (t : Tv) : Value := .agg #[.int .i64 t.tx, .int .i64 t.last, .bool t.com, .slice t.A t.p.length t.c]
def tvs (l : List (Int × Tv)) : List (Int × Value) := l.map (fun p => (p.1, p.2.v))
/-- What was read so far. -/
structure Sg where
  mt : Nat
  md : Nat
  t : List (Int × Tv)
  d : List (Int × Int)
def SgAt (b : Nat) (s : Sg) : HP := Sep (CellsAt b #[.map (some s.mt), .map (some s.md)] 95) (Sep (MapHP keyInt s.mt (tvs s.t)) (MapHP keyInt s.md (ints s.d)))
theorem SgAt.facts {b : Nat} {s : Sg} {W : World} {F : Nat → Prop} (h : (SgAt b s).on W F) : W.cell? ⟨b, 0, none⟩ = some (.map (some s.mt)) ∧ W.cell? ⟨b, 1, none⟩ = some (.map (some s.md)) ∧ MapAt keyInt W s.mt (tvs s.t) ∧ MapAt keyInt W s.md (ints s.d) := by
  obtain ⟨F1, F2, h1, ⟨F3, F4, h3, h4, _⟩, _⟩ := h
  exact ⟨CellsAt.cell h1 0, CellsAt.cell h1 1, h3.1, h4.1⟩
/-- A page is dirty, if it is not yet. -/
def dirtF (l : List (Int × Int)) (n lsn : Int) : List (Int × Int) := if l.any (fun p => decide (p.1 = n)) then l else l ++ [(n, lsn)]
theorem SgAt.lookD {b : Nat} {s : Sg} {W : World} {F : Nat → Prop} (h : (SgAt b s).on W F) (n : Int) : ∃ v, (Instr.lookup 93 (.map (some s.md)) (.int .i64 n) true).run Tryz.prog W = .ok (.tuple #[.int .i64 v, .bool (s.d.any (fun p => decide (p.1 = n)))]) W := by
  obtain ⟨_, _, _, hM⟩ := SgAt.facts h
  have := hM.lookup (P := Tryz.prog) Tryz.underlying93 Tryz.underlying3 (z := .int .i64 0) (by kernel_rfl) n true
  rw [look_ints] at this
  cases hf : s.d.find? (fun p => decide (p.1 = n)) with
  | none =>
    have e : s.d.any (fun p => decide (p.1 = n)) = false := by
      rw [List.any_eq_false]
      intro p hp
      exact List.find?_eq_none.1 hf p hp
    rw [hf] at this
    exact ⟨0, by rw [e]; exact this⟩
  | some p =>
    have e : s.d.any (fun p => decide (p.1 = n)) = true := List.any_eq_true.2 ⟨p, List.mem_of_find?_eq_some hf, by have := List.find?_some hf; simpa using this⟩
    rw [hf] at this
    exact ⟨p.2, by rw [e]; exact this⟩
theorem SgAt.putD {b : Nat} {s : Sg} {W : World} {F : Nat → Prop} (h : (SgAt b s).on W F) {n : Int} (hn : s.d.any (fun p => decide (p.1 = n)) = false) (lsn : Int) : ∃ w', (Instr.mapUpdate 93 (.map (some s.md)) (.int .i64 n) (.int .i64 lsn)).run Tryz.prog W = .ok () w' ∧ Upd W F (SgAt b ⟨s.mt, s.md, s.t, s.d ++ [(n, lsn)]⟩) w' := by
  obtain ⟨F1, hR, _, l1⟩ := Sep.focusR h
  obtain ⟨F2, hM, _, l2⟩ := Sep.focusR hR
  obtain ⟨w', hrun, hm, hgr, _⟩ := hM.1.update (P := Tryz.prog) Tryz.underlying93 Tryz.underlying3 n (.int .i64 lsn)
  rw [ints_put] at hm
  have e : putI s.d n lsn = s.d ++ [(n, lsn)] := by unfold putI; rw [hn, if_neg (by simp)]
  rw [e] at hm
  exact ⟨w', hrun, l1 _ _ (l2 _ _ (MapHP.upd (κ := keyInt) hM hm hgr))⟩
set_option maxHeartbeats 1600000 in
set_option maxRecDepth 100000 in
theorem dirt_calls (b : Nat) (s : Sg) (W : World) (F : Nat → Prop) (n lsn : Int) (h : (SgAt b s).on W F) :
    Calls Tryz.prog 37 #[.pointer (some ⟨b, 0, none⟩), .int .i64 n, .int .i64 lsn] W fun e w' => e = .returned (.tuple #[]) ∧ Upd W F (SgAt b ⟨s.mt, s.md, s.t, dirtF s.d n lsn⟩) w' := by
  obtain ⟨c0, c1, _, _⟩ := SgAt.facts h
  obtain ⟨v, hL⟩ := SgAt.lookD h n
  cases hd : s.d.any (fun p => decide (p.1 = n)) with
  | true =>
    rw [hd] at hL
    have HU := Aside0.mk (show Upd W F (SgAt b ⟨s.mt, s.md, s.t, dirtF s.d n lsn⟩) W from by unfold dirtF; rw [hd, if_pos rfl]; exact Upd.same h (Eff.refl _ _))
    clear h hd
    go_enter Tryz.func37, Tryz.ntmps37
    go_wp2_with fail
    go_end0
    exact ⟨rfl, HU.out⟩
  | false =>
    rw [hd] at hL
    obtain ⟨w', hrun, hU⟩ := SgAt.putD h hd lsn
    have HU := Aside0.mk (show Upd W F (SgAt b ⟨s.mt, s.md, s.t, dirtF s.d n lsn⟩) w' from by unfold dirtF; rw [hd, if_neg (by simp)]; exact hU)
    clear h hd hU
    go_enter Tryz.func37, Tryz.ntmps37
    go_wp2_with fail
    go_end0
    exact ⟨rfl, HU.out⟩
end Go.Proofs.YtiagbkpggeglgaaGreat.RS
namespace Go.Proofs.YtiagbkpggeglgaaGreat.RS
open Go Go.RowKit Go.Proofs.YtiagbkpggeglgaaGreatW.PrintWords Go.Proofs.YtiagbkpggeglgaaGreatW.PrintLast Go.Proofs.YtiagbkpggeglgaaGreatW.PrintMore Go.Proofs.YtiagbkpggeglgaaGreat.L
set_option linter.unusedVariables false
set_option linter.unusedSimpArgs false
/-! ### what is known of transactions -/
def zT : Tv := ⟨0, 0, false, none, 0, []⟩
def getT (l : List (Int × Tv)) (k : Int) : Tv := ((l.find? (fun p => decide (p.1 = k))).map (·.2)).getD zT
def putT (l : List (Int × Tv)) (k : Int) (v : Tv) : List (Int × Tv) := if l.any (fun p => decide (p.1 = k)) then l.map (fun p => if p.1 = k then (k, v) else p) else l ++ [(k, v)]
def delT (l : List (Int × Tv)) (k : Int) : List (Int × Tv) := l.filter (fun p => decide (p.1 ≠ k))
theorem look_tvs (l : List (Int × Tv)) (k : Int) : L.look (tvs l) k = ((l.find? (fun p => decide (p.1 = k))).map (fun p => p.2.v)) := by
  unfold L.look tvs
  rw [List.find?_map]
  have e : ((fun p : Int × Value => decide (p.1 = k)) ∘ fun p : Int × Tv => (p.1, p.2.v)) = fun p => decide (p.1 = k) := rfl
  rw [e]
  cases l.find? (fun p => decide (p.1 = k)) <;> rfl
theorem look_getT (l : List (Int × Tv)) (k : Int) : (L.look (tvs l) k).getD zT.v = (getT l k).v := by
  rw [look_tvs]
  unfold getT
  cases l.find? (fun p => decide (p.1 = k)) <;> rfl
theorem tvs_put (l : List (Int × Tv)) (k : Int) (v : Tv) : L.put (tvs l) k v.v = tvs (putT l k v) := by
  unfold L.put putT
  have e : (L.look (tvs l) k).isSome = l.any (fun p => decide (p.1 = k)) := by
    rw [look_tvs]
    cases hf : l.find? (fun p => decide (p.1 = k)) with
    | none => simpa using hf
    | some p =>
      have h1 := List.mem_of_find?_eq_some hf
      have h2 : p.1 = k := by simpa using List.find?_some hf
      simp only [Option.map_some, Option.isSome_some]
      exact (List.any_eq_true.2 ⟨p, h1, by simpa using h2⟩).symm
  rw [e]
  split
  · unfold tvs
    rw [List.map_map, List.map_map]
    refine List.map_congr_left (fun p _ => ?_)
    simp only [Function.comp_apply]
    split <;> rfl
  · unfold tvs
    simp
theorem tvs_del (l : List (Int × Tv)) (k : Int) : L.del (tvs l) k = tvs (delT l k) := by
  unfold L.del tvs delT
  rw [List.filter_map]
  rfl
variable {b : Nat} {s : Sg} {W : World} {F : Nat → Prop}
theorem SgAt.lookT (h : (SgAt b s).on W F) (k : Int) : (Instr.lookup 92 (.map (some s.mt)) (.int .i64 k) false).run Tryz.prog W = .ok (getT s.t k).v W := by
  obtain ⟨_, _, hM, _⟩ := SgAt.facts h
  have := hM.lookup (P := Tryz.prog) Tryz.underlying92 Tryz.underlying3 (z := zT.v) (by kernel_rfl) k false
  rw [← look_getT]
  exact this
theorem SgAt.putT (h : (SgAt b s).on W F) (k : Int) (v : Tv) : ∃ w', (Instr.mapUpdate 92 (.map (some s.mt)) (.int .i64 k) v.v).run Tryz.prog W = .ok () w' ∧ Upd W F (SgAt b ⟨s.mt, s.md, RS.putT s.t k v, s.d⟩) w' := by
  obtain ⟨F1, hR, _, l1⟩ := Sep.focusR h
  obtain ⟨F2, hM, _, l2⟩ := Sep.focus hR
  obtain ⟨w', hrun, hm, hgr, _⟩ := hM.1.update (P := Tryz.prog) Tryz.underlying92 Tryz.underlying3 k v.v
  rw [tvs_put] at hm
  exact ⟨w', hrun, l1 _ _ (l2 _ _ (MapHP.upd (κ := keyInt) hM hm hgr))⟩
theorem SgAt.delT (h : (SgAt b s).on W F) (k : Int) : ∃ w', (∀ ty, (Builtin.delete_ #[92, 3] ty #[.map (some s.mt), .int .i64 k]).run Tryz.prog W = .ok (.tuple #[]) w') ∧ Upd W F (SgAt b ⟨s.mt, s.md, RS.delT s.t k, s.d⟩) w' := by
  obtain ⟨F1, hR, _, l1⟩ := Sep.focusR h
  obtain ⟨F2, hM, _, l2⟩ := Sep.focus hR
  obtain ⟨w', hrun, hm, hgr, _⟩ := hM.1.drop (P := Tryz.prog) Tryz.underlying92 Tryz.underlying3 k 0
  rw [tvs_del] at hm
  exact ⟨w', fun ty => hrun, l1 _ _ (l2 _ _ (MapHP.upd (κ := keyInt) hM hm hgr))⟩
/-- All that a record touches is dirty. -/
def dirtsF (d : List (Int × Int)) (l : List Int) (lsn : Int) : List (Int × Int) := l.foldl (fun d n => dirtF d n lsn) d
theorem dirts_take (d : List (Int × Int)) (l : List Int) (lsn : Int) (i : Nat) (h : i < l.length) : dirtsF d (l.take (i + 1)) lsn = dirtF (dirtsF d (l.take i) lsn) (l.getD i default) lsn := by
  unfold dirtsF
  rw [List.take_add_one, List.foldl_append, List.getD_eq_getElem?_getD]
  simp [h]
end Go.Proofs.YtiagbkpggeglgaaGreat.RS
namespace Go.Proofs.YtiagbkpggeglgaaGreat.RS
open Go Go.RowKit Go.Proofs.YtiagbkpggeglgaaGreatW.PrintWords Go.Proofs.YtiagbkpggeglgaaGreatW.PrintLast Go.Proofs.YtiagbkpggeglgaaGreatW.PrintMore Go.Proofs.YtiagbkpggeglgaaGreat.L
set_option linter.unusedVariables false
set_option linter.unusedSimpArgs false
/-! ### the same, told plainly -/
structure Tp where
  tx : Int
  last : Int
  com : Bool
  p : List Int
deriving Inhabited
def Tv.ab (t : Tv) : Tp := ⟨t.tx, t.last, t.com, t.p⟩
def zP : Tp := ⟨0, 0, false, []⟩
structure Ab where
  t : List (Int × Tp)
  d : List (Int × Int)
def getP (l : List (Int × Tp)) (k : Int) : Tp := ((l.find? (fun p => decide (p.1 = k))).map (·.2)).getD zP
def putP (l : List (Int × Tp)) (k : Int) (v : Tp) : List (Int × Tp) := if l.any (fun p => decide (p.1 = k)) then l.map (fun p => if p.1 = k then (k, v) else p) else l ++ [(k, v)]
def delP (l : List (Int × Tp)) (k : Int) : List (Int × Tp) := l.filter (fun p => decide (p.1 ≠ k))
def abL (l : List (Int × Tv)) : List (Int × Tp) := l.map (fun p => (p.1, p.2.ab))
def Sg.ab (s : Sg) : Ab := ⟨abL s.t, s.d⟩
theorem ab_get (l : List (Int × Tv)) (k : Int) : (getT l k).ab = getP (abL l) k := by
  unfold getT getP abL
  rw [List.find?_map]
  have e : ((fun p : Int × Tp => decide (p.1 = k)) ∘ fun p : Int × Tv => (p.1, p.2.ab)) = fun p => decide (p.1 = k) := rfl
  rw [e]
  cases l.find? (fun p => decide (p.1 = k)) <;> rfl
theorem ab_any (l : List (Int × Tv)) (k : Int) : (abL l).any (fun p => decide (p.1 = k)) = l.any (fun p => decide (p.1 = k)) := by
  unfold abL
  rw [List.any_map]
  rfl
theorem ab_put (l : List (Int × Tv)) (k : Int) (v : Tv) : abL (putT l k v) = putP (abL l) k v.ab := by
  unfold putT putP
  rw [ab_any]
  split
  · unfold abL
    rw [List.map_map, List.map_map]
    refine List.map_congr_left (fun p _ => ?_)
    simp only [Function.comp_apply]
    split <;> rfl
  · unfold abL
    simp
theorem ab_del (l : List (Int × Tv)) (k : Int) : abL (delT l k) = delP (abL l) k := by
  unfold abL delT delP
  rw [List.filter_map]
  rfl
/-! ### elements of several cells -/
def kdOf {α : Type} (k : Nat) (enc : α → List Value) (hl : ∀ x, (enc x).length = k) (h1 : ∀ x, ∀ u ∈ enc x, u.oneCell' = true) : Kd α where
  sz := k
  E := []
  K := fun _ x cs => cs = enc x
  M := fun _ _ _ x cs => cs = enc x
  K_len := by rintro w x cs rfl; exact hl x
  K_one := by rintro w x cs rfl; exact h1 x
  K_below := fun _ h => h
  K_of_M := fun h => h
  M_mono := fun _ h => h
  M_bound := fun h => h
  M_move := fun _ h => h
  M_lower := fun _ h => h
theorem add_add (a : Addr) (n j : Nat) (hj : 0 < j) : a.add (n + j) = { block := (a.add n).block, off := (a.add n).off + j } := by
  unfold Addr.add
  rw [if_neg (by omega)]
  split
  · rename_i h
    subst h
    simp
  · simp [Nat.add_assoc]
theorem kdOf_at {α : Type} [Inhabited α] {k : Nat} {enc : α → List Value} {hl : ∀ x, (enc x).length = k} {h1 : ∀ x, ∀ u ∈ enc x, u.oneCell' = true} {w : World} {A : Option Addr} {n : Nat} {xs : List α} (h : (kdOf k enc hl h1).C w A n xs) (i : Nat) (hi : i < n) :
    ∃ ad, A = some ad ∧ (∀ u, (enc (xs.getD i default))[0]? = some u → w.cell? (ad.add (i * k)) = some u) ∧ ∀ j, 0 < j → ∀ u, (enc (xs.getD i default))[j]? = some u → w.cell? { block := (ad.add (i * k)).block, off := (ad.add (i * k)).off + j } = some u := by
  obtain ⟨ad, c, e, _, hK, hc0⟩ := Kd.C_get h (default : α) (i : Int) (by omega) (by omega)
  have hc : ∀ j u, c[j]? = some u → w.cell? (ad.add (i * k + j)) = some u := hc0
  have hK2 : c = enc (xs.getD i default) := hK
  subst hK2
  refine ⟨ad, e, fun u hu => ?_, fun j hj u hu => ?_⟩
  · have := hc 0 u hu
    rwa [Nat.add_zero] at this
  · have := hc j u hu
    rwa [add_add _ _ _ hj] at this
abbrev encT (t : Tv) : List Value := [.int .i64 t.tx, .int .i64 t.last, .bool t.com, .slice t.A t.p.length t.c]
def kdT : Kd Tv := kdOf 4 encT (fun _ => rfl) (by
  intro x u hu
  simp only [encT, List.mem_cons, List.not_mem_nil, or_false] at hu
  rcases hu with rfl | rfl | rfl | rfl <;> rfl)
abbrev encD (d : Int × Int) : List Value := [.int .i64 d.1, .int .i64 d.2]
def kdD : Kd (Int × Int) := kdOf 2 encD (fun _ => rfl) (by
  intro x u hu
  simp only [encD, List.mem_cons, List.not_mem_nil, or_false] at hu
  rcases hu with rfl | rfl <;> rfl)
abbrev encP (p : Pt) : List Value := [.int .i64 p.1, .int .i64 p.2.1, .string p.2.2]
def kdPt : Kd Pt := kdOf 3 encP (fun _ => rfl) (by
  intro x u hu
  simp only [encP, List.mem_cons, List.not_mem_nil, or_false] at hu
  rcases hu with rfl | rfl | rfl <;> rfl)
theorem PtsAt.of {w : World} {A : Option Addr} {xs : List Pt} (h : kdPt.C w A xs.length xs) : PtsAt w A xs := fun i hi => by
  obtain ⟨ad, e, h0, hj⟩ := kdOf_at h i hi
  exact ⟨ad, e, h0 _ rfl, hj 1 (by omega) _ rfl, hj 2 (by omega) _ rfl⟩
/-! ### the pages of transactions lie there to be read -/
theorem C_same {W W' : World} {A : Option Addr} {n : Nat} {xs : List Int} (h : kdI.C W A n xs) (hk : ∀ ad, A = some ad → xs ≠ [] → W'.heap[ad.block]? = W.heap[ad.block]?) : kdI.C W' A n xs := by
  refine ⟨h.1, h.2.1, fun hn => ?_⟩
  obtain ⟨ad, e, hc⟩ := h.2.2 hn
  refine ⟨ad, e, fun j p hj => ?_⟩
  obtain ⟨c, hl, hK, hcc⟩ := hc j p hj
  refine ⟨c, hl, hK, fun i u hu => ?_⟩
  rw [← hcc i u hu]
  have hb : (ad.add (j * kdI.sz + i)).block = ad.block := by unfold Addr.add; split <;> rfl
  unfold World.cell?
  rw [hb, hk ad e (fun e2 => by rw [e2] at hj; cases hj)]
def PgsAt (ts : List Tv) : HP where
  on := fun W F => (∀ t ∈ ts, kdI.C W t.A t.p.length t.p ∧ ∀ ad, t.A = some ad → t.p ≠ [] → F ad.block) ∧ ∀ k, F k → k < W.heap.size
  frame := by
    rintro W W' F ⟨h, h3⟩ hk
    refine ⟨fun t ht => ?_, fun k hF => lt_of_same (h3 k hF) (hk k hF)⟩
    obtain ⟨h1, h2⟩ := h t ht
    exact ⟨C_same h1 (fun ad e hn => hk _ (h2 ad e hn)), h2⟩
  lt := fun h hk => h.2 _ hk
theorem PgsAt.sub {ts us : List Tv} {W : World} {F : Nat → Prop} (h : (PgsAt ts).on W F) (hs : ∀ t ∈ us, t ∈ ts) : (PgsAt us).on W F := ⟨fun t ht => h.1 t (hs t ht), h.2⟩
theorem PgsAt.none (W : World) : (PgsAt []).on W (fun _ => False) := ⟨fun _ h => (by cases h), fun _ h => h.elim⟩
theorem PgsAt.of {ts us : List Tv} {W : World} {F : Nat → Prop} (h : (PgsAt ts).on W F) (hs : ∀ u ∈ us, u.p = [] ∨ ∃ t ∈ ts, t.A = u.A ∧ t.p = u.p) : (PgsAt us).on W F := by
  refine ⟨fun u hu => ?_, h.2⟩
  rcases hs u hu with e | ⟨t, ht, ea, ep⟩
  · rw [e]
    exact ⟨⟨rfl, by simp, fun hn => absurd hn (by simp)⟩, fun _ _ hn => absurd rfl hn⟩
  · rw [← ea, ← ep]
    exact h.1 t ht
theorem PgsAt.app {ts us : List Tv} {W : World} {F : Nat → Prop} (h : (Sep (PgsAt ts) (PgsAt us)).on W F) : (PgsAt (ts ++ us)).on W F := by
  obtain ⟨F1, F2, h1, h2, _, hF⟩ := h
  refine ⟨fun p hp => ?_, fun k hk => ?_⟩
  · rcases List.mem_append.1 hp with hp | hp
    · exact ⟨(h1.1 p hp).1, fun ad e hn => (hF _).2 (.inl ((h1.1 p hp).2 ad e hn))⟩
    · exact ⟨(h2.1 p hp).1, fun ad e hn => (hF _).2 (.inr ((h2.1 p hp).2 ad e hn))⟩
  · rcases (hF k).1 hk with h | h
    · exact h1.2 k h
    · exact h2.2 k h
/-- A row of numbers is a transaction's pages. -/
theorem PgsAt.row {e : Nat} {v : Value} {xs : List Int} {W : World} {F : Nat → Prop} (h : (RowAt kdI e v xs).on W F) (tx last : Int) (com : Bool) : ∃ A c, v = .slice A xs.length c ∧ (PgsAt [⟨tx, last, com, A, c, xs⟩]).on W F := by
  obtain ⟨A, c, hv, _, hC⟩ := RowAt.reads h
  refine ⟨A, c, hv, fun t ht => ?_, h.2⟩
  rw [List.mem_singleton.1 ht]
  refine ⟨hC, fun ad e hn => h.1.1 _ ?_⟩
  dsimp only at e
  rw [hv, e]
  simp [Value.ownBlock]
/-- What was read so far, with the pages. -/
def StAt (b : Nat) (s : Sg) : HP := Sep (SgAt b s) (PgsAt (s.t.map (·.2)))
end Go.Proofs.YtiagbkpggeglgaaGreat.RS
namespace Go.Proofs.YtiagbkpggeglgaaGreat.RS
open Go Go.RowKit Go.Proofs.YtiagbkpggeglgaaGreatW.PrintWords Go.Proofs.YtiagbkpggeglgaaGreatW.PrintLast Go.Proofs.YtiagbkpggeglgaaGreatW.PrintMore Go.Proofs.YtiagbkpggeglgaaGreat.L
set_option linter.unusedVariables false
set_option linter.unusedSimpArgs false
theorem infoI : (Tryz.prog.info? 3).map (fun i => (i.zero, i.size, i.bytes)) = some (some (.int .i64 0), 1, 8) := by kernel_rfl
theorem eq_nil_slice (A : Option Addr) (n c : Nat) (w : World) : (binOp .eql 39 (.slice A n c) (.slice none 0 0)).run Tryz.prog w = .ok (.bool A.isNone) w := Lib.run_eql_slice_nil w _ 3 A n c 0 0 Tryz.underlying39
theorem emptyRow (w : World) : Kd.R (Kd.int .i64) 3 (w.alloc (.cells #[] 3)) w.heap.size (fun _ => True) (.slice (some ⟨w.heap.size, 0, none⟩) 0 0) [] :=
  Kd.R_of_own (enc := Value.int .i64) (by simpa [nums, encs] using own_lit w w.heap.size 3 .i64 [] (Nat.le_refl _) (by simp)) (fun _ _ => trivial)
set_option maxHeartbeats 4000000 in
set_option maxRecDepth 100000 in
theorem clone_calls (w : World) (A : Option Addr) (c : Nat) (l : List Int) (hr : Kd.C (Kd.int .i64) w A l.length l) (hm : l.length ≤ 17592186043904) :
    Calls Tryz.prog 36 #[.slice A l.length c] w fun e w' => ∃ v, e = .returned v ∧ Kd.R (Kd.int .i64) 3 w' w.heap.size (fun _ => True) v l ∧ Below w.heap.size w w' := by
  cases A with
  | none =>
    have hl : l = [] := by
      cases l with
      | nil => rfl
      | cons x l =>
        obtain ⟨ad, e, _⟩ := Kd.at_int hr 0 (by omega) (by simp)
        cases e
    subst hl
    have hE := eq_nil_slice none 0 c w
    dsimp only [Option.isNone] at hE
    clear hr
    go_enter Tryz.func36, Tryz.ntmps36
    go_wp2
    go_ret
    exact ⟨_, rfl, Kd.R_nil _ _ _ _ _, Below.refl _ _⟩
  | some a =>
    have hE := eq_nil_slice (some a) l.length c w
    dsimp only [Option.isNone] at hE
    have H := Aside0.mk hr
    clear hr
    go_enter Tryz.func36, Tryz.ntmps36
    go_wp2_with (first | (at_builtin; refine Kd.R_append_rows (Kd.int .i64) (w0 := w) w.heap.size rfl (.tmp 5) (.tmp 6) 39 3 (.int .i64 0) 8 rfl Tryz.underlying39 infoI rfl (by decide) (by omega) (.slice (some ⟨w.heap.size, 0, none⟩) 0 0) ([] : List Int) l _ _ _ (fun _ => True) (fun _ => False) rfl rfl (emptyRow w) (Kd.C_alloc H.out _) (fun _ _ h => h) (fun _ h => h.elim) (fun _ _ => trivial) (below_alloc (Below.refl _ _) _) (by simp) (by simp; omega) ?_; intro v1 w1 ho hb hg hat; have A1 := Aside0.mk ho; have A2 := Aside0.mk hb; clear ho hb hg hat) | fail)
    go_ret
    exact ⟨_, rfl, by simpa using A1.out, A2.out⟩
end Go.Proofs.YtiagbkpggeglgaaGreat.RS
namespace Go.Proofs.YtiagbkpggeglgaaGreat.RS
open Go Go.RowKit Go.Proofs.YtiagbkpggeglgaaGreatW.PrintWords Go.Proofs.YtiagbkpggeglgaaGreatW.PrintLast Go.Proofs.YtiagbkpggeglgaaGreatW.PrintMore Go.Proofs.YtiagbkpggeglgaaGreat.L
set_option linter.unusedVariables false
set_option linter.unusedSimpArgs false
open Go.Sort
theorem RowX.take {α : Type} {enc : α → List Value} {k e base : Nat} {W : World} {g cap : Nat} {xs : List α} (h : RowX enc k e W base g cap xs) (m : Nat) : RowX enc k e W base g cap (xs.take m) := by
  obtain ⟨cur, rest, hh, hc, ht⟩ := h.has
  refine ⟨h.le, by have := h.len; rw [List.length_take]; omega, h.max, cur, flatE enc (xs.drop m) ++ rest, hh, hc, ?_⟩
  rw [ht, ← List.append_assoc, ← flatE_parts]
abbrev encI (x : Int) : List Value := [.int .i64 x]
theorem flatI (l : List Int) (j : Nat) : (flatE encI l)[j]? = l[j]?.map (Value.int .i64) := by
  have : flatE encI l = l.map (Value.int .i64) := by
    unfold flatE encI
    induction l with
    | nil => rfl
    | cons a l ih => rw [List.flatMap_cons, List.map_cons, ih]; rfl
  rw [this, List.getElem?_map]
/-- The numbers, rising. -/
def sortI (xs : List Int) : List Int := xs.mergeSort (fun x y => decide (x ≤ y))
theorem sortI_perm (xs : List Int) : (sortI xs).Perm xs := List.mergeSort_perm _ _
theorem sortI_sorted (xs : List Int) : (sortI xs).Pairwise (fun a b => a ≤ b) := by
  have h := List.pairwise_mergeSort (le := fun (x y : Int) => decide (x ≤ y)) (fun a b c h1 h2 => by simp only [decide_eq_true_eq] at *; omega) (fun a b => by simp only [Bool.or_eq_true, decide_eq_true_eq]; omega) xs
  exact h.imp (fun {a b} h => by simpa using h)
theorem sortI_calls (base : Nat) (ok : Nat → Prop) (w1 : World) (v : Value) (xs : List Int) (h : kdI.R 3 w1 base ok v xs) (hl : xs.length < 900000) :
    Calls Tryz.prog 129 #[v] w1 fun e w' => e = .returned (.tuple #[]) ∧ Aside0 (kdI.R 3 w' base ok v (sortI xs) ∧ Eff (fun k => v.ownBlock = some k) w1 w') := by
  rcases Kd.R_own h with ⟨inner, ho⟩
  rcases ho.2 with ⟨hv, h0⟩ | ⟨g, cap, cur, hv, hg, _⟩
  · have hnil : xs = [] := List.length_eq_zero_iff.mp h0
    subst hnil
    subst hv
    refine (Go.Proofs.Tryz.slices_Sort_int_none none 0 w1).mono ?_
    rintro e w' ⟨rfl, rfl⟩
    exact ⟨rfl, Aside0.mk ⟨by rw [show sortI [] = [] from by unfold sortI; simp]; exact h, Eff.refl _ _⟩⟩
  · subst hv
    have hX : RowX encI 1 3 w1 base g cap xs := RowX.of_R (d := kdI) rfl (fun h => h) h
    have hH : Holds (Value.int .i64) w1 g 0 xs.toArray := by
      intro j hj
      have hj2 : j < xs.length := by simpa using hj
      refine ⟨?_, hX.free _⟩
      rw [Nat.zero_add]
      refine (hX.cells j (.int .i64 xs[j]) (by rw [flatI, List.getElem?_eq_getElem hj2]; rfl)).trans ?_
      congr 1
      simp [hj2]
    have hc := Go.Proofs.Tryz.slices_Sort_int g 0 cap xs w1 hH (by obtain ⟨cu, re, hh, _⟩ := hX.has; exact blk_lt hh) (by omega)
    refine hc.mono ?_
    rintro e w' ⟨rfl, n, os, rfl⟩
    have hsl : (sortI xs).length = xs.length := (sortI_perm xs).length_eq
    have hd : (xs.mergeSort (fun x y => decide (x ≤ y))).toArray.size = (sortI xs).length * 1 := by
      unfold sortI; simp
    have hX2 := rowX_sort1 (enc := encI) (k := 1) (f := Value.int .i64) (fun _ => rfl) hX n (xs.mergeSort (fun x y => decide (x ≤ y))).toArray os hsl hd (fun j hj => by
      rw [flatI]
      unfold sortI
      have hj2 : j < (xs.mergeSort (fun x y => decide (x ≤ y))).length := by simpa using hj
      simp only [List.getElem!_toArray, List.getElem!_eq_getElem?_getD, List.getElem?_eq_getElem hj2, Option.getD_some, Option.map_some])
    have hR : kdI.R 3 _ base ok (.slice (some ⟨g, 0, none⟩) (sortI xs).length cap) (sortI xs) := RowX.toR (d := kdI) rfl (fun _ => rfl) (fun _ _ _ _ => rfl) hX2 (h.1 g (by simp [Value.ownBlock]))
    rw [hsl] at hR
    exact ⟨rfl, Aside0.mk ⟨hR, (putRow_eff n _ os).mono (fun k hk => by subst hk; simp [Value.ownBlock])⟩⟩
/-- Each once. -/
theorem compactI_calls (base : Nat) (ok : Nat → Prop) (w1 : World) (v : Value) (xs : List Int) (h : kdI.R 3 w1 base ok v xs) (hl : xs.length < 900000) :
    Calls Tryz.prog 130 #[v] w1 fun e w' => ∃ v', e = .returned v' ∧ Aside0 (kdI.R 3 w' base ok v' (Go.Lib.compact xs) ∧ Eff (fun k => v.ownBlock = some k) w1 w' ∧ v'.ownBlock = v.ownBlock) := by
  rcases Kd.R_own h with ⟨inner, ho⟩
  rcases ho.2 with ⟨hv, h0⟩ | ⟨g, cap, cur, hv, hg, _⟩
  · have hnil : xs = [] := List.length_eq_zero_iff.mp h0
    subst hnil
    subst hv
    refine (Go.Proofs.Tryz.slices_Compact_int_empty none 0 w1).mono ?_
    rintro e w' ⟨rfl, rfl⟩
    exact ⟨_, rfl, Aside0.mk ⟨h, Eff.refl _ _, rfl⟩⟩
  · subst hv
    have hX : RowX encI 1 3 w1 base g cap xs := RowX.of_R (d := kdI) rfl (fun h => h) h
    have hH : Holds (Value.int .i64) w1 g 0 xs.toArray := by
      intro j hj
      have hj2 : j < xs.length := by simpa using hj
      refine ⟨?_, hX.free _⟩
      rw [Nat.zero_add]
      refine (hX.cells j (.int .i64 xs[j]) (by rw [flatI, List.getElem?_eq_getElem hj2]; rfl)).trans ?_
      congr 1
      simp [hj2]
    have hc := Go.Proofs.Tryz.slices_Compact_int g 0 cap xs w1 hH (by omega) hX.len
    refine hc.mono ?_
    rintro e w' ⟨rfl, q, rfl⟩
    have hle : (Go.Lib.compact xs).length ≤ xs.length := Go.Lib.compact_length_le xs
    obtain ⟨ys, hy⟩ : ∃ ys, ys = Go.Lib.compact xs ++ List.replicate (xs.length - (Go.Lib.compact xs).length) 0 := ⟨_, rfl⟩
    have hsl : ys.length = xs.length := by rw [hy, List.length_append, List.length_replicate]; omega
    rw [← hy]
    have hX2 := rowX_sort1 (enc := encI) (k := 1) (f := Value.int .i64) (fun _ => rfl) hX q ys.toArray #[] hsl (by simp) (fun j hj => by
      rw [flatI]
      have hj2 : j < ys.length := by simpa using hj
      simp only [List.getElem!_toArray, List.getElem!_eq_getElem?_getD, List.getElem?_eq_getElem hj2, Option.getD_some, Option.map_some])
    have hE := putRow_eff (f := Value.int .i64) (W := w1) (g := g) (off := 0) q ys.toArray #[]
    have hgr : ∀ w : World, grow w #[] = w := fun w => by simp [grow]
    rw [hgr] at hX2 hE
    have hX3 := RowX.take hX2 (Go.Lib.compact xs).length
    rw [hy, List.take_left] at hX3
    rw [← hy] at hX3
    have hR : kdI.R 3 _ base ok (.slice (some ⟨g, 0, none⟩) (Go.Lib.compact xs).length cap) (Go.Lib.compact xs) := RowX.toR (d := kdI) rfl (fun _ => rfl) (fun _ _ _ _ => rfl) hX3 (h.1 g (by simp [Value.ownBlock]))
    exact ⟨_, rfl, Aside0.mk ⟨hR, hE.mono (fun k hk => by subst hk; simp [Value.ownBlock]), by simp [Value.ownBlock]⟩⟩
end Go.Proofs.YtiagbkpggeglgaaGreat.RS
namespace Go.Proofs.YtiagbkpggeglgaaGreat.RS
open Go Go.RowKit Go.Proofs.YtiagbkpggeglgaaGreatW.PrintWords Go.Proofs.YtiagbkpggeglgaaGreatW.PrintLast Go.Proofs.YtiagbkpggeglgaaGreatW.PrintMore Go.Proofs.YtiagbkpggeglgaaGreat.L
set_option linter.unusedVariables false
set_option linter.unusedSimpArgs false
theorem Upd.appends {α : Type} {d : Kd α} {e : Nat} {v : Value} {xs : List α} {W w : World} {F : Nat → Prop} {S : HP} (h : Upd W F (Sep S (RowAt d e v xs)) w) :
    ∃ ok : Nat → Prop, d.R e w 0 ok v xs ∧ (∀ k, w.heap.size ≤ k → ok k) ∧ ∀ v1 w1 zs, d.R e w1 0 ok v1 zs → w.grownBy w1 v.ownBlock → Upd W F (Sep S (RowAt d e v1 zs)) w1 := by
  obtain ⟨F1, hS, e1, k1⟩ := h
  obtain ⟨F2, h2, k2, u2⟩ := Sep.focusR hS
  refine ⟨fun k => F2 k ∨ w.heap.size ≤ k, Kd.R_mono h2.1 (fun _ h => .inl h), fun _ h => .inr h, fun v1 w1 zs hR hg => ?_⟩
  have hU : Upd w F2 (RowAt d e v1 zs) w1 :=
    ⟨fun k => (F2 k ∨ w.heap.size ≤ k) ∧ k < w1.heap.size, ⟨Kd.R_mono (Kd.R_bound hR) (fun k hk => ⟨hk.1, hk.2.2.1⟩), fun k hk => hk.2⟩, Eff.of_grown hg (fun k hk => h2.1.1 k hk), fun k hk => hk.1⟩
  obtain ⟨F', h', ef, hk⟩ := u2 _ _ hU
  refine ⟨F', h', e1.trans ef k1, fun k hk' => ?_⟩
  rcases hk k hk' with h | h
  · exact k1 k h
  · exact .inr (Nat.le_trans e1.size h)
theorem infoInt : (Tryz.prog.info? 3).map (fun i => (i.zero, i.size, i.bytes)) = some (some (.int .i64 0), 1, 8) := by kernel_rfl
theorem cell_keep {w w' : World} (e : Eff0 w w') {a : Addr} {v : Value} (h : w.cell? a = some v) : w'.cell? a = some v := by
  have hb := e.block a.block (World.block_lt_of_cell? _ _ h) id
  rw [← h]
  unfold World.cell?
  rw [hb]
theorem PtsAt.keep {w w' : World} {B : Option Addr} {ps : List Pt} (h : PtsAt w B ps) (e : Eff0 w w') : PtsAt w' B ps := fun i hi => by
  obtain ⟨ad, h0, h1, h2, h3⟩ := h i hi
  exact ⟨ad, h0, cell_keep e h1, cell_keep e h2, cell_keep e h3⟩
abbrev UP (W : World) (v : Value) (out : List Int) (w : World) : Prop := Aside0 (Upd W (fun _ => False) (Sep Emp (RowAt kdI 3 v out)) w)
theorem up_eff {W w : World} {v : Value} {out : List Int} (u : UP W v out w) : Eff0 W w := by
  obtain ⟨_, _, e, _⟩ := u.out
  exact e
theorem up_row {W w : World} {v : Value} {out : List Int} (u : UP W v out w) : ∃ A c, v = .slice A out.length c := by
  obtain ⟨_, ⟨G1, G2, _, g2, _⟩, _⟩ := u.out
  obtain ⟨A, c, hv, _⟩ := RowAt.reads g2
  exact ⟨A, c, hv⟩
theorem up_nil (W : World) : UP W (.slice none 0 0) [] W := Aside0.mk (Upd.new (S := Emp) (F := fun _ => False) (fun _ h => h) (Eff.refl _ _) (F' := fun _ => False) (N := RowAt kdI 3 (.slice none 0 0) []) ⟨Kd.R_nil _ _ _ _ _, fun _ h => h.elim⟩ (fun _ h => h.elim))
theorem grown_eff {w w' : World} {row : Option Nat} (e : Eff (fun k => row = some k) w w') : w.grownBy w' row := ⟨e.os, e.tape, e.output, e.size, fun i hi hne => e.block i hi (fun h => hne h.symm)⟩
theorem up_sort {W w : World} {v : Value} {out : List Int} (u : UP W v out w) (hl : out.length < 900000) : Calls Tryz.prog 129 #[v] w fun e w' => e = .returned (.tuple #[]) ∧ UP W v (sortI out) w' := by
  obtain ⟨ok, hR, hok, hgo⟩ := Upd.appends u.out
  refine (sortI_calls 0 ok w v out hR hl).mono ?_
  rintro e w' ⟨rfl, A⟩
  exact ⟨rfl, Aside0.mk (hgo v w' _ A.out.1 (grown_eff A.out.2))⟩
theorem up_compact {W w : World} {v : Value} {out : List Int} (u : UP W v out w) (hl : out.length < 900000) : Calls Tryz.prog 130 #[v] w fun e w' => ∃ v', e = .returned v' ∧ UP W v' (Go.Lib.compact out) w' := by
  obtain ⟨ok, hR, hok, hgo⟩ := Upd.appends u.out
  refine (compactI_calls 0 ok w v out hR hl).mono ?_
  rintro e w' ⟨v', rfl, A⟩
  exact ⟨v', rfl, Aside0.mk (hgo v' w' _ A.out.1 (grown_eff A.out.2.1))⟩
/-- The pages that a record touches. -/
def touchF (ps : List Pt) : List Int := Go.Lib.compact (sortI (ps.map (·.1)))
set_option maxHeartbeats 1600000 in
set_option maxRecDepth 100000 in
theorem touches_calls (W : World) (kd tx pv nx : Int) (key : ByteArray) (had : Bool) (ck cv : ByteArray) (cb cs : Int) (A : Option Addr) (na ca : Nat) (B : Option Addr) (cB : Nat) (C : Option Addr) (nc cc : Nat) (D : Option Addr) (nd cd : Nat) (ps : List Pt) (hP : PtsAt W B ps) (hl : ps.length < 900000) :
    Calls Tryz.prog 96 #[.agg #[.int .i64 kd, .int .i64 tx, .int .i64 pv, .int .i64 nx, .string key, .bool had, .string ck, .string cv, .int .i64 cb, .int .i64 cs, .slice A na ca, .slice B ps.length cB, .slice C nc cc, .slice D nd cd]] W fun e w' => ∃ v, e = .returned v ∧ UP W v (touchF ps) w' := by
  have HP := Aside0.mk hP
  clear hP
  go_enter Tryz.func96, Tryz.ntmps96
  go_wp2_with fail
  go_loopg [3, 9] ps.length (fun k s3 s9 wr => ∃ (i : Nat) (A3 : Option Addr) (c3 : Nat) (out : List Int), s3 = .slice A3 out.length c3 ∧ s9 = .int .i64 (i : Int) ∧ i + k = ps.length ∧ Aside0 (out = (ps.take i).map (·.1)) ∧ UP W (.slice A3 out.length c3) out wr)
  case atStart => exact ⟨0, none, 0, [], rfl, rfl, by omega, Aside0.mk rfl, Aside0.mk ((up_nil W).out.after ((Eff.refl _ _).alloc _))⟩
  case round =>
    obtain ⟨i, A3, c3, out, rfl, rfl, hik, HO, U1⟩ := hrel
    by_cases hi : i < ps.length
    · have p1 : ((i : Int) < (ps.length : Int)) = True := eq_true (by omega)
      have p2 : (0 : Int) ≤ (i : Int) := by omega
      obtain ⟨ad, rfl, x0, x1, x2⟩ := HP.out.keep (up_eff U1) i hi
      obtain ⟨pg, hpg⟩ : ∃ pg, pg = (ps.getD i default).1 := ⟨_, rfl⟩
      rw [← hpg] at x0
      have hnx : (ps.take (i + 1)).map (·.1) = (ps.take i).map (·.1) ++ [pg] := by
        rw [List.take_add_one, List.map_append, hpg, List.getD_eq_getElem?_getD]
        simp [hi]
      have HX := Aside0.mk hnx
      have hol : out.length = i := by rw [HO.out, List.length_map, List.length_take]; omega
      have HI := Aside0.mk (And.intro hi (And.intro hik hol))
      have hii : i < 900000 := by omega
      clear hnx hpg hol hi hik
      have U2 : UP W (.slice A3 out.length c3) out (wr.alloc (.cells #[.int .i64 pg, .int .i64 (ps.getD i default).2.1, .string (ps.getD i default).2.2] 77)) := Aside0.mk (U1.out.after ((Eff.refl _ _).alloc _))
      obtain ⟨ok, hR, hok, hgo⟩ := Upd.appends U2.out
      have HGO := Aside0.mk (And.intro hR (And.intro hok hgo))
      have HLO := Aside0.mk (show (out.length + 1) * 8 ≤ 140737488355328 by have := HI.out; omega)
      clear hR hok hgo U2
      go_wp2_with (at_builtin; go_loud (refine Kd.R_append (Kd.int .i64) (W := wr.alloc (.cells #[.int .i64 pg, .int .i64 (ps.getD i default).2.1, .string (ps.getD i default).2.2] 77)) (w0 := wr.alloc (.cells #[.int .i64 pg, .int .i64 (ps.getD i default).2.1, .string (ps.getD i default).2.2] 77)) 0 rfl (.tmp 13) (.tmp 16) 39 3 (.int .i64 0) 8 rfl Tryz.underlying39 infoInt rfl (by decide) (by decide) (.slice A3 out.length c3) out pg [.int .i64 pg] ok (fun _ => False) rfl (by simp [Act.eval, Act.put]) rfl (fun _ hk => hk.elim) HGO.out.2.1 HGO.out.1 (Below.refl _ _) (Nat.zero_le _) HLO.out ?_); intro v1 w8 r1 b1 h1 k1; have H8 := Aside0.mk (HGO.out.2.2 v1 w8 _ r1 h1); clear r1 b1 h1 k1)
      go_roundg (gk - 1)
      case measure => have := HI.out; omega
      case rel =>
        obtain ⟨A8, c8, hv⟩ := up_row H8
        subst hv
        exact ⟨i + 1, A8, c8, out ++ [pg], rfl, by simp, by have := HI.out; omega, Aside0.mk (by rw [HX.out, HO.out]), H8⟩
    · have p1 : ((i : Int) < (ps.length : Int)) = False := eq_false (by omega)
      obtain rfl : i = ps.length := by omega
      have ho : out = ps.map (·.1) := by rw [HO.out, List.take_length]
      have hol : out.length < 900000 := by rw [ho, List.length_map]; exact hl
      have CS := Aside0.mk (up_sort U1 hol)
      have HC := Aside0.mk (fun (w : World) (u : UP W (.slice A3 out.length c3) (sortI out) w) => up_compact u (by rw [(sortI_perm out).length_eq]; exact hol))
      have HF := Aside0.mk (show Go.Lib.compact (sortI out) = touchF ps by rw [ho]; rfl)
      clear hi hik ho hol
      go_wp2_with (first
        | (go_at_call 129; refine CS.out.mono ?_; rintro e w5 ⟨rfl, U5⟩; have CC := Aside0.mk (HC.out w5 U5))
        | (go_at_call 130; refine CC.out.mono ?_; rintro e w6 ⟨v6, rfl, U6⟩))
      go_ret
      exact ⟨v6, rfl, by rw [← HF.out]; exact U6⟩
theorem Own.touched {w0 W W' : World} {l : List HP} {v : Value} {out : List Int} (o : Own w0 W (Stars l)) (u : UP W v out W') : Own w0 W' (Stars (l ++ [RowAt kdI 3 v out])) := by
  obtain ⟨F, ⟨G1, G2, _, g2, _, hF⟩, e, hk⟩ := u.out
  exact Own.addAt (o.new e g2 (fun k hk2 => (hk k ((hF k).2 (.inr hk2))).resolve_left (fun h => h.elim)))
end Go.Proofs.YtiagbkpggeglgaaGreat.RS
namespace Go.Proofs.YtiagbkpggeglgaaGreat.RS
open Go Go.RowKit Go.Proofs.YtiagbkpggeglgaaGreatW.PrintWords Go.Proofs.YtiagbkpggeglgaaGreatW.PrintLast Go.Proofs.YtiagbkpggeglgaaGreatW.PrintMore Go.Proofs.YtiagbkpggeglgaaGreat.L
set_option linter.unusedVariables false
set_option linter.unusedSimpArgs false
open Go.Sort
def lessI (x y : Int) : Bool := decide (x < y)
theorem cmpI_lt (x y : Int) : decide (Lib.compareInt x y < 0) = decide (x < y) := by
  unfold Lib.compareInt
  by_cases h1 : x < y
  · simp [h1]
  · by_cases h2 : y < x
    · simp [h1, h2]
    · simp [h1, h2]
abbrev cfT (x y : Tv) : Int := Lib.compareInt x.tx y.tx
abbrev cfD (x y : Int × Int) : Int := Lib.compareInt x.1 y.1
theorem ltT (x y : Tv) : ltOf cfT x y = decide (x.tx < y.tx) := cmpI_lt _ _
theorem ltD (x y : Int × Int) : ltOf cfD x y = decide (x.1 < y.1) := cmpI_lt _ _
theorem swoT : SWO (ltOf cfT) where
  irrefl x := by rw [ltT]; simp
  trans x y z h1 h2 := by rw [ltT] at *; simp only [decide_eq_true_eq] at *; omega
  ntrans x y z h1 h2 := by rw [ltT] at *; simp only [decide_eq_false_iff_not] at *; omega
theorem swoD : SWO (ltOf cfD) where
  irrefl x := by rw [ltD]; simp
  trans x y z h1 h2 := by rw [ltD] at *; simp only [decide_eq_true_eq] at *; omega
  ntrans x y z h1 h2 := by rw [ltD] at *; simp only [decide_eq_false_iff_not] at *; omega
set_option maxHeartbeats 1600000 in
theorem closureT (x y : Tv) (W : World) : Calls Tryz.prog 98 #[x.v, y.v] W fun e w' => e = .returned (.int .i64 (cfT x y)) ∧ ∃ q os', w' = grow (W.drewN q) os' := by
  obtain ⟨a, b, c, d, e, f⟩ := x
  obtain ⟨a', b', c', d', e', f'⟩ := y
  dsimp only [Tv.v, cfT]
  have hcon := fun W' => Tryz.cmp_Compare_int a a' W'
  generalize Lib.compareInt a a' = r at hcon ⊢
  go_enter Tryz.func98, Tryz.ntmps98
  go_wp2_with (go_at_call 99; refine (hcon _).mono ?_; rintro e w' ⟨rfl, rfl⟩)
  go_ret
  exact ⟨rfl, 0, _, by rw [alloc_eq_grow, alloc_eq_grow, grow_grow]; rfl⟩
set_option maxHeartbeats 1600000 in
theorem closureD (x y : Int × Int) (W : World) : Calls Tryz.prog 101 #[.agg #[.int .i64 x.1, .int .i64 x.2], .agg #[.int .i64 y.1, .int .i64 y.2]] W fun e w' => e = .returned (.int .i64 (cfD x y)) ∧ ∃ q os', w' = grow (W.drewN q) os' := by
  obtain ⟨a, b⟩ := x
  obtain ⟨a', b'⟩ := y
  dsimp only [cfD]
  have hcon := fun W' => Tryz.cmp_Compare_int a a' W'
  generalize Lib.compareInt a a' = r at hcon ⊢
  go_enter Tryz.func101, Tryz.ntmps101
  go_wp2_with (go_at_call 99; refine (hcon _).mono ?_; rintro e w' ⟨rfl, rfl⟩)
  go_ret
  exact ⟨rfl, 0, _, by rw [alloc_eq_grow, alloc_eq_grow, grow_grow]; rfl⟩
theorem cmpT (blk off size : Nat) (w : World) : CmpLays Tryz.prog 98 #[] encT 4 cfT blk off size w := fun _ _ _ _ x y => closureT x y _
theorem cmpD (blk off size : Nat) (w : World) : CmpLays Tryz.prog 101 #[] encD 2 cfD blk off size w := fun _ _ _ _ x y => closureD x y _
theorem kdOf_M {α : Type} {k : Nat} {enc : α → List Value} {hl : ∀ x, (enc x).length = k} {h1 : ∀ x, ∀ u ∈ enc x, u.oneCell' = true} {w : World} {base : Nat} {ok : Nat → Prop} {x : α} {cs : List Value} (h : (kdOf k enc hl h1).M w base ok x cs) : cs = enc x := h
theorem sortT_calls (base : Nat) (ok : Nat → Prop) (w1 : World) (v : Value) (xs : List Tv) (h : kdT.R 85 w1 base ok v xs) (hl : xs.length < 900000) :
    Calls Tryz.prog 97 #[v, .func (.func 98) #[] #[]] w1 fun e w' => e = .returned (.tuple #[]) ∧ Aside0 (∃ ys, xs.Perm ys ∧ ys.Pairwise (fun a b => a.tx ≤ b.tx) ∧ kdT.R 85 w' base ok v ys ∧ Eff (fun k => v.ownBlock = some k) w1 w') := by
  rcases Kd.R_own h with ⟨inner, ho⟩
  rcases ho.2 with ⟨hv, h0⟩ | ⟨g, cap, cur, hv, hg, _⟩
  · have hnil : xs = [] := List.length_eq_zero_iff.mp h0
    subst hnil
    subst hv
    have hcon := AnyF.slices_SortFunc_none Tryz.sortTx none 0 (.func (.func 98) #[] #[]) w1
    change Calls Tryz.prog 97 _ _ _ at hcon
    refine hcon.mono ?_
    rintro e w' ⟨rfl, rfl⟩
    exact ⟨rfl, Aside0.mk ⟨[], List.Perm.refl _, List.Pairwise.nil, h, Eff.refl _ _⟩⟩
  · subst hv
    have eg : ∀ args w, (callFunc 98 args).run Tryz.prog w = .ok (.enter 98 args) w := enters_of Tryz.func98 (by kernel_rfl) rfl
    have hX : RowX encT 4 85 w1 base g cap xs := RowX.of_R (d := kdT) rfl (fun h => kdOf_M h) h
    have hH : HoldsK encT 4 w1 g 0 xs.toArray := holds_of_R (d := kdT) rfl (by decide) (fun h => kdOf_M h) h
    have hgl : g < w1.heap.size := Kd.R_lt h g (by simp [Value.ownBlock])
    have hcon := AnyQ.slices_SortFunc Tryz.sortTx 4 Tryz.isAgg85 Tryz.sizeOf85 encT (fun _ => rfl) (fun x v hv => by simp [encT] at hv; rcases hv with rfl | rfl | rfl | rfl <;> rfl) cfT swoT 98 #[] g 0 cap xs.toArray w1 eg (cmpT g 0 xs.toArray.size w1) hH hgl (by simp; omega)
    change Calls Tryz.prog 97 _ _ _ at hcon
    refine hcon.mono ?_
    rintro e w' ⟨rfl, d, n, os, hp, hs, rfl⟩
    obtain ⟨p1, p2⟩ := perm_list hp
    have p2' : d.size = xs.length := by rw [p2]; rfl
    have hR : kdT.R 85 _ base ok (.slice (some ⟨g, 0, none⟩) d.toList.length cap) d.toList := RowX.toR (d := kdT) rfl (fun _ => rfl) (fun _ _ _ _ => rfl) (rowX_sortK (enc := encT) (k := 4) (fun _ => rfl) (by decide) hX n d os p2') (h.1 g (by simp [Value.ownBlock]))
    rw [Array.length_toList, p2'] at hR
    have h2 := sorted_list (b := d) (by rw [p2]; exact hs)
    exact ⟨rfl, Aside0.mk ⟨d.toList, p1, h2.imp (fun {a b} h3 => by rw [ltT] at h3; have := of_decide_eq_false h3; omega), hR, sort_eff.mono (fun k hk => by subst hk; simp [Value.ownBlock])⟩⟩
theorem sortD_calls (base : Nat) (ok : Nat → Prop) (w1 : World) (v : Value) (xs : List (Int × Int)) (h : kdD.R 87 w1 base ok v xs) (hl : xs.length < 900000) :
    Calls Tryz.prog 100 #[v, .func (.func 101) #[] #[]] w1 fun e w' => e = .returned (.tuple #[]) ∧ Aside0 (∃ ys, xs.Perm ys ∧ ys.Pairwise (fun a b => a.1 ≤ b.1) ∧ kdD.R 87 w' base ok v ys ∧ Eff (fun k => v.ownBlock = some k) w1 w') := by
  rcases Kd.R_own h with ⟨inner, ho⟩
  rcases ho.2 with ⟨hv, h0⟩ | ⟨g, cap, cur, hv, hg, _⟩
  · have hnil : xs = [] := List.length_eq_zero_iff.mp h0
    subst hnil
    subst hv
    have hcon := AnyF.slices_SortFunc_none Tryz.sortDi none 0 (.func (.func 101) #[] #[]) w1
    change Calls Tryz.prog 100 _ _ _ at hcon
    refine hcon.mono ?_
    rintro e w' ⟨rfl, rfl⟩
    exact ⟨rfl, Aside0.mk ⟨[], List.Perm.refl _, List.Pairwise.nil, h, Eff.refl _ _⟩⟩
  · subst hv
    have eg : ∀ args w, (callFunc 101 args).run Tryz.prog w = .ok (.enter 101 args) w := enters_of Tryz.func101 (by kernel_rfl) rfl
    have hX : RowX encD 2 87 w1 base g cap xs := RowX.of_R (d := kdD) rfl (fun h => kdOf_M h) h
    have hH : HoldsK encD 2 w1 g 0 xs.toArray := holds_of_R (d := kdD) rfl (by decide) (fun h => kdOf_M h) h
    have hgl : g < w1.heap.size := Kd.R_lt h g (by simp [Value.ownBlock])
    have hcon := AnyQ.slices_SortFunc Tryz.sortDi 2 Tryz.isAgg87 Tryz.sizeOf87 encD (fun _ => rfl) (fun x v hv => by simp [encD] at hv; rcases hv with rfl | rfl <;> rfl) cfD swoD 101 #[] g 0 cap xs.toArray w1 eg (cmpD g 0 xs.toArray.size w1) hH hgl (by simp; omega)
    change Calls Tryz.prog 100 _ _ _ at hcon
    refine hcon.mono ?_
    rintro e w' ⟨rfl, d, n, os, hp, hs, rfl⟩
    obtain ⟨p1, p2⟩ := perm_list hp
    have p2' : d.size = xs.length := by rw [p2]; rfl
    have hR : kdD.R 87 _ base ok (.slice (some ⟨g, 0, none⟩) d.toList.length cap) d.toList := RowX.toR (d := kdD) rfl (fun _ => rfl) (fun _ _ _ _ => rfl) (rowX_sortK (enc := encD) (k := 2) (fun _ => rfl) (by decide) hX n d os p2') (h.1 g (by simp [Value.ownBlock]))
    rw [Array.length_toList, p2'] at hR
    have h2 := sorted_list (b := d) (by rw [p2]; exact hs)
    exact ⟨rfl, Aside0.mk ⟨d.toList, p1, h2.imp (fun {a b} h3 => by rw [ltD] at h3; have := of_decide_eq_false h3; omega), hR, sort_eff.mono (fun k hk => by subst hk; simp [Value.ownBlock])⟩⟩
end Go.Proofs.YtiagbkpggeglgaaGreat.RS
namespace Go.Proofs.YtiagbkpggeglgaaGreat.RS
open Go Go.RowKit Go.Proofs.YtiagbkpggeglgaaGreatW.PrintWords Go.Proofs.YtiagbkpggeglgaaGreatW.PrintLast Go.Proofs.YtiagbkpggeglgaaGreatW.PrintMore Go.Proofs.YtiagbkpggeglgaaGreat.L
set_option linter.unusedVariables false
set_option linter.unusedSimpArgs false
section
variable {P : Program} {f : FuncId} {args : Array Value} {w0 W W' : World} {S T R N : HP} {r : Value} {Rs : List HP} {l : List HP}
theorem Own.init (o : Own w0 W (Stars (l ++ [N]))) : Own w0 W (Stars l) := Own.left (o.imp (fun _ h => Stars.append h))
theorem Own.last (o : Own w0 W (Stars (l ++ [N]))) : Own w0 W N := (Own.right (o.imp (fun _ h => Stars.append h))).imp (fun _ h => Stars.ofOne h)
theorem Own.lastSet {N' : HP} (o : Own w0 W (Stars (l ++ [N]))) (c : ∀ F, N.on W F → Upd W F N' W') : Own w0 W' (Stars (l ++ [N'])) :=
  Own.imp (Own.upd (S' := Sep (Stars l) N') (o.imp (T := Sep (Stars l) N) (fun _ h => Sep.imp (Stars.append h) (fun _ h => h) (fun _ h => Stars.ofOne h))) (fun _ hF => Upd.right hF c)) (fun _ h => Stars.add h)
theorem Own.cellsNewN {n : Nat} (o : Own w0 W (Stars l)) (hn : W.heap.size = n) (cs : Array Value) (t : Nat) : Own w0 (W.alloc (.cells cs t)) (Stars (l ++ [CellsAt n cs t])) := by
  subst hn
  exact Own.cellsNew o cs t
end
theorem cell_below {w w' : World} (e : Below w.heap.size w w') {a : Addr} {v : Value} (h : w.cell? a = some v) : w'.cell? a = some v := by
  have hb := e.block a.block (World.block_lt_of_cell? _ _ h)
  rw [← h]
  unfold World.cell?
  rw [hb]
/-- What lies in the world in which all began lies there still. -/
theorem Own.pts {w0 W : World} {S : HP} {B : Option Addr} {ps : List Pt} (o : Own w0 W S) (h : PtsAt w0 B ps) : PtsAt W B ps := fun i hi => by
  obtain ⟨ad, h0, h1, h2, h3⟩ := h i hi
  exact ⟨ad, h0, cell_below o.below h1, cell_below o.below h2, cell_below o.below h3⟩
theorem at_I {w : World} {A : Option Addr} {n : Nat} {xs : List Int} (h : kdI.C w A n xs) (i : Nat) (h1 : i < n) : ∃ ad, A = some ad ∧ w.cell? (ad.add i) = some (.int .i64 (xs.getD i default)) := by
  obtain ⟨ad, c, e, _, hK, hc0⟩ := Kd.C_get h (default : Int) (i : Int) (by omega) (by omega)
  have hc : ∀ j u, c[j]? = some u → w.cell? (ad.add (i * 1 + j)) = some u := hc0
  have hK2 : c = [.int .i64 (xs.getD i default)] := hK
  subst hK2
  have := hc 0 _ rfl
  rw [Nat.mul_one, Nat.add_zero] at this
  exact ⟨ad, e, this⟩
/-! ### what was read so far, among other things -/
section
variable {w0 W W' : World} {b : Nat} {s : Sg} {us : List Tv} {Rs : List HP}
abbrev St (b : Nat) (s : Sg) (us : List Tv) (Rs : List HP) : HP := Stars (SgAt b s :: PgsAt us :: Rs)
theorem Own.dirt (o : Own w0 W (St b s us Rs)) (n lsn : Int) :
    Calls Tryz.prog 37 #[.pointer (some ⟨b, 0, none⟩), .int .i64 n, .int .i64 lsn] W fun e w' => e = .returned (.tuple #[]) ∧ Own w0 w' (St b ⟨s.mt, s.md, s.t, dirtF s.d n lsn⟩ us Rs) := by
  refine (Own.callAt (X := Unit) (S' := fun _ => SgAt b ⟨s.mt, s.md, s.t, dirtF s.d n lsn⟩) (E := fun _ e _ => e = .returned (.tuple #[])) o 0 rfl (fun F h => (dirt_calls b s W F n lsn h).mono (fun e w' ⟨h1, h2⟩ => ⟨(), h1, h2⟩))).mono ?_
  rintro e w' ⟨_, h1, h2⟩
  exact ⟨h1, h2⟩
theorem Own.sgFacts (o : Own w0 W (St b s us Rs)) : W.cell? ⟨b, 0, none⟩ = some (.map (some s.mt)) ∧ W.cell? ⟨b, 1, none⟩ = some (.map (some s.md)) := by
  obtain ⟨F, h⟩ := o.fact 0 rfl
  exact ⟨(SgAt.facts h).1, (SgAt.facts h).2.1⟩
theorem Own.lookT (o : Own w0 W (St b s us Rs)) (k : Int) : (Instr.lookup 92 (.map (some s.mt)) (.int .i64 k) false).run Tryz.prog W = .ok (getT s.t k).v W := by
  obtain ⟨F, h⟩ := o.fact 0 rfl
  exact SgAt.lookT h k
theorem Own.putT (o : Own w0 W (St b s us Rs)) (k : Int) (v : Tv) {us' : List Tv} (hu : ∀ u ∈ us', u.p = [] ∨ ∃ t ∈ us, t.A = u.A ∧ t.p = u.p) : ∃ w', (Instr.mapUpdate 92 (.map (some s.mt)) (.int .i64 k) v.v).run Tryz.prog W = .ok () w' ∧ Own w0 w' (St b ⟨s.mt, s.md, RS.putT s.t k v, s.d⟩ us' Rs) := by
  obtain ⟨hb, F, hF, hw⟩ := o
  obtain ⟨F1, h1, k1, u1⟩ := Sep.focus hF
  obtain ⟨w', hrun, hU⟩ := SgAt.putT h1 k v
  obtain ⟨F', h', ef, hk⟩ := u1 _ _ hU
  have o2 : Own w0 w' (St b ⟨s.mt, s.md, RS.putT s.t k v, s.d⟩ us Rs) := ⟨below_eff hb (Nat.le_refl _) ef hw, F', h', fun i hi => (hk i hi).elim (hw i) (fun h => Nat.le_trans hb.size h)⟩
  exact ⟨w', hrun, Own.impAt (S' := PgsAt us') o2 1 rfl (fun _ h => PgsAt.of h hu)⟩
theorem Own.delT (o : Own w0 W (St b s us Rs)) (k : Int) : ∃ w', (∀ ty, (Builtin.delete_ #[92, 3] ty #[.map (some s.mt), .int .i64 k]).run Tryz.prog W = .ok (.tuple #[]) w') ∧ Own w0 w' (St b ⟨s.mt, s.md, RS.delT s.t k, s.d⟩ us Rs) := by
  obtain ⟨hb, F, hF, hw⟩ := o
  obtain ⟨F1, h1, k1, u1⟩ := Sep.focus hF
  obtain ⟨w', hrun, hU⟩ := SgAt.delT h1 k
  obtain ⟨F', h', ef, hk⟩ := u1 _ _ hU
  exact ⟨w', hrun, below_eff hb (Nat.le_refl _) ef hw, F', h', fun i hi => (hk i hi).elim (hw i) (fun h => Nat.le_trans hb.size h)⟩
end
theorem putT_mem {l : List (Int × Tv)} {k : Int} {v u : Tv} (h : u ∈ (putT l k v).map (·.2)) : u = v ∨ u ∈ l.map (·.2) := by
  obtain ⟨p, hp, rfl⟩ := List.mem_map.1 h
  unfold putT at hp
  split at hp
  · obtain ⟨q, hq, rfl⟩ := List.mem_map.1 hp
    split
    · exact .inl rfl
    · exact .inr (List.mem_map.2 ⟨q, hq, rfl⟩)
  · rcases List.mem_append.1 hp with hp | hp
    · exact .inr (List.mem_map.2 ⟨p, hp, rfl⟩)
    · rw [List.mem_singleton.1 hp]
      exact .inl rfl
theorem getT_mem (l : List (Int × Tv)) (k : Int) : (getT l k).p = [] ∨ getT l k ∈ l.map (·.2) := by
  unfold getT
  cases hf : l.find? (fun p => decide (p.1 = k)) with
  | none => exact .inl rfl
  | some p => exact .inr (List.mem_map.2 ⟨p, List.mem_of_find?_eq_some hf, rfl⟩)
theorem delT_mem {l : List (Int × Tv)} {k : Int} {u : Tv} (h : u ∈ (delT l k).map (·.2)) : u ∈ l.map (·.2) := by
  obtain ⟨p, hp, rfl⟩ := List.mem_map.1 h
  exact List.mem_map.2 ⟨p, (List.mem_filter.1 hp).1, rfl⟩
/-! ### records -/
structure Rc where
  kd : Int
  tx : Int
  pv : Int
  nx : Int
  key : ByteArray
  had : Bool
  ck : ByteArray
  cv : ByteArray
  cb : Int
  cs : Int
  gA : Option Addr
  gc : Nat
  gs : List Int
  pA : Option Addr
  pc : Nat
  ps : List Pt
  tA : Option Addr
  tc : Nat
  ts : List Tv
  dA : Option Addr
  dc : Nat
  ds : List (Int × Int)
deriving Inhabited
abbrev encR (r : Rc) : List Value := [.int .i64 r.kd, .int .i64 r.tx, .int .i64 r.pv, .int .i64 r.nx, .string r.key, .bool r.had, .string r.ck, .string r.cv, .int .i64 r.cb, .int .i64 r.cs, .slice r.gA r.gs.length r.gc, .slice r.pA r.ps.length r.pc, .slice r.tA r.ts.length r.tc, .slice r.dA r.ds.length r.dc]
abbrev Rc.v (r : Rc) : Value := .agg #[.int .i64 r.kd, .int .i64 r.tx, .int .i64 r.pv, .int .i64 r.nx, .string r.key, .bool r.had, .string r.ck, .string r.cv, .int .i64 r.cb, .int .i64 r.cs, .slice r.gA r.gs.length r.gc, .slice r.pA r.ps.length r.pc, .slice r.tA r.ts.length r.tc, .slice r.dA r.ds.length r.dc]
abbrev Rc.cells (r : Rc) : Array Value := #[.int .i64 r.kd, .int .i64 r.tx, .int .i64 r.pv, .int .i64 r.nx, .string r.key, .bool r.had, .string r.ck, .string r.cv, .int .i64 r.cb, .int .i64 r.cs, .slice r.gA r.gs.length r.gc, .slice r.pA r.ps.length r.pc, .slice r.tA r.ts.length r.tc, .slice r.dA r.ds.length r.dc]
structure RcAt (W : World) (r : Rc) : Prop where
  g : kdI.C W r.gA r.gs.length r.gs
  p : kdPt.C W r.pA r.ps.length r.ps
  t : kdT.C W r.tA r.ts.length r.ts
  tp : ∀ t ∈ r.ts, kdI.C W t.A t.p.length t.p ∧ t.p.length ≤ 17592186043904
  d : kdD.C W r.dA r.ds.length r.ds
  gl : r.gs.length ≤ 17592186043904
  pl : r.ps.length < 900000
/-- What becomes of those that are known. -/
def readT (t : List (Int × Tp)) (lsn : Int) (r : Rc) : List (Int × Tp) :=
  if r.kd = 5 then delP t r.tx else if r.kd = 4 then putP t r.tx ⟨r.tx, lsn, true, r.gs⟩ else if r.kd = 1 ∨ r.kd = 2 ∨ r.kd = 6 then putP t r.tx ⟨r.tx, lsn, (getP t r.tx).com, (getP t r.tx).p⟩ else t
/-- The state tells s, its pages lie there. -/
structure Tells (s : Sg) (us : List Tv) (t : List (Int × Tp)) : Prop where
  t : abL s.t = t
  u : ∀ u ∈ s.t.map (·.2), u.p = [] ∨ ∃ t ∈ us, t.A = u.A ∧ t.p = u.p
theorem Tells.get {s : Sg} {us : List Tv} {t : List (Int × Tp)} (h : Tells s us t) (k : Int) : ((getT s.t k).p = [] ∨ ∃ t ∈ us, t.A = (getT s.t k).A ∧ t.p = (getT s.t k).p) ∧ (getT s.t k).ab = getP t k := by
  refine ⟨?_, by rw [← h.t]; exact ab_get _ _⟩
  rcases getT_mem s.t k with h1 | h1
  · exact .inl h1
  · exact h.u _ h1
theorem Tells.put {s : Sg} {us us' : List Tv} {t : List (Int × Tp)} (h : Tells s us t) (k : Int) {v : Tv} (hv : v.p = [] ∨ ∃ t ∈ us', t.A = v.A ∧ t.p = v.p) (hs : ∀ u ∈ us, u ∈ us') : Tells ⟨s.mt, s.md, putT s.t k v, s.d⟩ us' (putP t k v.ab) := by
  refine ⟨by rw [← h.t]; exact ab_put _ _ _, fun u hu => ?_⟩
  rcases putT_mem hu with rfl | hu
  · exact hv
  · rcases h.u u hu with h1 | ⟨t, ht, h2⟩
    · exact .inl h1
    · exact .inr ⟨t, hs t ht, h2⟩
theorem Tells.del {s : Sg} {us : List Tv} {t : List (Int × Tp)} (h : Tells s us t) (k : Int) : Tells ⟨s.mt, s.md, delT s.t k, s.d⟩ us (delP t k) :=
  ⟨by rw [← h.t]; exact ab_del _ _, fun u hu => h.u u (delT_mem hu)⟩
theorem C_below_own {w0 W : World} {S : HP} (o : Own w0 W S) {A : Option Addr} {n : Nat} {xs : List Int} (h : kdI.C w0 A n xs) : kdI.C W A n xs := Kd.C_below h o.below
/-- slices.Clone at numbers, beside what is owned. -/
theorem clone_own {w0 W : World} {l : List HP} {A : Option Addr} {xs : List Int} (o : Own w0 W (Stars l)) (h : kdI.C W A xs.length xs) (c : Nat) (hm : xs.length ≤ 17592186043904) :
    Calls Tryz.prog 36 #[.slice A xs.length c] W fun e w' => ∃ A' c', e = .returned (.slice A' xs.length c') ∧ ∀ tx last com, Aside0 (Own w0 w' (Stars (l ++ [PgsAt [⟨tx, last, com, A', c', xs⟩]]))) := by
  refine (clone_calls W A c xs h hm).mono ?_
  rintro e w' ⟨v, rfl, hR, hb⟩
  have o1 := Own.addAt (Own.newRow (e := 3) o hb hR)
  obtain ⟨A', c', hv, _, hC⟩ := Own.row (Own.last o1)
  refine ⟨A', c', by rw [hv], fun tx last com => Aside0.mk (Own.lastSet o1 (fun F hF => ?_))⟩
  obtain ⟨A2, c2, hv2, hP⟩ := PgsAt.row hF tx last com
  rw [hv] at hv2
  injection hv2 with e1 _ e2
  subst e1 e2
  exact ⟨F, hP, Eff.refl _ _, fun _ h => .inl h⟩
theorem Own.swapLast {w0 W : World} {l : List HP} {M N : HP} (o : Own w0 W (Stars ((l ++ [M]) ++ [N]))) : Own w0 W (Stars ((l ++ [N]) ++ [M])) := o.perm (by
  rw [List.append_assoc, List.append_assoc]
  exact List.Perm.append_left _ (List.Perm.swap _ _ _))
theorem Own.mergeP {w0 W : World} {b : Nat} {s : Sg} {us vs : List Tv} {Rs : List HP} (o : Own w0 W (Stars ((SgAt b s :: PgsAt us :: Rs) ++ [PgsAt vs]))) : Own w0 W (St b s (us ++ vs) Rs) := by
  have o1 : Own w0 W (Stars (SgAt b s :: PgsAt us :: PgsAt vs :: Rs)) := o.perm (List.Perm.cons _ (List.Perm.cons _ List.perm_append_comm))
  exact o1.imp (fun F h => Sep.imp h (fun _ h => h) (fun _ h2 => Sep.imp (Sep.assoc' h2) (fun _ h3 => PgsAt.app h3) (fun _ h3 => h3)))
end Go.Proofs.YtiagbkpggeglgaaGreat.RS
namespace Go.Proofs.YtiagbkpggeglgaaGreat.RS
open Go Go.RowKit Go.Proofs.YtiagbkpggeglgaaGreatW.PrintWords Go.Proofs.YtiagbkpggeglgaaGreatW.PrintLast Go.Proofs.YtiagbkpggeglgaaGreatW.PrintMore Go.Proofs.YtiagbkpggeglgaaGreat.L
set_option linter.unusedVariables false
set_option linter.unusedSimpArgs false
/-- The call leaves a state that tells t and d. -/
def Rd (w0 : World) (b : Nat) (Rs : List HP) (t : List (Int × Tp)) (d : List (Int × Int)) (e : Ending) (w' : World) : Prop := e = .returned (.tuple #[]) ∧ ∃ s' us', Tells s' us' t ∧ s'.d = d ∧ Own w0 w' (St b s' us' Rs)
set_option maxHeartbeats 1600000 in
set_option maxRecDepth 100000 in
theorem read_calls (w0 W : World) (b : Nat) (s : Sg) (us : List Tv) (Rs : List HP) (t : List (Int × Tp)) (lsn : Int) (r : Rc) (hr : RcAt w0 r) (ht : Tells s us t) (o : Own w0 W (St b s us Rs)) :
    Calls Tryz.prog 38 #[.pointer (some ⟨b, 0, none⟩), .int .i64 lsn, r.v] W (Rd w0 b Rs (readT t lsn r) (dirtsF s.d (touchF r.ps) lsn)) := by
  obtain ⟨kd, tx, pv, nx, key, had, ck, cv, cb, cs, gA, gc, gs, pA, pc, ps, tA, tc, ts, dA, dc, ds⟩ := r
  dsimp only [Rc.v]
  have HR := Aside0.mk hr
  have HT := Aside0.mk ht
  clear hr ht
  go_enter Tryz.func38, Tryz.ntmps38
  go_upto_block 0 with (fail)
  have O1 := Aside0.mk (Own.cellsNew o (Rc.cells ⟨kd, tx, pv, nx, key, had, ck, cv, cb, cs, gA, gc, gs, pA, pc, ps, tA, tc, ts, dA, dc, ds⟩) 44)
  clear o
  go_cut [] (fun wx => ∃ s' us', Aside0 (Tells s' us' (readT t lsn ⟨kd, tx, pv, nx, key, had, ck, cv, cb, cs, gA, gc, gs, pA, pc, ps, tA, tc, ts, dA, dc, ds⟩) ∧ s'.d = s.d) ∧ Aside0 (Own w0 wx (St b s' us' (Rs ++ [CellsAt W.heap.size (Rc.cells ⟨kd, tx, pv, nx, key, had, ck, cv, cb, cs, gA, gc, gs, pA, pc, ps, tA, tc, ts, dA, dc, ds⟩) 44]))))
  case first =>
    obtain ⟨m0, m1⟩ := Own.sgFacts O1.out
    have hc := (Own.cells (Own.last O1.out)).1
    have x0 := hc 0
    have x1 := hc 1
    have x10 := hc 10
    clear hc
    by_cases h5 : kd = 5
    · subst h5
      obtain ⟨wd, hrun, od⟩ := Own.delT (Own.drew O1.out) tx
      have OD := Aside0.mk od
      clear od
      go_wp2_with fail
      go_region
      go_wp2
      go_meet
      case rel => exact ⟨⟨s.mt, s.md, RS.delT s.t tx, s.d⟩, us, Aside0.mk ⟨HT.out.del tx, rfl⟩, OD⟩
    · by_cases h4 : kd = 4
      · subst h4
        obtain ⟨⟨ytx, yl, yc, yA, ycc, yp⟩, hy⟩ : ∃ y, y = getT s.t tx := ⟨_, rfl⟩
        have hL := Own.lookT (Own.drew O1.out) tx
        have o2 := Own.alloc O1.out (.cells #[.int .i64 0, .int .i64 0, .bool false, .slice none 0 0] 85)
        obtain ⟨n0, _⟩ := Own.sgFacts o2
        have z1 := (Own.cells (Own.last o2)).1 1
        have hL2 := Own.lookT (Own.drew o2) tx
        rw [← hy] at hL hL2
        have o3 := Own.drew (Own.cellsNewN (n := W.heap.size + 1) O1.out (by simp) #[.int .i64 tx, .int .i64 lsn, .bool yc, .slice yA yp.length ycc] 85)
        have CC := Aside0.mk (clone_own o3 (C_below_own o3 HR.out.g) gc HR.out.gl)
        clear hy o2 o3
        dsimp only [Tv.v] at hL hL2
        go_wp2_with fail
        go_region
        all_goals
          go_wp2_with (go_at_call 36; refine CC.out.mono ?_; rintro e w2 ⟨A2, c2, rfl, o4⟩; have o5 := Own.swapLast (o4 tx lsn true).out; obtain ⟨d, f⟩ := Own.cells (Own.last o5); have y0 := d 0; have y1 := d 1; have y2 := d 2; have y3 := d 3; have f2 := f 2; have f3 := f 3; have O5 := Aside0.mk o5; clear d f o5 o4)
          have o6 := (Own.lastSet (Own.lastSet O5.out (fun F h => CellsAt.set h 2 (.bool true))) (fun F h => CellsAt.set h 3 (.slice A2 gs.length c2)))
          obtain ⟨d, f⟩ := Own.cells (Own.last o6)
          have u0 := d 0
          have u1 := d 1
          have u2 := d 2
          have u3 := d 3
          have o7 := Own.mergeP (Own.init o6)
          obtain ⟨n5, _⟩ := Own.sgFacts o7
          have z5 := (Own.cells (Own.last (l := SgAt b s :: PgsAt (us ++ [⟨tx, lsn, true, A2, c2, gs⟩]) :: Rs) o7)).1 1
          obtain ⟨wd, hrun, od⟩ := Own.putT (Own.drew o7) tx ⟨tx, lsn, true, A2, c2, gs⟩ (us' := us ++ [⟨tx, lsn, true, A2, c2, gs⟩]) (fun u hu => .inr ⟨u, hu, rfl, rfl⟩)
          have OD := Aside0.mk od
          clear d f o6 o7 od y0 y1 y2 y3 f2 f3
          simp only [Array.setIfInBounds, List.getElem?_toArray] at u0 u1 u2 u3
          have HF := Aside0.mk (HT.out.put tx (v := ⟨tx, lsn, true, A2, c2, gs⟩) (us' := us ++ [⟨tx, lsn, true, A2, c2, gs⟩]) (.inr ⟨_, List.mem_append_right _ (List.mem_singleton.2 rfl), rfl, rfl⟩) (fun _ h => List.mem_append_left _ h))
          dsimp only [Tv.v] at hrun
          go_wp2_with fail
          go_region
          go_wp2
          go_meet
          case rel => exact ⟨⟨s.mt, s.md, RS.putT s.t tx ⟨tx, lsn, true, A2, c2, gs⟩, s.d⟩, us ++ [⟨tx, lsn, true, A2, c2, gs⟩], Aside0.mk ⟨HF.out, rfl⟩, OD⟩
      · by_cases h126 : kd = 1 ∨ kd = 2 ∨ kd = 6
        · obtain ⟨⟨ytx, yl, yc, yA, ycc, yp⟩, hy⟩ : ∃ y, y = getT s.t tx := ⟨_, rfl⟩
          have hTg := HT.out.get tx
          rw [← hy] at hTg
          have HG := Aside0.mk hTg
          rcases h126 with h | h | h
          all_goals
            subst h
            have hL := Own.lookT (Own.drew O1.out) tx
            have o2 := Own.alloc O1.out (.cells #[.int .i64 0, .int .i64 0, .bool false, .slice none 0 0] 85)
            obtain ⟨n0, _⟩ := Own.sgFacts o2
            have z1 := (Own.cells (Own.last o2)).1 1
            have hL2 := Own.lookT (Own.drew o2) tx
            rw [← hy] at hL hL2
            have o3 := Own.alloc O1.out (.cells #[.int .i64 tx, .int .i64 lsn, .bool yc, .slice yA yp.length ycc] 85)
            obtain ⟨n3, _⟩ := Own.sgFacts o3
            have z3 := (Own.cells (Own.last o3)).1 1
            obtain ⟨wd, hrun, od⟩ := Own.putT (Own.drew (Own.drew o3)) tx ⟨tx, lsn, yc, yA, ycc, yp⟩ (us' := us) (fun u hu => .inr ⟨u, hu, rfl, rfl⟩)
            have OD := Aside0.mk od
            clear hy o2 hTg od o3
            dsimp only [Tv.v] at hL hL2 hrun
            go_wp2_with fail
            go_region
            all_goals
              go_wp2_with fail
              go_region
              go_wp2
              go_meet
              case rel => exact ⟨⟨s.mt, s.md, RS.putT s.t tx ⟨tx, lsn, yc, yA, ycc, yp⟩, s.d⟩, us, Aside0.mk ⟨by have := HT.out.put tx (v := ⟨tx, lsn, yc, yA, ycc, yp⟩) HG.out.1 (fun _ h => h); rw [show Tv.ab ⟨tx, lsn, yc, yA, ycc, yp⟩ = ⟨tx, lsn, (getP t tx).com, (getP t tx).p⟩ by rw [← HG.out.2]; rfl] at this; exact this, rfl⟩, OD⟩
        · have p1 : (kd = 1) = False := eq_false (fun h => h126 (.inl h))
          have p2 : (kd = 2) = False := eq_false (fun h => h126 (.inr (.inl h)))
          have p6 : (kd = 6) = False := eq_false (fun h => h126 (.inr (.inr h)))
          have q1 : (kd == 1) = false := beq_eq_false_iff_ne.mpr (fun h => h126 (.inl h))
          have q2 : (kd == 2) = false := beq_eq_false_iff_ne.mpr (fun h => h126 (.inr (.inl h)))
          have q6 : (kd == 6) = false := beq_eq_false_iff_ne.mpr (fun h => h126 (.inr (.inr h)))
          have q5 : (kd == 5) = false := beq_eq_false_iff_ne.mpr h5
          have q4 : (kd == 4) = false := beq_eq_false_iff_ne.mpr h4
          have p5 : (kd = 5) = False := eq_false h5
          have p4 : (kd = 4) = False := eq_false h4
          have HF := Aside0.mk (show readT t lsn ⟨kd, tx, pv, nx, key, had, ck, cv, cb, cs, gA, gc, gs, pA, pc, ps, tA, tc, ts, dA, dc, ds⟩ = t by unfold readT; rw [if_neg h5, if_neg h4, if_neg h126])
          clear h5 h4 h126
          go_wp2_with fail
          go_meet
          case rel => exact ⟨s, us, Aside0.mk ⟨by rw [HF.out]; exact HT.out, rfl⟩, O1⟩
  case rest =>
    obtain ⟨s', us', HT', O1'⟩ := hcut
    have HT2 := HT'
    have hc := (Own.cells (Own.last (l := SgAt b s' :: PgsAt us' :: Rs) O1'.out)).1
    have x0 := hc 0
    have x1 := hc 1
    have x2 := hc 2
    have x3 := hc 3
    have x4 := hc 4
    have x5 := hc 5
    have x6 := hc 6
    have x7 := hc 7
    have x8 := hc 8
    have x9 := hc 9
    have x10 := hc 10
    have x11 := hc 11
    have x12 := hc 12
    have x13 := hc 13
    have CT := Aside0.mk (touches_calls wc kd tx pv nx key had ck cv cb cs gA gs.length gc pA pc tA ts.length tc dA ds.length dc ps (Own.pts O1'.out (PtsAt.of HR.out.p)) HR.out.pl)
    clear hc
    go_wp2_with (go_at_call 96; refine CT.out.mono ?_; rintro e w2 ⟨v, rfl, U2⟩; have o2 := Own.touched O1'.out U2; obtain ⟨A2, c2, rfl, _⟩ := Own.row (Own.last o2))
    clear CT x0 x1 x2 x3 x4 x5 x6 x7 x8 x9 x10 x11 x12 x13
    have O2 := Aside0.mk o2
    have hlt : (touchF ps).length < 900000 := by
      unfold touchF
      have h1 := Go.Lib.compact_length_le (sortI (ps.map (·.1)))
      rw [(sortI_perm _).length_eq, List.length_map] at h1
      have := HR.out.pl
      dsimp only at this
      omega
    clear o2 U2
    go_loopg [54] (touchF ps).length (fun k s54 wr => ∃ (i : Nat), s54 = .int .i64 (i : Int) ∧ i + k = (touchF ps).length ∧ Aside0 (Own w0 wr (St b ⟨s'.mt, s'.md, s'.t, dirtsF s'.d ((touchF ps).take i) lsn⟩ us' ((Rs ++ [CellsAt W.heap.size (Rc.cells ⟨kd, tx, pv, nx, key, had, ck, cv, cb, cs, gA, gc, gs, pA, pc, ps, tA, tc, ts, dA, dc, ds⟩) 44]) ++ [RowAt kdI 3 (.slice A2 (touchF ps).length c2) (touchF ps)]))))
    case atStart => exact ⟨0, rfl, by omega, O2⟩
    case round =>
      obtain ⟨i, rfl, hik, O3⟩ := hrel
      by_cases hi : i < (touchF ps).length
      · have p1 : ((i : Int) < ((touchF ps).length : Int)) = True := eq_true (by omega)
        have p2 : (0 : Int) ≤ (i : Int) := by omega
        obtain ⟨A4, c4, hv, _, hC4⟩ := Own.row (Own.last (l := SgAt b _ :: PgsAt us' :: (Rs ++ [CellsAt W.heap.size (Rc.cells ⟨kd, tx, pv, nx, key, had, ck, cv, cb, cs, gA, gc, gs, pA, pc, ps, tA, tc, ts, dA, dc, ds⟩) 44])) O3.out)
        injection hv with ha _ hcc
        subst ha hcc
        obtain ⟨ad, rfl, y0⟩ := at_I hC4 i hi
        have CD := Aside0.mk (Own.dirt O3.out ((touchF ps).getD i default) lsn)
        have hnx := dirts_take s'.d (touchF ps) lsn i hi
        have HI := Aside0.mk (And.intro hi (And.intro hik hnx))
        have hii : i < 900000 := by omega
        clear hi hik hnx hC4
        go_wp2_with (go_at_call 37; refine CD.out.mono ?_; rintro e w5 ⟨rfl, o5⟩)
        go_roundg (gk - 1)
        case measure => have := HI.out; omega
        case rel => exact ⟨i + 1, by simp, by have := HI.out; omega, Aside0.mk (by rw [HI.out.2.2]; exact o5)⟩
      · have p1 : ((i : Int) < ((touchF ps).length : Int)) = False := eq_false (by omega)
        obtain rfl : i = (touchF ps).length := by omega
        have HD := Aside0.mk (show dirtsF s'.d ((touchF ps).take (touchF ps).length) lsn = dirtsF s.d (touchF ps) lsn by rw [List.take_length, HT2.out.2])
        clear hi hik
        go_wp2
        go_end0
        refine ⟨rfl, ⟨s'.mt, s'.md, s'.t, dirtsF s'.d ((touchF ps).take (touchF ps).length) lsn⟩, us', ⟨HT2.out.1.t, HT2.out.1.u⟩, HD.out, ?_⟩
        exact Own.init (l := SgAt b _ :: PgsAt us' :: Rs) (Own.init (l := SgAt b _ :: PgsAt us' :: (Rs ++ [CellsAt W.heap.size (Rc.cells ⟨kd, tx, pv, nx, key, had, ck, cv, cb, cs, gA, gc, gs, pA, pc, ps, tA, tc, ts, dA, dc, ds⟩) 44])) O3.out)
end Go.Proofs.YtiagbkpggeglgaaGreat.RS
namespace Go.Proofs.YtiagbkpggeglgaaGreat.RS
open Go Go.RowKit Go.Proofs.YtiagbkpggeglgaaGreatW.PrintWords Go.Proofs.YtiagbkpggeglgaaGreatW.PrintLast Go.Proofs.YtiagbkpggeglgaaGreatW.PrintMore Go.Proofs.YtiagbkpggeglgaaGreat.L
set_option linter.unusedVariables false
set_option linter.unusedSimpArgs false
theorem perm_draw {α β : Type} [DecidableEq β] (f : α → β) : ∀ {l : List α}, (l.map f).Nodup → ∀ {q : α}, q ∈ l → l.Perm (q :: l.filter (fun x => decide (f x ≠ f q)))
  | [], _, _, h => by cases h
  | a :: l, hn, q, hq => by
    rw [List.map_cons, List.nodup_cons] at hn
    rcases List.mem_cons.1 hq with rfl | hq'
    · rw [List.filter_cons_of_neg (by simp), List.filter_eq_self.2]
      intro x hx
      simp only [ne_eq, decide_not, Bool.not_eq_eq_eq_not, Bool.not_true, decide_eq_false_iff_not]
      exact fun e => hn.1 (List.mem_map.2 ⟨x, hx, e⟩)
    · have hne : f a ≠ f q := fun e => hn.1 (List.mem_map.2 ⟨q, hq', e.symm⟩)
      rw [List.filter_cons_of_pos (by simpa using hne)]
      exact ((perm_draw f hn.2 hq').cons a).trans (List.Perm.swap _ _ _)
theorem tvs_draw {lf : List (Int × Tv)} (hn : (lf.map (·.1)).Nodup) {p : Int × Value} (hp : p ∈ tvs lf) : ∃ q ∈ lf, p = (q.1, q.2.v) ∧ L.del (tvs lf) p.1 = tvs (delT lf q.1) ∧ lf.Perm (q :: delT lf q.1) ∧ ((delT lf q.1).map (·.1)).Nodup := by
  unfold tvs at hp
  obtain ⟨q, hq, rfl⟩ := List.mem_map.1 hp
  exact ⟨q, hq, rfl, tvs_del lf q.1, perm_draw (fun p : Int × Tv => p.1) hn hq, hn.sublist (List.Sublist.map _ List.filter_sublist)⟩
theorem ints_draw {lf : List (Int × Int)} (hn : (lf.map (·.1)).Nodup) {p : Int × Value} (hp : p ∈ ints lf) : ∃ q ∈ lf, p = (q.1, .int .i64 q.2) ∧ L.del (ints lf) p.1 = ints (delI lf q.1) ∧ lf.Perm (q :: delI lf q.1) ∧ ((delI lf q.1).map (·.1)).Nodup := by
  unfold ints at hp
  obtain ⟨q, hq, rfl⟩ := List.mem_map.1 hp
  exact ⟨q, hq, rfl, ints_del lf q.1, perm_draw (fun p : Int × Int => p.1) hn hq, hn.sublist (List.Sublist.map _ List.filter_sublist)⟩
/-! ### the state while one of its maps is gone through -/
def SgT (b : Nat) (s : Sg) (r : Nat) (lf : List (Int × Tv)) : HP := Sep (CellsAt b #[.map (some s.mt), .map (some s.md)] 95) (Sep (MapIt keyInt r s.mt (tvs s.t) (tvs lf)) (MapHP keyInt s.md (ints s.d)))
def SgD (b : Nat) (s : Sg) (r : Nat) (lf : List (Int × Int)) : HP := Sep (CellsAt b #[.map (some s.mt), .map (some s.md)] 95) (Sep (MapHP keyInt s.mt (tvs s.t)) (MapIt keyInt r s.md (ints s.d) (ints lf)))
section
variable {w0 W w' : World} {b r : Nat} {s : Sg} {l : List HP} {lf lf' : List (Int × Tv)} {df df' : List (Int × Int)}
theorem Own.sgMaps (o : Own w0 W (Stars (SgAt b s :: l))) : MapAt keyInt W s.mt (tvs s.t) ∧ MapAt keyInt W s.md (ints s.d) := by
  obtain ⟨F, h⟩ := o.fact 0 rfl
  exact ⟨(SgAt.facts h).2.2.1, (SgAt.facts h).2.2.2⟩
theorem keysT (h : MapAt keyInt W s.mt (tvs s.t)) : (s.t.map (·.1)).Nodup := by
  have := MapAt.nodup h
  unfold tvs at this
  rw [List.map_map] at this
  exact this
theorem keysD (h : MapAt keyInt W s.md (ints s.d)) : (s.d.map (·.1)).Nodup := by
  have := MapAt.nodup h
  unfold ints at this
  rw [List.map_map] at this
  exact this
theorem Own.rangeT (o : Own w0 W (Stars (SgAt b s :: l))) {ob : Obj} (hI : Iter keyInt (W.alloc ob) W.heap.size s.mt (tvs s.t) (tvs s.t)) : Own w0 (W.alloc ob) (Stars (SgT b s W.heap.size s.t :: l)) :=
  o.setAt (S' := SgT b s W.heap.size s.t) 0 rfl (fun F h => by
    obtain ⟨F1, hR, _, l1⟩ := Sep.focusR h
    obtain ⟨F2, hM, _, l2⟩ := Sep.focus hR
    exact l1 _ _ (l2 _ _ (MapIt.start hM hI)))
theorem Own.iterT (o : Own w0 W (Stars (SgT b s r lf :: l))) : Iter keyInt W r s.mt (tvs s.t) (tvs lf) := by
  obtain ⟨F, ⟨_, _, _, ⟨_, _, h, _⟩, _⟩⟩ := o.fact 0 rfl
  exact h.1
theorem Own.nextT (o : Own w0 W (Stars (SgT b s r lf :: l))) (hI : Iter keyInt w' r s.mt (tvs s.t) (tvs lf')) (hg : W.grownBy w' (some r)) : Own w0 w' (Stars (SgT b s r lf' :: l)) :=
  o.setAt (S' := SgT b s r lf') 0 rfl (fun F h => by
    obtain ⟨F1, hR, _, l1⟩ := Sep.focusR h
    obtain ⟨F2, hM, _, l2⟩ := Sep.focus hR
    exact l1 _ _ (l2 _ _ (MapIt.next hM hI hg)))
theorem Own.stopT (o : Own w0 W (Stars (SgT b s r lf :: l))) : Own w0 W (Stars (SgAt b s :: l)) :=
  o.impAt (S' := SgAt b s) 0 rfl (fun F h => Sep.imp h (fun _ h => h) (fun _ h => Sep.imp h (fun _ h => MapIt.stop h) (fun _ h => h)))
theorem Own.rangeD (o : Own w0 W (Stars (SgAt b s :: l))) {ob : Obj} (hI : Iter keyInt (W.alloc ob) W.heap.size s.md (ints s.d) (ints s.d)) : Own w0 (W.alloc ob) (Stars (SgD b s W.heap.size s.d :: l)) :=
  o.setAt (S' := SgD b s W.heap.size s.d) 0 rfl (fun F h => by
    obtain ⟨F1, hR, _, l1⟩ := Sep.focusR h
    obtain ⟨F2, hM, _, l2⟩ := Sep.focusR hR
    exact l1 _ _ (l2 _ _ (MapIt.start hM hI)))
theorem Own.iterD (o : Own w0 W (Stars (SgD b s r df :: l))) : Iter keyInt W r s.md (ints s.d) (ints df) := by
  obtain ⟨F, ⟨_, _, _, ⟨_, _, _, h, _⟩, _⟩⟩ := o.fact 0 rfl
  exact h.1
theorem Own.nextD (o : Own w0 W (Stars (SgD b s r df :: l))) (hI : Iter keyInt w' r s.md (ints s.d) (ints df')) (hg : W.grownBy w' (some r)) : Own w0 w' (Stars (SgD b s r df' :: l)) :=
  o.setAt (S' := SgD b s r df') 0 rfl (fun F h => by
    obtain ⟨F1, hR, _, l1⟩ := Sep.focusR h
    obtain ⟨F2, hM, _, l2⟩ := Sep.focusR hR
    exact l1 _ _ (l2 _ _ (MapIt.next hM hI hg)))
theorem Own.stopD (o : Own w0 W (Stars (SgD b s r df :: l))) : Own w0 W (Stars (SgAt b s :: l)) :=
  o.impAt (S' := SgAt b s) 0 rfl (fun F h => Sep.imp h (fun _ h => h) (fun _ h => Sep.imp h (fun _ h => h) (fun _ h => MapIt.stop h)))
end
/-- A row at the end, to be appended to. -/
theorem Own.growLast {α : Type} {d : Kd α} {e : Nat} {v : Value} {xs : List α} {w W : World} {l : List HP} (h : Own w W (Stars (l ++ [RowAt d e v xs]))) :
    ∃ ok : Nat → Prop, d.R e W 0 ok v xs ∧ (∀ k, W.heap.size ≤ k → ok k) ∧ ∀ v1 w1 zs, d.R e w1 0 ok v1 zs → W.grownBy w1 v.ownBlock → Own w w1 (Stars (l ++ [RowAt d e v1 zs])) := by
  obtain ⟨hb, F, hS, hF⟩ := h
  have hS2 : (Sep (Stars l) (RowAt d e v xs)).on W F := Sep.imp (Stars.append hS) (fun _ h => h) (fun _ h => Stars.ofOne h)
  obtain ⟨F2, h2, k2, u2⟩ := Sep.focusR hS2
  refine ⟨fun k => F2 k ∨ W.heap.size ≤ k, Kd.R_mono h2.1 (fun _ h => .inl h), fun _ h => .inr h, fun v1 w1 zs hR hg => ?_⟩
  have hU : Upd W F2 (RowAt d e v1 zs) w1 :=
    ⟨fun k => (F2 k ∨ W.heap.size ≤ k) ∧ k < w1.heap.size, ⟨Kd.R_mono (Kd.R_bound hR) (fun k hk => ⟨hk.1, hk.2.2.1⟩), fun k hk => hk.2⟩, Eff.of_grown hg (fun k hk => h2.1.1 k hk), fun k hk => hk.1⟩
  obtain ⟨F', h', ef, hk⟩ := u2 _ _ hU
  refine ⟨below_eff hb (Nat.le_refl _) ef hF, F', Stars.add h', fun k hk' => ?_⟩
  rcases hk k hk' with h | h
  · exact hF k h
  · exact Nat.le_trans hb.size h
theorem Own.nilLast {α : Type} (d : Kd α) (e : Nat) {w W : World} {l : List HP} (h : Own w W (Stars l)) : Own w W (Stars (l ++ [RowAt d e (.slice none 0 0) []])) := Own.addAt (Own.nilRow d e h)
theorem infoT : (Tryz.prog.info? 85).map (fun i => (i.zero, i.size, i.bytes)) = some (some (.agg #[.int .i64 0, .int .i64 0, .bool false, .slice none 0 0]), 4, 48) := by kernel_rfl
theorem infoD : (Tryz.prog.info? 87).map (fun i => (i.zero, i.size, i.bytes)) = some (some (.agg #[.int .i64 0, .int .i64 0]), 2, 16) := by kernel_rfl
/-- From when on: the least. -/
def fromL : List Int → Int
  | [] => 0
  | x :: l => l.foldl min x
theorem fromL_snoc (l : List Int) (x : Int) (h : l ≠ []) : fromL (l ++ [x]) = min (fromL l) x := by
  cases l with
  | nil => exact absurd rfl h
  | cons a l => simp [fromL, List.foldl_append]
theorem foldl_min (l : List Int) : ∀ a b : Int, l.foldl min (min a b) = min a (l.foldl min b) := by
  induction l with
  | nil => intro a b; rfl
  | cons x l ih =>
    intro a b
    simp only [List.foldl_cons]
    rw [show min (min a b) x = min a (min b x) by omega, ih]
theorem fromL_perm {l m : List Int} (h : l.Perm m) : fromL l = fromL m := by
  induction h with
  | nil => rfl
  | cons x h ih =>
    rename_i l1 l2
    show l1.foldl min x = l2.foldl min x
    clear ih
    induction h generalizing x with
    | nil => rfl
    | cons y h ih => exact ih _
    | swap y z l =>
      simp only [List.foldl_cons]
      rw [show min (min x z) y = min (min x y) z by omega]
    | trans _ _ i1 i2 => exact (i1 x).trans (i2 x)
  | swap x y l =>
    show l.foldl min (min y x) = l.foldl min (min x y)
    rw [show min y x = min x y by omega]
  | trans _ _ i1 i2 => exact i1.trans i2
theorem Own.toEnd3 {w0 W : World} {l : List HP} {M N O : HP} (o : Own w0 W (Stars (((l ++ [M]) ++ [N]) ++ [O]))) : Own w0 W (Stars (((l ++ [N]) ++ [O]) ++ [M])) := by
  have h1 : Own w0 W (Stars ((l ++ [M] ++ [O]) ++ [N])) := Own.swapLast o
  have h2 : Own w0 W (Stars (l ++ [N] ++ [O] ++ [M])) := o.perm (by
    simp only [List.append_assoc]
    refine List.Perm.append_left _ ?_
    show [M, N, O].Perm [N, O, M]
    exact (List.Perm.swap _ _ _).trans (List.Perm.cons _ (List.Perm.swap _ _ _)))
  exact h2
theorem cells_of' {w W : World} {α : Type} {k : Nat} {enc : α → List Value} {hl : ∀ x, (enc x).length = k} {h1 : ∀ x, ∀ u ∈ enc x, u.oneCell' = true} {A : Option Addr} {n : Nat} {xs : List α} (o : Below w.heap.size w W) (h : (kdOf k enc hl h1).C w A n xs) : (kdOf k enc hl h1).C W A n xs := Kd.C_below h o
end Go.Proofs.YtiagbkpggeglgaaGreat.RS
namespace Go.Proofs.YtiagbkpggeglgaaGreat.RS
open Go Go.RowKit Go.Proofs.YtiagbkpggeglgaaGreatW.PrintWords Go.Proofs.YtiagbkpggeglgaaGreatW.PrintLast Go.Proofs.YtiagbkpggeglgaaGreatW.PrintMore Go.Proofs.YtiagbkpggeglgaaGreat.L
set_option linter.unusedVariables false
set_option linter.unusedSimpArgs false
theorem up_grown {w w' : World} {v : Value} (e : Eff (fun k => v.ownBlock = some k) w w') : w.grownBy w' v.ownBlock := grown_eff e
/-- What plan leaves. -/
def Pl (w0 : World) (b : Nat) (s : Sg) (us : List Tv) (Rs : List HP) (e : Ending) (w' : World) : Prop :=
  ∃ (A : Option Addr) (c : Nat) (ts : List Tv) (B : Option Addr) (cB : Nat) (ds : List (Int × Int)), e = .returned (.agg #[.slice A ts.length c, .slice B ds.length cB, .int .i64 (fromL (s.d.map (·.2)))]) ∧ ts.Perm (s.t.map (·.2)) ∧ ts.Pairwise (fun a b => a.tx ≤ b.tx) ∧ ds.Perm s.d ∧ ds.Pairwise (fun a b => a.1 ≤ b.1) ∧
    Own w0 w' (Stars ((SgAt b s :: PgsAt us :: Rs) ++ [RowAt kdT 85 (.slice A ts.length c) ts] ++ [RowAt kdD 87 (.slice B ds.length cB) ds]))
set_option maxHeartbeats 1600000 in
set_option maxRecDepth 100000 in
theorem plan_calls (w0 W : World) (b : Nat) (s : Sg) (us : List Tv) (Rs : List HP) (ht : s.t.length < 900000) (hd : s.d.length < 900000) (o : Own w0 W (St b s us Rs)) :
    Calls Tryz.prog 39 #[.pointer (some ⟨b, 0, none⟩)] W (Pl w0 b s us Rs) := by
  have HL := Aside0.mk (And.intro ht hd)
  clear ht hd
  obtain ⟨x0, x1⟩ := Own.sgFacts o
  have hkt := keysT (Own.sgMaps o).1
  have hkd := keysD (Own.sgMaps o).2
  have HK := Aside0.mk (And.intro hkt hkd)
  have o1 := Own.cellsNew o #[.slice none 0 0, .slice none 0 0, .int .i64 0] 47
  have o2 := Own.cellsNewN (n := W.heap.size + 1) (Own.nilLast kdT 85 o1) (by simp) #[.slice none 0 0, .slice none 0 0, .int .i64 0] 47
  have hM := (Own.sgMaps o2).1
  have y0 := (Own.sgFacts o2).1
  have O2 := Aside0.mk o2
  clear o1 o2 hkt hkd o
  have hsz : ((W.alloc (.cells #[.slice none 0 0, .slice none 0 0, .int .i64 0] 47)).alloc (.cells #[.slice none 0 0, .slice none 0 0, .int .i64 0] 47)).heap.size = W.heap.size + 2 := by simp
  go_enter Tryz.func39, Tryz.ntmps39
  go_wp2_with (at_range; refine wpList_range_map rfl (.tmp 11) rfl rfl hM Tryz.underlying92 ?_; intro o' hI; have o3 := Own.rangeT O2.out hI; rw [hsz] at o3; rw [hsz])
  have O3 := Aside0.mk o3
  clear O2 hI hM o3 y0 hsz
  generalize hbR : W.heap.size + 2 = bR at *
  generalize hb3 : W.heap.size + 1 = b3 at *
  go_frame
  go_loopg [] s.t.length (fun k wr => ∃ (lf : List (Int × Tv)) (xs : List Tv) (A : Option Addr) (c : Nat), lf.length ≤ k ∧ Aside0 ((xs ++ lf.map (·.2)).Perm (s.t.map (·.2)) ∧ (lf.map (·.1)).Nodup) ∧ Aside0 (Own w0 wr (Stars ((SgT b s bR lf :: PgsAt us :: Rs) ++ [CellsAt W.heap.size #[.slice none 0 0, .slice none 0 0, .int .i64 0] 47] ++ [RowAt kdT 85 (.slice A xs.length c) xs] ++ [CellsAt b3 #[.slice A xs.length c, .slice none 0 0, .int .i64 0] 47]))))
  case atStart => exact ⟨s.t, [], none, 0, Nat.le_refl _, Aside0.mk ⟨by simp, HK.out.1⟩, O3⟩
  case round =>
    obtain ⟨lf, xs, A, c, hk, HP, O4⟩ := hrel
    have hI := Own.iterT (l := PgsAt us :: Rs ++ [CellsAt W.heap.size #[.slice none 0 0, .slice none 0 0, .int .i64 0] 47] ++ [RowAt kdT 85 (.slice A xs.length c) xs] ++ [CellsAt b3 #[.slice A xs.length c, .slice none 0 0, .int .i64 0] 47]) O4.out
    go_wp2_with (at_next; refine wpList_next_map rfl (.tmp 12) rfl rfl hI ?_ ?_)
    · intro h0
      have hlf : lf = [] := by cases lf with | nil => rfl | cons _ _ => cases h0
      subst hlf
      have hp := HP.out.1
      rw [List.map_nil, List.append_nil] at hp
      have hxl : xs.length < 900000 := by
        have h1 := hp.length_eq
        rw [List.length_map] at h1
        have := HL.out.1
        omega
      have o5 := Own.stopT (l := PgsAt us :: Rs ++ [CellsAt W.heap.size #[.slice none 0 0, .slice none 0 0, .int .i64 0] 47] ++ [RowAt kdT 85 (.slice A xs.length c) xs] ++ [CellsAt b3 #[.slice A xs.length c, .slice none 0 0, .int .i64 0] 47]) O4.out
      obtain ⟨ok, hR, hok, hgo⟩ := Own.growLast (l := (SgAt b s :: PgsAt us :: Rs ++ [CellsAt W.heap.size #[.slice none 0 0, .slice none 0 0, .int .i64 0] 47]) ++ [CellsAt b3 #[.slice A xs.length c, .slice none 0 0, .int .i64 0] 47]) (Own.swapLast (l := SgAt b s :: PgsAt us :: Rs ++ [CellsAt W.heap.size #[.slice none 0 0, .slice none 0 0, .int .i64 0] 47]) o5)
      have d5 := (Own.cells (Own.last (l := SgAt b s :: PgsAt us :: Rs ++ [CellsAt W.heap.size #[.slice none 0 0, .slice none 0 0, .int .i64 0] 47] ++ [RowAt kdT 85 (.slice A xs.length c) xs]) o5)).1 0
      have CT := Aside0.mk (sortT_calls 0 ok wr _ xs hR hxl)
      have HGO := Aside0.mk hgo
      have HP1 := Aside0.mk hp
      clear h0 hI hk hp hR hok hgo o5 O4 HP
      go_wp2_with (first
        | (go_at_call 97; refine CT.out.mono ?_; rintro e w2 ⟨rfl, A2⟩; obtain ⟨ts, hp2, hs2, hR2, he2⟩ := A2.out; have o6 := Own.swapLast (l := SgAt b s :: PgsAt us :: Rs ++ [CellsAt W.heap.size #[.slice none 0 0, .slice none 0 0, .int .i64 0] 47]) (HGO.out _ w2 ts hR2 (up_grown he2)); have hl2 : xs.length = ts.length := hp2.length_eq; rw [hl2] at o6; have HT := Aside0.mk (And.intro (hp2.symm.trans HP1.out) (And.intro hs2 hl2)); have y0 := (Own.sgFacts o6).2; have hM := (Own.sgMaps o6).2; have O6 := Aside0.mk o6; clear CT HGO HP1 A2 hp2 hs2 hR2 he2 o6 hl2 d5 hxl)
        | (at_range; refine wpList_range_map rfl (.tmp 29) rfl rfl hM Tryz.underlying93 ?_; intro o'' hJ; have o7 := Own.rangeD O6.out hJ; have O7 := Aside0.mk o7; clear hM y0 O6 o7 hJ))
      go_frame
      generalize hbD : w2.heap.size = bD at *
      have O8 := Aside0.mk (Own.swapLast (l := SgD b s bD s.d :: PgsAt us :: Rs ++ [CellsAt W.heap.size #[.slice none 0 0, .slice none 0 0, .int .i64 0] 47] ++ [RowAt kdT 85 (.slice A ts.length c) ts]) (Own.nilLast kdD 87 O7.out))
      clear O7
      go_loopg [] s.d.length (fun k wr => ∃ (df : List (Int × Int)) (ys : List (Int × Int)) (B : Option Addr) (cB : Nat), df.length ≤ k ∧ Aside0 ((ys ++ df).Perm s.d ∧ (df.map (·.1)).Nodup) ∧ Aside0 (Own w0 wr (Stars ((SgD b s bD df :: PgsAt us :: Rs) ++ [CellsAt W.heap.size #[.slice none 0 0, .slice none 0 0, .int .i64 0] 47] ++ [RowAt kdT 85 (.slice A ts.length c) ts] ++ [RowAt kdD 87 (.slice B ys.length cB) ys] ++ [CellsAt b3 #[.slice A ts.length c, .slice B ys.length cB, .int .i64 (fromL (ys.map (·.2)))] 47]))))
      case atStart => exact ⟨s.d, [], none, 0, Nat.le_refl _, Aside0.mk ⟨by simp, HK.out.2⟩, O8⟩
      case round =>
        obtain ⟨df, ys, B, cB, hk, HP, O4⟩ := hrel
        have hI := Own.iterD (l := PgsAt us :: Rs ++ [CellsAt W.heap.size #[.slice none 0 0, .slice none 0 0, .int .i64 0] 47] ++ [RowAt kdT 85 (.slice A ts.length c) ts] ++ [RowAt kdD 87 (.slice B ys.length cB) ys] ++ [CellsAt b3 #[.slice A ts.length c, .slice B ys.length cB, .int .i64 (fromL (ys.map (·.2)))] 47]) O4.out
        go_wp2_with (at_next; refine wpList_next_map rfl (.tmp 30) rfl rfl hI ?_ ?_)
        · intro h0
          have hdf : df = [] := by cases df with | nil => rfl | cons _ _ => cases h0
          subst hdf
          have hp := HP.out.1
          rw [List.append_nil] at hp
          have hyl : ys.length < 900000 := by
            have h1 := hp.length_eq
            have := HL.out.2
            omega
          have o5 := Own.stopD (l := PgsAt us :: Rs ++ [CellsAt W.heap.size #[.slice none 0 0, .slice none 0 0, .int .i64 0] 47] ++ [RowAt kdT 85 (.slice A ts.length c) ts] ++ [RowAt kdD 87 (.slice B ys.length cB) ys] ++ [CellsAt b3 #[.slice A ts.length c, .slice B ys.length cB, .int .i64 (fromL (ys.map (·.2)))] 47]) O4.out
          obtain ⟨ok, hR, hok, hgo⟩ := Own.growLast (l := (SgAt b s :: PgsAt us :: Rs ++ [CellsAt W.heap.size #[.slice none 0 0, .slice none 0 0, .int .i64 0] 47] ++ [RowAt kdT 85 (.slice A ts.length c) ts]) ++ [CellsAt b3 #[.slice A ts.length c, .slice B ys.length cB, .int .i64 (fromL (ys.map (·.2)))] 47]) (Own.swapLast (l := SgAt b s :: PgsAt us :: Rs ++ [CellsAt W.heap.size #[.slice none 0 0, .slice none 0 0, .int .i64 0] 47] ++ [RowAt kdT 85 (.slice A ts.length c) ts]) o5)
          have d5 := (Own.cells (Own.last (l := SgAt b s :: PgsAt us :: Rs ++ [CellsAt W.heap.size #[.slice none 0 0, .slice none 0 0, .int .i64 0] 47] ++ [RowAt kdT 85 (.slice A ts.length c) ts] ++ [RowAt kdD 87 (.slice B ys.length cB) ys]) o5)).1 1
          have CD := Aside0.mk (sortD_calls 0 ok wr _ ys hR hyl)
          have HGO := Aside0.mk hgo
          have HP1 := Aside0.mk hp
          have HY := Aside0.mk hp
          clear h0 hI hk hp hR hok hgo o5 O4 HP
          go_wp2_with (go_at_call 100; refine CD.out.mono ?_; rintro e w5 ⟨rfl, A2⟩; obtain ⟨ds, hp2, hs2, hR2, he2⟩ := A2.out; have o6 := HGO.out _ w5 ds hR2 (up_grown he2); have hl2 : ys.length = ds.length := hp2.length_eq; rw [hl2] at o6; have o7 := Own.swapLast o6; obtain ⟨e8, f8⟩ := Own.cells (Own.last o7); have e80 := e8 0; have e81 := e8 1; have e82 := e8 2; have HD := Aside0.mk (And.intro (hp2.symm.trans HP1.out) (And.intro hs2 hl2)); have o8 := Own.toEnd3 (Own.init o7); obtain ⟨g8, h8⟩ := Own.cells (Own.last o8); have g80 := g8 0; have g81 := g8 1; have g82 := g8 2; have h80 := h8 0; have h81 := h8 1; have h82 := h8 2; have O8 := Aside0.mk o8; clear CD HGO HP1 A2 hp2 hs2 hR2 he2 o6 o7 o8 hl2 d5 hyl e8 f8 g8 h8)
          have o9 := Own.lastSet (Own.lastSet (Own.lastSet O8.out (fun F h => CellsAt.set h 0 (.slice A ts.length c))) (fun F h => CellsAt.set h 1 (.slice B ds.length cB))) (fun F h => CellsAt.set h 2 (.int .i64 (fromL (ys.map (·.2)))))
          obtain ⟨r9, _⟩ := Own.cells (Own.last o9)
          have r90 := r9 0
          have r91 := r9 1
          have r92 := r9 2
          simp only [Array.setIfInBounds, List.getElem?_toArray] at r90 r91 r92
          refine bodyPost_ret (v := .agg #[.slice A ts.length c, .slice B ds.length cB, .int .i64 (fromL (ys.map (·.2)))]) (by simp [results, Tryz.results39, go_sem, r90, r91, r92]) rfl ?_
          have hfr : fromL (ys.map (·.2)) = fromL (s.d.map (·.2)) := fromL_perm ((HY.out).map (·.2))
          exact ⟨A, c, ts, B, cB, ds, by rw [hfr], HT.out.1, HT.out.2.1, HD.out.1, HD.out.2.1, Own.init o9⟩
        · intro k0 v0 w' hp hI' hg hs hen
          obtain ⟨q, hq, he, hd, hpm, hnd⟩ := ints_draw HP.out.2 hp
          dsimp only at hd hI'
          rw [hd] at hI'
          have o5 := Own.nextD (l := PgsAt us :: Rs ++ [CellsAt W.heap.size #[.slice none 0 0, .slice none 0 0, .int .i64 0] 47] ++ [RowAt kdT 85 (.slice A ts.length c) ts] ++ [RowAt kdD 87 (.slice B ys.length cB) ys] ++ [CellsAt b3 #[.slice A ts.length c, .slice B ys.length cB, .int .i64 (fromL (ys.map (·.2)))] 47]) O4.out hI' hg
          obtain ⟨rfl, rfl⟩ := Prod.mk.inj he
          clear he
          have hlen := hpm.length_eq
          rw [List.length_cons] at hlen
          have hkl : df.length ≤ gk := hk
          have hyl : ys.length < 900000 := by
            have h1 := HP.out.1.length_eq
            rw [List.length_append] at h1
            have := HL.out.2
            omega
          obtain ⟨pg, lsn⟩ := q
          dsimp only at hlen hpm hnd hI' o5
          have HN := Aside0.mk (And.intro hnd (And.intro (show (ys ++ [(pg, lsn)] ++ delI df pg).Perm s.d from by
            refine List.Perm.trans ?_ HP.out.1
            rw [List.append_assoc]
            exact List.Perm.append_left _ hpm.symm) (show (delI df pg).length + 1 ≤ gk by omega)))
          obtain ⟨ok, hR, hok, hgo⟩ := Own.growLast (l := (SgD b s bD (delI df pg) :: PgsAt us :: Rs ++ [CellsAt W.heap.size #[.slice none 0 0, .slice none 0 0, .int .i64 0] 47] ++ [RowAt kdT 85 (.slice A ts.length c) ts]) ++ [CellsAt b3 #[.slice A ts.length c, .slice B ys.length cB, .int .i64 (fromL (ys.map (·.2)))] 47]) (Own.swapLast (l := SgD b s bD (delI df pg) :: PgsAt us :: Rs ++ [CellsAt W.heap.size #[.slice none 0 0, .slice none 0 0, .int .i64 0] 47] ++ [RowAt kdT 85 (.slice A ts.length c) ts]) o5)
          have d5 := (Own.cells (Own.last (l := SgD b s bD (delI df pg) :: PgsAt us :: Rs ++ [CellsAt W.heap.size #[.slice none 0 0, .slice none 0 0, .int .i64 0] 47] ++ [RowAt kdT 85 (.slice A ts.length c) ts] ++ [RowAt kdD 87 (.slice B ys.length cB) ys]) o5)).1 1
          have HGO := Aside0.mk (And.intro hR (And.intro hok hgo))
          have HLO := Aside0.mk (show (ys.length + 1) * 16 ≤ 140737488355328 by omega)
          dsimp only at hen
          rw [show keyInt.enc pg = .int .i64 pg from rfl] at hen
          clear hp hI' hg hs hd hpm hnd o5 hlen hq hR hok hgo hI hk
          have T9 : ∀ v1 w8, kdD.R 87 w8 0 ok v1 (ys ++ [(pg, lsn)]) → w'.grownBy w8 (Value.slice B ys.length cB).ownBlock → ∃ B8 c8, v1 = .slice B8 (ys.length + 1) c8 ∧ w8.cell? ⟨b3, 1, none⟩ = some (.slice B ys.length cB) ∧ w8.cell? ⟨b3, 2, none⟩ = some (.int .i64 (fromL (ys.map (·.2)))) ∧ w8.frozen? ⟨b3, 1, none⟩ = false ∧ w8.frozen? ⟨b3, 2, none⟩ = false ∧ Aside0 (Own w0 w8 (Stars (((SgD b s bD (delI df pg) :: PgsAt us :: Rs ++ [CellsAt W.heap.size #[.slice none 0 0, .slice none 0 0, .int .i64 0] 47] ++ [RowAt kdT 85 (.slice A ts.length c) ts]) ++ [RowAt kdD 87 (.slice B8 (ys.length + 1) c8) (ys ++ [(pg, lsn)])]) ++ [CellsAt b3 #[.slice A ts.length c, .slice B ys.length cB, .int .i64 (fromL (ys.map (·.2)))] 47]))) := by
            intro v1 w8 r1 h1
            have o8 := Own.swapLast (HGO.out.2.2 v1 w8 _ r1 h1)
            obtain ⟨B8, c8, rfl⟩ := Kd.R_slice r1
            rw [List.length_append, List.length_singleton] at o8 ⊢
            obtain ⟨e8, f8⟩ := Own.cells (Own.last o8)
            exact ⟨B8, c8, rfl, e8 1, e8 2, f8 1, f8 2, Aside0.mk o8⟩
          have HT9 := Aside0.mk T9
          clear T9
          have HX := Aside0.mk (show fromL ((ys ++ [(pg, lsn)]).map (·.2)) = if ys = [] then lsn else min (fromL (ys.map (·.2))) lsn by
            rw [List.map_append]
            by_cases h : ys = []
            · subst h; rfl
            · rw [if_neg h]
              exact fromL_snoc _ _ (by simpa using h))
          have HB3 := hb3
          clear hb3
          by_cases h0 : ys = []
          · have HXX := Aside0.mk (show fromL ((ys ++ [(pg, lsn)]).map (·.2)) = lsn by rw [HX.out, if_pos h0])
            have q1 : ((ys.length : Int) + 1 == 1) = true := by subst h0; rfl
            have q2 : ((ys.length : Int) + 1 = 1) = True := by subst h0; simp
            clear h0 HX
            go_wp2_with (at_builtin; go_loud (refine Kd.R_append kdD (W := w') (w0 := w') 0 rfl (.tmp 37) (.tmp 41) 42 87 (.agg #[.int .i64 0, .int .i64 0]) 16 rfl Tryz.underlying42 infoD rfl (by decide) (by decide) (.slice B ys.length cB) ys (pg, lsn) (encD (pg, lsn)) ok (fun _ => False) (by simp [Act.eval, Act.put]) (by simp [Act.eval, Act.put]) rfl (fun _ hk => hk.elim) HGO.out.2.1 HGO.out.1 (Below.refl _ _) (Nat.zero_le _) HLO.out ?_); intro v1 w8 r1 b1 h1 k1; obtain ⟨B8, c8, hv, e81, e82, f81, f82, O8⟩ := HT9.out v1 w8 r1 h1; subst hv; clear r1 b1 h1 k1)
            go_roundg (gk - 1)
            case measure => have := HN.out.2.2; omega
            case rel =>
              refine ⟨delI df pg, ys ++ [(pg, lsn)], B8, c8, by have := HN.out.2.2; omega, Aside0.mk ⟨HN.out.2.1, HN.out.1⟩, Aside0.mk ?_⟩
              have o9 := Own.lastSet (Own.lastSet O8.out (fun F h => CellsAt.set h 1 (.slice B8 (ys.length + 1) c8))) (fun F h => CellsAt.set h 2 (.int .i64 lsn))
              have e : (ys ++ [(pg, lsn)]).length = ys.length + 1 := by simp
              rw [e, HXX.out]
              exact o9
          · have hl0 : 0 < ys.length := List.length_pos_iff.2 h0
            have HXX := Aside0.mk (show fromL ((ys ++ [(pg, lsn)]).map (·.2)) = min (fromL (ys.map (·.2))) lsn by rw [HX.out, if_neg h0])
            have q1 : ((ys.length : Int) + 1 == 1) = false := beq_eq_false_iff_ne.mpr (by omega)
            have q2 : ((ys.length : Int) + 1 = 1) = False := eq_false (by omega)
            generalize fromL (ys.map (·.2)) = fr at *
            by_cases h5 : lsn < fr
            · have HM := Aside0.mk (show min fr lsn = lsn by omega)
              have q3 : (lsn < fr) = True := eq_true h5
              clear h5 h0 HX
              go_wp2_with (at_builtin; go_loud (refine Kd.R_append kdD (W := w') (w0 := w') 0 rfl (.tmp 37) (.tmp 41) 42 87 (.agg #[.int .i64 0, .int .i64 0]) 16 rfl Tryz.underlying42 infoD rfl (by decide) (by decide) (.slice B ys.length cB) ys (pg, lsn) (encD (pg, lsn)) ok (fun _ => False) (by simp [Act.eval, Act.put]) (by simp [Act.eval, Act.put]) rfl (fun _ hk => hk.elim) HGO.out.2.1 HGO.out.1 (Below.refl _ _) (Nat.zero_le _) HLO.out ?_); intro v1 w8 r1 b1 h1 k1; obtain ⟨B8, c8, hv, e81, e82, f81, f82, O8⟩ := HT9.out v1 w8 r1 h1; subst hv; clear r1 b1 h1 k1)
              go_roundg (gk - 1)
              case measure => have := HN.out.2.2; omega
              case rel =>
                refine ⟨delI df pg, ys ++ [(pg, lsn)], B8, c8, by have := HN.out.2.2; omega, Aside0.mk ⟨HN.out.2.1, HN.out.1⟩, Aside0.mk ?_⟩
                have o9 := Own.lastSet (Own.lastSet O8.out (fun F h => CellsAt.set h 1 (.slice B8 (ys.length + 1) c8))) (fun F h => CellsAt.set h 2 (.int .i64 lsn))
                have e : (ys ++ [(pg, lsn)]).length = ys.length + 1 := by simp
                rw [e, HXX.out, HM.out]
                exact o9
            · have HM := Aside0.mk (show min fr lsn = fr by omega)
              have q3 : (lsn < fr) = False := eq_false h5
              clear h5 h0 HX
              go_wp2_with (at_builtin; go_loud (refine Kd.R_append kdD (W := w') (w0 := w') 0 rfl (.tmp 37) (.tmp 41) 42 87 (.agg #[.int .i64 0, .int .i64 0]) 16 rfl Tryz.underlying42 infoD rfl (by decide) (by decide) (.slice B ys.length cB) ys (pg, lsn) (encD (pg, lsn)) ok (fun _ => False) (by simp [Act.eval, Act.put]) (by simp [Act.eval, Act.put]) rfl (fun _ hk => hk.elim) HGO.out.2.1 HGO.out.1 (Below.refl _ _) (Nat.zero_le _) HLO.out ?_); intro v1 w8 r1 b1 h1 k1; obtain ⟨B8, c8, hv, e81, e82, f81, f82, O8⟩ := HT9.out v1 w8 r1 h1; subst hv; clear r1 b1 h1 k1)
              go_roundg (gk - 1)
              case measure => have := HN.out.2.2; omega
              case rel =>
                refine ⟨delI df pg, ys ++ [(pg, lsn)], B8, c8, by have := HN.out.2.2; omega, Aside0.mk ⟨HN.out.2.1, HN.out.1⟩, Aside0.mk ?_⟩
                have o9 := Own.lastSet O8.out (fun F h => CellsAt.set h 1 (.slice B8 (ys.length + 1) c8))
                have e : (ys ++ [(pg, lsn)]).length = ys.length + 1 := by simp
                rw [e, HXX.out, HM.out]
                exact o9
    · intro k0 v0 w' hp hI' hg hs hen
      obtain ⟨q, hq, he, hd, hpm, hnd⟩ := tvs_draw HP.out.2 hp
      dsimp only at hd hI'
      rw [hd] at hI'
      have o5 := Own.nextT (l := PgsAt us :: Rs ++ [CellsAt W.heap.size #[.slice none 0 0, .slice none 0 0, .int .i64 0] 47] ++ [RowAt kdT 85 (.slice A xs.length c) xs] ++ [CellsAt b3 #[.slice A xs.length c, .slice none 0 0, .int .i64 0] 47]) O4.out hI' hg
      obtain ⟨rfl, rfl⟩ := Prod.mk.inj he
      clear he
      have hlen := hpm.length_eq
      rw [List.length_cons] at hlen
      have hkl : lf.length ≤ gk := hk
      have hxl : xs.length < 900000 := by
        have h1 := HP.out.1.length_eq
        rw [List.length_append, List.length_map, List.length_map] at h1
        have := HL.out.1
        omega
      obtain ⟨qk, tx, last, com, qA, qc, qp⟩ := q
      dsimp only at hlen hpm hnd hI' o5
      have HN := Aside0.mk (And.intro hnd (And.intro (show (xs ++ [(⟨tx, last, com, qA, qc, qp⟩ : Tv)] ++ (delT lf qk).map (fun p : Int × Tv => p.2)).Perm (s.t.map (fun p : Int × Tv => p.2)) from by
        refine List.Perm.trans ?_ HP.out.1
        rw [List.append_assoc]
        exact List.Perm.append_left _ (hpm.map (fun p : Int × Tv => p.2)).symm) (show (delT lf qk).length + 1 ≤ gk by omega)))
      have o6 := Own.alloc o5 (.cells #[.int .i64 tx, .int .i64 last, .bool com, .slice qA qp.length qc] 85)
      obtain ⟨ok, hR, hok, hgo⟩ := Own.growLast (l := (SgT b s bR (delT lf qk) :: PgsAt us :: Rs ++ [CellsAt W.heap.size #[.slice none 0 0, .slice none 0 0, .int .i64 0] 47]) ++ [CellsAt b3 #[.slice A xs.length c, .slice none 0 0, .int .i64 0] 47]) (Own.swapLast (l := SgT b s bR (delT lf qk) :: PgsAt us :: Rs ++ [CellsAt W.heap.size #[.slice none 0 0, .slice none 0 0, .int .i64 0] 47]) o6)
      have d5 := (Own.cells (Own.last (l := SgT b s bR (delT lf qk) :: PgsAt us :: Rs ++ [CellsAt W.heap.size #[.slice none 0 0, .slice none 0 0, .int .i64 0] 47] ++ [RowAt kdT 85 (.slice A xs.length c) xs]) o6)).1 0
      have HGO := Aside0.mk (And.intro hR (And.intro hok hgo))
      have HLO := Aside0.mk (show (xs.length + 1) * 48 ≤ 140737488355328 by omega)
      dsimp only at hen
      rw [show keyInt.enc qk = .int .i64 qk from rfl] at hen
      dsimp only [Tv.v] at hen
      clear hp hI' hg hs hd hpm hnd o5 hlen hq o6 hR hok hgo hI hk
      go_wp2_with (at_builtin; go_loud (refine Kd.R_append kdT (W := w'.alloc (.cells #[.int .i64 tx, .int .i64 last, .bool com, .slice qA qp.length qc] 85)) (w0 := w'.alloc (.cells #[.int .i64 tx, .int .i64 last, .bool com, .slice qA qp.length qc] 85)) 0 rfl (.tmp 18) (.tmp 20) 41 85 (.agg #[.int .i64 0, .int .i64 0, .bool false, .slice none 0 0]) 48 rfl Tryz.underlying41 infoT rfl (by decide) (by decide) (.slice A xs.length c) xs ⟨tx, last, com, qA, qc, qp⟩ (encT ⟨tx, last, com, qA, qc, qp⟩) ok (fun _ => False) (by simp [Act.eval, Act.put]) (by simp [Act.eval, Act.put]) rfl (fun _ hk => hk.elim) HGO.out.2.1 HGO.out.1 (Below.refl _ _) (Nat.zero_le _) HLO.out ?_); intro v1 w8 r1 b1 h1 k1; have o8 := Own.swapLast (HGO.out.2.2 v1 w8 _ r1 h1); obtain ⟨A8, c8, hv⟩ := Kd.R_slice r1; subst hv; obtain ⟨e8, f8⟩ := Own.cells (Own.last o8); have e80 := e8 0; have f80 := f8 0; have O8 := Aside0.mk o8; clear r1 b1 h1 k1 o8 e8 f8)
      go_roundg (gk - 1)
      case measure => have := HN.out.2.2; omega
      case rel =>
        refine ⟨delT lf qk, xs ++ [⟨tx, last, com, qA, qc, qp⟩], A8, c8, by have := HN.out.2.2; omega, Aside0.mk ⟨HN.out.2.1, HN.out.1⟩, Aside0.mk ?_⟩
        have o9 := Own.lastSet O8.out (fun F h => CellsAt.set h 0 (.slice A8 (xs ++ [(⟨tx, last, com, qA, qc, qp⟩ : Tv)]).length c8))
        have e : (xs ++ [(⟨tx, last, com, qA, qc, qp⟩ : Tv)]).length = xs.length + 1 := by simp
        rw [e] at o9 ⊢
        exact o9
end Go.Proofs.YtiagbkpggeglgaaGreat.RS
