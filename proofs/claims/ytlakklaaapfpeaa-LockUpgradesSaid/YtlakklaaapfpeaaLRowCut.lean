import Derived.Test.YtlakklaaapfpeaaLSep
import Derived.Lib.AppendZerosOnto
import Derived.Lib.Overlaps
import Derived.Laws.IdiomCopy
import Derived.Deep.RegionLaw
namespace Go.Proofs.Ytlakklaaapfpeaa.L
open Go Go.RowKit Go.Proofs.YtlakklaaapfpeaaW.PrintWords Go.Proofs.YtlakklaaapfpeaaW.PrintLast Go.Proofs.YtlakklaaapfpeaaW.PrintMore Go.Proofs.Ytlakklaaapfpeaa.L
set_option linter.unusedVariables false
set_option linter.unusedSimpArgs false
/-! A row of one's own, cell by cell: what is copied into it, what is put in, at elements of any size. -/
section
variable {P : Program}
theorem run_copyK (W : World) (t t' ty e : TypeId) (i0 : TypeInfo) (k : Nat) (ht : P.underlying t = some (.slice e)) (hi : P.info? e = some i0) (hk : i0.size = k) (b o dLen dCap : Nat) (a : Addr) (sLen sCap : Nat) (cs : List Value)
    (hn : cs.length = Nat.min sLen dLen * k) (hsrc : ∀ j v, cs[j]? = some v → W.cell? (a.add j) = some v) (hc : ∀ j, j < cs.length → (W.cell? ⟨b, o + j, none⟩).isSome = true) (hf : ∀ j, j < cs.length → W.frozen? ⟨b, o + j, none⟩ = false) (h1 : ∀ v ∈ cs, v.oneCell' = true) :
    (Builtin.copy_ #[t, t'] ty #[.slice (some ⟨b, o, none⟩) dLen dCap, .slice (some a) sLen sCap]).run P W = .ok (goInt (Nat.min sLen dLen)) (W.setCells b o cs) := by
  have hl := run_loadCells_list (P := P) W a cs hsrc
  have hst := run_storeCells_cells (P := P) b o cs 0 W (by simpa using hc) (by simpa using hf) h1
  simp only [Nat.add_zero] at hst
  have hl2 : (loadCells a (Nat.min sLen dLen * i0.size)).run P W = .ok cs.toArray W := by rw [hk, ← hn]; exact hl
  simp [Builtin.copy_, run_underlying ht, Builtin.lenOf, Builtin.firstCells, sizeOf, typeInfo, hi, hl2, hst]
/-- A builtin whose run is known, as a step of a walk; as a step of a region that draws. -/
theorem wpList_bi {w : World} {ops : Array Oper} {rest : List Oper} {o : Oper} {a : Act} {Q : Exit → Act → World → Prop} (hgd : o.guard = none) (d s : Operand) (t t' : TypeId) (ho : o.op = .call { callee := .builtin .copy, args := #[d, s], argTypes := #[t, t'] })
    (v u : Value) (hd : a.eval d = v) (hs : a.eval s = u) {v' : Value} {w' : World} (hr : (Builtin.copy_ #[t, t'] o.type #[v, u]).run P w = .ok v' w') (h : wpList P ops Q rest (a.put o.dst v') w') : wpList P ops Q (o :: rest) a w := by
  refine wpList_plain hgd fun K hK => ?_
  unfold Oper.wp execOp
  simp only [ho, resolve, invoke, builtin, Sem.run_bind, Sem.run_pure, Result.andThen_ok, List.map_toArray, List.map_cons, List.map_nil, hd, hs, hr]
  exact hK _ _ h
theorem step_bi {ops : Array Oper} {o : Oper} {a : Act} {w : World} {K : Act → World → Prop} {Q : Exit → Act → World → Prop} {E : Prop} (hgd : o.guard = none) (d s : Operand) (t t' : TypeId) (ho : o.op = .call { callee := .builtin .copy, args := #[d, s], argTypes := #[t, t'] })
    (v u : Value) (hd : a.eval d = v) (hs : a.eval s = u) {v' : Value} {w' : World} (hr : (Builtin.copy_ #[t, t'] o.type #[v, u]).run P w = .ok v' w') (h : K (a.put o.dst v') w') : if Region.wanted o (yielded ops a.tmps) = true then Oper.wp P o a w K Q else E := by
  rw [if_pos (by simp [Region.wanted, hgd])]
  unfold Oper.wp execOp
  simp only [ho, resolve, invoke, builtin, Sem.run_bind, Sem.run_pure, Result.andThen_ok, List.map_toArray, List.map_cons, List.map_nil, hd, hs, hr]
  exact h
/-- clear: the row's cells hold zeros behind. -/
theorem run_clearK {n : Nat} (W : World) (t e ty : TypeId) (z : Value) (ht : P.underlying t = some (.slice e)) (hv : ∀ w, (zeroValue e).run P w = .ok z w) (h1 : ∀ u ∈ (Builtin.zeroCells z.cells n).toList, u.oneCell' = true) (b o c : Nat) (hn : 0 < n)
    (hc : ∀ j, j < (Builtin.zeroCells z.cells n).toList.length → (W.cell? ⟨b, o + j, none⟩).isSome = true) (hf : ∀ j, j < (Builtin.zeroCells z.cells n).toList.length → W.frozen? ⟨b, o + j, none⟩ = false) :
    (Builtin.clear_ #[t] ty #[.slice (some ⟨b, o, none⟩) n c]).run P W = .ok (.tuple #[]) (W.setCells b o (Builtin.zeroCells z.cells n).toList) := by
  have hst := run_storeCells_cells (P := P) b o (Builtin.zeroCells z.cells n).toList 0 W (by simpa using hc) (by simpa using hf) h1
  simp only [Nat.add_zero] at hst
  obtain ⟨m, rfl⟩ : ∃ m, n = m + 1 := ⟨n - 1, by omega⟩
  simp [Builtin.clear_, run_underlying ht, hv, hst]
end
theorem eff_setCells (g o : Nat) (vs : List Value) (W : World) : Eff (fun k => k = g) W (W.setCells g o vs) := by
  obtain ⟨s1, s2, s3, s4⟩ := setCells_same g vs o W
  exact ⟨s1, s2, s3, by rw [s4]; exact Nat.le_refl _, fun k _ hk => setCells_far vs o k hk⟩
section
variable {α : Type} {enc : α → List Value} {k : Nat}
def flatE (enc : α → List Value) (xs : List α) : List Value := xs.flatMap enc
theorem flatE_append (xs ys : List α) : flatE enc (xs ++ ys) = flatE enc xs ++ flatE enc ys := List.flatMap_append
theorem flatE_cons (x : α) (xs : List α) : flatE enc (x :: xs) = enc x ++ flatE enc xs := List.flatMap_cons
theorem flatE_length (hk : ∀ x, (enc x).length = k) : ∀ xs : List α, (flatE enc xs).length = xs.length * k
  | [] => by simp [flatE]
  | x :: xs => by rw [flatE_cons, List.length_append, hk, flatE_length hk xs, List.length_cons, Nat.succ_mul]; omega
theorem flatE_parts (xs : List α) (i : Nat) : flatE enc xs = flatE enc (xs.take i) ++ flatE enc (xs.drop i) := by rw [← flatE_append, List.take_append_drop]
theorem flatE_of_reps : ∀ {xs : List α} {inner : List Value}, Reps (fun x c => c = enc x) k xs inner → inner = flatE enc xs
  | [], inner, h => by
    have := h.1
    simp only [List.length_nil, Nat.zero_mul] at this
    exact List.eq_nil_of_length_eq_zero this
  | x :: xs, inner, h => by
    have h1 := h.2 0 x rfl
    rw [Nat.zero_mul, List.drop_zero] at h1
    have h2 := Kd.reps_drop (m := 1) h
    rw [List.drop_succ_cons, List.drop_zero, Nat.one_mul] at h2
    rw [flatE_cons, ← h1, ← flatE_of_reps h2, List.take_append_drop]
theorem reps_flatE (hk : ∀ x, (enc x).length = k) : ∀ (xs : List α), Reps (fun x c => c = enc x) k xs (flatE enc xs)
  | [] => Reps.none _ _
  | x :: xs => by
    have h := reps_flatE hk xs
    have h1 : Reps (fun x c => c = enc x) k [x] (enc x) := by
      have := Reps.snoc (Reps.none (fun x c => c = enc x) k) (p := x) (c := enc x) rfl (hk x)
      simpa using this
    have := Kd.reps_append h1 h
    rwa [List.singleton_append, ← flatE_cons] at this
/-- A row of one's own that is not nil. -/
structure RowX (enc : α → List Value) (k e : Nat) (W : World) (base g cap : Nat) (xs : List α) : Prop where
  le : base ≤ g
  len : xs.length ≤ cap
  max : cap ≤ maxLen
  has : ∃ cur rest, W.heap[g]? = some (.cells cur e (0, 0)) ∧ cur.size = cap * k ∧ cur.toList = flatE enc xs ++ rest
theorem RowX.of_R {d : Kd α} {e base : Nat} {ok : Nat → Prop} {W : World} {g cap n : Nat} {xs : List α} (hs : d.sz = k) (hM : ∀ {w : World} {base : Nat} {ok : Nat → Prop} {x : α} {cs : List Value}, d.M w base ok x cs → cs = enc x) (h : d.R e W base ok (.slice (some ⟨g, 0, none⟩) n cap) xs) : RowX enc k e W base g cap xs := by
  obtain ⟨_, inner, ho, hr⟩ := h
  have hi : inner = flatE enc xs := flatE_of_reps (k := d.sz) (hr.imp_ (fun _ _ hp => hM hp))
  rcases ho.2 with ⟨hv, _⟩ | ⟨g', cap', cur, hv, hb, hh, hl, hm, hc, ht⟩
  · cases hv
  · injection hv with ha hn hcap
    injection ha with ha
    injection ha with hg
    subst hg; subst hcap
    exact ⟨hb, hl, hm, cur, _, hh, by rw [hc, hs], by rw [← hi, ← ht, List.take_append_drop]⟩
theorem RowX.toR {d : Kd α} {e base : Nat} {ok : Nat → Prop} {W : World} {g cap : Nat} {xs : List α} (hs : d.sz = k) (hk : ∀ x, (enc x).length = k) (hM : ∀ (w : World) (base : Nat) (ok : Nat → Prop) (x : α), d.M w base ok x (enc x)) (h : RowX enc k e W base g cap xs) (hok : ok g) : d.R e W base ok (.slice (some ⟨g, 0, none⟩) xs.length cap) xs := by
  obtain ⟨cur, rest, hh, hc, ht⟩ := h.has
  refine ⟨fun q hq => by simp [Value.ownBlock] at hq; subst hq; exact hok, flatE enc xs, ⟨by rw [flatE_length hk, hs], .inr ⟨g, cap, cur, rfl, h.le, hh, h.len, h.max, by rw [hc, hs], ?_⟩⟩, ?_⟩
  · rw [ht, hs, ← flatE_length hk xs]
    exact List.take_left
  · rw [hs]
    exact (reps_flatE hk xs).imp_ (fun x c hc => by rw [hc]; exact hM _ _ _ x)
theorem RowX.cells {e base : Nat} {W : World} {g cap : Nat} {xs : List α} (h : RowX enc k e W base g cap xs) (j : Nat) (u : Value) (hu : (flatE enc xs)[j]? = some u) : W.cell? ⟨g, j, none⟩ = some u := by
  obtain ⟨cur, rest, hh, _, ht⟩ := h.has
  rw [blk_cell hh j, ← Array.getElem?_toList, ht, List.getElem?_append_left (List.getElem?_eq_some_iff.1 hu).1, hu]
theorem RowX.some {e base : Nat} {W : World} {g cap : Nat} {xs : List α} (h : RowX enc k e W base g cap xs) (j : Nat) (hj : j < cap * k) : (W.cell? ⟨g, j, none⟩).isSome = true := by
  obtain ⟨cur, rest, hh, hc, _⟩ := h.has
  rw [blk_cell hh j]
  simp [hc, hj]
theorem RowX.free {e base : Nat} {W : World} {g cap : Nat} {xs : List α} (h : RowX enc k e W base g cap xs) (j : Nat) : W.frozen? ⟨g, j, none⟩ = false := by
  obtain ⟨cur, rest, hh, _, _⟩ := h.has
  exact blk_frozen hh _
theorem RowX.eff {e base : Nat} {W W1 : World} {g cap : Nat} {xs : List α} {S : Nat → Prop} (h : RowX enc k e W base g cap xs) (e1 : Eff S W W1) (hS : ¬ S g) : RowX enc k e W1 base g cap xs := by
  obtain ⟨cur, rest, hh, hc, ht⟩ := h.has
  exact ⟨h.le, h.len, h.max, cur, rest, by rw [e1.block g (blk_lt hh) hS]; exact hh, hc, ht⟩
/-- Written behind what the row holds: the row is as it was. -/
theorem RowX.behind {e base : Nat} {W : World} {g cap o : Nat} {xs : List α} {vs : List Value} (hk : ∀ x, (enc x).length = k) (h : RowX enc k e W base g cap xs) (ho : xs.length * k ≤ o) (hv : o + vs.length ≤ cap * k) : RowX enc k e (W.setCells g o vs) base g cap xs := by
  obtain ⟨cur, rest, hh, hc, ht⟩ := h.has
  obtain ⟨cur', h3, h4, h5⟩ := setCells_row vs o W cur hh (by rw [hc]; exact hv)
  refine ⟨h.le, h.len, h.max, cur', rest.take (o - xs.length * k) ++ vs ++ cur.toList.drop (o + vs.length), h3, by rw [h4, hc], ?_⟩
  rw [h5]
  simp only [← List.append_assoc]
  congr 2
  rw [ht, List.take_append, flatE_length hk, List.take_of_length_le (by rw [flatE_length hk]; exact ho)]
theorem over_first {A C B Z : List Value} (a : Nat) (ha : A.length = a) : ((A ++ Z).take a ++ C ++ (A ++ Z).drop (a + C.length)) = A ++ (C ++ Z.drop C.length) := by
  subst ha
  rw [List.take_left, List.drop_append]
  simp
/-- An element put in at i: the cells behind go up first, then it is written. -/
theorem RowX.shift {e base : Nat} {W : World} {g cap i : Nat} {xs : List α} (hk : ∀ x, (enc x).length = k) (h : RowX enc k e W base g cap xs) (hi : i ≤ xs.length) (hr : xs.length + 1 ≤ cap) (c : α) :
    RowX enc k e ((W.setCells g ((i + 1) * k) (flatE enc (xs.drop i))).setCells g (i * k) (enc c)) base g cap (xs.take i ++ c :: xs.drop i) := by
  obtain ⟨cur, rest, hh, hc, ht⟩ := h.has
  have la : (flatE enc (xs.take i)).length = i * k := by rw [flatE_length hk, List.length_take, Nat.min_eq_left hi]
  have lb : (flatE enc (xs.drop i)).length = (xs.length - i) * k := by rw [flatE_length hk, List.length_drop]
  have m1 : (i + 1) * k = i * k + k := Nat.succ_mul _ _
  have m2 : (xs.length - i) * k = xs.length * k - i * k := Nat.sub_mul _ _ _
  have m3 : i * k ≤ xs.length * k := Nat.mul_le_mul_right _ hi
  have m4 : (xs.length + 1) * k ≤ cap * k := Nat.mul_le_mul_right _ hr
  have m5 : (xs.length + 1) * k = xs.length * k + k := Nat.succ_mul _ _
  obtain ⟨cur1, h3, h4, h5⟩ := setCells_row (flatE enc (xs.drop i)) ((i + 1) * k) W cur hh (by omega)
  obtain ⟨cur2, g3, g4, g5⟩ := setCells_row (enc c) (i * k) _ cur1 h3 (by rw [h4, hk]; omega)
  refine ⟨h.le, by simp; omega, h.max, cur2, cur.toList.drop ((i + 1) * k + (flatE enc (xs.drop i)).length), g3, by rw [g4, h4, hc], ?_⟩
  rw [flatE_parts xs i, List.append_assoc] at ht
  have e1 : cur1.toList = flatE enc (xs.take i) ++ (cur.toList.drop (i * k)).take k ++ flatE enc (xs.drop i) ++ cur.toList.drop ((i + 1) * k + (flatE enc (xs.drop i)).length) := by
    rw [h5]
    congr 2
    rw [m1, List.take_add]
    congr 1
    rw [ht]
    exact List.take_left' la
  have lc : ((cur.toList.drop (i * k)).take k).length = k := by
    rw [List.length_take, List.length_drop, Array.length_toList, hc]
    omega
  rw [g5, e1, hk, flatE_append, flatE_cons]
  generalize (cur.toList.drop (i * k)).take k = Z at *
  generalize cur.toList.drop _ = Y
  generalize flatE enc (xs.take i) = A at *
  generalize flatE enc (xs.drop i) = Bq at *
  have t1 : (A ++ Z ++ Bq ++ Y).take (i * k) = A := by
    rw [List.append_assoc, List.append_assoc]
    exact List.take_left' la
  have t2 : (A ++ Z ++ Bq ++ Y).drop (i * k + k) = Bq ++ Y := by
    rw [List.append_assoc (A ++ Z)]
    exact List.drop_left' (by rw [List.length_append, la, lc])
  rw [t1, t2]
  simp only [List.append_assoc]
/-- Into a new row: the element first, then the cells behind. -/
theorem rowX_grow {e base : Nat} {W : World} {g cap i : Nat} {xs : List α} {cur : Array Value} {rest : List Value} (hk : ∀ x, (enc x).length = k) (hb : base ≤ g) (hh : W.heap[g]? = some (.cells cur e (0, 0))) (hc : cur.size = cap * k) (ht : cur.toList = flatE enc (xs.take i) ++ rest) (hi : i ≤ xs.length) (hr : xs.length + 1 ≤ cap) (hm : cap ≤ maxLen) (c : α) :
    RowX enc k e ((W.setCells g (i * k) (enc c)).setCells g ((i + 1) * k) (flatE enc (xs.drop i))) base g cap (xs.take i ++ c :: xs.drop i) := by
  have la : (flatE enc (xs.take i)).length = i * k := by rw [flatE_length hk, List.length_take, Nat.min_eq_left hi]
  have lb : (flatE enc (xs.drop i)).length = (xs.length - i) * k := by rw [flatE_length hk, List.length_drop]
  have m1 : (i + 1) * k = i * k + k := Nat.succ_mul _ _
  have m2 : (xs.length - i) * k = xs.length * k - i * k := Nat.sub_mul _ _ _
  have m3 : i * k ≤ xs.length * k := Nat.mul_le_mul_right _ hi
  have m4 : (xs.length + 1) * k ≤ cap * k := Nat.mul_le_mul_right _ hr
  have m5 : (xs.length + 1) * k = xs.length * k + k := Nat.succ_mul _ _
  obtain ⟨cur1, h3, h4, h5⟩ := setCells_row (enc c) (i * k) W cur hh (by rw [hk]; omega)
  obtain ⟨cur2, g3, g4, g5⟩ := setCells_row (flatE enc (xs.drop i)) ((i + 1) * k) _ cur1 h3 (by rw [h4]; omega)
  refine ⟨hb, by simp; omega, hm, cur2, cur1.toList.drop ((i + 1) * k + (flatE enc (xs.drop i)).length), g3, by rw [g4, h4, hc], ?_⟩
  have e1 : cur1.toList.take ((i + 1) * k) = flatE enc (xs.take i) ++ enc c := by
    rw [h5, ht, m1]
    have t1 : (flatE enc (xs.take i) ++ rest).take (i * k) = flatE enc (xs.take i) := List.take_left' la
    rw [t1]
    exact List.take_left' (by rw [List.length_append, la, hk])
  rw [g5, e1, flatE_append, flatE_cons]
  simp only [List.append_assoc]
end
theorem drew_setCells (b : Nat) : ∀ (vs : List Value) (o : Nat) (w : World), (w.setCells b o vs).drew = w.drew.setCells b o vs
  | [], _, _ => rfl
  | v :: r, o, w => by rw [World.setCells, World.setCells, drew_setCells b r]; rfl
end Go.Proofs.Ytlakklaaapfpeaa.L
