import Derived.Test.YtcmepoakcffpaaaGreatLSep
import Derived.Lib.AppendZerosOnto
import Derived.Lib.Overlaps
import Derived.Laws.IdiomCopy
import Derived.Deep.RegionLaw
import Derived.Deep.AppendSrc
import Derived.Test.YtcmepoakcffpaaaGreatProg
import Derived.BigRegion
import Derived.BigQuiet
import Derived.Deep.QuietTactic
import Derived.Deep.AppendLies
import Derived.ChangeAlike
import Derived.Outline
import Derived.WalkKit
import Derived.KernelRfl
import Derived.Deep.LoopGhost
import Derived.Test.YtcmepoakcffpaaaGreatWMore
import Derived.Test.YtcmepoakcffpaaaGreatWKept
import Derived.Test.YtcmepoakcffpaaaGreatLStars
namespace Go.Proofs.YtcmepoakcffpaaaGreat.L
open Go Go.RowKit Go.Proofs.YtcmepoakcffpaaaGreatW.PrintWords Go.Proofs.YtcmepoakcffpaaaGreatW.PrintLast Go.Proofs.YtcmepoakcffpaaaGreatW.PrintMore Go.Proofs.YtcmepoakcffpaaaGreat.L
set_option linter.unusedVariables false
set_option linter.unusedSimpArgs false
/-! A row of one's own, cell by cell: what is copied into it, what is put in, at elements of any size. -/
section
variable {P : Program}
theorem run_copyK (W : World) (t t' ty e : TypeId) (i0 : TypeInfo) (k : Nat) (ht : P.underlying t = some (.slice e)) (hi : P.info? e = some i0) (hk : i0.size = k) (b o dLen dCap : Nat) (a : Addr) (sLen sCap : Nat) (cs : List Value)
    (hn : cs.length = Nat.min sLen dLen * k) (hsrc : ∀ j v, cs[j]? = some v → W.cell? (a.add j) = some v) (hc : ∀ j, j < cs.length → (W.cell? ⟨b, o + j, none⟩).isSome = true) (hf : ∀ j, j < cs.length → W.frozen? ⟨b, o + j, none⟩ = false) (h1 : ∀ v ∈ cs, v.oneCell' = true) :
    (Builtin.copy_ #[t, t'] ty #[.slice (some ⟨b, o, none⟩) dLen dCap, .slice (some a) sLen sCap]).run P W = .ok (goInt (Nat.min sLen dLen)) (W.setCells b o cs) := by
  have hl := run_loadCells_list (P := P) W a cs hsrc
  have hst := run_storeCells_cells (P := P) b o cs 0 W (by simpa using hc) (by simpa using hf) h1
  simp only [Nat.add_zero] at hst
  have hl2 : (loadCells a (Nat.min sLen dLen * i0.size)).run P W = .ok cs.toArray W := by rw [hk, ← hn]; exact hl
  simp [Builtin.copy_, run_underlying ht, Builtin.lenOf, Builtin.firstCells, sizeOf, typeInfo, hi, hl2, hst]
/-- A builtin whose run is known, as a step of a walk; as a step of a region that draws. -/
theorem wpList_bi {w : World} {ops : Array Oper} {rest : List Oper} {o : Oper} {a : Act} {Q : Exit → Act → World → Prop} (hgd : o.guard = none) (d s : Operand) (t t' : TypeId) (ho : o.op = .call { callee := .builtin .copy, args := #[d, s], argTypes := #[t, t'] })
    (v u : Value) (hd : a.eval d = v) (hs : a.eval s = u) {v' : Value} {w' : World} (hr : (Builtin.copy_ #[t, t'] o.type #[v, u]).run P w = .ok v' w') (h : wpList P ops Q rest (a.put o.dst v') w') : wpList P ops Q (o :: rest) a w := by
  refine wpList_plain hgd fun K hK => ?_
  unfold Oper.wp execOp
  simp only [ho, resolve, invoke, builtin, Sem.run_bind, Sem.run_pure, Result.andThen_ok, List.map_toArray, List.map_cons, List.map_nil, hd, hs, hr]
  exact hK _ _ h
theorem step_bi {ops : Array Oper} {o : Oper} {a : Act} {w : World} {K : Act → World → Prop} {Q : Exit → Act → World → Prop} {E : Prop} (hgd : o.guard = none) (d s : Operand) (t t' : TypeId) (ho : o.op = .call { callee := .builtin .copy, args := #[d, s], argTypes := #[t, t'] })
    (v u : Value) (hd : a.eval d = v) (hs : a.eval s = u) {v' : Value} {w' : World} (hr : (Builtin.copy_ #[t, t'] o.type #[v, u]).run P w = .ok v' w') (h : K (a.put o.dst v') w') : if Region.wanted o (yielded ops a.tmps) = true then Oper.wp P o a w K Q else E := by
  rw [if_pos (by simp [Region.wanted, hgd])]
  unfold Oper.wp execOp
  simp only [ho, resolve, invoke, builtin, Sem.run_bind, Sem.run_pure, Result.andThen_ok, List.map_toArray, List.map_cons, List.map_nil, hd, hs, hr]
  exact h
/-- clear: the row's cells hold zeros behind. -/
theorem run_clearK {n : Nat} (W : World) (t e ty : TypeId) (z : Value) (ht : P.underlying t = some (.slice e)) (hv : ∀ w, (zeroValue e).run P w = .ok z w) (h1 : ∀ u ∈ (Builtin.zeroCells z.cells n).toList, u.oneCell' = true) (b o c : Nat) (hn : 0 < n)
    (hc : ∀ j, j < (Builtin.zeroCells z.cells n).toList.length → (W.cell? ⟨b, o + j, none⟩).isSome = true) (hf : ∀ j, j < (Builtin.zeroCells z.cells n).toList.length → W.frozen? ⟨b, o + j, none⟩ = false) :
    (Builtin.clear_ #[t] ty #[.slice (some ⟨b, o, none⟩) n c]).run P W = .ok (.tuple #[]) (W.setCells b o (Builtin.zeroCells z.cells n).toList) := by
  have hst := run_storeCells_cells (P := P) b o (Builtin.zeroCells z.cells n).toList 0 W (by simpa using hc) (by simpa using hf) h1
  simp only [Nat.add_zero] at hst
  obtain ⟨m, rfl⟩ : ∃ m, n = m + 1 := ⟨n - 1, by omega⟩
  simp [Builtin.clear_, run_underlying ht, hv, hst]
end
theorem eff_setCells (g o : Nat) (vs : List Value) (W : World) : Eff (fun k => k = g) W (W.setCells g o vs) := by
  obtain ⟨s1, s2, s3, s4⟩ := setCells_same g vs o W
  exact ⟨s1, s2, s3, by rw [s4]; exact Nat.le_refl _, fun k _ hk => setCells_far vs o k hk⟩
section
variable {α : Type} {enc : α → List Value} {k : Nat}
def flatE (enc : α → List Value) (xs : List α) : List Value := xs.flatMap enc
theorem flatE_append (xs ys : List α) : flatE enc (xs ++ ys) = flatE enc xs ++ flatE enc ys := List.flatMap_append
theorem flatE_cons (x : α) (xs : List α) : flatE enc (x :: xs) = enc x ++ flatE enc xs := List.flatMap_cons
theorem flatE_length (hk : ∀ x, (enc x).length = k) : ∀ xs : List α, (flatE enc xs).length = xs.length * k
  | [] => by simp [flatE]
  | x :: xs => by rw [flatE_cons, List.length_append, hk, flatE_length hk xs, List.length_cons, Nat.succ_mul]; omega
theorem flatE_parts (xs : List α) (i : Nat) : flatE enc xs = flatE enc (xs.take i) ++ flatE enc (xs.drop i) := by rw [← flatE_append, List.take_append_drop]
theorem flatE_of_reps : ∀ {xs : List α} {inner : List Value}, Reps (fun x c => c = enc x) k xs inner → inner = flatE enc xs
  | [], inner, h => by
    have := h.1
    simp only [List.length_nil, Nat.zero_mul] at this
    exact List.eq_nil_of_length_eq_zero this
  | x :: xs, inner, h => by
    have h1 := h.2 0 x rfl
    rw [Nat.zero_mul, List.drop_zero] at h1
    have h2 := Kd.reps_drop (m := 1) h
    rw [List.drop_succ_cons, List.drop_zero, Nat.one_mul] at h2
    rw [flatE_cons, ← h1, ← flatE_of_reps h2, List.take_append_drop]
theorem reps_flatE (hk : ∀ x, (enc x).length = k) : ∀ (xs : List α), Reps (fun x c => c = enc x) k xs (flatE enc xs)
  | [] => Reps.none _ _
  | x :: xs => by
    have h := reps_flatE hk xs
    have h1 : Reps (fun x c => c = enc x) k [x] (enc x) := by
      have := Reps.snoc (Reps.none (fun x c => c = enc x) k) (p := x) (c := enc x) rfl (hk x)
      simpa using this
    have := Kd.reps_append h1 h
    rwa [List.singleton_append, ← flatE_cons] at this
/-- A row of one's own that is not nil. -/
structure RowX (enc : α → List Value) (k e : Nat) (W : World) (base g cap : Nat) (xs : List α) : Prop where
  le : base ≤ g
  len : xs.length ≤ cap
  max : cap ≤ maxLen
  has : ∃ cur rest, W.heap[g]? = some (.cells cur e (0, 0)) ∧ cur.size = cap * k ∧ cur.toList = flatE enc xs ++ rest
theorem RowX.of_R {d : Kd α} {e base : Nat} {ok : Nat → Prop} {W : World} {g cap n : Nat} {xs : List α} (hs : d.sz = k) (hM : ∀ {w : World} {base : Nat} {ok : Nat → Prop} {x : α} {cs : List Value}, d.M w base ok x cs → cs = enc x) (h : d.R e W base ok (.slice (some ⟨g, 0, none⟩) n cap) xs) : RowX enc k e W base g cap xs := by
  obtain ⟨_, inner, ho, hr⟩ := h
  have hi : inner = flatE enc xs := flatE_of_reps (k := d.sz) (hr.imp_ (fun _ _ hp => hM hp))
  rcases ho.2 with ⟨hv, _⟩ | ⟨g', cap', cur, hv, hb, hh, hl, hm, hc, ht⟩
  · cases hv
  · injection hv with ha hn hcap
    injection ha with ha
    injection ha with hg
    subst hg; subst hcap
    exact ⟨hb, hl, hm, cur, _, hh, by rw [hc, hs], by rw [← hi, ← ht, List.take_append_drop]⟩
theorem RowX.toR {d : Kd α} {e base : Nat} {ok : Nat → Prop} {W : World} {g cap : Nat} {xs : List α} (hs : d.sz = k) (hk : ∀ x, (enc x).length = k) (hM : ∀ (w : World) (base : Nat) (ok : Nat → Prop) (x : α), d.M w base ok x (enc x)) (h : RowX enc k e W base g cap xs) (hok : ok g) : d.R e W base ok (.slice (some ⟨g, 0, none⟩) xs.length cap) xs := by
  obtain ⟨cur, rest, hh, hc, ht⟩ := h.has
  refine ⟨fun q hq => by simp [Value.ownBlock] at hq; subst hq; exact hok, flatE enc xs, ⟨by rw [flatE_length hk, hs], .inr ⟨g, cap, cur, rfl, h.le, hh, h.len, h.max, by rw [hc, hs], ?_⟩⟩, ?_⟩
  · rw [ht, hs, ← flatE_length hk xs]
    exact List.take_left
  · rw [hs]
    exact (reps_flatE hk xs).imp_ (fun x c hc => by rw [hc]; exact hM _ _ _ x)
theorem RowX.cells {e base : Nat} {W : World} {g cap : Nat} {xs : List α} (h : RowX enc k e W base g cap xs) (j : Nat) (u : Value) (hu : (flatE enc xs)[j]? = some u) : W.cell? ⟨g, j, none⟩ = some u := by
  obtain ⟨cur, rest, hh, _, ht⟩ := h.has
  rw [blk_cell hh j, ← Array.getElem?_toList, ht, List.getElem?_append_left (List.getElem?_eq_some_iff.1 hu).1, hu]
theorem RowX.some {e base : Nat} {W : World} {g cap : Nat} {xs : List α} (h : RowX enc k e W base g cap xs) (j : Nat) (hj : j < cap * k) : (W.cell? ⟨g, j, none⟩).isSome = true := by
  obtain ⟨cur, rest, hh, hc, _⟩ := h.has
  rw [blk_cell hh j]
  simp [hc, hj]
theorem RowX.free {e base : Nat} {W : World} {g cap : Nat} {xs : List α} (h : RowX enc k e W base g cap xs) (j : Nat) : W.frozen? ⟨g, j, none⟩ = false := by
  obtain ⟨cur, rest, hh, _, _⟩ := h.has
  exact blk_frozen hh _
theorem RowX.eff {e base : Nat} {W W1 : World} {g cap : Nat} {xs : List α} {S : Nat → Prop} (h : RowX enc k e W base g cap xs) (e1 : Eff S W W1) (hS : ¬ S g) : RowX enc k e W1 base g cap xs := by
  obtain ⟨cur, rest, hh, hc, ht⟩ := h.has
  exact ⟨h.le, h.len, h.max, cur, rest, by rw [e1.block g (blk_lt hh) hS]; exact hh, hc, ht⟩
/-- Written behind what the row holds: the row is as it was. -/
theorem RowX.behind {e base : Nat} {W : World} {g cap o : Nat} {xs : List α} {vs : List Value} (hk : ∀ x, (enc x).length = k) (h : RowX enc k e W base g cap xs) (ho : xs.length * k ≤ o) (hv : o + vs.length ≤ cap * k) : RowX enc k e (W.setCells g o vs) base g cap xs := by
  obtain ⟨cur, rest, hh, hc, ht⟩ := h.has
  obtain ⟨cur', h3, h4, h5⟩ := setCells_row vs o W cur hh (by rw [hc]; exact hv)
  refine ⟨h.le, h.len, h.max, cur', rest.take (o - xs.length * k) ++ vs ++ cur.toList.drop (o + vs.length), h3, by rw [h4, hc], ?_⟩
  rw [h5]
  simp only [← List.append_assoc]
  congr 2
  rw [ht, List.take_append, flatE_length hk, List.take_of_length_le (by rw [flatE_length hk]; exact ho)]
theorem over_first {A C B Z : List Value} (a : Nat) (ha : A.length = a) : ((A ++ Z).take a ++ C ++ (A ++ Z).drop (a + C.length)) = A ++ (C ++ Z.drop C.length) := by
  subst ha
  rw [List.take_left, List.drop_append]
  simp
/-- An element put in at i: the cells behind go up first, then it is written. -/
theorem RowX.shift {e base : Nat} {W : World} {g cap i : Nat} {xs : List α} (hk : ∀ x, (enc x).length = k) (h : RowX enc k e W base g cap xs) (hi : i ≤ xs.length) (hr : xs.length + 1 ≤ cap) (c : α) :
    RowX enc k e ((W.setCells g ((i + 1) * k) (flatE enc (xs.drop i))).setCells g (i * k) (enc c)) base g cap (xs.take i ++ c :: xs.drop i) := by
  obtain ⟨cur, rest, hh, hc, ht⟩ := h.has
  have la : (flatE enc (xs.take i)).length = i * k := by rw [flatE_length hk, List.length_take, Nat.min_eq_left hi]
  have lb : (flatE enc (xs.drop i)).length = (xs.length - i) * k := by rw [flatE_length hk, List.length_drop]
  have m1 : (i + 1) * k = i * k + k := Nat.succ_mul _ _
  have m2 : (xs.length - i) * k = xs.length * k - i * k := Nat.sub_mul _ _ _
  have m3 : i * k ≤ xs.length * k := Nat.mul_le_mul_right _ hi
  have m4 : (xs.length + 1) * k ≤ cap * k := Nat.mul_le_mul_right _ hr
  have m5 : (xs.length + 1) * k = xs.length * k + k := Nat.succ_mul _ _
  obtain ⟨cur1, h3, h4, h5⟩ := setCells_row (flatE enc (xs.drop i)) ((i + 1) * k) W cur hh (by omega)
  obtain ⟨cur2, g3, g4, g5⟩ := setCells_row (enc c) (i * k) _ cur1 h3 (by rw [h4, hk]; omega)
  refine ⟨h.le, by simp; omega, h.max, cur2, cur.toList.drop ((i + 1) * k + (flatE enc (xs.drop i)).length), g3, by rw [g4, h4, hc], ?_⟩
  rw [flatE_parts xs i, List.append_assoc] at ht
  have e1 : cur1.toList = flatE enc (xs.take i) ++ (cur.toList.drop (i * k)).take k ++ flatE enc (xs.drop i) ++ cur.toList.drop ((i + 1) * k + (flatE enc (xs.drop i)).length) := by
    rw [h5]
    congr 2
    rw [m1, List.take_add]
    congr 1
    rw [ht]
    exact List.take_left' la
  have lc : ((cur.toList.drop (i * k)).take k).length = k := by
    rw [List.length_take, List.length_drop, Array.length_toList, hc]
    omega
  rw [g5, e1, hk, flatE_append, flatE_cons]
  generalize (cur.toList.drop (i * k)).take k = Z at *
  generalize cur.toList.drop _ = Y
  generalize flatE enc (xs.take i) = A at *
  generalize flatE enc (xs.drop i) = Bq at *
  have t1 : (A ++ Z ++ Bq ++ Y).take (i * k) = A := by
    rw [List.append_assoc, List.append_assoc]
    exact List.take_left' la
  have t2 : (A ++ Z ++ Bq ++ Y).drop (i * k + k) = Bq ++ Y := by
    rw [List.append_assoc (A ++ Z)]
    exact List.drop_left' (by rw [List.length_append, la, lc])
  rw [t1, t2]
  simp only [List.append_assoc]
/-- Into a new row: the element first, then the cells behind. -/
theorem rowX_grow {e base : Nat} {W : World} {g cap i : Nat} {xs : List α} {cur : Array Value} {rest : List Value} (hk : ∀ x, (enc x).length = k) (hb : base ≤ g) (hh : W.heap[g]? = some (.cells cur e (0, 0))) (hc : cur.size = cap * k) (ht : cur.toList = flatE enc (xs.take i) ++ rest) (hi : i ≤ xs.length) (hr : xs.length + 1 ≤ cap) (hm : cap ≤ maxLen) (c : α) :
    RowX enc k e ((W.setCells g (i * k) (enc c)).setCells g ((i + 1) * k) (flatE enc (xs.drop i))) base g cap (xs.take i ++ c :: xs.drop i) := by
  have la : (flatE enc (xs.take i)).length = i * k := by rw [flatE_length hk, List.length_take, Nat.min_eq_left hi]
  have lb : (flatE enc (xs.drop i)).length = (xs.length - i) * k := by rw [flatE_length hk, List.length_drop]
  have m1 : (i + 1) * k = i * k + k := Nat.succ_mul _ _
  have m2 : (xs.length - i) * k = xs.length * k - i * k := Nat.sub_mul _ _ _
  have m3 : i * k ≤ xs.length * k := Nat.mul_le_mul_right _ hi
  have m4 : (xs.length + 1) * k ≤ cap * k := Nat.mul_le_mul_right _ hr
  have m5 : (xs.length + 1) * k = xs.length * k + k := Nat.succ_mul _ _
  obtain ⟨cur1, h3, h4, h5⟩ := setCells_row (enc c) (i * k) W cur hh (by rw [hk]; omega)
  obtain ⟨cur2, g3, g4, g5⟩ := setCells_row (flatE enc (xs.drop i)) ((i + 1) * k) _ cur1 h3 (by rw [h4]; omega)
  refine ⟨hb, by simp; omega, hm, cur2, cur1.toList.drop ((i + 1) * k + (flatE enc (xs.drop i)).length), g3, by rw [g4, h4, hc], ?_⟩
  have e1 : cur1.toList.take ((i + 1) * k) = flatE enc (xs.take i) ++ enc c := by
    rw [h5, ht, m1]
    have t1 : (flatE enc (xs.take i) ++ rest).take (i * k) = flatE enc (xs.take i) := List.take_left' la
    rw [t1]
    exact List.take_left' (by rw [List.length_append, la, hk])
  rw [g5, e1, flatE_append, flatE_cons]
  simp only [List.append_assoc]
end
theorem drew_setCells (b : Nat) : ∀ (vs : List Value) (o : Nat) (w : World), (w.setCells b o vs).drew = w.drew.setCells b o vs
  | [], _, _ => rfl
  | v :: r, o, w => by rw [World.setCells, World.setCells, drew_setCells b r]; rfl
end Go.Proofs.YtcmepoakcffpaaaGreat.L
namespace Go.Proofs.YtcmepoakcffpaaaGreat.L
open Go Go.RowKit Go.Proofs.YtcmepoakcffpaaaGreatW.PrintWords Go.Proofs.YtcmepoakcffpaaaGreatW.PrintLast Go.Proofs.YtcmepoakcffpaaaGreatW.PrintMore Go.Proofs.YtcmepoakcffpaaaGreat.L
set_option linter.unusedVariables false
set_option linter.unusedSimpArgs false
/-! Lists that grow: a row of one's own, and an elder header of it that still reads what it read. -/
section
variable {α : Type} {enc : α → List Value} {k e : Nat}
/-- The header v is the row xs, in a block of one's own. -/
def Rw (enc : α → List Value) (k e : Nat) (v : Value) (xs : List α) (W : World) (F : Nat → Prop) : Prop := (v = .slice none 0 0 ∧ xs = []) ∨ ∃ g cap, v = .slice (some ⟨g, 0, none⟩) xs.length cap ∧ RowX enc k e W 0 g cap xs ∧ F g
theorem RowX.same {base : Nat} {W W1 : World} {g cap : Nat} {xs : List α} (h : RowX enc k e W base g cap xs) (hk : W1.heap[g]? = W.heap[g]?) : RowX enc k e W1 base g cap xs := by
  obtain ⟨cur, rest, hh, hc, ht⟩ := h.has
  exact ⟨h.le, h.len, h.max, cur, rest, hk.trans hh, hc, ht⟩
theorem Rw.same {v : Value} {xs : List α} {W W' : World} {F : Nat → Prop} (h : Rw enc k e v xs W F) (hk : ∀ b, F b → W'.heap[b]? = W.heap[b]?) : Rw enc k e v xs W' F := by
  rcases h with h | ⟨g, cap, h1, h2, h3⟩
  · exact .inl h
  · exact .inr ⟨g, cap, h1, h2.same (hk g h3), h3⟩
theorem Rw.mono {v : Value} {xs : List α} {W : World} {F F' : Nat → Prop} (h : Rw enc k e v xs W F) (hk : ∀ b, F b → F' b) : Rw enc k e v xs W F' := by
  rcases h with h | ⟨g, cap, h1, h2, h3⟩
  · exact .inl h
  · exact .inr ⟨g, cap, h1, h2, hk g h3⟩
theorem Rw.form {v : Value} {xs : List α} {W : World} {F : Nat → Prop} (h : Rw enc k e v xs W F) : ∃ A c, v = .slice A xs.length c := by
  rcases h with ⟨h, rfl⟩ | ⟨g, cap, h1, h2, h3⟩
  · exact ⟨none, 0, h⟩
  · exact ⟨_, _, h1⟩
/-- What is read of it. -/
theorem Rw.reads {v : Value} {xs : List α} {W : World} {F : Nat → Prop} (h : Rw enc k e v xs W F) : ∃ A c, v = .slice A xs.length c ∧ xs.length ≤ c ∧ ∀ j u, (flatE enc xs)[j]? = some u → ∃ g, A = some ⟨g, 0, none⟩ ∧ W.cell? ⟨g, j, none⟩ = some u := by
  rcases h with ⟨h, rfl⟩ | ⟨g, cap, h1, h2, h3⟩
  · exact ⟨none, 0, h, Nat.le_refl _, fun j u hu => by simp [flatE] at hu⟩
  · exact ⟨_, _, h1, h2.len, fun j u hu => ⟨g, rfl, h2.cells j u hu⟩⟩
def RwAt (enc : α → List Value) (k e : Nat) (v : Value) (xs : List α) : HP where
  on := fun W F => Rw enc k e v xs W F ∧ ∀ b, F b → b < W.heap.size
  frame := fun h hk => ⟨h.1.same hk, fun b hF => lt_of_same (h.2 b hF) (hk b hF)⟩
  lt := fun h hk => h.2 _ hk
/-- u is an elder header that reads xs, v what became of the row. -/
def Gr (enc : α → List Value) (k e : Nat) (u : Value) (xs : List α) (v : Value) (ys : List α) : HP where
  on := fun W F => Rw enc k e u xs W F ∧ Rw enc k e v ys W F ∧ xs.length ≤ ys.length ∧ ∀ b, F b → b < W.heap.size
  frame := fun h hk => ⟨h.1.same hk, h.2.1.same hk, h.2.2.1, fun b hF => lt_of_same (h.2.2.2 b hF) (hk b hF)⟩
  lt := fun h hk => h.2.2.2 _ hk
theorem Gr.start {v : Value} {xs : List α} {W : World} {F : Nat → Prop} (h : (RwAt enc k e v xs).on W F) : (Gr enc k e v xs v xs).on W F := ⟨h.1, h.1, Nat.le_refl _, h.2⟩
theorem RwAt.nil (W : World) : (RwAt enc k e (.slice none 0 0) []).on W (fun _ => False) := ⟨.inl ⟨rfl, rfl⟩, fun _ h => h.elim⟩
/-- More is written behind. -/
theorem rowX_room {base : Nat} {W : World} {g cap : Nat} {ys zs : List α} (hk : ∀ x, (enc x).length = k) (h : RowX enc k e W base g cap ys) (hr : ys.length + zs.length ≤ cap) : RowX enc k e (W.setCells g (ys.length * k) (flatE enc zs)) base g cap (ys ++ zs) := by
  obtain ⟨cur, rest, hh, hc, ht⟩ := h.has
  have hl : ys.length * k + (flatE enc zs).length ≤ cur.size := by
    rw [hc, flatE_length hk, ← Nat.add_mul]
    exact Nat.mul_le_mul_right _ hr
  obtain ⟨cur', h3, h4, h5⟩ := setCells_row (flatE enc zs) (ys.length * k) W cur hh hl
  refine ⟨h.le, by rw [List.length_append]; exact hr, h.max, cur', cur.toList.drop (ys.length * k + (flatE enc zs).length), h3, by rw [h4, hc], ?_⟩
  rw [h5, flatE_append]
  congr 2
  rw [ht, List.take_append_of_le_length (by rw [flatE_length hk]; exact Nat.le_refl _), List.take_of_length_le (by rw [flatE_length hk]; exact Nat.le_refl _)]
/-- A row that is newly made. -/
theorem rowX_new {W : World} {zs : List α} {cap : Nat} {z : Value} (hk : ∀ x, (enc x).length = k) (hz : z.cells.size = k) (h : zs.length ≤ cap) (hm : cap ≤ maxLen) : RowX enc k e (W.drew.alloc (.cells ((flatE enc zs).toArray ++ Builtin.zeroCells z.cells (cap - zs.length)) e)) 0 W.heap.size cap zs := by
  refine ⟨Nat.zero_le _, h, hm, _, (Builtin.zeroCells z.cells (cap - zs.length)).toList, heap_alloc_new W.drew _, ?_, by rw [Array.toList_append]⟩
  rw [Array.size_append, List.size_toArray, flatE_length hk, size_zeroCells, hz, ← Nat.add_mul]
  congr 1
  omega
theorem oneL (h1 : ∀ x, ∀ u ∈ enc x, u.oneCell' = true) (l : List α) : ∀ u ∈ flatE enc l, u.oneCell' = true := by
  intro u hu
  obtain ⟨x, _, hx⟩ := List.mem_flatMap.1 hu
  exact h1 x u hx
theorem add_zero_off' (b n : Nat) : (⟨b, 0, none⟩ : Addr).add n = ⟨b, n, none⟩ := by
  unfold Addr.add
  split
  · rename_i h; rw [h]
  · simp
/-- The elder header's row, as what is there now begins. -/
theorem Gr.append {P : Program} (hk0 : 0 < k) {t tx : TypeId} {i0 : TypeInfo} {z : Value} {u v x : Value} {xs ys zs : List α} {W : World} {F : Nat → Prop} (hk : ∀ x, (enc x).length = k) (h1 : ∀ x, ∀ u ∈ enc x, u.oneCell' = true) (ht : P.underlying t = some (.slice e)) (hi : P.info? e = some i0) (hz : i0.zero = some z) (hzs : z.cells.size = k) (hs : i0.size = k) (hby : i0.bytes ≤ 1000)
    (h : (Gr enc k e u xs v ys).on W F) (src : Src P i0.size tx x zs.length (flatE enc zs) W) (hm : ys.length + zs.length < 900000) :
    ∃ A c W', (∀ ty, (Builtin.append_ #[t, tx] ty #[v, x]).run P W = .ok (.slice A (ys ++ zs).length c) W') ∧ Upd W F (Gr enc k e u xs (.slice A (ys ++ zs).length c) (ys ++ zs)) W' := by
  have grow : ∀ A c, v = .slice A ys.length c → c < ys.length + zs.length → (Builtin.firstCells k ys.length (.slice A ys.length c)).run P W.drew = .ok (flatE enc ys).toArray W.drew →
      ∃ A c W', (∀ ty, (Builtin.append_ #[t, tx] ty #[v, x]).run P W = .ok (.slice A (ys ++ zs).length c) W') ∧ Upd W F (Gr enc k e u xs (.slice A (ys ++ zs).length c) (ys ++ zs)) W' := by
    intro A c hv hc hold
    subst hv
    have hrun := fun ty => run_append_grow_src (P := P) W t tx ty e i0 z ht hi hz A ys.length c (flatE enc ys) (by rw [hs]; exact hold) x zs.length (flatE enc zs) src hc (by omega) (growslice_fits (bytes := i0.bytes) hc (Nat.le_trans (Nat.mul_le_mul (Nat.le_of_lt hm) hby) (by decide)))
    simp only [← flatE_append, ← List.length_append] at hrun
    obtain ⟨cap', hcap⟩ : ∃ cap', cap' = grownCap W (ys ++ zs).length c e := ⟨_, rfl⟩
    have hc1 : (ys ++ zs).length ≤ cap' := by rw [hcap]; exact grownCap_ge W _ c _
    have hc2 : cap' ≤ maxLen := by rw [hcap]; exact grownCap_le_maxLen W _ c _ (by rw [List.length_append]; simp only [maxLen]; omega)
    simp only [← hcap] at hrun
    have hX := rowX_new (W := W) (e := e) hk hzs hc1 hc2
    refine ⟨_, _, _, hrun, Upd.mk (F' := fun b => (F b ∨ b = W.heap.size)) ⟨?_, .inr ⟨_, _, rfl, hX, .inr rfl⟩, by rw [List.length_append]; have := h.2.2.1; omega, ?_⟩ (((Eff.refl _ _).drew.alloc _).any F) (fun b hb => hb.imp id (fun hb => by rw [hb]; exact Nat.le_refl _))⟩
    · rcases h.1 with hn | ⟨g', cap', b1, b2, b3⟩
      · exact .inl hn
      · refine .inr ⟨g', cap', b1, b2.same ?_, .inl b3⟩
        have := h.2.2.2 g' b3
        show (W.drew.alloc _).heap[g']? = _
        exact ((Eff.refl (fun _ => False) W).drew.alloc _).block g' this id
    · intro b hb
      rcases hb with hb | rfl
      · exact Nat.lt_of_lt_of_le (h.2.2.2 b hb) (((Eff.refl (fun _ => False) W).drew.alloc _).size)
      · show _ < (W.drew.alloc _).heap.size
        simp
  rcases h.2.1 with ⟨hv, hy⟩ | ⟨g, cap, hv, hX, hF⟩
  · subst hy
    by_cases hz0 : zs.length = 0
    · obtain rfl : zs = [] := List.eq_nil_of_length_eq_zero hz0
      subst hv
      obtain ⟨n1, n2, n3, n4, n5, n6⟩ := src
      refine ⟨none, 0, W, fun ty => ?_, F, h, Eff.refl _ _, fun _ hb => .inl hb⟩
      have hl0 := n2 W
      have n3' : (Builtin.firstCells i0.size 0 x).run P W = .ok (#[] : Array Value) W := n3
      rcases n1 with ⟨e', hk'⟩ | hk' <;> simp [Builtin.append_, run_underlying ht, run_underlying hk', sizeOf, typeInfo, hi, hl0, n3', storeCells]
    · exact grow none 0 hv (by simp only [List.length_nil]; omega) (run_firstCells_none W.drew k 0 0 0)
  · by_cases hroom : ys.length + zs.length ≤ cap
    · subst hv
      have hl : (flatE enc zs).length = zs.length * k := flatE_length hk zs
      have hle : ys.length * k + zs.length * k ≤ cap * k := by rw [← Nat.add_mul]; exact Nat.mul_le_mul_right _ hroom
      have hrun := fun ty => run_append_room_src (P := P) W t tx ty e i0 ht hi g 0 ys.length cap x zs.length (flatE enc zs) src hroom (fun j hj => by rw [hs, Nat.zero_add]; exact hX.some _ (by omega)) (fun j _ => hX.free _)
      simp only [hs, Nat.zero_add, ← List.length_append] at hrun
      refine ⟨_, _, _, hrun, F, ⟨?_, .inr ⟨g, cap, rfl, rowX_room hk hX hroom, hF⟩, by rw [List.length_append]; have := h.2.2.1; omega, fun b hb => Nat.lt_of_lt_of_le (h.2.2.2 b hb) (eff_setCells g _ _ W).size⟩, (eff_setCells g _ _ W).mono (fun i hi => by subst hi; exact hF), fun _ hb => .inl hb⟩
      rcases h.1 with hn | ⟨g', cap', b1, b2, b3⟩
      · exact .inl hn
      · refine .inr ⟨g', cap', b1, ?_, b3⟩
        by_cases hg : g' = g
        · subst hg
          have hcc : cap' = cap := by
            obtain ⟨c1, r1, hh1, hs1, _⟩ := b2.has
            obtain ⟨c2, r2, hh2, hs2, _⟩ := hX.has
            rw [hh1] at hh2
            injection hh2 with hh2
            injection hh2 with hh2
            rw [hh2] at hs1
            rw [hs1] at hs2
            exact Nat.eq_of_mul_eq_mul_right hk0 hs2
          subst hcc
          exact RowX.behind hk b2 (Nat.mul_le_mul_right _ h.2.2.1) (by rw [hl]; exact hle)
        · exact b2.eff (eff_setCells g _ _ W) hg
    · refine grow (some ⟨g, 0, none⟩) cap hv (by omega) ?_
      refine run_firstCells_some (P := P) W.drew k ys.length ⟨g, 0, none⟩ ys.length cap (flatE enc ys) (flatE_length hk ys) (fun j u hj => ?_)
      rw [add_zero_off']
      exact hX.cells j u hj
theorem upd_go {W W1 W2 : World} {F F1 : Nat → Prop} {T : HP} (e : Eff F W W1) (hk : ∀ b, F1 b → F b ∨ W.heap.size ≤ b) (h : Upd W1 F1 T W2) : Upd W F T W2 := by
  obtain ⟨F2, h2, e2, k2⟩ := h
  refine ⟨F2, h2, e.trans e2 hk, fun b hb => ?_⟩
  rcases k2 b hb with h | h
  · exact hk b h
  · exact .inr (Nat.le_trans e.size h)
end
end Go.Proofs.YtcmepoakcffpaaaGreat.L
namespace Go.Proofs.YtcmepoakcffpaaaGreat.L
open Go Go.RowKit Go.Proofs.YtcmepoakcffpaaaGreatW.PrintWords Go.Proofs.YtcmepoakcffpaaaGreatW.PrintLast Go.Proofs.YtcmepoakcffpaaaGreatW.PrintMore Go.Proofs.YtcmepoakcffpaaaGreat.L
set_option linter.unusedVariables false
set_option linter.unusedSimpArgs false
/-! Rows of one's own: more behind, one written anew, read by the words' kinds. -/
section
variable {α : Type} {enc : α → List Value} {k e : Nat}
theorem Gr.now {u v : Value} {xs ys : List α} {W : World} {F : Nat → Prop} (h : (Gr enc k e u xs v ys).on W F) : (RwAt enc k e v ys).on W F := ⟨h.2.1, h.2.2.2⟩
theorem RwAt.append {P : Program} (hk0 : 0 < k) {t tx : TypeId} {i0 : TypeInfo} {z : Value} {v x : Value} {ys zs : List α} {W : World} {F : Nat → Prop} (hk : ∀ x, (enc x).length = k) (h1 : ∀ x, ∀ u ∈ enc x, u.oneCell' = true) (ht : P.underlying t = some (.slice e)) (hi : P.info? e = some i0) (hz : i0.zero = some z) (hzs : z.cells.size = k) (hs : i0.size = k) (hby : i0.bytes ≤ 1000)
    (h : (RwAt enc k e v ys).on W F) (src : Src P i0.size tx x zs.length (flatE enc zs) W) (hm : ys.length + zs.length < 900000) :
    ∃ A c W', (∀ ty, (Builtin.append_ #[t, tx] ty #[v, x]).run P W = .ok (.slice A (ys ++ zs).length c) W') ∧ Upd W F (RwAt enc k e (.slice A (ys ++ zs).length c) (ys ++ zs)) W' := by
  obtain ⟨A, c, W', hr, hU⟩ := Gr.append hk0 hk h1 ht hi hz hzs hs hby (Gr.start h) src hm
  exact ⟨A, c, W', hr, hU.imp (fun _ h => Gr.now h)⟩
/-- A literal of elements as a source. -/
theorem lit_src {P : Program} {size : Nat} {tx e' : TypeId} (hk : ∀ x, (enc x).length = k) (h1 : ∀ x, ∀ u ∈ enc x, u.oneCell' = true) (hu : P.underlying tx = some (.slice e')) (hs : size = k) {W : World} {b t : Nat} {zs : List α} {f : Nat × Nat} (h : W.heap[b]? = some (.cells (flatE enc zs).toArray t f)) (c : Nat) : Src P size tx (.slice (some ⟨b, 0, none⟩) zs.length c) zs.length (flatE enc zs) W :=
  Src.ofSlice (P := P) W hu ⟨b, 0, none⟩ zs.length c (flatE enc zs) (by rw [flatE_length hk, hs]) (fun j u hj => by
    rw [add_zero_off']
    unfold World.cell?
    rw [h]
    simp only [List.getElem?_toArray]
    exact hj) (oneL h1 zs)
/-- A row as a source. -/
theorem Rw.src {P : Program} {size : Nat} {tx e' : TypeId} (hk : ∀ x, (enc x).length = k) (h1 : ∀ x, ∀ u ∈ enc x, u.oneCell' = true) (hu : P.underlying tx = some (.slice e')) (hs : size = k) {v : Value} {zs : List α} {W : World} {F : Nat → Prop} (h : Rw enc k e v zs W F) : Src P size tx v zs.length (flatE enc zs) W := by
  rcases h with ⟨rfl, rfl⟩ | ⟨g, cap, rfl, hX, _⟩
  · exact Src.ofNil (P := P) W hu 0
  · refine Src.ofSlice (P := P) W hu ⟨g, 0, none⟩ zs.length cap (flatE enc zs) (by rw [flatE_length hk, hs]) (fun j u hj => ?_) (oneL h1 zs)
    rw [add_zero_off']
    exact hX.cells j u hj
/-- .. read by a kind of the words. -/
theorem Rw.C {d : Kd α} (hs : d.sz = k) (hk : ∀ x, (enc x).length = k) (hM : ∀ (w : World) (base : Nat) (ok : Nat → Prop) (x : α), d.M w base ok x (enc x)) {v : Value} {xs : List α} {W : World} {F : Nat → Prop} (h : Rw enc k e v xs W F) : ∃ A c, v = .slice A xs.length c ∧ xs.length ≤ c ∧ d.C W A xs.length xs := by
  rcases h with ⟨rfl, rfl⟩ | ⟨g, cap, rfl, hX, hF⟩
  · exact ⟨none, 0, rfl, Nat.le_refl _, rfl, by simp, fun h => absurd h (Nat.lt_irrefl 0)⟩
  · have := RowX.toR (d := d) (ok := F) hs hk hM hX hF
    exact Kd.R_reads this
/-- A row that a call made, told by the words' R, is one of one's own. -/
theorem RwAt.of_R {d : Kd α} (hs : d.sz = k) (hM : ∀ {w : World} {base : Nat} {ok : Nat → Prop} {x : α} {cs : List Value}, d.M w base ok x cs → cs = enc x) {v : Value} {xs : List α} {W : World} {base : Nat} {ok : Nat → Prop} (h : d.R e W base ok v xs) : (RwAt enc k e v xs).on W (fun b => v.ownBlock = some b) := by
  refine ⟨?_, fun b hb => Kd.R_lt h b hb⟩
  rcases Kd.R_own h with ⟨inner, ho⟩
  rcases ho.2 with ⟨hv, h0⟩ | ⟨g, cap, cur, hv, hg, _⟩
  · exact .inl ⟨hv, List.length_eq_zero_iff.mp h0⟩
  · subst hv
    have hX : RowX enc k e W base g cap xs := RowX.of_R (d := d) hs hM h
    exact .inr ⟨g, cap, rfl, ⟨Nat.zero_le _, hX.len, hX.max, hX.has⟩, by simp [Value.ownBlock]⟩
end
/-- One element of one cell is written anew. -/
theorem RwAt.put {α : Type} {f : α → Value} {e : Nat} {v : Value} {xs : List α} {W : World} {F : Nat → Prop} (h : (RwAt (fun x => [f x]) 1 e v xs).on W F) (j : Nat) (hj : j < xs.length) (y : α) : ∃ g c, v = .slice (some ⟨g, 0, none⟩) xs.length c ∧ xs.length ≤ c ∧ (∃ u, W.cell? ⟨g, j, none⟩ = some u) ∧ W.frozen? ⟨g, j, none⟩ = false ∧ Upd W F (RwAt (fun x => [f x]) 1 e v (xs.set j y)) (W.setCell ⟨g, j, none⟩ (f y)) := by
  rcases h.1 with ⟨_, rfl⟩ | ⟨g, cap, rfl, hX, hF⟩
  · exact absurd hj (Nat.not_lt_zero _)
  · refine ⟨g, cap, rfl, hX.len, Option.isSome_iff_exists.1 (hX.some j (by have := hX.len; omega)), hX.free j, F, ⟨.inr ⟨g, cap, by rw [List.length_set], ?_, hF⟩, fun b hb => ?_⟩, ?_, fun _ hb => .inl hb⟩
    · obtain ⟨cur, rest, hh, hc, ht⟩ := hX.has
      obtain ⟨cur', h3, h4, h5⟩ := setCells_row [f y] j W cur hh (by rw [hc]; have := hX.len; simp; omega)
      refine ⟨hX.le, by rw [List.length_set]; exact hX.len, hX.max, cur', rest, h3, by rw [h4, hc], ?_⟩
      have hfl : ∀ l : List α, flatE (fun x => [f x]) l = l.map f := fun l => by
        unfold flatE
        induction l with
        | nil => rfl
        | cons a l ih => rw [List.flatMap_cons, ih]; rfl
      rw [h5, ht, hfl, hfl, List.map_set]
      have hjl : j < (xs.map f).length := by rw [List.length_map]; exact hj
      rw [List.take_append_of_le_length (by omega), List.drop_append_of_le_length (by simp; omega), List.set_eq_take_append_cons_drop, if_pos hjl]
      simp
    · have := h.2 b hb
      simpa [World.setCell] using this
    · exact (Eff.refl _ _).set _ _ (.inl hF)
section
variable {w W : World} {l : List HP} {S : HP} {i : Nat}
/-- What is done to one part, told by what it makes of it. -/
theorem Own.actAt {X : Type} {S' : X → HP} {p : X → World → Prop} (o : Own w W (Stars l)) (i : Nat) (hi : l[i]? = some S) (c : ∀ F, S.on W F → ∃ x W', p x W' ∧ Upd W F (S' x) W') : ∃ x W', p x W' ∧ Own w W' (Stars (l.set i (S' x))) := by
  have hl : i < l.length := (List.getElem?_eq_some_iff.1 hi).1
  have o1 := o.pullAt i hi
  obtain ⟨hb, F, hF, hFw⟩ := o1
  obtain ⟨F1, h1, k1, u1⟩ := Sep.focus hF
  obtain ⟨x, W', hp, hU⟩ := c F1 h1
  obtain ⟨F', h', ef, hk⟩ := u1 _ _ hU
  refine ⟨x, W', hp, Own.pushAt (S := S' x) ⟨below_eff hb (Nat.le_refl _) ef hFw, F', h', fun k hk' => ?_⟩ hl⟩
  rcases hk k hk' with h | h
  · exact hFw k h
  · exact Nat.le_trans hb.size h
end
/-- append whose run is known, as a step of a region that draws. -/
theorem step_ap {P : Program} {ops : Array Oper} {o : Oper} {a : Act} {w : World} {K : Act → World → Prop} {Q : Exit → Act → World → Prop} {E : Prop} (hgd : o.guard = none) (d s : Operand) (t t' : TypeId) (ho : o.op = .call { callee := .builtin .append, args := #[d, s], argTypes := #[t, t'] })
    (v u : Value) (hd : a.eval d = v) (hs : a.eval s = u) {v' : Value} {w' : World} (hr : (Builtin.append_ #[t, t'] o.type #[v, u]).run P w = .ok v' w') (h : K (a.put o.dst v') w') : if Region.wanted o (yielded ops a.tmps) = true then Oper.wp P o a w K Q else E := by
  rw [if_pos (by simp [Region.wanted, hgd])]
  unfold Oper.wp execOp
  simp only [ho, resolve, invoke, builtin, Sem.run_bind, Sem.run_pure, Result.andThen_ok, List.map_toArray, List.map_cons, List.map_nil, hd, hs, hr]
  exact h
end Go.Proofs.YtcmepoakcffpaaaGreat.L
