import Derived.Maps.RangeWalk
import Derived.WalkKit
import Derived.ChangeMaps5
namespace Go.Proofs.YtcmepoakcffpaaaGreat.L
open Go Go.RowKit
set_option linter.unusedVariables false
set_option linter.unusedSimpArgs false
open Go.MapKept Go.ChangeMaps
/-- The keys of a map: numbers or texts. -/
structure Key (K : Type) where
  enc : K → Value
  d : TypeDesc
  is : ∀ k, IsKey d (enc k)
  inj : ∀ a b, enc a = enc b → a = b
def keyInt : Key Int := ⟨.int .i64, .int .i64, fun _ => rfl, fun a b h => by injection h⟩
def keyStr : Key ByteArray := ⟨.string, .string, fun _ => trivial, fun a b h => by injection h⟩
theorem run_equalIn_map_nil {P : Program} (w : World) (d : Nat) (t k e : TypeId) (a : Option Nat) (h : P.underlying t = some (.map k e)) : (Op.equalIn (d + 1) t (.map a) (.map none)).run P w = .ok a.isNone w := by
  cases a <;> simp [Op.equalIn, run_underlying h]
/-- 'm == nil'. -/
theorem run_eql_map_nil {P : Program} (w : World) (t k e : TypeId) (a : Option Nat) (h : P.underlying t = some (.map k e)) : (binOp .eql t (.map a) (.map none)).run P w = .ok (.bool a.isNone) w := by
  simp only [binOp]
  simp [Op.equal, Op.maxDepth, run_equalIn_map_nil w 9999 t k e a h]
theorem nodup_at {α : Type} {l : List α} (h : l.Nodup) {i j : Nat} {a : α} (hi : l[i]? = some a) (hj : l[j]? = some a) : i = j := by
  obtain ⟨hi1, hi2⟩ := List.getElem?_eq_some_iff.1 hi
  obtain ⟨hj1, hj2⟩ := List.getElem?_eq_some_iff.1 hj
  rcases Nat.lt_trichotomy i j with hlt | he | hlt
  · exact absurd (hi2.trans hj2.symm) (List.pairwise_iff_getElem.1 h i j hi1 hj1 hlt)
  · exact he
  · exact absurd (hj2.trans hi2.symm) (List.pairwise_iff_getElem.1 h j i hj1 hi1 hlt)
section
variable {K : Type} [DecidableEq K]
def look (l : List (K × Value)) (k : K) : Option Value := (l.find? (fun p => decide (p.1 = k))).map (·.2)
def put (l : List (K × Value)) (k : K) (v : Value) : List (K × Value) := if (look l k).isSome then l.map (fun p => if p.1 = k then (k, v) else p) else l ++ [(k, v)]
def del (l : List (K × Value)) (k : K) : List (K × Value) := l.filter (fun p => decide (p.1 ≠ k))
end
section
variable {K : Type} {κ : Key K} {P : Program} {w : World} {b : Nat} {l : List (K × Value)}
/-- Block b is a map that holds l, in the order in which its keys came. -/
def MapAt (κ : Key K) (w : World) (b : Nat) (l : List (K × Value)) : Prop :=
  ∃ es clock, w.heap[b]? = some (.map es clock) ∧ es.toList.map (fun e => (e.key, e.val)) = l.map (fun p => (κ.enc p.1, p.2)) ∧ Stamped es clock
theorem MapAt.made (κ : Key K) (w : World) : MapAt κ (w.alloc (.map #[] 0)) w.heap.size [] := ⟨#[], 0, (MapKept.heap_alloc w _).1, rfl, stamped_empty 0⟩
theorem MapAt.lt (h : MapAt κ w b l) : b < w.heap.size := by
  obtain ⟨es, clock, hb, _⟩ := h
  exact (Array.getElem?_eq_some_iff.1 hb).1
theorem MapAt.move {w' : World} (h : MapAt κ w b l) (hb : w'.heap[b]? = w.heap[b]?) : MapAt κ w' b l := by
  obtain ⟨es, clock, h1, h2, h3⟩ := h
  exact ⟨es, clock, hb.trans h1, h2, h3⟩
theorem MapAt.nodup (h : MapAt κ w b l) : (l.map (·.1)).Nodup := by
  obtain ⟨es, clock, _, h2, h3⟩ := h
  have h4 := h3.2.2
  have : es.toList.map (·.key) = (l.map (·.1)).map κ.enc := by
    have := congrArg (List.map Prod.fst) h2
    simpa [List.map_map, Function.comp_def] using this
  rw [this] at h4
  exact List.Pairwise.imp (fun hne e => hne (by rw [e])) (List.pairwise_map.1 h4)
theorem MapAt.keys {es : Array MapEntry} (h2 : es.toList.map (fun e => (e.key, e.val)) = l.map (fun p => (κ.enc p.1, p.2))) : ∀ x ∈ es.toList, IsKey κ.d x.key := by
  intro x hx
  have : (x.key, x.val) ∈ l.map (fun p => (κ.enc p.1, p.2)) := by rw [← h2]; exact List.mem_map.2 ⟨x, hx, rfl⟩
  obtain ⟨p, _, hp⟩ := List.mem_map.1 this
  injection hp with h _
  rw [← h]
  exact κ.is _
theorem MapAt.get {es : Array MapEntry} (h2 : es.toList.map (fun e => (e.key, e.val)) = l.map (fun p => (κ.enc p.1, p.2))) {j : Nat} {e : MapEntry} (hj : es.toList[j]? = some e) : ∃ p, l[j]? = some p ∧ e.key = κ.enc p.1 ∧ e.val = p.2 := by
  have h := congrArg (fun z => z[j]?) h2
  simp only [List.getElem?_map, hj, Option.map_some] at h
  cases hl : l[j]? with
  | none => rw [hl] at h; cases h
  | some p =>
    rw [hl] at h
    simp only [Option.map_some, Option.some.injEq, Prod.mk.injEq] at h
    exact ⟨p, rfl, h.1, h.2⟩
variable [DecidableEq K]
set_option linter.unusedSectionVars false
theorem look_none {k : K} (h : ∀ p ∈ l, p.1 ≠ k) : look l k = none := by
  unfold look
  rw [List.find?_eq_none.2 (fun p hp => by simpa using h p hp)]
  rfl
theorem look_some {k : K} {v : Value} (hn : (l.map (·.1)).Nodup) {j : Nat} (hj : l[j]? = some (k, v)) : look l k = some v := by
  unfold look
  have hm : (k, v) ∈ l := List.mem_of_getElem? hj
  cases hf : l.find? (fun p => decide (p.1 = k)) with
  | none => exact absurd (List.find?_eq_none.1 hf _ hm) (by simp)
  | some q =>
    have hq := List.mem_of_find?_eq_some hf
    have hqk : q.1 = k := by simpa using List.find?_some hf
    have : q = (k, v) := by
      obtain ⟨i, hi⟩ := List.getElem?_of_mem hq
      have hij : i = j := by
        exact nodup_at hn (a := k) (by rw [List.getElem?_map, hi, ← hqk]; rfl) (by rw [List.getElem?_map, hj]; rfl)
      subst hij
      rw [hi] at hj
      injection hj
    rw [this]
    rfl
theorem MapAt.find {es : Array MapEntry} {clock : Nat} (k : K) (h2 : es.toList.map (fun e => (e.key, e.val)) = l.map (fun p => (κ.enc p.1, p.2))) (hn : (l.map (·.1)).Nodup) :
    (Instr.findNow κ.d (κ.enc k) es.toList 0 = some none ∧ (∀ p ∈ l, p.1 ≠ k) ∧ (∀ x ∈ es.toList, x.key ≠ κ.enc k)) ∨ ∃ j e, Instr.findNow κ.d (κ.enc k) es.toList 0 = some (some (j, e.val)) ∧ es[j]? = some e ∧ e.key = κ.enc k ∧ l[j]? = some (k, e.val) := by
  rcases findNow_spec (κ.is k) es.toList 0 (MapAt.keys h2) with ⟨h3, h4⟩ | ⟨j, e, h3, h4, h5⟩
  · refine .inl ⟨h3, fun p hp he => ?_, h4⟩
    have : (κ.enc p.1, p.2) ∈ es.toList.map (fun e => (e.key, e.val)) := by rw [h2]; exact List.mem_map.2 ⟨p, hp, rfl⟩
    obtain ⟨x, hx, hxe⟩ := List.mem_map.1 this
    injection hxe with hxe _
    exact h4 x hx (by rw [hxe, he])
  · obtain ⟨p, hp, hk, hv⟩ := MapAt.get h2 h4
    refine .inr ⟨j, e, by simpa using h3, by simpa using h4, h5, ?_⟩
    have := κ.inj _ _ (hk.symm.trans h5)
    rw [hp, hv, ← this]
/-- 'm[k]', 'v, ok := m[k]'. -/
theorem MapAt.lookup {t kt et : TypeId} (h : MapAt κ w b l) (ht : P.underlying t = some (.map kt et)) (hk : P.underlying kt = some κ.d) {z : Value} (hz : (zeroValue et).run P w = .ok z w) (k : K) (ok : Bool) :
    (Instr.lookup t (.map (some b)) (κ.enc k) ok).run P w = .ok (if ok then .tuple #[(look l k).getD z, .bool (look l k).isSome] else (look l k).getD z) w := by
  have hn := h.nodup
  obtain ⟨es, clock, hb, h2, h3⟩ := h
  rcases MapAt.find (clock := clock) k h2 hn with ⟨f1, f2, _⟩ | ⟨j, e, f1, f2, f3, f4⟩
  · rw [look_none f2]
    cases ok <;> simp [Instr.lookup, run_underlying ht, MapKept.run_getObj_map hb, MapKept.run_checkKey hk (κ.is k), MapKept.run_findKey hk f1, hz, Result.andThen]
  · rw [look_some hn f4]
    cases ok <;> simp [Instr.lookup, run_underlying ht, MapKept.run_getObj_map hb, MapKept.run_checkKey hk (κ.is k), MapKept.run_findKey hk f1, Result.andThen]
theorem lookup_nil {t kt et : TypeId} (κ : Key K) (w : World) (ht : P.underlying t = some (.map kt et)) (hk : P.underlying kt = some κ.d) {z : Value} (hz : (zeroValue et).run P w = .ok z w) (k : K) (ok : Bool) :
    (Instr.lookup t (.map none) (κ.enc k) ok).run P w = .ok (if ok then .tuple #[z, .bool false] else z) w := by
  cases ok <;> simp [Instr.lookup, run_underlying ht, MapKept.run_checkKey hk (κ.is k), Instr.findKey, Instr.findNow, run_underlying hk, hz, Result.andThen]
/-- 'len(m)'. -/
theorem MapAt.len {t kt et : TypeId} (h : MapAt κ w b l) (ht : P.underlying t = some (.map kt et)) (ty : TypeId) : (Builtin.len_ #[t] ty #[.map (some b)]).run P w = .ok (.int .i64 l.length) w := by
  obtain ⟨es, clock, hb, h2, h3⟩ := h
  have : es.size = l.length := by
    have := congrArg List.length h2
    simpa using this
  simp [Builtin.len_, run_underlying ht, MapKept.run_getObj_map hb, Result.andThen, goInt, this]
theorem setBlock_grown {es : Array MapEntry} {clock : Nat} (o' : Obj) (hb : w.heap[b]? = some (.map es clock)) : w.grownBy (setBlock w b o') (some b) := ⟨rfl, rfl, rfl, by simp [setBlock], fun i _ hi => heap_setBlock_other hb _ (fun e => hi (by rw [e]))⟩
/-- 'm[k] = v'. -/
theorem MapAt.update {t kt et : TypeId} (h : MapAt κ w b l) (ht : P.underlying t = some (.map kt et)) (hk : P.underlying kt = some κ.d) (k : K) (v : Value) :
    ∃ w', (Instr.mapUpdate t (.map (some b)) (κ.enc k) v).run P w = .ok () w' ∧ MapAt κ w' b (put l k v) ∧ w.grownBy w' (some b) ∧ w'.heap.size = w.heap.size := by
  have hn := h.nodup
  obtain ⟨es, clock, hb, h2, h3⟩ := h
  rcases MapAt.find (clock := clock) k h2 hn with ⟨f1, f2, f3⟩ | ⟨j, e, f1, f2, f3, f4⟩
  · refine ⟨setBlock w b (.map (es.push { key := κ.enc k, val := v, born := clock }) (clock + 1)), ?_, ⟨_, _, heap_setBlock_same hb _, ?_, stamped_push h3 f3⟩, setBlock_grown _ hb, by simp [setBlock]⟩
    · simp [Instr.mapUpdate, run_underlying ht, MapKept.run_getObj_map hb, MapKept.run_checkKey hk (κ.is k), MapKept.run_findKey hk f1, MapKept.run_setObj_map _ hb, Result.andThen, setBlock]
    · unfold put
      rw [look_none f2]
      simp [h2]
  · refine ⟨setBlock w b (.map (es.modify j fun e => { e with key := κ.enc k, val := v }) clock), ?_, ⟨_, _, heap_setBlock_same hb _, ?_, stamped_modify h3 _ _ (fun _ _ => rfl) (fun e' _ he' => by rw [f2] at he'; cases he'; exact f3.symm)⟩, setBlock_grown _ hb, by simp [setBlock]⟩
    · simp [Instr.mapUpdate, run_underlying ht, MapKept.run_getObj_map hb, MapKept.run_checkKey hk (κ.is k), MapKept.run_findKey hk f1, f2, f3, MapKept.run_keyThatStays (κ.is k), MapKept.run_setObj_map _ hb, Result.andThen, setBlock]
    · unfold put
      rw [look_some hn f4]
      simp only [Option.isSome_some, if_true]
      apply List.ext_getElem?
      intro i
      have h5 := congrArg (fun z => z[i]?) h2
      simp only [List.getElem?_map] at h5
      simp only [Array.toList_modify, List.getElem?_map, List.getElem?_modify]
      by_cases hij : j = i
      · subst hij
        have f2' : es.toList[j]? = some e := by simpa using f2
        simp [f2', f4]
      · cases hl : l[i]? with
        | none =>
          rw [hl] at h5
          cases he : es.toList[i]? with
          | none => simp
          | some e' => rw [he] at h5; cases h5
        | some p =>
          have hp : p.1 ≠ k := by
            intro hpk
            exact hij (nodup_at hn (a := k) (by rw [List.getElem?_map, f4]; rfl) (by rw [List.getElem?_map, hl, ← hpk]; rfl))
          rw [hl] at h5
          cases he : es.toList[i]? with
          | none => rw [he] at h5; cases h5
          | some e' =>
            rw [he] at h5
            simp only [Option.map_some] at h5
            simp [hij, hp, h5]
/-- 'delete(m, k)'. -/
theorem MapAt.drop {t kt et : TypeId} (h : MapAt κ w b l) (ht : P.underlying t = some (.map kt et)) (hk : P.underlying kt = some κ.d) (k : K) (ty : TypeId) :
    ∃ w', (Builtin.delete_ #[t, kt] ty #[.map (some b), κ.enc k]).run P w = .ok (.tuple #[]) w' ∧ MapAt κ w' b (del l k) ∧ w.grownBy w' (some b) ∧ w'.heap.size = w.heap.size := by
  have hn := h.nodup
  obtain ⟨es, clock, hb, h2, h3⟩ := h
  rcases MapAt.find (clock := clock) k h2 hn with ⟨f1, f2, f3⟩ | ⟨j, e, f1, f2, f3, f4⟩
  · refine ⟨setBlock w b (.map es clock), ?_, ⟨_, _, heap_setBlock_same hb _, ?_, h3⟩, setBlock_grown _ hb, by simp [setBlock]⟩
    · simp [Builtin.delete_, run_underlying ht, MapKept.run_getObj_map hb, MapKept.run_checkKey hk (κ.is k), MapKept.run_findKey hk f1, MapKept.run_setObj_map _ hb, Result.andThen, setBlock]
    · rw [h2]
      unfold del
      rw [List.filter_eq_self.2 (fun p hp => by simpa using f2 p hp)]
  · refine ⟨setBlock w b (.map (es.eraseIdxIfInBounds j) clock), ?_, ⟨_, _, heap_setBlock_same hb _, ?_, stamped_erase h3 j⟩, setBlock_grown _ hb, by simp [setBlock]⟩
    · simp [Builtin.delete_, run_underlying ht, MapKept.run_getObj_map hb, MapKept.run_checkKey hk (κ.is k), MapKept.run_findKey hk f1, MapKept.run_setObj_map _ hb, Result.andThen, setBlock]
    · have hj : j < es.size := (Array.getElem?_eq_some_iff.1 f2).1
      have e1 : (es.eraseIdxIfInBounds j).toList = es.toList.eraseIdx j := by
        unfold Array.eraseIdxIfInBounds
        rw [dif_pos hj]
        simp
      rw [e1]
      have e2 : (es.toList.eraseIdx j).map (fun e => (e.key, e.val)) = (l.eraseIdx j).map (fun p => (κ.enc p.1, p.2)) := by rw [ChangeMaps.map_eraseIdx, ChangeMaps.map_eraseIdx, h2]
      rw [e2]
      congr 1
      unfold del
      have hjl : j < l.length := (List.getElem?_eq_some_iff.1 f4).1
      have hlj : l[j] = (k, e.val) := (List.getElem?_eq_some_iff.1 f4).2
      have hsplit : l = l.take j ++ (k, e.val) :: l.drop (j + 1) := by
        rw [← hlj, List.getElem_cons_drop, List.take_append_drop]
      rw [hsplit] at hn
      rw [List.eraseIdx_eq_take_drop_succ]
      conv => rhs; rw [hsplit]
      rw [List.map_append, List.map_cons, List.nodup_append] at hn
      obtain ⟨_, n2, n3⟩ := hn
      rw [List.filter_append, List.filter_cons_of_neg (by simp)]
      rw [List.filter_eq_self.2, List.filter_eq_self.2]
      · intro p hp
        have := (List.nodup_cons.1 n2).1
        simp only [ne_eq, decide_not, Bool.not_eq_eq_eq_not, Bool.not_true, decide_eq_false_iff_not]
        exact fun he => this (List.mem_map.2 ⟨p, hp, he⟩)
      · intro p hp
        simp only [ne_eq, decide_not, Bool.not_eq_eq_eq_not, Bool.not_true, decide_eq_false_iff_not]
        exact fun he => n3 p.1 (List.mem_map.2 ⟨p, hp, rfl⟩) k List.mem_cons_self he
/-! ### a map is gone through -/
theorem filter_map_eq {α β γ : Type} {f : α → γ} {g : β → γ} {p : α → Bool} {q : β → Bool} : ∀ {L : List α} {R : List β}, L.map f = R.map g → (∀ x ∈ L, ∀ y ∈ R, f x = g y → p x = q y) → (L.filter p).map f = (R.filter q).map g
  | [], [], _, _ => rfl
  | [], _ :: _, h, _ => by cases h
  | _ :: _, [], h, _ => by cases h
  | x :: L, y :: R, h, hpq => by
    simp only [List.map_cons, List.cons.injEq] at h
    have ih := filter_map_eq h.2 (fun a ha b hb => hpq a (List.mem_cons_of_mem _ ha) b (List.mem_cons_of_mem _ hb))
    have e := hpq x List.mem_cons_self y List.mem_cons_self h.1
    by_cases hx : p x = true
    · rw [List.filter_cons_of_pos hx, List.filter_cons_of_pos (e ▸ hx), List.map_cons, List.map_cons, ih, h.1]
    · rw [List.filter_cons_of_neg hx, List.filter_cons_of_neg (e ▸ hx), ih]
/-- The iterator r goes through the map b, which holds l; left: what is still to come. -/
def Iter (κ : Key K) (w : World) (r b : Nat) (l left : List (K × Value)) : Prop :=
  ∃ es clock seen c0, w.heap[b]? = some (.map es clock) ∧ es.toList.map (fun e => (e.key, e.val)) = l.map (fun p => (κ.enc p.1, p.2)) ∧ Stamped es clock ∧ w.heap[r]? = some (.mapIter (some b) clock seen c0) ∧ clock ≤ c0 ∧
    (leftOf es seen).toList.map (fun e => (e.key, e.val)) = left.map (fun p => (κ.enc p.1, p.2))
theorem Iter.map {r : Nat} {left : List (K × Value)} (h : Iter κ w r b l left) : MapAt κ w b l := by
  obtain ⟨es, clock, seen, c0, h1, h2, h3, _⟩ := h
  exact ⟨es, clock, h1, h2, h3⟩
theorem Iter.move {w' : World} {r : Nat} {left : List (K × Value)} (h : Iter κ w r b l left) (hb : w'.heap[b]? = w.heap[b]?) (hr : w'.heap[r]? = w.heap[r]?) : Iter κ w' r b l left := by
  obtain ⟨es, clock, seen, c0, h1, h2, h3, h4, h5⟩ := h
  exact ⟨es, clock, seen, c0, hb.trans h1, h2, h3, hr.trans h4, h5⟩
theorem Iter.lt {r : Nat} {left : List (K × Value)} (h : Iter κ w r b l left) : r < w.heap.size := by
  obtain ⟨es, clock, seen, c0, h1, h2, h3, h4, h5⟩ := h
  exact (Array.getElem?_eq_some_iff.1 h4).1
theorem Iter.ne {r : Nat} {left : List (K × Value)} (h : Iter κ w r b l left) : r ≠ b := by
  obtain ⟨es, clock, seen, c0, h1, h2, h3, h4, h5⟩ := h
  rintro rfl
  rw [h1] at h4
  cases h4
/-- 'range m'. -/
theorem MapAt.range {t kt et : TypeId} (h : MapAt κ w b l) (ht : P.underlying t = some (.map kt et)) :
    ∃ o, (Instr.range t (.map (some b))).run P w = .ok (.pointer (some ⟨w.heap.size, 0, none⟩)) (w.alloc o) ∧ Iter κ (w.alloc o) w.heap.size b l l := by
  have hlt := h.lt
  obtain ⟨es, clock, hb, h2, h3⟩ := h
  refine ⟨.mapIter (some b) clock #[] clock, ?_, es, clock, #[], clock, by rw [(MapKept.heap_alloc w _).2 b hlt, hb], h2, h3, _root_.Go.heap_alloc_new w _, Nat.le_refl _, ?_⟩
  · simp [Instr.range, run_underlying ht, MapKept.run_getObj_map hb, Result.andThen, newObj, Sem.run]
  · have : leftOf es #[] = es := by unfold leftOf; exact Array.filter_eq_self.2 (by simp)
    rw [this, h2]
theorem Iter.next {r : Nat} {left : List (K × Value)} (h : Iter κ w r b l left) (ty : TypeId) :
    (left = [] ∧ (Instr.next (.pointer (some ⟨r, 0, none⟩)) false ty).run P w = .ok (.tuple #[.bool false]) w) ∨
    ∃ p ∈ left, ∃ w', (Instr.next (.pointer (some ⟨r, 0, none⟩)) false ty).run P w = .ok (.tuple #[.bool true, κ.enc p.1, p.2]) w' ∧ Iter κ w' r b l (del left p.1) ∧ w.grownBy w' (some r) ∧ w'.heap.size = w.heap.size ∧
      (Instr.entry (.pointer (some ⟨r, 0, none⟩))).run P w' = .ok (.tuple #[κ.enc p.1, p.2]) w' := by
  have hne := h.ne
  obtain ⟨es, clock, seen, c0, h1, h2, h3, h4, h5, h6⟩ := h
  have hst := (stamped_iff es clock).1 h3
  rcases run_next_at (P := P) w ty r b clock c0 seen es clock h4 h1 hst.1 h5 with ⟨g1, g2⟩ | ⟨e, he, w1, hw1, hrun⟩
  · left
    refine ⟨?_, g2⟩
    have : (leftOf es seen).toList = [] := by
      have : leftOf es seen = #[] := Array.eq_empty_of_size_eq_zero g1
      rw [this]
    rw [this] at h6
    simpa using h6.symm
  · right
    have hmem : (e.key, e.val) ∈ left.map (fun p => (κ.enc p.1, p.2)) := by rw [← h6]; exact List.mem_map.2 ⟨e, he, rfl⟩
    obtain ⟨p, hp, hpe⟩ := List.mem_map.1 hmem
    simp only [Prod.mk.injEq] at hpe
    obtain ⟨hpk, hpv⟩ := hpe
    have hes := (mem_left he).1
    have b1 : w1.heap[b]? = w.heap[b]? := by rcases hw1 with rfl | rfl <;> rfl
    have r1 : w1.heap[r]? = w.heap[r]? := by rcases hw1 with rfl | rfl <;> rfl
    have hr1 : w1.heap[r]? = some (.mapIter (some b) clock seen c0) := r1.trans h4
    have hrlt : r < w1.heap.size := (Array.getElem?_eq_some_iff.1 hr1).1
    have sb : ∀ i, i ≠ r → (setBlock w1 r (.mapIter (some b) clock (seen.push e.born) clock)).heap[i]? = w1.heap[i]? := fun i hi => by
      simp [setBlock, Array.getElem?_setIfInBounds, Ne.symm hi]
    have sr : (setBlock w1 r (.mapIter (some b) clock (seen.push e.born) clock)).heap[r]? = some (.mapIter (some b) clock (seen.push e.born) clock) := by
      simp [setBlock, hrlt]
    refine ⟨p, hp, setBlock w1 r (.mapIter (some b) clock (seen.push e.born) clock), ?_, ⟨es, clock, seen.push e.born, clock, ?_, h2, h3, sr, Nat.le_refl _, ?_⟩, ?_, ?_, ?_⟩
    · rw [hrun, hpk, hpv]
    · rw [sb b (Ne.symm hne), b1, h1]
    · have e1 : (leftOf es (seen.push e.born)).toList = (leftOf es seen).toList.filter (fun x => !(x.born == e.born)) := by
        unfold leftOf
        rw [Array.toList_filter, Array.toList_filter, List.filter_filter]
        congr 1
        funext x
        rw [contains_push]
        cases seen.contains x.born <;> cases (x.born == e.born) <;> rfl
      rw [e1]
      unfold del
      refine filter_map_eq h6 (fun x hx y hy hxy => ?_)
      simp only [Prod.mk.injEq] at hxy
      have hxs := (mem_left hx).1
      rw [Bool.eq_iff_iff]
      simp only [Bool.not_eq_eq_eq_not, Bool.not_true, beq_eq_false_iff_ne, ne_eq, decide_not, decide_eq_false_iff_not]
      refine not_congr ⟨fun hb => ?_, fun hk => ?_⟩
      · have : x = e := by
          obtain ⟨i, hi⟩ := List.getElem?_of_mem hxs
          obtain ⟨j, hj⟩ := List.getElem?_of_mem hes
          have := nodup_at hst.2.1 (a := e.born) (i := i) (j := j) (by rw [List.getElem?_map, hi, ← hb]; rfl) (by rw [List.getElem?_map, hj]; rfl)
          subst this
          rw [hi] at hj
          injection hj
        subst this
        exact κ.inj _ _ (hxy.1.symm.trans hpk.symm)
      · have : x = e := by
          obtain ⟨i, hi⟩ := List.getElem?_of_mem hxs
          obtain ⟨j, hj⟩ := List.getElem?_of_mem hes
          have := nodup_at (l := es.toList.map (·.key)) h3.2.2 (a := e.key) (i := i) (j := j) (by rw [List.getElem?_map, hi]; simp [hxy.1, hk, hpk]) (by rw [List.getElem?_map, hj]; rfl)
          subst this
          rw [hi] at hj
          injection hj
        rw [this]
    · refine ⟨by rcases hw1 with rfl | rfl <;> rfl, by rcases hw1 with rfl | rfl <;> rfl, by rcases hw1 with rfl | rfl <;> rfl, ?_, fun i _ hi => ?_⟩
      · rcases hw1 with rfl | rfl <;> simp [setBlock]
      · rw [sb i (fun he => hi (by rw [he]))]
        rcases hw1 with rfl | rfl <;> rfl
    · rcases hw1 with rfl | rfl <;> simp [setBlock]
    · have := run_entry_at (P := P) (setBlock w1 r (.mapIter (some b) clock (seen.push e.born) clock)) r b clock seen es clock e sr (by rw [sb b (Ne.symm hne), b1, h1]) hes hst.2.1
      rw [this, hpk, hpv]
end
section
variable {K : Type} [DecidableEq K] {κ : Key K} {P : Program} {w : World} {b : Nat} {l : List (K × Value)} {ops : Array Oper} {rest : List Oper} {o : Oper} {a : Act} {Q : Exit → Act → World → Prop}
/-- The step of a round. -/
theorem wpList_next_map {r : Nat} {left : List (K × Value)} (hg : o.guard = none) (it : Operand) (hop : o.op = Op.next it false) (hit : a.eval it = .pointer (some ⟨r, 0, none⟩)) (h : Iter κ w r b l left)
    (hDone : left = [] → wpList P ops Q rest (a.put o.dst (.tuple #[.bool false])) w)
    (hMore : ∀ (p : K × Value) (w' : World), p ∈ left → Iter κ w' r b l (del left p.1) → w.grownBy w' (some r) → w'.heap.size = w.heap.size → (Instr.entry (.pointer (some ⟨r, 0, none⟩))).run P w' = .ok (.tuple #[κ.enc p.1, p.2]) w' →
      wpList P ops Q rest (a.put o.dst (.tuple #[.bool true, κ.enc p.1, p.2])) w') :
    wpList P ops Q (o :: rest) a w := by
  refine wpList_plain hg fun K' hK' => ?_
  unfold Oper.wp
  rcases h.next (P := P) o.type with ⟨h0, hrun⟩ | ⟨p, hp, w', hrun, hi, hg', hs, hen⟩
  · simp [execOp, hop, hit, hrun, Result.andThen]
    exact hK' _ _ (hDone h0)
  · simp [execOp, hop, hit, hrun, Result.andThen]
    exact hK' _ _ (hMore p w' hp hi hg' hs hen)
/-- 'range m'. -/
theorem wpList_range_map {t kt et : TypeId} (hg : o.guard = none) (m : Operand) (hop : o.op = Op.range t m) (hm : a.eval m = .map (some b)) (h : MapAt κ w b l) (ht : P.underlying t = some (.map kt et))
    (hK : ∀ o', Iter κ (w.alloc o') w.heap.size b l l → wpList P ops Q rest (a.put o.dst (.pointer (some ⟨w.heap.size, 0, none⟩))) (w.alloc o')) :
    wpList P ops Q (o :: rest) a w := by
  refine wpList_plain hg fun K' hK' => ?_
  obtain ⟨o', hrun, hi⟩ := h.range ht
  unfold Oper.wp
  simp [execOp, hop, hm, hrun, Result.andThen]
  exact hK' _ _ (hK o' hi)
theorem del_length {left : List (K × Value)} {p : K × Value} (hp : p ∈ left) : (del left p.1).length < left.length := by
  unfold del
  refine Nat.lt_of_le_of_ne (List.length_filter_le _ _) (fun h => ?_)
  have := List.length_filter_eq_length_iff.1 h p hp
  simp at this
theorem del_perm {left : List (K × Value)} (hn : (left.map (·.1)).Nodup) {p : K × Value} (hp : p ∈ left) : left.Perm (p :: del left p.1) := by
  induction left with
  | nil => cases hp
  | cons q left ih =>
    have hn2 := List.nodup_cons.1 (by simpa using hn : (q.1 :: left.map (·.1)).Nodup)
    rcases List.mem_cons.1 hp with rfl | hp
    · unfold del
      rw [List.filter_cons_of_neg (by simp), List.filter_eq_self.2]
      intro x hx
      simp only [ne_eq, decide_not, Bool.not_eq_eq_eq_not, Bool.not_true, decide_eq_false_iff_not]
      exact fun he => hn2.1 (List.mem_map.2 ⟨x, hx, he⟩)
    · have hq : q.1 ≠ p.1 := fun he => hn2.1 (List.mem_map.2 ⟨p, hp, he.symm⟩)
      have := ih hn2.2 hp
      unfold del at this ⊢
      rw [List.filter_cons_of_pos (by simpa using hq)]
      exact (this.cons q).trans (List.Perm.swap _ _ _)
theorem del_nodup {left : List (K × Value)} (hn : (left.map (·.1)).Nodup) (k : K) : ((del left k).map (·.1)).Nodup := by
  unfold del
  exact hn.sublist ((List.filter_sublist).map _)
end

end Go.Proofs.YtcmepoakcffpaaaGreat.L
