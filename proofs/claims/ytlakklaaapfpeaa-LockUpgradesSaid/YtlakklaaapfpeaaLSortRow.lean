import Derived.Test.YtlakklaaapfpeaaLSortLib
import Derived.Test.YtlakklaaapfpeaaLRowCut
import Derived.Test.YtlakklaaapfpeaaLSep
namespace Go.Proofs.Ytlakklaaapfpeaa.L
open Go Go.RowKit Go.Proofs.YtlakklaaapfpeaaW.PrintWords Go.Proofs.YtlakklaaapfpeaaW.PrintLast Go.Proofs.YtlakklaaapfpeaaW.PrintMore Go.Proofs.Ytlakklaaapfpeaa.L
set_option linter.unusedVariables false
set_option linter.unusedSimpArgs false
/-! a row behind a sort: it is a row still -/
open Go.Sort
section
set_option linter.unusedSectionVars false
variable {α β : Type} [Inhabited α] [Inhabited β] {enc : α → List Value} {k : Nat}
theorem rowX_of_cells {e base : Nat} {W : World} {g cap : Nat} {ys : List α} {cur : Array Value} (hk : ∀ x, (enc x).length = k) (hb : base ≤ g) (hh : W.heap[g]? = some (.cells cur e (0, 0))) (hc : cur.size = cap * k) (hl : ys.length ≤ cap) (hm : cap ≤ maxLen) (hC : ∀ j, j < ys.length * k → cur[j]? = (flatE enc ys)[j]?) : RowX enc k e W base g cap ys := by
  refine ⟨hb, hl, hm, cur, cur.toList.drop (ys.length * k), hh, hc, ?_⟩
  have e1 : cur.toList.take (ys.length * k) = flatE enc ys := by
    apply List.ext_getElem?
    intro j
    rw [List.getElem?_take]
    split
    · rename_i hj
      rw [Array.getElem?_toList]
      exact hC j hj
    · rename_i hj
      rw [List.getElem?_eq_none (by rw [flatE_length hk]; omega)]
  rw [← e1, List.take_append_drop]
theorem putRow_block {f : β → Value} {W : World} {g off : Nat} {cur : Array Value} {e : Nat} {fr : Nat × Nat} (hh : W.heap[g]? = some (.cells cur e fr)) (n : Nat) (d : Array β) (os : Array Obj) : (grow (putRow f (Sort.ahead W n) g off d) os).heap[g]? = some (.cells (putCells f off d cur) e fr) := by
  have hlt : g < W.heap.size := (Array.getElem?_eq_some_iff.1 hh).1
  show ((W.heap.modify g (onCells (putCells f off d))) ++ os)[g]? = _
  rw [Array.getElem?_append_left (by simpa using hlt), Array.getElem?_modify, if_pos rfl, hh]
  rfl
theorem putRow_eff {f : β → Value} {W : World} {g off : Nat} (n : Nat) (d : Array β) (os : Array Obj) : Eff (fun j => j = g) W (grow (putRow f (Sort.ahead W n) g off d) os) := by
  refine ⟨rfl, rfl, rfl, ?_, fun j hj hne => ?_⟩
  · show _ ≤ ((W.heap.modify g _) ++ os).size
    simp
  · show ((W.heap.modify g _) ++ os)[j]? = _
    rw [Array.getElem?_append_left (by simpa using hj), Array.getElem?_modify, if_neg (fun h => hne h.symm)]
theorem putCells_get (f : β → Value) (d : Array β) (cur : Array Value) (j : Nat) (hj : j < d.size) (hc : j < cur.size) : (putCells f 0 d cur)[j]? = some (f d[j]!) := by
  unfold putCells
  rw [Array.getElem?_mapIdx, Array.getElem?_eq_getElem hc]
  simp [hj]
/-- One cell an element. -/
theorem rowX_sort1 {f : β → Value} {e base : Nat} {W : World} {g cap : Nat} {xs ys : List α} (hk : ∀ x, (enc x).length = k) (h : RowX enc k e W base g cap xs) (n : Nat) (d : Array β) (os : Array Obj) (hys : ys.length = xs.length) (hd : d.size = ys.length * k) (hf : ∀ j, j < d.size → (flatE enc ys)[j]? = some (f d[j]!)) : RowX enc k e (grow (putRow f (Sort.ahead W n) g 0 d) os) base g cap ys := by
  obtain ⟨cur, rest, hh, hc, ht⟩ := h.has
  have hl := h.len
  have hm : xs.length * k ≤ cap * k := Nat.mul_le_mul_right _ hl
  refine rowX_of_cells hk h.le (putRow_block hh n d os) ?_ (by omega) h.max (fun j hj => ?_)
  · unfold putCells
    rw [Array.size_mapIdx]
    exact hc
  · rw [putCells_get f d cur j (by omega) (by rw [hc, ← hys] at *; omega), hf j (by omega)]
theorem flat_get (hk : ∀ x, (enc x).length = k) (h0 : 0 < k) (ys : List α) (j : Nat) (hj : j < ys.length * k) : (flatE enc ys)[j]? = some (flatK enc k ys.toArray)[j]! := by
  rw [get_flatK _ _ _ j (by simpa using hj)]
  have hq : j / k < ys.length := Nat.div_lt_of_lt_mul (by rw [Nat.mul_comm]; exact hj)
  have hr : j % k < k := Nat.mod_lt _ h0
  have e2 : j / k * k + j % k = j := Nat.div_add_mod' j k
  generalize j / k = q at *
  generalize j % k = r at *
  subst e2
  have ex : ys = ys.take q ++ ys[q] :: ys.drop (q + 1) := by rw [List.getElem_cons_drop, List.take_append_drop]
  have la : (flatE enc (ys.take q)).length = q * k := by rw [flatE_length hk, List.length_take, Nat.min_eq_left (by omega)]
  have hel : ys.toArray[q]! = ys[q] := by simp [hq]
  rw [hel]
  conv => lhs; rw [ex]
  rw [flatE_append, flatE_cons, List.getElem?_append_right (by omega), la, Nat.add_sub_cancel_left, List.getElem?_append_left (by rw [hk]; exact hr), List.getElem?_eq_getElem (by rw [hk]; exact hr), getElem!_pos _ _ (by rw [hk]; exact hr)]
/-- k cells an element. -/
theorem rowX_sortK {e base : Nat} {W : World} {g cap : Nat} {xs : List α} (hk : ∀ x, (enc x).length = k) (h0 : 0 < k) (h : RowX enc k e W base g cap xs) (n : Nat) (d : Array α) (os : Array Obj) (hys : d.size = xs.length) : RowX enc k e (sortWorldK enc k W g 0 n d os) base g cap d.toList := by
  refine rowX_sort1 (f := id) hk h n (flatK enc k d) os (by rw [Array.length_toList]; exact hys) (by simp) (fun j hj => ?_)
  have := flat_get hk h0 d.toList j (by simpa using hj)
  simpa using this
end
end Go.Proofs.Ytlakklaaapfpeaa.L
