import Derived.Test.YtlakklaaapfpeaaLSep
namespace Go.Proofs.Ytlakklaaapfpeaa.L
open Go Go.RowKit Go.Proofs.YtlakklaaapfpeaaW.PrintWords Go.Proofs.YtlakklaaapfpeaaW.PrintLast Go.Proofs.YtlakklaaapfpeaaW.PrintMore Go.Proofs.Ytlakklaaapfpeaa.L
set_option linter.unusedVariables false
set_option linter.unusedSimpArgs false
/-! a map that may be nil, gone through -/
open Go.MapKept Go.ChangeMaps
section
set_option linter.unusedSectionVars false
variable {K : Type} [DecidableEq K] {κ : Key K} {P : Program} {w : World} {l : List (K × Value)} {ops : Array Oper} {rest : List Oper} {o : Oper} {a : Act} {Q : Exit → Act → World → Prop}
def MapO (κ : Key K) (w : World) (mb : Option Nat) (l : List (K × Value)) : Prop := match mb with
  | none => l = []
  | some b => MapAt κ w b l
def IterO (κ : Key K) (w : World) (r : Nat) (mb : Option Nat) (l left : List (K × Value)) : Prop := match mb with
  | none => (∃ c s c2, w.heap[r]? = some (.mapIter none c s c2)) ∧ left = []
  | some b => Iter κ w r b l left
theorem MapPart.mapO {mb : Option Nat} {F : Nat → Prop} (h : (MapPart κ mb l).on w F) : MapO κ w mb l := by
  cases mb with
  | none => exact h.1
  | some b => exact h.1
theorem IterO.move {w' : World} {r : Nat} {mb : Option Nat} {left : List (K × Value)} (h : IterO κ w r mb l left) (hb : ∀ b, mb = some b → w'.heap[b]? = w.heap[b]?) (hr : w'.heap[r]? = w.heap[r]?) : IterO κ w' r mb l left := by
  cases mb with
  | none =>
    obtain ⟨⟨c, s, c2, h1⟩, h2⟩ := h
    exact ⟨⟨c, s, c2, hr.trans h1⟩, h2⟩
  | some b => exact Iter.move h (hb b rfl) hr
theorem IterO.lt {r : Nat} {mb : Option Nat} {left : List (K × Value)} (h : IterO κ w r mb l left) : r < w.heap.size := by
  cases mb with
  | none =>
    obtain ⟨⟨c, s, c2, h1⟩, h2⟩ := h
    exact (Array.getElem?_eq_some_iff.1 h1).1
  | some b => exact Iter.lt h
theorem wpList_next_mapO {r : Nat} {mb : Option Nat} {left : List (K × Value)} (hg : o.guard = none) (it : Operand) (hop : o.op = Op.next it false) (hit : a.eval it = .pointer (some ⟨r, 0, none⟩)) (h : IterO κ w r mb l left)
    (hDone : left = [] → wpList P ops Q rest (a.put o.dst (.tuple #[.bool false])) w)
    (hMore : ∀ (p : K × Value) (w' : World), p ∈ left → IterO κ w' r mb l (del left p.1) → w.grownBy w' (some r) → w'.heap.size = w.heap.size → (Instr.entry (.pointer (some ⟨r, 0, none⟩))).run P w' = .ok (.tuple #[κ.enc p.1, p.2]) w' →
      wpList P ops Q rest (a.put o.dst (.tuple #[.bool true, κ.enc p.1, p.2])) w') :
    wpList P ops Q (o :: rest) a w := by
  cases mb with
  | some b => exact wpList_next_map hg it hop hit h hDone hMore
  | none =>
    obtain ⟨⟨c, s, c2, h1⟩, h2⟩ := h
    refine wpList_plain hg fun K' hK' => ?_
    unfold Oper.wp
    have hrun : (Instr.next (.pointer (some ⟨r, 0, none⟩)) false o.type).run P w = .ok (.tuple #[.bool false]) w := by
      simp [Instr.next, getObj, h1, Sem.run, Result.andThen]
    simp [execOp, hop, hit, hrun, Result.andThen]
    exact hK' _ _ (hDone h2)
theorem wpList_range_mapO {mb : Option Nat} {t kt et : TypeId} (hg : o.guard = none) (m : Operand) (hop : o.op = Op.range t m) (hm : a.eval m = .map mb) (h : MapO κ w mb l) (ht : P.underlying t = some (.map kt et))
    (hK : ∀ o', IterO κ (w.alloc o') w.heap.size mb l l → wpList P ops Q rest (a.put o.dst (.pointer (some ⟨w.heap.size, 0, none⟩))) (w.alloc o')) :
    wpList P ops Q (o :: rest) a w := by
  cases mb with
  | some b => exact wpList_range_map hg m hop hm h ht hK
  | none =>
    refine wpList_plain hg fun K' hK' => ?_
    have hrun : (Instr.range t (.map none)).run P w = .ok (.pointer (some ⟨w.heap.size, 0, none⟩)) (w.alloc (.mapIter none 0 #[] 0)) := by
      simp [Instr.range, run_underlying ht, Result.andThen, newObj, Sem.run]
    unfold Oper.wp
    simp [execOp, hop, hm, hrun, Result.andThen]
    exact hK' _ _ (hK _ ⟨⟨_, _, _, _root_.Go.heap_alloc_new w _⟩, h⟩)
end
end Go.Proofs.Ytlakklaaapfpeaa.L
