import Derived.Test.YtcgncdcihglgdaaProg
import Derived.BigRegion
import Derived.BigQuiet
import Derived.Deep.QuietTactic
import Derived.Deep.AppendLies
import Derived.ChangeAlike
import Derived.Outline
import Derived.WalkKit
import Derived.KernelRfl
import Derived.Deep.LoopGhost
import Derived.Deep.RegionLaw
import Derived.Test.YtcgncdcihglgdaaWMore
import Derived.Test.YtcgncdcihglgdaaWKept
import Derived.Test.YtcgncdcihglgdaaLSep
namespace Go.Proofs.Ytcgncdcihglgdaa.T
open Go Go.RowKit Go.Proofs.YtcgncdcihglgdaaW.PrintWords Go.Proofs.YtcgncdcihglgdaaW.PrintLast Go.Proofs.YtcgncdcihglgdaaW.PrintMore Go.Proofs.Ytcgncdcihglgdaa.L
set_option linter.unusedVariables false
set_option linter.unusedSimpArgs false
/-- A transaction: its last LSN, its updates' pages, its savepoints. -/
structure One where
  last : Int
  ups : List (List Int)
  saves : List (Int × Int)
abbrev kdU : Kd (List Int) := Kd.slice 3 (Kd.int .i64)
abbrev kdS : Kd (Int × Int) := Kd.pair (Kd.int .i64) (Kd.int .i64)
/-- Block b is a transaction. -/
def OneAt (b : Nat) (x : One) : HP where
  on := fun W F => ∃ vu vs, W.heap[b]? = some (.cells #[.int .i64 x.last, vu, vs] 55 (0, 0)) ∧ F b ∧ (∀ k, F k → k < W.heap.size) ∧ kdU.R 22 W 0 (fun k => F k ∧ k ≠ b) vu x.ups ∧ kdS.R 58 W 0 (fun k => F k ∧ k ≠ b) vs x.saves
  frame := by
    rintro W W' F ⟨vu, vs, h1, h2, h3, h4, h5⟩ hk
    exact ⟨vu, vs, (hk b h2).trans h1, h2, fun k hF => lt_of_same (h3 k hF) (hk k hF), Kd.R_step h4 (fun k h _ => hk k h.1), Kd.R_step h5 (fun k h _ => hk k h.1)⟩
  lt := by
    rintro W F k ⟨vu, vs, h1, h2, h3, h4, h5⟩ hk
    exact h3 k hk
/-- All transactions, in the order in which they began, each with its block. -/
structure Tab where
  mb : Option Nat
  l : List (Int × Nat × One)
  next : Int
def TabAt (tb : Nat) (s : Tab) : HP := Sep (CellsAt tb #[.map s.mb, .int .i64 s.next] 27) (PMap keyInt OneAt s.mb s.l)
theorem zeroP (w : World) : (zeroValue 52).run Try.prog w = .ok (.pointer none) w := by kernel_rfl
theorem TabAt.map {tb : Nat} {s : Tab} {W : World} {F : Nat → Prop} (h : (TabAt tb s).on W F) : ∃ F1, (PMap keyInt OneAt s.mb s.l).on W F1 ∧ ∀ k, F1 k → F k := by
  obtain ⟨F1, F2, h1, h2, hd, hF⟩ := h
  exact ⟨F2, h2, fun k hk => (hF k).2 (.inr hk)⟩
/-- The map, as it is asked. -/
theorem TabAt.look {tb : Nat} {s : Tab} {W : World} {F : Nat → Prop} (h : (TabAt tb s).on W F) (tx : Int) : (Instr.lookup 25 (.map s.mb) (.int .i64 tx) false).run Try.prog W = .ok (ptrOf (getP s.l tx)) W := by
  obtain ⟨F1, h1, _⟩ := TabAt.map h
  exact PMap.look h1 Try.underlying25 Try.underlying3 (zeroP W) tx
theorem TabAt.len {tb : Nat} {s : Tab} {W : World} {F : Nat → Prop} (h : (TabAt tb s).on W F) (ty : TypeId) : (Builtin.len_ #[25] ty #[.map s.mb]).run Try.prog W = .ok (.int .i64 s.l.length) W := by
  obtain ⟨F1, h1, _⟩ := TabAt.map h
  exact PMap.len h1 Try.underlying25 ty
theorem TabAt.cells {tb : Nat} {s : Tab} {W : World} {F : Nat → Prop} (h : (TabAt tb s).on W F) : W.cell? ⟨tb, 0, none⟩ = some (.map s.mb) ∧ W.cell? ⟨tb, 1, none⟩ = some (.int .i64 s.next) ∧ W.frozen? ⟨tb, 0, none⟩ = false ∧ W.frozen? ⟨tb, 1, none⟩ = false := by
  obtain ⟨F1, F2, h1, _⟩ := h
  exact ⟨CellsAt.cell h1 0, CellsAt.cell h1 1, CellsAt.frozen h1 0, CellsAt.frozen h1 1⟩
/-- One is looked at. -/
theorem TabAt.focus {tb : Nat} {s : Tab} {W : World} {F : Nat → Prop} {tx : Int} {b : Nat} {x : One} (h : (TabAt tb s).on W F) (hg : getP s.l tx = some (b, x)) : ∃ F1, (OneAt b x).on W F1 ∧ ∀ (x' : One) (W' : World), Upd W F1 (OneAt b x') W' → Upd W F (TabAt tb { s with l := setP s.l tx x' }) W' := by
  obtain ⟨F2, h2, k2, u2⟩ := Sep.focusR h
  obtain ⟨F1, h1, k1, u1⟩ := PMap.focus h2 hg
  exact ⟨F1, h1, fun x' W' c => u2 _ _ (u1 _ _ c)⟩
/-- What is done to one transaction. -/
theorem TabAt.one {tb : Nat} {s : Tab} {W W' : World} {F : Nat → Prop} {tx : Int} {b : Nat} {x x' : One} (h : (TabAt tb s).on W F) (hg : getP s.l tx = some (b, x)) (c : ∀ F1, (OneAt b x).on W F1 → Upd W F1 (OneAt b x') W') : Upd W F (TabAt tb { s with l := setP s.l tx x' }) W' :=
  Upd.right h (fun F1 h1 => PMap.one h1 hg c)
/-- .. and is known of it. -/
theorem TabAt.has {tb : Nat} {s : Tab} {W : World} {F : Nat → Prop} {tx : Int} {b : Nat} {x : One} (h : (TabAt tb s).on W F) (hg : getP s.l tx = some (b, x)) : ∃ F1, (OneAt b x).on W F1 ∧ ∀ k, F1 k → F k := by
  obtain ⟨F1, h1, hk⟩ := TabAt.map h
  obtain ⟨F2, h2, hk2⟩ := PMap.has h1 hg
  exact ⟨F2, h2, fun k h => hk k (hk2 k h)⟩
set_option maxHeartbeats 4000000 in
set_option maxRecDepth 100000 in
theorem get_calls (tb : Nat) (s : Tab) (W : World) (F : Nat → Prop) (tx : Int) (h : (TabAt tb s).on W F) :
    Calls Try.prog 20 #[.pointer (some ⟨tb, 0, none⟩), .int .i64 tx] W fun e w' => e = .returned (ptrOf (getP s.l tx)) ∧ Drawn0 W w' := by
  have hL := TabAt.look h tx
  obtain ⟨c0, c1, f0, f1⟩ := TabAt.cells h
  clear h
  go_enter Try.func20, Try.ntmps20
  go_wp2
  go_ret
  exact ⟨rfl, Drawn0.refl _⟩
end Go.Proofs.Ytcgncdcihglgdaa.T
