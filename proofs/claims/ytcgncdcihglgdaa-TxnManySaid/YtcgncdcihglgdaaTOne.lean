import Derived.Test.YtcgncdcihglgdaaTBack
import Derived.Test.YtcgncdcihglgdaaTFreed
import Derived.Test.YtcgncdcihglgdaaTUpdates
import Derived.Test.YtcgncdcihglgdaaTBegin
namespace Go.Proofs.Ytcgncdcihglgdaa.T
open Go Go.RowKit Go.Proofs.YtcgncdcihglgdaaW.PrintWords Go.Proofs.YtcgncdcihglgdaaW.PrintLast Go.Proofs.YtcgncdcihglgdaaW.PrintMore Go.Proofs.Ytcgncdcihglgdaa.L
set_option linter.unusedVariables false
set_option linter.unusedSimpArgs false
/-! ### one transaction alone, the first one -/
def T1 (m b : Nat) (x : One) : Tab := ⟨some m, [(1, b, x)], 1⟩
def T0 : Tab := ⟨none, [], 0⟩
theorem T0.made {w W : World} (h : Own w W Emp) : Own w (W.alloc (.cells #[.map none, .int .i64 0] 27)) (TabAt W.heap.size T0) :=
  (Own.newCells h _ _).emp.imp (fun F hF => ⟨F, fun _ => False, hF, PMap.none _ _ _, fun _ _ h => h, fun k => by simp⟩)
variable {w W : World} {tb m b : Nat} {x : One}
theorem T0.begin (h : Own w W (TabAt tb T0)) : Calls Try.prog 8 #[.pointer (some ⟨tb, 0, none⟩)] W fun e w' => e = .returned (.tuple #[.int .i64 1, .int .i64 0]) ∧ ∃ m b, Own w w' (TabAt tb (T1 m b ⟨0, [], []⟩)) := by
  refine Own.call h (fun F hF => (begin_calls tb T0 W F hF (by decide) rfl (by decide) (by decide)).mono ?_)
  rintro e w' ⟨rfl, m, b, u⟩
  exact ⟨True, _, trivial, u, fun _ o => ⟨rfl, m, b, o⟩⟩
theorem T1.log (h : Own w W (TabAt tb (T1 m b x))) (n : Int) : Calls Try.prog 9 #[.pointer (some ⟨tb, 0, none⟩), .int .i64 1, .int .i64 n] W fun e w' => e = .returned (.bool true) ∧ Own w w' (TabAt tb (T1 m b { x with last := n })) :=
  Own.calls h (fun F hF => log_calls tb (T1 m b x) W F 1 n hF)
theorem T1.update (h : Own w W (TabAt tb (T1 m b x))) {A : Option Addr} {c : Nat} {l : List Int} (hr : Kd.C (Kd.int .i64) W A l.length l) (hl : l.length < 900000) (hx : x.ups.length < 900000) :
    Calls Try.prog 12 #[.pointer (some ⟨tb, 0, none⟩), .int .i64 1, .slice A l.length c] W fun e w' => e = .returned (.bool true) ∧ Own w w' (TabAt tb (T1 m b { x with ups := x.ups ++ [l] })) :=
  Own.calls h (fun F hF => update_calls tb (T1 m b x) W F 1 hF A c l hr hl (fun p hp => by
    have hp' : some (b, x) = some p := hp
    injection hp' with hp'
    rw [← hp']; exact hx))
theorem T1.undo (h : Own w W (TabAt tb (T1 m b x))) (hx : x.ups.length < 900000) (hn : x.ups ≠ []) :
    Calls Try.prog 13 #[.pointer (some ⟨tb, 0, none⟩), .int .i64 1] W fun e w' => e = .returned (.bool true) ∧ Own w w' (TabAt tb (T1 m b { x with ups := x.ups.dropLast })) := by
  have hr : undoR (T1 m b x) 1 = (true, T1 m b { x with ups := x.ups.dropLast }) := by
    show (if x.ups = [] then _ else _) = _
    rw [if_neg hn]; rfl
  have := fun F (hF : (TabAt tb (T1 m b x)).on W F) => undo_calls tb (T1 m b x) W F 1 hF (fun p hp => by
    have hp' : some (b, x) = some p := hp
    injection hp' with hp'
    rw [← hp']; exact hx)
  rw [hr] at this
  exact Own.calls h this
theorem T1.undone (h : Own w W (TabAt tb (T1 m b x))) (hn : x.ups = []) :
    Calls Try.prog 13 #[.pointer (some ⟨tb, 0, none⟩), .int .i64 1] W fun e w' => e = .returned (.bool false) ∧ Own w w' (TabAt tb (T1 m b x)) := by
  have hr : undoR (T1 m b x) 1 = (false, T1 m b x) := by
    show (if x.ups = [] then _ else _) = _
    rw [if_pos hn]
  have := fun F (hF : (TabAt tb (T1 m b x)).on W F) => undo_calls tb (T1 m b x) W F 1 hF (fun p hp => by
    have hp' : some (b, x) = some p := hp
    injection hp' with hp'
    rw [← hp']; show x.ups.length < _; rw [hn]; decide)
  rw [hr] at this
  exact Own.calls h this
theorem T1.save (h : Own w W (TabAt tb (T1 m b x))) (hx : x.ups.length < 900000) (hn : x.saves.length < 8) :
    Calls Try.prog 10 #[.pointer (some ⟨tb, 0, none⟩), .int .i64 1] W fun e w' => e = .returned (.tuple #[.int .i64 x.saves.length, .int .i64 0]) ∧ Own w w' (TabAt tb (T1 m b { x with saves := x.saves ++ [(x.last, (x.ups.length : Int))] })) := by
  have hr : saveR (T1 m b x) 1 = (((x.saves.length : Int), 0), T1 m b { x with saves := x.saves ++ [(x.last, (x.ups.length : Int))] }) := by
    show (if 8 ≤ x.saves.length then _ else _) = _
    rw [if_neg (by omega)]; rfl
  have := fun F (hF : (TabAt tb (T1 m b x)).on W F) => save_calls tb (T1 m b x) W F 1 hF (fun p hp => by
    have hp' : some (b, x) = some p := hp
    injection hp' with hp'
    rw [← hp']; exact hx)
  rw [hr] at this
  exact Own.calls h this
theorem T1.saveFull (h : Own w W (TabAt tb (T1 m b x))) (hx : x.ups.length < 900000) (hn : 8 ≤ x.saves.length) :
    Calls Try.prog 10 #[.pointer (some ⟨tb, 0, none⟩), .int .i64 1] W fun e w' => e = .returned (.tuple #[.int .i64 0, .int .i64 8]) ∧ Own w w' (TabAt tb (T1 m b x)) := by
  have hr : saveR (T1 m b x) 1 = ((0, 8), T1 m b x) := by
    show (if 8 ≤ x.saves.length then _ else _) = _
    rw [if_pos hn]
  have := fun F (hF : (TabAt tb (T1 m b x)).on W F) => save_calls tb (T1 m b x) W F 1 hF (fun p hp => by
    have hp' : some (b, x) = some p := hp
    injection hp' with hp'
    rw [← hp']; exact hx)
  rw [hr] at this
  exact Own.calls h this
theorem T1.back (h : Own w W (TabAt tb (T1 m b x))) (k : Nat) (hx : x.saves.length ≤ 8) (hk : k < x.saves.length) :
    Calls Try.prog 11 #[.pointer (some ⟨tb, 0, none⟩), .int .i64 1, .int .i64 k] W fun e w' => e = .returned (.tuple #[.int .i64 (x.saves.getD k (0, 0)).1, .int .i64 0]) ∧ Own w w' (TabAt tb (T1 m b { x with saves := x.saves.take (k + 1) })) := by
  have hr : backR (T1 m b x) 1 k = (((x.saves.getD k (0, 0)).1, 0), T1 m b { x with saves := x.saves.take (k + 1) }) := by
    show (if (k : Int) < 0 ∨ (x.saves.length : Int) ≤ (k : Int) then _ else _) = _
    rw [if_neg (by omega)]; rfl
  have := fun F (hF : (TabAt tb (T1 m b x)).on W F) => back_calls tb (T1 m b x) W F 1 k hF (fun p hp => by
    have hp' : some (b, x) = some p := hp
    injection hp' with hp'
    rw [← hp']; exact hx)
  rw [hr] at this
  exact Own.calls h this
theorem T1.backBad (h : Own w W (TabAt tb (T1 m b x))) (k : Nat) (hx : x.saves.length ≤ 8) (hk : x.saves.length ≤ k) :
    Calls Try.prog 11 #[.pointer (some ⟨tb, 0, none⟩), .int .i64 1, .int .i64 k] W fun e w' => e = .returned (.tuple #[.int .i64 0, .int .i64 1]) ∧ Own w w' (TabAt tb (T1 m b x)) := by
  have hr : backR (T1 m b x) 1 k = ((0, 1), T1 m b x) := by
    show (if (k : Int) < 0 ∨ (x.saves.length : Int) ≤ (k : Int) then _ else _) = _
    rw [if_pos (by omega)]
  have := fun F (hF : (TabAt tb (T1 m b x)).on W F) => back_calls tb (T1 m b x) W F 1 k hF (fun p hp => by
    have hp' : some (b, x) = some p := hp
    injection hp' with hp'
    rw [← hp']; exact hx)
  rw [hr] at this
  exact Own.calls h this
theorem T1.updates (h : Own w W (TabAt tb (T1 m b x))) (hx : x.ups.length < 900000) :
    Calls Try.prog 16 #[.pointer (some ⟨tb, 0, none⟩)] W fun e w' => e = .returned (.int .i64 x.ups.length) ∧ Own w w' (TabAt tb (T1 m b x)) :=
  Own.calls h (fun F hF => (updates_calls tb (T1 m b x) W F m hF rfl (by show x.ups.length + 0 < _; omega)).mono (by
    rintro e w' ⟨rfl, hB⟩
    exact ⟨rfl, Upd.same hF (Eff.of_below hB)⟩))
theorem T1.freed (h : Own w W (TabAt tb (T1 m b x))) (hx : x.ups.length < 900000) (hf : x.ups.flatten.length < 900000) :
    Calls Try.prog 15 #[.pointer (some ⟨tb, 0, none⟩), .int .i64 1] W fun e w' => ∃ A c, e = .returned (.slice A x.ups.flatten.length c) ∧ x.ups.flatten.length ≤ c ∧ Kd.C (Kd.int .i64) w' A x.ups.flatten.length x.ups.flatten ∧ Below W.heap.size W w' ∧ Own w w' (TabAt tb (T1 m b x)) := by
  obtain ⟨_, F, hF, _⟩ := id h
  refine (freed_calls tb (T1 m b x) W F 1 hF (fun p hp => by
    have hp' : some (b, x) = some p := hp
    injection hp' with hp'
    rw [← hp']; exact ⟨hx, hf⟩)).mono ?_
  rintro e w' ⟨v, rfl, hR, hB⟩
  obtain ⟨A, c, rfl, hc, hC⟩ := Kd.R_reads hR
  exact ⟨A, c, rfl, hc, hC, hB, h.after (Eff.of_below hB)⟩
end Go.Proofs.Ytcgncdcihglgdaa.T
