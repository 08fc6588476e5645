import Derived.Test.YtdhajfimhjbbiaaQHeapy
import Derived.Test.YtdhajfimhjbbiaaQAlive
namespace Go.Proofs.Ytdhajfimhjbbiaa.Q
open Go Go.RowKit Go.Proofs.YtdhajfimhjbbiaaW.PrintWords Go.Proofs.YtdhajfimhjbbiaaW.PrintLast Go.Proofs.YtdhajfimhjbbiaaW.PrintMore
set_option linter.unusedVariables false
/-- A queue that was made since w, with what waits in it, the first one first. -/
def NewS (w W : World) (b : Nat) (l : List (Int × Int)) : Prop := ∃ xs, New w W b xs ∧ QS xs l
theorem NewS.eff {w W : World} {b : Nat} {l : List (Int × Int)} (h : NewS w W b l) : Eff (fun _ => False) w W := h.choose_spec.1.eff
theorem NewS.after {w W W' : World} {b : Nat} {l : List (Int × Int)} (h : NewS w W b l) (k : Eff (fun _ => False) W W') : NewS w W' b l := by
  obtain ⟨xs, h, q⟩ := h
  exact ⟨xs, h.after k, q⟩
theorem NewS.alloc {w W : World} {b : Nat} {l : List (Int × Int)} (h : NewS w W b l) (o : Obj) : NewS w (W.alloc o) b l := h.after ((Eff.refl _ _).alloc o)
theorem NewS.drew {w W : World} {b : Nat} {l : List (Int × Int)} (h : NewS w W b l) : NewS w W.drew b l := h.after ((Eff.refl _ _).drew)
theorem NewS.drewN {w W : World} {b : Nat} {l : List (Int × Int)} (h : NewS w W b l) (n : Nat) : NewS w (W.drewN n) b l := h.after ((Eff.refl _ _).drawn ⟨_, rfl⟩)
theorem NewS.mk (w : World) {W : World} (e : Eff (fun _ => False) w W) : NewS w (W.alloc (.cells #[.slice none 0 0] 28)) W.heap.size [] := ⟨[], New.mk w e, QS.nil⟩
theorem NewS.push {w W : World} {b : Nat} {l : List (Int × Int)} (h : NewS w W b l) (hm : l.length < 900000) (x y : Int) : Calls Try.prog 11 #[.pointer (some ⟨b, 0, none⟩), .int .i64 x, .int .i64 y] W fun e w' => e = .returned (.tuple #[]) ∧ NewS w w' b (insL (x, y) l) := by
  obtain ⟨xs, h, q⟩ := h
  exact (h.push (by rw [q.length]; exact hm) x y).mono fun _ _ ⟨he, hp⟩ => ⟨he, _, hp, q.push _⟩
/-- The first one. -/
def hd (l : List (Int × Int)) : Int × Int := l.getD 0 (0, 0)
theorem QS.top {xs l : List (Int × Int)} (q : QS xs l) : rdp xs (0 : Nat) = hd l := by
  cases l with
  | nil => obtain rfl : xs = [] := List.eq_nil_of_length_eq_zero q.length; rfl
  | cons x l => exact q.pop.1
theorem QS.tail {xs l : List (Int × Int)} (q : QS xs l) : QS (popL xs) l.tail := by
  cases l with
  | nil => obtain rfl : xs = [] := List.eq_nil_of_length_eq_zero q.length; rw [popL_nil]; exact QS.nil
  | cons x l => exact q.pop.2
theorem NewS.peek {w W : World} {b : Nat} {l : List (Int × Int)} (h : NewS w W b l) : Calls Try.prog 12 #[.pointer (some ⟨b, 0, none⟩)] W fun e w' => e = .returned (.tuple #[.int .i64 (hd l).1, .int .i64 (hd l).2, .bool (decide (0 < l.length))]) ∧ NewS w w' b l := by
  obtain ⟨xs, h, q⟩ := h
  rw [← q.top, ← q.length]
  exact h.peek.mono fun _ _ ⟨he, hp⟩ => ⟨he, _, hp, q⟩
theorem NewS.pop {w W : World} {b : Nat} {l : List (Int × Int)} (h : NewS w W b l) (hm : l.length < 900000) : Calls Try.prog 13 #[.pointer (some ⟨b, 0, none⟩)] W fun e w' => e = .returned (.tuple #[.int .i64 (hd l).1, .int .i64 (hd l).2, .bool (decide (0 < l.length))]) ∧ NewS w w' b l.tail := by
  obtain ⟨xs, h, q⟩ := h
  rw [← q.length] at hm
  rw [← q.top, ← q.length]
  exact (h.pop hm).mono fun _ _ ⟨he, hp⟩ => ⟨he, _, hp, q.tail⟩
theorem NewS.len {w W : World} {b : Nat} {l : List (Int × Int)} (h : NewS w W b l) : Calls Try.prog 14 #[.pointer (some ⟨b, 0, none⟩)] W fun e w' => e = .returned (.int .i64 l.length) ∧ NewS w w' b l := by
  obtain ⟨xs, h, q⟩ := h
  rw [← q.length]
  exact h.len.mono fun _ _ ⟨he, hp⟩ => ⟨he, _, hp, q⟩
theorem NewS.below {w W : World} {b : Nat} {l : List (Int × Int)} (h : NewS w W b l) : Below w.heap.size w W := h.eff.below (Nat.le_refl _) (fun _ h => h.elim)
/-- What is put in a falling list. -/
theorem insL_mem {o x : Int × Int} {l : List (Int × Int)} : x ∈ insL o l ↔ x = o ∨ x ∈ l := by rw [(insL_perm o l).mem_iff, List.mem_cons]
theorem insL_first {o : Int × Int} : ∀ {l : List (Int × Int)}, (∀ x ∈ l, lessB x o = false) → insL o l = o :: l
  | [], _ => rfl
  | x :: l, h => by unfold insL; rw [if_neg (by rw [h x List.mem_cons_self]; simp)]
theorem insL_last {o : Int × Int} : ∀ {l : List (Int × Int)}, (∀ x ∈ l, lessB x o = true) → insL o l = l ++ [o]
  | [], _ => rfl
  | x :: l, h => by
    unfold insL
    rw [if_pos (h x List.mem_cons_self), insL_last (fun y hy => h y (List.mem_cons_of_mem _ hy))]
    rfl
end Go.Proofs.Ytdhajfimhjbbiaa.Q
