import Derived.Test.YtcgncdcihglgdaaTOne
import Derived.Test.YtcgncdcihglgdaaTEnd
import Derived.Test.YtcgncdcihglgdaaTLast
namespace Go.Proofs.Ytcgncdcihglgdaa.T
open Go Go.RowKit Go.Proofs.YtcgncdcihglgdaaW.PrintWords Go.Proofs.YtcgncdcihglgdaaW.PrintLast Go.Proofs.YtcgncdcihglgdaaW.PrintMore Go.Proofs.Ytcgncdcihglgdaa.L
set_option linter.unusedVariables false
set_option linter.unusedSimpArgs false
/-! ### two transactions: the first as it was left, the second as it may be -/
def XA : One := ⟨77, [[5, 6]], [(77, 1)]⟩
def S2 (m ba bb : Nat) (y : Option One) : Tab := ⟨some m, (1, ba, XA) :: (match y with | some x => [(2, bb, x)] | none => []), 2⟩
def OkY (n : Nat) (y : Option One) : Prop := ∀ x, y = some x → x.ups.length ≤ n ∧ x.saves.length ≤ 8
variable {w W : World} {tb m ba bb n : Nat} {y : Option One}
theorem S2.of {f : FuncId} {args : Array Value} {r : Value} {s' : Tab} (h : Own w W (TabAt tb (S2 m ba bb y))) (c : ∀ F, (TabAt tb (S2 m ba bb y)).on W F → Calls Try.prog f args W (fun e w' => e = .returned r ∧ Upd W F (TabAt tb s') w'))
    (hs : ∃ y', s' = S2 m ba bb y' ∧ OkY n y') : Calls Try.prog f args W fun e w' => (∃ r, e = .returned r) ∧ ∃ y', OkY n y' ∧ Own w w' (TabAt tb (S2 m ba bb y')) := by
  obtain ⟨y', rfl, ho⟩ := hs
  exact (Own.calls h c).mono (fun e w' ⟨he, o⟩ => ⟨⟨_, he⟩, y', ho, o⟩)
theorem OkY.mono {n' : Nat} (h : OkY n y) (hn : n ≤ n') : OkY n' y := fun x hx => ⟨Nat.le_trans (h x hx).1 hn, (h x hx).2⟩
theorem OkY.get (h : OkY n y) : ∀ p, getP (S2 m ba bb y).l 2 = some p → p.2.ups.length ≤ n ∧ p.2.saves.length ≤ 8 := by
  intro p hp
  cases y with
  | none => cases hp
  | some x =>
    have hp' : some (bb, x) = some p := hp
    injection hp' with hp'
    rw [← hp']; exact h x rfl
theorem OkY.none' : OkY n none := fun x hx => by cases hx
theorem OkY.some' {x : One} (h1 : x.ups.length ≤ n) (h2 : x.saves.length ≤ 8) : OkY n (some x) := fun x' hx => by injection hx with hx; rw [← hx]; exact ⟨h1, h2⟩
theorem S2.log (h : Own w W (TabAt tb (S2 m ba bb y))) (ho : OkY n y) (k : Int) : Calls Try.prog 9 #[.pointer (some ⟨tb, 0, none⟩), .int .i64 2, .int .i64 k] W fun e w' => (∃ r, e = .returned r) ∧ ∃ y', OkY (n + 1) y' ∧ Own w w' (TabAt tb (S2 m ba bb y')) := by
  refine S2.of h (fun F hF => log_calls tb _ W F 2 k hF) ?_
  cases y with
  | none => exact ⟨none, rfl, OkY.none'⟩
  | some x => exact ⟨some { x with last := k }, rfl, OkY.some' (Nat.le_succ_of_le (ho x rfl).1) (ho x rfl).2⟩
theorem S2.update (h : Own w W (TabAt tb (S2 m ba bb y))) (ho : OkY n y) (hn : n < 900000) {A : Option Addr} {c : Nat} {l : List Int} (hr : Kd.C (Kd.int .i64) W A l.length l) (hl : l.length < 900000) :
    Calls Try.prog 12 #[.pointer (some ⟨tb, 0, none⟩), .int .i64 2, .slice A l.length c] W fun e w' => (∃ r, e = .returned r) ∧ ∃ y', OkY (n + 1) y' ∧ Own w w' (TabAt tb (S2 m ba bb y')) := by
  refine S2.of h (fun F hF => update_calls tb _ W F 2 hF A c l hr hl (fun p hp => by have := (ho.get p hp).1; omega)) ?_
  cases y with
  | none => exact ⟨none, rfl, OkY.none'⟩
  | some x => exact ⟨some { x with ups := x.ups ++ [l] }, rfl, OkY.some' (by have := (ho x rfl).1; simp; omega) (ho x rfl).2⟩
theorem S2.undo (h : Own w W (TabAt tb (S2 m ba bb y))) (ho : OkY n y) (hn : n < 900000) :
    Calls Try.prog 13 #[.pointer (some ⟨tb, 0, none⟩), .int .i64 2] W fun e w' => (∃ r, e = .returned r) ∧ ∃ y', OkY (n + 1) y' ∧ Own w w' (TabAt tb (S2 m ba bb y')) := by
  refine S2.of h (fun F hF => undo_calls tb _ W F 2 hF (fun p hp => by have := (ho.get p hp).1; omega)) ?_
  cases y with
  | none => exact ⟨none, rfl, OkY.none'⟩
  | some x =>
    by_cases hu : x.ups = []
    · refine ⟨some x, ?_, OkY.mono ho (Nat.le_succ _)⟩
      show (if x.ups = [] then _ else _ : Bool × Tab).2 = _
      rw [if_pos hu]
    · refine ⟨some { x with ups := x.ups.dropLast }, ?_, OkY.some' (by have := (ho x rfl).1; simp; omega) (ho x rfl).2⟩
      show (if x.ups = [] then _ else _ : Bool × Tab).2 = _
      rw [if_neg hu]; rfl
theorem S2.save (h : Own w W (TabAt tb (S2 m ba bb y))) (ho : OkY n y) (hn : n < 900000) :
    Calls Try.prog 10 #[.pointer (some ⟨tb, 0, none⟩), .int .i64 2] W fun e w' => (∃ r, e = .returned r) ∧ ∃ y', OkY (n + 1) y' ∧ Own w w' (TabAt tb (S2 m ba bb y')) := by
  refine S2.of h (fun F hF => save_calls tb _ W F 2 hF (fun p hp => by have := (ho.get p hp).1; omega)) ?_
  cases y with
  | none => exact ⟨none, rfl, OkY.none'⟩
  | some x =>
    by_cases hu : 8 ≤ x.saves.length
    · refine ⟨some x, ?_, OkY.mono ho (Nat.le_succ _)⟩
      show (if 8 ≤ x.saves.length then _ else _ : (Int × Int) × Tab).2 = _
      rw [if_pos hu]
    · refine ⟨some { x with saves := x.saves ++ [(x.last, (x.ups.length : Int))] }, ?_, OkY.some' (Nat.le_succ_of_le (ho x rfl).1) (by simp; omega)⟩
      show (if 8 ≤ x.saves.length then _ else _ : (Int × Int) × Tab).2 = _
      rw [if_neg hu]; rfl
theorem S2.back (h : Own w W (TabAt tb (S2 m ba bb y))) (ho : OkY n y) (k : Int) :
    Calls Try.prog 11 #[.pointer (some ⟨tb, 0, none⟩), .int .i64 2, .int .i64 k] W fun e w' => (∃ r, e = .returned r) ∧ ∃ y', OkY (n + 1) y' ∧ Own w w' (TabAt tb (S2 m ba bb y')) := by
  refine S2.of h (fun F hF => back_calls tb _ W F 2 k hF (fun p hp => (ho.get p hp).2)) ?_
  cases y with
  | none => exact ⟨none, rfl, OkY.none'⟩
  | some x =>
    by_cases hu : k < 0 ∨ (x.saves.length : Int) ≤ k
    · refine ⟨some x, ?_, OkY.mono ho (Nat.le_succ _)⟩
      show (if k < 0 ∨ (x.saves.length : Int) ≤ k then _ else _ : (Int × Int) × Tab).2 = _
      rw [if_pos hu]
    · refine ⟨some { x with saves := x.saves.take (k.toNat + 1) }, ?_, OkY.some' (Nat.le_succ_of_le (ho x rfl).1) (by have := (ho x rfl).2; simp only [List.length_take]; omega)⟩
      show (if k < 0 ∨ (x.saves.length : Int) ≤ k then _ else _ : (Int × Int) × Tab).2 = _
      rw [if_neg hu]; rfl
theorem S2.end_ (h : Own w W (TabAt tb (S2 m ba bb y))) (ho : OkY n y) :
    Calls Try.prog 17 #[.pointer (some ⟨tb, 0, none⟩), .int .i64 2] W fun e w' => (∃ r, e = .returned r) ∧ ∃ y', OkY (n + 1) y' ∧ Own w w' (TabAt tb (S2 m ba bb y')) := by
  refine S2.of h (fun F hF => end_calls tb _ W F 2 hF) ?_
  cases y with
  | none => exact ⟨none, rfl, OkY.none'⟩
  | some x => exact ⟨none, rfl, OkY.none'⟩
theorem S2.last (h : Own w W (TabAt tb (S2 m ba bb y))) : Calls Try.prog 18 #[.pointer (some ⟨tb, 0, none⟩), .int .i64 1] W fun e w' => e = .returned (.tuple #[.int .i64 77, .bool true]) ∧ Own w w' (TabAt tb (S2 m ba bb y)) :=
  Own.calls h (fun F hF => last_calls tb (S2 m ba bb y) W F 1 hF)
theorem S2.freed (h : Own w W (TabAt tb (S2 m ba bb y))) :
    Calls Try.prog 15 #[.pointer (some ⟨tb, 0, none⟩), .int .i64 1] W fun e w' => ∃ A c, e = .returned (.slice A 2 c) ∧ 2 ≤ c ∧ Kd.C (Kd.int .i64) w' A 2 [5, 6] ∧ Own w w' (TabAt tb (S2 m ba bb y)) := by
  obtain ⟨_, F, hF, _⟩ := id h
  refine (freed_calls tb (S2 m ba bb y) W F 1 hF (fun p hp => by
    have hp' : some (ba, XA) = some p := hp
    injection hp' with hp'
    rw [← hp']; exact ⟨show XA.ups.length < 900000 by decide, show XA.ups.flatten.length < 900000 by decide⟩)).mono ?_
  rintro e w' ⟨v, rfl, hR, hB⟩
  obtain ⟨A, c, rfl, hc, hC⟩ := Kd.R_reads hR
  exact ⟨A, c, rfl, hc, hC, h.after (Eff.of_below hB)⟩
theorem S2.updates (h : Own w W (TabAt tb (S2 m ba bb y))) (ho : OkY n y) (hn : n < 800000) :
    Calls Try.prog 16 #[.pointer (some ⟨tb, 0, none⟩)] W fun e w' => ∃ k : Int, e = .returned (.int .i64 k) ∧ (k < 1) = False ∧ Own w w' (TabAt tb (S2 m ba bb y)) := by
  have hb : 1 ≤ ((S2 m ba bb y).l.map (fun p => p.2.2.ups.length)).sum ∧ ((S2 m ba bb y).l.map (fun p => p.2.2.ups.length)).sum < 900000 := by
    cases y with
    | none => exact ⟨by show 1 ≤ 1 + 0; omega, by show 1 + 0 < _; omega⟩
    | some x => have := (ho x rfl).1; exact ⟨by show 1 ≤ 1 + (x.ups.length + 0); omega, by show 1 + (x.ups.length + 0) < _; omega⟩
  refine (Own.calls h (fun F hF => (updates_calls tb (S2 m ba bb y) W F m hF rfl hb.2).mono (by
    rintro e w' ⟨rfl, hB⟩
    exact ⟨rfl, Upd.same hF (Eff.of_below hB)⟩))).mono ?_
  rintro e w' ⟨rfl, o⟩
  exact ⟨_, rfl, eq_false (by unfold updatesR; omega), o⟩
theorem T1.begin2 (h : Own w W (TabAt tb (T1 m ba XA))) : Calls Try.prog 8 #[.pointer (some ⟨tb, 0, none⟩)] W fun e w' => e = .returned (.tuple #[.int .i64 2, .int .i64 0]) ∧ ∃ m bb, Own w w' (TabAt tb (S2 m ba bb (some ⟨0, [], []⟩))) := by
  refine Own.call h (fun F hF => (begin_calls tb (T1 m ba XA) W F hF (show (1 : Nat) < 8 by decide) rfl (show (0 : Int) ≤ 1 by decide) (show (1 : Int) < 900000 by decide)).mono ?_)
  rintro e w' ⟨rfl, m, b, u⟩
  exact ⟨True, _, trivial, u, fun _ o => ⟨rfl, m, b, o⟩⟩
theorem S2.back1 (h : Own w W (TabAt tb (S2 m ba bb y))) :
    Calls Try.prog 11 #[.pointer (some ⟨tb, 0, none⟩), .int .i64 1, .int .i64 0] W fun e w' => e = .returned (.tuple #[.int .i64 77, .int .i64 0]) ∧ Own w w' (TabAt tb (S2 m ba bb y)) := by
  have := fun F hF => back_calls tb (S2 m ba bb y) W F 1 0 hF (fun p hp => by
    have hp' : some (ba, XA) = some p := hp
    injection hp' with hp'
    rw [← hp']; exact (show XA.saves.length ≤ 8 by decide))
  have hr : backR (S2 m ba bb y) 1 0 = ((77, 0), S2 m ba bb y) := by cases y <;> rfl
  rw [hr] at this
  exact Own.calls h this
def S3 (m bb : Nat) (y : Option One) : Tab := ⟨some m, (match y with | some x => [(2, bb, x)] | none => []), 2⟩
theorem S2.end1 (h : Own w W (TabAt tb (S2 m ba bb y))) :
    Calls Try.prog 17 #[.pointer (some ⟨tb, 0, none⟩), .int .i64 1] W fun e w' => e = .returned (.bool true) ∧ Own w w' (TabAt tb (S3 m bb y)) := by
  have := fun F hF => end_calls tb (S2 m ba bb y) W F 1 hF
  have hr : endR (S2 m ba bb y) 1 = (true, S3 m bb y) := by cases y <;> rfl
  rw [hr] at this
  exact Own.calls h this
theorem S3.end1 (h : Own w W (TabAt tb (S3 m bb y))) :
    Calls Try.prog 17 #[.pointer (some ⟨tb, 0, none⟩), .int .i64 1] W fun e w' => e = .returned (.bool false) ∧ Own w w' (TabAt tb (S3 m bb y)) := by
  have := fun F hF => end_calls tb (S3 m bb y) W F 1 hF
  have hr : endR (S3 m bb y) 1 = (false, S3 m bb y) := by cases y <;> rfl
  rw [hr] at this
  exact Own.calls h this
end Go.Proofs.Ytcgncdcihglgdaa.T
