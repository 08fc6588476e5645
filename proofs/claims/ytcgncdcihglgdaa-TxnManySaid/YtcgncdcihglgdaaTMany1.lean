import Derived.Test.YtcgncdcihglgdaaTMany0
import Derived.Test.YtcgncdcihglgdaaTAll
namespace Go.Proofs.Ytcgncdcihglgdaa.T
open Go Go.RowKit Go.Proofs.YtcgncdcihglgdaaW.PrintWords Go.Proofs.YtcgncdcihglgdaaW.PrintLast Go.Proofs.YtcgncdcihglgdaaW.PrintMore Go.Proofs.Ytcgncdcihglgdaa.L
set_option linter.unusedVariables false
set_option linter.unusedSimpArgs false
/-! ### the calls of TxnMany, over its state -/
section
variable {w W : World} {tb : Nat} {s : Tab} {L : List Int} {e cur n : Int} {k : Nat} {R : HP}
theorem Own.callsL {P : Program} {f : FuncId} {args : Array Value} {w W : World} {S S' R : HP} {r : Value} (h : Own w W (Sep S R)) (c : ∀ F, S.on W F → Calls P f args W (fun e W' => e = .returned r ∧ Upd W F S' W')) : Calls P f args W (fun e W' => e = .returned r ∧ Own w W' (Sep S' R)) :=
  Own.calls h (fun F hF => by
    obtain ⟨F1, h1, k1, u1⟩ := Sep.focus hF
    exact (c F1 h1).mono (fun e W' ⟨he, hu⟩ => ⟨he, u1 _ _ hu⟩))
theorem Own.append {α : Type} {d : Kd α} {e : Nat} {v : Value} {xs : List α} {w W : World} {S : HP} (h : Own w W (Sep S (RowAt d e v xs))) :
    ∃ ok : Nat → Prop, d.R e W 0 ok v xs ∧ (∀ k, W.heap.size ≤ k → ok k) ∧ ∀ v1 w1 zs, d.R e w1 0 ok v1 zs → W.grownBy w1 v.ownBlock → Own w w1 (Sep S (RowAt d e v1 zs)) := by
  obtain ⟨hb, F, hS, hF⟩ := h
  obtain ⟨F2, h2, k2, u2⟩ := Sep.focusR hS
  refine ⟨fun k => F2 k ∨ W.heap.size ≤ k, Kd.R_mono h2.1 (fun _ h => .inl h), fun _ h => .inr h, fun v1 w1 zs hR hg => ?_⟩
  have hU : Upd W F2 (RowAt d e v1 zs) w1 :=
    ⟨fun k => (F2 k ∨ W.heap.size ≤ k) ∧ k < w1.heap.size, ⟨Kd.R_mono (Kd.R_bound hR) (fun k hk => ⟨hk.1, hk.2.2.1⟩), fun k hk => hk.2⟩, Eff.of_grown hg (fun k hk => h2.1.1 k hk), fun k hk => hk.1⟩
  obtain ⟨F', h', ef, hk⟩ := u2 _ _ hU
  refine ⟨below_eff hb (Nat.le_refl _) ef hF, F', h', fun k hk' => ?_⟩
  rcases hk k hk' with h | h
  · exact hF k h
  · exact Nat.le_trans hb.size h
theorem Own.tab (h : Own w W (Sep (TabAt tb s) R)) : ∃ F, (TabAt tb s).on W F := by
  obtain ⟨_, F, hF, _⟩ := h.left
  exact ⟨F, hF⟩
theorem m_begin (h : Own w W (Sep (TabAt tb s) R)) (hs : MS s L e 0 0) (he : 0 ≤ e) (he2 : e < 900000) (hl : L.length < 8) :
    Calls Try.prog 8 #[.pointer (some ⟨tb, 0, none⟩)] W fun x w' => x = .returned (.tuple #[.int .i64 (e + 1), .int .i64 0]) ∧ ∃ s', Aside0 (MS s' (L ++ [e + 1]) (e + 1) (e + 1) 0) ∧ Own w w' (Sep (TabAt tb s') R) := by
  have hx := hs.next
  refine Own.call h (fun F hF => ?_)
  obtain ⟨F1, h1, k1, u1⟩ := Sep.focus hF
  refine (begin_calls tb s W F1 h1 (by rw [hs.length]; exact hl) hs.fresh (by omega) (by omega)).mono ?_
  rintro x w' ⟨rfl, m, b, u⟩
  refine ⟨True, _, trivial, u1 _ _ u, fun _ o => ⟨by rw [hx], _, Aside0.mk (hs.begin he m b), o⟩⟩
theorem m_full (h : Own w W (Sep (TabAt tb s) R)) (hs : MS s L e 0 0) (hl : L.length = 8) :
    Calls Try.prog 8 #[.pointer (some ⟨tb, 0, none⟩)] W fun x w' => x = .returned (.tuple #[.int .i64 0, .int .i64 8]) ∧ Own w w' (Sep (TabAt tb s) R) :=
  Own.callsL h (fun F hF => full_begin tb s W F hF (by rw [hs.length]; exact hl))
theorem m_update (h : Own w W (Sep (TabAt tb s) R)) (hs : MS s L e n k) (hn : n ∈ L) (hk : k < 900000) {A : Option Addr} {c : Nat} {q : List Int} (hr : Kd.C (Kd.int .i64) W A 2 q) :
    Calls Try.prog 12 #[.pointer (some ⟨tb, 0, none⟩), .int .i64 n, .slice A 2 c] W fun x w' => x = .returned (.bool true) ∧ ∃ s', Aside0 (MS s' L e n (k + 1)) ∧ Own w w' (Sep (TabAt tb s') R) := by
  have hq : q.length = 2 := hr.1
  obtain ⟨h1, h2⟩ := hs.upd hn hq
  have := Own.callsL h (fun F hF => update_calls tb s W F n hF A c q (by rw [hq]; exact hr) (by omega) (fun p hp => by
    obtain ⟨b, x, _, hg, _, h3⟩ := hs.get hn
    rw [hg] at hp
    injection hp with hp
    subst hp
    rw [if_pos rfl] at h3
    dsimp only
    omega))
  rw [h1, hq] at this
  exact this.mono (fun x w' ⟨a, o⟩ => ⟨a, _, Aside0.mk h2, o⟩)
theorem m_end (h : Own w W (Sep (TabAt tb s) R)) (hs : MS s L e 0 0) (hn : n ∈ L) :
    Calls Try.prog 17 #[.pointer (some ⟨tb, 0, none⟩), .int .i64 n] W fun x w' => x = .returned (.bool true) ∧ ∃ s', Aside0 (MS s' (L.filter (fun x => decide (x ≠ n))) e 0 0 ∧ endR s' n = (false, s')) ∧ Own w w' (Sep (TabAt tb s') R) := by
  obtain ⟨h1, h2, h3⟩ := hs.end_ hn
  have := Own.callsL h (fun F hF => end_calls tb s W F n hF)
  rw [h1] at this
  exact this.mono (fun x w' ⟨a, o⟩ => ⟨a, _, Aside0.mk ⟨h2, h3⟩, o⟩)
theorem m_end2 (h : Own w W (Sep (TabAt tb s) R)) (hs : endR s n = (false, s)) :
    Calls Try.prog 17 #[.pointer (some ⟨tb, 0, none⟩), .int .i64 n] W fun x w' => x = .returned (.bool false) ∧ Own w w' (Sep (TabAt tb s) R) := by
  have := Own.callsL h (fun F hF => end_calls tb s W F n hF)
  rw [hs] at this
  exact this
theorem m_freed (h : Own w W (Sep (TabAt tb s) R)) (hs : MS s L e 0 0) (hn : n ∈ L) :
    Calls Try.prog 15 #[.pointer (some ⟨tb, 0, none⟩), .int .i64 n] W fun x w' => (∃ A c, x = .returned (.slice A (2 * (n % 3).toNat) c)) ∧ Own w w' (Sep (TabAt tb s) R) := by
  obtain ⟨F, hF⟩ := Own.tab h
  obtain ⟨h1, h2⟩ := hs.freed hn
  refine (freed_calls tb s W F n hF h2).mono ?_
  rintro x w' ⟨v, rfl, hR, hB⟩
  obtain ⟨A, c, rfl⟩ := Kd.R_slice hR
  rw [h1]
  exact ⟨⟨A, c, rfl⟩, h.after (Eff.of_below hB)⟩
theorem m_updates (h : Own w W (Sep (TabAt tb s) R)) (hs : MS s L e 0 0) {m : Nat} (hm : s.mb = some m) (hl : L.length < 400000) :
    Calls Try.prog 16 #[.pointer (some ⟨tb, 0, none⟩)] W fun x w' => x = .returned (.int .i64 ((L.map (fun n => (n % 3).toNat)).sum : Nat)) ∧ Own w w' (Sep (TabAt tb s) R) := by
  obtain ⟨F, hF⟩ := Own.tab h
  have h1 := sum_small L
  refine (updates_calls tb s W F m hF hm (by rw [hs.sum]; omega)).mono ?_
  rintro x w' ⟨rfl, hB⟩
  refine ⟨?_, h.after (Eff.of_below hB)⟩
  unfold updatesR
  rw [hs.sum]
theorem m_all (h : Own w W (Sep (TabAt tb s) R)) (hs : MS s L e 0 0) {m : Nat} (hm : s.mb = some m) (hl : L.length ≤ 8) :
    Calls Try.prog 19 #[.pointer (some ⟨tb, 0, none⟩)] W fun x w' => (∃ A c, x = .returned (.slice A L.length c)) ∧ Own w w' (Sep (TabAt tb s) R) := by
  obtain ⟨F, hF⟩ := Own.tab h
  have h1 := hs.length
  refine (all_calls tb s W F m hF hm (by omega)).mono ?_
  rintro x w' ⟨A, c, rfl, hB⟩
  rw [h1]
  exact ⟨⟨A, c, rfl⟩, h.after (Eff.of_below hB)⟩
end
end Go.Proofs.Ytcgncdcihglgdaa.T
