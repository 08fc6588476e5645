import Derived.Sort.Walk0
import Derived.Laws.Cover1
import Derived.Test.YtbfpmgbfkipiaaaMOwn
namespace Go.Proofs.Ytbfpmgbfkipiaaa.MD
open Go Go.RowKit Go.Proofs.YtbfpmgbfkipiaaaW.PrintWords Go.Proofs.YtbfpmgbfkipiaaaW.PrintLast Go.Proofs.YtbfpmgbfkipiaaaW.PrintMore Go.Proofs.Ytbfpmgbfkipiaaa.L
set_option linter.unusedVariables false
set_option linter.unusedSimpArgs false
/-- Entries that lie to be read. -/
def EntAt (A : Option Addr) (m : List Ent) : HP where
  on := fun W F => Kd.C kdE W A m.length m ∧ (∀ ad, A = some ad → m ≠ [] → F ad.block) ∧ ∀ k, F k → k < W.heap.size
  frame := by
    rintro W W' F ⟨h1, h2, h3⟩ hk
    refine ⟨⟨h1.1, h1.2.1, fun hn => ?_⟩, h2, fun k hF => lt_of_same (h3 k hF) (hk k hF)⟩
    obtain ⟨ad, e, hc⟩ := h1.2.2 hn
    refine ⟨ad, e, fun j p hj => ?_⟩
    obtain ⟨c, hl, hK, hcc⟩ := hc j p hj
    refine ⟨c, hl, hK, fun i u hu => ?_⟩
    rw [← hcc i u hu]
    have hb : (ad.add (j * kdE.sz + i)).block = ad.block := by unfold Addr.add; split <;> rfl
    unfold World.cell?
    rw [hb, hk ad.block (h2 ad e (fun e2 => by rw [e2] at hn; exact absurd hn (by simp)))]
  lt := fun h hk => h.2.2 _ hk
theorem EntAt.reads {A : Option Addr} {m : List Ent} {W : World} {F : Nat → Prop} (h : (EntAt A m).on W F) : Kd.C kdE W A m.length m := h.1
theorem Own.ent {A : Option Addr} {m : List Ent} {w W : World} (h : Own w W (EntAt A m)) : Kd.C kdE W A m.length m := by
  obtain ⟨_, F, h, _⟩ := h
  exact h.1
theorem Own.made {w W w' : World} {S : HP} (h : Own w W S) {A : Option Addr} {n : Nat} {m : List Ent} (hm : Made W A n m w') : Own w w' (Sep S (EntAt A m)) := by
  refine h.new hm.e (F' := fun k => ∃ ad, A = some ad ∧ m ≠ [] ∧ k = ad.block) ⟨by rw [← hm.n]; exact hm.c, fun ad e hne => ⟨ad, e, hne, rfl⟩, ?_⟩ ?_
  · rintro k ⟨ad, e, hne, rfl⟩
    have hl : 0 < m.length := List.length_pos_iff.2 hne
    obtain ⟨ad', e', x0, _⟩ := at_E (by rw [← hm.n]; exact hm.c) 0 hl
    rw [e] at e'
    injection e' with e'
    subst e'
    have := World.block_lt_of_cell? _ _ x0
    simpa [Addr.add] using this
  · rintro k ⟨ad, e, hne, rfl⟩
    exact hm.lo ad e hne
theorem Own.callL {P : Program} {f : FuncId} {args : Array Value} {w W : World} {S R : HP} {Q : Ending → World → Prop} (h : Own w W (Sep S R)) (c : ∀ F, S.on W F → Calls P f args W (fun e W' => ∃ (E : Prop) (S' : HP), E ∧ Upd W F S' W' ∧ (E → Own w W' (Sep S' R) → Q e W'))) : Calls P f args W Q :=
  h.call (fun F hF => by
    obtain ⟨F1, h1, k1, u1⟩ := Sep.focus hF
    exact (c F1 h1).mono (fun e W' ⟨E, S', he, hu, q⟩ => ⟨E, Sep S' R, he, u1 _ _ hu, q⟩))
theorem Own.callsL {P : Program} {f : FuncId} {args : Array Value} {w W : World} {S S' R : HP} {r : Value} (h : Own w W (Sep S R)) (c : ∀ F, S.on W F → Calls P f args W (fun e W' => e = .returned r ∧ Upd W F S' W')) : Calls P f args W (fun e W' => e = .returned r ∧ Aside0 (Own w W' (Sep S' R))) :=
  Own.callL h (fun F hF => (c F hF).mono (fun e W' ⟨he, hu⟩ => ⟨_, S', he, hu, fun a b => ⟨a, Aside0.mk b⟩⟩))
section
variable {w W : World} {b0 : Nat} {s : Mod} {R : HP}
theorem f_begin {m : Nat} (h : Own w W (Sep (ModAt b0 s) R)) (hm : s.tb = some m) (tx : Int) (hg : getP s.t tx = none) : Calls Try.prog 9 #[.pointer (some ⟨b0, 0, none⟩), .int .i64 tx] W fun e w' => e = .returned (.bool true) ∧ ∃ b, Aside0 (Own w w' (Sep (ModAt b0 ⟨s.mm, s.m, some m, s.t ++ [(tx, b, ⟨[], []⟩)]⟩) R)) := by
  refine Own.callL h (fun F hF => (begin_more b0 s W F tx m hF hm hg).mono ?_)
  rintro e w' ⟨rfl, b, u⟩
  exact ⟨True, _, trivial, u, fun _ o => ⟨rfl, b, Aside0.mk o⟩⟩
theorem f_put (h : Own w W (Sep (ModAt b0 s) R)) (tx : Int) (key val : ByteArray) {b : Nat} {x : One} (hg : getP s.t tx = some (b, x)) (hx : x.l.length < 900000) {s' : Mod} (hs : s' = { s with t := setP s.t tx { x with l := x.l ++ [⟨key, val, false⟩] } }) : Calls Try.prog 10 #[.pointer (some ⟨b0, 0, none⟩), .int .i64 tx, .string key, .string val] W fun e w' => e = .returned (.bool true) ∧ Aside0 (Own w w' (Sep (ModAt b0 s') R)) := by
  have hr : putR s tx ⟨key, val, false⟩ = (true, s') := by rw [hs]; simp [putR, hg]
  have := fun F (hF : (ModAt b0 s).on W F) => Put_calls b0 s W F tx key val hF (fun p hp => by rw [hg] at hp; injection hp with hp; rw [← hp]; exact hx)
  rw [hr] at this
  exact Own.callsL h this
theorem f_del (h : Own w W (Sep (ModAt b0 s) R)) (tx : Int) (key : ByteArray) (hm : ∀ p, getP s.t tx = some p → p.2.l.length < 900000) {r : Bool} {s' : Mod} (hr : delR s tx key = (r, s')) : Calls Try.prog 14 #[.pointer (some ⟨b0, 0, none⟩), .int .i64 tx, .string key] W fun e w' => e = .returned (.bool r) ∧ Aside0 (Own w w' (Sep (ModAt b0 s') R)) := by
  have := fun F (hF : (ModAt b0 s).on W F) => Del_calls b0 s W F tx key hF hm
  rw [hr] at this
  exact Own.callsL h this
theorem f_save (h : Own w W (Sep (ModAt b0 s) R)) (tx : Int) {b : Nat} {x : One} (hg : getP s.t tx = some (b, x)) (hx : x.l.length < 900000 ∧ x.saves.length < 900000) {s' : Mod} (hs : s' = { s with t := setP s.t tx { x with saves := x.saves ++ [(x.l.length : Int)] } }) : Calls Try.prog 16 #[.pointer (some ⟨b0, 0, none⟩), .int .i64 tx] W fun e w' => e = .returned (.tuple #[.int .i64 x.saves.length, .bool true]) ∧ Aside0 (Own w w' (Sep (ModAt b0 s') R)) := by
  have hr : saveR s tx = (((x.saves.length : Int), true), s') := by rw [hs]; simp [saveR, hg]
  have := fun F (hF : (ModAt b0 s).on W F) => save_calls b0 s W F tx hF (fun p hp => by rw [hg] at hp; injection hp with hp; rw [← hp]; exact hx)
  rw [hr] at this
  exact Own.callsL h this
theorem f_back (h : Own w W (Sep (ModAt b0 s) R)) (tx k : Int) (hm : ∀ p, getP s.t tx = some p → p.2.l.length < 900000 ∧ p.2.saves.length < 900000 ∧ OneOk p.2) {r : Bool} {s' : Mod} (hr : backR s tx k = (r, s')) : Calls Try.prog 17 #[.pointer (some ⟨b0, 0, none⟩), .int .i64 tx, .int .i64 k] W fun e w' => e = .returned (.bool r) ∧ Aside0 (Own w w' (Sep (ModAt b0 s') R)) := by
  have := fun F (hF : (ModAt b0 s).on W F) => back_calls b0 s W F tx k hF hm
  rw [hr] at this
  exact Own.callsL h this
theorem f_abort (h : Own w W (Sep (ModAt b0 s) R)) (tx : Int) {p : Nat × One} (hg : getP s.t tx = some p) {s' : Mod} (hs : s' = { s with t := delP s.t tx }) : Calls Try.prog 19 #[.pointer (some ⟨b0, 0, none⟩), .int .i64 tx] W fun e w' => e = .returned (.bool true) ∧ Aside0 (Own w w' (Sep (ModAt b0 s') R)) := by
  have hr : abortR s tx = (true, s') := by rw [hs]; simp [abortR, hg]
  have := fun F (hF : (ModAt b0 s).on W F) => abort_calls b0 s W F tx hF
  rw [hr] at this
  exact Own.callsL h this
theorem f_commit (h : Own w W (Sep (ModAt b0 s) R)) (tx : Int) {mb b : Nat} {x : One} (hmb : s.mm = some mb) (hs : Rises s.m) (hg : getP s.t tx = some (b, x)) (hx : x.l.length < 400000) {m' : List Ent} (hm' : overL s.m x.l = m') {t' : List (Int × Nat × One)} (ht' : delP s.t tx = t') : Calls Try.prog 12 #[.pointer (some ⟨b0, 0, none⟩), .int .i64 tx] W fun e w' => e = .returned (.bool true) ∧ ∃ mb', Aside0 (Own w w' (Sep (ModAt b0 ⟨some mb', m', s.tb, t'⟩) R)) := by
  refine Own.callL h (fun F hF => (commit_calls b0 s W F mb b tx x hF hmb hs hg hx).mono ?_)
  rintro e w' ⟨rfl, mb', u⟩
  rw [hm', ht'] at u
  exact ⟨True, _, trivial, u, fun _ o => ⟨rfl, mb', Aside0.mk o⟩⟩
theorem f_dump (h : Own w W (Sep (ModAt b0 s) R)) {mb : Nat} (hmb : s.mm = some mb) (hs : Rises s.m) (hl : s.m.length < 900000) {m' : List Ent} (hm' : s.m = m') {n : Nat} (hn : m'.length = n) : Calls Try.prog 13 #[.pointer (some ⟨b0, 0, none⟩)] W fun e w' => ∃ A c, e = .returned (.slice A n c) ∧ Aside0 (Own w w' (Sep (Sep (ModAt b0 s) R) (EntAt A m'))) := by
  refine (o_dump h.left hmb hs hl hm' hn).mono ?_
  rintro e w' ⟨A, c, he, H⟩
  exact ⟨A, c, he, Aside0.mk (Own.made h H.out.2)⟩
theorem f_with (h : Own w W (Sep (ModAt b0 s) R)) (tx : Int) {mb b : Nat} {x : One} (hmb : s.mm = some mb) (hs : Rises s.m) (hg : getP s.t tx = some (b, x)) (hl : s.m.length < 400000) (hx : x.l.length < 400000) {m' : List Ent} (hm' : overL s.m x.l = m') {n : Nat} (hn : m'.length = n) : Calls Try.prog 15 #[.pointer (some ⟨b0, 0, none⟩), .int .i64 tx] W fun e w' => ∃ A c, e = .returned (.slice A n c) ∧ Aside0 (Own w w' (Sep (Sep (ModAt b0 s) R) (EntAt A m'))) := by
  refine (o_with h.left tx hmb hs hg hl hx hm' hn).mono ?_
  rintro e w' ⟨A, c, he, H⟩
  exact ⟨A, c, he, Aside0.mk (Own.made h H.out.2)⟩
end
theorem ent_toList {a b : ByteArray} : (a.toList == b.toList) = decide (a = b) := by
  rw [Bool.eq_iff_iff, beq_iff_eq, decide_eq_true_iff]
  exact toList_iff
set_option maxHeartbeats 1600000 in
set_option maxRecDepth 100000 in
theorem same_yes (W : World) (A B : Option Addr) (c d n : Nat) (l : List Ent) (hA : Kd.C kdE W A n l) (hB : Kd.C kdE W B n l) (hn : n = l.length) (hl : n < 900000) :
    Calls Try.prog 18 #[.slice A n c, .slice B n d] W fun e w' => e = .returned (.bool true) ∧ Eff0 W w' := by
  subst hn
  have HC := Aside0.mk (And.intro hA hB)
  clear hA hB
  go_enter Try.func18, Try.ntmps18
  go_wp2_with fail
  go_loopg [5] l.length (fun k s5 wx => ∃ j : Nat, s5 = .int .i64 j ∧ j + k = l.length ∧ Aside0 (Eff0 W wx))
  case atStart => exact ⟨0, rfl, by omega, Aside0.mk (Eff.refl _ _)⟩
  case round =>
    obtain ⟨j, rfl, hjk, E6⟩ := hrel
    by_cases hj : j < l.length
    · have p2 : ((j : Int) < (l.length : Int)) = True := eq_true (by omega)
      obtain ⟨ad5, ea5, y0, y1⟩ := at_E (Kd.C_below HC.out.1 E6.out.below0) j hj
      obtain ⟨ad6, ea6, z0, z1⟩ := at_E (Kd.C_below HC.out.2 E6.out.below0) j hj
      subst ea5 ea6
      generalize l.getD j default = e0 at *
      obtain ⟨ek, ev⟩ := e0
      dsimp only at y0 y1 z0 z1
      have q0 : (ev.toList == ev.toList) = true := beq_self_eq_true _
      have q1 : (ek.toList == ek.toList) = true := beq_self_eq_true _
      go_wp2_with fail
      go_region
      all_goals go_wp2_with fail
      all_goals go_roundg (gk - 1)
      all_goals first
        | (case measure => omega)
        | (case rel => exact ⟨j + 1, by simp, by omega, Aside0.mk (by first | exact E6.out | exact E6.out.drew | exact E6.out.drewN _)⟩)
    · have p2 : ((j : Int) < (l.length : Int)) = False := eq_false (by omega)
      go_wp2
      go_ret
      exact ⟨rfl, E6.out⟩
end Go.Proofs.Ytbfpmgbfkipiaaa.MD
