import Derived.Test.YtbfpmgbfkipiaaaMCommit
namespace Go.Proofs.Ytbfpmgbfkipiaaa.MD
open Go Go.RowKit Go.Proofs.YtbfpmgbfkipiaaaW.PrintWords Go.Proofs.YtbfpmgbfkipiaaaW.PrintLast Go.Proofs.YtbfpmgbfkipiaaaW.PrintMore Go.Proofs.Ytbfpmgbfkipiaaa.L
set_option linter.unusedVariables false
set_option linter.unusedSimpArgs false
section
variable {w W : World} {b0 : Nat} {s : Mod}
theorem own_made (h : Own w W Emp) : Own w (W.alloc (.cells #[.map none, .map none] 27)) (ModAt W.heap.size ⟨none, [], none, []⟩) :=
  (Own.newCells h _ _).emp.imp (fun F hF => ⟨F, fun _ => False, hF, ⟨fun _ => False, fun _ => False, ⟨[], List.Perm.refl _, rfl, fun _ h => h⟩, PMap.none _ _ _, fun _ _ h => h, fun k => by simp⟩, fun _ _ h => h, fun k => by simp⟩)
theorem o_begin0 {mm : Option Nat} (h : Own w W (ModAt b0 ⟨mm, [], none, []⟩)) (tx : Int) : Calls Try.prog 9 #[.pointer (some ⟨b0, 0, none⟩), .int .i64 tx] W fun e w' => e = .returned (.bool true) ∧ ∃ m1 m2 b, Aside0 (Own w w' (ModAt b0 ⟨some m1, [], some m2, [(tx, b, ⟨[], []⟩)]⟩)) := by
  refine Own.call h (fun F hF => (begin_first b0 mm W F tx hF).mono ?_)
  rintro e w' ⟨rfl, m1, m2, b, u⟩
  exact ⟨True, _, trivial, u, fun _ o => ⟨rfl, m1, m2, b, Aside0.mk o⟩⟩
theorem o_begin {m : Nat} (h : Own w W (ModAt b0 s)) (hm : s.tb = some m) (tx : Int) (hg : getP s.t tx = none) : Calls Try.prog 9 #[.pointer (some ⟨b0, 0, none⟩), .int .i64 tx] W fun e w' => e = .returned (.bool true) ∧ ∃ b, Aside0 (Own w w' (ModAt b0 ⟨s.mm, s.m, some m, s.t ++ [(tx, b, ⟨[], []⟩)]⟩)) := by
  refine Own.call h (fun F hF => (begin_more b0 s W F tx m hF hm hg).mono ?_)
  rintro e w' ⟨rfl, b, u⟩
  exact ⟨True, _, trivial, u, fun _ o => ⟨rfl, b, Aside0.mk o⟩⟩
theorem o_had (h : Own w W (ModAt b0 s)) (tx : Int) (p : Nat × One) (hg : getP s.t tx = some p) : Calls Try.prog 9 #[.pointer (some ⟨b0, 0, none⟩), .int .i64 tx] W fun e w' => e = .returned (.bool false) ∧ Aside0 (Own w w' (ModAt b0 s)) :=
  (Own.calls h (fun F hF => begin_had b0 s W F tx p hF hg)).mono fun e w' ⟨he, o⟩ => ⟨he, Aside0.mk o⟩
theorem o_get (h : Own w W (ModAt b0 s)) (tx : Int) (key : ByteArray) (hm : ∀ p, getP s.t tx = some p → p.2.l.length < 900000) {r1 : ByteArray} {r2 : Bool} (hr : getR s tx key = (r1, r2)) : Calls Try.prog 11 #[.pointer (some ⟨b0, 0, none⟩), .int .i64 tx, .string key] W fun e w' => e = .returned (.tuple #[.string r1, .bool r2]) ∧ Aside0 (Own w w' (ModAt b0 s) ∧ Eff0 W w') := by
  have h0 := h
  obtain ⟨_, F, hF, _⟩ := h0
  refine (Get_calls b0 s W F tx key hF hm).mono fun e w' ⟨he, e1⟩ => ⟨?_, Aside0.mk ⟨h.after e1, e1⟩⟩
  rw [he, hr]
theorem o_put (h : Own w W (ModAt b0 s)) (tx : Int) (key val : ByteArray) {b : Nat} {x : One} (hg : getP s.t tx = some (b, x)) (hx : x.l.length < 900000) {s' : Mod} (hs : s' = { s with t := setP s.t tx { x with l := x.l ++ [⟨key, val, false⟩] } }) : Calls Try.prog 10 #[.pointer (some ⟨b0, 0, none⟩), .int .i64 tx, .string key, .string val] W fun e w' => e = .returned (.bool true) ∧ Aside0 (Own w w' (ModAt b0 s')) := by
  have hr : putR s tx ⟨key, val, false⟩ = (true, s') := by rw [hs]; simp [putR, hg]
  refine (Own.calls h (fun F hF => Put_calls b0 s W F tx key val hF (fun p hp => by rw [hg] at hp; injection hp with hp; rw [← hp]; exact hx))).mono fun e w' ⟨he, o⟩ => ?_
  rw [hr] at he o
  exact ⟨he, Aside0.mk o⟩
theorem o_del (h : Own w W (ModAt b0 s)) (tx : Int) (key : ByteArray) (hm : ∀ p, getP s.t tx = some p → p.2.l.length < 900000) {r : Bool} {s' : Mod} (hr : delR s tx key = (r, s')) : Calls Try.prog 14 #[.pointer (some ⟨b0, 0, none⟩), .int .i64 tx, .string key] W fun e w' => e = .returned (.bool r) ∧ Aside0 (Own w w' (ModAt b0 s')) := by
  refine (Own.calls h (fun F hF => Del_calls b0 s W F tx key hF hm)).mono fun e w' ⟨he, o⟩ => ?_
  rw [hr] at he o
  exact ⟨he, Aside0.mk o⟩
theorem o_save (h : Own w W (ModAt b0 s)) (tx : Int) {b : Nat} {x : One} (hg : getP s.t tx = some (b, x)) (hx : x.l.length < 900000 ∧ x.saves.length < 900000) {s' : Mod} (hs : s' = { s with t := setP s.t tx { x with saves := x.saves ++ [(x.l.length : Int)] } }) : Calls Try.prog 16 #[.pointer (some ⟨b0, 0, none⟩), .int .i64 tx] W fun e w' => e = .returned (.tuple #[.int .i64 x.saves.length, .bool true]) ∧ Aside0 (Own w w' (ModAt b0 s')) := by
  have hr : saveR s tx = (((x.saves.length : Int), true), s') := by rw [hs]; simp [saveR, hg]
  refine (Own.calls h (fun F hF => save_calls b0 s W F tx hF (fun p hp => by rw [hg] at hp; injection hp with hp; rw [← hp]; exact hx))).mono fun e w' ⟨he, o⟩ => ?_
  rw [hr] at he o
  exact ⟨he, Aside0.mk o⟩
theorem o_back (h : Own w W (ModAt b0 s)) (tx k : Int) (hm : ∀ p, getP s.t tx = some p → p.2.l.length < 900000 ∧ p.2.saves.length < 900000 ∧ OneOk p.2) {r : Bool} {s' : Mod} (hr : backR s tx k = (r, s')) : Calls Try.prog 17 #[.pointer (some ⟨b0, 0, none⟩), .int .i64 tx, .int .i64 k] W fun e w' => e = .returned (.bool r) ∧ Aside0 (Own w w' (ModAt b0 s')) := by
  refine (Own.calls h (fun F hF => back_calls b0 s W F tx k hF hm)).mono fun e w' ⟨he, o⟩ => ?_
  rw [hr] at he o
  exact ⟨he, Aside0.mk o⟩
theorem o_abort (h : Own w W (ModAt b0 s)) (tx : Int) {p : Nat × One} (hg : getP s.t tx = some p) {s' : Mod} (hs : s' = { s with t := delP s.t tx }) : Calls Try.prog 19 #[.pointer (some ⟨b0, 0, none⟩), .int .i64 tx] W fun e w' => e = .returned (.bool true) ∧ Aside0 (Own w w' (ModAt b0 s')) := by
  have hr : abortR s tx = (true, s') := by rw [hs]; simp [abortR, hg]
  refine (Own.calls h (fun F hF => abort_calls b0 s W F tx hF)).mono fun e w' ⟨he, o⟩ => ?_
  rw [hr] at he o
  exact ⟨he, Aside0.mk o⟩
theorem o_commit (h : Own w W (ModAt b0 s)) (tx : Int) {mb b : Nat} {x : One} (hmb : s.mm = some mb) (hs : Rises s.m) (hg : getP s.t tx = some (b, x)) (hx : x.l.length < 400000) {m' : List Ent} (hm' : overL s.m x.l = m') {t' : List (Int × Nat × One)} (ht' : delP s.t tx = t') : Calls Try.prog 12 #[.pointer (some ⟨b0, 0, none⟩), .int .i64 tx] W fun e w' => e = .returned (.bool true) ∧ ∃ mb', Aside0 (Own w w' (ModAt b0 ⟨some mb', m', s.tb, t'⟩)) := by
  refine Own.call h (fun F hF => (commit_calls b0 s W F mb b tx x hF hmb hs hg hx).mono ?_)
  rintro e w' ⟨rfl, mb', u⟩
  rw [hm', ht'] at u
  exact ⟨True, _, trivial, u, fun _ o => ⟨rfl, mb', Aside0.mk o⟩⟩
theorem o_dump (h : Own w W (ModAt b0 s)) {mb : Nat} (hmb : s.mm = some mb) (hs : Rises s.m) (hl : s.m.length < 900000) {m' : List Ent} (hm' : s.m = m') {n : Nat} (hn : m'.length = n) : Calls Try.prog 13 #[.pointer (some ⟨b0, 0, none⟩)] W fun e w' => ∃ A c, e = .returned (.slice A n c) ∧ Aside0 (Own w w' (ModAt b0 s) ∧ Made W A n m' w') := by
  subst hm' hn
  have h0 := h
  obtain ⟨_, F, hF, _⟩ := h0
  exact (dump_calls b0 s W F mb hF hmb hs hl).mono fun e w' ⟨A, c, he, m⟩ => ⟨A, c, he, Aside0.mk ⟨h.after m.e, m⟩⟩
theorem o_with (h : Own w W (ModAt b0 s)) (tx : Int) {mb b : Nat} {x : One} (hmb : s.mm = some mb) (hs : Rises s.m) (hg : getP s.t tx = some (b, x)) (hl : s.m.length < 400000) (hx : x.l.length < 400000) {m' : List Ent} (hm' : overL s.m x.l = m') {n : Nat} (hn : m'.length = n) : Calls Try.prog 15 #[.pointer (some ⟨b0, 0, none⟩), .int .i64 tx] W fun e w' => ∃ A c, e = .returned (.slice A n c) ∧ Aside0 (Own w w' (ModAt b0 s) ∧ Made W A n m' w') := by
  subst hn
  have h0 := h
  obtain ⟨_, F, hF, _⟩ := h0
  have := with_calls b0 s W F mb b tx x hF hmb hs hg hl hx
  rw [hm'] at this
  exact this.mono fun e w' ⟨A, c, he, m⟩ => ⟨A, c, he, Aside0.mk ⟨h.after m.e, m⟩⟩
end
theorem ins_nil (k v : ByteArray) : insM [] k v = [(k, v)] := rfl
theorem rises_one (p : Ent) : Rises [p] := List.pairwise_cons.2 ⟨fun _ h => (by cases h), List.Pairwise.nil⟩
theorem ins_one (k v u : ByteArray) : insM [(k, v)] k u = [(k, u)] := by simp [insM, List.lt_irrefl]
theorem del_one (k v : ByteArray) : delM [(k, v)] k = [] := by simp [delM]
theorem look_one (k v : ByteArray) : lookM [(k, v)] k = some v := by simp [lookM]
theorem lastW_snoc (l : List Wr) (q : Wr) : lastW (l ++ [q]) q.key = some q := by simp [MD.lastW]
/-! ### the first calls -/
def sA (m1 m2 b : Nat) (m : List Ent) (x : One) : Mod := ⟨some m1, m, some m2, [(1, b, x)]⟩
theorem getA (m1 m2 b : Nat) (m : List Ent) (x : One) : getP (sA m1 m2 b m x).t 1 = some (b, x) := rfl
set_option maxHeartbeats 1600000 in
set_option maxRecDepth 100000 in
theorem alive_calls (w : World) : Calls Try.prog 8 #[] w fun e w' => e = .returned (.bool true) ∧ Eff0 w w' := by
  have H0 := Aside0.mk (own_made (Own.start w))
  go_enter Try.func8, Try.ntmps8
  go_wp2_with fail
  refine (o_begin0 H0.out 1).mono ?_
  rintro e w1 ⟨rfl, m1, m2, b, H1⟩
  go_wp2_with fail
  refine (o_put H1.out 1 ⟨#[97]⟩ ⟨#[120]⟩ rfl (by decide) (s' := sA m1 m2 b [] ⟨[⟨⟨#[97]⟩, ⟨#[120]⟩, false⟩], []⟩) rfl).mono ?_
  rintro e w2 ⟨rfl, H2⟩
  go_wp2_with fail
  refine (o_dump H2.out rfl List.Pairwise.nil (by show 0 < 900000; decide) (m' := []) rfl (n := 0) rfl).mono ?_
  rintro e w3 ⟨A3, c3, rfl, H3⟩
  go_wp2_with fail
  refine (o_with H3.out.1 1 rfl List.Pairwise.nil (getA _ _ _ _ _) (by show 0 < 400000; decide) (by show 1 < 400000; decide) (m' := [(⟨#[97]⟩, ⟨#[120]⟩)]) rfl (n := 1) rfl).mono ?_
  rintro e w4 ⟨A4, c4, rfl, H4⟩
  go_wp2_with fail
  refine (o_get H4.out.1 1 ⟨#[97]⟩ (fun p hp => by injection hp with hp; subst hp; show 1 < 900000; decide) (r1 := ⟨#[120]⟩) (r2 := true) rfl).mono ?_
  rintro e w5 ⟨rfl, H5⟩
  go_wp2_with fail
  refine (o_commit H5.out.1 1 rfl List.Pairwise.nil (getA _ _ _ _ _) (by show 1 < 400000; decide) (m' := [(⟨#[97]⟩, ⟨#[120]⟩)]) rfl (t' := []) rfl).mono ?_
  rintro e w6 ⟨rfl, mb, H6⟩
  go_wp2_with fail
  refine (o_dump H6.out rfl (rises_one _) (by show 1 < 900000; decide) (m' := [(⟨#[97]⟩, ⟨#[120]⟩)]) rfl (n := 1) rfl).mono ?_
  rintro e w7 ⟨A7, c7, rfl, H7⟩
  go_wp2_with fail
  go_ret
  exact ⟨rfl, Eff.of_below H7.out.1.below⟩
/-! ### a transaction, the first one, and a map -/
def sB (m1 m2 b : Nat) (m : List Ent) (l : List Wr) : Mod := ⟨some m1, m, some m2, [(1, b, ⟨l, []⟩)]⟩
theorem small1 {m1 m2 b : Nat} {m : List Ent} {l : List Wr} (n : Nat) (h : l.length < n) : ∀ p, getP (sB m1 m2 b m l).t 1 = some p → p.2.l.length < n := by
  intro p hp
  have hp' : some (b, (⟨l, []⟩ : One)) = some p := hp
  injection hp' with hp'
  subst hp'
  exact h
theorem getB (m1 m2 b : Nat) (m : List Ent) (l : List Wr) (key : ByteArray) : getR (sB m1 m2 b m l) 1 key = seenR (lastW l key) (lookM m key) := rfl
theorem delB (m1 m2 b : Nat) (m : List Ent) (l : List Wr) (key : ByteArray) (h : (seenR (lastW l key) (lookM m key)).2 = true) : delR (sB m1 m2 b m l) 1 key = (true, sB m1 m2 b m (l ++ [⟨key, ⟨#[]⟩, true⟩])) := by
  unfold delR
  rw [getB, if_pos h]
  rfl
theorem delB_no (m1 m2 b : Nat) (m : List Ent) (l : List Wr) (key : ByteArray) (h : (seenR (lastW l key) (lookM m key)).2 = false) : delR (sB m1 m2 b m l) 1 key = (false, sB m1 m2 b m l) := by
  unfold delR
  rw [getB, if_neg (by rw [h]; simp)]
theorem last1 (q : Wr) : lastW [q] q.key = some q := by simp [MD.lastW]
theorem last2 (p q : Wr) : lastW [p, q] q.key = some q := by simp [MD.lastW]
theorem last0 (k : ByteArray) : lastW [] k = none := rfl
end Go.Proofs.Ytbfpmgbfkipiaaa.MD
