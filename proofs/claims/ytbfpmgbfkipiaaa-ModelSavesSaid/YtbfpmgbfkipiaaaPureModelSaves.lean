/- Going back to a savepoint undoes what was written behind it, and nothing else, as often as one likes (ModelSaves). Conditions: none beyond the given row's own. -/
import Derived.Deep.RegionHeld3
import Derived.Laws.BytesArg
import Derived.Test.YtbfpmgbfkipiaaaMx
import Derived.Test.YtbfpmgbfkipiaaaMFrame
namespace Go.Proofs.Ytbfpmgbfkipiaaa.Pure
open Go Go.RowKit Go.Proofs.YtbfpmgbfkipiaaaW.PrintWords Go.Proofs.YtbfpmgbfkipiaaaW.PrintLast Go.Proofs.YtbfpmgbfkipiaaaW.PrintMore Go.Proofs.Ytbfpmgbfkipiaaa.L Go.Proofs.Ytbfpmgbfkipiaaa.M Go.Proofs.Ytbfpmgbfkipiaaa.MD
set_option linter.unusedVariables false
set_option linter.unusedSimpArgs false
/-! ### slices of entries, each told by its header -/
abbrev Hd := Option Addr × Nat × List Ent
def kdH : Kd Hd := Kd.scalar (fun x => .slice x.1 x.2.2.length x.2.1) (fun _ => rfl)
def EntsAt (q : List Hd) : HP where
  on := fun W F => (∀ p ∈ q, Kd.C kdE W p.1 p.2.2.length p.2.2 ∧ ∀ ad, p.1 = some ad → p.2.2 ≠ [] → F ad.block) ∧ ∀ k, F k → k < W.heap.size
  frame := by
    rintro W W' F ⟨h, h3⟩ hk
    refine ⟨fun p hp => ?_, fun k hF => lt_of_same (h3 k hF) (hk k hF)⟩
    obtain ⟨h1, h2⟩ := h p hp
    have hF : (EntAt p.1 p.2.2).on W F := ⟨h1, h2, h3⟩
    exact ⟨((EntAt p.1 p.2.2).frame hF hk).1, h2⟩
  lt := fun h hk => h.2 _ hk
theorem shuffle {M E R N : HP} {W : World} {F : Nat → Prop} (h : (Sep (Sep M (Sep E R)) N).on W F) : (Sep (Sep M (Sep E N)) R).on W F :=
  Sep.assoc' (Sep.imp (Sep.assoc h) (fun _ h => h) (fun _ h => Sep.assoc' (Sep.imp (Sep.assoc h) (fun _ h => h) (fun _ h => Sep.comm h))))
theorem EntsAt.none (W : World) : (EntsAt []).on W (fun _ => False) := ⟨fun _ h => (by cases h), fun _ h => h.elim⟩
theorem EntsAt.more {q : List Hd} {A : Option Addr} {c : Nat} {m : List Ent} {W : World} {F : Nat → Prop} (h : (Sep (EntsAt q) (EntAt A m)).on W F) : (EntsAt (q ++ [(A, c, m)])).on W F := by
  obtain ⟨F1, F2, h1, h2, _, hF⟩ := h
  refine ⟨fun p hp => ?_, fun k hk => ?_⟩
  · rcases List.mem_append.1 hp with hp | hp
    · exact ⟨(h1.1 p hp).1, fun ad e hn => (hF _).2 (.inl ((h1.1 p hp).2 ad e hn))⟩
    · rw [List.mem_singleton.1 hp]
      exact ⟨h2.1, fun ad e hn => (hF _).2 (.inr (h2.2.1 ad e hn))⟩
  · rcases (hF k).1 hk with h | h
    · exact h1.2 k h
    · exact h2.2.2 k h
theorem Own.ents {q : List Hd} {w W : World} (h : Own w W (EntsAt q)) (i : Nat) (hi : i < q.length) : Kd.C kdE W (q.getD i default).1 (q.getD i default).2.2.length (q.getD i default).2.2 := by
  obtain ⟨_, F, h, _⟩ := h
  have hm : q.getD i default ∈ q := by simp [List.getD, hi]
  exact (h.1 _ hm).1
theorem Own.hdr {q : List Hd} {w W : World} {v : Value} {e : Nat} (h : Own w W (RowAt kdH e v q)) (i : Nat) (hi : i < q.length) : ∃ ad c, v = .slice (some ad) q.length c ∧ W.cell? (ad.add i) = some (.slice (q.getD i default).1 (q.getD i default).2.2.length (q.getD i default).2.1) := by
  obtain ⟨A, c, rfl, _, hC⟩ := Own.row h
  obtain ⟨ad, cs, e, _, hK, hc0⟩ := Kd.C_get hC (default : Hd) (i : Int) (by omega) (by omega)
  have hc : ∀ j u, cs[j]? = some u → W.cell? (ad.add (i * 1 + j)) = some u := hc0
  have hK2 : cs = [.slice (q.getD i default).1 (q.getD i default).2.2.length (q.getD i default).2.1] := hK
  subst hK2 e
  have := hc 0 _ rfl
  rw [Nat.mul_one, Nat.add_zero] at this
  exact ⟨ad, c, rfl, this⟩
theorem Own.hdr2 {q : List Hd} {w W : World} {ad : Addr} {n c e : Nat} (h : Own w W (RowAt kdH e (.slice (some ad) n c) q)) (i : Nat) (hi : i < q.length) : W.cell? (ad.add i) = some (.slice (q.getD i default).1 (q.getD i default).2.2.length (q.getD i default).2.1) := by
  obtain ⟨ad2, c2, e, h2⟩ := Own.hdr h i hi
  injection e with e1
  injection e1 with e1
  subst e1
  exact h2
theorem Own.append {α : Type} {d : Kd α} {e : Nat} {v : Value} {xs : List α} {w W : World} {S : HP} (h : Own w W (Sep S (RowAt d e v xs))) :
    ∃ ok : Nat → Prop, d.R e W 0 ok v xs ∧ (∀ k, W.heap.size ≤ k → ok k) ∧ ∀ v1 w1 zs, d.R e w1 0 ok v1 zs → W.grownBy w1 v.ownBlock → Own w w1 (Sep S (RowAt d e v1 zs)) := by
  obtain ⟨hb, F, hS, hF⟩ := h
  obtain ⟨F2, h2, k2, u2⟩ := Sep.focusR hS
  refine ⟨fun k => F2 k ∨ W.heap.size ≤ k, Kd.R_mono h2.1 (fun _ h => .inl h), fun _ h => .inr h, fun v1 w1 zs hR hg => ?_⟩
  have hU : Upd W F2 (RowAt d e v1 zs) w1 :=
    ⟨fun k => (F2 k ∨ W.heap.size ≤ k) ∧ k < w1.heap.size, ⟨Kd.R_mono (Kd.R_bound hR) (fun k hk => ⟨hk.1, hk.2.2.1⟩), fun k hk => hk.2⟩, Eff.of_grown hg (fun k hk => h2.1.1 k hk), fun k hk => hk.1⟩
  obtain ⟨F', h', ef, hk⟩ := u2 _ _ hU
  refine ⟨below_eff hb (Nat.le_refl _) ef hF, F', h', fun k hk' => ?_⟩
  rcases hk k hk' with h | h
  · exact hF k h
  · exact Nat.le_trans hb.size h
theorem infoH : (Try.prog.info? 32).map (fun i => (i.zero, i.size, i.bytes)) = some (some (.slice none 0 0), 1, 24) := by kernel_rfl
/-! ### one transaction with savepoints behind each write -/
def svs (i : Nat) : List Int := (List.range i).map (fun n : Nat => (n : Int))
theorem svs_len (i : Nat) : (svs i).length = i := by simp [svs]
theorem svs_succ (i : Nat) : svs (i + 1) = svs i ++ [(i : Int)] := by simp [svs, List.range_succ]
theorem svs_take {i k : Nat} (h : i ≤ k) : (svs k).take i = svs i := by
  unfold svs
  rw [← List.map_take, List.take_range, Nat.min_eq_left h]
theorem svs_get {i k : Nat} (h : i < k) : (svs k).getD i 0 = (i : Int) := by simp [svs, List.getD, h]
theorem svs_ok {L : List Wr} {k : Nat} (h : k ≤ L.length + 1) : OneOk ⟨L, svs k⟩ := by
  refine ⟨?_, fun n hn => ?_⟩
  · show (svs k).Pairwise (· ≤ ·)
    unfold svs
    rw [List.pairwise_map]
    exact List.pairwise_lt_range.imp (fun h => by omega)
  · obtain ⟨j, hj, rfl⟩ := List.mem_map.1 hn
    have := List.mem_range.1 hj
    show 0 ≤ (j : Int) ∧ (j : Int) ≤ (L.length : Int)
    omega
def sW (m1 m2 b : Nat) (L : List Wr) (k : Nat) : Mod := ⟨some m1, [], some m2, [(1, b, ⟨L, svs k⟩)]⟩
section
variable {w W : World} {b0 m1 m2 b k : Nat} {L : List Wr} {R : HP}
theorem sW_ok {P : One → Prop} (hx : P ⟨L, svs k⟩) : ∀ p, getP (sW m1 m2 b L k).t 1 = some p → P p.2 := by
  intro p hp
  have hp' : some (b, (⟨L, svs k⟩ : One)) = some p := hp
  injection hp' with hp'
  subst hp'
  exact hx
theorem w_save (h : Own w W (Sep (ModAt b0 (sW m1 m2 b L k)) R)) (hl : L.length = k) (hk : k < 900000) : Calls Try.prog 16 #[.pointer (some ⟨b0, 0, none⟩), .int .i64 1] W fun e w' => e = .returned (.tuple #[.int .i64 k, .bool true]) ∧ Aside0 (Own w w' (Sep (ModAt b0 (sW m1 m2 b L (k + 1))) R)) := by
  have := f_save h 1 (b := b) (x := ⟨L, svs k⟩) rfl ⟨by show L.length < 900000; omega, by show (svs k).length < 900000; rw [svs_len]; exact hk⟩ (s' := sW m1 m2 b L (k + 1)) (by unfold sW; rw [svs_succ, ← hl]; rfl)
  dsimp only at this
  rw [svs_len] at this
  exact this
theorem w_with (h : Own w W (Sep (ModAt b0 (sW m1 m2 b L k)) R)) (hl : L.length < 400000) {m : List Ent} (hm : overL [] L = m) : Calls Try.prog 15 #[.pointer (some ⟨b0, 0, none⟩), .int .i64 1] W fun e w' => ∃ A c, e = .returned (.slice A m.length c) ∧ Aside0 (Own w w' (Sep (Sep (ModAt b0 (sW m1 m2 b L k)) R) (EntAt A m))) :=
  f_with h 1 rfl List.Pairwise.nil (b := b) (x := ⟨L, svs k⟩) rfl (by show 0 < 400000; decide) hl hm rfl
theorem w_put (h : Own w W (Sep (ModAt b0 (sW m1 m2 b L k)) R)) (hl : L.length < 900000) (key val : ByteArray) : Calls Try.prog 10 #[.pointer (some ⟨b0, 0, none⟩), .int .i64 1, .string key, .string val] W fun e w' => e = .returned (.bool true) ∧ Aside0 (Own w w' (Sep (ModAt b0 (sW m1 m2 b (L ++ [⟨key, val, false⟩]) k)) R)) :=
  f_put h 1 key val (b := b) (x := ⟨L, svs k⟩) rfl hl rfl
theorem w_del (h : Own w W (Sep (ModAt b0 (sW m1 m2 b L k)) R)) (hl : L.length < 900000) (key : ByteArray) : Calls Try.prog 14 #[.pointer (some ⟨b0, 0, none⟩), .int .i64 1, .string key] W fun e w' => ∃ r L', e = .returned (.bool r) ∧ (∃ X : List Wr, X.length ≤ 1 ∧ L' = L ++ X) ∧ Aside0 (Own w w' (Sep (ModAt b0 (sW m1 m2 b L' k)) R)) := by
  cases hg : (getR (sW m1 m2 b L k) 1 key).2 with
  | true =>
    refine (f_del h 1 key (sW_ok (P := fun x => x.l.length < 900000) hl) (r := true) (s' := sW m1 m2 b (L ++ [⟨key, ⟨#[]⟩, true⟩]) k) (by unfold delR; rw [if_pos hg]; rfl)).mono ?_
    rintro e w' ⟨rfl, H⟩
    exact ⟨_, _, rfl, ⟨_, Nat.le_refl _, rfl⟩, H⟩
  | false =>
    refine (f_del h 1 key (sW_ok (P := fun x => x.l.length < 900000) hl) (r := false) (s' := sW m1 m2 b L k) (by unfold delR; rw [if_neg (by rw [hg]; simp)])).mono ?_
    rintro e w' ⟨rfl, H⟩
    exact ⟨_, _, rfl, ⟨[], Nat.zero_le _, by simp⟩, H⟩
theorem w_back (h : Own w W (Sep (ModAt b0 (sW m1 m2 b L k)) R)) {s : Nat} (hs : s < k) (hk : k ≤ L.length + 1) (hl : L.length < 400000) {L' : List Wr} (he : L.take s = L') : Calls Try.prog 17 #[.pointer (some ⟨b0, 0, none⟩), .int .i64 1, .int .i64 (s : Int)] W fun e w' => e = .returned (.bool true) ∧ Aside0 (Own w w' (Sep (ModAt b0 (sW m1 m2 b L' (s + 1))) R)) :=
  f_back h 1 s (sW_ok (P := fun x => x.l.length < 900000 ∧ x.saves.length < 900000 ∧ OneOk x) ⟨by show L.length < 900000; omega, by show (svs k).length < 900000; rw [svs_len]; omega, svs_ok hk⟩) (by
    subst he
    show (if (s : Int) < 0 ∨ ((svs k).length : Int) ≤ (s : Int) then _ else _) = _
    rw [svs_len, if_neg (by omega), Int.toNat_natCast, svs_get hs, svs_take (by omega), Int.toNat_natCast]
    rfl)
theorem w_back_no (h : Own w W (Sep (ModAt b0 (sW m1 m2 b L k)) R)) {x : Int} (hs : (k : Int) ≤ x) (hk : k ≤ L.length + 1) (hl : L.length < 400000) : Calls Try.prog 17 #[.pointer (some ⟨b0, 0, none⟩), .int .i64 1, .int .i64 x] W fun e w' => e = .returned (.bool false) ∧ Aside0 (Own w w' (Sep (ModAt b0 (sW m1 m2 b L k)) R)) :=
  f_back h 1 x (sW_ok (P := fun x => x.l.length < 900000 ∧ x.saves.length < 900000 ∧ OneOk x) ⟨by show L.length < 900000; omega, by show (svs k).length < 900000; rw [svs_len]; omega, svs_ok hk⟩) (by
    show (if x < 0 ∨ ((svs k).length : Int) ≤ x then _ else _) = _
    rw [svs_len, if_pos (by omega)])
theorem w_abort (h : Own w W (Sep (ModAt b0 (sW m1 m2 b L k)) R)) : Calls Try.prog 19 #[.pointer (some ⟨b0, 0, none⟩), .int .i64 1] W fun e w' => e = .returned (.bool true) ∧ Aside0 (Own w w' (Sep (ModAt b0 ⟨some m1, [], some m2, []⟩) R)) :=
  f_abort h 1 (p := (b, ⟨L, svs k⟩)) rfl rfl
theorem w_back_none (h : Own w W (Sep (ModAt b0 ⟨some m1, [], some m2, []⟩) R)) (s : Int) : Calls Try.prog 17 #[.pointer (some ⟨b0, 0, none⟩), .int .i64 1, .int .i64 s] W fun e w' => e = .returned (.bool false) ∧ Aside0 (Own w w' (Sep (ModAt b0 ⟨some m1, [], some m2, []⟩) R)) :=
  f_back h 1 s (fun p hp => by cases hp) rfl
end
theorem at_str {w : World} {A : Option Addr} {n : Nat} {ls : List ByteArray} (h : Kd.C Kd.string w A n ls) (i : Nat) (h1 : i < n) :
    ∃ ad, A = some ad ∧ w.cell? (ad.add i) = some (.string (ls.getD i default)) := by
  obtain ⟨ad, c, e, _, hK, hc0⟩ := Kd.C_get h (default : ByteArray) (i : Int) (by omega) (by omega)
  have hc : ∀ j u, c[j]? = some u → w.cell? (ad.add (i * 1 + j)) = some u := hc0
  have hK2 : c = [.string (ls.getD i default)] := hK
  subst hK2
  have := hc 0 _ rfl
  rw [Nat.mul_one, Nat.add_zero] at this
  exact ⟨ad, e, this⟩
theorem mods (turn : Int) (n : Nat) (hn : 0 < n) : ∃ (s : Nat) (m1 : Int), s < n ∧ turn.tmod (n : Int) = m1 ∧ -(n : Int) < m1 ∧ m1 < n ∧ (m1 + (n : Int)).tmod (n : Int) = (s : Int) := by
  have h1 := Int.tmod_lt_of_pos turn (show (0 : Int) < n by omega)
  have h2 := Int.lt_tmod_of_pos turn (show (0 : Int) < n by omega)
  have h3 : (turn.tmod (n : Int) + n).tmod (n : Int) = (turn.tmod (n : Int) + n) % n := Int.tmod_eq_emod_of_nonneg (by omega)
  have h4 := Int.emod_nonneg (turn.tmod (n : Int) + n) (show (n : Int) ≠ 0 by omega)
  have h5 := Int.emod_lt_of_pos (turn.tmod (n : Int) + n) (show (0 : Int) < n by omega)
  refine ⟨((turn.tmod (n : Int) + n) % n).toNat, _, by omega, rfl, h2, h1, by rw [h3]; omega⟩
theorem conv1 (W : World) (i : Int) : (convert 49 9 (.slice (some ⟨W.heap.size, 0, none⟩) 1 1)).run Try.prog (W.alloc (.cells #[.int .u8 i] 5)) = .ok (.string (strOfNums [i])) (W.alloc (.cells #[.int .u8 i] 5)) :=
  run_convert_bytes_arg (W.alloc (.cells #[.int .u8 i] 5)) 49 5 Try.underlying49 Try.underlying5 W.heap.size 0 1 1 [i] rfl (fun j hj => by
    obtain rfl : j = 0 := by omega
    exact blk_cell (heap_alloc_new W _) 0) 9 Try.underlying9
/-- What was there ahead of each write. -/
def WasOk (L : List Wr) (q : List Hd) : Prop := ∀ j, j < q.length → (q.getD j default).2.2 = overL [] (L.take j)
theorem WasOk.more {L : List Wr} {q : List Hd} (h : WasOk L q) (hl : q.length = L.length) (A : Option Addr) (c : Nat) (x : Wr) : WasOk (L ++ [x]) (q ++ [(A, c, overL [] L)]) := by
  intro j hj
  rw [List.length_append, List.length_singleton] at hj
  rw [List.take_append_of_le_length (by omega)]
  by_cases hjq : j < q.length
  · rw [← h j hjq]
    simp [List.getD, List.getElem?_append_left hjq]
  · have : j = q.length := by omega
    subst this
    rw [List.take_of_length_le (by omega)]
    simp [List.getD]
set_option maxHeartbeats 1600000 in
set_option maxRecDepth 100000 in
theorem saves_long (A : Option Addr) (c n : Nat) (at_ : Int) (w : World) (h : (n : Int) < 1 ∨ 20 < (n : Int)) :
    Calls Try.prog 7 #[.slice A n c, .int .i64 at_] w fun e w' => e = .returned (.bool true) ∧ Below w.heap.size w w' := by
  have CA := fun W => alive_calls W
  go_enter Try.func7, Try.ntmps7
  rcases h with h | h
  · have p0 := eq_true h
    clear h
    go_wp2_with (go_at_call 8; refine (CA _).mono ?_; rintro e w1 ⟨rfl, e1⟩)
    go_ret
    exact ⟨rfl, e1.below0⟩
  · have p1 : ((n : Int) < 1) = False := eq_false (by omega)
    have p2 : (20 < (n : Int)) = True := eq_true h
    clear h
    go_wp2_with (go_at_call 8; refine (CA _).mono ?_; rintro e w1 ⟨rfl, e1⟩)
    go_ret
    exact ⟨rfl, e1.below0⟩
set_option maxHeartbeats 1600000 in
set_option maxRecDepth 100000 in
theorem ModelSaves_walk (A : Option Addr) (c : Nat) (l : List ByteArray) (at_ : Int) (w : World) (t0 : l.length ≤ maxLen ∧ ∀ a_ ∈ l, a_.size ≤ maxLen) (y0 : l.length * 16 ≤ 140737488351232) (w1 : (Lit.int .i64 at_).wf = true) (hr : Kd.C Kd.string w A l.length l) (hc : l.length ≤ c) :
    Calls Try.prog 7 #[.slice A l.length c, .int .i64 at_] w fun e w' => e = .returned (.bool true) ∧ Below w.heap.size w w' := by
  by_cases hs : (l.length : Int) < 1 ∨ 20 < (l.length : Int)
  · exact saves_long A c l.length at_ w hs
  have B1 : 1 ≤ l.length := by omega
  have B2 : l.length ≤ 20 := by omega
  obtain ⟨s, mm, hM⟩ := mods at_ l.length B1
  have HM := Aside0.mk hM
  clear hM
  have CA := fun W => alive_calls W
  have CV := fun W i => conv1 W i
  have HC := Aside0.mk hr
  clear hr t0 hs y0 hc
  have p0 : ((l.length : Int) < 1) = False := eq_false (by omega)
  have p1 : (20 < (l.length : Int)) = False := eq_false (by omega)
  have p1' : ((l.length : Int) > 20) = False := eq_false (by omega)
  go_enter Try.func7, Try.ntmps7
  go_wp2_with (go_at_call 8; refine (CA _).mono ?_; rintro e w1 ⟨rfl, e1⟩; have H0 := Aside0.mk (own_made ((Own.start w).after e1)))
  refine (o_begin0 H0.out 1).mono ?_
  rintro e w2 ⟨rfl, m1, m2, b, H1⟩
  generalize hb0 : w1.heap.size = b0 at *
  have H2 : Aside0 (Own w w2 (Sep (ModAt b0 (sW m1 m2 b [] 0)) (Sep (EntsAt []) (RowAt kdH 32 (.slice none 0 0) [])))) :=
    Aside0.mk (Own.assoc (Own.nilRow _ _ (H1.out.new (Eff.refl _ _) (EntsAt.none _) (fun _ h => h.elim))))
  go_wp2_with fail
  go_loopg [7, 33] l.length (fun k s7 s33 wr => ∃ (i : Nat) (L : List Wr) (q : List Hd), s33 = .int .i64 i ∧ i + k = l.length ∧ L.length = i ∧ q.length = i ∧ Aside0 (WasOk L q ∧ Own w wr (Sep (ModAt b0 (sW m1 m2 b L i)) (Sep (EntsAt q) (RowAt kdH 32 s7 q)))))
  case atStart => exact ⟨0, [], [], rfl, by omega, rfl, rfl, Aside0.mk ⟨fun _ h => absurd h (Nat.not_lt_zero _), H2.out⟩⟩
  case round =>
    obtain ⟨i, L, q, rfl, hik, hL, hq, A1⟩ := hrel
    by_cases hi : i < l.length
    · have HQ := Aside0.mk (And.intro hL hq)
      clear hL hq
      have p2 : ((i : Int) < (l.length : Int)) = True := eq_true (by omega)
      obtain ⟨ad, ea, x0⟩ := at_str (Kd.C_below HC.out A1.out.2.below) i hi
      subst ea
      generalize l.getD i default = key at *
      obtain ⟨A7, c7, rfl, _, _⟩ := Own.row (Own.right (Own.right A1.out.2))
      by_cases hz : 40 < (key.size : Int)
      · have z1 := eq_true hz
        clear hz
        have N := Aside0.mk A1.out.2.below
        go_wp2
        go_ret
        exact ⟨rfl, N.out⟩
      have z1 := eq_false hz
      clear hz
      go_wp2_with fail
      refine (w_save A1.out.2 HQ.out.1 (by omega)).mono ?_
      rintro e w3 ⟨rfl, H3⟩
      go_wp2_with fail
      generalize hE : overL [] L = E at *
      refine (w_with H3.out (by have := HQ.out.1; omega) hE).mono ?_
      rintro e w4 ⟨A4, c4, rfl, H4⟩
      have H5 : Aside0 (Own w w4 (Sep (Sep (ModAt b0 (sW m1 m2 b L (i + 1))) (EntsAt (q ++ [(A4, c4, E)]))) (RowAt kdH 32 (.slice A7 q.length c7) q))) :=
        Aside0.mk (H4.out.imp (fun F hF => Sep.imp (shuffle hF) (fun _ h => Sep.imp h (fun _ h => h) (fun _ h => EntsAt.more h)) (fun _ h => h)))
      clear H4
      have HE := Aside0.mk hE
      clear hE
      obtain ⟨ok, hR, hok, hN⟩ := Own.append H5.out
      have HR := Aside0.mk (And.intro hR (And.intro hok hN))
      clear hR hok hN
      go_wp2_with (at_builtin; go_loud (refine Kd.R_append kdH (W := w4) (w0 := w4) 0 rfl (.tmp 53) (.tmp 56) 48 32 (.slice none 0 0) 24 rfl Try.underlying48 infoH rfl (by decide) (by decide) (.slice A7 q.length c7) q (A4, c4, E) [.slice A4 E.length c4] ok (fun _ => False) rfl rfl rfl (fun _ hk => hk.elim) HR.out.2.1 HR.out.1 (Below.refl _ _) (Nat.zero_le _) (by have := HQ.out.2; omega) ?_); intro v1 w5 r1 b1 g1 o1; have H6 := Aside0.mk (HR.out.2.2 v1 w5 _ r1 g1); clear r1 b1 g1 o1)
      have H7 := Aside0.mk (Own.assoc H6.out)
      clear H6
      generalize strOfNums [(i : Int)] = bv at *
      refine (w_put (H7.out.alloc _) (by have := HQ.out.1; omega) key bv).mono ?_
      rintro e w6 ⟨rfl, H8⟩
      go_wp2_with fail
      go_roundg (gk - 1)
      case measure => omega
      case rel =>
        refine ⟨i + 1, L ++ [⟨key, bv, false⟩], q ++ [(A4, c4, E)], by simp, by omega, by rw [List.length_append, HQ.out.1]; rfl, by rw [List.length_append, HQ.out.2]; rfl, Aside0.mk ⟨?_, H8.out⟩⟩
        rw [← HE.out]
        exact A1.out.1.more (by rw [HQ.out.1, HQ.out.2]) _ _ _
    · obtain rfl : i = l.length := by omega
      obtain ⟨hs1, hs2, hs3, hs4, hs5⟩ := HM.out
      have HQ := Aside0.mk (And.intro hL (And.intro hq A1.out.1))
      obtain ⟨ad, c7, rfl, _⟩ := Own.hdr (Own.right (Own.right A1.out.2)) s (by omega)
      rw [hq] at A1
      have hw1 : IntKind.i64.wrap (mm + (l.length : Int)) = mm + (l.length : Int) := by rw [IntKind.wrap_i64]; omega
      have hn0 : ((l.length : Int) = 0) = False := eq_false (by omega)
      have p2 : ((l.length : Int) < (l.length : Int)) = False := eq_false (by omega)
      clear hL hq
      go_wp2_with fail
      have p3 : ((s : Int) < (l.length : Int)) = True := eq_true (by omega)
      have hq0 : s < q.length := by rw [HQ.out.2.1]; exact hs1
      have p5 : ((s : Int) < (q.length : Int)) = True := eq_true (by omega)
      have hW := HQ.out.2.2 s hq0
      have HH := Aside0.mk (fun (W : World) (h : Own w W (RowAt kdH 32 (.slice (some ad) l.length c7) q)) => Own.hdr2 h s hq0)
      have HG := Aside0.mk (fun (W : World) (h : Own w W (EntsAt q)) => Own.ents h s hq0)
      have HT := Aside0.mk (show (L.take s).length = s by rw [List.length_take, HQ.out.1]; omega)
      generalize q.getD s default = p at *
      obtain ⟨A8, c8, E8⟩ := p
      dsimp only at hW HH HG
      have HW := Aside0.mk hW
      have HZ := Aside0.mk (show E8.length < 900000 by have := len_over [] (L.take s); rw [← HW.out, HT.out] at this; simp at this; omega)
      clear hW hq0 hs2 hs3 hs4 hs5 hw1 hn0
      go_loopg [13] 2 (fun k s13 wx => ∃ (j kk : Nat) (L' : List Wr), s13 = .int .i64 j ∧ j + k = 2 ∧ s < kk ∧ kk ≤ L'.length + 1 ∧ L'.length ≤ 40 ∧ Aside0 (L'.take s = L.take s ∧ Own w wx (Sep (ModAt b0 (sW m1 m2 b L' kk)) (Sep (EntsAt q) (RowAt kdH 32 (.slice (some ad) l.length c7) q)))))
      case atStart => exact ⟨0, l.length, L, rfl, rfl, hs1, by rw [HQ.out.1]; omega, by rw [HQ.out.1]; omega, Aside0.mk ⟨rfl, A1.out.2⟩⟩
      case round =>
        obtain ⟨j, kk, L', rfl, hjk, hk1, hk2, hk3, D1⟩ := hrel
        by_cases hj : j < 2
        · have p4 : ((j : Int) < 2) = True := eq_true (by omega)
          go_upto_region 22 with (fail)
          go_cut [96] (fun v wx => v = .bool false ∧ Aside0 (Own w wx (Sep (ModAt b0 (sW m1 m2 b (L.take s) (s + 1))) (Sep (EntsAt q) (RowAt kdH 32 (.slice (some ad) l.length c7) q)))))
          case first =>
            have hw1 : IntKind.i64.wrap ((s : Int) + 1) = (s : Int) + 1 := by rw [IntKind.wrap_i64]; omega
            have y0 := HH.out _ D1.out.2.right.right
            go_region_held3 (fun W' => W'.cell? (ad.add s) = some (.slice A8 E8.length c8)) ((first | assumption | go_keep))
              (first
              | (go_at_call 17; have h5 := H5; refine (w_back_no h5.out (by omega) (by rw [HT.out]; omega) (by rw [HT.out]; omega)).mono ?_; rintro e w6 ⟨rfl, H6⟩; have y6 := HH.out _ H6.out.right.right)
              | (go_at_call 17; refine (w_back D1.out.2.drew hk1 hk2 (by omega) D1.out.1).mono ?_; rintro e w3 ⟨rfl, H3⟩; have y3 := HH.out _ H3.out.right.right)
              | (go_at_call 15; refine (w_with H3.out (by rw [HT.out]; omega) HW.out.symm).mono ?_; rintro e w4 ⟨A4, c4, rfl, H4⟩; have y4 := HH.out _ H4.out.left.right.right)
              | (go_at_call 18; refine (same_yes w4 A4 A8 c4 c8 E8.length E8 (Own.ent H4.out.right) (HG.out _ H4.out.left.right.left) rfl HZ.out).mono ?_; rintro e w5 ⟨rfl, E5⟩; have H5 := Aside0.mk (H4.out.left.after E5); have y5 := HH.out _ H5.out.right.right))
            all_goals (go_wp2_with fail; go_meet)
            all_goals (case rel => exact ⟨rfl, H6⟩)
          case rest =>
            obtain ⟨rfl, H6⟩ := hcut
            go_wp2_with fail
            refine (w_put H6.out (by rw [HT.out]; omega) _ _).mono ?_
            rintro e w7 ⟨rfl, H7⟩
            go_wp2_with fail
            refine (w_del H7.out (by rw [List.length_append, HT.out]; simp; omega) _).mono ?_
            rintro e w8 ⟨r, L8, rfl, ⟨X, hX, rfl⟩, H8⟩
            go_wp2_with fail
            go_roundg (gk - 1)
            case measure => omega
            case rel =>
              have hT := HT.out
              have hlen : ((L.take s ++ [(⟨⟨#[109, 111, 114, 101]⟩, ⟨#[120]⟩, false⟩ : Wr)]) ++ X).length = s + 1 + X.length := by simp only [List.length_append, hT, List.length_cons, List.length_nil]
              exact ⟨j + 1, s + 1, _, by simp, by omega, by omega, by rw [hlen]; omega, by rw [hlen]; omega, Aside0.mk ⟨by rw [List.append_assoc, List.take_append_of_le_length (by omega), List.take_of_length_le (by omega)], H8.out⟩⟩
        · have p4 : ((j : Int) < 2) = False := eq_false (by omega)
          go_wp2_with fail
          refine (w_back D1.out.2 (s := 0) (by omega) hk2 (by omega) (L' := []) rfl).mono ?_
          rintro e w3 ⟨rfl, H3⟩
          go_wp2_with fail
          refine (w_with H3.out (by show 0 < 400000; decide) (m := []) rfl).mono ?_
          rintro e w4 ⟨A4, c4, rfl, H4⟩
          go_wp2_with fail
          refine (w_abort H4.out.left).mono ?_
          rintro e w5 ⟨rfl, H5⟩
          go_wp2_with fail
          refine (w_back_none H5.out 0).mono ?_
          rintro e w6 ⟨rfl, H6⟩
          go_wp2_with fail
          go_ret
          exact ⟨rfl, H6.out.below⟩
end Go.Proofs.Ytbfpmgbfkipiaaa.Pure
