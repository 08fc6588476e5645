import Derived.Test.YtdhajfimhjbbiaaQDrop
namespace Go.Proofs.Ytdhajfimhjbbiaa.Q
open Go Go.RowKit Go.Proofs.YtdhajfimhjbbiaaW.PrintWords Go.Proofs.YtdhajfimhjbbiaaW.PrintLast Go.Proofs.YtdhajfimhjbbiaaW.PrintMore
set_option linter.unusedVariables false
open Go.Proofs.Ytdhajfimhjbbiaa.L
theorem Row.set {w w1 : World} {base b : Nat} {v v1 : Value} {xs ys : List (Int × Int)} (hR : Row w base b v xs) (hb : w1.heap[b]? = w.heap[b]?) (r1 : kd.R 67 w1 base (fun _ => True) v1 ys) : Row (w1.setCell ⟨b, 0, none⟩ v1) base b v1 ys := by
  have hb1 := hb.trans hR.blk
  exact ⟨one_setCell hb1, hR.from_, Kd.R_mono (Kd.R_far (Kd.R_types r1 hb1 (by decide)) (p := ⟨b, 0, none⟩) (fun _ hk => hk.2) v1) (fun _ _ => trivial)⟩
theorem keepL_length (id : Int) (xs : List (Int × Int)) : (keepL id xs).length ≤ xs.length := List.length_filter_le _ _
/-- What is left, as a heap. -/
def dropL (id : Int) (xs : List (Int × Int)) : List (Int × Int) := initL ((keepL id xs).length / 2) (keepL id xs) (keepL id xs).length
theorem dropL_length (id : Int) (xs : List (Int × Int)) : (dropL id xs).length = (keepL id xs).length := initL_length _ _ _
set_option maxHeartbeats 4000000 in
set_option maxRecDepth 100000 in
theorem qdrop_calls (w : World) (base b : Nat) (v : Value) (xs : List (Int × Int)) (id : Int) (hR : Row w base b v xs) (hbase : base ≤ w.heap.size) (hm : xs.length < 900000) :
    Calls Try.prog 17 #[.pointer (some ⟨b, 0, none⟩), .int .i64 id] w fun e w' => e = .returned (.int .i64 ((xs.length : Int) - (keepL id xs).length)) ∧ Post w base b v (dropL id xs) w' := by
  cases xs with
  | nil =>
    have R1 : ∀ o, Row (w.alloc o) base b v [] := fun o => hR.eff ((Eff.refl (fun _ => False) _).alloc o) (fun h => h) (fun _ _ h => h)
    go_enter Try.func17, Try.ntmps17
    go_wp2_with (go_at_call 14; refine (qlen_calls _ base b v [] (by first | exact R1 _ | exact Row.after (R1 _) (by assumption))).mono ?_; rintro e w2 ⟨rfl, k2⟩)
    go_ret
    refine ⟨rfl, ?_⟩
    have e1 : Eff (fun _ => False) w w2 := ((((Eff.refl _ w).alloc _).drawn (by assumption)).drawn (by assumption))
    have e2 : dropL id [] = [] := by simp [dropL, keepL, initL]
    rw [e2]
    exact (Post.refl (w := w) hR).after e1
  | cons x xs =>
    obtain ⟨g, cap, rfl, hc⟩ := hR.form (by simp)
    have hlb := hR.lt
    have hlg := R_lt_g hR.row
    have hgb : b ≠ g := fun e => hR.ne (by rw [e]; rfl)
    obtain ⟨n, hn⟩ : ∃ n, n = (x :: xs).length := ⟨_, rfl⟩
    have hn0 : 0 < n := by rw [hn]; simp
    generalize x :: xs = ys at *
    have C1 := qlen_calls (w.alloc (.cells #[.int .i64 id] 3)) base b _ _ (hR.eff ((Eff.refl (fun _ => False) _).alloc _) (fun h => h) (fun _ _ h => h))
    rw [← hn] at C1 hm ⊢
    have F : ∀ w1, Eff (fun _ => False) (w.alloc (.cells #[.int .i64 id] 3)) w1 → Row w1 base b (.slice (some ⟨g, 0, none⟩) n cap) ys ∧ w1.cell? ⟨w.heap.size, 0, none⟩ = some (.int .i64 id) := by
      intro w1 e1
      have e0 := ((Eff.refl (fun _ => False) w).alloc (.cells #[.int .i64 id] 3)).trans e1 (fun _ h => h.elim)
      refine ⟨hn ▸ hR.eff e0 (fun h => h) (fun _ _ h => h), ?_⟩
      have hnw := heap_alloc_new w (.cells #[.int .i64 id] 3)
      exact blk_cell ((e1.block _ (by simp) (fun h => h)).trans hnw) 0
    have C2 : ∀ w1, Drawn0 (w.alloc (.cells #[.int .i64 id] 3)) w1 → Calls Try.prog 26 #[.slice (some ⟨g, 0, none⟩) n cap, .func (.func 27) #[] #[.pointer (some ⟨w.heap.size, 0, none⟩)]] w1 fun e w' =>
        ∃ m, e = .returned (.slice (some ⟨g, 0, none⟩) m cap) ∧ Row (w'.setCell ⟨b, 0, none⟩ (.slice (some ⟨g, 0, none⟩) m cap)) base b (.slice (some ⟨g, 0, none⟩) m cap) (keepL id ys) ∧ Eff (Foot b (.slice (some ⟨g, 0, none⟩) n cap)) w (w'.setCell ⟨b, 0, none⟩ (.slice (some ⟨g, 0, none⟩) m cap)) ∧ (∃ u, w'.cell? ⟨b, 0, none⟩ = some u) ∧ w'.frozen? ⟨b, 0, none⟩ = false := by
      intro w1 d1
      have e1 := (Eff.refl (fun _ => False) _).drawn d1
      obtain ⟨r1, c1⟩ := F w1 e1
      have D := delete_calls w1 base g cap w.heap.size ys id (by rw [← hn]; exact r1.row) c1 (by omega) (by rw [← hn]; exact hm)
      rw [← hn] at D
      refine D.mono fun e w' ⟨m, he, hr, hk⟩ => ⟨m, he, ?_⟩
      have hbb := hk.block b r1.lt hgb
      refine ⟨r1.set hbb hr, ?_, ⟨_, blk_cell (hbb.trans r1.blk) 0⟩, blk_frozen (hbb.trans r1.blk) 0⟩
      have e2 : Eff (Foot b (.slice (some ⟨g, 0, none⟩) n cap)) w w' := (((Eff.refl _ w).alloc (.cells #[.int .i64 id] 3)).trans e1 (fun _ h => h.elim)).trans hk (fun k hk => .inl (.inr (by rw [hk]; rfl)))
      exact e2.set _ _ (.inl (.inl rfl))
    have hv : ∀ w1, Drawn0 (w.alloc (.cells #[.int .i64 id] 3)) w1 → w1.cell? ⟨b, 0, none⟩ = some (.slice (some ⟨g, 0, none⟩) n cap) := fun w1 d1 => (F w1 ((Eff.refl (fun _ => False) _).drawn d1)).1.cell
    have hkl := Aside0.mk (keepL_length id ys)
    have hnn := Aside0.mk hn
    have p1 : (0 < (n : Int)) = True := eq_true (by omega)
    have B : n < 900000 := hm
    clear hR F hn hc
    go_enter Try.func17, Try.ntmps17
    go_wp2_with (first | (go_at_call 14; refine C1.mono ?_; rintro e w2 ⟨rfl, d2⟩; have hv2 := hv _ d2; have C3 := C2 _ d2; clear C1 hv C2) | (go_at_call 26; refine C3.mono ?_; rintro e w3 ⟨m, rfl, r3, e3, ⟨u3, c3⟩, f3⟩) | (go_at_call 28; refine (init_calls _ base b _ _ r3 (by have := hkl.out; have := hnn.out; omega)).mono ?_; rintro e w4 ⟨rfl, r4, e4⟩; have C5 := qlen_calls w4 base b _ _ r4; rw [initL_length] at C5) | (go_at_call 14; refine C5.mono ?_; rintro e w5 ⟨rfl, d5⟩))
    go_ret
    have e5 : Eff (Foot b (.slice (some ⟨g, 0, none⟩) n cap)) w w5 := (e3.trans e4 (fun i h => .inl h)).drawn d5
    have w1 : wrap64 ((n : Int) - (keepL id ys).length) = (n : Int) - (keepL id ys).length := by have := hkl.out; have := hnn.out; unfold wrap64; omega
    exact ⟨by simp [w1], _, r4.after d5, e5, fun k hk => .inl hk⟩
theorem NewT.drop {w W : World} {b : Nat} {l : List (Int × Int)} (h : NewT w W b l) (hw : w.heap.size ≤ W.heap.size) (hm : l.length < 900000) (id : Int) : Calls Try.prog 17 #[.pointer (some ⟨b, 0, none⟩), .int .i64 id] W fun e w' => e = .returned (.int .i64 ((l.length : Int) - (keepL id l).length)) ∧ NewT w w' b (keepL id l) ∧ QEff w W w' := by
  obtain ⟨v, xs, r, q⟩ := h
  have hl : (keepL id xs).length = (keepL id l).length := (q.perm.filter _).length_eq
  rw [← q.length] at hm ⊢
  rw [← hl]
  exact (qdrop_calls W _ b v xs id r hw hm).mono fun _ _ ⟨he, hp⟩ => ⟨he, NewT.post r hp (q.drop _)⟩
/-- Two queues that were made since w. -/
def New2 (w W : World) (b c : Nat) (l m : List (Int × Int)) : Prop := ∃ v xs u ys, Row W w.heap.size b v xs ∧ QS xs l ∧ Row W w.heap.size c u ys ∧ QS ys m ∧ b ≠ c ∧ (∀ k, v.ownBlock = some k → k ≠ c ∧ u.ownBlock ≠ some k) ∧ (∀ k, u.ownBlock = some k → k ≠ b)
theorem New2.symm {w W : World} {b c : Nat} {l m : List (Int × Int)} (h : New2 w W b c l m) : New2 w W c b m l := by
  obtain ⟨v, xs, u, ys, r, q, r', q', hbc, h1, h2⟩ := h
  exact ⟨u, ys, v, xs, r', q', r, q, Ne.symm hbc, fun k hk => ⟨h2 k hk, fun hv => (h1 k hv).2 hk⟩, fun k hk => (h1 k hk).1⟩
theorem New2.post {w W W' : World} {b c : Nat} {m l' : List (Int × Int)} {v u : Value} {xs ys xs' : List (Int × Int)} (r : Row W w.heap.size b v xs) (r' : Row W w.heap.size c u ys) (q' : QS ys m) (hbc : b ≠ c) (h1 : ∀ k, v.ownBlock = some k → k ≠ c ∧ u.ownBlock ≠ some k) (h2 : ∀ k, u.ownBlock = some k → k ≠ b)
    (p : Post W w.heap.size b v xs' W') (q : QS xs' l') : New2 w W' b c l' m ∧ QEff w W W' := by
  have hq := (NewT.post r p q).2
  obtain ⟨v', rv, e, o⟩ := p
  have hf : ∀ k, Foot b v k → k ≠ c ∧ u.ownBlock ≠ some k := by
    rintro k (rfl | hk)
    · exact ⟨hbc, fun hu => h2 k hu rfl⟩
    · exact h1 k hk
  have ru : Row W' w.heap.size c u ys := r'.eff e (fun h => (hf c h).1 rfl) (fun k hk h => (hf k h).2 hk)
  refine ⟨⟨v', xs', u, ys, rv, q, ru, q', hbc, fun k hk => ?_, h2⟩, hq⟩
  rcases o k hk with h | h
  · exact h1 k h
  · exact ⟨fun he => by have := r'.lt; omega, fun hu => by have := r'.own_lt k hu; omega⟩
theorem New2.after {w W W' : World} {b c : Nat} {l m : List (Int × Int)} (h : New2 w W b c l m) (k : Eff (fun _ => False) W W') : New2 w W' b c l m := by
  obtain ⟨v, xs, u, ys, r, q, r', q', hbc, h1, h2⟩ := h
  exact ⟨v, xs, u, ys, r.eff k (fun h => h) (fun _ _ h => h), q, r'.eff k (fun h => h) (fun _ _ h => h), q', hbc, h1, h2⟩
theorem New2.alloc {w W : World} {b c : Nat} {l m : List (Int × Int)} (h : New2 w W b c l m) (o : Obj) : New2 w (W.alloc o) b c l m := h.after ((Eff.refl _ _).alloc o)
theorem New2.drewN {w W : World} {b c : Nat} {l m : List (Int × Int)} (h : New2 w W b c l m) (n : Nat) : New2 w (W.drewN n) b c l m := h.after ((Eff.refl _ _).drawn ⟨_, rfl⟩)
theorem New2.drew {w W : World} {b c : Nat} {l m : List (Int × Int)} (h : New2 w W b c l m) : New2 w W.drew b c l m := h.after ((Eff.refl _ _).drew)
theorem New2.mk (w W : World) (h : w.heap.size ≤ W.heap.size) : New2 w ((W.alloc (.cells #[.slice none 0 0] 28)).alloc (.cells #[.slice none 0 0] 28)) W.heap.size (W.heap.size + 1) [] [] := by
  have r1 : Row (W.alloc (.cells #[.slice none 0 0] 28)) w.heap.size W.heap.size (.slice none 0 0) [] := ⟨heap_alloc_new W _, h, Kd.R_nil _ _ _ _ _⟩
  have r2 := r1.eff ((Eff.refl (fun _ => False) _).alloc (.cells #[.slice none 0 0] 28)) (fun h => h) (fun _ _ h => h)
  refine ⟨_, _, .slice none 0 0, [], r2, QS.nil, ⟨?_, by omega, Kd.R_nil _ _ _ _ _⟩, QS.nil, by omega, fun k hk => by simp [Value.ownBlock] at hk, fun k hk => by simp [Value.ownBlock] at hk⟩
  have := heap_alloc_new (W.alloc (.cells #[.slice none 0 0] 28)) (.cells #[.slice none 0 0] 28)
  simpa using this
theorem New2.push {w W : World} {b c : Nat} {l m : List (Int × Int)} (h : New2 w W b c l m) (hw : w.heap.size ≤ W.heap.size) (hm : l.length < 900000) (x y : Int) : Calls Try.prog 11 #[.pointer (some ⟨b, 0, none⟩), .int .i64 x, .int .i64 y] W fun e w' => e = .returned (.tuple #[]) ∧ New2 w w' b c (insL (x, y) l) m ∧ QEff w W w' := by
  obtain ⟨v, xs, u, ys, r, q, r', q', hbc, h1, h2⟩ := h
  exact (qpush_calls W _ b v xs x y r hw (by rw [q.length]; exact hm)).mono fun _ _ ⟨he, hp⟩ => ⟨he, New2.post r r' q' hbc h1 h2 hp (q.push _)⟩
theorem New2.pop {w W : World} {b c : Nat} {l m : List (Int × Int)} (h : New2 w W b c l m) (hm : l.length < 900000) : Calls Try.prog 13 #[.pointer (some ⟨b, 0, none⟩)] W fun e w' => e = .returned (.tuple #[.int .i64 (hd l).1, .int .i64 (hd l).2, .bool (decide (0 < l.length))]) ∧ New2 w w' b c l.tail m ∧ QEff w W w' := by
  obtain ⟨v, xs, u, ys, r, q, r', q', hbc, h1, h2⟩ := h
  rw [← q.length] at hm
  rw [← q.top, ← q.length]
  exact (qpop_calls W _ b v xs r hm).mono fun _ _ ⟨he, hp⟩ => ⟨he, New2.post r r' q' hbc h1 h2 hp q.tail⟩
theorem New2.drop {w W : World} {b c : Nat} {l m : List (Int × Int)} (h : New2 w W b c l m) (hw : w.heap.size ≤ W.heap.size) (hm : l.length < 900000) (id : Int) : Calls Try.prog 17 #[.pointer (some ⟨b, 0, none⟩), .int .i64 id] W fun e w' => e = .returned (.int .i64 ((l.length : Int) - (keepL id l).length)) ∧ New2 w w' b c (keepL id l) m ∧ QEff w W w' := by
  obtain ⟨v, xs, u, ys, r, q, r', q', hbc, h1, h2⟩ := h
  have hl : (keepL id xs).length = (keepL id l).length := (q.perm.filter _).length_eq
  rw [← q.length] at hm ⊢
  rw [← hl]
  exact (qdrop_calls W _ b v xs id r hw hm).mono fun _ _ ⟨he, hp⟩ => ⟨he, New2.post r r' q' hbc h1 h2 hp (q.drop _)⟩
theorem blk_typed {w w1 : World} {B k t : Nat} {cs : Array Value} {T : List Nat} (h : w.heap[k]? = some (.cells cs t (0, 0))) (e : Eff (Typed B w T) w w1) (ht : t ∉ T) : w1.heap[k]? = some (.cells cs t (0, 0)) := by
  refine (e.block k (blk_lt h) ?_).trans h
  rintro ⟨_, cells, t', hc, ht'⟩
  rw [h] at hc
  injection hc with hc
  injection hc with _ hc
  subst hc
  exact ht ht'
end Go.Proofs.Ytdhajfimhjbbiaa.Q
