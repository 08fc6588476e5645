import Derived.Test.YtcgncdcihglgdaaTSortF
import Derived.Test.YtcgncdcihglgdaaTTwo
namespace Go.Proofs.Ytcgncdcihglgdaa.T
open Go Go.RowKit Go.Proofs.YtcgncdcihglgdaaW.PrintWords Go.Proofs.YtcgncdcihglgdaaW.PrintLast Go.Proofs.YtcgncdcihglgdaaW.PrintMore Go.Proofs.Ytcgncdcihglgdaa.L
set_option linter.unusedVariables false
set_option linter.unusedSimpArgs false
def allP (l : List (Int × Nat × One)) : List (Int × Int) := l.map (fun p => (p.1, p.2.2.last))
def lastOf (l : List (Int × Nat × One)) (k : Int) : Int := match getP l k with | some p => p.2.last | none => 0
theorem infoT : (Try.prog.info? 62).map (fun i => (i.zero, i.size, i.bytes)) = some (some (.agg #[.int .i64 0, .int .i64 0, .bool false, .slice none 0 0]), 4, 48) := by kernel_rfl
set_option maxHeartbeats 4000000 in
set_option maxRecDepth 100000 in
theorem last0_calls (tb : Nat) (s : Tab) (W : World) (F : Nat → Prop) (p : Int × Nat × One) (h : (TabAt tb s).on W F) (hg : getP s.l p.1 = some p.2) :
    Calls Try.prog 18 #[.pointer (some ⟨tb, 0, none⟩), .int .i64 p.1] W fun e w' => e = .returned (.tuple #[.int .i64 p.2.2.last, .bool true]) ∧ Drawn0 W w' := by
  have C := get_calls tb s W F p.1 h
  obtain ⟨tx, b, x⟩ := p
  dsimp only at hg C ⊢
  rw [hg] at C
  dsimp only [ptrOf, Option.map_none, Option.map_some] at C
  have K : ∀ w1, Drawn0 W w1 → w1.cell? ⟨b, 0, none⟩ = some (.int .i64 x.last) := by
    intro w1 d1
    obtain ⟨F1, h1, _⟩ := TabAt.has (HP.eff0 h ((Eff.refl _ _).drawn d1)) hg
    obtain ⟨vu, vs, c0, _⟩ := OneAt.cells h1
    exact c0
  clear h hg
  go_enter Try.func18, Try.ntmps18
  go_wp2_with (go_at_call 20; refine C.mono ?_; rintro e w1 ⟨rfl, d1⟩; have c0 := K w1 d1; clear K)
  go_ret2
  exact ⟨rfl, d1⟩
theorem del_perm1 {left : List (Int × Value)} (hn : (left.map (·.1)).Nodup) {p : Int × Value} (hp : p ∈ left) : left.Perm (p :: del left p.1) := del_perm hn hp
/-- What was gathered so far, and what is left. -/
structure Gs (W : World) (l : List (Int × Nat × One)) (left : List (Int × Value)) (xs : List (Int × Int)) (v : Value) (wr : World) : Prop where
  e : Below W.heap.size W wr
  n : (left.map (·.1)).Nodup
  i : ∀ p ∈ left, p ∈ ptrs l
  p : (xs ++ left.map (fun p : Int × Value => (p.1, lastOf l p.1))).Perm (allP l)
  r : kdT.R 62 wr W.heap.size (fun k => k ≠ W.heap.size) v xs
set_option maxHeartbeats 1600000 in
set_option maxRecDepth 100000 in
theorem all_of (tb : Nat) (s : Tab) (W : World) (F : Nat → Prop) (m : Nat) (h : (TabAt tb s).on W F) (hmb : s.mb = some m) (hl : s.l.length < 900000) (Q : Value → World → Prop)
    (CS : ∀ w1 v xs, Below W.heap.size W w1 → xs.Perm (allP s.l) → kdT.R 62 w1 W.heap.size (fun k => k ≠ W.heap.size) v xs → Calls Try.prog 23 #[v, .func (.func 24) #[] #[]] w1 fun e w' => e = .returned (.tuple #[]) ∧ Q v w') :
    Calls Try.prog 19 #[.pointer (some ⟨tb, 0, none⟩)] W fun e w' => ∃ v, e = .returned v ∧ Q v w' := by
  obtain ⟨c0, c1, f0, f1⟩ := TabAt.cells h
  rw [hmb] at c0
  obtain ⟨F1, hp, _⟩ := TabAt.map h
  have hn := PMap.nodup hp
  have hM : MapAt keyInt W m (ptrs s.l) := by
    obtain ⟨G1, G2, g1, _⟩ := hp
    rw [hmb] at g1
    exact g1.1
  have hmlt : m < W.heap.size := hM.lt
  have CL : ∀ wr, Below W.heap.size W wr → ∀ q ∈ s.l, Calls Try.prog 18 #[.pointer (some ⟨tb, 0, none⟩), .int .i64 q.1] wr fun e w' => e = .returned (.tuple #[.int .i64 q.2.2.last, .bool true]) ∧ Drawn0 wr w' :=
    fun wr hB q hq => last0_calls tb s wr F q (HP.eff0 h (Eff.of_below hB)) (getP_mem hn hq)
  obtain ⟨l, hle⟩ : ∃ l, l = s.l := ⟨_, rfl⟩
  rw [← hle] at CL CS hn hM hl
  have hlast : ∀ q ∈ l, lastOf l q.1 = q.2.2.last := fun q hq => by simp only [lastOf, getP_mem hn hq]
  have hp0 : ([] ++ (ptrs l).map (fun p : Int × Value => (p.1, lastOf l p.1))).Perm (allP l) := by
    rw [List.nil_append]
    unfold ptrs allP
    rw [List.map_map]
    refine List.Perm.of_eq (List.map_congr_left (fun q hq => ?_))
    simp only [Function.comp_apply, hlast q hq]
  have A0 := Aside0.mk (And.intro hn (And.intro hl (And.intro hlast hp0)))
  clear h hmb hp hn hle hl hlast hp0
  go_enter Try.func19, Try.ntmps19
  go_wp2_with (at_range; refine wpList_range_map rfl (.tmp 15) rfl rfl hM Try.underlying25 ?_; intro o' hI)
  go_frame
  go_loopg [3] l.length (fun k s3 wr => ∃ (left : List (Int × Value)) (xs : List (Int × Int)), Iter keyInt wr W.heap.size m (ptrs l) left ∧ left.length ≤ k ∧ Aside0 (Gs W l left xs s3 wr))
  case atStart => exact ⟨ptrs l, [], hI, by simp [ptrs], Aside0.mk ⟨below_alloc (Below.refl _ _) _, by rw [ptrs_keys]; exact A0.out.1, fun _ h => h, A0.out.2.2.2, Kd.R_nil _ _ _ _ _⟩⟩
  case round =>
    obtain ⟨left, xs, hI, hk, A1⟩ := hrel
    go_wp2_with (at_next; refine wpList_next_map rfl (.tmp 16) rfl rfl hI ?_ ?_)
    · intro h0
      subst h0
      have C := CS _ _ _ A1.out.e (by have := A1.out.p; simpa using this) A1.out.r
      obtain ⟨A5, c5, hv⟩ := Kd.R_slice A1.out.r
      subst hv
      clear hI CS hM A1 hk CL
      go_wp2_with (go_at_call 23; refine C.mono ?_; rintro e w2 ⟨rfl, A2⟩; clear C)
      go_ret
      exact ⟨_, rfl, A2⟩
    · intro k0 v0 w' hp hI' hg hs hen
      have hpl := A1.out.i (k0, v0) hp
      unfold ptrs at hpl
      obtain ⟨q, hq, hqe⟩ := List.mem_map.1 hpl
      obtain ⟨rfl, rfl⟩ := Prod.mk.inj hqe
      have hB : Below W.heap.size W w' := below_eff A1.out.e (Nat.le_refl _) (Eff.of_grown hg (S := fun k => k = W.heap.size) (fun k hk => by injection hk with hk; exact hk.symm)) (fun k hk => by rw [hk]; exact Nat.le_refl _)
      have hR := Kd.R_step (w1 := w') A1.out.r (fun k hk hlt => (Eff.of_grown (S := fun j => j = W.heap.size) hg (fun i hi => by injection hi with hi; exact hi.symm)).block k hlt hk)
      obtain ⟨A5, c5, hv⟩ := Kd.R_slice A1.out.r
      subst hv
      have hen2 : (Instr.entry (.pointer (some ⟨W.heap.size, 0, none⟩))).run Try.prog w' = .ok (.tuple #[.int .i64 q.1, .pointer (some ⟨q.2.1, 0, none⟩)]) w' := hen
      have C := CL w' hB q hq
      have hdp := del_perm1 A1.out.n hp
      have hlen := hdp.length_eq
      rw [List.length_cons] at hlen
      have hp2 : ((xs ++ [(q.1, q.2.2.last)]) ++ (del left q.1).map (fun p : Int × Value => (p.1, lastOf l p.1))).Perm (allP l) := by
        have h1 := hdp.map (fun p : Int × Value => (p.1, lastOf l p.1))
        rw [List.map_cons] at h1
        dsimp only at h1
        rw [A0.out.2.2.1 q hq] at h1
        rw [List.append_assoc]
        exact (h1.symm.append_left xs).trans A1.out.p
      have hxs : xs.length < 900000 := by
        have h1 := A1.out.p.length_eq
        have h2 := A0.out.2.1
        rw [List.length_append, allP, List.length_map, List.length_map] at h1
        omega
      have hdn : ((del left q.1).map (·.1)).Nodup := del_nodup A1.out.n _
      have hsub : ∀ p ∈ del left q.1, p ∈ ptrs l := fun p hp => A1.out.i p ((List.mem_filter.1 hp).1)
      have A5' := Aside0.mk (And.intro hI' (And.intro hp2 (And.intro hlen (And.intro hk (And.intro hdn hsub)))))
      have HR := Aside0.mk (And.intro hR hB)
      have hit : W.heap.size < w'.heap.size := hI'.lt
      clear hdn hsub hp hI' hg hs hen hq hdp hlen hp2 hR hB hI hk CS A1 CL hpl hM
      try clear hqe
      rw [show keyInt.enc q.1 = .int .i64 q.1 from rfl]
      obtain ⟨tx, b, x⟩ := q
      dsimp only at hen2 C ⊢
      generalize x.last = ln at *
      go_wp2_with (first
        | (go_at_call 18; refine C.mono ?_; rintro e w3 ⟨rfl, d3⟩; clear C; have HR3 := Aside0.mk (And.intro (Kd.R_step (w1 := w3) HR.out.1 (fun k hk hlt => ((Eff.refl (fun _ => False) w').drawn d3).block k hlt id)) (below_eff HR.out.2 (Nat.le_refl _) ((Eff.refl (fun _ => False) w').drawn d3) (fun _ h => h.elim))))
        | (at_builtin; refine Kd.R_append kdT (W := w3) (w0 := W) W.heap.size rfl (.tmp 27) (.tmp 31) 49 62 (.agg #[.int .i64 0, .int .i64 0, .bool false, .slice none 0 0]) 48 rfl Try.underlying49 infoT rfl (by decide) (by decide) (.slice A5 xs.length c5) xs (tx, ln) (cellsT (tx, ln)) (fun k => k ≠ W.heap.size) (fun _ => False) rfl rfl rfl (fun _ hk => hk.elim) (fun k hk => by have := HR3.out.2.size; have := ((Eff.refl (fun _ => False) w').drawn d3).size; omega) HR3.out.1 HR3.out.2 HR3.out.2.size (by omega) ?_; intro v1 w4 r1 b1 g1 o1; have A3 := Aside0.mk (And.intro r1 (And.intro b1 g1)); clear r1 b1 g1 o1))
      go_roundg (gk - 1)
      case measure => have := A5'.out.2.2.1; have := A5'.out.2.2.2.1; omega
      case rel =>
        obtain ⟨r1, b1, g1⟩ := A3.out
        obtain ⟨hI2, hp2, hdl, hk, hn2, hi2⟩ := A5'.out
        have E3 : Eff (fun _ => False) w' w3 := (Eff.refl (fun _ => False) w').drawn d3
        have E : Eff (fun k => (Value.slice A5 xs.length c5).ownBlock = some k) w3 w4 := Eff.of_grown g1 (fun i hi => hi)
        have hit3 : W.heap.size < w3.heap.size := Nat.lt_of_lt_of_le hit E3.size
        refine ⟨_, xs ++ [(tx, ln)], (hI2.move ?_ ?_), by omega, Aside0.mk ⟨b1, hn2, hi2, hp2, r1⟩⟩
        · refine (E.block m (Nat.lt_of_lt_of_le hmlt HR3.out.2.size) (fun hk => ?_)).trans (E3.block m (Nat.lt_of_lt_of_le hmlt HR.out.2.size) id)
          have := Kd.R_base HR3.out.1 m hk
          omega
        · exact (E.block _ hit3 (fun hk => HR3.out.1.1 _ hk rfl)).trans (E3.block _ hit id)
set_option maxHeartbeats 1600000 in
set_option maxRecDepth 100000 in
theorem insert_nil (w : World) (c : Nat) (f : Value) :
    Calls Try.prog 28 #[.slice none 0 c, .int .i64 0, .int .i64 0, f] w fun e w' => e = .returned (.tuple #[]) ∧ w' = w := by
  go_enter Try.func28, Try.ntmps28
  go_wp2
  go_loopg [8] 0 (fun k s8 wr => s8 = .int .i64 1 ∧ wr = w)
  case atStart => exact ⟨rfl, rfl⟩
  case round =>
    obtain ⟨rfl, rfl⟩ := hrel
    go_wp2
    first | go_end0 | (refine bodyPost_ret (results_none rfl _ _ _) rfl ?_)
    exact ⟨rfl, rfl⟩
set_option maxHeartbeats 1600000 in
set_option maxRecDepth 100000 in
theorem pdq_nil (w : World) (c : Nat) (lim : Value) (f : Value) :
    Calls Try.prog 26 #[.slice none 0 c, .int .i64 0, .int .i64 0, lim, f] w fun e w' => e = .returned (.tuple #[]) ∧ w' = w := by
  go_enter Try.func26, Try.ntmps26
  go_wp2
  go_loopg [1, 2] 0 (fun k s1 s2 wr => s1 = .int .i64 0 ∧ s2 = .int .i64 0 ∧ wr = w)
  case atStart => exact ⟨rfl, rfl, rfl⟩
  case round =>
    obtain ⟨rfl, rfl, rfl⟩ := hrel
    go_wp2_with (go_at_call 28; refine (insert_nil _ c f).mono ?_; rintro e w' ⟨rfl, rfl⟩)
    refine bodyPost_ret (results_none rfl _ _ _) rfl ?_
    exact ⟨rfl, rfl⟩
set_option maxHeartbeats 1600000 in
set_option maxRecDepth 100000 in
theorem sort_nil (w : World) (c : Nat) (f : Value) :
    Calls Try.prog 23 #[.slice none 0 c, f] w fun e w' => e = .returned (.tuple #[]) ∧ w' = w := by
  have CL := len_calls w 0 (by decide)
  go_enter Try.func23, Try.ntmps23
  go_wp2_with (first
    | (go_at_call 27; refine CL.mono ?_; rintro e w' ⟨⟨r, rfl⟩, rfl⟩)
    | (go_at_call 26; refine (pdq_nil _ c _ f).mono ?_; rintro e w' ⟨rfl, rfl⟩))
  first | go_end0 | (refine bodyPost_ret (results_none rfl _ _ _) rfl ?_)
  exact ⟨rfl, rfl⟩
/-- All, of at most 12: how many it answers. -/
theorem all_calls (tb : Nat) (s : Tab) (W : World) (F : Nat → Prop) (m : Nat) (h : (TabAt tb s).on W F) (hmb : s.mb = some m) (hl : s.l.length ≤ 12) :
    Calls Try.prog 19 #[.pointer (some ⟨tb, 0, none⟩)] W fun e w' => ∃ A c, e = .returned (.slice A s.l.length c) ∧ Below W.heap.size W w' := by
  refine (all_of tb s W F m h hmb (by omega) (fun v w' => (∃ A c, v = .slice A s.l.length c) ∧ Below W.heap.size W w') (fun w1 v xs hB hp hR => ?_)).mono (fun e w' ⟨v, he, ⟨A, c, hv⟩, hB⟩ => ⟨A, c, by rw [he, hv], hB⟩)
  have hxl : xs.length = s.l.length := by rw [hp.length_eq, allP, List.length_map]
  obtain ⟨A, c, rfl⟩ := Kd.R_slice hR
  rw [← hxl]
  rcases Kd.R_own hR with ⟨inner, ho⟩
  rcases ho.2 with ⟨hv, h0⟩ | ⟨g, cap, cur, hv, hg, _⟩
  · injection hv with h1 h2 h3
    subst h1
    rw [h0]
    refine (sort_nil w1 c _).mono ?_
    rintro e w' ⟨rfl, rfl⟩
    exact ⟨rfl, ⟨_, _, rfl⟩, hB⟩
  · injection hv with h1 h2 h3
    subst h1
    refine (sortFunc_calls w1 W.heap.size (fun k => k ≠ W.heap.size) g xs.length c ⟨xs, rfl, hR⟩ (by omega)).mono ?_
    rintro e w' ⟨rfl, _, e2⟩
    exact ⟨rfl, ⟨_, _, rfl⟩, below_eff hB (Nat.le_refl _) e2 (by rintro k rfl; exact hg)⟩
end Go.Proofs.Ytcgncdcihglgdaa.T
