import Derived.Test.YtdhajfimhjbbiaaQMapSep
namespace Go.Proofs.Ytdhajfimhjbbiaa.Q
open Go Go.RowKit Go.Proofs.YtdhajfimhjbbiaaW.PrintWords Go.Proofs.YtdhajfimhjbbiaaW.PrintLast Go.Proofs.YtdhajfimhjbbiaaW.PrintMore
set_option linter.unusedVariables false
open Go.Proofs.Ytdhajfimhjbbiaa.L
set_option maxHeartbeats 4000000 in
set_option maxRecDepth 100000 in
theorem drop1_calls (w : World) (x : Int × Int) (id : Int) (pb : Nat) (h : w.cell? ⟨pb, 0, none⟩ = some (.int .i64 id)) :
    Calls Try.prog 27 #[.agg #[.int .i64 x.1, .int .i64 x.2], .pointer (some ⟨pb, 0, none⟩)] w fun e w' => e = .returned (.bool (x.2 == id)) ∧ Eff (fun _ => False) w w' := by
  have hlt := World.block_lt_of_cell? w _ h
  go_enter Try.func27, Try.ntmps27
  go_wp2
  go_ret
  exact ⟨rfl, (Eff.refl _ _).alloc _⟩
/-- Where the first one is that is to go. -/
def firstL (id : Int) (xs : List (Int × Int)) : Option Nat := xs.findIdx? (fun x => x.2 == id)
def firstI (id : Int) (xs : List (Int × Int)) : Int := match firstL id xs with | some i => (i : Int) | none => -1
theorem cell_eff {w w1 : World} {p : Addr} {v : Value} (h : w.cell? p = some v) (e : Eff (fun _ => False) w w1) : w1.cell? p = some v := by
  have hlt := World.block_lt_of_cell? w _ h
  unfold World.cell? at h ⊢
  rw [e.block _ hlt id]
  exact h
set_option maxHeartbeats 4000000 in
set_option maxRecDepth 100000 in
theorem index_calls (w : World) (g c pb : Nat) (xs : List (Int × Int)) (id : Int) (hC : ∀ w1, Eff (fun _ => False) w w1 → Kd.C kd w1 (some ⟨g, 0, none⟩) xs.length xs) (h : w.cell? ⟨pb, 0, none⟩ = some (.int .i64 id)) (hm : xs.length < 900000) :
    Calls Try.prog 68 #[.slice (some ⟨g, 0, none⟩) xs.length c, .func (.func 27) #[] #[.pointer (some ⟨pb, 0, none⟩)]] w fun e w' => e = .returned (.int .i64 (firstI id xs)) ∧ Eff (fun _ => False) w w' := by
  have H := Aside0.mk h
  clear h
  go_enter Try.func68, Try.ntmps68
  go_wp2
  go_loopg [8] xs.length (fun k s8 wr => ∃ (i : Nat), s8 = .int .i64 i ∧ i + k = xs.length ∧ Aside0 (∀ x ∈ xs.take i, (x.2 == id) = false) ∧ Eff (fun _ => False) w wr)
  case atStart => exact ⟨0, rfl, by omega, Aside0.mk (by simp), Eff.refl _ _⟩
  case round =>
    obtain ⟨i, rfl, h1, A1, e1⟩ := hrel
    by_cases hz : i < xs.length
    · have p2 : ((i : Int) < (xs.length : Int)) = True := eq_true (by omega)
      have B2 : i < 900000 := by omega
      obtain ⟨ad, ea, x1, x2⟩ := at_p (hC wr e1) (i : Int) (by omega) (by omega)
      injection ea with ea
      subst ea
      have e2 : (i : Int).toNat = i := by omega
      rw [e2, add_plain] at x1 x2
      dsimp only at x2
      have A2 : Aside0 (rdp xs i = xs[i]) := Aside0.mk (by unfold rdp; rw [Int.toNat_natCast, List.getD_eq_getElem?_getD, List.getElem?_eq_getElem hz]; rfl)
      have A3 := Aside0.mk (cell_eff H.out e1)
      clear hC
      generalize rdp xs i = x at *
      have C := drop1_calls wr x id pb A3.out
      cases hb : (x.2 == id)
      · rw [hb] at C
        have A4 := Aside0.mk hb
        clear hb
        go_wp2_with (go_at_call 27; refine C.mono ?_; rintro e w2 ⟨rfl, k2⟩)
        go_roundg (gk - 1)
        case measure => omega
        case rel =>
          refine ⟨i + 1, by simp, by omega, Aside0.mk (fun y hy => ?_), e1.trans k2 (fun _ h => h.elim)⟩
          rw [List.take_succ_eq_append_getElem hz] at hy
          rcases List.mem_append.1 hy with hy | hy
          · exact A1.out y hy
          · rw [List.mem_singleton.1 hy, ← A2.out]; exact A4.out
      · rw [hb] at C
        have A4 := Aside0.mk hb
        clear hb
        go_wp2_with (go_at_call 27; refine C.mono ?_; rintro e w2 ⟨rfl, k2⟩)
        go_ret
        refine ⟨?_, e1.trans k2 (fun _ h => h.elim)⟩
        have : firstL id xs = some i := by
          unfold firstL
          rw [List.findIdx?_eq_some_iff_getElem]
          refine ⟨hz, by rw [← A2.out]; exact A4.out, fun j hj => ?_⟩
          rw [A1.out xs[j] (List.mem_take_iff_getElem.2 ⟨j, by omega, rfl⟩)]
          simp
        unfold firstI
        rw [this]
        rfl
    · have p2 : ((i : Int) < (xs.length : Int)) = False := eq_false (by omega)
      clear hC
      go_wp2
      go_ret
      refine ⟨?_, e1⟩
      have : firstL id xs = none := by
        unfold firstL
        rw [List.findIdx?_eq_none_iff]
        have := A1.out
        rw [List.take_of_length_le (by omega)] at this
        exact this
      unfold firstI
      rw [this]
      rfl
/-- Those of an id are gone. -/
def keepL (id : Int) (xs : List (Int × Int)) : List (Int × Int) := xs.filter (fun x => !(x.2 == id))
theorem keep_snoc (id : Int) (xs : List (Int × Int)) (j : Nat) (hj : j < xs.length) : keepL id (xs.take (j + 1)) = if (xs[j].2 == id) = true then keepL id (xs.take j) else keepL id (xs.take j) ++ [xs[j]] := by
  unfold keepL
  rw [List.take_succ_eq_append_getElem hj, List.filter_append]
  split
  next h => rw [List.filter_cons_of_neg (by simp [h])]; simp
  next h => rw [List.filter_cons_of_pos (by simpa using h)]; simp
theorem eff_cell {S : Nat → Prop} {w w1 : World} {b o : Nat} (e : Eff S w w1) (hb : b < w.heap.size) (hS : ¬ S b) : w1.cell? ⟨b, o, none⟩ = w.cell? ⟨b, o, none⟩ := by
  unfold World.cell?
  rw [e.block b hb hS]
theorem R_eff {w w1 : World} {base g n cap : Nat} {ok : Nat → Prop} {xs : List (Int × Int)} (h : kd.R 67 w base ok (.slice (some ⟨g, 0, none⟩) n cap) xs) (e : Eff (fun _ => False) w w1) : kd.R 67 w1 base ok (.slice (some ⟨g, 0, none⟩) n cap) xs :=
  Kd.R_step h (fun k _ hk => e.block k hk id)
theorem R_lt_g {w : World} {base g n cap : Nat} {ok : Nat → Prop} {xs : List (Int × Int)} (h : kd.R 67 w base ok (.slice (some ⟨g, 0, none⟩) n cap) xs) : g < w.heap.size := Kd.R_lt h g (by simp [Value.ownBlock])
theorem run_clear (w : World) (g o m c : Nat) (ty : TypeId) (hm : 0 < m) (hc : ∀ j, j < m * 2 → (w.cell? ⟨g, o + j, none⟩).isSome = true) (hf : ∀ j, w.frozen? ⟨g, j, none⟩ = false) :
    (Builtin.clear_ #[26] ty #[.slice (some ⟨g, o, none⟩) m c]).run Try.prog w = .ok (.tuple #[]) (w.setCells g o (List.replicate (m * 2) (.int .i64 0))) := by
  have hzc : (Builtin.zeroCells (Value.cells (.agg #[.int .i64 0, .int .i64 0])) m).toList = List.replicate (m * 2) (.int .i64 0) := by
    have e : Value.cells (.agg #[.int .i64 0, .int .i64 0]) = #[.int .i64 0, .int .i64 0] := rfl
    rw [e]
    unfold Builtin.zeroCells
    apply List.ext_getElem
    · simp
    · intro i h1 h2
      simp only [Array.toList_map, List.getElem_map, List.getElem_replicate]
      have : i % 2 = 0 ∨ i % 2 = 1 := by omega
      rcases this with h | h <;> simp [h]
  have hst := run_storeCells_cells (P := Try.prog) g o (List.replicate (m * 2) (.int .i64 0)) 0 w (by simpa using hc) (by simpa using fun j _ => hf _) (by intro v hv'; rw [List.eq_of_mem_replicate hv']; rfl)
  simp only [Nat.add_zero] at hst
  obtain ⟨m', rfl⟩ : ∃ m', m = m' + 1 := ⟨m - 1, by omega⟩
  simp [Builtin.clear_, run_underlying Try.underlying26, hzc, hst]
/-- The row behind it: all from i on are zeros. -/
theorem R_clear {base g n cap : Nat} {ok : Nat → Prop} : ∀ (m i : Nat) (w : World) (ys : List (Int × Int)), kd.R 67 w base ok (.slice (some ⟨g, 0, none⟩) n cap) ys → i + m = n → ∃ zs, zs.take i = ys.take i ∧ zs.length = ys.length ∧
      kd.R 67 (w.setCells g (i * 2) (List.replicate (m * 2) (.int .i64 0))) base ok (.slice (some ⟨g, 0, none⟩) n cap) zs ∧ Eff (fun k => k = g) w (w.setCells g (i * 2) (List.replicate (m * 2) (.int .i64 0)))
  | 0, i, w, ys, h, _ => ⟨ys, rfl, rfl, by simpa [World.setCells] using h, by simpa [World.setCells] using Eff.refl _ _⟩
  | m + 1, i, w, ys, h, hi => by
    have hn := (Kd.R_reads' h).1
    have W1 := R_write h (i : Int) (by omega) (by omega) (0, 0)
    rw [Int.toNat_natCast] at W1
    obtain ⟨zs, h1, h2, h3, h4⟩ := R_clear m (i + 1) _ _ W1.1 (by omega)
    have e : w.setCells g (i * 2) (List.replicate ((m + 1) * 2) (.int .i64 0)) = (((w.setCell ⟨g, i * 2, none⟩ (.int .i64 0)).setCell ⟨g, i * 2 + 1, none⟩ (.int .i64 0))).setCells g ((i + 1) * 2) (List.replicate (m * 2) (.int .i64 0)) := by
      rw [show (m + 1) * 2 = m * 2 + 1 + 1 by omega, List.replicate_succ, List.replicate_succ, show (i + 1) * 2 = i * 2 + 1 + 1 by omega]
      rfl
    rw [e]
    refine ⟨zs, ?_, by rw [h2, List.length_set], h3, (Eff.of_grown W1.2 (S := fun k => k = g) (fun k hk => by injection hk with hk; exact hk.symm)).trans h4 (fun _ h => .inl h)⟩
    have := congrArg (List.take i) h1
    rw [List.take_take, List.take_take, Nat.min_eq_left (by omega), List.take_set_of_le (by omega)] at this
    exact this
set_option maxHeartbeats 4000000 in
set_option maxRecDepth 100000 in
theorem delete_calls (w : World) (base g cap pb : Nat) (xs : List (Int × Int)) (id : Int) (hR : kd.R 67 w base (fun _ => True) (.slice (some ⟨g, 0, none⟩) xs.length cap) xs) (h : w.cell? ⟨pb, 0, none⟩ = some (.int .i64 id)) (hpg : pb ≠ g) (hm : xs.length < 900000) :
    Calls Try.prog 26 #[.slice (some ⟨g, 0, none⟩) xs.length cap, .func (.func 27) #[] #[.pointer (some ⟨pb, 0, none⟩)]] w fun e w' =>
      ∃ m, e = .returned (.slice (some ⟨g, 0, none⟩) m cap) ∧ kd.R 67 w' base (fun _ => True) (.slice (some ⟨g, 0, none⟩) m cap) (keepL id xs) ∧ Eff (fun k => k = g) w w' := by
  have hlt := World.block_lt_of_cell? w _ h
  have hcap := (Kd.R_reads' hR).2.1
  have CI := index_calls w g cap pb xs id (fun w1 e => (Kd.R_reads' (R_eff hR e)).2.2) h hm
  cases hf : firstL id xs with
  | none =>
    have hk : keepL id xs = xs := by
      unfold keepL
      rw [List.filter_eq_self]
      intro x hx
      have := List.findIdx?_eq_none_iff.1 hf x hx
      simp only [this, Bool.not_false]
    have hi : firstI id xs = -1 := by unfold firstI; rw [hf]
    rw [hi] at CI
    clear hi hf h
    go_enter Try.func26, Try.ntmps26
    go_wp2_with (go_at_call 68; refine CI.mono ?_; rintro e w2 ⟨rfl, k2⟩)
    go_ret
    exact ⟨_, rfl, hk.symm ▸ R_eff hR k2, k2.mono (fun _ h => h.elim)⟩
  | some i0 =>
    obtain ⟨hi0, hi1, hi2⟩ := List.findIdx?_eq_some_iff_getElem.1 hf
    have hi : firstI id xs = i0 := by unfold firstI; rw [hf]
    rw [hi] at CI
    have hne : ((i0 : Int) == -1) = false := beq_eq_false_iff_ne.2 (by omega)
    have B0 : i0 < 900000 := by omega
    have H := Aside0.mk (And.intro h (And.intro hR (And.intro hi1 (And.intro hi2 hlt))))
    have hs : Aside0 (keepL id (xs.take (i0 + 1)) = xs.take i0) := Aside0.mk (by
      rw [keep_snoc id xs i0 hi0, if_pos hi1]
      unfold keepL
      rw [List.filter_eq_self]
      intro x hx
      obtain ⟨j, hj, rfl⟩ := List.mem_take_iff_getElem.1 hx
      have := hi2 j (by omega)
      simpa using this)
    clear hi hf h hR hi1 hi2
    go_enter Try.func26, Try.ntmps26
    go_wp2_with (go_at_call 68; refine CI.mono ?_; rintro e w2 ⟨rfl, k2⟩)
    go_loopg [5, 6] (xs.length - (i0 + 1)) (fun k s5 s6 wr => ∃ (i j : Nat) (ys : List (Int × Int)), s5 = .int .i64 i ∧ s6 = .int .i64 j ∧ j + k = xs.length ∧ i < j ∧ Aside0 (ys.length = xs.length) ∧ Aside0 (ys.take i = keepL id (xs.take j) ∧ ys.drop j = xs.drop j) ∧ Aside0 (kd.R 67 wr base (fun _ => True) (.slice (some ⟨g, 0, none⟩) xs.length cap) ys) ∧ Eff (fun k => k = g) w wr)
    case atStart => exact ⟨i0, i0 + 1, xs, rfl, by simp, by omega, by omega, Aside0.mk rfl, Aside0.mk ⟨hs.out.symm, rfl⟩, Aside0.mk (R_eff H.out.2.1 k2), k2.mono (fun _ h => h.elim)⟩
    case round =>
      clear k2 hne CI B0
      obtain ⟨i, j, ys, rfl, rfl, h1, h2, h3, A1, A2, e1⟩ := hrel
      have hcp : wr.cell? ⟨pb, 0, none⟩ = some (.int .i64 id) := by rw [eff_cell e1 H.out.2.2.2.2 hpg]; exact H.out.1
      by_cases hz : j < xs.length
      · have p2 : ((j : Int) < (xs.length : Int)) = True := eq_true (by omega)
        have B2 : j < 900000 := by omega
        have hC := (Kd.R_reads' A2.out).2.2
        obtain ⟨ad, ea, x1, x2⟩ := at_p hC (j : Int) (by omega) (by have := h3.out; omega)
        injection ea with ea
        subst ea
        have e2 : (j : Int).toNat = j := by omega
        rw [e2, add_plain] at x1 x2
        dsimp only at x2
        have A3 : Aside0 (rdp ys j = xs[j]) := Aside0.mk (by
          unfold rdp
          have := congrArg (fun z => z[0]?) A1.out.2
          simp only [List.getElem?_drop, Nat.add_zero] at this
          rw [Int.toNat_natCast, List.getD_eq_getElem?_getD, this, List.getElem?_eq_getElem hz]
          rfl)
        have hgl := R_lt_g A2.out
        have C : ∀ w1, Eff (fun _ => False) wr w1 → Calls Try.prog 27 #[.agg #[.int .i64 (rdp ys j).1, .int .i64 (rdp ys j).2], .pointer (some ⟨pb, 0, none⟩)] w1 fun e w' => e = .returned (.bool ((rdp ys j).2 == id)) ∧ Eff (fun _ => False) w1 w' := fun w1 k1 => drop1_calls w1 _ id pb (cell_eff hcp k1)
        generalize rdp ys j = x at *
        clear hC hcp
        cases hb : (x.2 == id)
        · rw [hb] at C
          have A4 := Aside0.mk hb
          clear hb
          obtain ⟨y, hy⟩ : ∃ y, y = rdp ys i := ⟨_, rfl⟩
          have C2 : Calls Try.prog 27 #[.agg #[.int .i64 x.1, .int .i64 x.2], .pointer (some ⟨pb, 0, none⟩)] (wr.alloc (.cells #[.int .i64 x.1, .int .i64 x.2] 67)) fun e w' => e = .returned (.bool false) ∧ Aside0 (Eff (fun _ => False) wr w') ∧ w'.cell? ⟨wr.heap.size, 0, none⟩ = some (.int .i64 x.1) ∧ w'.cell? ⟨wr.heap.size, 1, none⟩ = some (.int .i64 x.2) ∧
              w'.cell? ⟨g, i * 2, none⟩ = some (.int .i64 y.1) ∧ w'.cell? ⟨g, i * 2 + 1, none⟩ = some (.int .i64 y.2) ∧ w'.frozen? ⟨g, i * 2, none⟩ = false ∧ w'.frozen? ⟨g, i * 2 + 1, none⟩ = false := by
            refine (C _ ((Eff.refl _ _).alloc _)).mono fun e w' ⟨he, k2⟩ => ?_
            have k3 := ((Eff.refl (fun _ => False) wr).alloc (.cells #[.int .i64 x.1, .int .i64 x.2] 67)).trans k2 (fun _ h => h.elim)
            have hn := heap_alloc_new wr (.cells #[.int .i64 x.1, .int .i64 x.2] 67)
            have hn2 : w'.heap[wr.heap.size]? = some (.cells #[.int .i64 x.1, .int .i64 x.2] 67 (0, 0)) := (k2.block _ (by simp) (fun h => h)).trans hn
            have R2 := R_eff A2.out k3
            obtain ⟨ad, ea, z1, z2⟩ := at_p (Kd.R_reads' R2).2.2 (i : Int) (by omega) (by have := h3.out; omega)
            injection ea with ea
            subst ea
            rw [Int.toNat_natCast, add_plain] at z1 z2
            have hf : ∀ k, w'.frozen? ⟨g, k, none⟩ = false := by
              obtain ⟨_, inner, ho, _⟩ := R2
              obtain ⟨cells, hc⟩ := own_typed ho g (by simp [Value.ownBlock])
              exact fun k => blk_frozen hc k
            exact ⟨he, Aside0.mk k3, blk_cell hn2 0, blk_cell hn2 1, by rw [hy]; exact z1, by rw [hy]; exact z2, hf _, hf _⟩
          go_wp2_with (go_at_call 27; refine C2.mono ?_; rintro e w2 ⟨rfl, k3, y1, y2, s1, s2, f1, f2⟩)
          have W1 := R_write (R_eff A2.out k3.out) (i : Int) (by omega) (by omega) x
          rw [Int.toNat_natCast] at W1
          go_roundg (gk - 1)
          case measure => omega
          case rel =>
            refine ⟨i + 1, j + 1, ys.set i x, by simp, by simp, by omega, by omega, Aside0.mk (by rw [List.length_set]; exact h3.out), Aside0.mk ⟨?_, ?_⟩, Aside0.mk W1.1, (e1.trans k3.out (fun _ h => h.elim)).trans (Eff.of_grown W1.2 (S := fun k => k = g) (fun k hk => by injection hk with hk; exact hk.symm)) (fun _ h => .inl h)⟩
            · have hn : ¬ (xs[j].2 == id) = true := by rw [← A3.out, A4.out]; simp
              rw [keep_snoc id xs j hz, if_neg hn, ← A1.out.1, ← A3.out]
              have := h3.out
              rw [List.take_succ_eq_append_getElem (by rw [List.length_set]; omega), List.take_set_of_le (by omega)]
              simp
            · rw [List.drop_set_of_lt (by omega), ← List.drop_drop, ← List.drop_drop, A1.out.2]
        · rw [hb] at C
          have A4 := Aside0.mk hb
          clear hb
          go_wp2_with (go_at_call 27; refine (C _ ((Eff.refl _ _).alloc _)).mono ?_; rintro e w2 ⟨rfl, k2⟩)
          go_roundg (gk - 1)
          case measure => omega
          case rel =>
            have k3 := ((Eff.refl (fun _ => False) wr).alloc (.cells #[.int .i64 x.1, .int .i64 x.2] 67)).trans k2 (fun _ h => h.elim)
            refine ⟨i, j + 1, ys, rfl, by simp, by omega, by omega, h3, Aside0.mk ⟨?_, ?_⟩, Aside0.mk (R_eff A2.out k3), e1.trans k3 (fun _ h => h.elim)⟩
            · rw [keep_snoc id xs j hz, if_pos (by rw [← A3.out]; exact A4.out)]
              exact A1.out.1
            · rw [← List.drop_drop, ← List.drop_drop, A1.out.2]
      · have p2 : ((j : Int) < (xs.length : Int)) = False := eq_false (by omega)
        have B2 : i < 900000 := by omega
        have hcl : (Builtin.clear_ #[26] 0 #[.slice (some ⟨g, i * 2, none⟩) (xs.length - i) (cap - i)]).run Try.prog wr = .ok (.tuple #[]) (wr.setCells g (i * 2) (List.replicate ((xs.length - i) * 2) (.int .i64 0))) := by
          have hr := Kd.R_reads' A2.out
          refine run_clear wr g (i * 2) _ _ 0 (by omega) (fun q hq => ?_) ?_
          · obtain ⟨ad, ea, z1, z2⟩ := at_p hr.2.2 ((i + q / 2 : Nat) : Int) (by omega) (by have := h3.out; omega)
            injection ea with ea
            subst ea
            rw [Int.toNat_natCast, add_plain] at z1 z2
            have : q % 2 = 0 ∨ q % 2 = 1 := by omega
            rcases this with h | h
            · rw [show i * 2 + q = (i + q / 2) * 2 by omega, z1]; rfl
            · rw [show i * 2 + q = (i + q / 2) * 2 + 1 by omega, z2]; rfl
          · obtain ⟨_, inner, ho, _⟩ := A2.out
            obtain ⟨cells, hc⟩ := own_typed ho g (by simp [Value.ownBlock])
            exact fun k => blk_frozen hc k
        obtain ⟨zs, z1, z2, z3, z4⟩ := R_clear (xs.length - i) i wr ys A2.out (by omega)
        have Z := Aside0.mk (And.intro z1 (And.intro z2 (And.intro z3 z4)))
        clear z1 z2 z3 z4 hcp
        generalize wr.setCells g (i * 2) (List.replicate ((xs.length - i) * 2) (.int .i64 0)) = w3 at *
        go_wp2
        go_ret
        obtain ⟨z1, z2, z3, z4⟩ := Z.out
        refine ⟨i, rfl, ?_, e1.trans z4 (fun _ h => .inl h)⟩
        have hk : keepL id xs = zs.take i := by
          rw [z1, A1.out.1, List.take_of_length_le (by omega)]
        rw [hk]
        exact Kd.R_take z3 (by have := h3.out; omega)
end Go.Proofs.Ytdhajfimhjbbiaa.Q
