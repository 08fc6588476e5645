import Derived.Test.YtcmepoakcffpaaaCB
import Derived.Deep.AppendSrc
import Derived.Test.YtcmepoakcffpaaaProg
import Derived.BigRegion
import Derived.BigQuiet
import Derived.Deep.QuietTactic
import Derived.Deep.AppendLies
import Derived.ChangeAlike
import Derived.Outline
import Derived.WalkKit
import Derived.KernelRfl
import Derived.Deep.LoopGhost
import Derived.Deep.RegionLaw
import Derived.Test.YtcmepoakcffpaaaWMore
import Derived.Test.YtcmepoakcffpaaaWKept
import Derived.Test.YtcmepoakcffpaaaLSep
namespace Go.Proofs.Ytcmepoakcffpaaa.L
open Go Go.RowKit Go.Proofs.YtcmepoakcffpaaaW.PrintWords Go.Proofs.YtcmepoakcffpaaaW.PrintLast Go.Proofs.YtcmepoakcffpaaaW.PrintMore Go.Proofs.Ytcmepoakcffpaaa.L
set_option linter.unusedVariables false
set_option linter.unusedSimpArgs false
/-! Lists that grow: a row of one's own, and an elder header of it that still reads what it read. -/
section
variable {α : Type} {enc : α → List Value} {k e : Nat}
/-- The header v is the row xs, in a block of one's own. -/
def Rw (enc : α → List Value) (k e : Nat) (v : Value) (xs : List α) (W : World) (F : Nat → Prop) : Prop := (v = .slice none 0 0 ∧ xs = []) ∨ ∃ g cap, v = .slice (some ⟨g, 0, none⟩) xs.length cap ∧ RowX enc k e W 0 g cap xs ∧ F g
theorem RowX.same {base : Nat} {W W1 : World} {g cap : Nat} {xs : List α} (h : RowX enc k e W base g cap xs) (hk : W1.heap[g]? = W.heap[g]?) : RowX enc k e W1 base g cap xs := by
  obtain ⟨cur, rest, hh, hc, ht⟩ := h.has
  exact ⟨h.le, h.len, h.max, cur, rest, hk.trans hh, hc, ht⟩
theorem Rw.same {v : Value} {xs : List α} {W W' : World} {F : Nat → Prop} (h : Rw enc k e v xs W F) (hk : ∀ b, F b → W'.heap[b]? = W.heap[b]?) : Rw enc k e v xs W' F := by
  rcases h with h | ⟨g, cap, h1, h2, h3⟩
  · exact .inl h
  · exact .inr ⟨g, cap, h1, h2.same (hk g h3), h3⟩
theorem Rw.mono {v : Value} {xs : List α} {W : World} {F F' : Nat → Prop} (h : Rw enc k e v xs W F) (hk : ∀ b, F b → F' b) : Rw enc k e v xs W F' := by
  rcases h with h | ⟨g, cap, h1, h2, h3⟩
  · exact .inl h
  · exact .inr ⟨g, cap, h1, h2, hk g h3⟩
theorem Rw.form {v : Value} {xs : List α} {W : World} {F : Nat → Prop} (h : Rw enc k e v xs W F) : ∃ A c, v = .slice A xs.length c := by
  rcases h with ⟨h, rfl⟩ | ⟨g, cap, h1, h2, h3⟩
  · exact ⟨none, 0, h⟩
  · exact ⟨_, _, h1⟩
/-- What is read of it. -/
theorem Rw.reads {v : Value} {xs : List α} {W : World} {F : Nat → Prop} (h : Rw enc k e v xs W F) : ∃ A c, v = .slice A xs.length c ∧ xs.length ≤ c ∧ ∀ j u, (flatE enc xs)[j]? = some u → ∃ g, A = some ⟨g, 0, none⟩ ∧ W.cell? ⟨g, j, none⟩ = some u := by
  rcases h with ⟨h, rfl⟩ | ⟨g, cap, h1, h2, h3⟩
  · exact ⟨none, 0, h, Nat.le_refl _, fun j u hu => by simp [flatE] at hu⟩
  · exact ⟨_, _, h1, h2.len, fun j u hu => ⟨g, rfl, h2.cells j u hu⟩⟩
def RwAt (enc : α → List Value) (k e : Nat) (v : Value) (xs : List α) : HP where
  on := fun W F => Rw enc k e v xs W F ∧ ∀ b, F b → b < W.heap.size
  frame := fun h hk => ⟨h.1.same hk, fun b hF => lt_of_same (h.2 b hF) (hk b hF)⟩
  lt := fun h hk => h.2 _ hk
/-- u is an elder header that reads xs, v what became of the row. -/
def Gr (enc : α → List Value) (k e : Nat) (u : Value) (xs : List α) (v : Value) (ys : List α) : HP where
  on := fun W F => Rw enc k e u xs W F ∧ Rw enc k e v ys W F ∧ xs.length ≤ ys.length ∧ ∀ b, F b → b < W.heap.size
  frame := fun h hk => ⟨h.1.same hk, h.2.1.same hk, h.2.2.1, fun b hF => lt_of_same (h.2.2.2 b hF) (hk b hF)⟩
  lt := fun h hk => h.2.2.2 _ hk
theorem Gr.start {v : Value} {xs : List α} {W : World} {F : Nat → Prop} (h : (RwAt enc k e v xs).on W F) : (Gr enc k e v xs v xs).on W F := ⟨h.1, h.1, Nat.le_refl _, h.2⟩
theorem RwAt.nil (W : World) : (RwAt enc k e (.slice none 0 0) []).on W (fun _ => False) := ⟨.inl ⟨rfl, rfl⟩, fun _ h => h.elim⟩
/-- More is written behind. -/
theorem rowX_room {base : Nat} {W : World} {g cap : Nat} {ys zs : List α} (hk : ∀ x, (enc x).length = k) (h : RowX enc k e W base g cap ys) (hr : ys.length + zs.length ≤ cap) : RowX enc k e (W.setCells g (ys.length * k) (flatE enc zs)) base g cap (ys ++ zs) := by
  obtain ⟨cur, rest, hh, hc, ht⟩ := h.has
  have hl : ys.length * k + (flatE enc zs).length ≤ cur.size := by
    rw [hc, flatE_length hk, ← Nat.add_mul]
    exact Nat.mul_le_mul_right _ hr
  obtain ⟨cur', h3, h4, h5⟩ := setCells_row (flatE enc zs) (ys.length * k) W cur hh hl
  refine ⟨h.le, by rw [List.length_append]; exact hr, h.max, cur', cur.toList.drop (ys.length * k + (flatE enc zs).length), h3, by rw [h4, hc], ?_⟩
  rw [h5, flatE_append]
  congr 2
  rw [ht, List.take_append_of_le_length (by rw [flatE_length hk]; exact Nat.le_refl _), List.take_of_length_le (by rw [flatE_length hk]; exact Nat.le_refl _)]
/-- A row that is newly made. -/
theorem rowX_new {W : World} {zs : List α} {cap : Nat} {z : Value} (hk : ∀ x, (enc x).length = k) (hz : z.cells.size = k) (h : zs.length ≤ cap) (hm : cap ≤ maxLen) : RowX enc k e (W.drew.alloc (.cells ((flatE enc zs).toArray ++ Builtin.zeroCells z.cells (cap - zs.length)) e)) 0 W.heap.size cap zs := by
  refine ⟨Nat.zero_le _, h, hm, _, (Builtin.zeroCells z.cells (cap - zs.length)).toList, heap_alloc_new W.drew _, ?_, by rw [Array.toList_append]⟩
  rw [Array.size_append, List.size_toArray, flatE_length hk, size_zeroCells, hz, ← Nat.add_mul]
  congr 1
  omega
theorem oneL (h1 : ∀ x, ∀ u ∈ enc x, u.oneCell' = true) (l : List α) : ∀ u ∈ flatE enc l, u.oneCell' = true := by
  intro u hu
  obtain ⟨x, _, hx⟩ := List.mem_flatMap.1 hu
  exact h1 x u hx
theorem add_zero_off' (b n : Nat) : (⟨b, 0, none⟩ : Addr).add n = ⟨b, n, none⟩ := by
  unfold Addr.add
  split
  · rename_i h; rw [h]
  · simp
/-- The elder header's row, as what is there now begins. -/
theorem Gr.append {P : Program} (hk0 : 0 < k) {t tx : TypeId} {i0 : TypeInfo} {z : Value} {u v x : Value} {xs ys zs : List α} {W : World} {F : Nat → Prop} (hk : ∀ x, (enc x).length = k) (h1 : ∀ x, ∀ u ∈ enc x, u.oneCell' = true) (ht : P.underlying t = some (.slice e)) (hi : P.info? e = some i0) (hz : i0.zero = some z) (hzs : z.cells.size = k) (hs : i0.size = k) (hby : i0.bytes ≤ 1000)
    (h : (Gr enc k e u xs v ys).on W F) (src : Src P i0.size tx x zs.length (flatE enc zs) W) (hm : ys.length + zs.length < 900000) :
    ∃ A c W', (∀ ty, (Builtin.append_ #[t, tx] ty #[v, x]).run P W = .ok (.slice A (ys ++ zs).length c) W') ∧ Upd W F (Gr enc k e u xs (.slice A (ys ++ zs).length c) (ys ++ zs)) W' := by
  have grow : ∀ A c, v = .slice A ys.length c → c < ys.length + zs.length → (Builtin.firstCells k ys.length (.slice A ys.length c)).run P W.drew = .ok (flatE enc ys).toArray W.drew →
      ∃ A c W', (∀ ty, (Builtin.append_ #[t, tx] ty #[v, x]).run P W = .ok (.slice A (ys ++ zs).length c) W') ∧ Upd W F (Gr enc k e u xs (.slice A (ys ++ zs).length c) (ys ++ zs)) W' := by
    intro A c hv hc hold
    subst hv
    have hrun := fun ty => run_append_grow_src (P := P) W t tx ty e i0 z ht hi hz A ys.length c (flatE enc ys) (by rw [hs]; exact hold) x zs.length (flatE enc zs) src hc (by omega) (growslice_fits (bytes := i0.bytes) hc (Nat.le_trans (Nat.mul_le_mul (Nat.le_of_lt hm) hby) (by decide)))
    simp only [← flatE_append, ← List.length_append] at hrun
    obtain ⟨cap', hcap⟩ : ∃ cap', cap' = grownCap W (ys ++ zs).length c e := ⟨_, rfl⟩
    have hc1 : (ys ++ zs).length ≤ cap' := by rw [hcap]; exact grownCap_ge W _ c _
    have hc2 : cap' ≤ maxLen := by rw [hcap]; exact grownCap_le_maxLen W _ c _ (by rw [List.length_append]; simp only [maxLen]; omega)
    simp only [← hcap] at hrun
    have hX := rowX_new (W := W) (e := e) hk hzs hc1 hc2
    refine ⟨_, _, _, hrun, Upd.mk (F' := fun b => (F b ∨ b = W.heap.size)) ⟨?_, .inr ⟨_, _, rfl, hX, .inr rfl⟩, by rw [List.length_append]; have := h.2.2.1; omega, ?_⟩ (((Eff.refl _ _).drew.alloc _).any F) (fun b hb => hb.imp id (fun hb => by rw [hb]; exact Nat.le_refl _))⟩
    · rcases h.1 with hn | ⟨g', cap', b1, b2, b3⟩
      · exact .inl hn
      · refine .inr ⟨g', cap', b1, b2.same ?_, .inl b3⟩
        have := h.2.2.2 g' b3
        show (W.drew.alloc _).heap[g']? = _
        exact ((Eff.refl (fun _ => False) W).drew.alloc _).block g' this id
    · intro b hb
      rcases hb with hb | rfl
      · exact Nat.lt_of_lt_of_le (h.2.2.2 b hb) (((Eff.refl (fun _ => False) W).drew.alloc _).size)
      · show _ < (W.drew.alloc _).heap.size
        simp
  rcases h.2.1 with ⟨hv, hy⟩ | ⟨g, cap, hv, hX, hF⟩
  · subst hy
    by_cases hz0 : zs.length = 0
    · obtain rfl : zs = [] := List.eq_nil_of_length_eq_zero hz0
      subst hv
      obtain ⟨n1, n2, n3, n4, n5, n6⟩ := src
      refine ⟨none, 0, W, fun ty => ?_, F, h, Eff.refl _ _, fun _ hb => .inl hb⟩
      have hl0 := n2 W
      have n3' : (Builtin.firstCells i0.size 0 x).run P W = .ok (#[] : Array Value) W := n3
      rcases n1 with ⟨e', hk'⟩ | hk' <;> simp [Builtin.append_, run_underlying ht, run_underlying hk', sizeOf, typeInfo, hi, hl0, n3', storeCells]
    · exact grow none 0 hv (by simp only [List.length_nil]; omega) (run_firstCells_none W.drew k 0 0 0)
  · by_cases hroom : ys.length + zs.length ≤ cap
    · subst hv
      have hl : (flatE enc zs).length = zs.length * k := flatE_length hk zs
      have hle : ys.length * k + zs.length * k ≤ cap * k := by rw [← Nat.add_mul]; exact Nat.mul_le_mul_right _ hroom
      have hrun := fun ty => run_append_room_src (P := P) W t tx ty e i0 ht hi g 0 ys.length cap x zs.length (flatE enc zs) src hroom (fun j hj => by rw [hs, Nat.zero_add]; exact hX.some _ (by omega)) (fun j _ => hX.free _)
      simp only [hs, Nat.zero_add, ← List.length_append] at hrun
      refine ⟨_, _, _, hrun, F, ⟨?_, .inr ⟨g, cap, rfl, rowX_room hk hX hroom, hF⟩, by rw [List.length_append]; have := h.2.2.1; omega, fun b hb => Nat.lt_of_lt_of_le (h.2.2.2 b hb) (eff_setCells g _ _ W).size⟩, (eff_setCells g _ _ W).mono (fun i hi => by subst hi; exact hF), fun _ hb => .inl hb⟩
      rcases h.1 with hn | ⟨g', cap', b1, b2, b3⟩
      · exact .inl hn
      · refine .inr ⟨g', cap', b1, ?_, b3⟩
        by_cases hg : g' = g
        · subst hg
          have hcc : cap' = cap := by
            obtain ⟨c1, r1, hh1, hs1, _⟩ := b2.has
            obtain ⟨c2, r2, hh2, hs2, _⟩ := hX.has
            rw [hh1] at hh2
            injection hh2 with hh2
            injection hh2 with hh2
            rw [hh2] at hs1
            rw [hs1] at hs2
            exact Nat.eq_of_mul_eq_mul_right hk0 hs2
          subst hcc
          exact RowX.behind hk b2 (Nat.mul_le_mul_right _ h.2.2.1) (by rw [hl]; exact hle)
        · exact b2.eff (eff_setCells g _ _ W) hg
    · refine grow (some ⟨g, 0, none⟩) cap hv (by omega) ?_
      refine run_firstCells_some (P := P) W.drew k ys.length ⟨g, 0, none⟩ ys.length cap (flatE enc ys) (flatE_length hk ys) (fun j u hj => ?_)
      rw [add_zero_off']
      exact hX.cells j u hj
theorem upd_go {W W1 W2 : World} {F F1 : Nat → Prop} {T : HP} (e : Eff F W W1) (hk : ∀ b, F1 b → F b ∨ W.heap.size ≤ b) (h : Upd W1 F1 T W2) : Upd W F T W2 := by
  obtain ⟨F2, h2, e2, k2⟩ := h
  refine ⟨F2, h2, e.trans e2 hk, fun b hb => ?_⟩
  rcases k2 b hb with h | h
  · exact hk b h
  · exact .inr (Nat.le_trans e.size h)
end
end Go.Proofs.Ytcmepoakcffpaaa.L
