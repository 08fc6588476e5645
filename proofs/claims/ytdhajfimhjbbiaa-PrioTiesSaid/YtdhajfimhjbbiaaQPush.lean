import Derived.Test.YtdhajfimhjbbiaaQEff
namespace Go.Proofs.Ytdhajfimhjbbiaa.Q
open Go Go.RowKit Go.Proofs.YtdhajfimhjbbiaaW.PrintWords Go.Proofs.YtdhajfimhjbbiaaW.PrintLast Go.Proofs.YtdhajfimhjbbiaaW.PrintMore
set_option linter.unusedVariables false
theorem set_post {w w1 : World} {base b : Nat} {v v1 : Value} {xs ys : List (Int × Int)} (hR : Row w base b v xs) (he : Eff (Foot b v) w w1) (hb : w1.heap[b]? = w.heap[b]?) (r1 : kd.R 67 w1 base (fun _ => True) v1 ys) (o1 : ∀ k, v1.ownBlock = some k → v.ownBlock = some k ∨ w.heap.size ≤ k) : Post w base b v ys (w1.setCell ⟨b, 0, none⟩ v1) := by
  have hb1 := hb.trans hR.blk
  exact ⟨v1, ⟨one_setCell hb1, hR.from_, Kd.R_mono (Kd.R_far (Kd.R_types r1 hb1 (by decide)) (p := ⟨b, 0, none⟩) (fun _ hk => hk.2) v1) (fun _ _ => trivial)⟩, he.set _ _ (.inl (.inl rfl)), o1⟩
theorem push_post {w w1 : World} {base b : Nat} {v v1 : Value} {o : Obj} {xs ys : List (Int × Int)} (hR : Row w base b v xs) (g1 : (w.drew.alloc o).grownBy w1 v.ownBlock) (r1 : kd.R 67 w1 base (fun _ => True) v1 ys) (o1 : v1.ownBlock = v.ownBlock ∨ ∃ g, v1.ownBlock = some g ∧ (w.drew.alloc o).heap.size ≤ g) : Post w base b v ys (w1.setCell ⟨b, 0, none⟩ v1) := by
  have e0 : Eff (Foot b v) w (w.drew.alloc o) := ((Eff.refl _ w).drew).alloc o
  refine set_post hR (e0.trans (Eff.of_grown g1 (S := fun k => v.ownBlock = some k) (fun _ h => h)) (fun i hi => .inl (.inr hi))) ?_ r1 ?_
  · rw [g1.block b (Nat.lt_of_lt_of_le hR.lt e0.size) (Ne.symm hR.ne)]
    exact (((Eff.refl (fun _ => False) w).drew).alloc o).block b hR.lt id
  · intro k hk
    rcases o1 with h | ⟨g, hg, hle⟩
    · exact .inl (h ▸ hk)
    · rw [hg] at hk
      injection hk with hk
      subst hk
      exact .inr (Nat.le_trans e0.size hle)
theorem hx_alloc (w : World) (o : Obj) : Value.slice (some ⟨w.heap.size + 1, 0, none⟩) 1 1 = Value.slice (some ⟨(w.drew.alloc o).heap.size, 0, none⟩) 1 1 := by simp
set_option maxHeartbeats 4000000 in
set_option maxRecDepth 100000 in
theorem push_calls (w : World) (base b : Nat) (v : Value) (xs : List (Int × Int)) (o : Int × Int) (hR : Row w base b v xs) (hbase : base ≤ w.heap.size) (hl : (xs.length + 1) * 16 ≤ 140737488355328) :
    Calls Try.prog 108 #[.pointer (some ⟨b, 0, none⟩), .iface 67 (.agg #[.int .i64 o.1, .int .i64 o.2])] w fun e w' => e = .returned (.tuple #[]) ∧ Post w base b v (xs ++ [o]) w' := by
  have hv := hR.cell
  have hlt := hR.lt
  have hf := hR.fro
  have hne := hR.ne
  have hle : (xs ++ [o]).length = xs.length + 1 := by simp
  go_enter Try.func108, Try.ntmps108
  go_wp2
  go_region_law (refine Kd.R_append_step kd (W := World.alloc _ _) (w0 := w) base rfl (.tmp 14) (.tmp 16) 26 67 (.agg #[.int .i64 0, .int .i64 0]) 16 rfl rfl rfl rfl (by decide) (by decide) v xs o [.int .i64 o.1, .int .i64 o.2] (fun _ => True) (fun _ => False) rfl (by exact hx_alloc w _) (kd_mk _ base _ o) (fun _ hk => hk.elim) (fun _ _ => trivial) (Kd.R_alloc (Kd.R_drew hR.row) _) (Below.alloc (below_drew (Below.refl _ _)) hbase _) (by first | (simp; done) | (simp; omega)) hl ?_; intro v1 w1 r1 b1 g1 o1; obtain ⟨A1, c1, rfl⟩ := Kd.R_slice r1; have hv1 := (g1.cell_far ⟨b, 0, none⟩ (by simp; omega) (Ne.symm hne)).trans (show (World.alloc _ _).cell? ⟨b, 0, none⟩ = some v from (World.cell?_alloc_past (w := w.drew) _ b 0 hlt).trans hv); have hf1 := (g1.frozen_far ⟨b, 0, none⟩ (by simp; omega) (Ne.symm hne)).trans (show (World.alloc _ _).frozen? ⟨b, 0, none⟩ = false from (World.frozen?_alloc_past (w := w.drew) _ b 0 hlt).trans hf))
  all_goals go_wp2
  all_goals go_end0
  all_goals rw [hle] at r1 o1
  all_goals exact ⟨rfl, push_post hR g1 r1 o1⟩
end Go.Proofs.Ytdhajfimhjbbiaa.Q
