import Derived.Deep.RegionHeld3
import Derived.Test.YtcgncdcihglgdaaTBase
namespace Go.Proofs.Ytcgncdcihglgdaa.T
open Go Go.RowKit Go.Proofs.YtcgncdcihglgdaaW.PrintWords Go.Proofs.YtcgncdcihglgdaaW.PrintLast Go.Proofs.YtcgncdcihglgdaaW.PrintMore Go.Proofs.Ytcgncdcihglgdaa.L
set_option linter.unusedVariables false
set_option linter.unusedSimpArgs false
/-- What All tells of a transaction: its number, its last LSN; the other two cells are empty. -/
def cellsT (x : Int × Int) : List Value := [.int .i64 x.1, .int .i64 x.2, .bool false, .slice none 0 0]
def kdT : Kd (Int × Int) where
  sz := 4
  E := []
  K := fun _ x cs => cs = cellsT x
  M := fun _ _ _ x cs => cs = cellsT x
  K_len := by rintro w x cs rfl; rfl
  K_one := by
    rintro w x cs rfl u hu
    simp only [cellsT, List.mem_cons, List.not_mem_nil, or_false] at hu
    rcases hu with rfl | rfl | rfl | rfl <;> rfl
  K_below := fun _ h => h
  K_of_M := fun h => h
  M_mono := fun _ h => h
  M_bound := fun h => h
  M_move := fun _ h => h
  M_lower := fun _ h => h
theorem grown_trans {w w1 w2 : World} {r : Option Nat} (h : w.grownBy w1 r) (k : w1.grownBy w2 r) : w.grownBy w2 r :=
  ⟨k.os.trans h.os, k.tape.trans h.tape, k.output.trans h.output, Nat.le_trans h.size k.size, fun i hi hn => (k.block i (Nat.lt_of_lt_of_le hi h.size) hn).trans (h.block i hi hn)⟩
/-- The order of All: it answers some number. -/
theorem cmp_calls (w : World) (x y : Int × Int) :
    Calls Try.prog 24 #[.agg #[.int .i64 x.1, .int .i64 x.2, .bool false, .slice none 0 0], .agg #[.int .i64 y.1, .int .i64 y.2, .bool false, .slice none 0 0]] w fun e w' => (∃ r, e = .returned (.int .i64 r)) ∧ Eff0 w w' := by
  go_enter Try.func24, Try.ntmps24
  go_wp2
  go_ret
  exact ⟨⟨_, rfl⟩, ((Eff.refl _ _).alloc _).alloc _⟩
def RowI (w : World) (base : Nat) (ok : Nat → Prop) (g n cap : Nat) : Prop := ∃ ys : List (Int × Int), ys.length = n ∧ kdT.R 62 w base ok (.slice (some ⟨g, 0, none⟩) n cap) ys
theorem RowI.eff {w w1 : World} {base : Nat} {ok : Nat → Prop} {g n cap : Nat} (h : RowI w base ok g n cap) (e : Eff0 w w1) : RowI w1 base ok g n cap := by
  obtain ⟨ys, hl, hR⟩ := h
  exact ⟨ys, hl, Kd.R_step hR (fun k _ hk => e.block k hk id)⟩
theorem RowI.lt {w : World} {base : Nat} {ok : Nat → Prop} {g n cap : Nat} (h : RowI w base ok g n cap) : g < w.heap.size := by
  obtain ⟨ys, hl, hR⟩ := h
  exact Kd.R_lt hR g (by simp [Value.ownBlock])
theorem RowI.cells {w : World} {base : Nat} {ok : Nat → Prop} {g n cap : Nat} (h : RowI w base ok g n cap) (i : Nat) (hi : i < n) : ∃ x : Int × Int, (w.cell? ⟨g, i * 4, none⟩ = some (.int .i64 x.1) ∧ w.cell? ⟨g, i * 4 + 1, none⟩ = some (.int .i64 x.2) ∧ w.cell? ⟨g, i * 4 + 2, none⟩ = some (.bool false) ∧ w.cell? ⟨g, i * 4 + 3, none⟩ = some (.slice none 0 0)) ∧ (∀ k, w.frozen? ⟨g, k, none⟩ = false) := by
  obtain ⟨ys, hl, hR⟩ := h
  obtain ⟨c, _, hM, hcc, _⟩ := Kd.R_elem hR (0, 0) (i : Int) (by omega) (by omega)
  obtain ⟨_, inner, ho, _⟩ := hR
  obtain ⟨cells, hc⟩ := own_typed ho g (by simp [Value.ownBlock])
  have hM' : c = cellsT (ys.getD i (0, 0)) := hM
  subst hM'
  exact ⟨ys.getD i (0, 0), ⟨hcc 0 _ rfl, hcc 1 _ rfl, hcc 2 _ rfl, hcc 3 _ rfl⟩, fun k => blk_frozen hc k⟩
theorem RowI.write {w : World} {base : Nat} {ok : Nat → Prop} {g n cap : Nat} (h : RowI w base ok g n cap) (i : Nat) (hi : i < n) (y : Int × Int) :
    RowI (w.setCells g (i * 4) (cellsT y)) base ok g n cap ∧ w.grownBy (w.setCells g (i * 4) (cellsT y)) (some g) := by
  obtain ⟨ys, hl, hR⟩ := h
  obtain ⟨c, hcl, hM, hcc, _⟩ := Kd.R_elem hR (0, 0) (i : Int) (by omega) (by omega)
  have h2 := Kd.R_seg (okp := fun _ => False) (x' := y) (seg := cellsT y) (j := 0) hR (i : Int) (by omega) (by omega) hcl hcc (Nat.le_refl 4) (by
    have hc2 : c.length = 4 := hcl
    show _ = cellsT y
    rw [List.take_zero, List.nil_append, List.drop_eq_nil_of_le (by simp [hc2, cellsT]), List.append_nil]) (fun _ hk => hk.elim)
  exact ⟨⟨_, by simp [hl], h2.1⟩, h2.2⟩
/-- Two are exchanged: as the stores leave the world. -/
theorem RowI.swap {w : World} {base : Nat} {ok : Nat → Prop} {g n cap : Nat} (h : RowI w base ok g n cap) (i j : Nat) (hi : i < n) (hj : j < n) (x y : Int × Int) :
    RowI ((w.setCells g (i * 4) (cellsT y)).setCells g (j * 4) (cellsT x)) base ok g n cap ∧ Eff (fun k => k = g) w ((w.setCells g (i * 4) (cellsT y)).setCells g (j * 4) (cellsT x)) := by
  obtain ⟨r1, g1⟩ := h.write i hi y
  obtain ⟨r2, g2⟩ := r1.write j hj x
  exact ⟨r2, Eff.of_grown (grown_trans g1 g2) (fun k hk => by injection hk with hk; exact hk.symm)⟩
end Go.Proofs.Ytcgncdcihglgdaa.T
