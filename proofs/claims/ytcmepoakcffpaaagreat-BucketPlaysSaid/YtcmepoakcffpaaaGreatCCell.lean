import Derived.Test.YtcmepoakcffpaaaGreatProg
import Derived.BigRegion
import Derived.BigQuiet
import Derived.Deep.QuietTactic
import Derived.Deep.AppendLies
import Derived.ChangeAlike
import Derived.Outline
import Derived.WalkKit
import Derived.KernelRfl
import Derived.Deep.LoopGhost
import Derived.Deep.RegionLaw
import Derived.Test.YtcmepoakcffpaaaGreatWMore
import Derived.Test.YtcmepoakcffpaaaGreatWKept
import Derived.Test.YtcmepoakcffpaaaGreatLSep
import Derived.Test.YtcmepoakcffpaaaGreatCTake
namespace Go.Proofs.YtcmepoakcffpaaaGreat.CP
open Go Go.RowKit Go.Proofs.YtcmepoakcffpaaaGreatW.PrintWords Go.Proofs.YtcmepoakcffpaaaGreatW.PrintLast Go.Proofs.YtcmepoakcffpaaaGreatW.PrintMore Go.Proofs.YtcmepoakcffpaaaGreat.CR Go.Proofs.YtcmepoakcffpaaaGreat.L
set_option linter.unusedVariables false
set_option linter.unusedSimpArgs false
theorem Rd8.eff {w w1 : World} {b : Nat} {s : ByteArray} {bad : Bool} (h : Rd8 w b s bad) (e : Eff0 w w1) : Rd8 w1 b s bad := (e.block b h.lt id).trans h
/-- What lies beside the reader. -/
def Fr (b : Nat) (bs : List (Nat × Obj)) (w : World) : Prop := ∀ p ∈ bs, p.1 ≠ b ∧ w.heap[p.1]? = some p.2
theorem Fr.eff {b : Nat} {bs : List (Nat × Obj)} {w w1 : World} (h : Fr b bs w) (e : Eff (fun k => k = b) w w1) : Fr b bs w1 := fun p hp => ⟨(h p hp).1, (e.block p.1 (Array.getElem?_eq_some_iff.1 (h p hp).2).1 (h p hp).1).trans (h p hp).2⟩
theorem Fr.nil (b : Nat) (w : World) : Fr b [] w := fun _ h => by cases h
theorem Fr.new {b : Nat} {bs : List (Nat × Obj)} {w w1 : World} {i : Nat} {o : Obj} (h : Fr b bs w) (e : Eff0 w w1) (hi : i ≠ b) (ho : w1.heap[i]? = some o) : Fr b ((i, o) :: bs) w1 := by
  intro p hp
  rcases List.mem_cons.mp hp with rfl | hp
  · exact ⟨hi, ho⟩
  · exact h.eff (e.any _) p hp
/-- The reader as it stands, what was done since, and what lies beside. -/
def St (W : World) (b : Nat) (r : ByteArray × Bool) (bs : List (Nat × Obj)) (w : World) : Prop := Rd8 w b r.1 r.2 ∧ Eff (fun k => k = b) W w ∧ Fr b bs w
theorem St.num {W : World} {b : Nat} {r : ByteArray × Bool} {bs : List (Nat × Obj)} {w : World} (h : Aside0 (St W b r bs w)) (n : Nat) (hn : n ≤ 2) :
    Calls Tryz.prog 95 #[.pointer (some ⟨b, 0, none⟩), .int .i64 n] w fun e w' => e = .returned (.int .i64 (numB n r.1 r.2).1) ∧ Aside0 (St W b (numB n r.1 r.2).2 bs w') :=
  (num8 b r.1 r.2 w h.out.1 n hn).mono fun e w' ⟨he, h1, e1⟩ => ⟨he, Aside0.mk ⟨h1, h.out.2.1.trans e1 (fun _ h => .inl h), h.out.2.2.eff e1⟩⟩
theorem St.take {W : World} {b : Nat} {r : ByteArray × Bool} {bs : List (Nat × Obj)} {w : World} (h : Aside0 (St W b r bs w)) (n : Nat) (hn : n < 65536) :
    Calls Tryz.prog 107 #[.pointer (some ⟨b, 0, none⟩), .int .i64 n] w fun e w' => e = .returned (.string (takeB n r.1 r.2).1) ∧ Aside0 (St W b (takeB n r.1 r.2).2 bs w') :=
  (take8 b r.1 r.2 w h.out.1 n (by omega)).mono fun e w' ⟨he, h1, e1⟩ => ⟨he, Aside0.mk ⟨h1, h.out.2.1.trans e1 (fun _ h => .inl h), h.out.2.2.eff e1⟩⟩
theorem St.alloc {W : World} {b : Nat} {r : ByteArray × Bool} {bs : List (Nat × Obj)} {w : World} (h : Aside0 (St W b r bs w)) (o : Obj) : Aside0 (St W b r ((w.heap.size, o) :: bs) (w.alloc o)) :=
  Aside0.mk ⟨h.out.1.eff ((Eff.refl _ _).alloc o), h.out.2.1.alloc o, h.out.2.2.new ((Eff.refl _ _).alloc o) (by have := h.out.1.lt; omega) (heap_alloc_new w o)⟩
theorem St.blk {W : World} {b : Nat} {r : ByteArray × Bool} {bs : List (Nat × Obj)} {w : World} (h : Aside0 (St W b r bs w)) {i : Nat} {cs : Array Value} {t : Nat} (hm : (i, Obj.cells cs t (0, 0)) ∈ bs) : (∀ j, w.cell? ⟨i, j, none⟩ = cs[j]?) ∧ ∀ j, w.frozen? ⟨i, j, none⟩ = false :=
  ⟨fun j => blk_cell (h.out.2.2 _ hm).2 j, fun j => blk_frozen (h.out.2.2 _ hm).2 j⟩
theorem St.start {W : World} {b : Nat} {s : ByteArray} {bad : Bool} (h : Rd8 W b s bad) : Aside0 (St W b (s, bad) [] W) := Aside0.mk ⟨h, Eff.refl _ _, Fr.nil _ _⟩
theorem rd_set {W w : World} {b : Nat} {s : ByteArray} {bad : Bool} (h : Rd8 w b s bad ∧ Eff (fun k => k = b) W w) {p : Addr} (hb : b ≠ p.block) (hp : W.heap.size ≤ p.block) (u : Value) : Rd8 (w.setCell p u) b s bad ∧ Eff (fun k => k = b) W (w.setCell p u) :=
  ⟨blk_far h.1 hb u, h.2.set p u (.inr hp)⟩
/-- How the cell's reading ends: the cell is stored where the result lies. -/
theorem cell_end {W w : World} {b A : Nat} {r : ByteArray × Bool} {bs : List (Nat × Obj)} {z0 z1 z2 z3 : Value} (h : Aside0 (St W b r bs w)) (hA : w.heap[A]? = some (.cells #[z0, z1, z2, z3] 42 (0, 0))) (hAW : W.heap.size ≤ A) (hb : b < W.heap.size) {B1 : Nat} (hBW : W.heap.size ≤ B1) (hne : B1 ≠ A) (sts : List (Nat × Value)) (q : B) :
    let w1 := sts.foldl (fun w p => w.setCell ⟨B1, p.1, none⟩ p.2) w
    let w2 := (((w1.setCell ⟨A, 0, none⟩ (.string q.k)).setCell ⟨A, 1, none⟩ (.string q.v)).setCell ⟨A, 2, none⟩ (.int .i64 q.bl)).setCell ⟨A, 3, none⟩ (.int .i64 q.sz)
    w2.heap[A]? = some (.cells #[.string q.k, .string q.v, .int .i64 q.bl, .int .i64 q.sz] 42 (0, 0)) ∧ Rd8 w2 b r.1 r.2 ∧ Eff (fun k => k = b) W w2 := by
  have step : ∀ (sts : List (Nat × Value)) (w : World), (Rd8 w b r.1 r.2 ∧ Eff (fun k => k = b) W w) → w.heap[A]? = some (.cells #[z0, z1, z2, z3] 42 (0, 0)) → (Rd8 (sts.foldl (fun w p => w.setCell ⟨B1, p.1, none⟩ p.2) w) b r.1 r.2 ∧ Eff (fun k => k = b) W (sts.foldl (fun w p => w.setCell ⟨B1, p.1, none⟩ p.2) w)) ∧ (sts.foldl (fun w p => w.setCell ⟨B1, p.1, none⟩ p.2) w).heap[A]? = some (.cells #[z0, z1, z2, z3] 42 (0, 0)) := by
    intro sts
    induction sts with
    | nil => exact fun w h1 h2 => ⟨h1, h2⟩
    | cons p sts ih => exact fun w h1 h2 => ih _ (rd_set h1 (p := ⟨B1, p.1, none⟩) (by show b ≠ B1; omega) hBW p.2) (blk_far h2 (p := ⟨B1, p.1, none⟩) (by show A ≠ B1; omega) p.2)
  obtain ⟨h1, h2⟩ := step sts w ⟨h.out.1, h.out.2.1⟩ hA
  have hbA : b ≠ A := by omega
  exact ⟨blk_set (blk_set (blk_set (blk_set h2 0 _) 1 _) 2 _) 3 _, rd_set (rd_set (rd_set (rd_set h1 hbA hAW _) hbA hAW _) hbA hAW _) hbA hAW _⟩
set_option maxHeartbeats 1600000 in
set_option maxRecDepth 100000 in
theorem cell_calls (b : Nat) (s : ByteArray) (bad : Bool) (W : World) (h : Rd8 W b s bad) :
    Calls Tryz.prog 96 #[.pointer (some ⟨b, 0, none⟩)] W fun e w' => e = .returned (cellB s bad).1.val ∧ Rd8 w' b (cellB s bad).2.1 (cellB s bad).2.2 ∧ Eff (fun k => k = b) W w' := by
  unfold cellB
  dsimp only
  have l1 := numB_lt 1 (by omega) s bad
  have D1 := fun w1 bs (h1 : Aside0 (St W b (s, bad) bs w1)) => St.num h1 1 (by omega)
  have A0 := St.start h
  have hb0 := h.lt
  dsimp only at D1
  generalize numB 1 s bad = a at *
  have D2 := fun w1 bs (h1 : Aside0 (St W b a.2 bs w1)) => St.take h1 a.1 (by omega)
  generalize takeB a.1 a.2.1 a.2.2 = k at *
  have l2 := numB_lt 1 (by omega) k.2.1 k.2.2
  have D3 := fun w1 bs (h1 : Aside0 (St W b k.2 bs w1)) => St.num h1 1 (by omega)
  generalize numB 1 k.2.1 k.2.2 = kd at *
  have l3 := numB_lt 2 (by omega) kd.2.1 kd.2.2
  have D4 := fun w1 bs (h1 : Aside0 (St W b kd.2 bs w1)) => St.num h1 2 (by omega)
  generalize numB 2 kd.2.1 kd.2.2 = n at *
  clear h
  by_cases h5 : kd.1 = 0
  · rw [if_pos h5]
    have D5 := fun w1 bs (h1 : Aside0 (St W b n.2 bs w1)) => St.take h1 n.1 (by omega)
    generalize takeB n.1 n.2.1 n.2.2 = v at *
    have p5 : ((kd.1 : Int) == 0) = true := by rw [h5]; rfl
    clear h5
    go_enter Tryz.func96, Tryz.ntmps96
    go_wp2_with (first
      | (go_at_call 95; refine (D1 _ _ (St.alloc A0 _)).mono ?_; rintro e w1 ⟨rfl, A1⟩; clear A0 D1)
      | (go_at_call 107; refine (D2 _ _ A1).mono ?_; rintro e w2 ⟨rfl, A2⟩; clear A1 D2)
      | (go_at_call 95; refine (D3 _ _ (St.alloc A2 _)).mono ?_; rintro e w3 ⟨rfl, A3⟩; clear D3)
      | (go_at_call 95; refine (D4 _ _ A3).mono ?_; rintro e w4 ⟨rfl, A4⟩; clear A3 D4)
      | (go_at_call 107; refine (D5 _ _ A4).mono ?_; rintro e w5 ⟨rfl, A5⟩; clear A4 D5; obtain ⟨g, f⟩ := St.blk A5 (List.mem_cons_self ..); obtain ⟨g', f'⟩ := St.blk A5 (List.mem_cons_of_mem _ (List.mem_cons_self ..)); have g0 := g 0; have g1 := g 1; have g2 := g 2; have g3 := g 3; have f0 := f 0; have f1 := f 1; have f2 := f 2; have f3 := f 3; have g10 := g' 0; have g11 := g' 1; have g12 := g' 2; have g13 := g' 3; have f10 := f' 0; have f11 := f' 1; have f12 := f' 2; have f13 := f' 3; have hne : w2.heap.size ≠ W.heap.size := (by have h77 : W.heap.size < w2.heap.size := blk_lt (A2.out.2.2 _ (List.mem_cons_self ..)).2; omega); clear g g' f f'))
    obtain ⟨hg, hrd⟩ := cell_end A5 (A5.out.2.2 _ (List.mem_cons_of_mem _ (List.mem_cons_self ..))).2 (Nat.le_refl _) hb0 (by have h77 : W.heap.size < w2.heap.size := blk_lt (A2.out.2.2 _ (List.mem_cons_self ..)).2; omega) hne [(1, .string v.1)] ⟨k.1, v.1, 0, 0⟩
    refine bodyPost_ret (results_cell_row rfl _ _ W.heap.size 42 _ (0, 0) _ rfl hg Tryz.underlying42 rfl (by kernel_rfl)) rfl ?_
    exact ⟨rfl, hrd⟩
  · rw [if_neg h5]
    have D5 := fun w1 bs (h1 : Aside0 (St W b n.2 bs w1)) => St.num h1 2 (by omega)
    generalize numB 2 n.2.1 n.2.2 = v at *
    have p5 : ((kd.1 : Int) == 0) = false := beq_eq_false_iff_ne.mpr (by omega)
    clear h5
    go_enter Tryz.func96, Tryz.ntmps96
    go_wp2_with (first
      | (go_at_call 95; refine (D1 _ _ (St.alloc A0 _)).mono ?_; rintro e w1 ⟨rfl, A1⟩; clear A0 D1)
      | (go_at_call 107; refine (D2 _ _ A1).mono ?_; rintro e w2 ⟨rfl, A2⟩; clear A1 D2)
      | (go_at_call 95; refine (D3 _ _ (St.alloc A2 _)).mono ?_; rintro e w3 ⟨rfl, A3⟩; clear D3)
      | (go_at_call 95; refine (D4 _ _ A3).mono ?_; rintro e w4 ⟨rfl, A4⟩; clear A3 D4)
      | (go_at_call 95; refine (D5 _ _ A4).mono ?_; rintro e w5 ⟨rfl, A5⟩; clear A4 D5; obtain ⟨g, f⟩ := St.blk A5 (List.mem_cons_self ..); obtain ⟨g', f'⟩ := St.blk A5 (List.mem_cons_of_mem _ (List.mem_cons_self ..)); have g0 := g 0; have g1 := g 1; have g2 := g 2; have g3 := g 3; have f0 := f 0; have f1 := f 1; have f2 := f 2; have f3 := f 3; have g10 := g' 0; have g11 := g' 1; have g12 := g' 2; have g13 := g' 3; have f10 := f' 0; have f11 := f' 1; have f12 := f' 2; have f13 := f' 3; have hne : w2.heap.size ≠ W.heap.size := (by have h77 : W.heap.size < w2.heap.size := blk_lt (A2.out.2.2 _ (List.mem_cons_self ..)).2; omega); clear g g' f f'))
    obtain ⟨hg, hrd⟩ := cell_end A5 (A5.out.2.2 _ (List.mem_cons_of_mem _ (List.mem_cons_self ..))).2 (Nat.le_refl _) hb0 (by have h77 : W.heap.size < w2.heap.size := blk_lt (A2.out.2.2 _ (List.mem_cons_self ..)).2; omega) hne [(3, .int .i64 n.1), (2, .int .i64 v.1)] ⟨k.1, ⟨#[]⟩, v.1, n.1⟩
    refine bodyPost_ret (results_cell_row rfl _ _ W.heap.size 42 _ (0, 0) _ rfl hg Tryz.underlying42 rfl (by kernel_rfl)) rfl ?_
    exact ⟨rfl, hrd⟩
end Go.Proofs.YtcmepoakcffpaaaGreat.CP
