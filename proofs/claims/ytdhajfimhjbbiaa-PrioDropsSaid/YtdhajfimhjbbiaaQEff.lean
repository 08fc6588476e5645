import Derived.Test.YtdhajfimhjbbiaaQBase
namespace Go.Proofs.Ytdhajfimhjbbiaa.Q
open Go Go.RowKit Go.Proofs.YtdhajfimhjbbiaaW.PrintWords Go.Proofs.YtdhajfimhjbbiaaW.PrintLast Go.Proofs.YtdhajfimhjbbiaaW.PrintMore
set_option linter.unusedVariables false
/-- What a call may change: the blocks of S, and what is made anew. -/
structure Eff (S : Nat → Prop) (w w' : World) : Prop where
  os : w'.os = w.os
  tape : w'.tape = w.tape
  output : w'.output = w.output
  size : w.heap.size ≤ w'.heap.size
  block : ∀ k, k < w.heap.size → ¬ S k → w'.heap[k]? = w.heap[k]?
section
variable {S S' : Nat → Prop} {w w1 w2 : World}
theorem Eff.refl (S : Nat → Prop) (w : World) : Eff S w w := ⟨rfl, rfl, rfl, Nat.le_refl _, fun _ _ _ => rfl⟩
theorem Eff.trans (h : Eff S w w1) (k : Eff S' w1 w2) (hs : ∀ i, S' i → S i ∨ w.heap.size ≤ i) : Eff S w w2 :=
  ⟨k.os.trans h.os, k.tape.trans h.tape, k.output.trans h.output, Nat.le_trans h.size k.size, fun i hi hn => (k.block i (Nat.lt_of_lt_of_le hi h.size) (fun h2 => (hs i h2).elim hn (fun h3 => by omega))).trans (h.block i hi hn)⟩
theorem Eff.mono (h : Eff S w w1) (hs : ∀ i, S i → S' i) : Eff S' w w1 := ⟨h.os, h.tape, h.output, h.size, fun i hi hn => h.block i hi (fun h2 => hn (hs i h2))⟩
theorem Eff.of_below (h : Below w.heap.size w w1) : Eff S w w1 := ⟨h.os, h.tape, h.output, h.size, fun i hi _ => h.block i hi⟩
theorem Eff.of_grown {row : Option Nat} (h : w.grownBy w1 row) (hs : ∀ i, row = some i → S i) : Eff S w w1 := ⟨h.os, h.tape, h.output, h.size, fun i hi hn => h.block i hi (fun e => hn (hs i e.symm))⟩
theorem Eff.drew (h : Eff S w w1) : Eff S w w1.drew := ⟨h.os, h.tape, h.output, h.size, h.block⟩
theorem Eff.drawn (h : Eff S w w1) (k : Drawn0 w1 w2) : Eff S w w2 := h.trans (S' := fun _ => False) (Eff.of_below (by
  obtain ⟨n, rfl⟩ := k
  exact pw_below_drewN (Below.refl _ _) n)) (fun _ h => h.elim)
theorem Eff.alloc (h : Eff S w w1) (o : Obj) : Eff S w (w1.alloc o) := h.trans (S' := fun _ => False) (Eff.of_below (below_alloc (Below.refl _ _) o)) (fun _ h => h.elim)
theorem Eff.set (h : Eff S w w1) (p : Addr) (u : Value) (hp : S p.block ∨ w.heap.size ≤ p.block) : Eff S w (w1.setCell p u) := by
  refine h.trans (S' := fun k => k = p.block) ⟨rfl, rfl, rfl, by simp [World.setCell], fun i _ hn => Below.heap_setCell w1 p u i hn⟩ ?_
  rintro i rfl
  exact hp
theorem Eff.below {B : Nat} (h : Eff S w w1) (hB : B ≤ w.heap.size) (hs : ∀ k, S k → B ≤ k) : Below B w w1 := ⟨h.os, h.tape, h.output, h.size, fun k hk => h.block k (by omega) (fun h2 => by have := hs k h2; omega)⟩
end
/-- A queue lies at b: its row is v, whose elements are xs. -/
structure Row (w : World) (base b : Nat) (v : Value) (xs : List (Int × Int)) : Prop where
  blk : w.heap[b]? = some (.cells #[v] 28 (0, 0))
  from_ : base ≤ b
  row : kd.R 67 w base (fun _ => True) v xs
theorem Row.lt {w : World} {base b : Nat} {v : Value} {xs : List (Int × Int)} (h : Row w base b v xs) : b < w.heap.size := by
  rcases Nat.lt_or_ge b w.heap.size with h1 | h1
  · exact h1
  · have := h.blk
    rw [Array.getElem?_eq_none h1] at this
    cases this
theorem Row.cell {w : World} {base b : Nat} {v : Value} {xs : List (Int × Int)} (h : Row w base b v xs) : w.cell? ⟨b, 0, none⟩ = some v := by
  simp [World.cell?, h.blk]
theorem Row.fro {w : World} {base b : Nat} {v : Value} {xs : List (Int × Int)} (h : Row w base b v xs) : w.frozen? ⟨b, 0, none⟩ = false := blk_frozen h.blk 0
theorem Row.ne {w : World} {base b : Nat} {v : Value} {xs : List (Int × Int)} (h : Row w base b v xs) : v.ownBlock ≠ some b := by
  intro e
  have := (Kd.R_types h.row h.blk (by decide)).1 b e
  exact this.2 rfl
theorem Row.own_lt {w : World} {base b : Nat} {v : Value} {xs : List (Int × Int)} (h : Row w base b v xs) : ∀ k, v.ownBlock = some k → k < w.heap.size := Kd.R_lt h.row
theorem Row.own_base {w : World} {base b : Nat} {v : Value} {xs : List (Int × Int)} (h : Row w base b v xs) : ∀ k, v.ownBlock = some k → base ≤ k := Kd.R_base h.row
/-- The queue's own blocks. -/
def Foot (b : Nat) (v : Value) (k : Nat) : Prop := k = b ∨ v.ownBlock = some k
/-- What a call that works on a queue leaves. -/
def Post (w : World) (base b : Nat) (v : Value) (xs : List (Int × Int)) (w' : World) : Prop := ∃ v', Row w' base b v' xs ∧ Eff (Foot b v) w w' ∧ ∀ k, v'.ownBlock = some k → v.ownBlock = some k ∨ w.heap.size ≤ k
theorem Post.refl {w : World} {base b : Nat} {v : Value} {xs : List (Int × Int)} (h : Row w base b v xs) : Post w base b v xs w := ⟨v, h, Eff.refl _ _, fun _ hk => .inl hk⟩
theorem Post.step {w w1 w2 : World} {base b : Nat} {v v1 : Value} {ys : List (Int × Int)} (he : Eff (Foot b v) w w1) (hv : ∀ k, v1.ownBlock = some k → v.ownBlock = some k ∨ w.heap.size ≤ k) (h : Post w1 base b v1 ys w2) : Post w base b v ys w2 := by
  obtain ⟨v2, h2, e2, k2⟩ := h
  refine ⟨v2, h2, he.trans e2 ?_, fun k hk => ?_⟩
  · rintro i (rfl | hi)
    · exact .inl (.inl rfl)
    · exact (hv i hi).imp .inr id
  · rcases k2 k hk with h3 | h3
    · exact hv k h3
    · exact .inr (Nat.le_trans he.size h3)
theorem Row.eff {w w1 : World} {S : Nat → Prop} {base b : Nat} {v : Value} {xs : List (Int × Int)} (h : Row w base b v xs) (he : Eff S w w1) (hb : ¬ S b) (hv : ∀ k, v.ownBlock = some k → ¬ S k) : Row w1 base b v xs := by
  refine ⟨(he.block b h.lt hb).trans h.blk, h.from_, ?_⟩
  refine Kd.R_mono (Kd.R_step (Kd.R_tight rfl h.row) (fun k hk hlt => he.block k hlt (hv k hk.symm))) (fun _ _ => trivial)
end Go.Proofs.Ytdhajfimhjbbiaa.Q
