import Derived.Test.YtiagbkpggeglgaaGreatProg
import Derived.BigRegion
import Derived.BigQuiet
import Derived.Deep.QuietTactic
import Derived.Deep.AppendLies
import Derived.ChangeAlike
import Derived.Outline
import Derived.WalkKit
import Derived.KernelRfl
import Derived.Deep.LoopGhost
import Derived.Deep.RegionLaw
import Derived.Test.YtiagbkpggeglgaaGreatWMore
import Derived.Test.YtiagbkpggeglgaaGreatWKept
namespace Go.Proofs.YtiagbkpggeglgaaGreat.Q
open Go Go.RowKit Go.Proofs.YtiagbkpggeglgaaGreatW.PrintWords Go.Proofs.YtiagbkpggeglgaaGreatW.PrintLast Go.Proofs.YtiagbkpggeglgaaGreatW.PrintMore
set_option linter.unusedVariables false
set_option linter.unusedSimpArgs false
/-- What waits: its place, its id. -/
abbrev kd : Kd (Int × Int) := Kd.pair (Kd.int .i64) (Kd.int .i64)
theorem kd_open {w : World} {x : Int × Int} {cs : List Value} (h : kd.K w x cs) : cs = [.int .i64 x.1, .int .i64 x.2] := by
  obtain ⟨_, _, rfl, rfl, rfl⟩ := h
  rfl
theorem kd_mk (w : World) (base : Nat) (ok : Nat → Prop) (x : Int × Int) : kd.M w base ok x [.int .i64 x.1, .int .i64 x.2] := ⟨[.int .i64 x.1], [.int .i64 x.2], rfl, rfl, rfl⟩
def rdp (xs : List (Int × Int)) (i : Int) : Int × Int := xs.getD i.toNat (0, 0)
theorem at_p {w : World} {A : Option Addr} {n : Nat} {xs : List (Int × Int)} (h : Kd.C kd w A n xs) (i : Int) (h0 : 0 ≤ i) (h1 : i < n) :
    ∃ ad, A = some ad ∧ w.cell? (ad.add (i.toNat * 2)) = some (.int .i64 (rdp xs i).1) ∧ w.cell? ⟨(ad.add (i.toNat * 2)).block, (ad.add (i.toNat * 2)).off + 1, none⟩ = some (.int .i64 (rdp xs i).2) := by
  obtain ⟨ad, c, e, _, hK, hc0⟩ := Kd.C_get h (0, 0) i h0 h1
  have hc : ∀ j u, c[j]? = some u → w.cell? (ad.add (i.toNat * 2 + j)) = some u := hc0
  obtain rfl := kd_open hK
  exact ⟨ad, e, hc 0 _ rfl, by rw [← add_field _ _ 1 (by omega)]; exact hc 1 _ rfl⟩
/-- Does x come ahead of y? -/
def lessB (x y : Int × Int) : Bool := decide (y.1 < x.1) || ((x.1 == y.1) && decide (x.2 < y.2))
set_option maxHeartbeats 4000000 in
set_option maxRecDepth 100000 in
theorem less_calls (w : World) (A : Option Addr) (n c : Nat) (xs : List (Int × Int)) (i j : Int) (hC : Kd.C kd w A n xs) (hi0 : 0 ≤ i) (hi : i < n) (hj0 : 0 ≤ j) (hj : j < n) :
    Calls Tryz.prog 200 #[.slice A n c, .int .i64 i, .int .i64 j] w fun e w' => e = .returned (.bool (lessB (rdp xs i) (rdp xs j))) ∧ Drawn0 w w' := by
  obtain ⟨ad, rfl, hx1, hx2⟩ := at_p hC i hi0 hi
  obtain ⟨ad', e, hy1, hy2⟩ := at_p hC j hj0 hj
  injection e with e
  subst e
  clear hC
  unfold lessB
  generalize rdp xs i = x at *
  generalize rdp xs j = y at *
  have pi0 := eq_true hi0
  have pi1 := eq_true hi
  have pj0 := eq_true hj0
  have pj1 := eq_true hj
  clear hi0 hi hj0 hj
  by_cases c1 : y.1 < x.1
  · have d1 : decide (y.1 < x.1) = true := decide_eq_true c1
    rw [d1, Bool.true_or]
    clear c1
    go_enter Tryz.func200, Tryz.ntmps200
    go_wp2
    go_quiet (fail)
    go_wp2
    go_ret
    exact ⟨rfl, ⟨⟨_, rfl⟩⟩⟩
  · have d1 : decide (y.1 < x.1) = false := decide_eq_false c1
    rw [d1, Bool.false_or]
    clear c1
    by_cases c2 : x.1 = y.1
    · have d2 : (x.1 == y.1) = true := beq_iff_eq.2 c2
      rw [d2, Bool.true_and]
      clear c2
      go_enter Tryz.func200, Tryz.ntmps200
      go_wp2
      go_quiet (fail)
      go_wp2
      go_ret
      exact ⟨rfl, ⟨⟨_, rfl⟩⟩⟩
    · have d2 : (x.1 == y.1) = false := beq_eq_false_iff_ne.2 c2
      rw [d2, Bool.false_and]
      clear c2
      go_enter Tryz.func200, Tryz.ntmps200
      go_wp2
      go_quiet (fail)
      go_wp2
      go_ret
      exact ⟨rfl, ⟨⟨_, rfl⟩⟩⟩
set_option maxHeartbeats 4000000 in
set_option maxRecDepth 100000 in
theorem swap_walk (w : World) (g n c : Nat) (i j : Int) (x y : Int × Int) (hi0 : 0 ≤ i) (hi : i < n) (hj0 : 0 ≤ j) (hj : j < n)
    (hx1 : w.cell? ⟨g, i.toNat * 2, none⟩ = some (.int .i64 x.1)) (hx2 : w.cell? ⟨g, i.toNat * 2 + 1, none⟩ = some (.int .i64 x.2)) (hy1 : w.cell? ⟨g, j.toNat * 2, none⟩ = some (.int .i64 y.1)) (hy2 : w.cell? ⟨g, j.toNat * 2 + 1, none⟩ = some (.int .i64 y.2))
    (hf : ∀ k, w.frozen? ⟨g, k, none⟩ = false) :
    Calls Tryz.prog 201 #[.slice (some ⟨g, 0, none⟩) n c, .int .i64 i, .int .i64 j] w fun e w' => e = .returned (.tuple #[]) ∧ w' = ((((w.setCell ⟨g, i.toNat * 2, none⟩ (.int .i64 y.1)).setCell ⟨g, i.toNat * 2 + 1, none⟩ (.int .i64 y.2)).setCell ⟨g, j.toNat * 2, none⟩ (.int .i64 x.1)).setCell ⟨g, j.toNat * 2 + 1, none⟩ (.int .i64 x.2)).drew := by
  have pi0 := eq_true hi0
  have pi1 := eq_true hi
  have pj0 := eq_true hj0
  have pj1 := eq_true hj
  have f1 := hf (i.toNat * 2)
  have f2 := hf (i.toNat * 2 + 1)
  have f3 := hf (j.toNat * 2)
  have f4 := hf (j.toNat * 2 + 1)
  by_cases hij : i.toNat = j.toNat
  · obtain rfl : i = j := by omega
    rw [hx1] at hy1
    rw [hx2] at hy2
    obtain rfl : x = y := by
      injection hy1 with a
      injection a with _ a
      injection hy2 with b
      injection b with _ b
      exact Prod.ext a b
    clear hi0 hi hj0 hj hf hij hy1 hy2
    have s1 : ((w.setCell ⟨g, i.toNat * 2, none⟩ (.int .i64 x.1)).setCell ⟨g, i.toNat * 2 + 1, none⟩ (.int .i64 x.2)).cell? ⟨g, i.toNat * 2, none⟩ = some (.int .i64 x.1) := by
      rw [World.cell?_setCell_other _ _ _ _ (by intro e; injection e with _ e; omega)]
      exact World.cell?_setCell_same' _ _ _ (by rw [hx1]; rfl)
    have s2 : (((w.setCell ⟨g, i.toNat * 2, none⟩ (.int .i64 x.1)).setCell ⟨g, i.toNat * 2 + 1, none⟩ (.int .i64 x.2)).setCell ⟨g, i.toNat * 2, none⟩ (.int .i64 x.1)).cell? ⟨g, i.toNat * 2 + 1, none⟩ = some (.int .i64 x.2) := by
      rw [World.cell?_setCell_other _ _ _ _ (by intro e; injection e with _ e; omega)]
      exact World.cell?_setCell_same' _ _ _ (by rw [World.cell?_setCell_other _ _ _ _ (by intro e; injection e with _ e; omega), hx2]; rfl)
    go_enter Tryz.func201, Tryz.ntmps201
    go_wp2
    go_region
    go_end0
    exact ⟨rfl, rfl⟩
  · have hij2 : i.toNat ≠ j.toNat := hij
    clear hi0 hi hj0 hj hf
    go_enter Tryz.func201, Tryz.ntmps201
    go_wp2
    go_region
    go_end0
    exact ⟨rfl, rfl⟩
def swapL (xs : List (Int × Int)) (i j : Int) : List (Int × Int) := (xs.set i.toNat (rdp xs j)).set j.toNat (rdp xs i)
theorem swapL_length (xs : List (Int × Int)) (i j : Int) : (swapL xs i j).length = xs.length := by simp [swapL]
/-- A row of one's own: one element is written. -/
theorem R_write {w : World} {base g n cap : Nat} {ok : Nat → Prop} {xs : List (Int × Int)} (h : kd.R 159 w base ok (.slice (some ⟨g, 0, none⟩) n cap) xs) (i : Int) (h0 : 0 ≤ i) (h1 : i < n) (y : Int × Int) :
    kd.R 159 ((w.setCell ⟨g, i.toNat * 2, none⟩ (.int .i64 y.1)).setCell ⟨g, i.toNat * 2 + 1, none⟩ (.int .i64 y.2)) base ok (.slice (some ⟨g, 0, none⟩) n cap) (xs.set i.toNat y) ∧ w.grownBy ((w.setCell ⟨g, i.toNat * 2, none⟩ (.int .i64 y.1)).setCell ⟨g, i.toNat * 2 + 1, none⟩ (.int .i64 y.2)) (some g) := by
  obtain ⟨c, hcl, _, hcc, _⟩ := Kd.R_elem h (0, 0) i h0 h1
  have h2 := Kd.R_seg (okp := fun _ => False) (x' := y) (seg := [.int .i64 y.1, .int .i64 y.2]) (j := 0) h i h0 h1 hcl hcc (Nat.le_refl 2) (by
    have hc2 : c.length = 2 := hcl
    have e : c.take 0 ++ [Value.int .i64 y.1, .int .i64 y.2] ++ c.drop (0 + [Value.int .i64 y.1, .int .i64 y.2].length) = [.int .i64 y.1, .int .i64 y.2] := by
      rw [List.drop_eq_nil_of_le (by simp [hc2])]
      rfl
    rw [e]
    exact kd_mk w base _ y) (fun _ hk => hk.elim)
  exact h2
theorem grown_trans {w w1 w2 : World} {r : Option Nat} (h : w.grownBy w1 r) (k : w1.grownBy w2 r) : w.grownBy w2 r :=
  ⟨k.os.trans h.os, k.tape.trans h.tape, k.output.trans h.output, Nat.le_trans h.size k.size, fun i hi hn => (k.block i (Nat.lt_of_lt_of_le hi h.size) hn).trans (h.block i hi hn)⟩
theorem grown_drew {w w1 : World} {r : Option Nat} (h : w.grownBy w1 r) : w.grownBy w1.drew r := ⟨h.os, h.tape, h.output, h.size, h.block⟩
theorem swap_calls (w : World) (base g n cap : Nat) (ok : Nat → Prop) (xs : List (Int × Int)) (i j : Int) (h : kd.R 159 w base ok (.slice (some ⟨g, 0, none⟩) n cap) xs) (hi0 : 0 ≤ i) (hi : i < n) (hj0 : 0 ≤ j) (hj : j < n) :
    Calls Tryz.prog 201 #[.slice (some ⟨g, 0, none⟩) n cap, .int .i64 i, .int .i64 j] w fun e w' => e = .returned (.tuple #[]) ∧ kd.R 159 w' base ok (.slice (some ⟨g, 0, none⟩) n cap) (swapL xs i j) ∧ w.grownBy w' (some g) := by
  obtain ⟨hn, _, hC⟩ := Kd.R_reads' h
  obtain ⟨ad, e1, hx1, hx2⟩ := at_p hC i hi0 (by omega)
  obtain ⟨ad', e2, hy1, hy2⟩ := at_p hC j hj0 (by omega)
  injection e1 with e1
  injection e2 with e2
  subst e1 e2
  rw [add_plain] at hx1 hx2 hy1 hy2
  have hf : ∀ k, w.frozen? ⟨g, k, none⟩ = false := by
    obtain ⟨_, inner, ho, _⟩ := h
    obtain ⟨cells, hc⟩ := own_typed ho g (by simp [Value.ownBlock])
    exact fun k => blk_frozen hc k
  refine (swap_walk w g n cap i j (rdp xs i) (rdp xs j) hi0 hi hj0 hj hx1 hx2 hy1 hy2 hf).mono fun e w' ⟨he, hw⟩ => ?_
  subst hw
  obtain ⟨r1, g1⟩ := R_write h i hi0 hi (rdp xs j)
  obtain ⟨r2, g2⟩ := R_write r1 j hj0 hj (rdp xs i)
  exact ⟨he, r2, grown_drew (grown_trans g1 g2)⟩
@[go_sem] theorem method_push (a : Addr) (w : World) : (method 358 157 (.pointer (some a)) "Push").run Tryz.prog w = .ok (204, .pointer (some a)) w := by kernel_rfl
@[go_sem] theorem method_pop (a : Addr) (w : World) : (method 358 157 (.pointer (some a)) "Pop").run Tryz.prog w = .ok (203, .pointer (some a)) w := by kernel_rfl
theorem method_len0 (a : Addr) (w : World) : (method 358 157 (.pointer (some a)) "Len").run Tryz.prog w = (Sem.load .plain a (fun v => .pure ((199 : FuncId), v))).run Tryz.prog w := by kernel_rfl
theorem method_less0 (a : Addr) (w : World) : (method 358 157 (.pointer (some a)) "Less").run Tryz.prog w = (Sem.load .plain a (fun v => .pure ((200 : FuncId), v))).run Tryz.prog w := by kernel_rfl
theorem method_swap0 (a : Addr) (w : World) : (method 358 157 (.pointer (some a)) "Swap").run Tryz.prog w = (Sem.load .plain a (fun v => .pure ((201 : FuncId), v))).run Tryz.prog w := by kernel_rfl
theorem method_len (a : Addr) (w : World) (v : Value) (h : w.cell? a = some v) : (method 358 157 (.pointer (some a)) "Len").run Tryz.prog w = .ok ((199 : FuncId), v) w := by rw [method_len0]; simp [Sem.run, h]
theorem method_less (a : Addr) (w : World) (v : Value) (h : w.cell? a = some v) : (method 358 157 (.pointer (some a)) "Less").run Tryz.prog w = .ok ((200 : FuncId), v) w := by rw [method_less0]; simp [Sem.run, h]
theorem method_swap (a : Addr) (w : World) (v : Value) (h : w.cell? a = some v) : (method 358 157 (.pointer (some a)) "Swap").run Tryz.prog w = .ok ((201 : FuncId), v) w := by rw [method_swap0]; simp [Sem.run, h]
@[go_sem] theorem as_one (v : Value) (w : World) : (Instr.typeAssert (.iface 159 v) 20 159 true).run Tryz.prog w = .ok (.tuple #[v, .bool true]) w := by kernel_rfl
end Go.Proofs.YtiagbkpggeglgaaGreat.Q
namespace Go.Proofs.YtiagbkpggeglgaaGreat.Q
open Go Go.RowKit Go.Proofs.YtiagbkpggeglgaaGreatW.PrintWords Go.Proofs.YtiagbkpggeglgaaGreatW.PrintLast Go.Proofs.YtiagbkpggeglgaaGreatW.PrintMore
set_option linter.unusedVariables false
set_option linter.unusedSimpArgs false
/-- What a call may change: the blocks of S, and what is made anew. -/
structure Eff (S : Nat → Prop) (w w' : World) : Prop where
  os : w'.os = w.os
  tape : w'.tape = w.tape
  output : w'.output = w.output
  size : w.heap.size ≤ w'.heap.size
  block : ∀ k, k < w.heap.size → ¬ S k → w'.heap[k]? = w.heap[k]?
section
variable {S S' : Nat → Prop} {w w1 w2 : World}
theorem Eff.refl (S : Nat → Prop) (w : World) : Eff S w w := ⟨rfl, rfl, rfl, Nat.le_refl _, fun _ _ _ => rfl⟩
theorem Eff.trans (h : Eff S w w1) (k : Eff S' w1 w2) (hs : ∀ i, S' i → S i ∨ w.heap.size ≤ i) : Eff S w w2 :=
  ⟨k.os.trans h.os, k.tape.trans h.tape, k.output.trans h.output, Nat.le_trans h.size k.size, fun i hi hn => (k.block i (Nat.lt_of_lt_of_le hi h.size) (fun h2 => (hs i h2).elim hn (fun h3 => by omega))).trans (h.block i hi hn)⟩
theorem Eff.mono (h : Eff S w w1) (hs : ∀ i, S i → S' i) : Eff S' w w1 := ⟨h.os, h.tape, h.output, h.size, fun i hi hn => h.block i hi (fun h2 => hn (hs i h2))⟩
theorem Eff.of_below (h : Below w.heap.size w w1) : Eff S w w1 := ⟨h.os, h.tape, h.output, h.size, fun i hi _ => h.block i hi⟩
theorem Eff.of_grown {row : Option Nat} (h : w.grownBy w1 row) (hs : ∀ i, row = some i → S i) : Eff S w w1 := ⟨h.os, h.tape, h.output, h.size, fun i hi hn => h.block i hi (fun e => hn (hs i e.symm))⟩
theorem Eff.drew (h : Eff S w w1) : Eff S w w1.drew := ⟨h.os, h.tape, h.output, h.size, h.block⟩
theorem Eff.drawn (h : Eff S w w1) (k : Drawn0 w1 w2) : Eff S w w2 := h.trans (S' := fun _ => False) (Eff.of_below (by
  obtain ⟨n, rfl⟩ := k
  exact pw_below_drewN (Below.refl _ _) n)) (fun _ h => h.elim)
theorem Eff.alloc (h : Eff S w w1) (o : Obj) : Eff S w (w1.alloc o) := h.trans (S' := fun _ => False) (Eff.of_below (below_alloc (Below.refl _ _) o)) (fun _ h => h.elim)
theorem Eff.set (h : Eff S w w1) (p : Addr) (u : Value) (hp : S p.block ∨ w.heap.size ≤ p.block) : Eff S w (w1.setCell p u) := by
  refine h.trans (S' := fun k => k = p.block) ⟨rfl, rfl, rfl, by simp [World.setCell], fun i _ hn => Below.heap_setCell w1 p u i hn⟩ ?_
  rintro i rfl
  exact hp
theorem Eff.below {B : Nat} (h : Eff S w w1) (hB : B ≤ w.heap.size) (hs : ∀ k, S k → B ≤ k) : Below B w w1 := ⟨h.os, h.tape, h.output, h.size, fun k hk => h.block k (by omega) (fun h2 => by have := hs k h2; omega)⟩
end
/-- A queue lies at b: its row is v, whose elements are xs. -/
structure Row (w : World) (base b : Nat) (v : Value) (xs : List (Int × Int)) : Prop where
  blk : w.heap[b]? = some (.cells #[v] 107 (0, 0))
  from_ : base ≤ b
  row : kd.R 159 w base (fun _ => True) v xs
theorem Row.lt {w : World} {base b : Nat} {v : Value} {xs : List (Int × Int)} (h : Row w base b v xs) : b < w.heap.size := by
  rcases Nat.lt_or_ge b w.heap.size with h1 | h1
  · exact h1
  · have := h.blk
    rw [Array.getElem?_eq_none h1] at this
    cases this
theorem Row.cell {w : World} {base b : Nat} {v : Value} {xs : List (Int × Int)} (h : Row w base b v xs) : w.cell? ⟨b, 0, none⟩ = some v := by
  simp [World.cell?, h.blk]
theorem Row.fro {w : World} {base b : Nat} {v : Value} {xs : List (Int × Int)} (h : Row w base b v xs) : w.frozen? ⟨b, 0, none⟩ = false := blk_frozen h.blk 0
theorem Row.ne {w : World} {base b : Nat} {v : Value} {xs : List (Int × Int)} (h : Row w base b v xs) : v.ownBlock ≠ some b := by
  intro e
  have := (Kd.R_types h.row h.blk (by decide)).1 b e
  exact this.2 rfl
theorem Row.own_lt {w : World} {base b : Nat} {v : Value} {xs : List (Int × Int)} (h : Row w base b v xs) : ∀ k, v.ownBlock = some k → k < w.heap.size := Kd.R_lt h.row
theorem Row.own_base {w : World} {base b : Nat} {v : Value} {xs : List (Int × Int)} (h : Row w base b v xs) : ∀ k, v.ownBlock = some k → base ≤ k := Kd.R_base h.row
/-- The queue's own blocks. -/
def Foot (b : Nat) (v : Value) (k : Nat) : Prop := k = b ∨ v.ownBlock = some k
/-- What a call that works on a queue leaves. -/
def Post (w : World) (base b : Nat) (v : Value) (xs : List (Int × Int)) (w' : World) : Prop := ∃ v', Row w' base b v' xs ∧ Eff (Foot b v) w w' ∧ ∀ k, v'.ownBlock = some k → v.ownBlock = some k ∨ w.heap.size ≤ k
theorem Post.refl {w : World} {base b : Nat} {v : Value} {xs : List (Int × Int)} (h : Row w base b v xs) : Post w base b v xs w := ⟨v, h, Eff.refl _ _, fun _ hk => .inl hk⟩
theorem Post.step {w w1 w2 : World} {base b : Nat} {v v1 : Value} {ys : List (Int × Int)} (he : Eff (Foot b v) w w1) (hv : ∀ k, v1.ownBlock = some k → v.ownBlock = some k ∨ w.heap.size ≤ k) (h : Post w1 base b v1 ys w2) : Post w base b v ys w2 := by
  obtain ⟨v2, h2, e2, k2⟩ := h
  refine ⟨v2, h2, he.trans e2 ?_, fun k hk => ?_⟩
  · rintro i (rfl | hi)
    · exact .inl (.inl rfl)
    · exact (hv i hi).imp .inr id
  · rcases k2 k hk with h3 | h3
    · exact hv k h3
    · exact .inr (Nat.le_trans he.size h3)
theorem Row.eff {w w1 : World} {S : Nat → Prop} {base b : Nat} {v : Value} {xs : List (Int × Int)} (h : Row w base b v xs) (he : Eff S w w1) (hb : ¬ S b) (hv : ∀ k, v.ownBlock = some k → ¬ S k) : Row w1 base b v xs := by
  refine ⟨(he.block b h.lt hb).trans h.blk, h.from_, ?_⟩
  refine Kd.R_mono (Kd.R_step (Kd.R_tight rfl h.row) (fun k hk hlt => he.block k hlt (hv k hk.symm))) (fun _ _ => trivial)
end Go.Proofs.YtiagbkpggeglgaaGreat.Q
namespace Go.Proofs.YtiagbkpggeglgaaGreat.Q
open Go Go.RowKit Go.Proofs.YtiagbkpggeglgaaGreatW.PrintWords Go.Proofs.YtiagbkpggeglgaaGreatW.PrintLast Go.Proofs.YtiagbkpggeglgaaGreatW.PrintMore
set_option linter.unusedVariables false
set_option linter.unusedSimpArgs false
theorem set_post {w w1 : World} {base b : Nat} {v v1 : Value} {xs ys : List (Int × Int)} (hR : Row w base b v xs) (he : Eff (Foot b v) w w1) (hb : w1.heap[b]? = w.heap[b]?) (r1 : kd.R 159 w1 base (fun _ => True) v1 ys) (o1 : ∀ k, v1.ownBlock = some k → v.ownBlock = some k ∨ w.heap.size ≤ k) : Post w base b v ys (w1.setCell ⟨b, 0, none⟩ v1) := by
  have hb1 := hb.trans hR.blk
  exact ⟨v1, ⟨one_setCell hb1, hR.from_, Kd.R_mono (Kd.R_far (Kd.R_types r1 hb1 (by decide)) (p := ⟨b, 0, none⟩) (fun _ hk => hk.2) v1) (fun _ _ => trivial)⟩, he.set _ _ (.inl (.inl rfl)), o1⟩
theorem push_post {w w1 : World} {base b : Nat} {v v1 : Value} {o : Obj} {xs ys : List (Int × Int)} (hR : Row w base b v xs) (g1 : (w.drew.alloc o).grownBy w1 v.ownBlock) (r1 : kd.R 159 w1 base (fun _ => True) v1 ys) (o1 : v1.ownBlock = v.ownBlock ∨ ∃ g, v1.ownBlock = some g ∧ (w.drew.alloc o).heap.size ≤ g) : Post w base b v ys (w1.setCell ⟨b, 0, none⟩ v1) := by
  have e0 : Eff (Foot b v) w (w.drew.alloc o) := ((Eff.refl _ w).drew).alloc o
  refine set_post hR (e0.trans (Eff.of_grown g1 (S := fun k => v.ownBlock = some k) (fun _ h => h)) (fun i hi => .inl (.inr hi))) ?_ r1 ?_
  · rw [g1.block b (Nat.lt_of_lt_of_le hR.lt e0.size) (Ne.symm hR.ne)]
    exact (((Eff.refl (fun _ => False) w).drew).alloc o).block b hR.lt id
  · intro k hk
    rcases o1 with h | ⟨g, hg, hle⟩
    · exact .inl (h ▸ hk)
    · rw [hg] at hk
      injection hk with hk
      subst hk
      exact .inr (Nat.le_trans e0.size hle)
theorem hx_alloc (w : World) (o : Obj) : Value.slice (some ⟨w.heap.size + 1, 0, none⟩) 1 1 = Value.slice (some ⟨(w.drew.alloc o).heap.size, 0, none⟩) 1 1 := by simp
set_option maxHeartbeats 4000000 in
set_option maxRecDepth 100000 in
theorem push_calls (w : World) (base b : Nat) (v : Value) (xs : List (Int × Int)) (o : Int × Int) (hR : Row w base b v xs) (hbase : base ≤ w.heap.size) (hl : (xs.length + 1) * 16 ≤ 140737488355328) :
    Calls Tryz.prog 204 #[.pointer (some ⟨b, 0, none⟩), .iface 159 (.agg #[.int .i64 o.1, .int .i64 o.2])] w fun e w' => e = .returned (.tuple #[]) ∧ Post w base b v (xs ++ [o]) w' := by
  have hv := hR.cell
  have hlt := hR.lt
  have hf := hR.fro
  have hne := hR.ne
  have hle : (xs ++ [o]).length = xs.length + 1 := by simp
  go_enter Tryz.func204, Tryz.ntmps204
  go_wp2
  go_region_law (refine Kd.R_append_step kd (W := World.alloc _ _) (w0 := w) base rfl (.tmp 14) (.tmp 16) 105 159 (.agg #[.int .i64 0, .int .i64 0]) 16 rfl rfl rfl rfl (by decide) (by decide) v xs o [.int .i64 o.1, .int .i64 o.2] (fun _ => True) (fun _ => False) rfl (by exact hx_alloc w _) (kd_mk _ base _ o) (fun _ hk => hk.elim) (fun _ _ => trivial) (Kd.R_alloc (Kd.R_drew hR.row) _) (Below.alloc (below_drew (Below.refl _ _)) hbase _) (by first | (simp; done) | (simp; omega)) hl ?_; intro v1 w1 r1 b1 g1 o1; obtain ⟨A1, c1, rfl⟩ := Kd.R_slice r1; have hv1 := (g1.cell_far ⟨b, 0, none⟩ (by simp; omega) (Ne.symm hne)).trans (show (World.alloc _ _).cell? ⟨b, 0, none⟩ = some v from (World.cell?_alloc_past (w := w.drew) _ b 0 hlt).trans hv); have hf1 := (g1.frozen_far ⟨b, 0, none⟩ (by simp; omega) (Ne.symm hne)).trans (show (World.alloc _ _).frozen? ⟨b, 0, none⟩ = false from (World.frozen?_alloc_past (w := w.drew) _ b 0 hlt).trans hf))
  all_goals go_wp2
  all_goals go_end0
  all_goals rw [hle] at r1 o1
  all_goals exact ⟨rfl, push_post hR g1 r1 o1⟩
end Go.Proofs.YtiagbkpggeglgaaGreat.Q
namespace Go.Proofs.YtiagbkpggeglgaaGreat.Q
open Go Go.RowKit Go.Proofs.YtiagbkpggeglgaaGreatW.PrintWords Go.Proofs.YtiagbkpggeglgaaGreatW.PrintLast Go.Proofs.YtiagbkpggeglgaaGreatW.PrintMore
set_option linter.unusedVariables false
set_option linter.unusedSimpArgs false
theorem Post.after {w w1 w2 : World} {base b : Nat} {v : Value} {xs : List (Int × Int)} (h : Post w base b v xs w1) (k : Eff (fun _ => False) w1 w2) : Post w base b v xs w2 := by
  obtain ⟨v', r, e, o⟩ := h
  exact ⟨v', r.eff k id (fun _ _ => id), e.trans k (fun _ h => h.elim), o⟩
theorem Post.alloc {w w1 : World} {base b : Nat} {v : Value} {xs : List (Int × Int)} (h : Post w base b v xs w1) (o : Obj) : Post w base b v xs (w1.alloc o) := h.after ((Eff.refl _ _).alloc o)
theorem Post.drew {w w1 : World} {base b : Nat} {v : Value} {xs : List (Int × Int)} (h : Post w base b v xs w1) : Post w base b v xs w1.drew := h.after ((Eff.refl _ _).drew)
theorem Post.drawn {w w1 w2 : World} {base b : Nat} {v : Value} {xs : List (Int × Int)} (h : Post w base b v xs w1) (k : Drawn0 w1 w2) : Post w base b v xs w2 := h.after ((Eff.refl _ _).drawn k)
theorem take_post {w : World} {base b n c : Nat} {ad : Addr} {xs : List (Int × Int)} (hR : Row w base b (.slice (some ad) n c) xs) (m : Nat) (hm : m ≤ xs.length) : Post w base b (.slice (some ad) n c) (xs.take m) (w.setCell ⟨b, 0, none⟩ (.slice (some ad) m c)) :=
  set_post hR (Eff.refl _ _) rfl (Kd.R_take hR.row hm) (fun _ hk => .inl hk)
set_option maxHeartbeats 4000000 in
set_option maxRecDepth 100000 in
theorem pop_calls (w : World) (base b : Nat) (v : Value) (xs : List (Int × Int)) (hR : Row w base b v xs) (hn : 0 < xs.length) (hm : xs.length < 1000000) :
    Calls Tryz.prog 203 #[.pointer (some ⟨b, 0, none⟩)] w fun e w' => e = .returned (.iface 159 (.agg #[.int .i64 (rdp xs (xs.length - 1)).1, .int .i64 (rdp xs (xs.length - 1)).2])) ∧ Post w base b v (xs.take (xs.length - 1)) w' := by
  have hv := hR.cell
  have hlt := hR.lt
  have hf := hR.fro
  have hne := hR.ne
  obtain ⟨A, c, rfl, hc, hC⟩ := Kd.R_reads hR.row
  obtain ⟨ad, rfl, hx1, hx2⟩ := at_p hC (xs.length - 1) (by omega) (by omega)
  have e1 : ((xs.length : Int) - 1).toNat = xs.length - 1 := by omega
  rw [e1] at hx1 hx2
  generalize rdp xs (xs.length - 1) = x at *
  generalize hnn : xs.length = n at *
  go_enter Tryz.func203, Tryz.ntmps203
  go_wp2
  go_ret
  exact ⟨rfl, (take_post hR (n - 1) (by omega)).alloc _⟩
end Go.Proofs.YtiagbkpggeglgaaGreat.Q
namespace Go.Proofs.YtiagbkpggeglgaaGreat.Q
open Go Go.RowKit Go.Proofs.YtiagbkpggeglgaaGreatW.PrintWords Go.Proofs.YtiagbkpggeglgaaGreatW.PrintLast Go.Proofs.YtiagbkpggeglgaaGreatW.PrintMore
set_option linter.unusedVariables false
set_option linter.unusedSimpArgs false
theorem Row.form {w : World} {base b : Nat} {v : Value} {xs : List (Int × Int)} (h : Row w base b v xs) (hn : 0 < xs.length) : ∃ g cap, v = .slice (some ⟨g, 0, none⟩) xs.length cap ∧ xs.length ≤ cap := by
  obtain ⟨_, inner, ho, _⟩ := h.row
  obtain ⟨g, cap, e, _⟩ := ho.form hn
  obtain ⟨A, c, e2, hc, _⟩ := Kd.R_reads h.row
  subst e
  injection e2 with _ _ e3
  subst e3
  exact ⟨g, cap, rfl, hc⟩
theorem Row.after {w w1 : World} {base b : Nat} {v : Value} {xs : List (Int × Int)} (h : Row w base b v xs) (k : Drawn0 w w1) : Row w1 base b v xs := h.eff ((Eff.refl (fun _ => False) _).drawn k) id (fun _ _ => id)
theorem less_row {w : World} {base b : Nat} {v : Value} {xs : List (Int × Int)} (h : Row w base b v xs) (i j : Int) (hi0 : 0 ≤ i) (hi : i < xs.length) (hj0 : 0 ≤ j) (hj : j < xs.length) :
    Calls Tryz.prog 200 #[v, .int .i64 i, .int .i64 j] w fun e w' => e = .returned (.bool (lessB (rdp xs i) (rdp xs j))) ∧ Drawn0 w w' := by
  obtain ⟨A, c, rfl, hc, hC⟩ := Kd.R_reads h.row
  exact less_calls w A _ c xs i j hC hi0 hi hj0 hj
theorem swap_row {w : World} {base b : Nat} {v : Value} {xs : List (Int × Int)} (h : Row w base b v xs) (i j : Int) (hi0 : 0 ≤ i) (hi : i < xs.length) (hj0 : 0 ≤ j) (hj : j < xs.length) :
    Calls Tryz.prog 201 #[v, .int .i64 i, .int .i64 j] w fun e w' => e = .returned (.tuple #[]) ∧ Row w' base b v (swapL xs i j) ∧ Eff (Foot b v) w w' := by
  obtain ⟨g, cap, rfl, hc⟩ := h.form (by omega)
  refine (swap_calls w base g _ cap _ xs i j h.row hi0 hi hj0 hj).mono fun e w' ⟨he, hr, hg⟩ => ?_
  refine ⟨he, ⟨?_, h.from_, hr⟩, Eff.of_grown hg (fun i hi => .inr hi)⟩
  rw [hg.block b h.lt (fun e => h.ne e.symm)]
  exact h.blk
/-- heap.up, as the list has it. -/
def upL : Nat → List (Int × Int) → Nat → List (Int × Int)
  | 0, xs, _ => xs
  | f + 1, xs, j => if j = 0 then xs else if lessB (rdp xs j) (rdp xs ((j - 1) / 2 : Nat)) then upL f (swapL xs ((j - 1) / 2 : Nat) j) ((j - 1) / 2) else xs
set_option maxHeartbeats 4000000 in
set_option maxRecDepth 100000 in
theorem up_calls (w : World) (base b : Nat) (v : Value) (xs : List (Int × Int)) (j : Nat) (hR : Row w base b v xs) (hj : j < xs.length) (hm : xs.length < 1000000) :
    Calls Tryz.prog 136 #[.iface 157 (.pointer (some ⟨b, 0, none⟩)), .int .i64 j] w fun e w' => e = .returned (.tuple #[]) ∧ Row w' base b v (upL (j + 1) xs j) ∧ Eff (Foot b v) w w' := by
  go_enter Tryz.func136, Tryz.ntmps136
  go_wp2
  go_loopg [1] (j + 1) (fun k s1 wr => ∃ (j' : Nat) (xs' : List (Int × Int)), s1 = .int .i64 j' ∧ Aside0 (j' < k ∧ j' < xs'.length ∧ xs'.length = xs.length ∧ upL k xs' j' = upL (j + 1) xs j) ∧ Aside0 (Row wr base b v xs' ∧ Eff (Foot b v) w wr))
  case atStart => exact ⟨j, xs, rfl, Aside0.mk ⟨by omega, hj, rfl, rfl⟩, Aside0.mk ⟨hR, Eff.refl _ _⟩⟩
  case round =>
    obtain ⟨j', xs', rfl, A1, A2⟩ := hrel
    obtain ⟨h1, h2, h3, h4⟩ := A1.out
    obtain ⟨r1, e1⟩ := A2.out
    clear A1 A2
    by_cases hz : j' = 0
    · subst hz
      have A3 := Aside0.mk (And.intro h1 (And.intro h2 (And.intro h3 (And.intro h4 (And.intro r1 e1)))))
      clear h1 h2 h3 h4 r1 e1 hR
      go_wp2
      go_end0
      obtain ⟨h1, h2, h3, h4, r1, e1⟩ := A3.out
      obtain ⟨k', rfl⟩ : ∃ k', gk = k' + 1 := ⟨gk - 1, by omega⟩
      rw [← h4]
      exact ⟨rfl, by simpa [upL] using r1, e1⟩
    · have A3 := Aside0.mk (And.intro h1 (And.intro h2 (And.intro h3 (And.intro h4 (And.intro r1 e1)))))
      obtain ⟨i, hi⟩ : ∃ i : Nat, i = (j' - 1) / 2 := ⟨_, rfl⟩
      have q1 : ((j' : Int) - 1).tdiv 2 = (i : Int) := by rw [show ((j' : Int) - 1) = ((j' - 1 : Nat) : Int) by omega]; rw [hi]; exact (Int.ofNat_tdiv _ _).symm
      have q2 : ((i : Int) == (j' : Int)) = false := beq_eq_false_iff_ne.2 (by omega)
      have hv := r1.cell
      have q3 : wrap64 (i : Int) = i := by unfold wrap64; omega
      have hL := method_less ⟨b, 0, none⟩ wr v hv
      have B : j' < 1000000 := by omega
      have A4 := Aside0.mk hi
      obtain ⟨lb, hlb⟩ : ∃ lb, lb = lessB (rdp xs' j') (rdp xs' i) := ⟨_, rfl⟩
      have A5 := Aside0.mk hlb
      have C := less_row r1 j' i (by omega) (by omega) (by omega) (by omega)
      rw [← hlb] at C
      clear h1 h2 h3 h4 r1 e1 hR hi hlb
      obtain ⟨k', rfl⟩ : ∃ k', gk = k' + 1 := ⟨gk - 1, by have := A3.out; omega⟩
      cases lb
      · go_wp2_with (go_at_call 200; refine C.mono ?_; rintro e w1 ⟨rfl, d1⟩)
        go_end0
        obtain ⟨h1, h2, h3, h4, r1, e1⟩ := A3.out
        have hlb := A5.out
        have hi := A4.out
        rw [← h4]
        refine ⟨rfl, ?_, e1.drawn d1⟩
        unfold upL
        rw [if_neg hz, ← hi, ← hlb]
        exact r1.after d1
      · go_wp2_with (first | (go_at_call 200; refine C.mono ?_; rintro e w1 ⟨rfl, d1⟩; have hS := method_swap ⟨b, 0, none⟩ w1 v (Row.cell (Row.after A3.out.2.2.2.2.1 d1))) | (go_at_call 201; refine (swap_row (Row.after A3.out.2.2.2.2.1 d1) i j' (by omega) (by have := A3.out; have := A4.out; omega) (by omega) (by have := A3.out; omega)).mono ?_; rintro e w2 ⟨rfl, r2, e2⟩))
        go_roundg k'
        case measure => omega
        case rel =>
          obtain ⟨h1, h2, h3, h4, r1, e1⟩ := A3.out
          have hlb := A5.out
          have hi := A4.out
          refine ⟨i, swapL xs' i j', rfl, Aside0.mk ⟨by omega, by rw [swapL_length]; omega, by rw [swapL_length]; omega, ?_⟩, Aside0.mk ⟨r2, (e1.drawn d1).trans e2 (fun _ h => .inl h)⟩⟩
          rw [← h4]
          conv => rhs; unfold upL
          rw [if_neg hz, ← hi, ← hlb, if_pos rfl]
end Go.Proofs.YtiagbkpggeglgaaGreat.Q
namespace Go.Proofs.YtiagbkpggeglgaaGreat.Q
open Go Go.RowKit Go.Proofs.YtiagbkpggeglgaaGreatW.PrintWords Go.Proofs.YtiagbkpggeglgaaGreatW.PrintLast Go.Proofs.YtiagbkpggeglgaaGreatW.PrintMore
set_option linter.unusedVariables false
set_option linter.unusedSimpArgs false
def childL (xs : List (Int × Int)) (i n : Nat) : Nat := if 2 * i + 2 < n ∧ lessB (rdp xs (2 * i + 2 : Nat)) (rdp xs (2 * i + 1 : Nat)) = true then 2 * i + 2 else 2 * i + 1
/-- heap.down, as the list has it. -/
def downL : Nat → List (Int × Int) → Nat → Nat → List (Int × Int)
  | 0, xs, _, _ => xs
  | f + 1, xs, i, n => if n ≤ 2 * i + 1 then xs else if lessB (rdp xs (childL xs i n)) (rdp xs i) then downL f (swapL xs i (childL xs i n)) (childL xs i n) n else xs
set_option maxHeartbeats 4000000 in
set_option maxRecDepth 100000 in
theorem down_calls (w : World) (base b : Nat) (v : Value) (xs : List (Int × Int)) (i n : Nat) (hR : Row w base b v xs) (hn : n ≤ xs.length) (hi : i < xs.length) (hm : xs.length < 1000000) :
    Calls Tryz.prog 137 #[.iface 157 (.pointer (some ⟨b, 0, none⟩)), .int .i64 i, .int .i64 n] w fun e w' => (∃ r, e = .returned (.bool r)) ∧ Row w' base b v (downL (n + 1) xs i n) ∧ Eff (Foot b v) w w' := by
  go_enter Tryz.func137, Tryz.ntmps137
  go_wp2
  go_loopg [7] (n + 1) (fun k s1 wr => ∃ (i' : Nat) (xs' : List (Int × Int)), s1 = .int .i64 i' ∧ Aside0 (downL k xs' i' n = downL (n + 1) xs i n) ∧ n < i' + k ∧ i' < xs'.length ∧ xs'.length = xs.length ∧ Row wr base b v xs' ∧ Eff (Foot b v) w wr)
  case atStart => exact ⟨i, xs, rfl, Aside0.mk rfl, by omega, hi, rfl, hR, Eff.refl _ _⟩
  case round =>
    obtain ⟨i', xs', rfl, A3, h1, h2, h3, r1, e1⟩ := hrel
    obtain ⟨i1, x1⟩ : ∃ i1 : Nat, 2 * i' + 1 = i1 := ⟨_, rfl⟩
    obtain ⟨i2, x2⟩ : ∃ i2 : Nat, 2 * i' + 2 = i2 := ⟨_, rfl⟩
    have p1 : 2 * (i' : Int) + 1 = i1 := by omega
    have p2 : (i1 : Int) + 1 = i2 := by omega
    have B : i' < 1000000 := by omega
    have B' : i1 < 2000003 := by omega
    have B'' : i2 < 2000003 := by omega
    have hL := method_less ⟨b, 0, none⟩ wr v r1.cell
    clear hR hi
    by_cases hz : n ≤ i1
    · go_wp2
      go_ret
      refine ⟨⟨_, rfl⟩, ?_, e1⟩
      rw [← A3.out]
      cases gk with
      | zero => exact r1
      | succ gk => rw [downL, if_pos (by omega)]; exact r1
    · obtain ⟨k', rfl⟩ : ∃ k', gk = k' + 1 := ⟨gk - 1, by omega⟩
      have A4 : Aside0 (¬ n ≤ 2 * i' + 1) := Aside0.mk (by omega)
      by_cases h4 : i2 < n
      · obtain ⟨l1, q1⟩ : ∃ l1, lessB (rdp xs' i2) (rdp xs' i1) = l1 := ⟨_, rfl⟩
        cases l1
        · skip
          have hc : Aside0 (childL xs' i' n = i1) := Aside0.mk (by unfold childL; rw [x1, x2]; first | exact if_pos ⟨by omega, q1⟩ | exact if_neg (by rintro ⟨h1, h2⟩; omega) | exact if_neg (by rintro ⟨h1, h2⟩; rw [q1] at h2; cases h2))
          obtain ⟨l2, q2⟩ : ∃ l2, lessB (rdp xs' i1) (rdp xs' i') = l2 := ⟨_, rfl⟩
          have B2 := Aside0.mk q2
          cases l2
          · go_wp2_with (first | (go_at_call 200; refine (less_row (by assumption) _ _ (by omega) (by omega) (by omega) (by omega)).mono ?_; rintro e w1 ⟨rfl, d1⟩; have r1 := Row.after r1 d1; have e1 := Eff.drawn e1 d1; have hL := method_less ⟨b, 0, none⟩ w1 v r1.cell; have hS := method_swap ⟨b, 0, none⟩ w1 v r1.cell) | (go_at_call 201; refine (swap_row (by assumption) _ _ (by omega) (by omega) (by omega) (by omega)).mono ?_; rintro e w2 ⟨rfl, r2, e2⟩))
            go_ret
            refine ⟨⟨_, rfl⟩, ?_, e1⟩
            rw [← A3.out, downL, if_neg A4.out, hc.out, B2.out]
            exact r1
          · go_wp2_with (first | (go_at_call 200; refine (less_row (by assumption) _ _ (by omega) (by omega) (by omega) (by omega)).mono ?_; rintro e w1 ⟨rfl, d1⟩; have r1 := Row.after r1 d1; have e1 := Eff.drawn e1 d1; have hL := method_less ⟨b, 0, none⟩ w1 v r1.cell; have hS := method_swap ⟨b, 0, none⟩ w1 v r1.cell) | (go_at_call 201; refine (swap_row (by assumption) _ _ (by omega) (by omega) (by omega) (by omega)).mono ?_; rintro e w2 ⟨rfl, r2, e2⟩))
            go_roundg k'
            case measure => omega
            case rel =>
              refine ⟨i1, swapL xs' i' i1, rfl, Aside0.mk ?_, by omega, by rw [swapL_length]; omega, by rw [swapL_length]; omega, r2, e1.trans e2 (fun _ h => .inl h)⟩
              rw [← A3.out]
              conv => rhs; rw [downL, if_neg A4.out, hc.out, B2.out, if_pos rfl]
        · skip
          have hc : Aside0 (childL xs' i' n = i2) := Aside0.mk (by unfold childL; rw [x1, x2]; first | exact if_pos ⟨by omega, q1⟩ | exact if_neg (by rintro ⟨h1, h2⟩; omega) | exact if_neg (by rintro ⟨h1, h2⟩; rw [q1] at h2; cases h2))
          obtain ⟨l2, q2⟩ : ∃ l2, lessB (rdp xs' i2) (rdp xs' i') = l2 := ⟨_, rfl⟩
          have B2 := Aside0.mk q2
          cases l2
          · go_wp2_with (first | (go_at_call 200; refine (less_row (by assumption) _ _ (by omega) (by omega) (by omega) (by omega)).mono ?_; rintro e w1 ⟨rfl, d1⟩; have r1 := Row.after r1 d1; have e1 := Eff.drawn e1 d1; have hL := method_less ⟨b, 0, none⟩ w1 v r1.cell; have hS := method_swap ⟨b, 0, none⟩ w1 v r1.cell) | (go_at_call 201; refine (swap_row (by assumption) _ _ (by omega) (by omega) (by omega) (by omega)).mono ?_; rintro e w2 ⟨rfl, r2, e2⟩))
            go_ret
            refine ⟨⟨_, rfl⟩, ?_, e1⟩
            rw [← A3.out, downL, if_neg A4.out, hc.out, B2.out]
            exact r1
          · go_wp2_with (first | (go_at_call 200; refine (less_row (by assumption) _ _ (by omega) (by omega) (by omega) (by omega)).mono ?_; rintro e w1 ⟨rfl, d1⟩; have r1 := Row.after r1 d1; have e1 := Eff.drawn e1 d1; have hL := method_less ⟨b, 0, none⟩ w1 v r1.cell; have hS := method_swap ⟨b, 0, none⟩ w1 v r1.cell) | (go_at_call 201; refine (swap_row (by assumption) _ _ (by omega) (by omega) (by omega) (by omega)).mono ?_; rintro e w2 ⟨rfl, r2, e2⟩))
            go_roundg k'
            case measure => omega
            case rel =>
              refine ⟨i2, swapL xs' i' i2, rfl, Aside0.mk ?_, by omega, by rw [swapL_length]; omega, by rw [swapL_length]; omega, r2, e1.trans e2 (fun _ h => .inl h)⟩
              rw [← A3.out]
              conv => rhs; rw [downL, if_neg A4.out, hc.out, B2.out, if_pos rfl]
      · skip
        have hc : Aside0 (childL xs' i' n = i1) := Aside0.mk (by unfold childL; rw [x1, x2]; first | exact if_pos ⟨by omega, q1⟩ | exact if_neg (by rintro ⟨h1, h2⟩; omega) | exact if_neg (by rintro ⟨h1, h2⟩; rw [q1] at h2; cases h2))
        obtain ⟨l2, q2⟩ : ∃ l2, lessB (rdp xs' i1) (rdp xs' i') = l2 := ⟨_, rfl⟩
        have B2 := Aside0.mk q2
        cases l2
        · go_wp2_with (first | (go_at_call 200; refine (less_row (by assumption) _ _ (by omega) (by omega) (by omega) (by omega)).mono ?_; rintro e w1 ⟨rfl, d1⟩; have r1 := Row.after r1 d1; have e1 := Eff.drawn e1 d1; have hL := method_less ⟨b, 0, none⟩ w1 v r1.cell; have hS := method_swap ⟨b, 0, none⟩ w1 v r1.cell) | (go_at_call 201; refine (swap_row (by assumption) _ _ (by omega) (by omega) (by omega) (by omega)).mono ?_; rintro e w2 ⟨rfl, r2, e2⟩))
          go_ret
          refine ⟨⟨_, rfl⟩, ?_, e1⟩
          rw [← A3.out, downL, if_neg A4.out, hc.out, B2.out]
          exact r1
        · go_wp2_with (first | (go_at_call 200; refine (less_row (by assumption) _ _ (by omega) (by omega) (by omega) (by omega)).mono ?_; rintro e w1 ⟨rfl, d1⟩; have r1 := Row.after r1 d1; have e1 := Eff.drawn e1 d1; have hL := method_less ⟨b, 0, none⟩ w1 v r1.cell; have hS := method_swap ⟨b, 0, none⟩ w1 v r1.cell) | (go_at_call 201; refine (swap_row (by assumption) _ _ (by omega) (by omega) (by omega) (by omega)).mono ?_; rintro e w2 ⟨rfl, r2, e2⟩))
          go_roundg k'
          case measure => omega
          case rel =>
            refine ⟨i1, swapL xs' i' i1, rfl, Aside0.mk ?_, by omega, by rw [swapL_length]; omega, by rw [swapL_length]; omega, r2, e1.trans e2 (fun _ h => .inl h)⟩
            rw [← A3.out]
            conv => rhs; rw [downL, if_neg A4.out, hc.out, B2.out, if_pos rfl]
end Go.Proofs.YtiagbkpggeglgaaGreat.Q
namespace Go.Proofs.YtiagbkpggeglgaaGreat.Q
open Go Go.RowKit Go.Proofs.YtiagbkpggeglgaaGreatW.PrintWords Go.Proofs.YtiagbkpggeglgaaGreatW.PrintLast Go.Proofs.YtiagbkpggeglgaaGreatW.PrintMore
set_option linter.unusedVariables false
set_option linter.unusedSimpArgs false
def heapPushL (xs : List (Int × Int)) (o : Int × Int) : List (Int × Int) := upL (xs.length + 1) (xs ++ [o]) xs.length
theorem len_row {w : World} {base b : Nat} {v : Value} {xs : List (Int × Int)} (h : Row w base b v xs) :
    Calls Tryz.prog 199 #[v] w fun e w' => e = .returned (.int .i64 xs.length) ∧ w' = w := by
  obtain ⟨A, c, rfl⟩ := Kd.R_slice h.row
  clear h
  go_enter Tryz.func199, Tryz.ntmps199
  go_wp2
  go_ret
  exact ⟨rfl, rfl⟩
theorem Post.lift {w w1 w2 : World} {base b : Nat} {v v1 : Value} {ys : List (Int × Int)} (e1 : Eff (Foot b v) w w1) (o1 : ∀ k, v1.ownBlock = some k → v.ownBlock = some k ∨ w.heap.size ≤ k) (r2 : Row w2 base b v1 ys) (e2 : Eff (Foot b v1) w1 w2) : Post w base b v ys w2 :=
  Post.step e1 o1 ⟨v1, r2, e2, fun _ hk => .inl hk⟩
set_option maxHeartbeats 4000000 in
set_option maxRecDepth 100000 in
theorem heapPush_calls (w : World) (base b : Nat) (v : Value) (xs : List (Int × Int)) (o : Int × Int) (hR : Row w base b v xs) (hbase : base ≤ w.heap.size) (hm : xs.length < 900000) :
    Calls Tryz.prog 104 #[.iface 157 (.pointer (some ⟨b, 0, none⟩)), .iface 159 (.agg #[.int .i64 o.1, .int .i64 o.2])] w fun e w' => e = .returned (.tuple #[]) ∧ Post w base b v (heapPushL xs o) w' := by
  have C := push_calls w base b v xs o hR hbase (by omega)
  have hl : (xs ++ [o]).length = xs.length + 1 := by simp
  have A := Aside0.mk hR
  clear hR
  go_enter Tryz.func104, Tryz.ntmps104
  go_wp2_with (first | (go_at_call 204; refine C.mono ?_; rintro e w1 ⟨rfl, v1, r1, e1, o1⟩; have A1 := Aside0.mk o1; clear o1; have hL := method_len ⟨b, 0, none⟩ w1 v1 r1.cell) | (go_at_call 199; refine (len_row r1).mono ?_; rintro e w2 ⟨rfl, hw2⟩; subst hw2) | (go_at_call 136; refine (up_calls _ base b _ (xs ++ [o]) xs.length (by assumption) (by omega) (by omega)).mono ?_; rintro e w3 ⟨rfl, r3, e3⟩))
  go_end0
  exact ⟨rfl, Post.lift e1 A1.out r3 e3⟩
def heapPopL (xs : List (Int × Int)) : List (Int × Int) := downL (xs.length - 1 + 1) (swapL xs (0 : Nat) (xs.length - 1 : Nat)) 0 (xs.length - 1)
theorem upL_length : ∀ (f : Nat) (xs : List (Int × Int)) (j : Nat), (upL f xs j).length = xs.length
  | 0, _, _ => rfl
  | f + 1, xs, j => by
    unfold upL
    split
    · rfl
    · split
      · rw [upL_length, swapL_length]
      · rfl
theorem downL_length : ∀ (f : Nat) (xs : List (Int × Int)) (i n : Nat), (downL f xs i n).length = xs.length
  | 0, _, _, _ => rfl
  | f + 1, xs, i, n => by
    unfold downL
    split
    · rfl
    · split
      · rw [downL_length, swapL_length]
      · rfl
theorem heapPopL_length (xs : List (Int × Int)) : (heapPopL xs).length = xs.length := by unfold heapPopL; rw [downL_length, swapL_length]
set_option maxHeartbeats 4000000 in
set_option maxRecDepth 100000 in
theorem heapPop_calls (w : World) (base b : Nat) (v : Value) (xs : List (Int × Int)) (hR : Row w base b v xs) (hn : 0 < xs.length) (hm : xs.length < 900000) :
    Calls Tryz.prog 106 #[.iface 157 (.pointer (some ⟨b, 0, none⟩))] w fun e w' => (∃ u, e = .returned u) ∧ Post w base b v ((heapPopL xs).take (xs.length - 1)) w' := by
  have hl := heapPopL_length xs
  obtain ⟨n, hx⟩ : ∃ n, xs.length = n + 1 := ⟨xs.length - 1, by omega⟩
  have p1 : (xs.length : Int) - 1 = (n : Nat) := by omega
  have A := Aside0.mk hx
  have hls : (swapL xs (0 : Nat) (n : Nat)).length = xs.length := swapL_length _ _ _
  have hL := method_len ⟨b, 0, none⟩ w v hR.cell
  have hS := method_swap ⟨b, 0, none⟩ w v hR.cell
  have B : n < 1000000 := by omega
  go_enter Tryz.func106, Tryz.ntmps106
  go_wp2_with (first | (go_at_call 199; refine (len_row hR).mono ?_; rintro e w2 ⟨rfl, hw2⟩; subst hw2) | (go_at_call 201; refine (swap_row hR (0 : Nat) (n : Nat) (by omega) (by omega) (by omega) (by omega)).mono ?_; rintro e w2 ⟨rfl, r2, e2⟩) | (go_at_call 137; refine (down_calls _ base b v _ 0 n r2 (by omega) (by omega) (by omega)).mono ?_; rintro e w3 ⟨⟨q, rfl⟩, r3, e3⟩) | (go_at_call 203; refine (pop_calls _ base b v _ r3 (by rw [downL_length]; omega) (by rw [downL_length]; omega)).mono ?_; rintro e w4 ⟨rfl, P4⟩))
  go_ret
  refine ⟨⟨_, rfl⟩, ?_⟩
  have eq : heapPopL xs = downL (n + 1) (swapL xs (0 : Nat) (n : Nat)) 0 n := by unfold heapPopL; rw [A.out]; rfl
  rw [eq, A.out]
  rw [downL_length, hls, A.out] at P4
  exact Post.step (e2.trans e3 (fun _ h => .inl h)) (fun _ hk => .inl hk) P4
def initL : Nat → List (Int × Int) → Nat → List (Int × Int)
  | 0, xs, _ => xs
  | k + 1, xs, n => initL k (downL (n + 1) xs k n) n
theorem initL_length : ∀ (k : Nat) (xs : List (Int × Int)) (n : Nat), (initL k xs n).length = xs.length
  | 0, _, _ => rfl
  | k + 1, xs, n => by rw [initL, initL_length, downL_length]
end Go.Proofs.YtiagbkpggeglgaaGreat.Q
namespace Go.Proofs.YtiagbkpggeglgaaGreat.Q
open Go Go.RowKit Go.Proofs.YtiagbkpggeglgaaGreatW.PrintWords Go.Proofs.YtiagbkpggeglgaaGreatW.PrintLast Go.Proofs.YtiagbkpggeglgaaGreatW.PrintMore
set_option linter.unusedVariables false
set_option linter.unusedSimpArgs false
set_option maxHeartbeats 4000000 in
set_option maxRecDepth 100000 in
theorem qpush_calls (w : World) (base b : Nat) (v : Value) (xs : List (Int × Int)) (at_ id : Int) (hR : Row w base b v xs) (hbase : base ≤ w.heap.size) (hm : xs.length < 900000) :
    Calls Tryz.prog 46 #[.pointer (some ⟨b, 0, none⟩), .int .i64 at_, .int .i64 id] w fun e w' => e = .returned (.tuple #[]) ∧ Post w base b v (heapPushL xs (at_, id)) w' := by
  have hlt := hR.lt
  go_enter Tryz.func46, Tryz.ntmps46
  go_wp2_with (first | (go_at_call 104; refine (heapPush_calls _ base b v xs (at_, id) (by assumption) (by omega) (by omega)).mono ?_; rintro e w1 ⟨rfl, P1⟩))
  go_end0
  exact ⟨rfl, P1⟩
set_option maxHeartbeats 4000000 in
set_option maxRecDepth 100000 in
theorem qlen_calls (w : World) (base b : Nat) (v : Value) (xs : List (Int × Int)) (hR : Row w base b v xs) :
    Calls Tryz.prog 47 #[.pointer (some ⟨b, 0, none⟩)] w fun e w' => e = .returned (.int .i64 xs.length) ∧ Drawn0 w w' := by
  obtain ⟨A, c, rfl⟩ := Kd.R_slice hR.row
  have hv := hR.cell
  clear hR
  go_enter Tryz.func47, Tryz.ntmps47
  go_wp2
  go_ret
  exact ⟨rfl, Drawn0.refl _⟩
set_option maxHeartbeats 4000000 in
set_option maxRecDepth 100000 in
theorem qpeek_calls (w : World) (base b : Nat) (v : Value) (xs : List (Int × Int)) (hR : Row w base b v xs) :
    Calls Tryz.prog 105 #[.pointer (some ⟨b, 0, none⟩)] w fun e w' => e = .returned (.tuple #[.int .i64 (rdp xs (0 : Nat)).1, .int .i64 (rdp xs (0 : Nat)).2, .bool (decide (0 < xs.length))]) ∧ Drawn0 w w' := by
  cases xs with
  | nil =>
    have hv := hR.cell
    go_enter Tryz.func105, Tryz.ntmps105
    go_wp2_with (go_at_call 47; refine (qlen_calls _ base b v _ hR).mono ?_; rintro e w1 ⟨rfl, d1⟩)
    go_ret3
    exact ⟨rfl, d1⟩
  | cons x xs =>
    obtain ⟨g, cap, rfl, hc⟩ := hR.form (by simp)
    have C := qlen_calls w base b _ _ hR
    obtain ⟨n, hn⟩ : ∃ n, n = (x :: xs).length := ⟨_, rfl⟩
    have hn0 : 0 < n := by rw [hn]; simp
    have F : ∀ w1, Drawn0 w w1 → w1.cell? ⟨b, 0, none⟩ = some (.slice (some ⟨g, 0, none⟩) n cap) ∧ w1.cell? ⟨g, 0, none⟩ = some (.int .i64 x.1) ∧ w1.cell? ⟨g, 1, none⟩ = some (.int .i64 x.2) := by
      intro w1 d1
      have r1 := Row.after hR d1
      obtain ⟨ad, ea, hx1, hx2⟩ := at_p (Kd.R_reads' r1.row).2.2 0 (by omega) (by simp)
      injection ea with ea
      subst ea
      exact ⟨hn ▸ r1.cell, hx1, hx2⟩
    rw [← hn] at C hc ⊢
    have e1 : decide (0 < n) = true := decide_eq_true hn0
    have e2 : rdp (x :: xs) (0 : Nat) = x := rfl
    have e3 : ((n : Int) == 0) = false := beq_eq_false_iff_ne.2 (by omega)
    have e4 : (0 < n) = True := eq_true hn0
    rw [e1, e2]
    clear hR hn e1 e2
    go_enter Tryz.func105, Tryz.ntmps105
    go_wp2_with (go_at_call 47; refine C.mono ?_; rintro e w1 ⟨rfl, d1⟩; obtain ⟨hv, hx1, hx2⟩ := F w1 d1; clear F C)
    go_quiet (fail)
    go_wp2
    go_ret3
    exact ⟨rfl, d1.step _⟩
def popL (xs : List (Int × Int)) : List (Int × Int) := (heapPopL xs).take (xs.length - 1)
theorem popL_nil : popL [] = [] := by simp [popL]
theorem popL_length (xs : List (Int × Int)) : (popL xs).length = xs.length - 1 := by
  unfold popL
  rw [List.length_take, heapPopL_length]
  omega
set_option maxHeartbeats 4000000 in
set_option maxRecDepth 100000 in
theorem qpop_calls (w : World) (base b : Nat) (v : Value) (xs : List (Int × Int)) (hR : Row w base b v xs) (hm : xs.length < 900000) :
    Calls Tryz.prog 48 #[.pointer (some ⟨b, 0, none⟩)] w fun e w' => e = .returned (.tuple #[.int .i64 (rdp xs (0 : Nat)).1, .int .i64 (rdp xs (0 : Nat)).2, .bool (decide (0 < xs.length))]) ∧ Post w base b v (popL xs) w' := by
  cases xs with
  | nil =>
    have C := qpeek_calls w base b v _ hR
    go_enter Tryz.func48, Tryz.ntmps48
    go_wp2_with (first | (go_at_call 105; refine C.mono ?_; rintro e w1 ⟨rfl, d1⟩))
    go_ret3
    exact ⟨rfl, (Post.refl hR).drawn d1⟩
  | cons x xs =>
    have C := qpeek_calls w base b _ _ hR
    obtain ⟨n, hn⟩ : ∃ n, n = (x :: xs).length := ⟨_, rfl⟩
    have hn0 : 0 < n := by rw [hn]; simp
    have e1 : decide (0 < n) = true := decide_eq_true hn0
    have H : ∀ w1, Drawn0 w w1 → Calls Tryz.prog 106 #[.iface 157 (.pointer (some ⟨b, 0, none⟩))] w1 fun e w' => (∃ u, e = .returned u) ∧ Post w base b v (popL (x :: xs)) w' := by
      intro w1 d1
      refine (heapPop_calls w1 base b v _ (Row.after hR d1) (by simp) hm).mono fun e w' ⟨he, hP⟩ => ⟨he, ?_⟩
      exact Post.step ((Eff.refl _ _).drawn d1) (fun _ hk => .inl hk) hP
    rw [← hn, e1] at C
    rw [← hn, e1]
    clear hR hm hn e1 hn0
    go_enter Tryz.func48, Tryz.ntmps48
    go_wp2_with (first | (go_at_call 105; refine C.mono ?_; rintro e w1 ⟨rfl, d1⟩) | (go_at_call 106; refine (H _ d1).mono ?_; rintro e w2 ⟨⟨u, rfl⟩, P2⟩))
    go_ret3
    exact ⟨rfl, P2⟩
end Go.Proofs.YtiagbkpggeglgaaGreat.Q
namespace Go.Proofs.YtiagbkpggeglgaaGreat.Q
open Go Go.RowKit Go.Proofs.YtiagbkpggeglgaaGreatW.PrintWords Go.Proofs.YtiagbkpggeglgaaGreatW.PrintLast Go.Proofs.YtiagbkpggeglgaaGreatW.PrintMore
set_option linter.unusedVariables false
set_option linter.unusedSimpArgs false
theorem heapPushL_length (xs : List (Int × Int)) (o : Int × Int) : (heapPushL xs o).length = xs.length + 1 := by unfold heapPushL; rw [upL_length]; simp
/-- A queue that was made since w. -/
def New (w W : World) (b : Nat) (xs : List (Int × Int)) : Prop := ∃ v, Row W w.heap.size b v xs ∧ Eff (fun _ => False) w W
theorem New.eff {w W : World} {b : Nat} {xs : List (Int × Int)} (h : New w W b xs) : Eff (fun _ => False) w W := h.choose_spec.2
theorem New.after {w W W' : World} {b : Nat} {xs : List (Int × Int)} (h : New w W b xs) (k : Eff (fun _ => False) W W') : New w W' b xs := by
  obtain ⟨v, r, e⟩ := h
  exact ⟨v, r.eff k id (fun _ _ => id), e.trans k (fun _ h => h.elim)⟩
theorem New.alloc {w W : World} {b : Nat} {xs : List (Int × Int)} (h : New w W b xs) (o : Obj) : New w (W.alloc o) b xs := h.after ((Eff.refl _ _).alloc o)
theorem New.drew {w W : World} {b : Nat} {xs : List (Int × Int)} (h : New w W b xs) : New w W.drew b xs := h.after ((Eff.refl _ _).drew)
theorem New.drewN {w W : World} {b : Nat} {xs : List (Int × Int)} (h : New w W b xs) (n : Nat) : New w (W.drewN n) b xs := h.after ((Eff.refl _ _).drawn ⟨_, rfl⟩)
theorem New.post {w W W' : World} {b : Nat} {xs : List (Int × Int)} (e : Eff (fun _ => False) w W) {v : Value} (r : Row W w.heap.size b v xs) {ys : List (Int × Int)} (h : Post W w.heap.size b v ys W') : New w W' b ys := by
  obtain ⟨v', r', e', o⟩ := h
  refine ⟨v', r', e.trans e' ?_⟩
  rintro i (rfl | hi)
  · exact .inr r.from_
  · exact .inr (r.own_base i hi)
theorem New.push {w W : World} {b : Nat} {xs : List (Int × Int)} (h : New w W b xs) (hm : xs.length < 900000) (x y : Int) : Calls Tryz.prog 46 #[.pointer (some ⟨b, 0, none⟩), .int .i64 x, .int .i64 y] W fun e w' => e = .returned (.tuple #[]) ∧ New w w' b (heapPushL xs (x, y)) := by
  obtain ⟨v, r, e⟩ := h
  exact (qpush_calls W _ b v xs x y r e.size hm).mono fun _ _ ⟨he, hp⟩ => ⟨he, New.post e r hp⟩
theorem New.peek {w W : World} {b : Nat} {xs : List (Int × Int)} (h : New w W b xs) : Calls Tryz.prog 105 #[.pointer (some ⟨b, 0, none⟩)] W fun e w' => e = .returned (.tuple #[.int .i64 (rdp xs (0 : Nat)).1, .int .i64 (rdp xs (0 : Nat)).2, .bool (decide (0 < xs.length))]) ∧ New w w' b xs := by
  obtain ⟨v, r, e⟩ := h
  exact (qpeek_calls W _ b v xs r).mono fun _ _ ⟨he, hp⟩ => ⟨he, New.after ⟨v, r, e⟩ ((Eff.refl _ _).drawn hp)⟩
theorem New.pop {w W : World} {b : Nat} {xs : List (Int × Int)} (h : New w W b xs) (hm : xs.length < 900000) : Calls Tryz.prog 48 #[.pointer (some ⟨b, 0, none⟩)] W fun e w' => e = .returned (.tuple #[.int .i64 (rdp xs (0 : Nat)).1, .int .i64 (rdp xs (0 : Nat)).2, .bool (decide (0 < xs.length))]) ∧ New w w' b (popL xs) := by
  obtain ⟨v, r, e⟩ := h
  exact (qpop_calls W _ b v xs r hm).mono fun _ _ ⟨he, hp⟩ => ⟨he, New.post e r hp⟩
theorem New.len {w W : World} {b : Nat} {xs : List (Int × Int)} (h : New w W b xs) : Calls Tryz.prog 47 #[.pointer (some ⟨b, 0, none⟩)] W fun e w' => e = .returned (.int .i64 xs.length) ∧ New w w' b xs := by
  obtain ⟨v, r, e⟩ := h
  exact (qlen_calls W _ b v xs r).mono fun _ _ ⟨he, hp⟩ => ⟨he, New.after ⟨v, r, e⟩ ((Eff.refl _ _).drawn hp)⟩
/-- A queue is made. -/
theorem New.mk (w : World) {W : World} (e : Eff (fun _ => False) w W) : New w (W.alloc (.cells #[.slice none 0 0] 107)) W.heap.size [] := by
  exact ⟨.slice none 0 0, ⟨(heap_alloc_new W _), e.size, Kd.R_nil _ _ _ _ _⟩, e.alloc _⟩
end Go.Proofs.YtiagbkpggeglgaaGreat.Q
namespace Go.Proofs.YtiagbkpggeglgaaGreat.Q
open Go Go.RowKit Go.Proofs.YtiagbkpggeglgaaGreatW.PrintWords Go.Proofs.YtiagbkpggeglgaaGreatW.PrintLast Go.Proofs.YtiagbkpggeglgaaGreatW.PrintMore
set_option linter.unusedVariables false
set_option linter.unusedSimpArgs false
/-- x comes ahead of y, or is as y. -/
def leB (x y : Int × Int) : Bool := !lessB y x
theorem leB_iff (x y : Int × Int) : leB x y = true ↔ (y.1 < x.1 ∨ (x.1 = y.1 ∧ x.2 ≤ y.2)) := by
  unfold leB lessB
  by_cases h1 : x.1 < y.1 <;> by_cases h2 : y.1 = x.1 <;> by_cases h3 : y.2 < x.2 <;> simp [h1, h2, h3] <;> omega
theorem lessB_iff (x y : Int × Int) : lessB x y = true ↔ (y.1 < x.1 ∨ (x.1 = y.1 ∧ x.2 < y.2)) := by
  unfold lessB
  by_cases h1 : y.1 < x.1 <;> by_cases h2 : x.1 = y.1 <;> by_cases h3 : x.2 < y.2 <;> simp [h1, h2, h3]
theorem leB_refl (x : Int × Int) : leB x x = true := by rw [leB_iff]; omega
theorem leB_trans {x y z : Int × Int} (h : leB x y = true) (k : leB y z = true) : leB x z = true := by rw [leB_iff] at *; omega
theorem leB_antisymm {x y : Int × Int} (h : leB x y = true) (k : leB y x = true) : x = y := by
  rw [leB_iff] at *
  exact Prod.ext (by omega) (by omega)
theorem leB_of_less {x y : Int × Int} (h : lessB x y = true) : leB x y = true := by rw [leB_iff]; rw [lessB_iff] at h; omega
theorem leB_of_not {x y : Int × Int} (h : ¬ lessB x y = true) : leB y x = true := by rw [leB_iff]; rw [lessB_iff] at h; omega
theorem rdp_nat (xs : List (Int × Int)) (i : Nat) : rdp xs (i : Int) = xs.getD i (0, 0) := rfl
theorem swap_get (xs : List (Int × Int)) (i j k : Nat) (hi : i < xs.length) (hj : j < xs.length) :
    (swapL xs (i : Nat) (j : Nat)).getD k (0, 0) = if k = j then xs.getD i (0, 0) else if k = i then xs.getD j (0, 0) else xs.getD k (0, 0) := by
  unfold swapL rdp
  simp only [Int.toNat_natCast, List.getD_eq_getElem?_getD, List.getElem?_set, List.length_set]
  by_cases h1 : k = j
  · subst h1
    simp [hj]
  · rw [if_neg (Ne.symm h1), if_neg h1]
    by_cases h2 : k = i
    · subst h2
      simp [hi]
    · rw [if_neg (Ne.symm h2), if_neg h2]
theorem swap_perm (xs : List (Int × Int)) (i j : Nat) (hi : i < xs.length) (hj : j < xs.length) : (swapL xs (i : Nat) (j : Nat)).Perm xs := by
  rw [List.perm_iff_count]
  intro a
  unfold swapL rdp
  simp only [Int.toNat_natCast]
  have e1 : xs.getD i (0, 0) = xs[i] := by simp [List.getD_eq_getElem?_getD, hi]
  have e2 : xs.getD j (0, 0) = xs[j] := by simp [List.getD_eq_getElem?_getD, hj]
  rw [e1, e2, List.count_set (by simpa using hj), List.count_set hi, List.getElem_set]
  have c1 : xs[i] = a → 0 < xs.count a := fun h => List.count_pos_iff.2 (h ▸ List.getElem_mem hi)
  have c2 : xs[j] = a → 0 < xs.count a := fun h => List.count_pos_iff.2 (h ▸ List.getElem_mem hj)
  by_cases hij : i = j
  · subst hij
    by_cases h1 : xs[i] = a
    · have := c1 h1; simp [h1]; omega
    · simp [h1]
  · rw [if_neg hij]
    by_cases h1 : xs[i] = a <;> by_cases h2 : xs[j] = a
    · have := c1 h1; simp [h1, h2]; omega
    · have := c1 h1; simp [h1, h2]; omega
    · have := c2 h2; simp [h1, h2]
    · simp [h1, h2]
/-- A heap, as far as its first n go, from the parents m on. -/
def Hp (m n : Nat) (xs : List (Int × Int)) : Prop := ∀ i, 0 < i → i < n → m ≤ (i - 1) / 2 → leB (xs.getD ((i - 1) / 2) (0, 0)) (xs.getD i (0, 0)) = true
def UpInv (n : Nat) (xs : List (Int × Int)) (j : Nat) : Prop := (∀ i, 0 < i → i < n → i ≠ j → leB (xs.getD ((i - 1) / 2) (0, 0)) (xs.getD i (0, 0)) = true) ∧ (0 < j → ∀ i, 0 < i → i < n → (i - 1) / 2 = j → leB (xs.getD ((j - 1) / 2) (0, 0)) (xs.getD i (0, 0)) = true)
theorem upL_heap : ∀ (f : Nat) (xs : List (Int × Int)) (j : Nat), j < f → j < xs.length → UpInv xs.length xs j → Hp 0 xs.length (upL f xs j) ∧ (upL f xs j).Perm xs
  | 0, _, _, h, _, _ => by omega
  | f + 1, xs, j, hf, hj, hI => by
    unfold upL
    split
    next h0 =>
      subst h0
      exact ⟨fun i h1 h2 _ => hI.1 i h1 h2 (by omega), List.Perm.refl _⟩
    next h0 =>
      obtain ⟨p, hp⟩ : ∃ p, p = (j - 1) / 2 := ⟨_, rfl⟩
      rw [← hp]
      have hpl : p < xs.length := by omega
      split
      next hl =>
        rw [rdp_nat, rdp_nat] at hl
        have ih := upL_heap f (swapL xs (p : Nat) j) p (by omega) (by rw [swapL_length]; omega) ?_
        · rw [swapL_length] at ih
          exact ⟨ih.1, ih.2.trans (swap_perm xs p j hpl hj)⟩
        rw [swapL_length]
        refine ⟨fun i h1 h2 h3 => ?_, fun h4 i h1 h2 h3 => ?_⟩
        · rw [swap_get _ _ _ _ hpl hj, swap_get _ _ _ _ hpl hj]
          by_cases c1 : i = j
          · subst c1
            rw [← hp, if_neg (by omega), if_pos rfl, if_pos rfl]
            exact leB_of_less hl
          · rw [if_neg c1, if_neg h3]
            by_cases c2 : (i - 1) / 2 = j
            · rw [if_pos c2, hp]
              exact hI.2 (by omega) i h1 h2 c2
            · rw [if_neg c2]
              by_cases c3 : (i - 1) / 2 = p
              · rw [if_pos c3]
                refine leB_trans (leB_of_less hl) ?_
                rw [← c3]
                exact hI.1 i h1 h2 c1
              · rw [if_neg c3]
                exact hI.1 i h1 h2 c1
        · rw [swap_get _ _ _ _ hpl hj, swap_get _ _ _ _ hpl hj, if_neg (by omega), if_neg (by omega), if_neg (show ¬ i = p by omega)]
          have k1 := hI.1 p h4 (by omega) (by omega)
          by_cases c1 : i = j
          · rw [if_pos c1]; exact k1
          · rw [if_neg c1]
            refine leB_trans k1 ?_
            rw [← h3]
            exact hI.1 i h1 h2 c1
      next hl =>
        rw [rdp_nat, rdp_nat] at hl
        refine ⟨fun i h1 h2 _ => ?_, List.Perm.refl _⟩
        by_cases c1 : i = j
        · subst c1
          rw [← hp]
          exact leB_of_not hl
        · exact hI.1 i h1 h2 c1
def DownInv (m n : Nat) (xs : List (Int × Int)) (i : Nat) : Prop := (∀ k, 0 < k → k < n → m ≤ (k - 1) / 2 → (k - 1) / 2 ≠ i → leB (xs.getD ((k - 1) / 2) (0, 0)) (xs.getD k (0, 0)) = true) ∧ (0 < i → m ≤ (i - 1) / 2 → ∀ k, 0 < k → k < n → (k - 1) / 2 = i → leB (xs.getD ((i - 1) / 2) (0, 0)) (xs.getD k (0, 0)) = true)
theorem downL_heap (m : Nat) : ∀ (f : Nat) (xs : List (Int × Int)) (i n : Nat), n < i + f → m ≤ i → n ≤ xs.length → DownInv m n xs i → Hp m n (downL f xs i n) ∧ (downL f xs i n).Perm xs ∧ ∀ k, n ≤ k → (i < n → (downL f xs i n).getD k (0, 0) = xs.getD k (0, 0))
  | 0, xs, i, n, hf, hm, hn, hI => ⟨fun k h1 h2 h3 => hI.1 k h1 h2 h3 (by omega), List.Perm.refl _, fun _ _ _ => rfl⟩
  | f + 1, xs, i, n, hf, hm, hn, hI => by
    unfold downL
    split
    next h0 => exact ⟨fun k h1 h2 h3 => hI.1 k h1 h2 h3 (by omega), List.Perm.refl _, fun _ _ _ => rfl⟩
    next h0 =>
      obtain ⟨c, hc⟩ : ∃ c, c = childL xs i n := ⟨_, rfl⟩
      rw [← hc]
      have hc1 : c < n ∧ (c = 2 * i + 1 ∨ c = 2 * i + 2) ∧ ∀ k, 0 < k → k < n → (k - 1) / 2 = i → leB (xs.getD c (0, 0)) (xs.getD k (0, 0)) = true := by
        rw [hc]
        unfold childL
        split
        next h1 =>
          obtain ⟨a1, a2⟩ := h1
          rw [rdp_nat, rdp_nat] at a2
          refine ⟨a1, .inr rfl, fun k k1 k2 k3 => ?_⟩
          have : k = 2 * i + 1 ∨ k = 2 * i + 2 := by omega
          rcases this with rfl | rfl
          · exact leB_of_less a2
          · exact leB_refl _
        next h1 =>
          refine ⟨by omega, .inl rfl, fun k k1 k2 k3 => ?_⟩
          have : k = 2 * i + 1 ∨ k = 2 * i + 2 := by omega
          rcases this with rfl | rfl
          · exact leB_refl _
          · have : ¬ lessB (rdp xs (2 * i + 2 : Nat)) (rdp xs (2 * i + 1 : Nat)) = true := fun h => h1 ⟨k2, h⟩
            rw [rdp_nat, rdp_nat] at this
            exact leB_of_not this
      obtain ⟨hcn, hcc, hb⟩ := hc1
      have hil : i < xs.length := by omega
      have hcl : c < xs.length := by omega
      split
      next hl =>
        rw [rdp_nat, rdp_nat] at hl
        have ih := downL_heap m f (swapL xs (i : Nat) (c : Nat)) c n (by omega) (by omega) (by rw [swapL_length]; exact hn) ?_
        · refine ⟨ih.1, ih.2.1.trans (swap_perm xs i c hil hcl), fun k hk hi => ?_⟩
          rw [ih.2.2 k hk (by omega), swap_get _ _ _ _ hil hcl, if_neg (by omega), if_neg (by omega)]
        refine ⟨fun k h1 h2 h3 h4 => ?_, fun h4 h5 k h1 h2 h3 => ?_⟩
        · rw [swap_get _ _ _ _ hil hcl, swap_get _ _ _ _ hil hcl, if_neg h4]
          by_cases c1 : (k - 1) / 2 = i
          · rw [if_pos c1]
            by_cases c2 : k = c
            · rw [if_pos c2]
              exact leB_of_less hl
            · rw [if_neg c2, if_neg (by omega)]
              exact hb k h1 h2 c1
          · rw [if_neg c1, if_neg (show ¬ k = c by omega)]
            by_cases c2 : k = i
            · subst c2
              rw [if_pos rfl]
              exact hI.2 h1 h3 c (by omega) hcn (by omega)
            · rw [if_neg c2]
              exact hI.1 k h1 h2 h3 c1
        · have e : (c - 1) / 2 = i := by omega
          rw [e] at h5 ⊢
          rw [swap_get _ _ _ _ hil hcl, swap_get _ _ _ _ hil hcl, if_neg (by omega), if_pos rfl, if_neg (by omega), if_neg (by omega)]
          rw [← h3]
          exact hI.1 k h1 h2 (by omega) (by omega)
      next hl =>
        rw [rdp_nat, rdp_nat] at hl
        refine ⟨fun k h1 h2 h3 => ?_, List.Perm.refl _, fun _ _ _ => rfl⟩
        by_cases c1 : (k - 1) / 2 = i
        · rw [c1]
          exact leB_trans (leB_of_not hl) (hb k h1 h2 c1)
        · exact hI.1 k h1 h2 h3 c1
theorem heap_top {n : Nat} {xs : List (Int × Int)} (h : Hp 0 n xs) : ∀ i, i < n → leB (xs.getD 0 (0, 0)) (xs.getD i (0, 0)) = true := by
  intro i
  induction i using Nat.strongRecOn with
  | _ i ih =>
    intro hi
    by_cases h0 : i = 0
    · subst h0; exact leB_refl _
    · exact leB_trans (ih ((i - 1) / 2) (by omega) (by omega)) (h i (by omega) hi (by omega))
/-- Put in its place. -/
def insL (o : Int × Int) : List (Int × Int) → List (Int × Int)
  | [] => [o]
  | x :: l => if lessB x o then x :: insL o l else o :: x :: l
theorem insL_perm (o : Int × Int) : ∀ l, (insL o l).Perm (o :: l)
  | [] => List.Perm.refl _
  | x :: l => by
    unfold insL
    split
    · exact ((insL_perm o l).cons x).trans (List.Perm.swap _ _ _)
    · exact List.Perm.refl _
theorem insL_length (o : Int × Int) (l : List (Int × Int)) : (insL o l).length = l.length + 1 := (insL_perm o l).length_eq
/-- Falling. -/
def Srt (l : List (Int × Int)) : Prop := l.Pairwise (fun a b => leB a b = true)
theorem insL_srt (o : Int × Int) : ∀ l, Srt l → Srt (insL o l)
  | [], _ => by simp [insL, Srt]
  | x :: l, h => by
    have h2 := List.pairwise_cons.1 h
    unfold insL
    split
    next h1 =>
      refine List.pairwise_cons.2 ⟨fun y hy => ?_, insL_srt o l h2.2⟩
      rcases List.mem_cons.1 ((insL_perm o l).mem_iff.1 hy) with rfl | hy
      · exact leB_of_less h1
      · exact h2.1 y hy
    next h1 =>
      refine List.pairwise_cons.2 ⟨fun y hy => ?_, h⟩
      rcases List.mem_cons.1 hy with rfl | hy
      · exact leB_of_not h1
      · exact leB_trans (leB_of_not h1) (h2.1 y hy)
theorem srt_unique : ∀ {l m : List (Int × Int)}, l.Perm m → Srt l → Srt m → l = m
  | [], m, h, _, _ => by rw [List.nil_perm] at h; exact h.symm
  | x :: l, [], h, _, _ => by rw [List.perm_nil] at h; cases h
  | x :: l, y :: m, h, hl, hm => by
    have a := List.pairwise_cons.1 hl
    have b := List.pairwise_cons.1 hm
    have e : x = y := by
      rcases List.mem_cons.1 (h.mem_iff.1 (List.mem_cons_self (a := x) (l := l))) with e | e
      · exact e
      · rcases List.mem_cons.1 (h.mem_iff.2 (List.mem_cons_self (a := y) (l := m))) with f | f
        · exact f.symm
        · exact leB_antisymm (a.1 y f) (b.1 x e)
    subst e
    rw [srt_unique (h.cons_inv) a.2 b.2]
/-- A heap has the elements of a falling list. -/
structure QS (xs l : List (Int × Int)) : Prop where
  heap : Hp 0 xs.length xs
  perm : xs.Perm l
  srt : Srt l
theorem QS.nil : QS [] [] := ⟨fun i _ h _ => by simp at h, List.Perm.refl _, List.Pairwise.nil⟩
theorem QS.length {xs l : List (Int × Int)} (h : QS xs l) : xs.length = l.length := h.perm.length_eq
theorem QS.push {xs l : List (Int × Int)} (h : QS xs l) (o : Int × Int) : QS (heapPushL xs o) (insL o l) := by
  have hl : (xs ++ [o]).length = xs.length + 1 := by simp
  have k := upL_heap (xs.length + 1) (xs ++ [o]) xs.length (by omega) (by omega) ?_
  · refine ⟨?_, (k.2.trans ?_).trans (insL_perm o l).symm, insL_srt o l h.srt⟩
    · unfold heapPushL
      rw [upL_length]
      exact k.1
    · exact (List.perm_append_comm).trans (h.perm.cons o)
  · have g : ∀ i, i < xs.length → (xs ++ [o]).getD i (0, 0) = xs.getD i (0, 0) := fun i hi => by
      simp [List.getD_eq_getElem?_getD, List.getElem?_append_left hi]
    refine ⟨fun i h1 h2 h3 => ?_, fun h4 i h1 h2 h3 => by omega⟩
    rw [g _ (by omega), g _ (by omega)]
    exact h.heap i h1 (by omega) (by omega)
theorem take_getD (xs : List (Int × Int)) (n k : Nat) (h : k < n) : (xs.take n).getD k (0, 0) = xs.getD k (0, 0) := by
  simp [List.getD_eq_getElem?_getD, h]
theorem QS.pop {xs l : List (Int × Int)} {x : Int × Int} (h : QS xs (x :: l)) : xs.getD 0 (0, 0) = x ∧ QS (popL xs) l := by
  have hlen := h.length
  simp only [List.length_cons] at hlen
  obtain ⟨n, hn⟩ : ∃ n, n = l.length := ⟨_, rfl⟩
  have hx : xs.length = n + 1 := by omega
  have hsp := swap_perm xs 0 n (by omega) (by omega)
  have g := swap_get xs 0 n
  have k := downL_heap 0 (n + 1) (swapL xs (0 : Nat) (n : Nat)) 0 n (by omega) (by omega) (by rw [swapL_length]; omega) ?_
  · have e : heapPopL xs = downL (n + 1) (swapL xs (0 : Nat) (n : Nat)) 0 n := by unfold heapPopL; rw [hx]; rfl
    have ep : popL xs = (heapPopL xs).take n := by unfold popL; rw [hx]; rfl
    rw [← e] at k
    obtain ⟨k1, k2, k3⟩ := k
    have hl2 := heapPopL_length xs
    have k4 : (heapPopL xs).getD n (0, 0) = xs.getD 0 (0, 0) := by
      by_cases h0 : 0 < n
      · rw [k3 n (Nat.le_refl _) h0, g n (by omega) (by omega), if_pos rfl]
      · have : n = 0 := by omega
        subst this
        rw [e, downL, if_pos (by omega), g 0 (by omega) (by omega), if_pos rfl]
    have k5 : heapPopL xs = popL xs ++ [xs.getD 0 (0, 0)] := by
      rw [ep, ← k4]
      have : (heapPopL xs).getD n (0, 0) = (heapPopL xs)[n]'(by omega) := by simp [List.getD_eq_getElem?_getD, hl2, hx]
      rw [this, List.take_append_getElem, List.take_of_length_le (by omega)]
    have k6 : xs.Perm (xs.getD 0 (0, 0) :: popL xs) := by
      have := (k2.trans hsp).symm
      rw [k5] at this
      exact this.trans List.perm_append_comm
    have hb : ∀ y ∈ xs, leB (xs.getD 0 (0, 0)) y = true := by
      intro y hy
      obtain ⟨i, hi, rfl⟩ := List.getElem_of_mem hy
      have := heap_top h.heap i hi
      rwa [show xs.getD i (0, 0) = xs[i] by simp [List.getD_eq_getElem?_getD, hi]] at this
    have hs := List.pairwise_cons.1 h.srt
    have hx0 : xs.getD 0 (0, 0) = x := by
      refine leB_antisymm (hb x (h.perm.mem_iff.2 List.mem_cons_self)) ?_
      have : xs.getD 0 (0, 0) ∈ xs := k6.mem_iff.2 List.mem_cons_self
      rcases List.mem_cons.1 (h.perm.mem_iff.1 this) with e | e
      · rw [e]; exact leB_refl _
      · exact hs.1 _ e
    refine ⟨hx0, ?_, ?_, hs.2⟩
    · have hpl : (popL xs).length = n := by rw [ep, List.length_take, hl2]; omega
      intro i h1 h2 h3
      rw [hpl] at h2
      rw [ep, take_getD _ _ _ (by omega), take_getD _ _ _ h2]
      exact k1 i h1 h2 h3
    · rw [hx0] at k6
      exact (k6.symm.trans h.perm).cons_inv
  · refine ⟨fun i h1 h2 _ h3 => ?_, fun h4 => by omega⟩
    rw [g _ (by omega) (by omega), g _ (by omega) (by omega), if_neg (by omega), if_neg (by omega), if_neg (by omega), if_neg (by omega)]
    exact h.heap i h1 (by omega) (by omega)
theorem initL_heap : ∀ (k : Nat) (xs : List (Int × Int)) (n : Nat), n = xs.length → Hp k n xs → Hp 0 n (initL k xs n) ∧ (initL k xs n).Perm xs
  | 0, xs, n, _, h => ⟨h, List.Perm.refl _⟩
  | k + 1, xs, n, hn, h => by
    have d := downL_heap k (n + 1) xs k n (by omega) (Nat.le_refl _) (by omega) ⟨fun i h1 h2 h3 h4 => h i h1 h2 (by omega), fun h1 h2 => by omega⟩
    have ih := initL_heap k (downL (n + 1) xs k n) n (by rw [downL_length]; exact hn) d.1
    rw [initL]
    exact ⟨ih.1, ih.2.trans d.2.1⟩
theorem QS.init {xs l : List (Int × Int)} (p : xs.Perm l) (s : Srt l) : QS (initL (xs.length / 2) xs xs.length) l := by
  have h := initL_heap (xs.length / 2) xs xs.length rfl (fun i h1 h2 h3 => by omega)
  refine ⟨?_, h.2.trans p, s⟩
  rw [initL_length]
  exact h.1
theorem QS.drop {xs l : List (Int × Int)} (h : QS xs l) (p : Int × Int → Bool) : QS (initL ((xs.filter p).length / 2) (xs.filter p) (xs.filter p).length) (l.filter p) :=
  QS.init (h.perm.filter p) (List.Pairwise.filter p h.srt)
end Go.Proofs.YtiagbkpggeglgaaGreat.Q
