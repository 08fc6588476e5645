import Derived.Test.YtdhajfimhjbbiaaProg
import Derived.BigRegion
import Derived.BigQuiet
import Derived.Deep.QuietTactic
import Derived.Deep.AppendLies
import Derived.ChangeAlike
import Derived.Outline
import Derived.WalkKit
import Derived.KernelRfl
import Derived.Deep.LoopGhost
import Derived.Deep.RegionLaw
import Derived.Test.YtdhajfimhjbbiaaWMore
import Derived.Test.YtdhajfimhjbbiaaWKept
namespace Go.Proofs.Ytdhajfimhjbbiaa.Q
open Go Go.RowKit Go.Proofs.YtdhajfimhjbbiaaW.PrintWords Go.Proofs.YtdhajfimhjbbiaaW.PrintLast Go.Proofs.YtdhajfimhjbbiaaW.PrintMore
set_option linter.unusedVariables false
/-- What waits: its place, its id. -/
abbrev kd : Kd (Int × Int) := Kd.pair (Kd.int .i64) (Kd.int .i64)
theorem kd_open {w : World} {x : Int × Int} {cs : List Value} (h : kd.K w x cs) : cs = [.int .i64 x.1, .int .i64 x.2] := by
  obtain ⟨_, _, rfl, rfl, rfl⟩ := h
  rfl
theorem kd_mk (w : World) (base : Nat) (ok : Nat → Prop) (x : Int × Int) : kd.M w base ok x [.int .i64 x.1, .int .i64 x.2] := ⟨[.int .i64 x.1], [.int .i64 x.2], rfl, rfl, rfl⟩
def rdp (xs : List (Int × Int)) (i : Int) : Int × Int := xs.getD i.toNat (0, 0)
theorem at_p {w : World} {A : Option Addr} {n : Nat} {xs : List (Int × Int)} (h : Kd.C kd w A n xs) (i : Int) (h0 : 0 ≤ i) (h1 : i < n) :
    ∃ ad, A = some ad ∧ w.cell? (ad.add (i.toNat * 2)) = some (.int .i64 (rdp xs i).1) ∧ w.cell? ⟨(ad.add (i.toNat * 2)).block, (ad.add (i.toNat * 2)).off + 1, none⟩ = some (.int .i64 (rdp xs i).2) := by
  obtain ⟨ad, c, e, _, hK, hc0⟩ := Kd.C_get h (0, 0) i h0 h1
  have hc : ∀ j u, c[j]? = some u → w.cell? (ad.add (i.toNat * 2 + j)) = some u := hc0
  obtain rfl := kd_open hK
  exact ⟨ad, e, hc 0 _ rfl, by rw [← add_field _ _ 1 (by omega)]; exact hc 1 _ rfl⟩
/-- Does x come ahead of y? -/
def lessB (x y : Int × Int) : Bool := decide (y.1 < x.1) || ((x.1 == y.1) && decide (x.2 < y.2))
set_option maxHeartbeats 4000000 in
set_option maxRecDepth 100000 in
theorem less_calls (w : World) (A : Option Addr) (n c : Nat) (xs : List (Int × Int)) (i j : Int) (hC : Kd.C kd w A n xs) (hi0 : 0 ≤ i) (hi : i < n) (hj0 : 0 ≤ j) (hj : j < n) :
    Calls Try.prog 105 #[.slice A n c, .int .i64 i, .int .i64 j] w fun e w' => e = .returned (.bool (lessB (rdp xs i) (rdp xs j))) ∧ Drawn0 w w' := by
  obtain ⟨ad, rfl, hx1, hx2⟩ := at_p hC i hi0 hi
  obtain ⟨ad', e, hy1, hy2⟩ := at_p hC j hj0 hj
  injection e with e
  subst e
  clear hC
  unfold lessB
  generalize rdp xs i = x at *
  generalize rdp xs j = y at *
  have pi0 := eq_true hi0
  have pi1 := eq_true hi
  have pj0 := eq_true hj0
  have pj1 := eq_true hj
  clear hi0 hi hj0 hj
  by_cases c1 : y.1 < x.1
  · have d1 : decide (y.1 < x.1) = true := decide_eq_true c1
    rw [d1, Bool.true_or]
    clear c1
    go_enter Try.func105, Try.ntmps105
    go_wp2
    go_quiet (fail)
    go_wp2
    go_ret
    exact ⟨rfl, ⟨⟨_, rfl⟩⟩⟩
  · have d1 : decide (y.1 < x.1) = false := decide_eq_false c1
    rw [d1, Bool.false_or]
    clear c1
    by_cases c2 : x.1 = y.1
    · have d2 : (x.1 == y.1) = true := beq_iff_eq.2 c2
      rw [d2, Bool.true_and]
      clear c2
      go_enter Try.func105, Try.ntmps105
      go_wp2
      go_quiet (fail)
      go_wp2
      go_ret
      exact ⟨rfl, ⟨⟨_, rfl⟩⟩⟩
    · have d2 : (x.1 == y.1) = false := beq_eq_false_iff_ne.2 c2
      rw [d2, Bool.false_and]
      clear c2
      go_enter Try.func105, Try.ntmps105
      go_wp2
      go_quiet (fail)
      go_wp2
      go_ret
      exact ⟨rfl, ⟨⟨_, rfl⟩⟩⟩
set_option maxHeartbeats 4000000 in
set_option maxRecDepth 100000 in
theorem swap_walk (w : World) (g n c : Nat) (i j : Int) (x y : Int × Int) (hi0 : 0 ≤ i) (hi : i < n) (hj0 : 0 ≤ j) (hj : j < n)
    (hx1 : w.cell? ⟨g, i.toNat * 2, none⟩ = some (.int .i64 x.1)) (hx2 : w.cell? ⟨g, i.toNat * 2 + 1, none⟩ = some (.int .i64 x.2)) (hy1 : w.cell? ⟨g, j.toNat * 2, none⟩ = some (.int .i64 y.1)) (hy2 : w.cell? ⟨g, j.toNat * 2 + 1, none⟩ = some (.int .i64 y.2))
    (hf : ∀ k, w.frozen? ⟨g, k, none⟩ = false) :
    Calls Try.prog 106 #[.slice (some ⟨g, 0, none⟩) n c, .int .i64 i, .int .i64 j] w fun e w' => e = .returned (.tuple #[]) ∧ w' = ((((w.setCell ⟨g, i.toNat * 2, none⟩ (.int .i64 y.1)).setCell ⟨g, i.toNat * 2 + 1, none⟩ (.int .i64 y.2)).setCell ⟨g, j.toNat * 2, none⟩ (.int .i64 x.1)).setCell ⟨g, j.toNat * 2 + 1, none⟩ (.int .i64 x.2)).drew := by
  have pi0 := eq_true hi0
  have pi1 := eq_true hi
  have pj0 := eq_true hj0
  have pj1 := eq_true hj
  have f1 := hf (i.toNat * 2)
  have f2 := hf (i.toNat * 2 + 1)
  have f3 := hf (j.toNat * 2)
  have f4 := hf (j.toNat * 2 + 1)
  by_cases hij : i.toNat = j.toNat
  · obtain rfl : i = j := by omega
    rw [hx1] at hy1
    rw [hx2] at hy2
    obtain rfl : x = y := by
      injection hy1 with a
      injection a with _ a
      injection hy2 with b
      injection b with _ b
      exact Prod.ext a b
    clear hi0 hi hj0 hj hf hij hy1 hy2
    have s1 : ((w.setCell ⟨g, i.toNat * 2, none⟩ (.int .i64 x.1)).setCell ⟨g, i.toNat * 2 + 1, none⟩ (.int .i64 x.2)).cell? ⟨g, i.toNat * 2, none⟩ = some (.int .i64 x.1) := by
      rw [World.cell?_setCell_other _ _ _ _ (by intro e; injection e with _ e; omega)]
      exact World.cell?_setCell_same' _ _ _ (by rw [hx1]; rfl)
    have s2 : (((w.setCell ⟨g, i.toNat * 2, none⟩ (.int .i64 x.1)).setCell ⟨g, i.toNat * 2 + 1, none⟩ (.int .i64 x.2)).setCell ⟨g, i.toNat * 2, none⟩ (.int .i64 x.1)).cell? ⟨g, i.toNat * 2 + 1, none⟩ = some (.int .i64 x.2) := by
      rw [World.cell?_setCell_other _ _ _ _ (by intro e; injection e with _ e; omega)]
      exact World.cell?_setCell_same' _ _ _ (by rw [World.cell?_setCell_other _ _ _ _ (by intro e; injection e with _ e; omega), hx2]; rfl)
    go_enter Try.func106, Try.ntmps106
    go_wp2
    go_region
    go_end0
    exact ⟨rfl, rfl⟩
  · have hij2 : i.toNat ≠ j.toNat := hij
    clear hi0 hi hj0 hj hf
    go_enter Try.func106, Try.ntmps106
    go_wp2
    go_region
    go_end0
    exact ⟨rfl, rfl⟩
def swapL (xs : List (Int × Int)) (i j : Int) : List (Int × Int) := (xs.set i.toNat (rdp xs j)).set j.toNat (rdp xs i)
theorem swapL_length (xs : List (Int × Int)) (i j : Int) : (swapL xs i j).length = xs.length := by simp [swapL]
/-- A row of one's own: one element is written. -/
theorem R_write {w : World} {base g n cap : Nat} {ok : Nat → Prop} {xs : List (Int × Int)} (h : kd.R 67 w base ok (.slice (some ⟨g, 0, none⟩) n cap) xs) (i : Int) (h0 : 0 ≤ i) (h1 : i < n) (y : Int × Int) :
    kd.R 67 ((w.setCell ⟨g, i.toNat * 2, none⟩ (.int .i64 y.1)).setCell ⟨g, i.toNat * 2 + 1, none⟩ (.int .i64 y.2)) base ok (.slice (some ⟨g, 0, none⟩) n cap) (xs.set i.toNat y) ∧ w.grownBy ((w.setCell ⟨g, i.toNat * 2, none⟩ (.int .i64 y.1)).setCell ⟨g, i.toNat * 2 + 1, none⟩ (.int .i64 y.2)) (some g) := by
  obtain ⟨c, hcl, _, hcc, _⟩ := Kd.R_elem h (0, 0) i h0 h1
  have h2 := Kd.R_seg (okp := fun _ => False) (x' := y) (seg := [.int .i64 y.1, .int .i64 y.2]) (j := 0) h i h0 h1 hcl hcc (Nat.le_refl 2) (by
    have hc2 : c.length = 2 := hcl
    have e : c.take 0 ++ [Value.int .i64 y.1, .int .i64 y.2] ++ c.drop (0 + [Value.int .i64 y.1, .int .i64 y.2].length) = [.int .i64 y.1, .int .i64 y.2] := by
      rw [List.drop_eq_nil_of_le (by simp [hc2])]
      rfl
    rw [e]
    exact kd_mk w base _ y) (fun _ hk => hk.elim)
  exact h2
theorem grown_trans {w w1 w2 : World} {r : Option Nat} (h : w.grownBy w1 r) (k : w1.grownBy w2 r) : w.grownBy w2 r :=
  ⟨k.os.trans h.os, k.tape.trans h.tape, k.output.trans h.output, Nat.le_trans h.size k.size, fun i hi hn => (k.block i (Nat.lt_of_lt_of_le hi h.size) hn).trans (h.block i hi hn)⟩
theorem grown_drew {w w1 : World} {r : Option Nat} (h : w.grownBy w1 r) : w.grownBy w1.drew r := ⟨h.os, h.tape, h.output, h.size, h.block⟩
theorem swap_calls (w : World) (base g n cap : Nat) (ok : Nat → Prop) (xs : List (Int × Int)) (i j : Int) (h : kd.R 67 w base ok (.slice (some ⟨g, 0, none⟩) n cap) xs) (hi0 : 0 ≤ i) (hi : i < n) (hj0 : 0 ≤ j) (hj : j < n) :
    Calls Try.prog 106 #[.slice (some ⟨g, 0, none⟩) n cap, .int .i64 i, .int .i64 j] w fun e w' => e = .returned (.tuple #[]) ∧ kd.R 67 w' base ok (.slice (some ⟨g, 0, none⟩) n cap) (swapL xs i j) ∧ w.grownBy w' (some g) := by
  obtain ⟨hn, _, hC⟩ := Kd.R_reads' h
  obtain ⟨ad, e1, hx1, hx2⟩ := at_p hC i hi0 (by omega)
  obtain ⟨ad', e2, hy1, hy2⟩ := at_p hC j hj0 (by omega)
  injection e1 with e1
  injection e2 with e2
  subst e1 e2
  rw [add_plain] at hx1 hx2 hy1 hy2
  have hf : ∀ k, w.frozen? ⟨g, k, none⟩ = false := by
    obtain ⟨_, inner, ho, _⟩ := h
    obtain ⟨cells, hc⟩ := own_typed ho g (by simp [Value.ownBlock])
    exact fun k => blk_frozen hc k
  refine (swap_walk w g n cap i j (rdp xs i) (rdp xs j) hi0 hi hj0 hj hx1 hx2 hy1 hy2 hf).mono fun e w' ⟨he, hw⟩ => ?_
  subst hw
  obtain ⟨r1, g1⟩ := R_write h i hi0 hi (rdp xs j)
  obtain ⟨r2, g2⟩ := R_write r1 j hj0 hj (rdp xs i)
  exact ⟨he, r2, grown_drew (grown_trans g1 g2)⟩
@[go_sem] theorem method_push (a : Addr) (w : World) : (method 256 65 (.pointer (some a)) "Push").run Try.prog w = .ok (108, .pointer (some a)) w := by kernel_rfl
@[go_sem] theorem method_pop (a : Addr) (w : World) : (method 256 65 (.pointer (some a)) "Pop").run Try.prog w = .ok (107, .pointer (some a)) w := by kernel_rfl
theorem method_len0 (a : Addr) (w : World) : (method 256 65 (.pointer (some a)) "Len").run Try.prog w = (Sem.load .plain a (fun v => .pure ((104 : FuncId), v))).run Try.prog w := by kernel_rfl
theorem method_less0 (a : Addr) (w : World) : (method 256 65 (.pointer (some a)) "Less").run Try.prog w = (Sem.load .plain a (fun v => .pure ((105 : FuncId), v))).run Try.prog w := by kernel_rfl
theorem method_swap0 (a : Addr) (w : World) : (method 256 65 (.pointer (some a)) "Swap").run Try.prog w = (Sem.load .plain a (fun v => .pure ((106 : FuncId), v))).run Try.prog w := by kernel_rfl
theorem method_len (a : Addr) (w : World) (v : Value) (h : w.cell? a = some v) : (method 256 65 (.pointer (some a)) "Len").run Try.prog w = .ok ((104 : FuncId), v) w := by rw [method_len0]; simp [Sem.run, h]
theorem method_less (a : Addr) (w : World) (v : Value) (h : w.cell? a = some v) : (method 256 65 (.pointer (some a)) "Less").run Try.prog w = .ok ((105 : FuncId), v) w := by rw [method_less0]; simp [Sem.run, h]
theorem method_swap (a : Addr) (w : World) (v : Value) (h : w.cell? a = some v) : (method 256 65 (.pointer (some a)) "Swap").run Try.prog w = .ok ((106 : FuncId), v) w := by rw [method_swap0]; simp [Sem.run, h]
@[go_sem] theorem as_one (v : Value) (w : World) : (Instr.typeAssert (.iface 67 v) 20 67 true).run Try.prog w = .ok (.tuple #[v, .bool true]) w := by kernel_rfl
end Go.Proofs.Ytdhajfimhjbbiaa.Q
namespace Go.Proofs.Ytdhajfimhjbbiaa.Q
open Go Go.RowKit Go.Proofs.YtdhajfimhjbbiaaW.PrintWords Go.Proofs.YtdhajfimhjbbiaaW.PrintLast Go.Proofs.YtdhajfimhjbbiaaW.PrintMore
set_option linter.unusedVariables false
/-- What a call may change: the blocks of S, and what is made anew. -/
structure Eff (S : Nat → Prop) (w w' : World) : Prop where
  os : w'.os = w.os
  tape : w'.tape = w.tape
  output : w'.output = w.output
  size : w.heap.size ≤ w'.heap.size
  block : ∀ k, k < w.heap.size → ¬ S k → w'.heap[k]? = w.heap[k]?
section
variable {S S' : Nat → Prop} {w w1 w2 : World}
theorem Eff.refl (S : Nat → Prop) (w : World) : Eff S w w := ⟨rfl, rfl, rfl, Nat.le_refl _, fun _ _ _ => rfl⟩
theorem Eff.trans (h : Eff S w w1) (k : Eff S' w1 w2) (hs : ∀ i, S' i → S i ∨ w.heap.size ≤ i) : Eff S w w2 :=
  ⟨k.os.trans h.os, k.tape.trans h.tape, k.output.trans h.output, Nat.le_trans h.size k.size, fun i hi hn => (k.block i (Nat.lt_of_lt_of_le hi h.size) (fun h2 => (hs i h2).elim hn (fun h3 => by omega))).trans (h.block i hi hn)⟩
theorem Eff.mono (h : Eff S w w1) (hs : ∀ i, S i → S' i) : Eff S' w w1 := ⟨h.os, h.tape, h.output, h.size, fun i hi hn => h.block i hi (fun h2 => hn (hs i h2))⟩
theorem Eff.of_below (h : Below w.heap.size w w1) : Eff S w w1 := ⟨h.os, h.tape, h.output, h.size, fun i hi _ => h.block i hi⟩
theorem Eff.of_grown {row : Option Nat} (h : w.grownBy w1 row) (hs : ∀ i, row = some i → S i) : Eff S w w1 := ⟨h.os, h.tape, h.output, h.size, fun i hi hn => h.block i hi (fun e => hn (hs i e.symm))⟩
theorem Eff.drew (h : Eff S w w1) : Eff S w w1.drew := ⟨h.os, h.tape, h.output, h.size, h.block⟩
theorem Eff.drawn (h : Eff S w w1) (k : Drawn0 w1 w2) : Eff S w w2 := h.trans (S' := fun _ => False) (Eff.of_below (by
  obtain ⟨n, rfl⟩ := k
  exact pw_below_drewN (Below.refl _ _) n)) (fun _ h => h.elim)
theorem Eff.alloc (h : Eff S w w1) (o : Obj) : Eff S w (w1.alloc o) := h.trans (S' := fun _ => False) (Eff.of_below (below_alloc (Below.refl _ _) o)) (fun _ h => h.elim)
theorem Eff.set (h : Eff S w w1) (p : Addr) (u : Value) (hp : S p.block ∨ w.heap.size ≤ p.block) : Eff S w (w1.setCell p u) := by
  refine h.trans (S' := fun k => k = p.block) ⟨rfl, rfl, rfl, by simp [World.setCell], fun i _ hn => Below.heap_setCell w1 p u i hn⟩ ?_
  rintro i rfl
  exact hp
theorem Eff.below {B : Nat} (h : Eff S w w1) (hB : B ≤ w.heap.size) (hs : ∀ k, S k → B ≤ k) : Below B w w1 := ⟨h.os, h.tape, h.output, h.size, fun k hk => h.block k (by omega) (fun h2 => by have := hs k h2; omega)⟩
end
/-- A queue lies at b: its row is v, whose elements are xs. -/
structure Row (w : World) (base b : Nat) (v : Value) (xs : List (Int × Int)) : Prop where
  blk : w.heap[b]? = some (.cells #[v] 28 (0, 0))
  from_ : base ≤ b
  row : kd.R 67 w base (fun _ => True) v xs
theorem Row.lt {w : World} {base b : Nat} {v : Value} {xs : List (Int × Int)} (h : Row w base b v xs) : b < w.heap.size := by
  rcases Nat.lt_or_ge b w.heap.size with h1 | h1
  · exact h1
  · have := h.blk
    rw [Array.getElem?_eq_none h1] at this
    cases this
theorem Row.cell {w : World} {base b : Nat} {v : Value} {xs : List (Int × Int)} (h : Row w base b v xs) : w.cell? ⟨b, 0, none⟩ = some v := by
  simp [World.cell?, h.blk]
theorem Row.fro {w : World} {base b : Nat} {v : Value} {xs : List (Int × Int)} (h : Row w base b v xs) : w.frozen? ⟨b, 0, none⟩ = false := blk_frozen h.blk 0
theorem Row.ne {w : World} {base b : Nat} {v : Value} {xs : List (Int × Int)} (h : Row w base b v xs) : v.ownBlock ≠ some b := by
  intro e
  have := (Kd.R_types h.row h.blk (by decide)).1 b e
  exact this.2 rfl
theorem Row.own_lt {w : World} {base b : Nat} {v : Value} {xs : List (Int × Int)} (h : Row w base b v xs) : ∀ k, v.ownBlock = some k → k < w.heap.size := Kd.R_lt h.row
theorem Row.own_base {w : World} {base b : Nat} {v : Value} {xs : List (Int × Int)} (h : Row w base b v xs) : ∀ k, v.ownBlock = some k → base ≤ k := Kd.R_base h.row
/-- The queue's own blocks. -/
def Foot (b : Nat) (v : Value) (k : Nat) : Prop := k = b ∨ v.ownBlock = some k
/-- What a call that works on a queue leaves. -/
def Post (w : World) (base b : Nat) (v : Value) (xs : List (Int × Int)) (w' : World) : Prop := ∃ v', Row w' base b v' xs ∧ Eff (Foot b v) w w' ∧ ∀ k, v'.ownBlock = some k → v.ownBlock = some k ∨ w.heap.size ≤ k
theorem Post.refl {w : World} {base b : Nat} {v : Value} {xs : List (Int × Int)} (h : Row w base b v xs) : Post w base b v xs w := ⟨v, h, Eff.refl _ _, fun _ hk => .inl hk⟩
theorem Post.step {w w1 w2 : World} {base b : Nat} {v v1 : Value} {ys : List (Int × Int)} (he : Eff (Foot b v) w w1) (hv : ∀ k, v1.ownBlock = some k → v.ownBlock = some k ∨ w.heap.size ≤ k) (h : Post w1 base b v1 ys w2) : Post w base b v ys w2 := by
  obtain ⟨v2, h2, e2, k2⟩ := h
  refine ⟨v2, h2, he.trans e2 ?_, fun k hk => ?_⟩
  · rintro i (rfl | hi)
    · exact .inl (.inl rfl)
    · exact (hv i hi).imp .inr id
  · rcases k2 k hk with h3 | h3
    · exact hv k h3
    · exact .inr (Nat.le_trans he.size h3)
theorem Row.eff {w w1 : World} {S : Nat → Prop} {base b : Nat} {v : Value} {xs : List (Int × Int)} (h : Row w base b v xs) (he : Eff S w w1) (hb : ¬ S b) (hv : ∀ k, v.ownBlock = some k → ¬ S k) : Row w1 base b v xs := by
  refine ⟨(he.block b h.lt hb).trans h.blk, h.from_, ?_⟩
  refine Kd.R_mono (Kd.R_step (Kd.R_tight rfl h.row) (fun k hk hlt => he.block k hlt (hv k hk.symm))) (fun _ _ => trivial)
end Go.Proofs.Ytdhajfimhjbbiaa.Q
namespace Go.Proofs.Ytdhajfimhjbbiaa.Q
open Go Go.RowKit Go.Proofs.YtdhajfimhjbbiaaW.PrintWords Go.Proofs.YtdhajfimhjbbiaaW.PrintLast Go.Proofs.YtdhajfimhjbbiaaW.PrintMore
set_option linter.unusedVariables false
theorem set_post {w w1 : World} {base b : Nat} {v v1 : Value} {xs ys : List (Int × Int)} (hR : Row w base b v xs) (he : Eff (Foot b v) w w1) (hb : w1.heap[b]? = w.heap[b]?) (r1 : kd.R 67 w1 base (fun _ => True) v1 ys) (o1 : ∀ k, v1.ownBlock = some k → v.ownBlock = some k ∨ w.heap.size ≤ k) : Post w base b v ys (w1.setCell ⟨b, 0, none⟩ v1) := by
  have hb1 := hb.trans hR.blk
  exact ⟨v1, ⟨one_setCell hb1, hR.from_, Kd.R_mono (Kd.R_far (Kd.R_types r1 hb1 (by decide)) (p := ⟨b, 0, none⟩) (fun _ hk => hk.2) v1) (fun _ _ => trivial)⟩, he.set _ _ (.inl (.inl rfl)), o1⟩
theorem push_post {w w1 : World} {base b : Nat} {v v1 : Value} {o : Obj} {xs ys : List (Int × Int)} (hR : Row w base b v xs) (g1 : (w.drew.alloc o).grownBy w1 v.ownBlock) (r1 : kd.R 67 w1 base (fun _ => True) v1 ys) (o1 : v1.ownBlock = v.ownBlock ∨ ∃ g, v1.ownBlock = some g ∧ (w.drew.alloc o).heap.size ≤ g) : Post w base b v ys (w1.setCell ⟨b, 0, none⟩ v1) := by
  have e0 : Eff (Foot b v) w (w.drew.alloc o) := ((Eff.refl _ w).drew).alloc o
  refine set_post hR (e0.trans (Eff.of_grown g1 (S := fun k => v.ownBlock = some k) (fun _ h => h)) (fun i hi => .inl (.inr hi))) ?_ r1 ?_
  · rw [g1.block b (Nat.lt_of_lt_of_le hR.lt e0.size) (Ne.symm hR.ne)]
    exact (((Eff.refl (fun _ => False) w).drew).alloc o).block b hR.lt id
  · intro k hk
    rcases o1 with h | ⟨g, hg, hle⟩
    · exact .inl (h ▸ hk)
    · rw [hg] at hk
      injection hk with hk
      subst hk
      exact .inr (Nat.le_trans e0.size hle)
theorem hx_alloc (w : World) (o : Obj) : Value.slice (some ⟨w.heap.size + 1, 0, none⟩) 1 1 = Value.slice (some ⟨(w.drew.alloc o).heap.size, 0, none⟩) 1 1 := by simp
set_option maxHeartbeats 4000000 in
set_option maxRecDepth 100000 in
theorem push_calls (w : World) (base b : Nat) (v : Value) (xs : List (Int × Int)) (o : Int × Int) (hR : Row w base b v xs) (hbase : base ≤ w.heap.size) (hl : (xs.length + 1) * 16 ≤ 140737488355328) :
    Calls Try.prog 108 #[.pointer (some ⟨b, 0, none⟩), .iface 67 (.agg #[.int .i64 o.1, .int .i64 o.2])] w fun e w' => e = .returned (.tuple #[]) ∧ Post w base b v (xs ++ [o]) w' := by
  have hv := hR.cell
  have hlt := hR.lt
  have hf := hR.fro
  have hne := hR.ne
  have hle : (xs ++ [o]).length = xs.length + 1 := by simp
  go_enter Try.func108, Try.ntmps108
  go_wp2
  go_region_law (refine Kd.R_append_step kd (W := World.alloc _ _) (w0 := w) base rfl (.tmp 14) (.tmp 16) 26 67 (.agg #[.int .i64 0, .int .i64 0]) 16 rfl rfl rfl rfl (by decide) (by decide) v xs o [.int .i64 o.1, .int .i64 o.2] (fun _ => True) (fun _ => False) rfl (by exact hx_alloc w _) (kd_mk _ base _ o) (fun _ hk => hk.elim) (fun _ _ => trivial) (Kd.R_alloc (Kd.R_drew hR.row) _) (Below.alloc (below_drew (Below.refl _ _)) hbase _) (by first | (simp; done) | (simp; omega)) hl ?_; intro v1 w1 r1 b1 g1 o1; obtain ⟨A1, c1, rfl⟩ := Kd.R_slice r1; have hv1 := (g1.cell_far ⟨b, 0, none⟩ (by simp; omega) (Ne.symm hne)).trans (show (World.alloc _ _).cell? ⟨b, 0, none⟩ = some v from (World.cell?_alloc_past (w := w.drew) _ b 0 hlt).trans hv); have hf1 := (g1.frozen_far ⟨b, 0, none⟩ (by simp; omega) (Ne.symm hne)).trans (show (World.alloc _ _).frozen? ⟨b, 0, none⟩ = false from (World.frozen?_alloc_past (w := w.drew) _ b 0 hlt).trans hf))
  all_goals go_wp2
  all_goals go_end0
  all_goals rw [hle] at r1 o1
  all_goals exact ⟨rfl, push_post hR g1 r1 o1⟩
end Go.Proofs.Ytdhajfimhjbbiaa.Q
namespace Go.Proofs.Ytdhajfimhjbbiaa.Q
open Go Go.RowKit Go.Proofs.YtdhajfimhjbbiaaW.PrintWords Go.Proofs.YtdhajfimhjbbiaaW.PrintLast Go.Proofs.YtdhajfimhjbbiaaW.PrintMore
set_option linter.unusedVariables false
theorem Post.after {w w1 w2 : World} {base b : Nat} {v : Value} {xs : List (Int × Int)} (h : Post w base b v xs w1) (k : Eff (fun _ => False) w1 w2) : Post w base b v xs w2 := by
  obtain ⟨v', r, e, o⟩ := h
  exact ⟨v', r.eff k id (fun _ _ => id), e.trans k (fun _ h => h.elim), o⟩
theorem Post.alloc {w w1 : World} {base b : Nat} {v : Value} {xs : List (Int × Int)} (h : Post w base b v xs w1) (o : Obj) : Post w base b v xs (w1.alloc o) := h.after ((Eff.refl _ _).alloc o)
theorem Post.drew {w w1 : World} {base b : Nat} {v : Value} {xs : List (Int × Int)} (h : Post w base b v xs w1) : Post w base b v xs w1.drew := h.after ((Eff.refl _ _).drew)
theorem Post.drawn {w w1 w2 : World} {base b : Nat} {v : Value} {xs : List (Int × Int)} (h : Post w base b v xs w1) (k : Drawn0 w1 w2) : Post w base b v xs w2 := h.after ((Eff.refl _ _).drawn k)
theorem take_post {w : World} {base b n c : Nat} {ad : Addr} {xs : List (Int × Int)} (hR : Row w base b (.slice (some ad) n c) xs) (m : Nat) (hm : m ≤ xs.length) : Post w base b (.slice (some ad) n c) (xs.take m) (w.setCell ⟨b, 0, none⟩ (.slice (some ad) m c)) :=
  set_post hR (Eff.refl _ _) rfl (Kd.R_take hR.row hm) (fun _ hk => .inl hk)
set_option maxHeartbeats 4000000 in
set_option maxRecDepth 100000 in
theorem pop_calls (w : World) (base b : Nat) (v : Value) (xs : List (Int × Int)) (hR : Row w base b v xs) (hn : 0 < xs.length) (hm : xs.length < 1000000) :
    Calls Try.prog 107 #[.pointer (some ⟨b, 0, none⟩)] w fun e w' => e = .returned (.iface 67 (.agg #[.int .i64 (rdp xs (xs.length - 1)).1, .int .i64 (rdp xs (xs.length - 1)).2])) ∧ Post w base b v (xs.take (xs.length - 1)) w' := by
  have hv := hR.cell
  have hlt := hR.lt
  have hf := hR.fro
  have hne := hR.ne
  obtain ⟨A, c, rfl, hc, hC⟩ := Kd.R_reads hR.row
  obtain ⟨ad, rfl, hx1, hx2⟩ := at_p hC (xs.length - 1) (by omega) (by omega)
  have e1 : ((xs.length : Int) - 1).toNat = xs.length - 1 := by omega
  rw [e1] at hx1 hx2
  generalize rdp xs (xs.length - 1) = x at *
  generalize hnn : xs.length = n at *
  go_enter Try.func107, Try.ntmps107
  go_wp2
  go_ret
  exact ⟨rfl, (take_post hR (n - 1) (by omega)).alloc _⟩
end Go.Proofs.Ytdhajfimhjbbiaa.Q
namespace Go.Proofs.Ytdhajfimhjbbiaa.Q
open Go Go.RowKit Go.Proofs.YtdhajfimhjbbiaaW.PrintWords Go.Proofs.YtdhajfimhjbbiaaW.PrintLast Go.Proofs.YtdhajfimhjbbiaaW.PrintMore
set_option linter.unusedVariables false
theorem Row.form {w : World} {base b : Nat} {v : Value} {xs : List (Int × Int)} (h : Row w base b v xs) (hn : 0 < xs.length) : ∃ g cap, v = .slice (some ⟨g, 0, none⟩) xs.length cap ∧ xs.length ≤ cap := by
  obtain ⟨_, inner, ho, _⟩ := h.row
  obtain ⟨g, cap, e, _⟩ := ho.form hn
  obtain ⟨A, c, e2, hc, _⟩ := Kd.R_reads h.row
  subst e
  injection e2 with _ _ e3
  subst e3
  exact ⟨g, cap, rfl, hc⟩
theorem Row.after {w w1 : World} {base b : Nat} {v : Value} {xs : List (Int × Int)} (h : Row w base b v xs) (k : Drawn0 w w1) : Row w1 base b v xs := h.eff ((Eff.refl (fun _ => False) _).drawn k) id (fun _ _ => id)
theorem less_row {w : World} {base b : Nat} {v : Value} {xs : List (Int × Int)} (h : Row w base b v xs) (i j : Int) (hi0 : 0 ≤ i) (hi : i < xs.length) (hj0 : 0 ≤ j) (hj : j < xs.length) :
    Calls Try.prog 105 #[v, .int .i64 i, .int .i64 j] w fun e w' => e = .returned (.bool (lessB (rdp xs i) (rdp xs j))) ∧ Drawn0 w w' := by
  obtain ⟨A, c, rfl, hc, hC⟩ := Kd.R_reads h.row
  exact less_calls w A _ c xs i j hC hi0 hi hj0 hj
theorem swap_row {w : World} {base b : Nat} {v : Value} {xs : List (Int × Int)} (h : Row w base b v xs) (i j : Int) (hi0 : 0 ≤ i) (hi : i < xs.length) (hj0 : 0 ≤ j) (hj : j < xs.length) :
    Calls Try.prog 106 #[v, .int .i64 i, .int .i64 j] w fun e w' => e = .returned (.tuple #[]) ∧ Row w' base b v (swapL xs i j) ∧ Eff (Foot b v) w w' := by
  obtain ⟨g, cap, rfl, hc⟩ := h.form (by omega)
  refine (swap_calls w base g _ cap _ xs i j h.row hi0 hi hj0 hj).mono fun e w' ⟨he, hr, hg⟩ => ?_
  refine ⟨he, ⟨?_, h.from_, hr⟩, Eff.of_grown hg (fun i hi => .inr hi)⟩
  rw [hg.block b h.lt (fun e => h.ne e.symm)]
  exact h.blk
/-- heap.up, as the list has it. -/
def upL : Nat → List (Int × Int) → Nat → List (Int × Int)
  | 0, xs, _ => xs
  | f + 1, xs, j => if j = 0 then xs else if lessB (rdp xs j) (rdp xs ((j - 1) / 2 : Nat)) then upL f (swapL xs ((j - 1) / 2 : Nat) j) ((j - 1) / 2) else xs
set_option maxHeartbeats 4000000 in
set_option maxRecDepth 100000 in
theorem up_calls (w : World) (base b : Nat) (v : Value) (xs : List (Int × Int)) (j : Nat) (hR : Row w base b v xs) (hj : j < xs.length) (hm : xs.length < 1000000) :
    Calls Try.prog 66 #[.iface 65 (.pointer (some ⟨b, 0, none⟩)), .int .i64 j] w fun e w' => e = .returned (.tuple #[]) ∧ Row w' base b v (upL (j + 1) xs j) ∧ Eff (Foot b v) w w' := by
  go_enter Try.func66, Try.ntmps66
  go_wp2
  go_loopg [1] (j + 1) (fun k s1 wr => ∃ (j' : Nat) (xs' : List (Int × Int)), s1 = .int .i64 j' ∧ Aside0 (j' < k ∧ j' < xs'.length ∧ xs'.length = xs.length ∧ upL k xs' j' = upL (j + 1) xs j) ∧ Aside0 (Row wr base b v xs' ∧ Eff (Foot b v) w wr))
  case atStart => exact ⟨j, xs, rfl, Aside0.mk ⟨by omega, hj, rfl, rfl⟩, Aside0.mk ⟨hR, Eff.refl _ _⟩⟩
  case round =>
    obtain ⟨j', xs', rfl, A1, A2⟩ := hrel
    obtain ⟨h1, h2, h3, h4⟩ := A1.out
    obtain ⟨r1, e1⟩ := A2.out
    clear A1 A2
    by_cases hz : j' = 0
    · subst hz
      have A3 := Aside0.mk (And.intro h1 (And.intro h2 (And.intro h3 (And.intro h4 (And.intro r1 e1)))))
      clear h1 h2 h3 h4 r1 e1 hR
      go_wp2
      go_end0
      obtain ⟨h1, h2, h3, h4, r1, e1⟩ := A3.out
      obtain ⟨k', rfl⟩ : ∃ k', gk = k' + 1 := ⟨gk - 1, by omega⟩
      rw [← h4]
      exact ⟨rfl, by simpa [upL] using r1, e1⟩
    · have A3 := Aside0.mk (And.intro h1 (And.intro h2 (And.intro h3 (And.intro h4 (And.intro r1 e1)))))
      obtain ⟨i, hi⟩ : ∃ i : Nat, i = (j' - 1) / 2 := ⟨_, rfl⟩
      have q1 : ((j' : Int) - 1).tdiv 2 = (i : Int) := by rw [show ((j' : Int) - 1) = ((j' - 1 : Nat) : Int) by omega]; rw [hi]; exact (Int.ofNat_tdiv _ _).symm
      have q2 : ((i : Int) == (j' : Int)) = false := beq_eq_false_iff_ne.2 (by omega)
      have hv := r1.cell
      have q3 : wrap64 (i : Int) = i := by unfold wrap64; omega
      have hL := method_less ⟨b, 0, none⟩ wr v hv
      have B : j' < 1000000 := by omega
      have A4 := Aside0.mk hi
      obtain ⟨lb, hlb⟩ : ∃ lb, lb = lessB (rdp xs' j') (rdp xs' i) := ⟨_, rfl⟩
      have A5 := Aside0.mk hlb
      have C := less_row r1 j' i (by omega) (by omega) (by omega) (by omega)
      rw [← hlb] at C
      clear h1 h2 h3 h4 r1 e1 hR hi hlb
      obtain ⟨k', rfl⟩ : ∃ k', gk = k' + 1 := ⟨gk - 1, by have := A3.out; omega⟩
      cases lb
      · go_wp2_with (go_at_call 105; refine C.mono ?_; rintro e w1 ⟨rfl, d1⟩)
        go_end0
        obtain ⟨h1, h2, h3, h4, r1, e1⟩ := A3.out
        have hlb := A5.out
        have hi := A4.out
        rw [← h4]
        refine ⟨rfl, ?_, e1.drawn d1⟩
        unfold upL
        rw [if_neg hz, ← hi, ← hlb]
        exact r1.after d1
      · go_wp2_with (first | (go_at_call 105; refine C.mono ?_; rintro e w1 ⟨rfl, d1⟩; have hS := method_swap ⟨b, 0, none⟩ w1 v (Row.cell (Row.after A3.out.2.2.2.2.1 d1))) | (go_at_call 106; refine (swap_row (Row.after A3.out.2.2.2.2.1 d1) i j' (by omega) (by have := A3.out; have := A4.out; omega) (by omega) (by have := A3.out; omega)).mono ?_; rintro e w2 ⟨rfl, r2, e2⟩))
        go_roundg k'
        case measure => omega
        case rel =>
          obtain ⟨h1, h2, h3, h4, r1, e1⟩ := A3.out
          have hlb := A5.out
          have hi := A4.out
          refine ⟨i, swapL xs' i j', rfl, Aside0.mk ⟨by omega, by rw [swapL_length]; omega, by rw [swapL_length]; omega, ?_⟩, Aside0.mk ⟨r2, (e1.drawn d1).trans e2 (fun _ h => .inl h)⟩⟩
          rw [← h4]
          conv => rhs; unfold upL
          rw [if_neg hz, ← hi, ← hlb, if_pos rfl]
end Go.Proofs.Ytdhajfimhjbbiaa.Q
