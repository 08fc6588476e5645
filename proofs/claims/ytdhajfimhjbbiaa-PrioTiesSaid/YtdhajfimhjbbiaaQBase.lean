import Derived.Test.YtdhajfimhjbbiaaProg
import Derived.BigRegion
import Derived.BigQuiet
import Derived.Deep.QuietTactic
import Derived.Deep.AppendLies
import Derived.ChangeAlike
import Derived.Outline
import Derived.WalkKit
import Derived.KernelRfl
import Derived.Deep.LoopGhost
import Derived.Deep.RegionLaw
import Derived.Test.YtdhajfimhjbbiaaWMore
import Derived.Test.YtdhajfimhjbbiaaWKept
namespace Go.Proofs.Ytdhajfimhjbbiaa.Q
open Go Go.RowKit Go.Proofs.YtdhajfimhjbbiaaW.PrintWords Go.Proofs.YtdhajfimhjbbiaaW.PrintLast Go.Proofs.YtdhajfimhjbbiaaW.PrintMore
set_option linter.unusedVariables false
/-- What waits: its place, its id. -/
abbrev kd : Kd (Int × Int) := Kd.pair (Kd.int .i64) (Kd.int .i64)
theorem kd_open {w : World} {x : Int × Int} {cs : List Value} (h : kd.K w x cs) : cs = [.int .i64 x.1, .int .i64 x.2] := by
  obtain ⟨_, _, rfl, rfl, rfl⟩ := h
  rfl
theorem kd_mk (w : World) (base : Nat) (ok : Nat → Prop) (x : Int × Int) : kd.M w base ok x [.int .i64 x.1, .int .i64 x.2] := ⟨[.int .i64 x.1], [.int .i64 x.2], rfl, rfl, rfl⟩
def rdp (xs : List (Int × Int)) (i : Int) : Int × Int := xs.getD i.toNat (0, 0)
theorem at_p {w : World} {A : Option Addr} {n : Nat} {xs : List (Int × Int)} (h : Kd.C kd w A n xs) (i : Int) (h0 : 0 ≤ i) (h1 : i < n) :
    ∃ ad, A = some ad ∧ w.cell? (ad.add (i.toNat * 2)) = some (.int .i64 (rdp xs i).1) ∧ w.cell? ⟨(ad.add (i.toNat * 2)).block, (ad.add (i.toNat * 2)).off + 1, none⟩ = some (.int .i64 (rdp xs i).2) := by
  obtain ⟨ad, c, e, _, hK, hc0⟩ := Kd.C_get h (0, 0) i h0 h1
  have hc : ∀ j u, c[j]? = some u → w.cell? (ad.add (i.toNat * 2 + j)) = some u := hc0
  obtain rfl := kd_open hK
  exact ⟨ad, e, hc 0 _ rfl, by rw [← add_field _ _ 1 (by omega)]; exact hc 1 _ rfl⟩
/-- Does x come ahead of y? -/
def lessB (x y : Int × Int) : Bool := decide (y.1 < x.1) || ((x.1 == y.1) && decide (x.2 < y.2))
set_option maxHeartbeats 4000000 in
set_option maxRecDepth 100000 in
theorem less_calls (w : World) (A : Option Addr) (n c : Nat) (xs : List (Int × Int)) (i j : Int) (hC : Kd.C kd w A n xs) (hi0 : 0 ≤ i) (hi : i < n) (hj0 : 0 ≤ j) (hj : j < n) :
    Calls Try.prog 105 #[.slice A n c, .int .i64 i, .int .i64 j] w fun e w' => e = .returned (.bool (lessB (rdp xs i) (rdp xs j))) ∧ Drawn0 w w' := by
  obtain ⟨ad, rfl, hx1, hx2⟩ := at_p hC i hi0 hi
  obtain ⟨ad', e, hy1, hy2⟩ := at_p hC j hj0 hj
  injection e with e
  subst e
  clear hC
  unfold lessB
  generalize rdp xs i = x at *
  generalize rdp xs j = y at *
  have pi0 := eq_true hi0
  have pi1 := eq_true hi
  have pj0 := eq_true hj0
  have pj1 := eq_true hj
  clear hi0 hi hj0 hj
  by_cases c1 : y.1 < x.1
  · have d1 : decide (y.1 < x.1) = true := decide_eq_true c1
    rw [d1, Bool.true_or]
    clear c1
    go_enter Try.func105, Try.ntmps105
    go_wp2
    go_quiet (fail)
    go_wp2
    go_ret
    exact ⟨rfl, ⟨⟨_, rfl⟩⟩⟩
  · have d1 : decide (y.1 < x.1) = false := decide_eq_false c1
    rw [d1, Bool.false_or]
    clear c1
    by_cases c2 : x.1 = y.1
    · have d2 : (x.1 == y.1) = true := beq_iff_eq.2 c2
      rw [d2, Bool.true_and]
      clear c2
      go_enter Try.func105, Try.ntmps105
      go_wp2
      go_quiet (fail)
      go_wp2
      go_ret
      exact ⟨rfl, ⟨⟨_, rfl⟩⟩⟩
    · have d2 : (x.1 == y.1) = false := beq_eq_false_iff_ne.2 c2
      rw [d2, Bool.false_and]
      clear c2
      go_enter Try.func105, Try.ntmps105
      go_wp2
      go_quiet (fail)
      go_wp2
      go_ret
      exact ⟨rfl, ⟨⟨_, rfl⟩⟩⟩
set_option maxHeartbeats 4000000 in
set_option maxRecDepth 100000 in
theorem swap_walk (w : World) (g n c : Nat) (i j : Int) (x y : Int × Int) (hi0 : 0 ≤ i) (hi : i < n) (hj0 : 0 ≤ j) (hj : j < n)
    (hx1 : w.cell? ⟨g, i.toNat * 2, none⟩ = some (.int .i64 x.1)) (hx2 : w.cell? ⟨g, i.toNat * 2 + 1, none⟩ = some (.int .i64 x.2)) (hy1 : w.cell? ⟨g, j.toNat * 2, none⟩ = some (.int .i64 y.1)) (hy2 : w.cell? ⟨g, j.toNat * 2 + 1, none⟩ = some (.int .i64 y.2))
    (hf : ∀ k, w.frozen? ⟨g, k, none⟩ = false) :
    Calls Try.prog 106 #[.slice (some ⟨g, 0, none⟩) n c, .int .i64 i, .int .i64 j] w fun e w' => e = .returned (.tuple #[]) ∧ w' = ((((w.setCell ⟨g, i.toNat * 2, none⟩ (.int .i64 y.1)).setCell ⟨g, i.toNat * 2 + 1, none⟩ (.int .i64 y.2)).setCell ⟨g, j.toNat * 2, none⟩ (.int .i64 x.1)).setCell ⟨g, j.toNat * 2 + 1, none⟩ (.int .i64 x.2)).drew := by
  have pi0 := eq_true hi0
  have pi1 := eq_true hi
  have pj0 := eq_true hj0
  have pj1 := eq_true hj
  have f1 := hf (i.toNat * 2)
  have f2 := hf (i.toNat * 2 + 1)
  have f3 := hf (j.toNat * 2)
  have f4 := hf (j.toNat * 2 + 1)
  by_cases hij : i.toNat = j.toNat
  · obtain rfl : i = j := by omega
    rw [hx1] at hy1
    rw [hx2] at hy2
    obtain rfl : x = y := by
      injection hy1 with a
      injection a with _ a
      injection hy2 with b
      injection b with _ b
      exact Prod.ext a b
    clear hi0 hi hj0 hj hf hij hy1 hy2
    have s1 : ((w.setCell ⟨g, i.toNat * 2, none⟩ (.int .i64 x.1)).setCell ⟨g, i.toNat * 2 + 1, none⟩ (.int .i64 x.2)).cell? ⟨g, i.toNat * 2, none⟩ = some (.int .i64 x.1) := by
      rw [World.cell?_setCell_other _ _ _ _ (by intro e; injection e with _ e; omega)]
      exact World.cell?_setCell_same' _ _ _ (by rw [hx1]; rfl)
    have s2 : (((w.setCell ⟨g, i.toNat * 2, none⟩ (.int .i64 x.1)).setCell ⟨g, i.toNat * 2 + 1, none⟩ (.int .i64 x.2)).setCell ⟨g, i.toNat * 2, none⟩ (.int .i64 x.1)).cell? ⟨g, i.toNat * 2 + 1, none⟩ = some (.int .i64 x.2) := by
      rw [World.cell?_setCell_other _ _ _ _ (by intro e; injection e with _ e; omega)]
      exact World.cell?_setCell_same' _ _ _ (by rw [World.cell?_setCell_other _ _ _ _ (by intro e; injection e with _ e; omega), hx2]; rfl)
    go_enter Try.func106, Try.ntmps106
    go_wp2
    go_region
    go_end0
    exact ⟨rfl, rfl⟩
  · have hij2 : i.toNat ≠ j.toNat := hij
    clear hi0 hi hj0 hj hf
    go_enter Try.func106, Try.ntmps106
    go_wp2
    go_region
    go_end0
    exact ⟨rfl, rfl⟩
def swapL (xs : List (Int × Int)) (i j : Int) : List (Int × Int) := (xs.set i.toNat (rdp xs j)).set j.toNat (rdp xs i)
theorem swapL_length (xs : List (Int × Int)) (i j : Int) : (swapL xs i j).length = xs.length := by simp [swapL]
/-- A row of one's own: one element is written. -/
theorem R_write {w : World} {base g n cap : Nat} {ok : Nat → Prop} {xs : List (Int × Int)} (h : kd.R 67 w base ok (.slice (some ⟨g, 0, none⟩) n cap) xs) (i : Int) (h0 : 0 ≤ i) (h1 : i < n) (y : Int × Int) :
    kd.R 67 ((w.setCell ⟨g, i.toNat * 2, none⟩ (.int .i64 y.1)).setCell ⟨g, i.toNat * 2 + 1, none⟩ (.int .i64 y.2)) base ok (.slice (some ⟨g, 0, none⟩) n cap) (xs.set i.toNat y) ∧ w.grownBy ((w.setCell ⟨g, i.toNat * 2, none⟩ (.int .i64 y.1)).setCell ⟨g, i.toNat * 2 + 1, none⟩ (.int .i64 y.2)) (some g) := by
  obtain ⟨c, hcl, _, hcc, _⟩ := Kd.R_elem h (0, 0) i h0 h1
  have h2 := Kd.R_seg (okp := fun _ => False) (x' := y) (seg := [.int .i64 y.1, .int .i64 y.2]) (j := 0) h i h0 h1 hcl hcc (Nat.le_refl 2) (by
    have hc2 : c.length = 2 := hcl
    have e : c.take 0 ++ [Value.int .i64 y.1, .int .i64 y.2] ++ c.drop (0 + [Value.int .i64 y.1, .int .i64 y.2].length) = [.int .i64 y.1, .int .i64 y.2] := by
      rw [List.drop_eq_nil_of_le (by simp [hc2])]
      rfl
    rw [e]
    exact kd_mk w base _ y) (fun _ hk => hk.elim)
  exact h2
theorem grown_trans {w w1 w2 : World} {r : Option Nat} (h : w.grownBy w1 r) (k : w1.grownBy w2 r) : w.grownBy w2 r :=
  ⟨k.os.trans h.os, k.tape.trans h.tape, k.output.trans h.output, Nat.le_trans h.size k.size, fun i hi hn => (k.block i (Nat.lt_of_lt_of_le hi h.size) hn).trans (h.block i hi hn)⟩
theorem grown_drew {w w1 : World} {r : Option Nat} (h : w.grownBy w1 r) : w.grownBy w1.drew r := ⟨h.os, h.tape, h.output, h.size, h.block⟩
theorem swap_calls (w : World) (base g n cap : Nat) (ok : Nat → Prop) (xs : List (Int × Int)) (i j : Int) (h : kd.R 67 w base ok (.slice (some ⟨g, 0, none⟩) n cap) xs) (hi0 : 0 ≤ i) (hi : i < n) (hj0 : 0 ≤ j) (hj : j < n) :
    Calls Try.prog 106 #[.slice (some ⟨g, 0, none⟩) n cap, .int .i64 i, .int .i64 j] w fun e w' => e = .returned (.tuple #[]) ∧ kd.R 67 w' base ok (.slice (some ⟨g, 0, none⟩) n cap) (swapL xs i j) ∧ w.grownBy w' (some g) := by
  obtain ⟨hn, _, hC⟩ := Kd.R_reads' h
  obtain ⟨ad, e1, hx1, hx2⟩ := at_p hC i hi0 (by omega)
  obtain ⟨ad', e2, hy1, hy2⟩ := at_p hC j hj0 (by omega)
  injection e1 with e1
  injection e2 with e2
  subst e1 e2
  rw [add_plain] at hx1 hx2 hy1 hy2
  have hf : ∀ k, w.frozen? ⟨g, k, none⟩ = false := by
    obtain ⟨_, inner, ho, _⟩ := h
    obtain ⟨cells, hc⟩ := own_typed ho g (by simp [Value.ownBlock])
    exact fun k => blk_frozen hc k
  refine (swap_walk w g n cap i j (rdp xs i) (rdp xs j) hi0 hi hj0 hj hx1 hx2 hy1 hy2 hf).mono fun e w' ⟨he, hw⟩ => ?_
  subst hw
  obtain ⟨r1, g1⟩ := R_write h i hi0 hi (rdp xs j)
  obtain ⟨r2, g2⟩ := R_write r1 j hj0 hj (rdp xs i)
  exact ⟨he, r2, grown_drew (grown_trans g1 g2)⟩
@[go_sem] theorem method_push (a : Addr) (w : World) : (method 256 65 (.pointer (some a)) "Push").run Try.prog w = .ok (108, .pointer (some a)) w := by kernel_rfl
@[go_sem] theorem method_pop (a : Addr) (w : World) : (method 256 65 (.pointer (some a)) "Pop").run Try.prog w = .ok (107, .pointer (some a)) w := by kernel_rfl
theorem method_len0 (a : Addr) (w : World) : (method 256 65 (.pointer (some a)) "Len").run Try.prog w = (Sem.load .plain a (fun v => .pure ((104 : FuncId), v))).run Try.prog w := by kernel_rfl
theorem method_less0 (a : Addr) (w : World) : (method 256 65 (.pointer (some a)) "Less").run Try.prog w = (Sem.load .plain a (fun v => .pure ((105 : FuncId), v))).run Try.prog w := by kernel_rfl
theorem method_swap0 (a : Addr) (w : World) : (method 256 65 (.pointer (some a)) "Swap").run Try.prog w = (Sem.load .plain a (fun v => .pure ((106 : FuncId), v))).run Try.prog w := by kernel_rfl
theorem method_len (a : Addr) (w : World) (v : Value) (h : w.cell? a = some v) : (method 256 65 (.pointer (some a)) "Len").run Try.prog w = .ok ((104 : FuncId), v) w := by rw [method_len0]; simp [Sem.run, h]
theorem method_less (a : Addr) (w : World) (v : Value) (h : w.cell? a = some v) : (method 256 65 (.pointer (some a)) "Less").run Try.prog w = .ok ((105 : FuncId), v) w := by rw [method_less0]; simp [Sem.run, h]
theorem method_swap (a : Addr) (w : World) (v : Value) (h : w.cell? a = some v) : (method 256 65 (.pointer (some a)) "Swap").run Try.prog w = .ok ((106 : FuncId), v) w := by rw [method_swap0]; simp [Sem.run, h]
@[go_sem] theorem as_one (v : Value) (w : World) : (Instr.typeAssert (.iface 67 v) 20 67 true).run Try.prog w = .ok (.tuple #[v, .bool true]) w := by kernel_rfl
end Go.Proofs.Ytdhajfimhjbbiaa.Q
