import Derived.Test.YtcmepoakcffpaaaGreatProg
import Derived.BigRegion
import Derived.BigQuiet
import Derived.Deep.QuietTactic
import Derived.Deep.AppendLies
import Derived.ChangeAlike
import Derived.Outline
import Derived.WalkKit
import Derived.KernelRfl
import Derived.Deep.LoopGhost
import Derived.Deep.RegionLaw
import Derived.Test.YtcmepoakcffpaaaGreatWMore
import Derived.Test.YtcmepoakcffpaaaGreatWKept
import Derived.Test.YtcmepoakcffpaaaGreatLSep
import Derived.Test.YtcmepoakcffpaaaGreatCBase
namespace Go.Proofs.YtcmepoakcffpaaaGreat.CP
open Go Go.RowKit Go.Proofs.YtcmepoakcffpaaaGreatW.PrintWords Go.Proofs.YtcmepoakcffpaaaGreatW.PrintLast Go.Proofs.YtcmepoakcffpaaaGreatW.PrintMore Go.Proofs.YtcmepoakcffpaaaGreat.CR Go.Proofs.YtcmepoakcffpaaaGreat.L
set_option linter.unusedVariables false
set_option linter.unusedSimpArgs false
def RdAt (b : Nat) (s : ByteArray) (bad : Bool) : HP := CellsAt b #[.string s, .bool bad] 136
theorem RdAt.set0 {b : Nat} {s : ByteArray} {bad : Bool} {W : World} {F : Nat → Prop} (h : (RdAt b s bad).on W F) (s' : ByteArray) : Upd W F (RdAt b s' bad) (W.setCell ⟨b, 0, none⟩ (.string s')) := CellsAt.set h 0 _
theorem RdAt.set1 {b : Nat} {s : ByteArray} {bad : Bool} {W : World} {F : Nat → Prop} (h : (RdAt b s bad).on W F) (bad' : Bool) : Upd W F (RdAt b s bad') (W.setCell ⟨b, 1, none⟩ (.bool bad')) := CellsAt.set h 1 _
/-- What take tells, and leaves. -/
def takeB (n : Nat) (s : ByteArray) (bad : Bool) : ByteArray × ByteArray × Bool := if bad = true ∨ s.size < n then (⟨#[]⟩, s, true) else (s.extract 0 n, s.extract n s.size, false)
set_option maxHeartbeats 1600000 in
set_option maxRecDepth 100000 in
theorem take_calls (b : Nat) (s : ByteArray) (bad : Bool) (W : World) (F : Nat → Prop) (h : (RdAt b s bad).on W F) (n : Nat) (hn : n < 4294967296) :
    Calls Tryz.prog 107 #[.pointer (some ⟨b, 0, none⟩), .int .i64 n] W fun e w' => e = .returned (.string (takeB n s bad).1) ∧ Upd W F (RdAt b (takeB n s bad).2.1 (takeB n s bad).2.2) w' := by
  have c0 : W.cell? ⟨b, 0, none⟩ = some (.string s) := CellsAt.cell h 0
  have c1 : W.cell? ⟨b, 1, none⟩ = some (.bool bad) := CellsAt.cell h 1
  have f0 : W.frozen? ⟨b, 0, none⟩ = false := CellsAt.frozen h 0
  have f1 : W.frozen? ⟨b, 1, none⟩ = false := CellsAt.frozen h 1
  cases bad with
  | true =>
    have hr : takeB n s true = (⟨#[]⟩, s, true) := by simp [takeB]
    rw [hr]
    have H := Aside0.mk (RdAt.set1 h true)
    clear h hr
    go_enter Tryz.func107, Tryz.ntmps107
    go_wp2
    go_ret
    exact ⟨rfl, H.out⟩
  | false =>
    by_cases hl : s.size < n
    · have hr : takeB n s false = (⟨#[]⟩, s, true) := by simp [takeB, hl]
      rw [hr]
      have p1 : ((s.size : Int) < (n : Int)) = True := eq_true (by omega)
      have H := Aside0.mk (RdAt.set1 h true)
      clear h hr hl
      go_enter Tryz.func107, Tryz.ntmps107
      go_wp2
      go_ret
      exact ⟨rfl, H.out⟩
    · have hr : takeB n s false = (s.extract 0 n, s.extract n s.size, false) := by simp [takeB, hl]
      rw [hr]
      have p1 : ((s.size : Int) < (n : Int)) = False := eq_false (by omega)
      have p2 : ((n : Int) ≤ (s.size : Int)) = True := eq_true (by omega)
      have H := Aside0.mk ((RdAt.set1 h false).trans (fun F1 h1 => RdAt.set0 h1 (s.extract n s.size)))
      clear h hr hl
      go_enter Tryz.func107, Tryz.ntmps107
      go_wp2
      go_ret
      exact ⟨rfl, H.out⟩
/-- A text's bytes as a number. -/
def nvalB (s : ByteArray) : Nat := nval s.data.toList
def numB (n : Nat) (s : ByteArray) (bad : Bool) : Nat × ByteArray × Bool := (nvalB (takeB n s bad).1, (takeB n s bad).2)
theorem takeB_size (n : Nat) (s : ByteArray) (bad : Bool) : (takeB n s bad).1.size ≤ n := by
  unfold takeB
  split
  · exact Nat.zero_le _
  · simp only [ByteArray.size_extract]; omega
theorem foldl_take (l : List UInt8) (i : Nat) (h : i < l.length) : nval (l.take (i + 1)) = nval (l.take i) * 256 + l[i].toNat := by
  rw [List.take_succ_eq_append_getElem h]
  unfold nval
  rw [List.foldl_append]
  rfl
theorem nval_lt : ∀ (l : List UInt8) (n : Nat), l.length ≤ n → nval l < 256 ^ n := by
  intro l n h
  have h1 : ∀ (l : List UInt8) (v : Nat), l.foldl (fun v b => v * 256 + b.toNat) v < (v + 1) * 256 ^ l.length := by
    intro l
    induction l with
    | nil => intro v; simp
    | cons b l ih =>
      intro v
      rw [List.foldl_cons, List.length_cons]
      refine Nat.lt_of_lt_of_le (ih _) ?_
      rw [Nat.pow_succ, Nat.mul_comm (256 ^ l.length) 256, ← Nat.mul_assoc]
      exact Nat.mul_le_mul_right _ (by have := b.toNat_lt; omega)
  have h2 := h1 l 0
  unfold nval
  refine Nat.lt_of_lt_of_le h2 ?_
  rw [Nat.zero_add, Nat.one_mul]
  exact Nat.pow_le_pow_right (by decide) h
theorem nval_take_le (l : List UInt8) (i : Nat) (h : l.length ≤ 2) (hi : i ≤ l.length) : nval (l.take i) < 65536 := nval_lt _ 2 (by simp; omega)
theorem or8 (v x : Nat) (hv : v < 281474976710656) (hx : x < 256) : bits .or .i64 (wrap64 ((v : Int) * 256)) (wrap64 (x : Int)) = ((v * 256 + x : Nat) : Int) := by
  have e1 : wrap64 ((v : Int) * 256) = (v : Int) * 256 := by unfold wrap64; omega
  have e2 : wrap64 (x : Int) = (x : Int) := by unfold wrap64; omega
  rw [e1, e2, bits_join .i64 62 (by decide) (fun n h0 h1 => by rw [IntKind.wrap_i64]; omega) 8 _ _ (by omega) (by omega) (by omega) (by omega) (by omega) (by omega)]
  omega
set_option maxHeartbeats 1600000 in
set_option maxRecDepth 100000 in
theorem num_calls (b : Nat) (s : ByteArray) (bad : Bool) (W : World) (F : Nat → Prop) (h : (RdAt b s bad).on W F) (n : Nat) (hn : n ≤ 2) :
    Calls Tryz.prog 95 #[.pointer (some ⟨b, 0, none⟩), .int .i64 n] W fun e w' => e = .returned (.int .i64 (numB n s bad).1) ∧ Upd W F (RdAt b (numB n s bad).2.1 (numB n s bad).2.2) w' := by
  have C := take_calls b s bad W F h n (by omega)
  have hs := takeB_size n s bad
  unfold numB
  dsimp only
  generalize (takeB n s bad).1 = t at *
  generalize (takeB n s bad).2 = r at *
  clear h
  go_enter Tryz.func95, Tryz.ntmps95
  go_wp2_with (go_at_call 107; refine C.mono ?_; rintro e w1 ⟨rfl, hU⟩)
  have HU := Aside0.mk hU
  have HS := Aside0.mk hs
  clear C hU hs
  go_loopg [5, 13] t.size (fun k s5 s13 wr => ∃ i : Nat, s13 = .int .i64 i ∧ i + k = t.size ∧ s5 = .int .i64 (nval (t.data.toList.take i)) ∧ wr = w1)
  case atStart => exact ⟨0, rfl, by omega, rfl, rfl⟩
  case round =>
    obtain ⟨i, rfl, h1, rfl, rfl⟩ := hrel
    by_cases hi : i < t.size
    · have p1 : ((i : Int) < (t.size : Int)) = True := eq_true (by omega)
      have p0 : (0 ≤ (i : Int)) = True := eq_true (by omega)
      go_wp2
      have e := or8 (nval (t.data.toList.take i)) t[i].toNat (Nat.lt_of_lt_of_le (nval_take_le t.data.toList i (by rw [← size_data]; have := HS.out; omega) (by rw [← size_data]; omega)) (by decide)) t[i].toNat_lt
      have e2 : nval (t.data.toList.take i) * 256 + t[i].toNat = nval (t.data.toList.take (i + 1)) := by
        rw [foldl_take _ i (by rw [← size_data]; omega)]
        rfl
      rw [e2] at e
      rw [e]
      clear e e2
      go_roundg (gk - 1)
      case measure => omega
      case rel => exact ⟨i + 1, by have := HS.out; rw [show wrap64 ((i : Int) + 1) = ((i + 1 : Nat) : Int) from by unfold wrap64; omega], by omega, rfl, rfl⟩
    · have p1 : ((i : Int) < (t.size : Int)) = False := eq_false (by omega)
      have he : t.data.toList.take i = t.data.toList := List.take_of_length_le (by rw [← size_data]; omega)
      rw [he]
      clear he
      go_wp2
      go_ret
      exact ⟨rfl, HU.out⟩
/-- What a cell's reading tells, and leaves. -/
def cellB (s : ByteArray) (bad : Bool) : B × ByteArray × Bool :=
  let a := numB 1 s bad; let k := takeB a.1 a.2.1 a.2.2; let kd := numB 1 k.2.1 k.2.2; let n := numB 2 kd.2.1 kd.2.2
  if kd.1 = 0 then let v := takeB n.1 n.2.1 n.2.2; (⟨k.1, v.1, 0, 0⟩, v.2) else let b := numB 2 n.2.1 n.2.2; (⟨k.1, ⟨#[]⟩, b.1, n.1⟩, b.2)
theorem numB_lt (n : Nat) (hn : n ≤ 2) (s : ByteArray) (bad : Bool) : (numB n s bad).1 < 65536 := nval_lt _ 2 (by rw [← size_data]; have := takeB_size n s bad; omega)
/-- The reader, alone in its block. -/
def Rd8 (w : World) (b : Nat) (s : ByteArray) (bad : Bool) : Prop := w.heap[b]? = some (.cells #[.string s, .bool bad] 136 (0, 0))
theorem Rd8.lt {w : World} {b : Nat} {s : ByteArray} {bad : Bool} (h : Rd8 w b s bad) : b < w.heap.size := (Array.getElem?_eq_some_iff.1 h).1
theorem Rd8.on {w : World} {b : Nat} {s : ByteArray} {bad : Bool} (h : Rd8 w b s bad) : (RdAt b s bad).on w (fun k => k = b) := ⟨h, rfl, by rintro k rfl; exact h.lt⟩
theorem Rd8.of {W w : World} {b : Nat} {s : ByteArray} {bad : Bool} (h : Upd W (fun k => k = b) (RdAt b s bad) w) : Rd8 w b s bad ∧ Eff (fun k => k = b) W w := by
  obtain ⟨F, h1, e, _⟩ := h
  exact ⟨h1.1, e⟩
theorem take8 (b : Nat) (s : ByteArray) (bad : Bool) (W : World) (h : Rd8 W b s bad) (n : Nat) (hn : n < 4294967296) :
    Calls Tryz.prog 107 #[.pointer (some ⟨b, 0, none⟩), .int .i64 n] W fun e w' => e = .returned (.string (takeB n s bad).1) ∧ Rd8 w' b (takeB n s bad).2.1 (takeB n s bad).2.2 ∧ Eff (fun k => k = b) W w' :=
  (take_calls b s bad W _ h.on n hn).mono fun e w' ⟨he, hu⟩ => ⟨he, Rd8.of hu⟩
theorem num8 (b : Nat) (s : ByteArray) (bad : Bool) (W : World) (h : Rd8 W b s bad) (n : Nat) (hn : n ≤ 2) :
    Calls Tryz.prog 95 #[.pointer (some ⟨b, 0, none⟩), .int .i64 n] W fun e w' => e = .returned (.int .i64 (numB n s bad).1) ∧ Rd8 w' b (numB n s bad).2.1 (numB n s bad).2.2 ∧ Eff (fun k => k = b) W w' :=
  (num_calls b s bad W _ h.on n hn).mono fun e w' ⟨he, hu⟩ => ⟨he, Rd8.of hu⟩
end Go.Proofs.YtcmepoakcffpaaaGreat.CP
