import Derived.Test.YtbfpmgbfkipiaaaProg
import Derived.BigRegion
import Derived.BigQuiet
import Derived.Deep.QuietTactic
import Derived.Deep.AppendLies
import Derived.ChangeAlike
import Derived.Outline
import Derived.WalkKit
import Derived.KernelRfl
import Derived.Deep.LoopGhost
import Derived.Deep.RegionLaw
import Derived.Test.YtbfpmgbfkipiaaaWMore
import Derived.Test.YtbfpmgbfkipiaaaWKept
import Derived.Test.YtbfpmgbfkipiaaaLSep
namespace Go.Proofs.Ytbfpmgbfkipiaaa.MD
open Go Go.RowKit Go.Proofs.YtbfpmgbfkipiaaaW.PrintWords Go.Proofs.YtbfpmgbfkipiaaaW.PrintLast Go.Proofs.YtbfpmgbfkipiaaaW.PrintMore Go.Proofs.Ytbfpmgbfkipiaaa.L
set_option linter.unusedVariables false
set_option linter.unusedSimpArgs false
/-- What was written: a value, or that there is none. -/
structure Wr where
  key : ByteArray
  val : ByteArray
  gone : Bool
deriving Inhabited
def cellsW (c : Wr) : List Value := [.string c.key, .string c.val, .bool c.gone]
abbrev Wr.v (c : Wr) : Value := .agg #[.string c.key, .string c.val, .bool c.gone]
def kdW : Kd Wr where
  sz := 3
  E := []
  K := fun _ x cs => cs = cellsW x
  M := fun _ _ _ x cs => cs = cellsW x
  K_len := by rintro w x cs rfl; rfl
  K_one := by
    rintro w x cs rfl u hu
    simp only [cellsW, List.mem_cons, List.not_mem_nil, or_false] at hu
    rcases hu with rfl | rfl | rfl <;> rfl
  K_below := fun _ h => h
  K_of_M := fun h => h
  M_mono := fun _ h => h
  M_bound := fun h => h
  M_move := fun _ h => h
  M_lower := fun _ h => h
theorem add_off (ad : Addr) (i j : Nat) (hj : j ≠ 0) : ad.add (i + j) = { block := (ad.add i).block, off := (ad.add i).off + j } := by
  unfold Addr.add
  rw [if_neg (by omega)]
  by_cases hi : i = 0
  · rw [if_pos hi, hi, Nat.zero_add]
  · rw [if_neg hi, Nat.add_assoc]
theorem at_W {w : World} {A : Option Addr} {n : Nat} {ls : List Wr} (h : Kd.C kdW w A n ls) (i : Nat) (h1 : i < n) :
    ∃ ad, A = some ad ∧ w.cell? (ad.add (i * 3)) = some (.string (ls.getD i default).key) ∧ w.cell? { block := (ad.add (i * 3)).block, off := (ad.add (i * 3)).off + 1 } = some (.string (ls.getD i default).val) ∧ w.cell? { block := (ad.add (i * 3)).block, off := (ad.add (i * 3)).off + 2 } = some (.bool (ls.getD i default).gone) := by
  obtain ⟨ad, c, e, _, hK, hc0⟩ := Kd.C_get h (default : Wr) (i : Int) (by omega) (by omega)
  have hc : ∀ j u, c[j]? = some u → w.cell? (ad.add (i * 3 + j)) = some u := hc0
  have hK2 : c = cellsW (ls.getD i default) := hK
  subst hK2
  exact ⟨ad, e, hc 0 _ rfl, by rw [← add_off _ _ 1 (by decide)]; exact hc 1 _ rfl, by rw [← add_off _ _ 2 (by decide)]; exact hc 2 _ rfl⟩
/-- A transaction: what it wrote, how much there was at its savepoints. -/
structure One where
  l : List Wr
  saves : List Int
abbrev kdI : Kd Int := Kd.int .i64
/-- Block b is a transaction. -/
def OneAt (b : Nat) (x : One) : HP where
  on := fun W F => ∃ vl vs, W.heap[b]? = some (.cells #[vl, vs] 55 (0, 0)) ∧ F b ∧ (∀ k, F k → k < W.heap.size) ∧ kdW.R 58 W 0 (fun k => F k ∧ k ≠ b) vl x.l ∧ kdI.R 3 W 0 (fun k => F k ∧ k ≠ b) vs x.saves
  frame := by
    rintro W W' F ⟨vu, vs, h1, h2, h3, h4, h5⟩ hk
    exact ⟨vu, vs, (hk b h2).trans h1, h2, fun k hF => lt_of_same (h3 k hF) (hk k hF), Kd.R_step h4 (fun k h _ => hk k h.1), Kd.R_step h5 (fun k h _ => hk k h.1)⟩
  lt := by
    rintro W F k ⟨vu, vs, h1, h2, h3, h4, h5⟩ hk
    exact h3 k hk
theorem OneAt.cells {b : Nat} {x : One} {W : World} {F : Nat → Prop} (h : (OneAt b x).on W F) : ∃ vl vs, W.cell? ⟨b, 0, none⟩ = some vl ∧ W.cell? ⟨b, 1, none⟩ = some vs ∧ (∀ i, W.frozen? ⟨b, i, none⟩ = false) ∧ kdW.R 58 W 0 (fun k => F k ∧ k ≠ b) vl x.l ∧ kdI.R 3 W 0 (fun k => F k ∧ k ≠ b) vs x.saves := by
  obtain ⟨vu, vs, h1, h2, h3, h4, h5⟩ := h
  exact ⟨vu, vs, blk_cell h1 0, blk_cell h1 1, fun i => blk_frozen h1 i, h4, h5⟩
/-- What was written is another row. -/
theorem OneAt.setL {b : Nat} {x : One} {W W1 : World} {F F' : Nat → Prop} {vl vl' : Value} {us : List Wr} (h : (OneAt b x).on W F) (hc : W.cell? ⟨b, 0, none⟩ = some vl) (e : Eff (fun k => vl.ownBlock = some k) W W1)
    (hu : kdW.R 58 W1 0 F' vl' us) (hF : ∀ k, F' k → (F k ∧ k ≠ b) ∨ W.heap.size ≤ k) : Upd W F (OneAt b { x with l := us }) (W1.setCell ⟨b, 0, none⟩ vl') := by
  obtain ⟨vl0, vs, h1, h2, h3, h4, h5⟩ := h
  have hc0 : some vl0 = some vl := (blk_cell h1 0).symm.trans hc
  injection hc0 with hc0
  subst hc0
  have hb : b < W.heap.size := h3 b h2
  have h1' : W1.heap[b]? = some (.cells #[vl0, vs] 55 (0, 0)) := (e.block b hb (fun h => (h4.1 b h).2 rfl)).trans h1
  have hbl : b < W1.heap.size := Nat.lt_of_lt_of_le hb e.size
  have h5' := R_other h5 h4 (by decide) e
  refine ⟨fun k => (F k ∨ F' k) ∧ k < W1.heap.size, ⟨vl', vs, blk_set h1' 0 _, ⟨.inl h2, hbl⟩, fun k hk => by simpa [World.setCell] using hk.2, ?_, ?_⟩, ?_, ?_⟩
  · refine Kd.R_mono (Kd.R_far (Kd.R_bound hu) (p := ⟨b, 0, none⟩) (fun k hk => ?_) _) (fun k hk => ⟨⟨.inr hk.1, hk.2.2.1⟩, ?_⟩)
    · rcases hF k hk.1 with h | h
      · exact h.2
      · show k ≠ b; omega
    · rcases hF k hk.1 with h | h
      · exact h.2
      · omega
  · exact Kd.R_mono (Kd.R_far (Kd.R_bound h5') (p := ⟨b, 0, none⟩) (fun k hk => hk.1.2) _) (fun k hk => ⟨⟨.inl hk.1.1, hk.2.2.1⟩, hk.1.2⟩)
  · exact (e.mono (fun k hk => (h4.1 k hk).1)).set _ _ (.inl h2)
  · rintro k ⟨hk | hk, _⟩
    · exact .inl hk
    · exact (hF k hk).imp And.left id
theorem OneAt.setSaves {b : Nat} {x : One} {W W1 : World} {F F' : Nat → Prop} {vs vs' : Value} {ss : List Int} (h : (OneAt b x).on W F) (hc : W.cell? ⟨b, 1, none⟩ = some vs) (e : Eff (fun k => vs.ownBlock = some k) W W1)
    (hu : kdI.R 3 W1 0 F' vs' ss) (hF : ∀ k, F' k → (F k ∧ k ≠ b) ∨ W.heap.size ≤ k) : Upd W F (OneAt b { x with saves := ss }) (W1.setCell ⟨b, 1, none⟩ vs') := by
  obtain ⟨vl, vs0, h1, h2, h3, h4, h5⟩ := h
  have hc0 : some vs0 = some vs := (blk_cell h1 1).symm.trans hc
  injection hc0 with hc0
  subst hc0
  have hb : b < W.heap.size := h3 b h2
  have h1' : W1.heap[b]? = some (.cells #[vl, vs0] 55 (0, 0)) := (e.block b hb (fun h => (h5.1 b h).2 rfl)).trans h1
  have hbl : b < W1.heap.size := Nat.lt_of_lt_of_le hb e.size
  have h4' := R_other h4 h5 (by decide) e
  refine ⟨fun k => (F k ∨ F' k) ∧ k < W1.heap.size, ⟨vl, vs', blk_set h1' 1 _, ⟨.inl h2, hbl⟩, fun k hk => by simpa [World.setCell] using hk.2, ?_, ?_⟩, ?_, ?_⟩
  · exact Kd.R_mono (Kd.R_far (Kd.R_bound h4') (p := ⟨b, 1, none⟩) (fun k hk => hk.1.2) _) (fun k hk => ⟨⟨.inl hk.1.1, hk.2.2.1⟩, hk.1.2⟩)
  · refine Kd.R_mono (Kd.R_far (Kd.R_bound hu) (p := ⟨b, 1, none⟩) (fun k hk => ?_) _) (fun k hk => ⟨⟨.inr hk.1, hk.2.2.1⟩, ?_⟩)
    · rcases hF k hk.1 with h | h
      · exact h.2
      · show k ≠ b; omega
    · rcases hF k hk.1 with h | h
      · exact h.2
      · omega
  · exact (e.mono (fun k hk => (h5.1 k hk).1)).set _ _ (.inl h2)
  · rintro k ⟨hk | hk, _⟩
    · exact .inl hk
    · exact (hF k hk).imp And.left id
theorem OneAt.made (W : World) : (OneAt W.heap.size ⟨[], []⟩).on (W.alloc (.cells #[.slice none 0 0, .slice none 0 0] 55)) (fun k => k = W.heap.size) :=
  ⟨_, _, heap_alloc_new W _, rfl, by rintro k rfl; simp, Kd.R_nil _ _ _ _ _, Kd.R_nil _ _ _ _ _⟩
/-! ### a map of texts -/
abbrev Ent := ByteArray × ByteArray
def strs (l : List Ent) : List (ByteArray × Value) := l.map (fun p => (p.1, .string p.2))
theorem strs_keys (l : List Ent) : (strs l).map (·.1) = l.map (·.1) := by unfold strs; rw [List.map_map]; rfl
/-- The map mm (nil: there is none) holds the entries l, in some order. -/
def StrMap (mm : Option Nat) (l : List Ent) : HP where
  on := fun W F => ∃ l', l'.Perm l ∧ (MapPart keyStr mm (strs l')).on W F
  frame := by
    rintro W W' F ⟨l', hp, h⟩ hk
    exact ⟨l', hp, (MapPart keyStr mm (strs l')).frame h hk⟩
  lt := by
    rintro W F k ⟨l', hp, h⟩ hk
    exact (MapPart keyStr mm (strs l')).lt h hk
theorem StrMap.nodup {mm : Option Nat} {l : List Ent} {W : World} {F : Nat → Prop} (h : (StrMap mm l).on W F) : (l.map (·.1)).Nodup := by
  obtain ⟨l', hp, h⟩ := h
  have := MapPart.nodup h
  rw [strs_keys] at this
  exact (hp.map _).nodup_iff.1 this
/-- The model: the map, the transactions in the order in which they began. -/
structure Mod where
  mm : Option Nat
  m : List Ent
  tb : Option Nat
  t : List (Int × Nat × One)
def ModAt (b : Nat) (s : Mod) : HP := Sep (CellsAt b #[.map s.mm, .map s.tb] 27) (Sep (StrMap s.mm s.m) (PMap keyInt OneAt s.tb s.t))
theorem zeroP (w : World) : (zeroValue 51).run Try.prog w = .ok (.pointer none) w := by kernel_rfl
theorem ModAt.txs {b : Nat} {s : Mod} {W : World} {F : Nat → Prop} (h : (ModAt b s).on W F) : ∃ F1, (PMap keyInt OneAt s.tb s.t).on W F1 ∧ ∀ k, F1 k → F k := by
  obtain ⟨F1, F2, h1, ⟨G1, G2, g1, g2, gd, gF⟩, hd, hF⟩ := h
  exact ⟨G2, g2, fun k hk => (hF k).2 (.inr ((gF k).2 (.inr hk)))⟩
theorem ModAt.strs {b : Nat} {s : Mod} {W : World} {F : Nat → Prop} (h : (ModAt b s).on W F) : ∃ F1, (StrMap s.mm s.m).on W F1 ∧ ∀ k, F1 k → F k := by
  obtain ⟨F1, F2, h1, ⟨G1, G2, g1, g2, gd, gF⟩, hd, hF⟩ := h
  exact ⟨G1, g1, fun k hk => (hF k).2 (.inr ((gF k).2 (.inl hk)))⟩
theorem ModAt.cells {b : Nat} {s : Mod} {W : World} {F : Nat → Prop} (h : (ModAt b s).on W F) : W.cell? ⟨b, 0, none⟩ = some (.map s.mm) ∧ W.cell? ⟨b, 1, none⟩ = some (.map s.tb) ∧ (∀ i, W.frozen? ⟨b, i, none⟩ = false) := by
  obtain ⟨F1, F2, h1, _⟩ := h
  exact ⟨CellsAt.cell h1 0, CellsAt.cell h1 1, CellsAt.frozen h1⟩
/-- The transactions, as they are asked. -/
theorem ModAt.look {b : Nat} {s : Mod} {W : World} {F : Nat → Prop} (h : (ModAt b s).on W F) (tx : Int) : (Instr.lookup 25 (.map s.tb) (.int .i64 tx) false).run Try.prog W = .ok (ptrOf (getP s.t tx)) W := by
  obtain ⟨F1, h1, _⟩ := ModAt.txs h
  exact PMap.look h1 Try.underlying25 Try.underlying3 (zeroP W) tx
/-- One is looked at. -/
theorem ModAt.focus {b0 : Nat} {s : Mod} {W : World} {F : Nat → Prop} {tx : Int} {b : Nat} {x : One} (h : (ModAt b0 s).on W F) (hg : getP s.t tx = some (b, x)) : ∃ F1, (OneAt b x).on W F1 ∧ ∀ (x' : One) (W' : World), Upd W F1 (OneAt b x') W' → Upd W F (ModAt b0 { s with t := setP s.t tx x' }) W' := by
  obtain ⟨F2, h2, k2, u2⟩ := Sep.focusR h
  obtain ⟨F3, h3, k3, u3⟩ := Sep.focusR h2
  obtain ⟨F1, h1, k1, u1⟩ := PMap.focus h3 hg
  exact ⟨F1, h1, fun x' W' c => u2 _ _ (u3 _ _ (u1 _ _ c))⟩
theorem ModAt.has {b0 : Nat} {s : Mod} {W : World} {F : Nat → Prop} {tx : Int} {b : Nat} {x : One} (h : (ModAt b0 s).on W F) (hg : getP s.t tx = some (b, x)) : ∃ F1, (OneAt b x).on W F1 ∧ ∀ k, F1 k → F k := by
  obtain ⟨F1, h1, hk⟩ := ModAt.txs h
  obtain ⟨F2, h2, hk2⟩ := PMap.has h1 hg
  exact ⟨F2, h2, fun k h => hk k (hk2 k h)⟩
def lookM (m : List Ent) (k : ByteArray) : Option ByteArray := (m.find? (fun p => decide (p.1 = k))).map (·.2)
theorem lookM_perm {l m : List Ent} (h : l.Perm m) (hn : (l.map (·.1)).Nodup) (k : ByteArray) : lookM l k = lookM m k := by
  have hn2 : (m.map (·.1)).Nodup := (h.map _).nodup_iff.1 hn
  have key : ∀ {x : List Ent}, (x.map (·.1)).Nodup → ∀ p ∈ x, p.1 = k → lookM x k = some p.2 := by
    intro x hx p hp he
    unfold lookM
    cases hf : x.find? (fun p => decide (p.1 = k)) with
    | none => exact absurd he (by simpa using List.find?_eq_none.1 hf p hp)
    | some q =>
      have hq := List.mem_of_find?_eq_some hf
      have hqk : q.1 = k := by simpa using List.find?_some hf
      obtain ⟨i, hi⟩ := List.getElem?_of_mem hq
      obtain ⟨j, hj⟩ := List.getElem?_of_mem hp
      have hij := nodup_at hx (a := k) (i := i) (j := j) (by rw [List.getElem?_map, hi, ← hqk]; rfl) (by rw [List.getElem?_map, hj, ← he]; rfl)
      subst hij
      rw [hi] at hj
      injection hj with hj
      rw [← hj]
      rfl
  by_cases hex : ∃ p ∈ l, p.1 = k
  · obtain ⟨p, hp, he⟩ := hex
    rw [key hn p hp he, key hn2 p (h.mem_iff.1 hp) he]
  · have a1 : lookM l k = none := by
      unfold lookM
      rw [List.find?_eq_none.2 (fun p hp => by simpa using fun he => hex ⟨p, hp, he⟩)]; rfl
    have a2 : lookM m k = none := by
      unfold lookM
      rw [List.find?_eq_none.2 (fun p hp => by simpa using fun he => hex ⟨p, h.mem_iff.2 hp, he⟩)]; rfl
    rw [a1, a2]
theorem look_strs (l : List Ent) (k : ByteArray) : L.look (strs l) k = (lookM l k).map Value.string := by
  unfold L.look strs lookM
  rw [List.find?_map]
  have e : ((fun p : ByteArray × Value => decide (p.1 = k)) ∘ fun p : Ent => (p.1, Value.string p.2)) = fun p => decide (p.1 = k) := rfl
  rw [e]
  cases l.find? (fun p => decide (p.1 = k)) <;> rfl
theorem zeroS (w : World) : (zeroValue 9).run Try.prog w = .ok (.string ⟨#[]⟩) w := by kernel_rfl
/-- 'v, is := m.m[key]'. -/
theorem ModAt.lookS {b : Nat} {s : Mod} {W : World} {F : Nat → Prop} (h : (ModAt b s).on W F) (k : ByteArray) : (Instr.lookup 24 (.map s.mm) (.string k) true).run Try.prog W = .ok (.tuple #[.string ((lookM s.m k).getD ⟨#[]⟩), .bool (lookM s.m k).isSome]) W := by
  obtain ⟨F1, ⟨l', hp, h1⟩, _⟩ := ModAt.strs h
  have hn := MapPart.nodup h1
  rw [strs_keys] at hn
  rw [← lookM_perm hp hn k]
  have e : ∀ o : Option ByteArray, (if true then Value.tuple #[(o.map Value.string).getD (.string ⟨#[]⟩), .bool (o.map Value.string).isSome] else (o.map Value.string).getD (.string ⟨#[]⟩)) = .tuple #[.string (o.getD ⟨#[]⟩), .bool o.isSome] := by
    intro o; cases o <;> rfl
  cases hm : s.mm with
  | none =>
    rw [hm] at h1
    have h2 : MD.strs l' = [] := h1.1
    have h3 : l' = [] := by cases l' with | nil => rfl | cons _ _ => cases h2
    subst h3
    exact lookup_nil keyStr W Try.underlying24 Try.underlying9 (zeroS W) k true
  | some m =>
    rw [hm] at h1
    have := h1.1.lookup Try.underlying24 Try.underlying9 (zeroS W) k true
    rw [look_strs, e] at this
    exact this
end Go.Proofs.Ytbfpmgbfkipiaaa.MD
