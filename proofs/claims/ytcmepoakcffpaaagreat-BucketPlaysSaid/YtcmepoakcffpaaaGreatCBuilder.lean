import Derived.Shelf.Strings.BuilderK
import Derived.Test.YtcmepoakcffpaaaGreatProg
import Derived.BigRegion
import Derived.BigQuiet
import Derived.Deep.QuietTactic
import Derived.Deep.AppendLies
import Derived.ChangeAlike
import Derived.Outline
import Derived.WalkKit
import Derived.KernelRfl
import Derived.Deep.LoopGhost
import Derived.Deep.RegionLaw
import Derived.Test.YtcmepoakcffpaaaGreatWMore
import Derived.Test.YtcmepoakcffpaaaGreatWKept
import Derived.Test.YtcmepoakcffpaaaGreatLSep
import Derived.Test.YtcmepoakcffpaaaGreatCBase
namespace Go.Proofs.YtcmepoakcffpaaaGreat.CP
open Go Go.RowKit Go.Proofs.YtcmepoakcffpaaaGreatW.PrintWords Go.Proofs.YtcmepoakcffpaaaGreatW.PrintLast Go.Proofs.YtcmepoakcffpaaaGreatW.PrintMore Go.Proofs.YtcmepoakcffpaaaGreat.L
set_option linter.unusedVariables false
set_option linter.unusedSimpArgs false
/-! strings.Builder at this dump: its copy check's far arm has no operations here, so the shelf's contract isn't laid; the three writers by their own walks. -/
abbrev BuiltAt (b : Nat) (bs : List Value) (w : World) : Prop := Lib.BuilderAtF 141 5 b b (.pointer (some ⟨b, 0, none⟩)) bs w
abbrev Built (b : Nat) (bs : List Value) (w : World) : Prop := Lib.IsBuilderF 141 5 b b bs w
theorem info8 : (Tryz.prog.info? 5).map (fun i => (i.zero, i.size, i.bytes)) = some (some (.int .u8 0), 1, 1) := by kernel_rfl
theorem infoBd : (Tryz.prog.info? 141).map (·.size) = some 2 := by kernel_rfl
theorem liesBd : liesAt Tryz.prog Tryz.prog.depth 141 (2 / Tryz.prog.cellsOf 141) 0 141 1 = true := by kernel_rfl
set_option maxHeartbeats 1600000 in
set_option maxRecDepth 100000 in
theorem copyCheck_new (b : Nat) (w : World) (h0 : w.cell? ⟨b, 0, none⟩ = some (.pointer none)) (hs : w.shape? b = some (141, 2)) (hf : w.frozen? ⟨b, 0, none⟩ = false) :
    Calls Tryz.prog 110 #[.pointer (some ⟨b, 0, none⟩)] w fun e w' => e = .returned (.tuple #[]) ∧ w' = w.setCell ⟨b, 0, none⟩ (.pointer (some ⟨b, 0, none⟩)) := by
  obtain ⟨j, hj, hjs⟩ := Option.map_eq_some_iff.1 infoBd
  go_enter Tryz.func110, Tryz.ntmps110
  go_wp2
  rw [Lib.run_to_unsafe w ⟨b, 0, none⟩ Tryz.underlying139 Tryz.underlying158 hj (by rw [hjs]; decide) hs (Nat.zero_lt_succ 1)]
  simp only [Result.andThen]
  rw [Oper.upon_value]
  go_wp2
  rw [run_callFunc_extern Tryz.func115 (by kernel_rfl) (by kernel_rfl) (by kernel_rfl) (e := Extern.AbiNoEscape.same) (by kernel_rfl)]
  rw [Lib.run_noEscape]
  simp only [Result.andThen]
  rw [Oper.upon_value]
  go_wp2
  rw [Lib.run_from_unsafe w ⟨b, 0, none⟩ Tryz.underlying158 Tryz.underlying139 hj hs liesBd]
  simp only [Result.andThen]
  rw [Oper.upon_value]
  go_wp2
  first | go_end0 | (refine bodyPost_ret (results_none rfl _ _ _) rfl ?_)
  exact ⟨rfl, rfl⟩
set_option maxHeartbeats 1600000 in
set_option maxRecDepth 100000 in
theorem copyCheck_old (b : Nat) (w : World) (h0 : w.cell? ⟨b, 0, none⟩ = some (.pointer (some ⟨b, 0, none⟩))) :
    Calls Tryz.prog 110 #[.pointer (some ⟨b, 0, none⟩)] w fun e w' => e = .returned (.tuple #[]) ∧ w' = w := by
  obtain ⟨j, hj, _⟩ := Option.map_eq_some_iff.1 infoBd
  go_enter Tryz.func110, Tryz.ntmps110
  go_wp2
  rw [Lib.run_neq_ptr_same w _ Tryz.underlying139 hj]
  go_wp2
  first | go_end0 | (refine bodyPost_ret (results_none rfl _ _ _) rfl ?_)
  exact ⟨rfl, rfl⟩
theorem copyCheck_calls (b : Nat) (bs : List Value) (w : World) (h : Built b bs w) :
    Calls Tryz.prog 110 #[.pointer (some ⟨b, 0, none⟩)] w fun e w' => e = .returned (.tuple #[]) ∧ BuiltAt b bs w' ∧ Below b w w' := by
  rcases h with h | h
  · refine (copyCheck_new b w h.cell0 h.shape h.frozen0).mono ?_
    rintro e w' ⟨rfl, rfl⟩
    exact ⟨rfl, h.used _, (Below.refl b w).setCell (p := ⟨b, 0, none⟩) (Nat.le_refl _) _⟩
  · refine (copyCheck_old b w h.cell0).mono ?_
    rintro e w' ⟨rfl, rfl⟩
    exact ⟨rfl, h, Below.refl b _⟩
theorem info_split {P : Program} {e : TypeId} {x : Option Value × Nat × Nat} (h : (P.info? e).map (fun i => (i.zero, i.size, i.bytes)) = some x) : ∃ i, P.info? e = some i ∧ i.zero = x.1 ∧ i.size = x.2.1 ∧ i.bytes = x.2.2 := by
  obtain ⟨i, hi, hx⟩ := Option.map_eq_some_iff.1 h
  subst hx
  exact ⟨i, hi, rfl, rfl, rfl⟩
theorem neBd : (141 : Nat) ≠ 5 := by decide
theorem Built.lt {b : Nat} {bs : List Value} {w : World} (h : Built b bs w) : b < w.heap.size := by
  rcases h with ⟨_, v, hb, _⟩ | ⟨_, v, hb, _⟩ <;> exact (Array.getElem?_eq_some_iff.1 hb).1
theorem ownF_slice {w : World} {B n : Nat} {v : Value} {bs : List Value} (h : w.ownsRowF B 5 1 v n bs) : ∃ ao cap, v = .slice ao n cap := by
  rcases h.2 with ⟨hv, h0⟩ | ⟨g, cap, cur, fz, hv, _⟩
  · exact ⟨none, 0, by rw [hv, h0]⟩
  · exact ⟨_, _, hv⟩
/-- What an append leaves of a builder. -/
theorem Built.grown {b : Nat} {bs bs' : List Value} {w w1 w2 : World} {v v' : Value} (hbk : w1.heap[b]? = some (.cells #[.pointer (some ⟨b, 0, none⟩), v] 141 (0, 0))) (hne : v.ownBlock ≠ some b) (hown : w1.ownsRowF b 5 1 v bs.length bs) (hb1 : Below b w w1) (hbw : b ≤ w.heap.size)
    (ho : w2.ownsRowF b 5 1 v' bs'.length bs') (hg : w1.grownBy w2 v.ownBlock) : w2.heap[b]? = some (.cells #[.pointer (some ⟨b, 0, none⟩), v] 141 (0, 0)) ∧ BuiltAt b bs' (w2.setCell ⟨b, 1, none⟩ v') ∧ Below b w (w2.setCell ⟨b, 1, none⟩ v') := by
  have hlt : b < w1.heap.size := (Array.getElem?_eq_some_iff.1 hbk).1
  have hb2 : w2.heap[b]? = some (.cells #[.pointer (some ⟨b, 0, none⟩), v] 141 (0, 0)) := by rw [hg.block b hlt (fun e => hne e.symm)]; exact hbk
  exact ⟨hb2, Lib.BuilderAtF.put (Nat.le_refl _) hb2 ho neBd, (hb1.grown hg (by omega) (fun k hk => (hown.lt k hk).1)).setCell (p := ⟨b, 1, none⟩) (Nat.le_refl _) _⟩
set_option maxHeartbeats 1600000 in
set_option maxRecDepth 100000 in
theorem writeString_calls (b : Nat) (bs : List Value) (s : ByteArray) (w : World) (h : Built b bs w) (hl : bs.length + s.size ≤ 140737488355328) :
    Calls Tryz.prog 100 #[.pointer (some ⟨b, 0, none⟩), .string s] w fun e w' => e = .returned (.tuple #[.int .i64 s.size, .nilIface]) ∧ BuiltAt b (bs ++ Lib.strCells s) w' ∧ Below b w w' := by
  obtain ⟨i0, hi, hz0, hz1, hz2⟩ := info_split info8
  have hlt0 := h.lt
  have hc3 : bs.length + s.size ≤ maxLen := by unfold maxLen; omega
  have C := copyCheck_calls b bs w h
  clear h
  go_enter Tryz.func100, Tryz.ntmps100
  go_wp2_with (first
    | (go_at_call 110; refine C.mono ?_; rintro e w1 ⟨rfl, ⟨_, v, hbk, hown, hne⟩, hb1⟩; obtain ⟨ao, cap, rfl⟩ := ownF_slice hown; have c0 := blk_cell hbk 0; have c1 := blk_cell hbk 1; have H := Aside0.mk (And.intro hbk (And.intro hne (And.intro hown hb1))); have hs1 := hb1.size; clear hbk hne hown hb1)
    | (at_builtin; refine Lib.wpList_append_own_stringF _ rfl (.tmp 12) (.tmp 13) 70 9 rfl b 5 i0 Tryz.underlying70 Tryz.underlying9 hi hz0 hz1 hz2 _ _ _ rfl H.out.2.2.1 s rfl hc3 hl (by omega) ?_; intro v' w2 ho hg _; obtain ⟨ao', cap', rfl⟩ := ownF_slice ho; obtain ⟨hb2, hB, hb⟩ := Built.grown (bs' := bs ++ Lib.strCells s) H.out.1 H.out.2.1 H.out.2.2.1 H.out.2.2.2 (Nat.le_of_lt hlt0) (by simpa [Lib.strCells_length] using ho) hg; have d0 := blk_cell hb2 0; have d1 := blk_cell hb2 1; have f1 := blk_frozen hb2 1; have H2 := Aside0.mk (And.intro hB hb); clear ho hg hb2 hB hb c0 c1))
  go_ret2
  exact ⟨rfl, H2.out⟩
theorem lit_one (w : World) (c : Int) : ∀ j u, ([.int .u8 c] : List Value)[j]? = some u → (w.alloc (.cells #[.int .u8 c] 5)).cell? ((⟨w.heap.size, 0, none⟩ : Addr).add j) = some u := by
  intro j u hj
  match j, hj with
  | 0, hj => simp at hj; subst hj; simp [Addr.add]
theorem one_lit (c : Int) : ∀ u ∈ ([.int .u8 c] : List Value), u.oneCell' = true := by
  intro u hu
  simp at hu
  subst hu
  rfl
set_option maxHeartbeats 1600000 in
set_option maxRecDepth 100000 in
theorem writeByte_calls (b : Nat) (bs : List Value) (c : Int) (w : World) (h : Built b bs w) (hl : bs.length + 1 ≤ 140737488355328) :
    Calls Tryz.prog 99 #[.pointer (some ⟨b, 0, none⟩), .int .u8 c] w fun e w' => e = .returned .nilIface ∧ BuiltAt b (bs ++ [.int .u8 c]) w' ∧ Below b w w' := by
  obtain ⟨i0, hi, hz0, hz1, hz2⟩ := info_split info8
  have hlt0 := h.lt
  have hc3 : bs.length + 1 ≤ maxLen := by unfold maxLen; omega
  have C := copyCheck_calls b bs w h
  clear h
  go_enter Tryz.func99, Tryz.ntmps99
  go_wp2_with (first
    | (go_at_call 110; refine C.mono ?_; rintro e w1 ⟨rfl, ⟨_, v, hbk, hown, hne⟩, hb1⟩; obtain ⟨ao, cap, rfl⟩ := ownF_slice hown; have c0 := blk_cell hbk 0; have c1 := blk_cell hbk 1; have hs1 := hb1.size; have H := Aside0.mk (And.intro (((Lib.alloc_old w1 (.cells #[.int .u8 c] 5) b (Nat.lt_of_lt_of_le hlt0 hs1))).trans hbk) (And.intro hne (And.intro (hown.alloc (.cells #[.int .u8 c] 5)) (hb1.alloc (by omega) (.cells #[.int .u8 c] 5))))); clear hbk hne hown hb1)
    | (at_builtin; refine wpList_append_ownF _ rfl (.tmp 11) (.tmp 13) 70 rfl b 5 i0 (.int .u8 0) 1 1 Tryz.underlying70 hi hz0 hz1 hz2 rfl (by decide) _ _ _ rfl H.out.2.2.1 ⟨w1.heap.size, 0, none⟩ 1 1 [.int .u8 c] rfl rfl (lit_one w1 c) (one_lit c) hc3 (by omega) (by rw [World.size_alloc]; omega) ?_; intro v' w2 ho hg _; obtain ⟨ao', cap', rfl⟩ := ownF_slice ho; obtain ⟨hb2, hB, hb⟩ := Built.grown (bs' := bs ++ [.int .u8 c]) H.out.1 H.out.2.1 H.out.2.2.1 H.out.2.2.2 (Nat.le_of_lt hlt0) (by simpa using ho) hg; have d0 := blk_cell hb2 0; have d1 := blk_cell hb2 1; have f1 := blk_frozen hb2 1; have H2 := Aside0.mk (And.intro hB hb); clear ho hg hb2 hB hb c0 c1))
  go_ret
  exact ⟨rfl, H2.out⟩
end Go.Proofs.YtcmepoakcffpaaaGreat.CP
