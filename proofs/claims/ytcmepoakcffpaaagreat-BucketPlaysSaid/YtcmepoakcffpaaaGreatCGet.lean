import Derived.Test.YtcmepoakcffpaaaGreatProg
import Derived.BigRegion
import Derived.BigQuiet
import Derived.Deep.QuietTactic
import Derived.Deep.AppendLies
import Derived.ChangeAlike
import Derived.Outline
import Derived.WalkKit
import Derived.KernelRfl
import Derived.Deep.LoopGhost
import Derived.Deep.RegionLaw
import Derived.Test.YtcmepoakcffpaaaGreatWMore
import Derived.Test.YtcmepoakcffpaaaGreatWKept
import Derived.Test.YtcmepoakcffpaaaGreatLSep
import Derived.Test.YtcmepoakcffpaaaGreatCPut
import Derived.Test.YtcmepoakcffpaaaGreatCCell
namespace Go.Proofs.YtcmepoakcffpaaaGreat.CP
open Go Go.RowKit Go.Proofs.YtcmepoakcffpaaaGreatW.PrintWords Go.Proofs.YtcmepoakcffpaaaGreatW.PrintLast Go.Proofs.YtcmepoakcffpaaaGreatW.PrintMore Go.Proofs.YtcmepoakcffpaaaGreat.CR Go.Proofs.YtcmepoakcffpaaaGreat.L
set_option linter.unusedVariables false
set_option linter.unusedSimpArgs false
theorem infoC : (Tryz.prog.info? 42).map (fun i => (i.zero, i.size, i.bytes)) = some (some (.agg #[.string ⟨#[]⟩, .string ⟨#[]⟩, .int .i64 0, .int .i64 0]), 4, 48) := by kernel_rfl
/-- The first k cells that the reader gives. -/
def readN (r : ByteArray × Bool) : Nat → List B × (ByteArray × Bool)
  | 0 => ([], r)
  | k + 1 => ((readN r k).1 ++ [(cellB (readN r k).2.1 (readN r k).2.2).1], (cellB (readN r k).2.1 (readN r k).2.2).2)
theorem readN_length (r : ByteArray × Bool) : ∀ k, (readN r k).1.length = k
  | 0 => rfl
  | k + 1 => by rw [readN, List.length_append, readN_length r k]; rfl
def readB (s : ByteArray) : List B × (ByteArray × Bool) := readN (numB 1 s false).2 (numB 1 s false).1
def getF (s : ByteArray) : List B × Bool := if (readB s).2.2 = false ∧ putF ((readB s).1.map B.cl) = (s, true) then ((readB s).1, true) else ([], false)
/-- The reader, and the cells that were read. -/
def GetS (w : World) (r : ByteArray × Bool) (v : Value) (xs : List B) (wr : World) : Prop := Rd8 wr w.heap.size r.1 r.2 ∧ kdB.R 42 wr w.heap.size (fun k => k ≠ w.heap.size) v xs ∧ Below w.heap.size w wr
theorem GetS.cell {w : World} {r : ByteArray × Bool} {v : Value} {xs : List B} {wr : World} (h : Aside0 (GetS w r v xs wr)) :
    Calls Tryz.prog 96 #[.pointer (some ⟨w.heap.size, 0, none⟩)] wr fun e w' => e = .returned (cellB r.1 r.2).1.val ∧ Aside0 (GetS w (cellB r.1 r.2).2 v xs w') :=
  (cell_calls w.heap.size r.1 r.2 wr h.out.1).mono fun e w' ⟨he, h1, e1⟩ => ⟨he, Aside0.mk ⟨h1, Kd.R_step h.out.2.1 (fun k hk hlt => e1.block k hlt hk), below_eff h.out.2.2 (Nat.le_refl _) e1 (by rintro k rfl; exact Nat.le_refl _)⟩⟩
set_option maxHeartbeats 1600000 in
set_option maxRecDepth 100000 in
theorem get_calls (w : World) (s : ByteArray) :
    Calls Tryz.prog 70 #[.string s] w fun e w' => ∃ v, e = .returned (.tuple #[v, .bool (getF s).2]) ∧ kdB.R 42 w' w.heap.size (fun _ => True) v (getF s).1 ∧ Below w.heap.size w w' := by
  have N1 : ∀ w1, Rd8 w1 w.heap.size s false ∧ Below w.heap.size w w1 → Calls Tryz.prog 95 #[.pointer (some ⟨w.heap.size, 0, none⟩), .int .i64 1] w1 fun e w' => e = .returned (.int .i64 (numB 1 s false).1) ∧ Aside0 (GetS w (numB 1 s false).2 (.slice none 0 0) [] w') := by
    intro w1 h1
    refine (num8 w.heap.size s false w1 h1.1 1 (by omega)).mono fun e w' ⟨he, h2, e2⟩ => ⟨he, Aside0.mk ⟨h2, Kd.R_nil _ _ _ _ _, below_eff h1.2 (Nat.le_refl _) e2 (by rintro k rfl; exact Nat.le_refl _)⟩⟩
  have l1 : (numB 1 s false).1 < 256 := nval_lt _ 1 (by rw [← size_data]; exact takeB_size 1 s false)
  have hg : readB s = readN (numB 1 s false).2 (numB 1 s false).1 := rfl
  generalize numB 1 s false = n at *
  have HG := Aside0.mk hg
  clear hg
  go_enter Tryz.func70, Tryz.ntmps70
  go_wp2_with (first
    | (go_at_call 95; refine (N1 _ ⟨heap_alloc_new w _, below_alloc (Below.refl _ _) _⟩).mono ?_; rintro e w1 ⟨rfl, A1⟩; clear N1))
  go_loopg [5, 13] n.1 (fun k s5 s13 wr => ∃ i : Nat, s13 = .int .i64 i ∧ i + k = n.1 ∧ Aside0 (GetS w (readN n.2 i).2 s5 (readN n.2 i).1 wr))
  case atStart => exact ⟨0, rfl, by omega, A1⟩
  case round =>
    clear A1
    obtain ⟨i, rfl, h1, A1⟩ := hrel
    by_cases hi : i < n.1
    · have p1 : ((i : Int) < (n.1 : Int)) = True := eq_true (by omega)
      have C := GetS.cell A1
      have hx := Aside0.mk (readN_length n.2 i)
      have hnx : readN n.2 (i + 1) = ((readN n.2 i).1 ++ [(cellB (readN n.2 i).2.1 (readN n.2 i).2.2).1], (cellB (readN n.2 i).2.1 (readN n.2 i).2.2).2) := rfl
      generalize cellB (readN n.2 i).2.1 (readN n.2 i).2.2 = q at *
      generalize (readN n.2 i).1 = xs at *
      obtain ⟨A5, c5, rfl⟩ := Kd.R_slice A1.out.2.1
      have HN := Aside0.mk hnx
      clear hnx A1
      go_wp2_with (first
        | (go_at_call 96; refine C.mono ?_; rintro e w2 ⟨rfl, A2⟩; clear C)
        | (at_builtin; go_loud (refine Kd.R_append kdB (W := w2) (w0 := w) w.heap.size rfl (.tmp 15) (.tmp 18) 26 42 (.agg #[.string ⟨#[]⟩, .string ⟨#[]⟩, .int .i64 0, .int .i64 0]) 48 rfl Tryz.underlying26 infoC rfl (by decide) (by decide) (.slice A5 xs.length c5) xs q.1 (cellsB q.1) (fun k => k ≠ w.heap.size) (fun _ => False) rfl rfl rfl (fun _ hk => hk.elim) (fun k hk => by have := A2.out.1.lt; omega) A2.out.2.1 A2.out.2.2 A2.out.2.2.size (by have := hx.out; omega) ?_; intro v1 w3 r1 b1 g1 o1; have A3 : Aside0 (GetS w q.2 v1 (xs ++ [q.1]) w3) := Aside0.mk ⟨blk_grown A2.out.1 g1 (fun e => A2.out.2.1.1 _ e.symm rfl), r1, b1⟩; clear r1 b1 g1 o1 A2)))
      go_roundg (gk - 1)
      case measure => omega
      case rel => exact ⟨i + 1, by simp, by omega, by rw [HN.out]; exact A3⟩
    · have p1 : ((i : Int) < (n.1 : Int)) = False := eq_false (by omega)
      have hin : i = n.1 := by omega
      subst hin
      have hgf : getF s = if (readN n.2 n.1).2.2 = false ∧ putF ((readN n.2 n.1).1.map B.cl) = (s, true) then ((readN n.2 n.1).1, true) else ([], false) := by
        unfold getF
        rw [HG.out]
      obtain ⟨A5, c5, rfl, hc5, hC⟩ := Kd.R_reads A1.out.2.1
      have CP := put_many wr A5 c5 _ hC
      generalize (readN n.2 n.1).1 = xs at *
      obtain ⟨pr, hpr⟩ : ∃ pr, pr = putF (xs.map B.cl) := ⟨_, rfl⟩
      rw [← hpr] at CP hgf
      have PE : ∀ w1, Eff0 wr w1 → Aside0 (GetS w (readN n.2 n.1).2 (.slice A5 xs.length c5) xs w1) := fun w1 e1 => Aside0.mk ⟨A1.out.1.eff e1, Kd.R_step A1.out.2.1 (fun k _ hk => e1.block k hk id), below_eff A1.out.2.2 (Nat.le_refl _) e1 (fun _ h => h.elim)⟩
      generalize (readN n.2 n.1).2 = r at *
      have HGF := Aside0.mk hgf
      clear hgf hpr hC hc5 A1
      have CP2 : Calls Tryz.prog 77 #[.slice A5 xs.length c5] wr fun e w' => e = .returned (.tuple #[.string pr.1, .bool pr.2]) ∧ w'.cell? ⟨w.heap.size, 1, none⟩ = some (.bool r.2) ∧ Aside0 (GetS w r (.slice A5 xs.length c5) xs w') :=
        CP.mono fun e w' ⟨he, e1⟩ => ⟨he, blk_cell (PE w' e1).out.1 1, PE w' e1⟩
      obtain ⟨pb, pk⟩ := pr
      obtain ⟨rs, rb⟩ := r
      dsimp only at CP2 HGF
      clear CP PE
      cases rb with
      | true =>
        have hgf : getF s = ([], false) := by rw [HGF.out]; simp
        have HF := Aside0.mk hgf
        clear hgf HGF
        go_wp2_with (go_at_call 77; refine CP2.mono ?_; rintro e w2 ⟨rfl, c1, A2⟩)
        go_ret2
        refine ⟨.slice none 0 0, ?_, ?_, A2.out.2.2⟩
        · rw [HF.out]; rfl
        · rw [HF.out]; exact Kd.R_nil _ _ _ _ _
      | false =>
        cases pk with
        | false =>
          have hgf : getF s = ([], false) := by rw [HGF.out]; simp
          have HF := Aside0.mk hgf
          clear hgf HGF
          go_wp2_with (go_at_call 77; refine CP2.mono ?_; rintro e w2 ⟨rfl, c1, A2⟩)
          go_ret2
          refine ⟨.slice none 0 0, ?_, ?_, A2.out.2.2⟩
          · rw [HF.out]; rfl
          · rw [HF.out]; exact Kd.R_nil _ _ _ _ _
        | true =>
          by_cases hs : pb = s
          · subst hs
            have hgf : getF pb = (xs, true) := by rw [HGF.out]; simp
            have HF := Aside0.mk hgf
            have q1 : (pb.toList == pb.toList) = true := beq_self_eq_true _
            have q2 : (pb.toList != pb.toList) = false := bne_self_eq_false _
            clear hgf HGF
            go_wp2_with (go_at_call 77; refine CP2.mono ?_; rintro e w2 ⟨rfl, c1, A2⟩)
            go_ret2
            refine ⟨.slice A5 xs.length c5, ?_, ?_, A2.out.2.2⟩
            · rw [HF.out]; rfl
            · rw [HF.out]; exact Kd.R_mono A2.out.2.1 (fun _ _ => trivial)
          · have hgf : getF s = ([], false) := by rw [HGF.out]; simp [hs]
            have HF := Aside0.mk hgf
            have hne : pb.toList ≠ s.toList := fun e => hs (eq_of_data (by rw [← Lib.toList_data, ← Lib.toList_data]; exact e))
            have q1 : (pb.toList == s.toList) = false := beq_eq_false_iff_ne.mpr hne
            have q2 : (pb.toList != s.toList) = true := bne_iff_ne.mpr hne
            clear hgf HGF hne hs
            go_wp2_with (go_at_call 77; refine CP2.mono ?_; rintro e w2 ⟨rfl, c1, A2⟩)
            go_ret2
            refine ⟨.slice none 0 0, ?_, ?_, A2.out.2.2⟩
            · rw [HF.out]; rfl
            · rw [HF.out]; exact Kd.R_nil _ _ _ _ _
end Go.Proofs.YtcmepoakcffpaaaGreat.CP
