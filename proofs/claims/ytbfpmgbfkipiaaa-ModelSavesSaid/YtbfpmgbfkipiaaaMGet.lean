import Derived.Test.YtbfpmgbfkipiaaaMBegin2
namespace Go.Proofs.Ytbfpmgbfkipiaaa.MD
open Go Go.RowKit Go.Proofs.YtbfpmgbfkipiaaaW.PrintWords Go.Proofs.YtbfpmgbfkipiaaaW.PrintLast Go.Proofs.YtbfpmgbfkipiaaaW.PrintMore Go.Proofs.Ytbfpmgbfkipiaaa.L
set_option linter.unusedVariables false
set_option linter.unusedSimpArgs false
theorem lastW_cut (l : List Wr) (k : ByteArray) (j : Nat) : lastW l k = (lastW (l.drop j) k).or (lastW (l.take j) k) := by
  unfold lastW
  rw [← List.find?_append, ← List.reverse_append, List.take_append_drop]
theorem lastW_at {l : List Wr} {k : ByteArray} {j : Nat} (hj : j < l.length) (h : lastW (l.drop (j + 1)) k = none) : (l.getD j default).key = k → lastW l k = some (l.getD j default) := by
  intro he
  have e : l.getD j default = l[j] := by simp [List.getD, hj]
  rw [e] at he ⊢
  rw [lastW_cut l k (j + 1), h, Option.none_or, List.take_succ_eq_append_getElem hj]
  unfold lastW
  rw [List.reverse_append, List.reverse_cons, List.reverse_nil, List.nil_append, List.singleton_append, List.find?_cons_of_pos (by simpa using he)]
theorem lastW_no {l : List Wr} {k : ByteArray} {j : Nat} (hj : j < l.length) (h : lastW (l.drop (j + 1)) k = none) : (l.getD j default).key ≠ k → lastW (l.drop j) k = none := by
  intro he
  have e : l.getD j default = l[j] := by simp [List.getD, hj]
  rw [e] at he
  rw [List.drop_eq_getElem_cons hj]
  unfold lastW at h ⊢
  rw [List.reverse_cons, List.find?_append, h, Option.none_or, List.find?_cons_of_neg (by simpa using he)]
  rfl
theorem toList_iff {a b : ByteArray} : a.toList = b.toList ↔ a = b := by
  rw [Lib.toList_data, Lib.toList_data]
  exact bl_inj
set_option maxHeartbeats 1600000 in
set_option maxRecDepth 100000 in
theorem Get_calls (b0 : Nat) (s : Mod) (W : World) (F : Nat → Prop) (tx : Int) (key : ByteArray) (h : (ModAt b0 s).on W F) (hm : ∀ p, getP s.t tx = some p → p.2.l.length < 900000) :
    Calls Try.prog 11 #[.pointer (some ⟨b0, 0, none⟩), .int .i64 tx, .string key] W fun e w' => e = .returned (.tuple #[.string (getR s tx key).1, .bool (getR s tx key).2]) ∧ Eff0 W w' := by
  have C := get_calls b0 s W F tx h
  cases hg : getP s.t tx with
  | none =>
    have hr : getR s tx key = (⟨#[]⟩, false) := by simp [getR, hg]
    rw [hr]
    rw [hg] at C
    dsimp only [ptrOf, Option.map_none] at C
    clear h hg hm hr
    go_enter Try.func11, Try.ntmps11
    go_wp2_with (go_at_call 21; refine C.mono ?_; rintro e w1 ⟨rfl, rfl⟩)
    go_ret2
    exact ⟨rfl, Eff.refl _ _⟩
  | some p =>
    obtain ⟨b, x⟩ := p
    have hr : getR s tx key = seenR (lastW x.l key) (lookM s.m key) := by simp [getR, hg]
    have hn := hm _ hg
    dsimp only at hn
    rw [hg] at C
    dsimp only [ptrOf, Option.map_some] at C
    have K : ∀ wr, Eff0 W wr → wr.cell? ⟨b0, 0, none⟩ = some (.map s.mm) ∧ (Instr.lookup 24 (.map s.mm) (.string key) true).run Try.prog wr = .ok (.tuple #[.string ((lookM s.m key).getD ⟨#[]⟩), .bool (lookM s.m key).isSome]) wr := by
      intro wr e0
      have h1 := HP.eff0 h e0
      exact ⟨(ModAt.cells h1).1, ModAt.lookS h1 key⟩
    obtain ⟨F1, h1, _⟩ := ModAt.has h hg
    obtain ⟨vl, vs, d0, d1, f, hl, hs⟩ := OneAt.cells h1
    obtain ⟨A, c, rfl, _, hC⟩ := Kd.R_reads hl
    have HC := Aside0.mk (And.intro hC hr)
    generalize getR s tx key = r at *
    generalize lookM s.m key = lk at *
    generalize x.l = l at *
    clear h hg hm hr hC h1 hl hs d1 f
    go_enter Try.func11, Try.ntmps11
    go_wp2_with (go_at_call 21; refine C.mono ?_; rintro e w1 ⟨rfl, rfl⟩; clear C)
    go_loopg [9] l.length (fun k s9 wr => s9 = .int .i64 ((k : Int) - 1) ∧ k ≤ l.length ∧ Aside0 (lastW (l.drop k) key = none ∧ Eff0 W wr))
    case atStart => exact ⟨by first | rfl | simp, Nat.le_refl _, Aside0.mk ⟨by rw [List.drop_length]; rfl, Eff.refl _ _⟩⟩
    case round =>
      obtain ⟨rfl, hk, A1⟩ := hrel
      cases gk with
      | zero =>
        have p1 : (0 ≤ ((0 : Nat) : Int) - 1) = False := eq_false (by omega)
        obtain ⟨k0, k1⟩ := K _ A1.out.2
        have hr := HC.out.2
        have h0 := A1.out.1
        rw [List.drop_zero] at h0
        rw [h0] at hr
        unfold seenR at hr
        dsimp only at hr
        subst hr
        clear h0
        go_wp2
        go_ret2
        exact ⟨rfl, A1.out.2⟩
      | succ j =>
        have hj : j < l.length := by omega
        have pj : ((j + 1 : Nat) : Int) - 1 = (j : Int) := by omega
        rw [pj]
        have p1 : (0 ≤ (j : Int)) = True := eq_true (by omega)
        have p2 : ((j : Int) < (l.length : Int)) = True := eq_true (by omega)
        obtain ⟨ad, ea, x0, x1, x2⟩ := at_W (Kd.C_below HC.out.1 A1.out.2.below0) j hj
        subst ea
        have d0' : wr.cell? ⟨b, 0, none⟩ = some (.slice (some ad) l.length c) := by rw [A1.out.2.cell (World.block_lt_of_cell? _ _ d0) id]; exact d0
        have L1 := Aside0.mk (lastW_at hj A1.out.1)
        have L2 := Aside0.mk (lastW_no hj A1.out.1)
        generalize l.getD j default = w at *
        obtain ⟨wk, wv, wg⟩ := w
        dsimp only at x0 x1 x2
        by_cases hk : wk = key
        · subst hk
          have hr := HC.out.2
          rw [L1.out rfl] at hr
          unfold seenR at hr
          dsimp only at hr
          subst hr
          go_wp2
          go_region
          all_goals go_wp2
          all_goals go_ret2
          all_goals exact ⟨rfl, by repeat (first | exact A1.out.2 | apply Eff.drew | apply Eff.alloc)⟩
        · have q1 : (wk.toList == key.toList) = false := beq_eq_false_iff_ne.mpr (fun e => hk (toList_iff.1 e))
          have q2 : (wk.toList = key.toList) = False := eq_false (fun e => hk (toList_iff.1 e))
          go_wp2
          go_roundg j
          case measure => omega
          case rel => exact ⟨rfl, by omega, Aside0.mk ⟨L2.out hk, A1.out.2.alloc _⟩⟩
end Go.Proofs.Ytbfpmgbfkipiaaa.MD
