import Derived.Test.YtbfpmgbfkipiaaaMSave
namespace Go.Proofs.Ytbfpmgbfkipiaaa.MD
open Go Go.RowKit Go.Proofs.YtbfpmgbfkipiaaaW.PrintWords Go.Proofs.YtbfpmgbfkipiaaaW.PrintLast Go.Proofs.YtbfpmgbfkipiaaaW.PrintMore Go.Proofs.Ytbfpmgbfkipiaaa.L
set_option linter.unusedVariables false
set_option linter.unusedSimpArgs false
/-- The savepoints rise, and are within what was written. -/
def OneOk (x : One) : Prop := x.saves.Pairwise (· ≤ ·) ∧ ∀ n ∈ x.saves, 0 ≤ n ∧ n ≤ (x.l.length : Int)
def backR (s : Mod) (tx k : Int) : Bool × Mod := match getP s.t tx with
  | some p => if k < 0 ∨ (p.2.saves.length : Int) ≤ k then (false, s) else (true, { s with t := setP s.t tx ⟨p.2.l.take (p.2.saves.getD k.toNat 0).toNat, p.2.saves.take (k.toNat + 1)⟩ })
  | none => (false, s)
theorem at_I {w : World} {A : Option Addr} {n : Nat} {xs : List Int} (h : Kd.C kdI w A n xs) (i : Nat) (h1 : i < n) :
    ∃ ad, A = some ad ∧ w.cell? (ad.add i) = some (.int .i64 (xs.getD i 0)) := by
  obtain ⟨ad, c, e, _, hK, hc0⟩ := Kd.C_get h 0 (i : Int) (by omega) (by omega)
  have hc : ∀ j u, c[j]? = some u → w.cell? (ad.add (i * 1 + j)) = some u := hc0
  have hK2 : c = [.int .i64 (xs.getD i 0)] := hK
  subst hK2
  have := hc 0 _ rfl
  rw [Nat.mul_one, Nat.add_zero] at this
  exact ⟨ad, e, this⟩
set_option maxHeartbeats 1600000 in
set_option maxRecDepth 100000 in
theorem back_calls (b0 : Nat) (s : Mod) (W : World) (F : Nat → Prop) (tx k : Int) (h : (ModAt b0 s).on W F) (hm : ∀ p, getP s.t tx = some p → p.2.l.length < 900000 ∧ p.2.saves.length < 900000 ∧ OneOk p.2) :
    Calls Try.prog 17 #[.pointer (some ⟨b0, 0, none⟩), .int .i64 tx, .int .i64 k] W fun e w' => e = .returned (.bool (backR s tx k).1) ∧ Upd W F (ModAt b0 (backR s tx k).2) w' := by
  have C := get_calls b0 s W F tx h
  cases hg : getP s.t tx with
  | none =>
    have hr : backR s tx k = (false, s) := by simp [backR, hg]
    rw [hr]
    rw [hg] at C
    dsimp only [ptrOf, Option.map_none] at C
    have H := Aside0.mk h
    clear h hg hm hr
    go_enter Try.func17, Try.ntmps17
    go_wp2_with (go_at_call 21; refine C.mono ?_; rintro e w1 ⟨rfl, rfl⟩)
    go_ret
    exact ⟨rfl, Upd.same H.out (Eff.refl _ _)⟩
  | some p =>
    obtain ⟨b, x⟩ := p
    obtain ⟨hn, hn2, hok⟩ := hm _ hg
    dsimp only at hn hn2 hok
    rw [hg] at C
    dsimp only [ptrOf, Option.map_some] at C
    obtain ⟨F1, h1, u1⟩ := ModAt.focus h hg
    obtain ⟨vl, vs, d0, d1, f, hl, hs⟩ := OneAt.cells h1
    obtain ⟨A, c, rfl⟩ := Kd.R_slice hl
    obtain ⟨A', c', rfl⟩ := Kd.R_slice hs
    have f0 := f 0
    have f1 := f 1
    have H0 := Aside0.mk h
    have H1 := Aside0.mk (And.intro h1 u1)
    have hlt : b < W.heap.size := World.block_lt_of_cell? _ _ d0
    by_cases hz : k < 0 ∨ (x.saves.length : Int) ≤ k
    · have hr : backR s tx k = (false, s) := by simp only [backR, hg]; rw [if_pos hz]
      rw [hr]
      by_cases hk : k < 0
      · have p1 : (k < 0) = True := eq_true hk
        clear h hg hm hr h1 u1 hl hs f hz hk hok
        go_enter Try.func17, Try.ntmps17
        go_wp2_with (go_at_call 21; refine C.mono ?_; rintro e w1 ⟨rfl, rfl⟩)
        go_ret
        exact ⟨rfl, Upd.same H0.out (Eff.refl _ _)⟩
      · have p1 : (k < 0) = False := eq_false hk
        have p2 : ((x.saves.length : Int) ≤ k) = True := eq_true (by omega)
        clear h hg hm hr h1 u1 hl hs f hz hk hok
        go_enter Try.func17, Try.ntmps17
        go_wp2_with (go_at_call 21; refine C.mono ?_; rintro e w1 ⟨rfl, rfl⟩)
        go_ret
        exact ⟨rfl, Upd.same H0.out (Eff.refl _ _)⟩
    · obtain ⟨n, rfl⟩ : ∃ n : Nat, k = n := ⟨k.toNat, by omega⟩
      have hr : backR s tx n = (true, { s with t := setP s.t tx ⟨x.l.take (x.saves.getD n 0).toNat, x.saves.take (n + 1)⟩ }) := by
        simp only [backR, hg]
        rw [if_neg hz]
        rfl
      rw [hr]
      have hnl : n < x.saves.length := by omega
      obtain ⟨ad, rfl, xs⟩ := at_I (Kd.R_reads' hs).2.2 n hnl
      obtain ⟨y1, y2⟩ := hok.2 (x.saves.getD n 0) (by rw [List.getD_eq_getElem?_getD, List.getElem?_eq_getElem hnl]; exact List.getElem_mem hnl)
      obtain ⟨y, hy⟩ : ∃ y : Nat, x.saves.getD n 0 = y := ⟨(x.saves.getD n 0).toNat, by omega⟩
      rw [hy] at xs y1 y2 ⊢
      have p1 : ((n : Int) < 0) = False := eq_false (by omega)
      have p2 : ((x.saves.length : Int) ≤ (n : Int)) = False := eq_false (by omega)
      have p3 : ((n : Int) < (x.saves.length : Int)) = True := eq_true (by omega)
      have p4 : (0 ≤ (n : Int)) = True := eq_true (by omega)
      have q1 : y ≤ x.l.length := by omega
      have q2 : x.l.length ≤ c := (Kd.R_reads' hl).2.1
      have q3 : x.saves.length ≤ c' := (Kd.R_reads' hs).2.1
      have q4 : y ≤ c := by omega
      have q5 : n + 1 ≤ c' := by omega
      rw [Int.toNat_natCast]
      have hxb : ad.block ≠ b := fun e => (hs.1 ad.block rfl).2 e
      have nb1 : (b = ad.block) = False := eq_false (fun e => hxb e.symm)
      have nb2 : (ad.block = b) = False := eq_false hxb
      have U : Upd W F1 (OneAt b ⟨x.l.take y, x.saves.take (n + 1)⟩) ((W.setCell ⟨b, 0, none⟩ (.slice A y c)).setCell ⟨b, 1, none⟩ (.slice (some ad) (n + 1) c')) := by
        refine (OneAt.setL h1 d0 (Eff.refl _ _) (Kd.R_take hl q1) (fun k hk => .inl hk)).trans (fun F2 h2 => ?_)
        obtain ⟨_, _, _, e1, _, _, _⟩ := OneAt.cells h2
        have e1' : (W.setCell ⟨b, 0, none⟩ (.slice A y c)).cell? ⟨b, 1, none⟩ = some (.slice (some ad) x.saves.length c') := by
          rw [← d1]
          apply World.cell?_setCell_other
          intro e
          injection e with _ e2
          cases e2
        exact OneAt.setSaves h2 e1' (Eff.refl _ _) (Kd.R_take (OneAt.savesR (x := ⟨x.l.take y, x.saves⟩) h2 e1') (by show n + 1 ≤ x.saves.length; omega)) (fun k hk => .inl hk)
      have AU := Aside0.mk (u1 _ _ U)
      clear h hg hm hr h1 u1 hl hs f hz hok hxb hy U H0 H1
      go_enter Try.func17, Try.ntmps17
      go_wp2_with (go_at_call 21; refine C.mono ?_; rintro e w1 ⟨rfl, rfl⟩; clear C)
      go_region
      all_goals go_wp2
      all_goals go_ret
      all_goals first
        | exact ⟨rfl, AU.out⟩
        | exact ⟨rfl, AU.out.after ((Eff.refl _ _).drew)⟩
end Go.Proofs.Ytbfpmgbfkipiaaa.MD
