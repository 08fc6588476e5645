import Derived.Test.YtcgncdcihglgdaaTSort
namespace Go.Proofs.Ytcgncdcihglgdaa.T
open Go Go.RowKit Go.Proofs.YtcgncdcihglgdaaW.PrintWords Go.Proofs.YtcgncdcihglgdaaW.PrintLast Go.Proofs.YtcgncdcihglgdaaW.PrintMore Go.Proofs.Ytcgncdcihglgdaa.L
set_option linter.unusedVariables false
set_option linter.unusedSimpArgs false
set_option maxHeartbeats 1600000 in
set_option maxRecDepth 100000 in
theorem insertion_calls (w : World) (base : Nat) (ok : Nat → Prop) (g n cap : Nat) (h : RowI w base ok g n cap) (hm : n ≤ 12) :
    Calls Try.prog 28 #[.slice (some ⟨g, 0, none⟩) n cap, .int .i64 0, .int .i64 n, .func (.func 24) #[] #[]] w fun e w' => e = .returned (.tuple #[]) ∧ RowI w' base ok g n cap ∧ Eff (fun k => k = g) w w' := by
  go_enter Try.func28, Try.ntmps28
  go_wp2
  go_loopg [8] n (fun k s8 wr => ∃ i : Nat, s8 = .int .i64 i ∧ n ≤ i + k ∧ 1 ≤ i ∧ i ≤ 13 ∧ Aside0 (RowI wr base ok g n cap ∧ Eff (fun k => k = g) w wr))
  case atStart => exact ⟨1, by rfl, by omega, by omega, by omega, Aside0.mk ⟨h, Eff.refl _ _⟩⟩
  case round =>
    clear h
    obtain ⟨i, rfl, h1, h2, h3, A1⟩ := hrel
    by_cases hz : i < n
    · have p1 : ((i : Int) < (n : Int)) = True := eq_true (by omega)
      obtain ⟨ko, rfl⟩ : ∃ ko, gk = ko + 1 := ⟨gk - 1, by omega⟩
      go_wp2
      go_loopg [9] i (fun k s9 wr => ∃ j : Nat, s9 = .int .i64 j ∧ j ≤ k ∧ j ≤ i ∧ Aside0 (RowI wr base ok g n cap ∧ Eff (fun k => k = g) w wr))
      case atStart => exact ⟨i, by rfl, by omega, by omega, A1⟩
      case round =>
        clear A1
        obtain ⟨j, rfl, h4, h5, A1⟩ := hrel
        by_cases hj : j = 0
        · subst hj
          go_wp2
          go_quiet (fail)
          go_wp2
          go_roundg ko
          case measure => omega
          case rel => exact ⟨i + 1, by simp, by omega, by omega, by omega, Aside0.mk ⟨A1.out.1.eff ((Eff.refl _ _).drewN _), A1.out.2.drewN _⟩⟩
        · obtain ⟨x, X, f⟩ := A1.out.1.cells j (by omega)
          obtain ⟨y, Y, _⟩ := A1.out.1.cells (j - 1) (by omega)
          obtain ⟨jj, hjj⟩ : ∃ jj : Int, (j : Int) = jj := ⟨_, rfl⟩
          obtain ⟨kk, hkk⟩ : ∃ kk : Int, jj - 1 = kk := ⟨_, rfl⟩
          have pg : (jj > 0) = True := eq_true (by omega)
          have pi0 : (0 ≤ jj) = True := eq_true (by omega)
          have pi1 : (jj < (n : Int)) = True := eq_true (by omega)
          have pk0 : (0 ≤ kk) = True := eq_true (by omega)
          have pk1 : (kk < (n : Int)) = True := eq_true (by omega)
          have ij : j = jj.toNat := by omega
          have ik : j - 1 = kk.toNat := by omega
          rw [ij] at X
          rw [ik] at Y
          obtain ⟨x1, x2, x3, x4⟩ := X
          obtain ⟨y1, y2, y3, y4⟩ := Y
          have hw : IntKind.i64.wrap (jj - 1) = kk := by rw [IntKind.wrap_i64]; omega
          have hw2 : wrap64 (jj - 1) = kk := by unfold wrap64; omega
          have A2 := Aside0.mk (And.intro hjj (And.intro hkk (And.intro ij ik)))
          have A3 := Aside0.mk (And.intro h4 (And.intro h5 hj))
          rw [hjj]
          clear hjj hkk ij ik h4 h5 hj
          go_wp2
          have hlt := A1.out.1.lt
          have C : ∀ w1, Eff0 wr w1 → Calls Try.prog 24 #[.agg #[.int .i64 x.1, .int .i64 x.2, .bool false, .slice none 0 0], .agg #[.int .i64 y.1, .int .i64 y.2, .bool false, .slice none 0 0]] w1 fun e w' => (∃ r, e = .returned (.int .i64 r)) ∧ Eff0 wr w' ∧ w'.cell? ⟨g, jj.toNat * 4, none⟩ = some (.int .i64 x.1) ∧ w'.cell? ⟨g, jj.toNat * 4 + 1, none⟩ = some (.int .i64 x.2) ∧ w'.cell? ⟨g, jj.toNat * 4 + 2, none⟩ = some (.bool false) ∧ w'.cell? ⟨g, jj.toNat * 4 + 3, none⟩ = some (.slice none 0 0) ∧ w'.cell? ⟨g, kk.toNat * 4, none⟩ = some (.int .i64 y.1) ∧ w'.cell? ⟨g, kk.toNat * 4 + 1, none⟩ = some (.int .i64 y.2) ∧ w'.cell? ⟨g, kk.toNat * 4 + 2, none⟩ = some (.bool false) ∧ w'.cell? ⟨g, kk.toNat * 4 + 3, none⟩ = some (.slice none 0 0) := by
            intro w1 e1
            refine (cmp_calls w1 x y).mono ?_
            rintro e w' ⟨hr, e2⟩
            have e3 := e1.then0 e2
            exact ⟨hr, e3, by rw [e3.cell hlt id]; exact x1, by rw [e3.cell hlt id]; exact x2, by rw [e3.cell hlt id]; exact x3, by rw [e3.cell hlt id]; exact x4, by rw [e3.cell hlt id]; exact y1, by rw [e3.cell hlt id]; exact y2, by rw [e3.cell hlt id]; exact y3, by rw [e3.cell hlt id]; exact y4⟩
          have s0 : Eff0 wr wr.drew := (Eff.refl _ _).drew
          go_region_held3 (fun w' => Eff0 wr w' ∧ w'.cell? ⟨g, jj.toNat * 4, none⟩ = some (.int .i64 x.1) ∧ w'.cell? ⟨g, jj.toNat * 4 + 1, none⟩ = some (.int .i64 x.2) ∧ w'.cell? ⟨g, jj.toNat * 4 + 2, none⟩ = some (.bool false) ∧ w'.cell? ⟨g, jj.toNat * 4 + 3, none⟩ = some (.slice none 0 0) ∧ w'.cell? ⟨g, kk.toNat * 4, none⟩ = some (.int .i64 y.1) ∧ w'.cell? ⟨g, kk.toNat * 4 + 1, none⟩ = some (.int .i64 y.2) ∧ w'.cell? ⟨g, kk.toNat * 4 + 2, none⟩ = some (.bool false) ∧ w'.cell? ⟨g, kk.toNat * 4 + 3, none⟩ = some (.slice none 0 0)) ((first | (refine ⟨?_, ?_, ?_, ?_, ?_, ?_, ?_, ?_, ?_⟩ <;> assumption) | (refine ⟨?_, ?_, ?_, ?_, ?_, ?_, ?_, ?_, ?_⟩ <;> first | assumption | (exact Eff.drew (by assumption))) | go_keep))
            (first | (go_at_call 24; refine (C _ (by assumption)).mono ?_; rintro e w' ⟨⟨r, rfl⟩, t0, t1, t2, t3, t4, t5, t6, t7, t8⟩))
          have R2 := A1.out.1.eff t0
          have A4 := Aside0.mk (And.intro R2 (A1.out.2.then0 t0))
          obtain ⟨_, _, f2⟩ := R2.cells 0 (by have := A3.out; omega)
          have f3 := f2 (jj.toNat * 4)
          have f4 := f2 (kk.toNat * 4)
          have f30 := f2 (jj.toNat * 4 + 1)
          have f40 := f2 (kk.toNat * 4 + 1)
          have f31 := f2 (jj.toNat * 4 + 2)
          have f41 := f2 (kk.toNat * 4 + 2)
          have f32 := f2 (jj.toNat * 4 + 3)
          have f42 := f2 (kk.toNat * 4 + 3)
          have hne : jj.toNat ≠ kk.toNat := by have := A2.out; have := A3.out; omega
          clear C R2 f2 f s0 x1 x2 x3 x4 y1 y2 y3 y4 A1
          have A5 := Aside0.mk (A4.out.1.swap jj.toNat kk.toNat (by have := A2.out; have := A3.out; omega) (by have := A2.out; have := A3.out; omega) x y)
          have A6 : Aside0 (kk = ((j - 1 : Nat) : Int)) := Aside0.mk (by have := A2.out; have := A3.out; omega)
          go_wp2
          · go_region
            go_wp2
            go_roundg (gk - 1)
            case measure => have := A3.out; omega
            case rel =>
              refine ⟨j - 1, by rw [← A6.out], by have := A3.out; omega, by have := A3.out; omega, Aside0.mk ⟨RowI.eff A5.out.1 ((Eff.refl _ _).drew), ?_⟩⟩
              exact (A4.out.2.trans A5.out.2 (fun _ h => .inl h)).drew
          · go_roundg ko
            case measure => omega
            case rel => exact ⟨i + 1, by simp, by omega, by omega, by omega, A4⟩
    · have p1 : ((i : Int) < (n : Int)) = False := eq_false (by omega)
      go_wp2
      go_end0
      exact ⟨rfl, A1.out⟩
end Go.Proofs.Ytcgncdcihglgdaa.T
