import Derived.Test.YtcmepoakcffpaaaProg
import Derived.BigRegion
import Derived.BigQuiet
import Derived.Deep.QuietTactic
import Derived.Deep.AppendLies
import Derived.ChangeAlike
import Derived.Outline
import Derived.WalkKit
import Derived.KernelRfl
import Derived.Deep.LoopGhost
import Derived.Deep.RegionLaw
import Derived.Test.YtcmepoakcffpaaaWMore
import Derived.Test.YtcmepoakcffpaaaWKept
import Derived.Test.YtcmepoakcffpaaaLSep
import Derived.Test.YtcmepoakcffpaaaCOPlain
import Derived.Test.YtcmepoakcffpaaaCEx
import Derived.Deep.RegionHeld3
namespace Go.Proofs.Ytcmepoakcffpaaa.CP
open Go Go.RowKit Go.Proofs.YtcmepoakcffpaaaW.PrintWords Go.Proofs.YtcmepoakcffpaaaW.PrintLast Go.Proofs.YtcmepoakcffpaaaW.PrintMore Go.Proofs.Ytcmepoakcffpaaa.CE Go.Proofs.Ytcmepoakcffpaaa.MM Go.Proofs.Ytcmepoakcffpaaa.L
set_option linter.unusedVariables false
set_option linter.unusedSimpArgs false
structure OrdS (w : World) (A : Option Addr) (l R : List B) (pb qb : Nat) (i : Nat) (sp sq : ByteArray) (W : World) : Prop where
  a : W.heap[pb]? = some (.cells #[.int .i64 3, .int .i64 3, .int .i64 7, .string sp] 23 (0, 0))
  b : W.heap[qb]? = some (.cells #[.int .i64 3, .int .i64 3, .int .i64 7, .string sq] 23 (0, 0))
  c : Kd.C kdB W A l.length l
  e : Eff0 w W
  ne : pb ≠ qb
  lo : w.heap.size ≤ pb ∧ w.heap.size ≤ qb
  hp : OAt l i sp
  hq : OAt R i sq
theorem heldA {W W' : World} {a : Addr} {v : Value} (e : Eff0 W W') (h : W.cell? a = some v) : W'.cell? a = some v := (e.below0.cell (p := a) (World.block_lt_of_cell? W _ h)).trans h
theorem OrdS.eff0 {w : World} {A : Option Addr} {l R : List B} {pb qb i : Nat} {sp sq : ByteArray} {W W' : World} (h : OrdS w A l R pb qb i sp sq W) (e : Eff0 W W') : OrdS w A l R pb qb i sp sq W' :=
  ⟨by rw [e.block _ (blk_lt h.a) id]; exact h.a, by rw [e.block _ (blk_lt h.b) id]; exact h.b, Kd.C_below h.c e.below0, h.e.then0 e, h.ne, h.lo, h.hp, h.hq⟩
theorem mods (turn : Int) (n : Nat) (hn : 0 < n) : ∃ (s : Nat) (m1 : Int), s < n ∧ turn.tmod (n : Int) = m1 ∧ -(n : Int) < m1 ∧ m1 < n ∧ (m1 + (n : Int)).tmod (n : Int) = (s : Int) := by
  have h1 := Int.tmod_lt_of_pos turn (show (0 : Int) < n by omega)
  have h2 := Int.lt_tmod_of_pos turn (show (0 : Int) < n by omega)
  have h3 : (turn.tmod (n : Int) + n).tmod (n : Int) = (turn.tmod (n : Int) + n) % n := Int.tmod_eq_emod_of_nonneg (by omega)
  have h4 := Int.emod_nonneg (turn.tmod (n : Int) + n) (show (n : Int) ≠ 0 by omega)
  have h5 := Int.emod_lt_of_pos (turn.tmod (n : Int) + n) (show (0 : Int) < n by omega)
  refine ⟨((turn.tmod (n : Int) + n) % n).toNat, _, by omega, rfl, h2, h1, by rw [h3]; omega⟩
/-- A new page. -/
structure NewP (wr : World) (xb : Nat) (s : ByteArray) (wx : World) : Prop where
  e : Eff0 wr wx
  a : wx.heap[xb]? = some (.cells #[.int .i64 3, .int .i64 3, .int .i64 7, .string s] 23 (0, 0))
  lo : wr.heap.size ≤ xb
theorem NewP.behind {wr wP : World} {s : ByteArray} (e : Eff0 wr wP) : NewP wr wP.heap.size s (wP.alloc (.cells #[.int .i64 3, .int .i64 3, .int .i64 7, .string s] 23)) := ⟨e.alloc _, heap_alloc_new _ _, e.size⟩
theorem NewP.ahead {wr W wP : World} {s : ByteArray} {z0 z1 z2 z3 : Value} (e0 : Eff0 wr W) (ha : W.heap[wr.heap.size]? = some (.cells #[z0, z1, z2, z3] 23 (0, 0))) (e : Eff0 W wP) : NewP wr wr.heap.size s ((((wP.setCell ⟨wr.heap.size, 0, none⟩ (.int .i64 3)).setCell ⟨wr.heap.size, 1, none⟩ (.int .i64 3)).setCell ⟨wr.heap.size, 2, none⟩ (.int .i64 7)).setCell ⟨wr.heap.size, 3, none⟩ (.string s)) :=
  ⟨eff_four (e0.then0 e) (Nat.le_refl _) _ _ _ _, four_set (by rw [e.block _ (blk_lt ha) id]; exact ha) _ _ _ _, Nat.le_refl _⟩
theorem four_far {w : World} {b b' : Nat} {x : Option Obj} (h : w.heap[b]? = x) (hne : b' ≠ b) (y0 y1 y2 y3 : Value) : ((((w.setCell ⟨b', 0, none⟩ y0).setCell ⟨b', 1, none⟩ y1).setCell ⟨b', 2, none⟩ y2).setCell ⟨b', 3, none⟩ y3).heap[b]? = x :=
  far_set (far_set (far_set (far_set h hne _) hne _) hne _) hne _
theorem OrdS.next {w : World} {A : Option Addr} {l R : List B} {pb qb i : Nat} {sp sq sp' sq' : ByteArray} {W : World} (h : OrdS w A l R pb qb i sp sq W) (hC : Kd.C kdB w A l.length l) (hp : OAt l (i + 1) sp') (hq : OAt R (i + 1) sq') : OrdS w A l R pb qb (i + 1) sp' sq' ((((((((W.setCell ⟨pb, 0, none⟩ (.int .i64 3)).setCell ⟨pb, 1, none⟩ (.int .i64 3)).setCell ⟨pb, 2, none⟩ (.int .i64 7)).setCell ⟨pb, 3, none⟩ (.string sp')).setCell ⟨qb, 0, none⟩ (.int .i64 3)).setCell ⟨qb, 1, none⟩ (.int .i64 3)).setCell ⟨qb, 2, none⟩ (.int .i64 7)).setCell ⟨qb, 3, none⟩ (.string sq')) := by
  have e := eff_four (eff_four h.e h.lo.1 (.int .i64 3) (.int .i64 3) (.int .i64 7) (.string sp')) h.lo.2 (.int .i64 3) (.int .i64 3) (.int .i64 7) (.string sq')
  exact ⟨four_far (four_set h.a _ _ _ _) (fun e => h.ne e.symm) _ _ _ _, four_set (four_far h.b h.ne _ _ _ _) _ _ _ _, Kd.C_below hC e.below0, e, h.ne, h.lo, hp, hq⟩
theorem OrdS.next' {w : World} {A : Option Addr} {l R : List B} {pb qb i : Nat} {sp sq sp' sq' : ByteArray} {W : World} (h : OrdS w A l R pb qb i sp sq W) (hC : Kd.C kdB w A l.length l) (hp : OAt l (i + 1) sp') (hq : OAt R (i + 1) sq') : OrdS w A l R pb qb (i + 1) sp' sq' ((((((((W.setCell ⟨qb, 0, none⟩ (.int .i64 3)).setCell ⟨qb, 1, none⟩ (.int .i64 3)).setCell ⟨qb, 2, none⟩ (.int .i64 7)).setCell ⟨qb, 3, none⟩ (.string sq')).setCell ⟨pb, 0, none⟩ (.int .i64 3)).setCell ⟨pb, 1, none⟩ (.int .i64 3)).setCell ⟨pb, 2, none⟩ (.int .i64 7)).setCell ⟨pb, 3, none⟩ (.string sp')) := by
  have e := eff_four (eff_four h.e h.lo.2 (.int .i64 3) (.int .i64 3) (.int .i64 7) (.string sq')) h.lo.1 (.int .i64 3) (.int .i64 3) (.int .i64 7) (.string sp')
  exact ⟨four_set (four_far h.a (fun e => h.ne e.symm) _ _ _ _) _ _ _ _, four_far (four_set h.b _ _ _ _) h.ne _ _ _ _, Kd.C_below hC e.below0, e, h.ne, h.lo, hp, hq⟩
set_option maxHeartbeats 1600000 in
set_option maxRecDepth 100000 in
theorem order_main (w : World) (A : Option Addr) (c : Nat) (L : List S25) (turn : Int) (hr : Kd.C k25 w A L.length L) (hc : L.length ≤ c) (h40 : L.length ≤ 40) (hk : ∃ k, honeycombref1_Fits.f k L = some true) (hF : FitB (L.map toB)) :
    Calls Try.prog 5 #[.slice A L.length c, .int .i64 turn] w fun e w' => e = .returned (.bool true) ∧ Eff0 w w' := by
  have CA := fun W => alive_calls W
  have CFt : Calls Try.prog 18 #[.slice A L.length c] w fun e w' => e = .returned (.bool true) ∧ Eff0 w w' := by
    obtain ⟨k, hk⟩ := hk
    exact (honeycombref1_Fits.calls k A c L true w hr hc hk).mono fun e w' ⟨he, hb⟩ => ⟨he, Eff.of_below hb⟩
  have hC : Kd.C kdB w A (L.map toB).length (L.map toB) := by rw [List.length_map]; exact c_toB hr
  have el : L.length = (L.map toB).length := by rw [List.length_map]
  rw [el] at hc h40 CFt ⊢
  clear hr hk el
  generalize L.map toB = l at *
  clear L
  have HC := Aside0.mk (And.intro hC hF)
  have CE := fun W => empty_calls 3 3 7 W
  generalize hz : zeros240 = z at CE
  have HZ := Aside0.mk hz
  clear hz hC hF
  have p40 : (40 < (l.length : Int)) = False := eq_false (by omega)
  go_enter Try.func5, Try.ntmps5
  go_wp2_with (first
    | (go_at_call 18; refine CFt.mono ?_; rintro e w1 ⟨rfl, e1⟩)
    | (go_at_call 8; refine (CA _).mono ?_; rintro e w2 ⟨rfl, e2⟩)
    | (go_at_call 12; refine (CE _).mono ?_; rintro e w3 ⟨rfl, e3⟩))
  have E3 : Eff0 w w3 := e1.then0 (e2.then0 (Eff.then0 (by assumption) e3))
  obtain ⟨s, m1, hM⟩ : ∃ (s : Nat) (m1 : Int), 0 < l.length → (s < l.length ∧ turn.tmod (l.length : Int) = m1 ∧ -(l.length : Int) < m1 ∧ m1 < l.length ∧ (m1 + (l.length : Int)).tmod (l.length : Int) = (s : Int)) := by
    by_cases h0 : 0 < l.length
    · obtain ⟨s, m1, h⟩ := mods turn l.length h0
      exact ⟨s, m1, fun _ => h⟩
    · exact ⟨0, 0, fun h => absurd h h0⟩
  have HM := Aside0.mk hM
  clear hM
  go_loopg [32] l.length (fun k s32 wr => ∃ (i : Nat) (sp sq : ByteArray), s32 = .int .i64 i ∧ i + k = l.length ∧ Aside0 (OrdS w A l (rot l s) w3.heap.size (w3.heap.size + 1) i sp sq wr))
  case atStart =>
    have hz := HZ.out
    exact ⟨0, z, z, rfl, by omega, Aside0.mk ⟨heap_alloc2_old w3 _ _, heap_alloc2_new w3 _ _, Kd.C_below HC.out.1 ((E3.alloc _).alloc _).below0, (E3.alloc _).alloc _, by omega, ⟨E3.size, by have := E3.size; omega⟩, by rw [← hz]; exact OAt.start l, by rw [← hz]; exact OAt.start _⟩⟩
  case round =>
    obtain ⟨i, sp, sq, rfl, hik, A1⟩ := hrel
    generalize hpb : w3.heap.size = pb at *
    generalize hqb : pb + 1 = qb at *
    by_cases hi : i < l.length
    · obtain ⟨hs1, hs2, hs3, hs4, hs5⟩ := HM.out (by omega)
      have HR : FitB (rot l s) := HC.out.2.perm (rot_perm l s)
      obtain ⟨sp', hsp, hp'⟩ := OAt.step HC.out.2 A1.out.hp hi
      obtain ⟨sq', hsq, hq'⟩ := OAt.step HR A1.out.hq (by rw [rot_length]; exact hi)
      obtain ⟨j, hj⟩ : ∃ j, j = (i + s) % l.length := ⟨_, rfl⟩
      have hjl : j < l.length := by rw [hj]; exact Nat.mod_lt _ (by omega)
      have hj5 : ((i : Int) + (s : Int)).tmod (l.length : Int) = (j : Int) := by
        rw [Int.tmod_eq_emod_of_nonneg (by omega), hj]
        simp
      obtain ⟨ad, ea, x0, x1, x2, x3⟩ := at_B A1.out.c i hi
      obtain ⟨ad', ea', y0, y1, y2, y3⟩ := at_B A1.out.c j hjl
      have e1 : l[i] = l.getD i default := by simp [List.getD, hi]
      have e2 : (rot l s)[i]'(by rw [rot_length]; exact hi) = l.getD j default := by
        rw [hj, ← rot_get l s i hs1 hi]
        have : i < (rot l s).length := by rw [rot_length]; exact hi
        simp [List.getD, this]
      rw [e1] at hsp
      rw [e2] at hsq
      subst ea
      injection ea' with ea'
      subst ea'
      have CS1 := fun W => set_calls W ⟨3, 3, 7, sp⟩ (l.getD i default)
      have CS2 := fun W => set_calls W ⟨3, 3, 7, sq⟩ (l.getD j default)
      rw [hsp] at CS1
      rw [hsq] at CS2
      generalize l.getD i default = c1 at *
      generalize l.getD j default = c2 at *
      unfold Pg.val B.val at CS1 CS2
      dsimp only at CS1 CS2
      have HP := Aside0.mk (And.intro hp' hq')
      have p1 : ((i : Int) < (l.length : Int)) = True := eq_true (by omega)
      have w1 : IntKind.i64.wrap (m1 + (l.length : Int)) = m1 + (l.length : Int) := by rw [IntKind.wrap_i64]; omega
      have w2 : IntKind.i64.wrap ((i : Int) + (s : Int)) = (i : Int) + (s : Int) := by rw [IntKind.wrap_i64]; omega
      have j1 : ((j : Int) < (l.length : Int)) = True := eq_true (by omega)
      have b0 := A1.out.a
      have b1 := A1.out.b
      have b00 := blk_cell b0 0
      have b01 := blk_cell b0 1
      have b02 := blk_cell b0 2
      have b03 := blk_cell b0 3
      have b10 := blk_cell b1 0
      have b11 := blk_cell b1 1
      have b12 := blk_cell b1 2
      have b13 := blk_cell b1 3
      clear b0 b1
      clear hsp hsq e1 e2 hp' hq' HR hs1 hj
      have lp := World.block_lt_of_cell? _ _ b00
      have lq := World.block_lt_of_cell? _ _ b10
      have lx := World.block_lt_of_cell? _ _ x0
      have ly := World.block_lt_of_cell? _ _ y0
      have KP : ∀ W W', (Eff0 wr W ∧ W.cell? ⟨pb, 0, none⟩ = some (.int .i64 3) ∧ W.cell? ⟨pb, 1, none⟩ = some (.int .i64 3) ∧ W.cell? ⟨pb, 2, none⟩ = some (.int .i64 7) ∧ W.cell? ⟨pb, 3, none⟩ = some (.string sp) ∧ W.cell? (ad.add (i * 4)) = some (.string c1.k) ∧ W.cell? { block := (ad.add (i * 4)).block, off := (ad.add (i * 4)).off + 1 } = some (.string c1.v) ∧ W.cell? { block := (ad.add (i * 4)).block, off := (ad.add (i * 4)).off + 2 } = some (.int .i64 c1.bl) ∧ W.cell? { block := (ad.add (i * 4)).block, off := (ad.add (i * 4)).off + 3 } = some (.int .i64 c1.sz)) → Eff0 W W' → (Eff0 wr W' ∧ W'.cell? ⟨pb, 0, none⟩ = some (.int .i64 3) ∧ W'.cell? ⟨pb, 1, none⟩ = some (.int .i64 3) ∧ W'.cell? ⟨pb, 2, none⟩ = some (.int .i64 7) ∧ W'.cell? ⟨pb, 3, none⟩ = some (.string sp) ∧ W'.cell? (ad.add (i * 4)) = some (.string c1.k) ∧ W'.cell? { block := (ad.add (i * 4)).block, off := (ad.add (i * 4)).off + 1 } = some (.string c1.v) ∧ W'.cell? { block := (ad.add (i * 4)).block, off := (ad.add (i * 4)).off + 2 } = some (.int .i64 c1.bl) ∧ W'.cell? { block := (ad.add (i * 4)).block, off := (ad.add (i * 4)).off + 3 } = some (.int .i64 c1.sz)) := by
        rintro W W' ⟨x, x0, x1, x2, x3, x4, x5, x6, x7⟩ e
        exact ⟨x.then0 e, held e x0, held e x1, held e x2, held e x3, heldA e x4, held e x5, held e x6, held e x7⟩
      have SP : ∀ W, (Eff0 wr W ∧ W.cell? ⟨pb, 0, none⟩ = some (.int .i64 3) ∧ W.cell? ⟨pb, 1, none⟩ = some (.int .i64 3) ∧ W.cell? ⟨pb, 2, none⟩ = some (.int .i64 7) ∧ W.cell? ⟨pb, 3, none⟩ = some (.string sp) ∧ W.cell? (ad.add (i * 4)) = some (.string c1.k) ∧ W.cell? { block := (ad.add (i * 4)).block, off := (ad.add (i * 4)).off + 1 } = some (.string c1.v) ∧ W.cell? { block := (ad.add (i * 4)).block, off := (ad.add (i * 4)).off + 2 } = some (.int .i64 c1.bl) ∧ W.cell? { block := (ad.add (i * 4)).block, off := (ad.add (i * 4)).off + 3 } = some (.int .i64 c1.sz)) → Calls Try.prog 10 #[.agg #[.int .i64 3, .int .i64 3, .int .i64 7, .string sp], .agg #[.string c1.k, .string c1.v, .int .i64 c1.bl, .int .i64 c1.sz]] W fun e w' => e = .returned (.tuple #[.agg #[.int .i64 3, .int .i64 3, .int .i64 7, .string sp'], .int .i64 0]) ∧ (Eff0 wr w' ∧ w'.cell? ⟨pb, 0, none⟩ = some (.int .i64 3) ∧ w'.cell? ⟨pb, 1, none⟩ = some (.int .i64 3) ∧ w'.cell? ⟨pb, 2, none⟩ = some (.int .i64 7) ∧ w'.cell? ⟨pb, 3, none⟩ = some (.string sp) ∧ w'.cell? (ad.add (i * 4)) = some (.string c1.k) ∧ w'.cell? { block := (ad.add (i * 4)).block, off := (ad.add (i * 4)).off + 1 } = some (.string c1.v) ∧ w'.cell? { block := (ad.add (i * 4)).block, off := (ad.add (i * 4)).off + 2 } = some (.int .i64 c1.bl) ∧ w'.cell? { block := (ad.add (i * 4)).block, off := (ad.add (i * 4)).off + 3 } = some (.int .i64 c1.sz)) ∧ Eff0 W w' := fun W z => (CS1 W).mono fun e w' ⟨he, e1⟩ => ⟨he, KP _ _ z e1, e1⟩
      have neP0 := World.new_ne wr _ b00
      have neP1 := World.new_ne wr _ x0
      have neP2 := World.new_ne wr _ x1
      have s0P : Eff0 wr wr.drew := (Eff.refl _ _).drew
      clear KP CS1
      go_upto_region 8 with (fail)
      go_cut [9, 10] (fun v9 v10 wx => v10 = .int .i64 0 ∧ ∃ xb : Nat, v9 = .pointer (some ⟨xb, 0, none⟩) ∧ Aside0 (NewP wr xb sp' wx))
      case first =>
        go_region_held3 (fun W' => Eff0 wr W' ∧ W'.cell? ⟨pb, 0, none⟩ = some (.int .i64 3) ∧ W'.cell? ⟨pb, 1, none⟩ = some (.int .i64 3) ∧ W'.cell? ⟨pb, 2, none⟩ = some (.int .i64 7) ∧ W'.cell? ⟨pb, 3, none⟩ = some (.string sp) ∧ W'.cell? (ad.add (i * 4)) = some (.string c1.k) ∧ W'.cell? { block := (ad.add (i * 4)).block, off := (ad.add (i * 4)).off + 1 } = some (.string c1.v) ∧ W'.cell? { block := (ad.add (i * 4)).block, off := (ad.add (i * 4)).off + 2 } = some (.int .i64 c1.bl) ∧ W'.cell? { block := (ad.add (i * 4)).block, off := (ad.add (i * 4)).off + 3 } = some (.int .i64 c1.sz)) ((first | (refine ⟨?_, ?_, ?_, ?_, ?_, ?_, ?_, ?_, ?_⟩ <;> assumption) | (refine ⟨(by (repeat (first | assumption | exact And.left (by assumption) | exact Eff.refl _ _ | apply Eff.alloc | apply Eff.drew | (refine Eff.set ?_ _ _ (.inr (by first | exact Nat.le_refl _ | exact Eff.size (S := fun _ => False) (by assumption))))))), ?_⟩; go_keep) | go_keep))
          (first | (go_at_call 10; refine (SP _ (by assumption)).mono ?_; rintro e wP ⟨rfl, ⟨u, u0, u1, u2, u3, u4, u5, u6, u7⟩, uP⟩; obtain ⟨hcP, hfP⟩ := bcell uP; have hzP := uP.size))
        all_goals
          go_wp2_with fail
          go_meet
          case rel =>
            first
            | exact ⟨rfl, _, rfl, Aside0.mk (NewP.behind (by first | exact uP | exact Eff.then0 ((Eff.refl _ _).drew) uP))⟩
            | exact ⟨rfl, _, rfl, Aside0.mk (NewP.ahead (by repeat (first | exact Eff.refl _ _ | apply Eff.alloc | apply Eff.drew)) (by first | exact heap_alloc_new _ _ | (simp [World.drew, World.alloc]; done)) uP)⟩
      case rest =>
        obtain ⟨rfl, xb, rfl, N1⟩ := hcut
        clear x0 x1 x2 x3 b00 b01 b02 b03 lp lq lx ly SP neP0 neP1 neP2 s0P
        have z0 := heldA N1.out.e y0
        have z1 := held N1.out.e y1
        have z2 := held N1.out.e y2
        have z3 := held N1.out.e y3
        have c10 := held N1.out.e b10
        have c11 := held N1.out.e b11
        have c12 := held N1.out.e b12
        have c13 := held N1.out.e b13
        have lq := World.block_lt_of_cell? _ _ c10
        have ly := World.block_lt_of_cell? _ _ z0
        clear y0 y1 y2 y3 b10 b11 b12 b13
        have n0 : ((l.length : Int) = 0) = False := eq_false (by omega)
        have n1 : ((l.length : Int) == 0) = false := beq_eq_false_iff_ne.mpr (by omega)
        have n2 : (l = []) = False := eq_false (fun e => by rw [e] at hi; exact absurd hi (by simp))
        have KQ : ∀ W W', (Eff0 wc W ∧ W.cell? ⟨qb, 0, none⟩ = some (.int .i64 3) ∧ W.cell? ⟨qb, 1, none⟩ = some (.int .i64 3) ∧ W.cell? ⟨qb, 2, none⟩ = some (.int .i64 7) ∧ W.cell? ⟨qb, 3, none⟩ = some (.string sq) ∧ W.cell? (ad.add (j * 4)) = some (.string c2.k) ∧ W.cell? { block := (ad.add (j * 4)).block, off := (ad.add (j * 4)).off + 1 } = some (.string c2.v) ∧ W.cell? { block := (ad.add (j * 4)).block, off := (ad.add (j * 4)).off + 2 } = some (.int .i64 c2.bl) ∧ W.cell? { block := (ad.add (j * 4)).block, off := (ad.add (j * 4)).off + 3 } = some (.int .i64 c2.sz)) → Eff0 W W' → (Eff0 wc W' ∧ W'.cell? ⟨qb, 0, none⟩ = some (.int .i64 3) ∧ W'.cell? ⟨qb, 1, none⟩ = some (.int .i64 3) ∧ W'.cell? ⟨qb, 2, none⟩ = some (.int .i64 7) ∧ W'.cell? ⟨qb, 3, none⟩ = some (.string sq) ∧ W'.cell? (ad.add (j * 4)) = some (.string c2.k) ∧ W'.cell? { block := (ad.add (j * 4)).block, off := (ad.add (j * 4)).off + 1 } = some (.string c2.v) ∧ W'.cell? { block := (ad.add (j * 4)).block, off := (ad.add (j * 4)).off + 2 } = some (.int .i64 c2.bl) ∧ W'.cell? { block := (ad.add (j * 4)).block, off := (ad.add (j * 4)).off + 3 } = some (.int .i64 c2.sz)) := by
          rintro W W' ⟨x, x0, x1, x2, x3, x4, x5, x6, x7⟩ e
          exact ⟨x.then0 e, held e x0, held e x1, held e x2, held e x3, heldA e x4, held e x5, held e x6, held e x7⟩
        have SQ : ∀ W, (Eff0 wc W ∧ W.cell? ⟨qb, 0, none⟩ = some (.int .i64 3) ∧ W.cell? ⟨qb, 1, none⟩ = some (.int .i64 3) ∧ W.cell? ⟨qb, 2, none⟩ = some (.int .i64 7) ∧ W.cell? ⟨qb, 3, none⟩ = some (.string sq) ∧ W.cell? (ad.add (j * 4)) = some (.string c2.k) ∧ W.cell? { block := (ad.add (j * 4)).block, off := (ad.add (j * 4)).off + 1 } = some (.string c2.v) ∧ W.cell? { block := (ad.add (j * 4)).block, off := (ad.add (j * 4)).off + 2 } = some (.int .i64 c2.bl) ∧ W.cell? { block := (ad.add (j * 4)).block, off := (ad.add (j * 4)).off + 3 } = some (.int .i64 c2.sz)) → Calls Try.prog 10 #[.agg #[.int .i64 3, .int .i64 3, .int .i64 7, .string sq], .agg #[.string c2.k, .string c2.v, .int .i64 c2.bl, .int .i64 c2.sz]] W fun e w' => e = .returned (.tuple #[.agg #[.int .i64 3, .int .i64 3, .int .i64 7, .string sq'], .int .i64 0]) ∧ (Eff0 wc w' ∧ w'.cell? ⟨qb, 0, none⟩ = some (.int .i64 3) ∧ w'.cell? ⟨qb, 1, none⟩ = some (.int .i64 3) ∧ w'.cell? ⟨qb, 2, none⟩ = some (.int .i64 7) ∧ w'.cell? ⟨qb, 3, none⟩ = some (.string sq) ∧ w'.cell? (ad.add (j * 4)) = some (.string c2.k) ∧ w'.cell? { block := (ad.add (j * 4)).block, off := (ad.add (j * 4)).off + 1 } = some (.string c2.v) ∧ w'.cell? { block := (ad.add (j * 4)).block, off := (ad.add (j * 4)).off + 2 } = some (.int .i64 c2.bl) ∧ w'.cell? { block := (ad.add (j * 4)).block, off := (ad.add (j * 4)).off + 3 } = some (.int .i64 c2.sz)) ∧ Eff0 W w' := fun W z => (CS2 W).mono fun e w' ⟨he, e1⟩ => ⟨he, KQ _ _ z e1, e1⟩
        have neQ0 := World.new_ne wc _ c10
        have neQ1 := World.new_ne wc _ z0
        have neQ2 := World.new_ne wc _ z1
        have s0Q : Eff0 wc wc.drew := (Eff.refl _ _).drew
        clear KQ CS2
        go_upto_region 9 with (fail)
        go_cut [11, 12] (fun v11 v12 wx => v12 = .int .i64 0 ∧ ∃ yb : Nat, v11 = .pointer (some ⟨yb, 0, none⟩) ∧ Aside0 (NewP wc yb sq' wx))
        case first =>
          go_region_held3 (fun W' => Eff0 wc W' ∧ W'.cell? ⟨qb, 0, none⟩ = some (.int .i64 3) ∧ W'.cell? ⟨qb, 1, none⟩ = some (.int .i64 3) ∧ W'.cell? ⟨qb, 2, none⟩ = some (.int .i64 7) ∧ W'.cell? ⟨qb, 3, none⟩ = some (.string sq) ∧ W'.cell? (ad.add (j * 4)) = some (.string c2.k) ∧ W'.cell? { block := (ad.add (j * 4)).block, off := (ad.add (j * 4)).off + 1 } = some (.string c2.v) ∧ W'.cell? { block := (ad.add (j * 4)).block, off := (ad.add (j * 4)).off + 2 } = some (.int .i64 c2.bl) ∧ W'.cell? { block := (ad.add (j * 4)).block, off := (ad.add (j * 4)).off + 3 } = some (.int .i64 c2.sz)) ((first | (refine ⟨?_, ?_, ?_, ?_, ?_, ?_, ?_, ?_, ?_⟩ <;> assumption) | (refine ⟨(by (repeat (first | assumption | exact And.left (by assumption) | exact Eff.refl _ _ | apply Eff.alloc | apply Eff.drew | (refine Eff.set ?_ _ _ (.inr (by first | exact Nat.le_refl _ | exact Eff.size (S := fun _ => False) (by assumption))))))), ?_⟩; go_keep) | go_keep))
            (first | (go_at_call 10; refine (SQ _ (by assumption)).mono ?_; rintro e wP ⟨rfl, ⟨u, u0, u1, u2, u3, u4, u5, u6, u7⟩, uP⟩; obtain ⟨hcP, hfP⟩ := bcell uP; have hzP := uP.size))
          all_goals
            go_wp2_with fail
            go_meet
            case rel =>
              first
              | exact ⟨rfl, _, rfl, Aside0.mk (NewP.behind (by first | exact uP | exact Eff.then0 ((Eff.refl _ _).drew) uP))⟩
              | exact ⟨rfl, _, rfl, Aside0.mk (NewP.ahead (by repeat (first | exact Eff.refl _ _ | apply Eff.alloc | apply Eff.drew)) (by first | exact heap_alloc_new _ _ | (simp [World.drew, World.alloc]; done)) uP)⟩
        case rest =>
          obtain ⟨rfl, yb, rfl, N2⟩ := hcut
          clear z0 z1 z2 z3 c10 c11 c12 c13 lq ly SQ neQ0 neQ1 neQ2 s0Q n0 n1 n2
          have O2 := A1.out.eff0 (N1.out.e.then0 N2.out.e)
          have xa := N2.out.e.block _ (blk_lt N1.out.a) id
          rw [N1.out.a] at xa
          have ya := N2.out.a
          have pa := O2.a
          have qa := O2.b
          have g1 : pb < xb := Nat.lt_of_lt_of_le (blk_lt A1.out.a) N1.out.lo
          have g2 : qb < xb := Nat.lt_of_lt_of_le (blk_lt A1.out.b) N1.out.lo
          have g3 : xb < yb := Nat.lt_of_lt_of_le (blk_lt N1.out.a) N2.out.lo
          have g4 := O2.ne
          have d0 := blk_cell xa 0
          have d1 := blk_cell xa 1
          have d2 := blk_cell xa 2
          have d3 := blk_cell xa 3
          have f0 := blk_cell ya 0
          have f1 := blk_cell ya 1
          have f2 := blk_cell ya 2
          have f3 := blk_cell ya 3
          have m0 := blk_cell pa 0
          have m1' := blk_cell pa 1
          have m2 := blk_cell pa 2
          have m3 := blk_cell pa 3
          have k0 := blk_cell qa 0
          have k1 := blk_cell qa 1
          have k2 := blk_cell qa 2
          have k3 := blk_cell qa 3
          have fp : ∀ o, wc.frozen? ⟨pb, o, none⟩ = false := fun o => blk_frozen pa o
          have fq : ∀ o, wc.frozen? ⟨qb, o, none⟩ = false := fun o => blk_frozen qa o
          have h1 : (pb = xb) = False := eq_false (by omega)
          have h2 : (pb = yb) = False := eq_false (by omega)
          have h3 : (qb = xb) = False := eq_false (by omega)
          have h4 : (qb = yb) = False := eq_false (by omega)
          have h5 : (xb = pb) = False := eq_false (by omega)
          have h6 : (yb = pb) = False := eq_false (by omega)
          have h7 : (xb = qb) = False := eq_false (by omega)
          have h8 : (yb = qb) = False := eq_false (by omega)
          have h9 : (pb = qb) = False := eq_false g4
          have h10 : (qb = pb) = False := eq_false (fun e => g4 e.symm)
          have F := Aside0.mk (And.intro O2 (And.intro g4 (And.intro xa (And.intro ya (And.intro pa qa)))))
          clear O2 xa ya pa qa g1 g2 g3 g4
          go_wp2
          go_region
          all_goals go_wp2
          all_goals go_roundg (gk - 1)
          all_goals first
            | (case measure => omega)
            | (case rel =>
                refine ⟨i + 1, sp', sq', by simp, by omega, Aside0.mk ?_⟩
                exact (OrdS.next F.out.1 HC.out.1 HP.out.1 HP.out.2).eff0 ((Eff.refl _ _).drew))
    · have p1 : ((i : Int) < (l.length : Int)) = False := eq_false (by omega)
      obtain rfl : i = l.length := by omega
      obtain ⟨hss, hln⟩ := OAt.same (List.Perm.refl l) (rot_perm l s) A1.out.hp A1.out.hq
      subst hss
      have CB : ∀ W, Eff0 w W → Calls Try.prog 17 #[.agg #[.int .i64 3, .int .i64 3, .int .i64 7, .string sp]] W fun e w' => ∃ A c, e = .returned (.slice A l.length c) ∧ Aside0 (Eff0 w w') := by
        intro W e0
        refine (bcells_calls W ⟨3, 3, 7, sp⟩).mono ?_
        rintro e w' ⟨v, rfl, hR, hB⟩
        obtain ⟨A, c, rfl⟩ := Kd.R_slice hR
        rw [hln]
        exact ⟨A, c, rfl, Aside0.mk (e0.then0 (Eff.of_below hB))⟩
      have pa := A1.out.a
      have qa := A1.out.b
      have m0 := blk_cell pa 0
      have m1' := blk_cell pa 1
      have m2 := blk_cell pa 2
      have m3 := blk_cell pa 3
      have k0 := blk_cell qa 0
      have k1 := blk_cell qa 1
      have k2 := blk_cell qa 2
      have k3 := blk_cell qa 3
      have q0 : (sp.toList == sp.toList) = true := beq_self_eq_true _
      have EE := A1.out.e
      clear hln pa qa
      go_wp2_with (go_at_call 17; refine (CB _ EE).mono ?_; rintro e w5 ⟨A5, c5, rfl, e5⟩)
      go_ret
      exact ⟨rfl, e5.out⟩
set_option maxHeartbeats 1600000 in
set_option maxRecDepth 100000 in
theorem order_long (w : World) (A : Option Addr) (c n : Nat) (turn : Int) (h40 : ¬ n ≤ 40) :
    Calls Try.prog 5 #[.slice A n c, .int .i64 turn] w fun e w' => e = .returned (.bool true) ∧ Eff0 w w' := by
  have CA := fun W => alive_calls W
  have p40 : (40 < (n : Int)) = True := eq_true (by omega)
  clear h40
  go_enter Try.func5, Try.ntmps5
  go_wp2_with (go_at_call 8; refine (CA _).mono ?_; rintro e w2 ⟨rfl, e2⟩)
  go_ret
  exact ⟨rfl, e2⟩
set_option maxHeartbeats 1600000 in
set_option maxRecDepth 100000 in
theorem order_no (w : World) (A : Option Addr) (c : Nat) (L : List S25) (turn : Int) (hr : Kd.C k25 w A L.length L) (hc : L.length ≤ c) (h40 : L.length ≤ 40) (hk : ∃ k, honeycombref1_Fits.f k L = some false) :
    Calls Try.prog 5 #[.slice A L.length c, .int .i64 turn] w fun e w' => e = .returned (.bool true) ∧ Eff0 w w' := by
  have CA := fun W => alive_calls W
  have CFt : Calls Try.prog 18 #[.slice A L.length c] w fun e w' => e = .returned (.bool false) ∧ Eff0 w w' := by
    obtain ⟨k, hk⟩ := hk
    exact (honeycombref1_Fits.calls k A c L false w hr hc hk).mono fun e w' ⟨he, hb⟩ => ⟨he, Eff.of_below hb⟩
  generalize L.length = n at *
  have p40 : (40 < (n : Int)) = False := eq_false (by omega)
  clear h40 hc
  go_enter Try.func5, Try.ntmps5
  go_wp2_with (first
    | (go_at_call 18; refine CFt.mono ?_; rintro e w1 ⟨rfl, e1⟩)
    | (go_at_call 8; refine (CA _).mono ?_; rintro e w2 ⟨rfl, e2⟩))
  go_ret
  exact ⟨rfl, e1.then0 e2⟩
theorem order_calls (w : World) (A : Option Addr) (c : Nat) (L : List S25) (turn : Int) (hr : Kd.C k25 w A L.length L) (hc : L.length ≤ c) :
    Calls Try.prog 5 #[.slice A L.length c, .int .i64 turn] w fun e w' => e = .returned (.bool true) ∧ Below w.heap.size w w' := by
  have key : Calls Try.prog 5 #[.slice A L.length c, .int .i64 turn] w fun e w' => e = .returned (.bool true) ∧ Eff0 w w' := by
    by_cases h40 : L.length ≤ 40
    · obtain ⟨k, b, hk, hF⟩ := fits_has L h40
      cases b with
      | true => exact order_main w A c L turn hr hc h40 ⟨k, hk⟩ (hF rfl)
      | false => exact order_no w A c L turn hr hc h40 ⟨k, hk⟩
    · exact order_long w A c L.length turn h40
  exact key.mono fun e w' ⟨he, e1⟩ => ⟨he, e1.below0⟩
end Go.Proofs.Ytcmepoakcffpaaa.CP
