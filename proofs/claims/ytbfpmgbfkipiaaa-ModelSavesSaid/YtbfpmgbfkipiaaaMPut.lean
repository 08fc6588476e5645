import Derived.Test.YtbfpmgbfkipiaaaMGet
namespace Go.Proofs.Ytbfpmgbfkipiaaa.MD
open Go Go.RowKit Go.Proofs.YtbfpmgbfkipiaaaW.PrintWords Go.Proofs.YtbfpmgbfkipiaaaW.PrintLast Go.Proofs.YtbfpmgbfkipiaaaW.PrintMore Go.Proofs.Ytbfpmgbfkipiaaa.L
set_option linter.unusedVariables false
set_option linter.unusedSimpArgs false
def putR (s : Mod) (tx : Int) (w : Wr) : Bool × Mod := match getP s.t tx with
  | some p => (true, { s with t := setP s.t tx { p.2 with l := p.2.l ++ [w] } })
  | none => (false, s)
theorem OneAt.lR {b : Nat} {x : One} {W : World} {F : Nat → Prop} {v : Value} (h : (OneAt b x).on W F) (hc : W.cell? ⟨b, 0, none⟩ = some v) : kdW.R 58 W 0 (fun k => F k ∧ k ≠ b) v x.l := by
  obtain ⟨vu, vs, c0, c1, f, hu, hs⟩ := OneAt.cells h
  rw [c0] at hc
  injection hc with hc
  exact hc ▸ hu
theorem OneAt.savesR {b : Nat} {x : One} {W : World} {F : Nat → Prop} {v : Value} (h : (OneAt b x).on W F) (hc : W.cell? ⟨b, 1, none⟩ = some v) : kdI.R 3 W 0 (fun k => F k ∧ k ≠ b) v x.saves := by
  obtain ⟨vu, vs, c0, c1, f, hu, hs⟩ := OneAt.cells h
  rw [c1] at hc
  injection hc with hc
  exact hc ▸ hs
theorem neq_ptr (w : World) (a : Option Addr) : (binOp .neq 51 (.pointer a) (.pointer none)).run Try.prog w = .ok (.bool a.isSome) w := by
  cases a <;> kernel_rfl
set_option maxHeartbeats 1600000 in
set_option maxRecDepth 100000 in
theorem put_calls (b0 : Nat) (s : Mod) (W : World) (F : Nat → Prop) (tx : Int) (q : Wr) (h : (ModAt b0 s).on W F) (hm : ∀ p, getP s.t tx = some p → p.2.l.length < 900000) :
    Calls Try.prog 20 #[.pointer (some ⟨b0, 0, none⟩), .int .i64 tx, q.v] W fun e w' => e = .returned (.bool (putR s tx q).1) ∧ Upd W F (ModAt b0 (putR s tx q).2) w' := by
  have e0 : Eff0 W (W.alloc (.cells #[.string q.key, .string q.val, .bool q.gone] 58)) := (Eff.refl _ _).alloc _
  have h0 := HP.eff0 h e0
  have C := get_calls b0 s _ F tx h0
  have AE := Aside0.mk e0
  obtain ⟨qk, qv, qg⟩ := q
  unfold Wr.v
  dsimp only at e0 h0 C AE ⊢
  cases hg : getP s.t tx with
  | none =>
    have hr : putR s tx ⟨qk, qv, qg⟩ = (false, s) := by simp [putR, hg]
    rw [hr]
    rw [hg] at C
    dsimp only [ptrOf, Option.map_none] at C
    have H := Aside0.mk h
    clear h hg hm hr h0 e0
    go_enter Try.func20, Try.ntmps20
    go_wp2_with (go_at_call 21; refine C.mono ?_; rintro e w1 ⟨rfl, rfl⟩)
    go_ret
    exact ⟨rfl, Upd.same H.out AE.out⟩
  | some p =>
    obtain ⟨b, x⟩ := p
    have hn := hm _ hg
    dsimp only at hn
    have hr : putR s tx ⟨qk, qv, qg⟩ = (true, { s with t := setP s.t tx { x with l := x.l ++ [⟨qk, qv, qg⟩] } }) := by simp [putR, hg]
    rw [hr]
    rw [hg] at C
    dsimp only [ptrOf, Option.map_some] at C
    obtain ⟨F1, h1, u1⟩ := ModAt.focus h0 hg
    obtain ⟨vl, vs, d0, d1, f, hl, hs⟩ := OneAt.cells h1
    obtain ⟨A, c, rfl⟩ := Kd.R_slice hl
    have f0 := f 0
    have H1 := Aside0.mk (And.intro h1 u1)
    have hle : (x.l ++ [(⟨qk, qv, qg⟩ : Wr)]).length = x.l.length + 1 := by simp
    obtain ⟨w0, hw0⟩ : ∃ w0, w0 = W.alloc (.cells #[.string qk, .string qv, .bool qg] 58) := ⟨_, rfl⟩
    have hq0 : w0.heap[W.heap.size]? = some (.cells #[.string qk, .string qv, .bool qg] 58 (0, 0)) := by rw [hw0]; exact heap_alloc_new W _
    have q0 := blk_cell hq0 0
    have q1 := blk_cell hq0 1
    have q2 := blk_cell hq0 2
    rw [← hw0] at C AE H1 d0 hl f0
    have hlt : b < w0.heap.size := World.block_lt_of_cell? _ _ d0
    have hne : some b ≠ (Value.slice A x.l.length c).ownBlock := fun e => (hl.1 b e.symm).2 rfl
    have hs2 : kdW.R 58 w0 0 (fun k => (F1 k ∧ k ≠ b) ∨ w0.heap.size ≤ k) (.slice A x.l.length c) x.l := Kd.R_mono hl (fun k hk => .inl hk)
    have HW := Aside0.mk hw0
    clear h hg hm hr h0 e0 h1 u1 hl hs d1 f hq0 hw0
    go_enter Try.func20, Try.ntmps20
    go_wp2_with fail
    rw [← HW.out]
    clear HW
    go_wp2_with (go_at_call 21; refine C.mono ?_; rintro e w1 ⟨rfl, rfl⟩; clear C)
    go_region_law (refine Kd.R_append_step kdW (W := World.drew _) (w0 := w0) 0 rfl (.tmp 17) (.tmp 19) 52 58 (.agg #[.string ⟨#[]⟩, .string ⟨#[]⟩, .bool false]) 40 rfl rfl rfl rfl (by decide) (by decide) (.slice A x.l.length c) x.l (⟨qk, qv, qg⟩ : Wr) [.string qk, .string qv, .bool qg] (fun k => (F1 k ∧ k ≠ b) ∨ w0.heap.size ≤ k) (fun _ => False) rfl rfl rfl (fun _ hk => hk.elim) (fun _ hk => .inr hk) (Kd.R_drew hs2) (below_drew (Below.refl _ _)) (Nat.zero_le _) (by omega) ?_; intro v1 w2 r1 b1 g1 o1; obtain ⟨A2, c3, rfl⟩ := Kd.R_slice r1; have d0' : w2.cell? ⟨b, 0, none⟩ = some (.slice A x.l.length c) := (g1.cell_far ⟨b, 0, none⟩ hlt hne).trans d0; have f0' : w2.frozen? ⟨b, 0, none⟩ = false := (g1.frozen_far ⟨b, 0, none⟩ hlt hne).trans f0; rw [hle] at r1)
    all_goals go_wp2
    all_goals go_ret
    all_goals
      refine ⟨rfl, Upd.of AE.out ((H1.out.2 _ _ ?_).after (by first | exact Eff.refl _ _ | exact (Eff.refl _ _).drew | exact (Eff.refl _ _).drewN _))⟩
      exact OneAt.setL H1.out.1 d0 (((Eff.refl _ w0).drew).trans (Eff.of_grown g1 (fun i hi => hi)) (fun i hi => .inl hi)) r1 (fun k hk => hk)
set_option maxHeartbeats 1600000 in
set_option maxRecDepth 100000 in
theorem Put_calls (b0 : Nat) (s : Mod) (W : World) (F : Nat → Prop) (tx : Int) (key val : ByteArray) (h : (ModAt b0 s).on W F) (hm : ∀ p, getP s.t tx = some p → p.2.l.length < 900000) :
    Calls Try.prog 10 #[.pointer (some ⟨b0, 0, none⟩), .int .i64 tx, .string key, .string val] W fun e w' => e = .returned (.bool (putR s tx ⟨key, val, false⟩).1) ∧ Upd W F (ModAt b0 (putR s tx ⟨key, val, false⟩).2) w' := by
  have C : Calls Try.prog 20 #[.pointer (some ⟨b0, 0, none⟩), .int .i64 tx, .agg #[.string key, .string val, .bool false]] W fun e w' => e = .returned (.bool (putR s tx ⟨key, val, false⟩).1) ∧ Aside0 (Upd W F (ModAt b0 (putR s tx ⟨key, val, false⟩).2) w') :=
    (put_calls b0 s W F tx ⟨key, val, false⟩ h hm).mono fun e w' ⟨he, u⟩ => ⟨he, Aside0.mk u⟩
  clear h hm
  generalize putR s tx ⟨key, val, false⟩ = r at *
  obtain ⟨r1, r2⟩ := r
  dsimp only at C ⊢
  go_enter Try.func10, Try.ntmps10
  go_wp2_with (go_at_call 20; refine C.mono ?_; rintro e w1 ⟨rfl, u⟩)
  go_ret
  exact ⟨rfl, u.out⟩
def delR (s : Mod) (tx : Int) (key : ByteArray) : Bool × Mod := if (getR s tx key).2 then putR s tx ⟨key, ⟨#[]⟩, true⟩ else (false, s)
set_option maxHeartbeats 1600000 in
set_option maxRecDepth 100000 in
theorem Del_calls (b0 : Nat) (s : Mod) (W : World) (F : Nat → Prop) (tx : Int) (key : ByteArray) (h : (ModAt b0 s).on W F) (hm : ∀ p, getP s.t tx = some p → p.2.l.length < 900000) :
    Calls Try.prog 14 #[.pointer (some ⟨b0, 0, none⟩), .int .i64 tx, .string key] W fun e w' => e = .returned (.bool (delR s tx key).1) ∧ Upd W F (ModAt b0 (delR s tx key).2) w' := by
  have CG := Get_calls b0 s W F tx key h hm
  have CP : ∀ W1, Eff0 W W1 → Calls Try.prog 20 #[.pointer (some ⟨b0, 0, none⟩), .int .i64 tx, .agg #[.string key, .string ⟨#[]⟩, .bool true]] W1 fun e w' => e = .returned (.bool (putR s tx ⟨key, ⟨#[]⟩, true⟩).1) ∧ Aside0 (Upd W F (ModAt b0 (putR s tx ⟨key, ⟨#[]⟩, true⟩).2) w') := fun W1 e1 =>
    (put_calls b0 s W1 F tx ⟨key, ⟨#[]⟩, true⟩ (HP.eff0 h e1) hm).mono fun e w' ⟨he, u⟩ => ⟨he, Aside0.mk (Upd.of e1 u)⟩
  have hd : delR s tx key = if (getR s tx key).2 then putR s tx ⟨key, ⟨#[]⟩, true⟩ else (false, s) := rfl
  have H := Aside0.mk h
  generalize getR s tx key = g at *
  obtain ⟨gv, gb⟩ := g
  dsimp only at CG hd
  cases gb with
  | false =>
    rw [if_neg (by simp)] at hd
    rw [hd]
    clear hd h hm CP
    go_enter Try.func14, Try.ntmps14
    go_wp2_with (go_at_call 11; refine CG.mono ?_; rintro e w1 ⟨rfl, e1⟩)
    go_ret
    exact ⟨rfl, Upd.same H.out e1⟩
  | true =>
    rw [if_pos rfl] at hd
    rw [hd]
    generalize putR s tx ⟨key, ⟨#[]⟩, true⟩ = r at *
    obtain ⟨r1, r2⟩ := r
    dsimp only at CP ⊢
    clear hd h hm
    go_enter Try.func14, Try.ntmps14
    go_wp2_with (first
      | (go_at_call 11; refine CG.mono ?_; rintro e w1 ⟨rfl, e1⟩)
      | (go_at_call 20; refine (CP _ e1).mono ?_; rintro e w2 ⟨rfl, u⟩))
    go_ret
    exact ⟨rfl, u.out⟩
end Go.Proofs.Ytbfpmgbfkipiaaa.MD
