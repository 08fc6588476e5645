import Derived.Test.YtlakklaaapfpeaaProg
import Derived.BigRegion
import Derived.BigQuiet
import Derived.Deep.QuietTactic
import Derived.Deep.AppendLies
import Derived.ChangeAlike
import Derived.Outline
import Derived.WalkKit
import Derived.KernelRfl
import Derived.Deep.LoopGhost
import Derived.Deep.RegionLaw
import Derived.Test.YtlakklaaapfpeaaWMore
import Derived.Test.YtlakklaaapfpeaaWKept
import Derived.Test.YtlakklaaapfpeaaLSep
import Derived.Test.YtlakklaaapfpeaaKReach
import Derived.Test.YtlakklaaapfpeaaRIx
namespace Go.Proofs.Ytlakklaaapfpeaa.LK
open Go Go.RowKit Go.Proofs.YtlakklaaapfpeaaW.PrintWords Go.Proofs.YtlakklaaapfpeaaW.PrintLast Go.Proofs.YtlakklaaapfpeaaW.PrintMore Go.Proofs.Ytlakklaaapfpeaa.L Go.Proofs.Ytlakklaaapfpeaa.RI
set_option linter.unusedVariables false
set_option linter.unusedSimpArgs false
def pickE (x : Int) (l : List Int) : List Int := l.flatMap (fun y => if x == y then [x] else [])
def onF (a b : List Int) : List Int := a.flatMap (fun x => pickE x b)
theorem flatMap_take_succ {α β : Type} (f : α → List β) (l : List α) (i : Nat) (h : i < l.length) (d : α) : (l.take (i + 1)).flatMap f = (l.take i).flatMap f ++ f (l.getD i d) := by
  rw [List.take_add_one, List.flatMap_append, List.getD_eq_getElem?_getD]
  simp [h]
/-- Two rows that lie to be read, and the one that is made. -/
abbrev UO (W : World) (v5 v6 v7 : Value) (a b out : List Int) (wr : World) : Prop := Aside0 (Upd W (fun _ => False) (Sep (Sep (QI v5 a) (QI v6 b)) (RowAt kdI 3 v7 out)) wr)
theorem uo_eff {W wr : World} {v5 v6 v7 : Value} {a b out : List Int} (u : UO W v5 v6 v7 a b out wr) : Eff0 W wr := by
  obtain ⟨_, _, e, _⟩ := u.out
  exact e
theorem uo_cells {W wr : World} {A B : Option Addr} {n m c d : Nat} {v7 : Value} {a b out : List Int} (u : UO W (.slice A n c) (.slice B m d) v7 a b out wr) :
    (∀ i, i < a.length → ∃ g o, A = some ⟨g, o, none⟩ ∧ wr.cell? ⟨g, o + i, none⟩ = some (.int .i64 (a.getD i default))) ∧ ∀ i, i < b.length → ∃ g o, B = some ⟨g, o, none⟩ ∧ wr.cell? ⟨g, o + i, none⟩ = some (.int .i64 (b.getD i default)) := by
  obtain ⟨_, ⟨G1, G2, ⟨G3, G4, g3, g4, _⟩, _⟩, _⟩ := u.out
  obtain ⟨A', c', hv, _, hR⟩ := QI.reads g3
  obtain ⟨B', d', hv2, _, hR2⟩ := QI.reads g4
  injection hv with ha _ _
  injection hv2 with hb _ _
  subst ha hb
  exact ⟨hR, hR2⟩
theorem uo_row {W wr : World} {v5 v6 v7 : Value} {a b out : List Int} (u : UO W v5 v6 v7 a b out wr) : ∃ A c, v7 = .slice A out.length c ∧ out.length ≤ c ∧ Kd.C kdI wr A out.length out := by
  obtain ⟨_, ⟨G1, G2, _, g2, _⟩, _⟩ := u.out
  exact RowAt.reads g2
set_option maxHeartbeats 1600000 in
set_option maxRecDepth 100000 in
theorem on_calls (W : World) (A : Option Addr) (c : Nat) (es : List Pr) (hC : Kd.C kdP W A es.length es) (he : es.length ≤ 100) (from_ : Int) (N : Nat) (hN : N ≤ 100) (la lb r : List Int) (ha : iterE es false N ([], [from_]) = (la, [])) (hb : iterE es true N ([], [from_]) = (lb, [])) (hla : la.length ≤ 100) (hlb : lb.length ≤ 100)
    (K : Nat) (hr : honeycombref1_Rising.f K (onF la lb) = some r) :
    Calls Try.prog 20 #[.int .i64 from_, .slice A es.length c] W fun e w' => ∃ A' c', e = .returned (.slice A' r.length c') ∧ Eff0 W w' := by
  have C1 := Aside0.mk (reach_calls W A c es hC he from_ false N hN la ha)
  have C2 := Aside0.mk (fun (w : World) (e : Eff0 W w) => reach_calls w A c es (Kd.C_below hC e.below0) he from_ true N hN lb hb)
  have HR := Aside0.mk hr
  clear hC ha hb hr
  go_enter Try.func20, Try.ntmps20
  go_upto_region 2 with (first
    | (go_at_call 34; refine C1.out.mono ?_; rintro e w1 ⟨A5, c5, rfl, U1⟩; clear C1; have C3 := Aside0.mk (C2.out w1 (by obtain ⟨_, _, e, _⟩ := U1.out; exact e)); clear C2)
    | (go_at_call 34; refine C3.out.mono ?_; rintro e w2 ⟨A6, c6, rfl, U2⟩))
  have U0 : UO W (.slice A5 la.length c5) (.slice A6 lb.length c6) (.slice none 0 0) la lb [] w2 := by
    refine Aside0.mk ?_
    obtain ⟨G1, h1, e1, k1⟩ := U1.out
    obtain ⟨G2, h2, e2, k2⟩ := U2.out
    have u3 := Upd.go e1 k1 (Upd.new h1 e2 h2 (fun k hk => (k2 k hk).resolve_left (fun h => h.elim)))
    exact u3.trans (fun G hG => Upd.new hG (Eff.refl _ _) (F' := fun _ => False) (N := RowAt kdI 3 (.slice none 0 0) []) ⟨Kd.R_nil _ _ _ _ _, fun _ h => h.elim⟩ (fun _ h => h.elim))
  clear C3 U1 U2
  have HLL := Aside0.mk (And.intro hla hlb)
  clear hla hlb
  go_wp2_with fail
  go_loopg [7, 8] la.length (fun k s7 s8 wr => ∃ (A7 : Option Addr) (c7 i : Nat) (out : List Int), s7 = .slice A7 out.length c7 ∧ s8 = .int .i64 (i : Int) ∧ i + k = la.length ∧ out.length ≤ i * 100 ∧ Aside0 (onF (la.take i) lb = out) ∧ UO W (.slice A5 la.length c5) (.slice A6 lb.length c6) (.slice A7 out.length c7) la lb out wr)
  case atStart => exact ⟨none, 0, 0, [], rfl, rfl, by omega, by simp, Aside0.mk rfl, U0⟩
  case round =>
    obtain ⟨A7, c7, i, out, rfl, rfl, hik, hol, HO, U3⟩ := hrel
    by_cases hi : i < la.length
    · have p1 : ((i : Int) < (la.length : Int)) = True := eq_true (by omega)
      have p2 : (0 : Int) ≤ (i : Int) := by omega
      obtain ⟨x, hx⟩ : ∃ x, la.getD i default = x := ⟨_, rfl⟩
      have hnx := flatMap_take_succ (fun x => pickE x lb) la i hi default
      rw [hx] at hnx
      have HX := Aside0.mk (And.intro hx hnx)
      have HI := Aside0.mk (And.intro hi (And.intro hik hol))
      have hii : i < 900 := by have := HLL.out; omega
      clear hx hnx hik hol
      obtain ⟨g1, rfl⟩ : ∃ g1 : Nat, g1 = gk := ⟨_, rfl⟩
      obtain ⟨w0, rfl⟩ : ∃ w0 : World, w0 = wr := ⟨_, rfl⟩
      clear hi
      go_wp2_with fail
      go_loopg [7, 9] lb.length (fun k s7 s9 wr => ∃ (A7 : Option Addr) (c7 j : Nat) (o2 : List Int), s7 = .slice A7 o2.length c7 ∧ s9 = .int .i64 (j : Int) ∧ j + k = lb.length ∧ o2.length ≤ i * 100 + j ∧ Aside0 (out ++ pickE x (lb.take j) = o2) ∧ UO W (.slice A5 la.length c5) (.slice A6 lb.length c6) (.slice A7 o2.length c7) la lb o2 wr)
      case atStart => exact ⟨A7, c7, 0, out, rfl, rfl, by omega, by have := HI.out; omega, Aside0.mk (by simp [pickE]), U3⟩
      case round =>
        obtain ⟨A7, c7, j, o2, rfl, rfl, hjk, hol, HO2, U4⟩ := hrel
        by_cases hj : j < lb.length
        · have p3 : ((j : Int) < (lb.length : Int)) = True := eq_true (by omega)
          have p4 : (0 : Int) ≤ (j : Int) := by omega
          obtain ⟨g5, o5, rfl, x0⟩ := (uo_cells U4).1 i HI.out.1
          obtain ⟨g6, o6, rfl, y0⟩ := (uo_cells U4).2 j hj
          rw [HX.out.1] at x0
          obtain ⟨y, hy⟩ : ∃ y, lb.getD j default = y := ⟨_, rfl⟩
          have hny := flatMap_take_succ (fun y => if x == y then [x] else []) lb j hj default
          rw [hy] at y0 hny
          have HY := Aside0.mk hny
          have HJ := Aside0.mk (And.intro hj (And.intro hjk hol))
          have hjj : j < 900 := by have := HLL.out; omega
          have p5 : ((i : Int) < (la.length : Int)) = True := eq_true (by have := HI.out; omega)
          clear hy hny hj hjk hol
          obtain ⟨g2, rfl⟩ : ∃ g2 : Nat, g2 = gk := ⟨_, rfl⟩
          obtain ⟨w3, rfl⟩ : ∃ w3 : World, w3 = wr := ⟨_, rfl⟩
          go_upto_region 9 with (fail)
          go_cut [36] (fun s36 wx => s36 = .bool (x == y) ∧ UO W (.slice (some ⟨g5, o5, none⟩) la.length c5) (.slice (some ⟨g6, o6, none⟩) lb.length c6) (.slice A7 o2.length c7) la lb o2 wx)
          case first =>
            go_wp2_with fail
            go_quiet (fail)
            go_wp2_with fail
            go_meet
            case rel => exact ⟨rfl, Aside0.mk (U4.out.after ((Eff.refl _ _).drewN _))⟩
          case rest =>
            obtain ⟨rfl, U5⟩ := hcut
            clear U4 x0 y0
            obtain ⟨g7, o7, hg7, x1⟩ := (uo_cells U5).1 i HI.out.1
            injection hg7 with hg7
            injection hg7 with e1 e2 _
            subst e1 e2
            rw [HX.out.1] at x1
            cases hxy : (x == y) with
            | true =>
              rw [hxy, if_pos rfl] at HY
              have HXY := Aside0.mk hxy
              obtain ⟨ok, hR, hok, hgo⟩ := Upd.appends U5.out
              have HGO := Aside0.mk (And.intro hR (And.intro hok hgo))
              have HLO := Aside0.mk (show (o2.length + 1) * 8 ≤ 140737488355328 by have := HJ.out; have := HI.out; have := HLL.out; omega)
              clear hxy hR hok hgo
              go_wp2_with (at_builtin; go_loud (refine Kd.R_append (Kd.int .i64) (W := wc) (w0 := wc) 0 rfl (.tmp 37) (.tmp 42) 44 3 (.int .i64 0) 8 rfl Try.underlying44 infoInt rfl (by decide) (by decide) (.slice A7 o2.length c7) o2 x [.int .i64 x] ok (fun _ => False) rfl rfl rfl (fun _ hk => hk.elim) HGO.out.2.1 HGO.out.1 (Below.refl _ _) (Nat.zero_le _) HLO.out ?_); intro v1 w8 r1 b1 h1 k1; have H8 := Aside0.mk (HGO.out.2.2 v1 w8 _ r1 h1); clear r1 b1 h1 k1)
              go_roundg (g2 - 1)
              case measure => have := HJ.out; omega
              case rel =>
                obtain ⟨A8, c8, hv, _⟩ := uo_row H8
                subst hv
                refine ⟨A8, c8, j + 1, o2 ++ [x], rfl, by simp, by have := HJ.out; omega, by have := HJ.out; rw [List.length_append, List.length_singleton]; omega, Aside0.mk ?_, H8⟩
                have := HO2.out
                unfold pickE at this ⊢
                rw [HY.out, ← List.append_assoc, this]
            | false =>
              rw [hxy, if_neg (by decide)] at HY
              have HXY := Aside0.mk hxy
              clear hxy
              go_wp2_with fail
              go_roundg (g2 - 1)
              case measure => have := HJ.out; omega
              case rel =>
                refine ⟨A7, c7, j + 1, o2, rfl, by simp, by have := HJ.out; omega, by have := HJ.out; omega, Aside0.mk ?_, U5⟩
                have := HO2.out
                unfold pickE at this ⊢
                rw [HY.out, List.append_nil, this]
        · have p3 : ((j : Int) < (lb.length : Int)) = False := eq_false (by omega)
          obtain rfl : j = lb.length := by omega
          have hF := HO2.out
          rw [List.take_length] at hF
          have HF := Aside0.mk (And.intro hF hol)
          clear hj hjk hF hol
          go_wp2_with fail
          go_roundg (g1 - 1)
          case measure => have := HI.out; omega
          case rel =>
            refine ⟨A7, c7, i + 1, o2, rfl, by simp, by have := HI.out; omega, by have := HF.out.2; have := HLL.out; omega, Aside0.mk ?_, U4⟩
            have h1 := HO.out
            unfold onF at h1 ⊢
            rw [HX.out.2, h1, HF.out.1]
    · have p1 : ((i : Int) < (la.length : Int)) = False := eq_false (by omega)
      obtain rfl : i = la.length := by omega
      have hF := HO.out
      rw [List.take_length] at hF
      have CR : Calls Try.prog 35 #[.slice A7 out.length c7] wr fun e w' => ∃ A' c', e = .returned (.slice A' r.length c') ∧ Eff0 wr w' := by
        obtain ⟨A8, c8, hv, hc8, hC8⟩ := uo_row U3
        injection hv with h1 _ h2
        subst h1 h2
        refine (honeycombref1_Rising.calls K A7 c7 out r wr hC8 hc8 (by rw [← hF]; exact HR.out)).mono ?_
        rintro e w' ⟨v, rfl, hR, hB⟩
        obtain ⟨A', c', hv, _⟩ := Kd.R_reads hR
        exact ⟨A', c', by rw [hv], Eff.of_below hB⟩
      have HCR := Aside0.mk CR
      clear CR hi hik hF
      go_wp2_with (go_at_call 35; refine HCR.out.mono ?_; rintro e w9 ⟨A9, c9, rfl, e9⟩)
      go_ret
      exact ⟨_, _, rfl, (uo_eff U3).trans e9 (fun _ h => h.elim)⟩
end Go.Proofs.Ytlakklaaapfpeaa.LK
