import Derived.Test.YtlakklaaapfpeaaProg
import Derived.BigRegion
import Derived.BigQuiet
import Derived.Deep.QuietTactic
import Derived.Deep.AppendLies
import Derived.ChangeAlike
import Derived.Outline
import Derived.WalkKit
import Derived.KernelRfl
import Derived.Deep.LoopGhost
import Derived.Deep.RegionLaw
import Derived.Test.YtlakklaaapfpeaaWMore
import Derived.Test.YtlakklaaapfpeaaWKept
import Derived.Test.YtlakklaaapfpeaaLSep
import Derived.Test.YtlakklaaapfpeaaKQInt
namespace Go.Proofs.Ytlakklaaapfpeaa.LK
open Go Go.RowKit Go.Proofs.YtlakklaaapfpeaaW.PrintWords Go.Proofs.YtlakklaaapfpeaaW.PrintLast Go.Proofs.YtlakklaaapfpeaaW.PrintMore Go.Proofs.Ytlakklaaapfpeaa.L
set_option linter.unusedVariables false
set_option linter.unusedSimpArgs false
/-- An edge's ends, as one goes. -/
def endsE (back : Bool) (e : Pr) : Int × Int := if back then (e.2, e.1) else e
def inI (l : List Int) (b : Int) : Bool := l.any (fun x => decide (x = b))
def stepE (x : Int) (back : Bool) (p : List Int × List Int) (e : Pr) : List Int × List Int :=
  if (endsE back e).1 = x then (if inI p.1 (endsE back e).2 then p else (p.1 ++ [(endsE back e).2], p.2 ++ [(endsE back e).2])) else p
def popE (es : List Pr) (back : Bool) : List Int × List Int → List Int × List Int
  | (l, []) => (l, [])
  | (l, x :: t) => es.foldl (stepE x back) (l, t)
def iterE (es : List Pr) (back : Bool) : Nat → List Int × List Int → List Int × List Int
  | 0, p => p
  | n + 1, p => popE es back (iterE es back n p)
theorem popE_end (es : List Pr) (back : Bool) (l : List Int) : ∀ n, iterE es back n (l, []) = (l, [])
  | 0 => rfl
  | n + 1 => by rw [iterE, popE_end es back l n]; rfl
theorem iter_add (es : List Pr) (back : Bool) (p : List Int × List Int) : ∀ m n, iterE es back (n + m) p = iterE es back m (iterE es back n p)
  | 0, _ => rfl
  | m + 1, n => by rw [← Nat.add_assoc, iterE, iterE, iter_add es back p m n]
theorem foldl_take_succ {α β : Type} (f : β → α → β) (l : List α) (b : β) (i : Nat) (h : i < l.length) (d : α) : (l.take (i + 1)).foldl f b = f ((l.take i).foldl f b) (l.getD i d) := by
  rw [List.take_add_one, List.foldl_append, List.getD_eq_getElem?_getD]
  simp [h]
theorem inI_take (l : List Int) (b : Int) (i : Nat) (h : i < l.length) : inI (l.take (i + 1)) b = (inI (l.take i) b || (l.getD i default == b)) := by
  unfold inI
  rw [List.take_add_one, List.any_append, List.getD_eq_getElem?_getD]
  simp [h]
  rfl
abbrev UR (W : World) (v7 v8 : Value) (l t : List Int) (wr : World) : Prop := Aside0 (Upd W (fun _ => False) (Sep (QI v7 l) (QI v8 t)) wr)
theorem ur_eff {W wr : World} {v7 v8 : Value} {l t : List Int} (u : UR W v7 v8 l t wr) : Eff0 W wr := by
  obtain ⟨_, _, e, _⟩ := u.out
  exact e
theorem ur_comm {W wr : World} {v7 v8 : Value} {l t : List Int} (u : Upd W (fun _ => False) (Sep (QI v7 l) (QI v8 t)) wr) : Upd W (fun _ => False) (Sep (QI v8 t) (QI v7 l)) wr := u.imp (fun _ h => Sep.comm h)
theorem ur_both {W wr : World} {A B : Option Addr} {n m c d : Nat} {l t : List Int} (u : UR W (.slice A n c) (.slice B m d) l t wr) (h1 : l.length < 900000) (h2 : t.length < 900000) (x : Int) :
    ∃ A1 c1 w1, (∀ ty, (Builtin.append_ #[44, 44] ty #[.slice A n c, .slice (some ⟨wr.heap.size, 0, none⟩) 1 1]).run Try.prog (wr.alloc (.cells #[.int .i64 x] 3)) = .ok (.slice A1 (l.length + 1) c1) w1) ∧
      ∃ A2 c2 w2, (∀ ty, (Builtin.append_ #[44, 44] ty #[.slice B m d, .slice (some ⟨w1.heap.size, 0, none⟩) 1 1]).run Try.prog (w1.alloc (.cells #[.int .i64 x] 3)) = .ok (.slice A2 (t.length + 1) c2) w2) ∧
        UR W (.slice A1 (l.length + 1) c1) (.slice A2 (t.length + 1) c2) (l ++ [x]) (t ++ [x]) w2 := by
  obtain ⟨A1, c1, w1, r1, u1⟩ := qi_add u.out h1 x
  obtain ⟨A2, c2, w2, r2, u2⟩ := qi_add (ur_comm u1) h2 x
  exact ⟨A1, c1, w1, r1, A2, c2, w2, r2, Aside0.mk (ur_comm u2)⟩
theorem ur_pop {W wr : World} {A B : Option Addr} {n m c d : Nat} {l t : List Int} {x : Int} (u : UR W (.slice A n c) (.slice B m d) l (x :: t) wr) : UR W (.slice A n c) (sliced B 1 m d 1) l t wr :=
  Aside0.mk (u.out.imp (fun _ h => Sep.imp h (fun _ h => h) (fun _ h => QI.pop h)))
theorem ur_start (W : World) (x : Int) : UR W (.slice none 0 0) (.slice (some ⟨W.heap.size, 0, none⟩) 1 1) [] [x] (W.alloc (.cells #[.int .i64 x] 3)) := by
  have h0 : (QI (.slice none 0 0) []).on W (fun _ => False) := QI.empty W
  refine Aside0.mk (Upd.new h0 ((Eff.refl _ _).alloc _) (F' := fun k => k = W.heap.size) ⟨.inr ⟨W.heap.size, 1, [], rfl, ⟨Nat.zero_le _, by simp, by decide, _, [], heap_alloc_new W _, by simp, by simp [flatE, cellsI]⟩, rfl⟩, by rintro k rfl; simp⟩ (by rintro k rfl; exact Nat.le_refl _))
set_option maxHeartbeats 1600000 in
set_option maxRecDepth 100000 in
theorem reach_calls (W : World) (A : Option Addr) (c : Nat) (es : List Pr) (hC : Kd.C kdP W A es.length es) (he : es.length ≤ 100) (from_ : Int) (back : Bool) (N : Nat) (hN : N ≤ 100) (l : List Int) (hl : iterE es back N ([], [from_]) = (l, [])) :
    Calls Try.prog 34 #[.int .i64 from_, .slice A es.length c, .bool back] W fun e w' => ∃ A' c', e = .returned (.slice A' l.length c') ∧ Aside0 (Upd W (fun _ => False) (QI (.slice A' l.length c') l) w') := by
  have HC := Aside0.mk hC
  have HL := Aside0.mk hl
  clear hC hl
  have U0 := ur_start W from_
  go_enter Try.func34, Try.ntmps34
  go_wp2_with fail
  go_loopg [7, 8] N (fun k s7 s8 wr => ∃ (A7 A8 : Option Addr) (c7 c8 n : Nat) (l t : List Int), s7 = .slice A7 l.length c7 ∧ s8 = .slice A8 t.length c8 ∧ n + k = N ∧ l.length ≤ n * 100 ∧ t.length ≤ n * 100 + 1 ∧ Aside0 (iterE es back n ([], [from_]) = (l, t)) ∧ UR W (.slice A7 l.length c7) (.slice A8 t.length c8) l t wr)
  case atStart => exact ⟨none, _, 0, 1, 0, [], [from_], rfl, rfl, by omega, by simp, by simp, Aside0.mk rfl, U0⟩
  case round =>
    obtain ⟨A7, A8, c7, c8, n, l1, t1, rfl, rfl, hk, h7, h8, HI, U1⟩ := hrel
    cases t1 with
    | nil =>
      have hll : l1 = l := by
        have h1 := iter_add es back ([], [from_]) (N - n) n
        rw [HI.out, popE_end, show n + (N - n) = N by omega, HL.out] at h1
        injection h1 with h1 _
        exact h1.symm
      subst hll
      go_wp2
      go_ret
      refine ⟨_, _, rfl, Aside0.mk ?_⟩
      exact Upd.drop U1.out
    | cons x t =>
      have hn : n < N := by
        rcases Nat.lt_or_ge n N with h | h
        · exact h
        · obtain rfl : n = N := by omega
          have := HI.out
          rw [HL.out] at this
          injection this with _ this
          cases this
      obtain ⟨_, hcell⟩ := qi_len (ur_comm U1.out)
      obtain ⟨g, o, rfl, x0⟩ := hcell 0 (by simp)
      simp only [Nat.add_zero, List.getD_cons_zero] at x0
      simp only [List.length_cons] at h8 U1
      have U2 := ur_pop U1
      have HK := Aside0.mk (And.intro hk (And.intro hn (And.intro h7 h8)))
      have p1 : ((t.length : Int) + 1 > 0) = True := eq_true (by omega)
      have p2 : (0 < (t.length : Int) + 1) = True := eq_true (by omega)
      clear hk hn h7 h8 hcell
      obtain ⟨g1, rfl⟩ : ∃ g1 : Nat, g1 = gk := ⟨_, rfl⟩
      obtain ⟨w0, rfl⟩ : ∃ w0 : World, w0 = wr := ⟨_, rfl⟩
      go_upto_region 5 with (fail)
      go_cut [8] (fun s8 wx => wx = w0 ∧ ∃ A8 c8, s8 = .slice A8 t.length c8 ∧ UR W (.slice A7 l1.length c7) (.slice A8 t.length c8) l1 t w0)
      case first =>
        by_cases hc1 : c8 = 1
        · have pc : (c8 = 1) = True := eq_true hc1
          unfold sliced at U2
          rw [if_pos hc1, Nat.add_sub_cancel] at U2
          have V := Aside0.mk U2
          clear hc1 U2
          go_wp2
          go_meet
          case rel => exact ⟨rfl, _, _, rfl, V.out⟩
        · have pc : (c8 = 1) = False := eq_false hc1
          unfold sliced at U2
          rw [if_neg hc1, Nat.add_sub_cancel, Option.map_some, at_off] at U2
          have V := Aside0.mk U2
          clear hc1 U2
          go_wp2
          go_meet
          case rel => exact ⟨rfl, _, _, rfl, V.out⟩
      case rest =>
        obtain ⟨rfl, A9, c9, rfl, U3⟩ := hcut
        clear U2 U1 p1 p2 x0
        go_wp2_with fail
        go_loopg [7, 8, 10] es.length (fun k s7 s8 s10 wr => ∃ (A7 A8 : Option Addr) (c7 c8 i : Nat) (l2 t2 : List Int), s7 = .slice A7 l2.length c7 ∧ s8 = .slice A8 t2.length c8 ∧ s10 = .int .i64 (i : Int) ∧ i + k = es.length ∧ l2.length ≤ n * 100 + i ∧ t2.length ≤ n * 100 + i ∧ Aside0 ((es.take i).foldl (stepE x back) (l1, t) = (l2, t2)) ∧ UR W (.slice A7 l2.length c7) (.slice A8 t2.length c8) l2 t2 wr)
        case atStart => exact ⟨A7, A9, c7, c9, 0, l1, t, rfl, rfl, rfl, by omega, by have := HK.out; omega, by have := HK.out; omega, Aside0.mk rfl, U3⟩
        case round =>
          obtain ⟨A7, A8, c7, c8, i, l2, t2, rfl, rfl, rfl, hik, h7, h8, HF, U4⟩ := hrel
          by_cases hi : i < es.length
          · have p1 : ((i : Int) < (es.length : Int)) = True := eq_true (by omega)
            have p2 : (0 : Int) ≤ (i : Int) := by omega
            have hC1 := Kd.C_below HC.out (ur_eff U4).below0
            obtain ⟨ad, rfl, x0, x1⟩ := at_P hC1 i hi
            have hfs := foldl_take_succ (stepE x back) es (l1, t) i hi default
            rw [HF.out] at hfs
            have hii : i < 900 := by omega
            have HI2 := Aside0.mk (And.intro hi (And.intro hik (And.intro h7 h8)))
            generalize es.getD i default = e at *
            obtain ⟨a, b⟩ := e
            dsimp only at x0 x1
            clear hC1 hi hik h7 h8
            have hst : ∀ a1 b1, endsE back (a, b) = (a1, b1) → stepE x back (l2, t2) (a, b) = if a1 = x then (if inI l2 b1 then (l2, t2) else (l2 ++ [b1], t2 ++ [b1])) else (l2, t2) := by
              intro a1 b1 hab
              unfold stepE
              rw [hab]
            have HFS := Aside0.mk (fun a1 b1 h => hfs.trans (hst a1 b1 h))
            clear hst hfs
            obtain ⟨g2, rfl⟩ : ∃ g2 : Nat, g2 = gk := ⟨_, rfl⟩
            obtain ⟨w3, rfl⟩ : ∃ w3 : World, w3 = wr := ⟨_, rfl⟩
            go_upto_region 9 with (fail)
            go_cut [11, 12] (fun s11 s12 wx => s11 = .int .i64 a ∧ s12 = .int .i64 b ∧ UR W (.slice A7 l2.length c7) (.slice A8 t2.length c8) l2 t2 wx)
            case first =>
              go_wp2_with fail
              go_quiet (fail)
              go_wp2_with fail
              go_meet
              case rel => exact ⟨rfl, rfl, Aside0.mk (U4.out.after ((Eff.refl _ _).drewN _))⟩
            case rest =>
              obtain ⟨rfl, rfl, U5⟩ := hcut
              clear U4 x0 x1
              obtain ⟨_, hcell⟩ := qi_len U5.out
              have HCL := Aside0.mk hcell
              clear hcell
              cases back with
              | false =>
                have HF2 := Aside0.mk (HFS.out a b rfl)
                clear HFS
                by_cases hax : a = x
                · have q1 : (a != x) = false := by simp [hax]
                  have HAX := Aside0.mk hax
                  clear hax
                  go_wp2_with fail
                  go_loopg [13, 14] l2.length (fun k s13 s14 wr => ∃ (j : Nat), s13 = .bool (inI (l2.take j) b) ∧ s14 = .int .i64 (j : Int) ∧ j + k = l2.length ∧ wr = wc)
                  case atStart => exact ⟨0, rfl, rfl, by omega, rfl⟩
                  case round =>
                    obtain ⟨j, rfl, rfl, hjk, rfl⟩ := hrel
                    by_cases hj : j < l2.length
                    · have q2 : ((j : Int) < (l2.length : Int)) = True := eq_true (by omega)
                      have q3 : (0 : Int) ≤ (j : Int) := by omega
                      obtain ⟨g5, o5, rfl, y0⟩ := HCL.out j hj
                      have hin := inI_take l2 b j hj
                      have HJ := Aside0.mk (And.intro hjk (And.intro hj hin))
                      have hjj : j < 900000 := by have := HI2.out; have := HK.out; omega
                      clear hj hjk hin
                      cases hd : inI (l2.take j) b with
                      | true =>
                        have HD := Aside0.mk hd
                        clear hd
                        go_wp2_with fail
                        go_roundg (gk - 1)
                        case measure => have := HJ.out; omega
                        case rel => have h5 := HJ.out; rw [HD.out] at h5; exact ⟨j + 1, by rw [h5.2.2]; rfl, by simp, by omega, rfl⟩
                      | false =>
                        have HD := Aside0.mk hd
                        clear hd
                        go_wp2_with fail
                        go_roundg (gk - 1)
                        case measure => have := HJ.out; omega
                        case rel => have h5 := HJ.out; rw [HD.out] at h5; exact ⟨j + 1, by rw [h5.2.2]; rfl, by simp, by omega, rfl⟩
                    · have q2 : ((j : Int) < (l2.length : Int)) = False := eq_false (by omega)
                      obtain rfl : j = l2.length := by omega
                      clear hj hjk
                      rw [List.take_length] at *
                      obtain ⟨A1, c1, w1, r1, A2, c2, w2, r2, U6⟩ := ur_both U5 (by have := HI2.out; have := HK.out; omega) (by have := HI2.out; have := HK.out; omega) b
                      cases hd : inI l2 b with
                      | true =>
                        have HD := Aside0.mk hd
                        clear hd
                        go_wp2_with fail
                        go_roundg (g2 - 1)
                        case measure => have := HI2.out; omega
                        case rel => exact ⟨A7, A8, c7, c8, i + 1, l2, t2, rfl, rfl, by simp, by have := HI2.out; omega, by have := HI2.out; omega, by have := HI2.out; omega, Aside0.mk (by rw [HF2.out, if_pos HAX.out, if_pos HD.out]), U5⟩
                      | false =>
                        have HD := Aside0.mk hd
                        clear hd
                        have R1 := Aside0.mk r1
                        have R2 := Aside0.mk r2
                        clear r1 r2
                        go_upto_region 20 with (at_builtin; refine Lib.wpList_append_run _ rfl _ _ _ _ rfl _ _ rfl rfl _ _ (R1.out _) ?_)
                        clear R1
                        go_wp2_with (at_builtin; refine Lib.wpList_append_run _ rfl _ _ _ _ rfl _ _ rfl rfl _ _ (R2.out _) ?_)
                        go_roundg (g2 - 1)
                        case measure => have := HI2.out; omega
                        case rel => exact ⟨A1, A2, c1, c2, i + 1, l2 ++ [b], t2 ++ [b], by simp, by simp, by simp, by have := HI2.out; omega, by have := HI2.out; rw [List.length_append, List.length_singleton]; omega, by have := HI2.out; rw [List.length_append, List.length_singleton]; omega, Aside0.mk (by rw [HF2.out, if_pos HAX.out, HD.out]; simp), by simpa using U6⟩
                · have q1 : (a != x) = true := by simp [hax]
                  have HAX := Aside0.mk hax
                  clear hax
                  go_wp2_with fail
                  go_roundg (g2 - 1)
                  case measure => have := HI2.out; omega
                  case rel => exact ⟨A7, A8, c7, c8, i + 1, l2, t2, rfl, rfl, by simp, by have := HI2.out; omega, by have := HI2.out; omega, by have := HI2.out; omega, Aside0.mk (by rw [HF2.out, if_neg HAX.out]), U5⟩
              | true =>
                have HF2 := Aside0.mk (HFS.out b a rfl)
                clear HFS
                by_cases hax : b = x
                · have q1 : (b != x) = false := by simp [hax]
                  have HAX := Aside0.mk hax
                  clear hax
                  go_wp2_with fail
                  go_loopg [13, 14] l2.length (fun k s13 s14 wr => ∃ (j : Nat), s13 = .bool (inI (l2.take j) a) ∧ s14 = .int .i64 (j : Int) ∧ j + k = l2.length ∧ wr = wc)
                  case atStart => exact ⟨0, rfl, rfl, by omega, rfl⟩
                  case round =>
                    obtain ⟨j, rfl, rfl, hjk, rfl⟩ := hrel
                    by_cases hj : j < l2.length
                    · have q2 : ((j : Int) < (l2.length : Int)) = True := eq_true (by omega)
                      have q3 : (0 : Int) ≤ (j : Int) := by omega
                      obtain ⟨g5, o5, rfl, y0⟩ := HCL.out j hj
                      have hin := inI_take l2 a j hj
                      have HJ := Aside0.mk (And.intro hjk (And.intro hj hin))
                      have hjj : j < 900000 := by have := HI2.out; have := HK.out; omega
                      clear hj hjk hin
                      cases hd : inI (l2.take j) a with
                      | true =>
                        have HD := Aside0.mk hd
                        clear hd
                        go_wp2_with fail
                        go_roundg (gk - 1)
                        case measure => have := HJ.out; omega
                        case rel => have h5 := HJ.out; rw [HD.out] at h5; exact ⟨j + 1, by rw [h5.2.2]; rfl, by simp, by omega, rfl⟩
                      | false =>
                        have HD := Aside0.mk hd
                        clear hd
                        go_wp2_with fail
                        go_roundg (gk - 1)
                        case measure => have := HJ.out; omega
                        case rel => have h5 := HJ.out; rw [HD.out] at h5; exact ⟨j + 1, by rw [h5.2.2]; rfl, by simp, by omega, rfl⟩
                    · have q2 : ((j : Int) < (l2.length : Int)) = False := eq_false (by omega)
                      obtain rfl : j = l2.length := by omega
                      clear hj hjk
                      rw [List.take_length] at *
                      obtain ⟨A1, c1, w1, r1, A2, c2, w2, r2, U6⟩ := ur_both U5 (by have := HI2.out; have := HK.out; omega) (by have := HI2.out; have := HK.out; omega) a
                      cases hd : inI l2 a with
                      | true =>
                        have HD := Aside0.mk hd
                        clear hd
                        go_wp2_with fail
                        go_roundg (g2 - 1)
                        case measure => have := HI2.out; omega
                        case rel => exact ⟨A7, A8, c7, c8, i + 1, l2, t2, rfl, rfl, by simp, by have := HI2.out; omega, by have := HI2.out; omega, by have := HI2.out; omega, Aside0.mk (by rw [HF2.out, if_pos HAX.out, if_pos HD.out]), U5⟩
                      | false =>
                        have HD := Aside0.mk hd
                        clear hd
                        have R1 := Aside0.mk r1
                        have R2 := Aside0.mk r2
                        clear r1 r2
                        go_upto_region 20 with (at_builtin; refine Lib.wpList_append_run _ rfl _ _ _ _ rfl _ _ rfl rfl _ _ (R1.out _) ?_)
                        clear R1
                        go_wp2_with (at_builtin; refine Lib.wpList_append_run _ rfl _ _ _ _ rfl _ _ rfl rfl _ _ (R2.out _) ?_)
                        go_roundg (g2 - 1)
                        case measure => have := HI2.out; omega
                        case rel => exact ⟨A1, A2, c1, c2, i + 1, l2 ++ [a], t2 ++ [a], by simp, by simp, by simp, by have := HI2.out; omega, by have := HI2.out; rw [List.length_append, List.length_singleton]; omega, by have := HI2.out; rw [List.length_append, List.length_singleton]; omega, Aside0.mk (by rw [HF2.out, if_pos HAX.out, HD.out]; simp), by simpa using U6⟩
                · have q1 : (b != x) = true := by simp [hax]
                  have HAX := Aside0.mk hax
                  clear hax
                  go_wp2_with fail
                  go_roundg (g2 - 1)
                  case measure => have := HI2.out; omega
                  case rel => exact ⟨A7, A8, c7, c8, i + 1, l2, t2, rfl, rfl, by simp, by have := HI2.out; omega, by have := HI2.out; omega, by have := HI2.out; omega, Aside0.mk (by rw [HF2.out, if_neg HAX.out]), U5⟩
          · have p1 : ((i : Int) < (es.length : Int)) = False := eq_false (by omega)
            obtain rfl : i = es.length := by omega
            have hF := HF.out
            rw [List.take_length] at hF
            have hnext : iterE es back (n + 1) ([], [from_]) = (l2, t2) := by
              rw [iterE, HI.out]
              exact hF
            have HN := Aside0.mk (And.intro hnext (And.intro h7 h8))
            clear hi hik h7 h8 hF hnext
            go_wp2_with fail
            go_roundg (g1 - 1)
            case measure => have := HK.out; omega
            case rel => exact ⟨A7, A8, c7, c8, n + 1, l2, t2, rfl, rfl, by have := HK.out; omega, by have := HN.out.2; omega, by have := HN.out.2; omega, Aside0.mk HN.out.1, U4⟩
end Go.Proofs.Ytlakklaaapfpeaa.LK
