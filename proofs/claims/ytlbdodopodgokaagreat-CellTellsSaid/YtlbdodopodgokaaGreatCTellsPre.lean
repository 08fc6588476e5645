import Derived.Test.YtlbdodopodgokaaGreatCRf
import Derived.Test.YtlbdodopodgokaaGreatCFits
import Derived.Test.YtlbdodopodgokaaGreatBKC
import Derived.Test.YtlbdodopodgokaaGreatCTx0
import Derived.Test.YtlbdodopodgokaaGreatProg
import Derived.BigRegion
import Derived.BigQuiet
import Derived.Deep.QuietTactic
import Derived.Deep.AppendLies
import Derived.ChangeAlike
import Derived.Outline
import Derived.WalkKit
import Derived.KernelRfl
import Derived.Deep.LoopGhost
import Derived.Deep.RegionLaw
import Derived.Test.YtlbdodopodgokaaGreatWMore
import Derived.Test.YtlbdodopodgokaaGreatWKept
import Derived.Test.YtlbdodopodgokaaGreatLSep
namespace Go.Proofs.YtlbdodopodgokaaGreat.CP
open Go Go.RowKit Go.Proofs.YtlbdodopodgokaaGreatW.PrintWords Go.Proofs.YtlbdodopodgokaaGreatW.PrintLast Go.Proofs.YtlbdodopodgokaaGreatW.PrintMore Go.Proofs.YtlbdodopodgokaaGreat.CR Go.Proofs.YtlbdodopodgokaaGreat.L Go.Proofs.YtlbdodopodgokaaGreat.MR
set_option linter.unusedVariables false
set_option linter.unusedSimpArgs false
/-! ### the law CellTells: its parts -/
abbrev tupB (b : B) : ByteArray × ByteArray × Int × Int := (b.k, b.v, b.bl, b.sz)
abbrev bS (x : CT.S25) : B := ⟨x.f0, x.f1, x.f2, x.f3⟩
theorem flat_tup (l : List B) : flatE BK.encCells (l.map tupB) = flatE cellsB l := by
  unfold flatE
  rw [List.flatMap_map]
  rfl
theorem Rw.tup {v : Value} {xs : List B} {W : World} {F : Nat → Prop} (h : Rw cellsB 4 25 v xs W F) : Rw BK.encCells 4 25 v (xs.map tupB) W F := by
  rcases h with ⟨h, rfl⟩ | ⟨g, cap, h1, h2, h3⟩
  · exact .inl ⟨h, rfl⟩
  · refine .inr ⟨g, cap, by rw [List.length_map]; exact h1, ⟨h2.le, by rw [List.length_map]; exact h2.len, h2.max, ?_⟩, h3⟩
    obtain ⟨cur, rest, hh, hc, ht⟩ := h2.has
    exact ⟨cur, rest, hh, hc, by rw [flat_tup]; exact ht⟩
theorem Rw.untup {v : Value} {xs : List B} {W : World} {F : Nat → Prop} (h : Rw BK.encCells 4 25 v (xs.map tupB) W F) : Rw cellsB 4 25 v xs W F := by
  rcases h with ⟨h, h0⟩ | ⟨g, cap, h1, h2, h3⟩
  · exact .inl ⟨h, by simpa using h0⟩
  · refine .inr ⟨g, cap, by rw [List.length_map] at h1; exact h1, ⟨h2.le, by have := h2.len; rwa [List.length_map] at this, h2.max, ?_⟩, h3⟩
    obtain ⟨cur, rest, hh, hc, ht⟩ := h2.has
    exact ⟨cur, rest, hh, hc, by rw [flat_tup] at ht; exact ht⟩
abbrev RE (v : Value) (xs : List (ByteArray × ByteArray × Int × Int)) : HP := RwAt BK.encCells 4 25 v xs
theorem kB_of {w : World} {A : Option Addr} {n : Nat} {l : List CT.S25} (h : Kd.C CT.k25 w A n l) : Kd.C kdB w A n (l.map bS) := by
  obtain ⟨h1, h2, h3⟩ := h
  refine ⟨by rw [List.length_map]; exact h1, h2, fun hn => ?_⟩
  obtain ⟨ad, e, hc⟩ := h3 hn
  refine ⟨ad, e, fun j p hj => ?_⟩
  rw [List.getElem?_map] at hj
  obtain ⟨q, hq, rfl⟩ := Option.map_eq_some_iff.1 hj
  obtain ⟨c, hl, hK, hcc⟩ := hc j q hq
  exact ⟨c, hl, CT.k25_open hK, hcc⟩
theorem lie_kB {W : World} {A : Option Addr} {l : List B} (h : Kd.C kdB W A l.length l) : BK.LieX BK.encCells 4 W A (l.map tupB) := fun i hi => by
  rw [List.length_map] at hi
  obtain ⟨ad, c, e, _, hK, hc0⟩ := Kd.C_get h (default : B) (i : Int) (by omega) (by omega)
  have hc : ∀ j u, c[j]? = some u → W.cell? (ad.add (i * 4 + j)) = some u := hc0
  have hK2 : c = cellsB (l.getD i default) := hK
  subst hK2
  refine ⟨ad, e, fun r u hu => hc r u ?_⟩
  have e2 : (l.map tupB)[i]'(by rw [List.length_map]; exact hi) = tupB (l.getD i default) := by
    rw [List.getElem_map, List.getD_eq_getElem?_getD, List.getElem?_eq_getElem hi]
    rfl
  rw [e2] at hu
  exact hu
abbrev nilB : Array Value := #[.slice none 0 0, .slice none 0 0, .slice none 0 0, .slice none 0 0, .slice none 0 0, .slice none 0 0, .slice none 0 0, .slice none 0 0, .slice none 0 0, .slice none 0 0, .slice none 0 0, .slice none 0 0, .slice none 0 0, .slice none 0 0, .slice none 0 0, .slice none 0 0, .slice none 0 0, .slice none 0 0]
abbrev lentB : B := ⟨ByteArray.empty, ByteArray.empty, 0, -77⟩
section
variable {wo W : World} {l : List HP}
theorem own_new {m : HP} {W' : World} (o : Own wo W (Stars l)) (U : Upd W (fun _ => False) m W') : Own wo W' (Stars (l ++ [m])) := by
  obtain ⟨F', hN, ef, hk⟩ := U
  exact o.newAt ef hN (fun k hk' => (hk k hk').elim (fun h => h.elim) id)
theorem lentB_calls {A : Option Addr} {c : Nat} (o : Own wo W (Stars l)) (lb : List B) (h : Kd.C kdB W A lb.length lb) (hm : lb.length ≤ 60) : Calls Tryz.prog 9 #[.slice A lb.length c] W fun e w' => ∃ B d, e = .returned (.slice B lb.length d) ∧ Aside0 (Own wo w' (Stars (l ++ [RE (.slice B (lb.length + 1) d) ((lb ++ [lentB]).map tupB)]))) := by
  have h1 := BK.lentCells_calls (lb.map tupB) A c W (lie_kB h) (by rw [List.length_map]; omega)
  rw [List.length_map] at h1
  refine h1.mono ?_
  rintro e w' ⟨B, d, rfl, _, hU⟩
  refine ⟨B, d, rfl, Aside0.mk ?_⟩
  have := own_new o hU.out
  rw [List.map_append]
  exact this
theorem get_own (o : Own wo W (Stars l)) (s : ByteArray) : Calls Tryz.prog 12 #[.string s] W fun e w' => ∃ A c, e = .returned (.tuple #[.slice A (getF s).1.length c, .bool (getF s).2]) ∧ Aside0 (Own wo w' (Stars (l ++ [RE (.slice A (getF s).1.length c) ((getF s).1.map tupB)]))) := by
  refine (get_calls W s).mono ?_
  rintro e w' ⟨v, rfl, hR, hb⟩
  have h1 := RwAt.of_R (d := kdB) (enc := cellsB) (k := 4) rfl (fun h => h) hR
  obtain ⟨A, c, hv⟩ := h1.1.form
  subst hv
  refine ⟨A, c, rfl, Aside0.mk ?_⟩
  exact o.newAt (Eff.of_below hb) (N := RE (.slice A (getF s).1.length c) ((getF s).1.map tupB)) ⟨Rw.tup h1.1, h1.2⟩ (fun k hk => ((Kd.R_bound hR).1 k hk).2.1)
theorem refget_own (o : Own wo W (Stars l)) (s : ByteArray) : Calls Tryz.prog 13 #[.string s] W fun e w' => ∃ A c, e = .returned (.tuple #[.slice A (getF s).1.length c, .bool (getF s).2]) ∧ Aside0 (Own wo w' (Stars (l ++ [RE (.slice A (getF s).1.length c) ((getF s).1.map tupB)]))) := by
  have h := refget_calls W s
  rw [rget_is] at h
  refine h.mono ?_
  rintro e w' ⟨A, c, rfl, hU⟩
  refine ⟨A, c, rfl, Aside0.mk ?_⟩
  obtain ⟨F', hN, ef, hk⟩ := hU.out
  exact o.newAt ef (N := RE (.slice A (getF s).1.length c) ((getF s).1.map tupB)) ⟨Rw.tup hN.1, hN.2⟩ (fun k hk' => (hk k hk').elim (fun h => h.elim) id)
end
section
variable {wo W : World} {m x y z : HP}
theorem book_new (o : Own wo W (Stars [m, x, y, z])) : Own wo (W.alloc (.cells nilB 45)) (Stars (CellsAt W.heap.size nilB 45 :: (BK.BkP BK.encCells 4 25 22 (.slice none 0 0) (.slice none 0 0) [] ++ [m, x, y, z]))) := by
  have o2 := o.cellsNew nilB 45
  exact BK.BkP.none_ (o2.perm (List.perm_append_singleton _ _))
variable {bb : Nat} {cs : Array Value} {a b : Value} {K : List (BK.Kp (ByteArray × ByteArray × Int × Int))} {r1 r2 : List HP}
/-- One more list into the book: it stands second in what is left. -/
theorem cells_own {A : Option Addr} {n c : Nat} {xs : List (ByteArray × ByteArray × Int × Int)} (hn : n = xs.length) (q0 : cs[4]? = some a) (q1 : cs[5]? = some b) (o : Own wo W (Stars (CellsAt bb cs 45 :: (BK.BkP BK.encCells 4 25 22 a b K ++ (r1 ++ (RE (.slice A n c) xs :: r2)))))) (hK : K.length < 250) (hx : n < 700000) : Calls Tryz.prog 14 #[.pointer (some ⟨bb, 0, none⟩), .slice A n c] W fun e w' => e = .returned (.tuple #[]) ∧ ∃ a' b' B d, Aside0 (Own wo w' (Stars (CellsAt bb ((cs.setIfInBounds 4 a').setIfInBounds 5 b') 45 :: (BK.BkP BK.encCells 4 25 22 a' b' (K ++ [⟨A, c, B, d, xs⟩]) ++ (r1 ++ r2))))) := by
  subst hn
  have o2 := o.perm ((List.perm_middle.append_left (BK.BkP BK.encCells 4 25 22 a b K)).cons _)
  exact BK.addCells_calls q0 q1 o2 hK hx
end
theorem m_kB {W : World} {F : Nat → Prop} {lb : List B} {B : Option Addr} {d n : Nat} (h : (RE (.slice B (n + 1) d) ((lb ++ [lentB]).map tupB)).on W F) (hn : lb.length = n) : Kd.C kdB W B n lb := by
  subst hn
  have h1 := Rw.untup h.1
  have h2 := (RB_C h1).2.2
  have h3 := Kd.C_take h2 (m := lb.length) (by simp)
  rwa [List.take_left] at h3
section
variable {wo W : World} {bb : Nat} {cs : Array Value} {a b : Value} {K : List (BK.Kp (ByteArray × ByteArray × Int × Int))} {l : List HP} {lb : List B} {n : Nat}
theorem stays_own {A B : Option Addr} {c d : Nat} (o : Own wo W (Stars (CellsAt bb cs 45 :: (BK.BkP BK.encCells 4 25 22 a b K ++ (RE (.slice B (n + 1) d) ((lb ++ [lentB]).map tupB) :: l))))) (hn : lb.length = n) (hC : Kd.C kdB W A n lb) (h60 : n ≤ 60) : Calls Tryz.prog 17 #[.slice B n d, .slice A n c] W fun e w' => e = .returned (.bool true) ∧ Drawn0 W w' := by
  subst hn
  obtain ⟨F, h⟩ := o.fact 5 rfl
  have h1 : Rw BK.encCells 4 25 (.slice B ((lb.map tupB).length + 1) d) (lb.map tupB ++ [BK.lentCells]) W F := by
    have := h.1
    rw [List.map_append] at this
    rw [List.length_map]
    exact this
  have := BK.staysCells_calls (lb.map tupB) A B c d W F h1 (lie_kB hC) (by rw [List.length_map]; omega)
  rw [List.length_map] at this
  exact this
theorem same_own {p : BK.Kp (ByteArray × ByteArray × Int × Int)} {m : HP} {Y : Option Addr} {ny e : Nat} (o : Own wo W (Stars (CellsAt bb cs 45 :: (BK.BkP BK.encCells 4 25 22 a b (p :: K) ++ (m :: RE (.slice Y ny e) p.xs :: l))))) (hn : ny = p.xs.length) (h60 : ny < 700000) : Calls Tryz.prog 18 #[.slice p.A ny p.c, .slice Y ny e] W fun e w' => e = .returned (.bool true) ∧ Drawn0 W w' := by
  subst hn
  obtain ⟨F3, h3⟩ := o.fact 3 rfl
  obtain ⟨G, h4⟩ := BK.stars_at h3 0 (by simp)
  obtain ⟨F6, h6⟩ := o.fact 6 rfl
  exact BK.sameCells_calls p.xs p.A Y p.c e W (BK.LieX.of_Rw BK.lenCells h4.1) (BK.LieX.of_Rw BK.lenCells h6.1) (by omega)
end
theorem apart_own {wo W : World} {bb : Nat} {a1 b1 a2 b2 : Value} {p q : BK.Kp (ByteArray × ByteArray × Int × Int)} {l : List HP} (O : Own wo W (Stars (CellsAt bb ((((nilB.setIfInBounds 4 a1).setIfInBounds 5 b1).setIfInBounds 4 a2).setIfInBounds 5 b2) 45 :: (BK.BkP BK.encCells 4 25 22 a2 b2 [p, q] ++ l)))) (hp : p.xs.length < 1000) (hq : q.xs.length < 1000) : Calls Tryz.prog 19 #[.pointer (some ⟨bb, 0, none⟩)] W fun e w' => e = .returned (.bool true) ∧ Below wo.heap.size wo w' := by
  refine BK.apart_calls (K0 := [p, q]) rfl rfl rfl rfl rfl rfl rfl rfl rfl rfl O (by simp) ?_
  intro r hr
  simp only [List.mem_cons, List.not_mem_nil, or_false] at hr
  rcases hr with rfl | rfl <;> omega
theorem getF_len (s : ByteArray) : (getF s).1.length ≤ 240 := by
  obtain ⟨g, hg⟩ : ∃ g, g = getF s := ⟨_, rfl⟩
  obtain ⟨x, b⟩ := g
  rw [← hg]
  cases b with
  | true =>
    have h1 := putF_put (getF_true hg.symm)
    unfold put at h1
    split at h1
    · rename_i hc
      have := hc.1
      rwa [List.length_map] at this
    · cases h1
  | false =>
    have hx : x = [] := by
      unfold getF at hg
      split at hg
      · injection hg with _ h; cases h
      · injection hg
    subst hx
    simp
/-- A cell in its box. -/
def Bq (wr wx : World) (g : Nat) (q : B) : Prop := Eff0 wr wx ∧ wx.heap[g]? = some (.cells #[.string q.k, .string q.v, .int .i64 q.bl, .int .i64 q.sz] 25 (0, 0))
theorem Bq.of {wr wq wx : World} {g : Nat} {q : B} (e0 : Eff0 wr wq) (h : wq.heap[g]? = some (.cells #[.string q.k, .string q.v, .int .i64 q.bl, .int .i64 q.sz] 25 (0, 0))) (hl : g < wq.heap.size) (e : Eff0 wq wx) : Bq wr wx g q := ⟨e0.then0 e, (e.block g hl id).trans h⟩
end Go.Proofs.YtlbdodopodgokaaGreat.CP
