import Derived.Test.YtiagbkpggeglgaaGreatRPat
import Derived.Test.YtiagbkpggeglgaaGreatRK2
import Derived.Test.YtiagbkpggeglgaaGreatProg
import Derived.BigRegion
import Derived.BigQuiet
import Derived.Deep.QuietTactic
import Derived.Deep.AppendLies
import Derived.ChangeAlike
import Derived.Outline
import Derived.WalkKit
import Derived.KernelRfl
import Derived.Deep.LoopGhost
import Derived.Deep.RegionLaw
import Derived.Test.YtiagbkpggeglgaaGreatWMore
import Derived.Test.YtiagbkpggeglgaaGreatWKept
import Derived.Test.YtiagbkpggeglgaaGreatLSep
namespace Go.Proofs.YtiagbkpggeglgaaGreat.RS
open Go Go.RowKit Go.Proofs.YtiagbkpggeglgaaGreatW.PrintWords Go.Proofs.YtiagbkpggeglgaaGreatW.PrintLast Go.Proofs.YtiagbkpggeglgaaGreatW.PrintMore Go.Proofs.YtiagbkpggeglgaaGreat.L Go.Proofs.YtiagbkpggeglgaaGreat.MP
set_option linter.unusedVariables false
set_option linter.unusedSimpArgs false
/-! ### what redo makes of a page, told plainly -/
def redoL (page : Int) : ByteArray → List Pt → Option ByteArray
  | b, [] => some b
  | b, p :: l => if p.1 = page then (if rightP p then redoL page (layP b p) l else none) else redoL page b l
def ptsOf (rs : List Rc) : List Pt := rs.flatMap (·.ps)
def redoA (ds : List (Int × Int)) (page : Int) (b : ByteArray) (rs : List Rc) : Option ByteArray := match ds.find? (fun d => decide (d.1 = page)) with
  | none => some b
  | some d => redoL page b (ptsOf (rs.drop (d.2 - 1).toNat))
def ansO : Option ByteArray → ByteArray × Bool
  | some b => (b, true)
  | none => (⟨#[]⟩, false)
theorem pts_drop (rs : List Rc) (i : Nat) (h : i < rs.length) : ptsOf (rs.drop i) = (rs.getD i default).ps ++ ptsOf (rs.drop (i + 1)) := by
  rw [List.drop_eq_getElem_cons h]
  unfold ptsOf
  rw [List.flatMap_cons, List.getD_eq_getElem?_getD, List.getElem?_eq_getElem h]
  rfl
theorem pts_end (rs : List Rc) (i : Nat) (h : rs.length ≤ i) : ptsOf (rs.drop i) = [] := by
  rw [List.drop_eq_nil_of_le h]
  rfl
theorem redoL_step (page : Int) (b : ByteArray) (l m : List Pt) (j : Nat) (h : j < l.length) : redoL page b (l.drop j ++ m) = if (l.getD j default).1 = page then (if rightP (l.getD j default) then redoL page (layP b (l.getD j default)) (l.drop (j + 1) ++ m) else none) else redoL page b (l.drop (j + 1) ++ m) := by
  rw [List.drop_eq_getElem_cons h, List.cons_append, List.getD_eq_getElem?_getD, List.getElem?_eq_getElem h]
  rfl
theorem find_none (ds : List (Int × Int)) (page : Int) (h : ∀ j, j < ds.length → (ds.getD j default).1 ≠ page) : ds.find? (fun d => decide (d.1 = page)) = none := by
  rw [List.find?_eq_none]
  intro d hd
  obtain ⟨j, hj, rfl⟩ := List.mem_iff_getElem.1 hd
  have := h j hj
  rw [List.getD_eq_getElem?_getD, List.getElem?_eq_getElem hj] at this
  simpa using this
theorem find_some : ∀ (ds : List (Int × Int)) (page : Int) (i : Nat), i < ds.length → (∀ j, j < i → (ds.getD j default).1 ≠ page) → (ds.getD i default).1 = page → ds.find? (fun d => decide (d.1 = page)) = some (ds.getD i default)
  | [], _, _, h, _, _ => by simp at h
  | d :: ds, page, 0, _, _, h => by
    rw [List.getD_cons_zero] at h ⊢
    rw [List.find?_cons_of_pos (by simpa using h)]
  | d :: ds, page, i + 1, hi, hj, h => by
    have h0 := hj 0 (by omega)
    rw [List.getD_cons_zero] at h0
    rw [List.find?_cons_of_neg (by simpa using h0)]
    rw [List.getD_cons_succ] at h ⊢
    exact find_some ds page i (by simpa using hi) (fun j hj2 => by have := hj (j + 1) (by omega); rwa [List.getD_cons_succ] at this) h
set_option maxHeartbeats 1600000 in
set_option maxRecDepth 100000 in
theorem redo_calls (w : World) (T : Value) (B : Option Addr) (cB : Nat) (ds : List (Int × Int)) (fr page : Int) (b : ByteArray) (C : Option Addr) (c : Nat) (rs : List Rc) (hT : ∃ A n c, T = .slice A n c) (hD : kdD.C w B ds.length ds) (hC : kdRc.C w C rs.length rs) (hr : ∀ r ∈ rs, RcAt w r) (hl : rs.length < 900000) (hd : ds.length < 900000) (hb : b.size = 256) (hw : ∀ d ∈ ds, d.2 ≤ 9223372036854775807) :
    Calls Tryz.prog 17 #[.agg #[T, .slice B ds.length cB, .int .i64 fr], .int .i64 page, .string b, .slice C rs.length c] w fun e w' => e = .returned (.tuple #[.string (ansO (redoA ds page b rs)).1, .bool (ansO (redoA ds page b rs)).2]) ∧ Eff0 w w' := by
  obtain ⟨TA, Tn, Tc, rfl⟩ := hT
  have p1 : ((b.size : Int) == 256) = true := beq_iff_eq.2 (by omega)
  have p2 : ((b.size : Int) != 256) = false := bne_eq_false_iff_eq.2 (by omega)
  have H := Aside0.mk (And.intro hD (And.intro hC (And.intro hr (And.intro hl (And.intro hd (And.intro hb hw))))))
  clear hD hC hr hl hd hb hw
  go_enter Tryz.func17, Tryz.ntmps17
  go_wp2_with fail
  go_loopg [2, 22] ds.length (fun k s2 s22 wr => ∃ (i : Nat), s2 = .string b ∧ s22 = .int .i64 i ∧ i + k = ds.length ∧ Aside0 (Eff0 w wr ∧ ∀ j, j < i → (ds.getD j default).1 ≠ page))
  case atStart => exact ⟨0, rfl, rfl, by omega, Aside0.mk ⟨(Eff.refl _ _).alloc _, fun j h => absurd h (Nat.not_lt_zero _)⟩⟩
  case round =>
    obtain ⟨i, rfl, rfl, hik, A1⟩ := hrel
    by_cases hi : i < ds.length
    · have p3 : ((i : Int) < (ds.length : Int)) = True := eq_true (by omega)
      have p4 : (0 : Int) ≤ (i : Int) := by omega
      have hii : i < 900000 := by have := H.out.2.2.2.2.1; omega
      obtain ⟨ad, rfl, u0, uj⟩ := kdOf_at (Kd.C_below H.out.1 A1.out.1.below0) i hi
      have x0 := u0 _ rfl
      have x1 := uj 1 (by omega) _ rfl
      have hdm : (ds.getD i default).2 ≤ 9223372036854775807 := H.out.2.2.2.2.2.2 _ (by rw [List.getD_eq_getElem?_getD, List.getElem?_eq_getElem hi]; exact List.getElem_mem hi)
      have hfs := fun h => find_some ds page i hi A1.out.2 h
      generalize hdd : ds.getD i default = d at *
      obtain ⟨d1, d2⟩ := d
      dsimp only at x0 x1 hdm hfs
      have HI := Aside0.mk (And.intro hi (And.intro hik hdd))
      clear u0 uj hi hik hdd
      by_cases hp : d1 = page
      · have q1 : (d1 == page) = true := beq_iff_eq.2 hp
        have q2 : (d1 != page) = false := bne_eq_false_iff_eq.2 hp
        have hf := hfs hp
        have HF := Aside0.mk hf
        clear hf hfs hp
        have hn : max d2 1 - 1 = (((d2 - 1).toNat : Nat) : Int) := by omega
        have hn63 : ((d2 - 1).toNat : Int) < 9223372036854775807 := by omega
        obtain ⟨n, hnn⟩ : ∃ n : Nat, n = (d2 - 1).toNat := ⟨_, rfl⟩
        rw [← hnn] at hn hn63
        have hA : redoA ds page b rs = redoL page b (ptsOf (rs.drop n)) := by unfold redoA; rw [HF.out, hnn]
        have HA := Aside0.mk hA
        clear hA hnn
        go_wp2_with fail
        obtain ⟨g0, rfl⟩ : ∃ g0 : Nat, g0 = gk := ⟨_, rfl⟩
        obtain ⟨w0, rfl⟩ : ∃ w0 : World, w0 = wr := ⟨_, rfl⟩
        clear x0 x1
        go_loopg [2, 12] (rs.length - n) (fun k s2 s12 wr => ∃ (i' : Nat) (b' : ByteArray), s2 = .string b' ∧ s12 = .int .i64 (i' : Int) ∧ n ≤ i' ∧ k = rs.length - i' ∧ Aside0 (Eff0 w wr ∧ b'.size = 256 ∧ (i' ≤ rs.length ∨ i' = n) ∧ redoL page b (ptsOf (rs.drop n)) = redoL page b' (ptsOf (rs.drop i'))))
        case atStart => exact ⟨n, b, rfl, by rw [← hn], Nat.le_refl _, rfl, Aside0.mk ⟨A1.out.1.alloc _, H.out.2.2.2.2.2.1, .inr rfl, rfl⟩⟩
        case round =>
          obtain ⟨i', b', rfl, rfl, hni, hk, A2⟩ := hrel
          have hi63 : ((i' : Int) < 9223372036854775807) := by
            rcases A2.out.2.2.1 with h | h
            · have := H.out.2.2.2.1; omega
            · omega
          by_cases hi' : i' < rs.length
          · have r1 : ((i' : Int) < (rs.length : Int)) = True := eq_true (by omega)
            have r2 : (0 : Int) ≤ (i' : Int) := by omega
            have hi9 : i' < 900000 := by have := H.out.2.2.2.1; omega
            obtain ⟨ad2, rfl, u0, uj⟩ := kdOf_at (Kd.C_below H.out.2.1 A2.out.1.below0) i' hi'
            have x11 := uj 11 (by omega) _ rfl
            have hrc := (H.out.2.2.1 (rs.getD i' default) (by rw [List.getD_eq_getElem?_getD, List.getElem?_eq_getElem hi']; exact List.getElem_mem hi')).keep A2.out.1.below0
            have hpd := pts_drop rs i' hi'
            generalize rs.getD i' default = r at *
            have HR := Aside0.mk (And.intro hrc.p (And.intro hrc.pl (And.intro hpd (And.intro hi' (And.intro hni hk)))))
            have hpl9 := hrc.pl
            clear u0 uj hrc hpd hi' hni hk
            go_wp2_with fail
            obtain ⟨g1, rfl⟩ : ∃ g1 : Nat, g1 = gk := ⟨_, rfl⟩
            obtain ⟨w1, rfl⟩ : ∃ w1 : World, w1 = wr := ⟨_, rfl⟩
            clear x11
            go_loopg [2, 46] r.ps.length (fun k s2 s46 wr => ∃ (j : Nat) (b2 : ByteArray), s2 = .string b2 ∧ s46 = .int .i64 (j : Int) ∧ j + k = r.ps.length ∧ Aside0 (Eff0 w1 wr ∧ b2.size = 256 ∧ redoL page b' (ptsOf (rs.drop i')) = redoL page b2 (r.ps.drop j ++ ptsOf (rs.drop (i' + 1)))))
            case atStart => exact ⟨0, b', rfl, rfl, by omega, Aside0.mk ⟨Eff.refl _ _, A2.out.2.1, by rw [HR.out.2.2.1]; rfl⟩⟩
            case round =>
              obtain ⟨j, b2, rfl, rfl, hjk, A3⟩ := hrel
              by_cases hj : j < r.ps.length
              · have s1 : ((j : Int) < (r.ps.length : Int)) = True := eq_true (by omega)
                have s2 : (0 : Int) ≤ (j : Int) := by omega
                have hj9 : j < 900000 := by omega
                obtain ⟨ad3, ea3, u0, uj⟩ := kdOf_at (Kd.C_below HR.out.1 A3.out.1.below0) j hj
                have x0 := u0 _ rfl
                have x1 := uj 1 (by omega) _ rfl
                have x2 := uj 2 (by omega) _ rfl
                have hst := redoL_step page b2 r.ps (ptsOf (rs.drop (i' + 1))) j hj
                generalize r.ps.getD j default = pt at *
                have HJ := Aside0.mk (And.intro hj hjk)
                have hpA := ea3
                clear u0 uj hj hjk ea3
                generalize r.pA = rpA at *
                subst hpA
                by_cases hpp : pt.1 = page
                · have q3 : (pt.1 == page) = true := beq_iff_eq.2 hpp
                  have q4 : (pt.1 != page) = false := bne_eq_false_iff_eq.2 hpp
                  rw [if_pos hpp] at hst
                  by_cases hri : rightP pt
                  · rw [if_pos hri] at hst
                    have CA := fun W => apply_calls b2 pt A3.out.2.1 hri W
                    have HS := Aside0.mk (And.intro hst (layP_size A3.out.2.1 hri))
                    clear hst hri hpp
                    go_wp2_with fail
                    refine (CA _).mono ?_
                    rintro e' w4 ⟨rfl, e4⟩
                    have HE4 := Aside0.mk ((A3.out.1.alloc (.cells #[.int .i64 pt.1, .int .i64 pt.2.1, .string pt.2.2] 77)).then0 e4)
                    clear CA e4
                    go_wp2_with fail
                    go_roundg (gk - 1)
                    case measure => have := HJ.out; omega
                    case rel => exact ⟨j + 1, _, rfl, by simp, by have := HJ.out; omega, Aside0.mk ⟨HE4.out, HS.out.2, by rw [A3.out.2.2, HS.out.1]⟩⟩
                  · rw [if_neg hri] at hst
                    have CA := fun W => applyNo_calls b2 pt hri W
                    have HS := Aside0.mk hst
                    clear hst hri hpp
                    go_wp2_with fail
                    refine (CA _).mono ?_
                    rintro e' w4 ⟨rfl, e4⟩
                    have HE4 := Aside0.mk (A2.out.1.then0 ((A3.out.1.alloc (.cells #[.int .i64 pt.1, .int .i64 pt.2.1, .string pt.2.2] 77)).then0 e4))
                    clear CA e4
                    go_wp2_with fail
                    go_ret2
                    exact ⟨by rw [HA.out, A2.out.2.2.2, A3.out.2.2, HS.out]; rfl, HE4.out⟩
                · have q3 : (pt.1 == page) = false := beq_eq_false_iff_ne.2 hpp
                  have q4 : (pt.1 != page) = true := bne_iff_ne.2 hpp
                  rw [if_neg hpp] at hst
                  have HS := Aside0.mk hst
                  clear hst hpp
                  go_wp2_with fail
                  go_roundg (gk - 1)
                  case measure => have := HJ.out; omega
                  case rel => exact ⟨j + 1, b2, rfl, by simp, by have := HJ.out; omega, Aside0.mk ⟨A3.out.1.alloc _, A3.out.2.1, by rw [A3.out.2.2, HS.out]⟩⟩
              · have s1 : ((j : Int) < (r.ps.length : Int)) = False := eq_false (by omega)
                have hjl : j = r.ps.length := by omega
                have HN := Aside0.mk hjl
                clear hj hjk hjl
                go_wp2_with fail
                go_roundg (g1 - 1)
                case measure => have := HR.out.2.2.2; omega
                case rel =>
                  refine ⟨i' + 1, b2, rfl, by simp, by have := HR.out.2.2.2; omega, by have := HR.out.2.2.2; omega, Aside0.mk ⟨A2.out.1.then0 A3.out.1, A3.out.2.1, .inl (by have := HR.out.2.2.2; omega), ?_⟩⟩
                  rw [A2.out.2.2.2, A3.out.2.2, HN.out, List.drop_length, List.nil_append]
          · have r1 : ((i' : Int) < (rs.length : Int)) = False := eq_false (by omega)
            have he := pts_end rs i' (by omega)
            have HE := Aside0.mk he
            clear he hi' hni hk
            go_wp2_with fail
            go_ret2
            exact ⟨by rw [HA.out, A2.out.2.2.2, HE.out]; rfl, A2.out.1⟩
      · have q1 : (d1 == page) = false := beq_eq_false_iff_ne.2 hp
        have q2 : (d1 != page) = true := bne_iff_ne.2 hp
        have HP := Aside0.mk hp
        clear hp hfs
        go_wp2_with fail
        go_roundg (gk - 1)
        case measure => have := HI.out; omega
        case rel =>
          refine ⟨i + 1, rfl, by simp, by have := HI.out; omega, Aside0.mk ⟨A1.out.1.alloc _, fun j hj => ?_⟩⟩
          rcases Nat.lt_or_ge j i with h | h
          · exact A1.out.2 j h
          · obtain rfl : j = i := by omega
            rw [HI.out.2.2]
            exact HP.out
    · have p3 : ((i : Int) < (ds.length : Int)) = False := eq_false (by omega)
      obtain rfl : i = ds.length := by omega
      have hf := find_none ds page A1.out.2
      have hA : redoA ds page b rs = some b := by unfold redoA; rw [hf]
      have HA := Aside0.mk hA
      clear hi hik hf hA
      go_wp2_with fail
      go_ret2
      exact ⟨by rw [HA.out]; rfl, A1.out.1⟩
end Go.Proofs.YtiagbkpggeglgaaGreat.RS
