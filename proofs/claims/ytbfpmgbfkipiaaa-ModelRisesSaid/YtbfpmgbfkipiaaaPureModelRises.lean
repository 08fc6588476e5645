/- A map is told by its keys, rising, each once (ModelRises). Conditions: none beyond the given row's own. -/
import Derived.Sort.Walk0
import Derived.Laws.Cover1
import Derived.Test.YtbfpmgbfkipiaaaMx
import Derived.Test.YtbfpmgbfkipiaaaMOwn
namespace Go.Proofs.Ytbfpmgbfkipiaaa.Pure
open Go Go.RowKit Go.Proofs.YtbfpmgbfkipiaaaW.PrintWords Go.Proofs.YtbfpmgbfkipiaaaW.PrintLast Go.Proofs.YtbfpmgbfkipiaaaW.PrintMore Go.Proofs.Ytbfpmgbfkipiaaa.L Go.Proofs.Ytbfpmgbfkipiaaa.M Go.Proofs.Ytbfpmgbfkipiaaa.MD
set_option linter.unusedVariables false
set_option linter.unusedSimpArgs false
theorem over_seen (L : List Wr) (k v : ByteArray) (h : (k, v) ∈ overL [] L) : seenR (MD.lastW L k) (lookM [] k) = (v, true) := by
  have hr := rises_overL List.Pairwise.nil L
  have h1 := (lookM_some hr.nodup).2 h
  rw [look_over List.Pairwise.nil] at h1
  cases hl : MD.lastW L k with
  | none => rw [hl] at h1; cases h1
  | some q =>
    rw [hl] at h1
    dsimp only at h1
    unfold seenR
    dsimp only
    cases hq : q.gone with
    | true => rw [hq, if_pos rfl] at h1; cases h1
    | false =>
      rw [hq, if_neg (by simp)] at h1
      injection h1 with h1
      rw [h1]
      rfl
theorem del_some (m1 m2 b : Nat) (L : List Wr) (key : ByteArray) : ∃ r L', delR (sB m1 m2 b [] L) 1 key = (r, sB m1 m2 b [] L') ∧ L'.length ≤ L.length + 1 := by
  cases h : (seenR (MD.lastW L key) (lookM [] key)).2 with
  | true => exact ⟨true, _, delB m1 m2 b [] L key h, by simp⟩
  | false => exact ⟨false, _, delB_no m1 m2 b [] L key h, by omega⟩
set_option maxHeartbeats 1600000 in
set_option maxRecDepth 100000 in
theorem rises_long (A : Option Addr) (c n : Nat) (w : World) (h : 80 < (n : Int)) :
    Calls Try.prog 4 #[.slice A n c] w fun e w' => e = .returned (.bool true) ∧ Below w.heap.size w w' := by
  have CA := fun W => alive_calls W
  go_enter Try.func4, Try.ntmps4
  go_wp2_with (go_at_call 8; refine (CA _).mono ?_; rintro e w1 ⟨rfl, e1⟩)
  go_ret
  exact ⟨rfl, e1.below0⟩
set_option maxHeartbeats 1600000 in
set_option maxRecDepth 100000 in
theorem ModelRises_walk (A : Option Addr) (c : Nat) (l : List S39) (w : World) (t0 : l.length ≤ maxLen ∧ ∀ a_ ∈ l, ((Lit.int .i64 a_.f0).wf = true ∧ (Lit.int .i64 a_.f1).wf = true ∧ (Lit.int .i64 a_.f2).wf = true ∧ a_.f3.size ≤ maxLen ∧ a_.f4.size ≤ maxLen)) (y0 : l.length * 56 ≤ 140737488351232) (hr : Kd.C k39 w A l.length l) (hc : l.length ≤ c) :
    Calls Try.prog 4 #[.slice A l.length c] w fun e w' => e = .returned (.bool true) ∧ Below w.heap.size w w' := by
  by_cases hs : 80 < (l.length : Int)
  · exact rises_long A c l.length w hs
  have CA := fun W => alive_calls W
  have HC := Aside0.mk hr
  clear hr t0
  go_enter Try.func4, Try.ntmps4
  go_wp2_with (go_at_call 8; refine (CA _).mono ?_; rintro e w1 ⟨rfl, e1⟩; have H0 := Aside0.mk (own_made ((Own.start w).after e1)))
  refine (o_begin0 H0.out 1).mono ?_
  rintro e w2 ⟨rfl, m1, m2, b, H1⟩
  go_wp2_with fail
  generalize hb0 : w1.heap.size = b0 at *
  go_loopg [26] l.length (fun k s26 wr => ∃ (i : Nat) (L : List Wr), s26 = .int .i64 i ∧ i + k = l.length ∧ L.length ≤ i ∧ Aside0 (Own w wr (ModAt b0 (sB m1 m2 b [] L))))
  case atStart => exact ⟨0, [], rfl, by omega, Nat.le_refl _, H1⟩
  case round =>
    obtain ⟨i, L, rfl, hik, hL, A1⟩ := hrel
    by_cases hi : i < l.length
    · have p1 : ((i : Int) < (l.length : Int)) = True := eq_true (by omega)
      obtain ⟨ad, ea, x0, x1, x2, x3, x4⟩ := at_T39 (Kd.C_below HC.out A1.out.below) (i : Int) (by omega) (by omega)
      subst ea
      generalize rd_T39 l (i : Int) = o at *
      obtain ⟨ok, otx, on, okey, oval⟩ := o
      rw [Int.toNat_natCast] at x0 x1 x2 x3 x4
      dsimp only at x0 x1 x2 x3 x4
      by_cases hz : 200 < wrap64 ((okey.size : Int) + (oval.size : Int))
      · have z1 := eq_true hz
        clear hz
        go_wp2
        go_ret
        exact ⟨rfl, (A1.out.alloc _).below⟩
      have z1 := eq_false hz
      clear hz
      have HB : ∀ o : Obj, Own w (wr.alloc o) (ModAt b0 (sB m1 m2 b [] L)) := fun o => A1.out.alloc o
      go_upto_if 40 with (fail)
      go_cut [] (fun wx => ∃ L' : List Wr, L'.length ≤ i + 1 ∧ Aside0 (Own w wx (ModAt b0 (sB m1 m2 b [] L'))))
      case first =>
        by_cases hk : ok = 4
        · subst hk
          obtain ⟨r, L', hd, hl'⟩ := del_some m1 m2 b L okey
          go_wp2_with fail
          refine (o_del (HB _) 1 okey (small1 _ (by omega)) hd).mono ?_
          rintro e w3 ⟨rfl, H3⟩
          go_wp2_with fail
          go_meet
          case rel => exact ⟨L', by omega, H3⟩
        · have k1 : (ok == 4) = false := beq_eq_false_iff_ne.mpr hk
          have k2 : (ok = 4) = False := eq_false hk
          clear hk
          go_wp2_with fail
          refine (o_put (HB _) 1 okey oval rfl (by show L.length < 900000; omega) (s' := sB m1 m2 b [] (L ++ [⟨okey, oval, false⟩])) rfl).mono ?_
          rintro e w3 ⟨rfl, H3⟩
          go_wp2_with fail
          go_meet
          case rel => exact ⟨L ++ [⟨okey, oval, false⟩], by simp; omega, H3⟩
      case rest =>
        obtain ⟨L', hL', H3⟩ := hcut
        clear x0 x1 x2 x3 x4 z1 HB A1 hL
        go_wp2_with fail
        refine (o_with H3.out 1 rfl List.Pairwise.nil (x := ⟨L', []⟩) rfl (by show 0 < 400000; decide) (by show L'.length < 400000; omega) (m' := overL [] L') rfl rfl).mono ?_
        rintro e w4 ⟨A4, c4, rfl, H4⟩
        have hin := Aside0.mk (fun k v => over_seen L' k v)
        have hri := Aside0.mk (rises_overL List.Pairwise.nil L')
        have hle := len_over [] L'
        generalize overL [] L' = E at *
        rw [List.length_nil] at hle
        go_wp2_with fail
        go_loopg [7] E.length (fun k s7 wx => ∃ j : Nat, s7 = .int .i64 j ∧ 1 ≤ j ∧ j + k = E.length + 1 ∧ Aside0 (Eff0 w4 wx))
        case atStart => exact ⟨1, rfl, Nat.le_refl _, by omega, Aside0.mk (Eff.refl _ _)⟩
        case round =>
          obtain ⟨j, rfl, hj1, hjk, E5⟩ := hrel
          by_cases hj : j < E.length
          · have p2 : ((j : Int) < (E.length : Int)) = True := eq_true (by omega)
            obtain ⟨q, rfl⟩ : ∃ q, j = q + 1 := ⟨j - 1, by omega⟩
            have hCE := Kd.C_below H4.out.2.c E5.out.below0
            obtain ⟨ad5, ea5, y0', y1⟩ := at_E hCE q (by omega)
            obtain ⟨ad6, ea6, v0, v1⟩ := at_E hCE (q + 1) hj
            subst ea5
            injection ea6 with ea6
            subst ea6
            have hlt : bl (E.getD q default).1 < bl (E.getD (q + 1) default).1 := by
              have := (List.pairwise_iff_getElem.1 hri.out) q (q + 1) (by omega) hj (by omega)
              simpa [List.getD, hj, (show q < E.length by omega)] using this
            generalize E.getD q default = e0 at *
            generalize E.getD (q + 1) default = e6 at *
            have hw : IntKind.i64.wrap (((q + 1 : Nat) : Int) - 1) = (q : Int) := by rw [IntKind.wrap_i64]; omega
            have hw2 : ((q + 1 : Nat) : Int) - 1 = (q : Int) := by omega
            have hw3 : IntKind.i64.wrap (q : Int) = (q : Int) := by rw [IntKind.wrap_i64]; omega
            have hL0 : Op.bytesLess e0.1.toList e6.1.toList = true := by rw [bytesLess_eq, Lib.toList_data, Lib.toList_data]; exact decide_eq_true hlt
            have p3 : ((q : Int) < (E.length : Int)) = True := eq_true (by omega)
            clear hCE
            go_wp2_with fail
            go_region
            all_goals go_wp2_with fail
            all_goals go_roundg (gk - 1)
            all_goals first
              | (case measure => omega)
              | (case rel => exact ⟨q + 1 + 1, by simp, by omega, by omega, Aside0.mk (by first | exact E5.out | exact E5.out.drew | exact E5.out.drewN _)⟩)
          · have p2 : ((j : Int) < (E.length : Int)) = False := eq_false (by omega)
            go_wp2_with fail
            go_loopg [73] E.length (fun k s73 wx => ∃ j : Nat, s73 = .int .i64 j ∧ j + k = E.length ∧ Aside0 (Eff0 w4 wx))
            case atStart => exact ⟨0, rfl, by omega, E5⟩
            case round =>
              obtain ⟨j, rfl, hjk, E6⟩ := hrel
              by_cases hj : j < E.length
              · have p2 : ((j : Int) < (E.length : Int)) = True := eq_true (by omega)
                have hCE := Kd.C_below H4.out.2.c E6.out.below0
                obtain ⟨ad5, ea5, y0', y1⟩ := at_E hCE j hj
                subst ea5
                have hmem := Aside0.mk (hin.out (E.getD j default).1 (E.getD j default).2 (by simp only [List.getD, List.getElem?_eq_getElem hj]; exact List.getElem_mem hj))
                generalize E.getD j default = e0 at *
                obtain ⟨ek, ev⟩ := e0
                dsimp only at y0' y1 hmem
                have q0 : (ev.toList == ev.toList) = true := beq_self_eq_true _
                clear hCE
                go_wp2_with fail
                refine (o_get ((H4.out.1.after E6.out).alloc _) 1 ek (small1 _ (by omega)) (r1 := ev) (r2 := true) (by rw [getB]; exact hmem.out)).mono ?_
                rintro e w7 ⟨rfl, H7⟩
                obtain ⟨hc7, hf7⟩ : (∀ b o, b < (wr.alloc (.cells #[.string ek, .string ev] 35)).heap.size → w7.cell? ⟨b, o, none⟩ = (wr.alloc (.cells #[.string ek, .string ev] 35)).cell? ⟨b, o, none⟩) ∧ True := ⟨fun b o h => H7.out.2.below0.cell (p := ⟨b, o, none⟩) h, trivial⟩
                go_wp2_with fail
                go_roundg (gk - 1)
                case measure => omega
                case rel => exact ⟨j + 1, by simp, by omega, Aside0.mk ((E6.out.alloc _).then0 H7.out.2)⟩
              · have p2 : ((j : Int) < (E.length : Int)) = False := eq_false (by omega)
                go_wp2_with fail
                go_roundg (l.length - (i + 1))
                case measure => omega
                case rel => exact ⟨i + 1, L', by simp, by omega, hL', Aside0.mk (H4.out.1.after E6.out)⟩
    · have p1 : ((i : Int) < (l.length : Int)) = False := eq_false (by omega)
      go_wp2_with fail
      refine (o_dump A1.out rfl List.Pairwise.nil (by show 0 < 900000; decide) (m' := []) rfl (n := 0) rfl).mono ?_
      rintro e w3 ⟨A3, c3, rfl, H3⟩
      go_wp2_with fail
      go_ret
      exact ⟨rfl, H3.out.1.below⟩
end Go.Proofs.Ytbfpmgbfkipiaaa.Pure
