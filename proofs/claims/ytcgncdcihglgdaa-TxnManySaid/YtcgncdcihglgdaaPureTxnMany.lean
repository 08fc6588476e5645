/- As many transactions as may be; numbers never come twice; each has its own updates (TxnMany). Conditions: none beyond the given row's own. -/
import Derived.Test.YtcgncdcihglgdaaTMany1
import Derived.Test.YtcgncdcihglgdaaTAlive
import Derived.Deep.RegionHeld3
import Derived.Test.YtcgncdcihglgdaaMx
namespace Go.Proofs.Ytcgncdcihglgdaa.Pure
open Go Go.RowKit Go.Proofs.YtcgncdcihglgdaaW.PrintWords Go.Proofs.YtcgncdcihglgdaaW.PrintLast Go.Proofs.YtcgncdcihglgdaaW.PrintMore Go.Proofs.Ytcgncdcihglgdaa.L Go.Proofs.Ytcgncdcihglgdaa.M Go.Proofs.Ytcgncdcihglgdaa.T
set_option linter.unusedVariables false
set_option linter.unusedSimpArgs false
theorem cutFrom (A : Option Addr) (n c : Nat) (j : Int) (h0 : 0 ≤ j) (hm : j ≤ n) : ∀ W : World, (Instr.slice 22 (.slice A n c) (some (.int .i64 j)) none none).run Try.prog W = .ok (.slice (if c = j.toNat then A else A.map (·.add (j.toNat * 1))) (n - j.toNat) (c - j.toNat)) W := by
  obtain ⟨i, hi, hs⟩ := Option.map_eq_some_iff.1 infoI
  exact cut_from 22 3 .i64 Try.underlying22 hi 1 (by injection hs with _ hs; injection hs) A n c j h0 hm
theorem cutTo (A : Option Addr) (n c : Nat) (j : Int) (h0 : 0 ≤ j) (hm : j ≤ n) (hc : n ≤ c) : ∀ W : World, (Instr.slice 22 (.slice A n c) none (some (.int .i64 j)) none).run Try.prog W = .ok (.slice A j.toNat c) W := by
  obtain ⟨i, hi, hs⟩ := Option.map_eq_some_iff.1 infoI
  exact cut_to 22 3 .i64 Try.underlying22 hi A n c j h0 hm hc
theorem idx_in (x : Int) (m : Nat) (hm : 1 ≤ m) (hm2 : m < 900000) : ∃ j : Nat, (wrap64 ((x / 2).tmod (m : Int) + (m : Int))).tmod (m : Int) = (j : Int) ∧ j < m := by
  have h1 : (x / 2).tmod (m : Int) < (m : Int) := Int.tmod_lt_of_pos _ (by omega)
  have h2 : -(m : Int) < (x / 2).tmod (m : Int) := Int.lt_tmod_of_pos _ (by omega)
  generalize (x / 2).tmod (m : Int) = t at *
  rw [show wrap64 (t + (m : Int)) = t + m by unfold wrap64; omega, Int.tmod_eq_emod_of_nonneg (by omega)]
  have h3 := Int.emod_nonneg (t + (m : Int)) (b := (m : Int)) (by omega)
  have h4 := Int.emod_lt_of_pos (t + (m : Int)) (b := (m : Int)) (by omega)
  generalize (t + (m : Int)) % (m : Int) = r at *
  exact ⟨r.toNat, by omega, by omega⟩
set_option maxHeartbeats 1600000 in
set_option maxRecDepth 100000 in
theorem TxnMany_walk (A : Option Addr) (c : Nat) (l : List Int) (w : World) (h0 : (l.length ≤ maxLen ∧ ∀ a_ ∈ l, (Lit.int .i64 a_).wf = true)) (h1 : l.length * 8 ≤ 140737488351232) (hr : Kd.C (Kd.int .i64) w A l.length l) (hc : l.length ≤ c) :
    Calls Try.prog 6 #[.slice A l.length c] w fun e w' => e = .returned (.bool true) ∧ Below w.heap.size w w' := by
  by_cases hs : 60 < l.length
  · have p1 : ((l.length : Int) > 60) = True := eq_true (by omega)
    clear h0 h1
    go_enter Try.func6, Try.ntmps6
    go_wp2_with (go_at_call 7; refine (alive_calls _).mono ?_; rintro e w1 ⟨rfl, e1⟩)
    go_ret
    exact ⟨rfl, e1.below⟩
  have p1 : ((l.length : Int) > 60) = False := eq_false (by omega)
  have B : l.length ≤ 60 := by omega
  have H := Aside0.mk (And.intro hr (And.intro hc B))
  clear h0 h1 hr hc hs
  go_enter Try.func6, Try.ntmps6
  go_wp2_with (first
    | (go_at_call 7; refine (alive_calls _).mono ?_; rintro e w1 ⟨rfl, e1⟩; have N0 := T0.made e1; clear e1))
  generalize w1.heap.size = tb at N0 ⊢
  have NR : Own w _ (Sep (TabAt tb T0) (RowAt (Kd.int .i64) 3 (.slice none 0 0) [])) := N0.nilRow _ _
  clear N0
  go_loopg [4, 5, 27] l.length (fun gk s4 s5 s27 wr => ∃ (i : Nat) (e : Nat) (L : List Int) (s : Tab), s27 = .int .i64 i ∧ s5 = .int .i64 (e : Int) ∧ i + gk = l.length ∧ e ≤ i ∧ L.length ≤ 8 ∧ Aside0 (MS s L e 0 0) ∧ Own w wr (Sep (TabAt tb s) (RowAt (Kd.int .i64) 3 s4 L)))
  case atStart => exact ⟨0, 0, [], T0, rfl, rfl, by omega, by omega, by simp, Aside0.mk MS.start, NR⟩
  case round =>
    clear NR
    obtain ⟨i, e, L, s, rfl, rfl, hik, hei, hL, HS, N1⟩ := hrel
    by_cases hz : i < l.length
    · have p4 : ((i : Int) < (l.length : Int)) = True := eq_true (by omega)
      have B3 : i < 60 := by omega
      obtain ⟨ad, ea, x0⟩ := Kd.at_int (Kd.C_below H.out.1 N1.below) (i : Int) (by omega) (by omega)
      subst ea
      obtain ⟨x, hxx⟩ : ∃ x, x = rd l (i : Int) := ⟨_, rfl⟩
      rw [← hxx, Int.toNat_natCast] at x0
      clear hxx
      obtain ⟨A4, c4, rfl, hc4, hC4⟩ := Own.row (Own.right N1)
      have CB : Calls Try.prog 8 #[.pointer (some ⟨tb, 0, none⟩)] wr fun x w' => ∃ n er : Int, x = .returned (.tuple #[.int .i64 n, .int .i64 er]) ∧ Aside0 ((L.length = 8 ∧ n = 0 ∧ er = 8 ∧ Own w w' (Sep (TabAt tb s) (RowAt (Kd.int .i64) 3 (.slice A4 L.length c4) L))) ∨ (L.length < 8 ∧ n = (e : Int) + 1 ∧ er = 0 ∧ ∃ s', MS s' (L ++ [(e : Int) + 1]) ((e : Int) + 1) ((e : Int) + 1) 0 ∧ Own w w' (Sep (TabAt tb s') (RowAt (Kd.int .i64) 3 (.slice A4 L.length c4) L)))) := by
        by_cases h8 : L.length = 8
        · refine (m_full N1 HS.out h8).mono ?_
          rintro x w' ⟨rfl, o⟩
          exact ⟨0, 8, rfl, Aside0.mk (.inl ⟨h8, rfl, rfl, o⟩)⟩
        · refine (m_begin N1 HS.out (by omega) (by omega) (by omega)).mono ?_
          rintro x w' ⟨rfl, s', hs', o⟩
          exact ⟨_, 0, rfl, Aside0.mk (.inr ⟨by omega, rfl, rfl, s', hs'.out, o⟩)⟩
      clear N1 hC4
      have HI := Aside0.mk (And.intro hik (And.intro hei (And.intro hL (And.intro hz hc4))))
      have hei6 : e < 60 := by omega
      have hL9 : L.length < 9 := by omega
      clear hik hei hL hz hc4
      go_upto_if 38 with (go_at_call 8; refine CB.mono ?_; rintro e w2 ⟨n, er, rfl, HB⟩; clear CB)
      go_cut [4, 5] (fun v4 v5 wx => ∃ (A9 : Option Addr) (c9 e9 : Nat) (L9 : List Int) (s9 : Tab), v4 = .slice A9 L9.length c9 ∧ v5 = .int .i64 (e9 : Int) ∧ e9 ≤ i + 1 ∧ Aside0 (L9.length ≤ 8 ∧ 1 ≤ L9.length ∧ 1 ≤ e9 ∧ MS s9 L9 e9 0 0 ∧ Own w wx (Sep (TabAt tb s9) (RowAt (Kd.int .i64) 3 (.slice A9 L9.length c9) L9))))
      case first =>
        rcases HB.out with ⟨h8, rfl, rfl, o⟩ | ⟨h8, rfl, rfl, s', hs', o⟩
        · have q1 : ((L.length : Int) == 8) = true := beq_iff_eq.2 (by omega)
          have he1 : 1 ≤ e := by
            have h1 := HS.out.bnd (L[0]'(by omega)) (List.getElem_mem _)
            omega
          have HO := Aside0.mk (And.intro o (And.intro h8 he1))
          clear h8 o he1 HB
          go_wp2
          go_meet
          case rel => exact ⟨A4, c4, e, L, s, rfl, rfl, by have := HI.out; omega, Aside0.mk ⟨by have := HO.out.2.1; omega, by have := HO.out.2.1; omega, HO.out.2.2, HS.out, HO.out.1⟩⟩
        · have q1 : ((L.length : Int) == 8) = false := beq_eq_false_iff_ne.2 (by omega)
          obtain ⟨ok, hR, hok, hN⟩ := Own.append o
          have HR := Aside0.mk (And.intro hR (And.intro hok (And.intro hN (And.intro h8 hs'))))
          clear hR hok hN h8 hs' o HB HS
          go_wp2_with (at_builtin; refine Kd.R_append (Kd.int .i64) (W := w2) (w0 := w2) 0 rfl (.tmp 50) (.tmp 52) 22 3 (.int .i64 0) 8 rfl Try.underlying22 infoI rfl (by decide) (by decide) (.slice A4 L.length c4) L ((e : Int) + 1) [.int .i64 ((e : Int) + 1)] ok (fun _ => False) rfl rfl rfl (fun _ hk => hk.elim) HR.out.2.1 HR.out.1 (Below.refl _ _) (Nat.zero_le _) (by omega) ?_; intro v1 w3 r1 b1 g1 o1; have A3 := Aside0.mk (HR.out.2.2.1 _ _ _ r1 g1); obtain ⟨A5, c5, hv5⟩ := Kd.R_slice r1; subst hv5; clear r1 b1 g1 o1)
          have HA := Aside0.mk (And.intro HR.out.2.2.2.1 (And.intro HR.out.2.2.2.2 A3.out))
          clear A3 HR
          obtain ⟨g0, rfl⟩ : ∃ g0 : Nat, g0 = gk := ⟨_, rfl⟩
          obtain ⟨w0, rfl⟩ : ∃ w0 : World, w0 = wr := ⟨_, rfl⟩
          have hmd : ((e : Int) + 1).tmod 3 = (((e + 1) % 3 : Nat) : Int) := by rw [Int.tmod_eq_emod_of_nonneg (by omega)]; omega
          have hmd3 : (e + 1) % 3 < 3 := by omega
          obtain ⟨q, hq⟩ : ∃ q, q = (e + 1) % 3 := ⟨_, rfl⟩
          rw [← hq] at hmd hmd3
          have HQ := Aside0.mk hq
          clear hq
          go_loopg [10] q (fun gk s10 wx => ∃ (k : Nat) (s1 : Tab), s10 = .int .i64 k ∧ k + gk = q ∧ Aside0 (MS s1 (L ++ [(e : Int) + 1]) ((e : Int) + 1) ((e : Int) + 1) k) ∧ Own w wx (Sep (TabAt tb s1) (RowAt (Kd.int .i64) 3 (.slice A5 (L ++ [(e : Int) + 1]).length c5) (L ++ [(e : Int) + 1]))))
          case atStart => exact ⟨0, s', rfl, by omega, Aside0.mk HA.out.2.1, HA.out.2.2⟩
          case round =>
            obtain ⟨k, s1, rfl, hk, HS1, N1⟩ := hrel
            by_cases hkq : k < q
            · have q2 : ((k : Int) < (q : Int)) = True := eq_true (by omega)
              have hk3 : k < 3 := by omega
              have HK := Aside0.mk (And.intro hkq hk)
              clear hkq hk
              have CU := fun (W : World) (o : Own w W (Sep (TabAt tb s1) (RowAt (Kd.int .i64) 3 (.slice A5 (L ++ [(e : Int) + 1]).length c5) (L ++ [(e : Int) + 1])))) (A : Option Addr) (q : List Int) (hr : Kd.C (Kd.int .i64) W A 2 q) => m_update (c := 2) o HS1.out (by simp) (by omega) hr
              go_wp2_with fail
              refine (CU _ (N1.alloc _) _ [(e : Int) + 1, (k : Int)] (litC wr [(e : Int) + 1, (k : Int)] (by simp))).mono ?_
              rintro x' w4 ⟨rfl, s2, HS2, N2⟩
              clear CU N1 HS1
              go_wp2_with fail
              go_roundg (gk - 1)
              case measure => have := HK.out; omega
              case rel => exact ⟨k + 1, s2, by simp, by have := HK.out; omega, HS2, N2⟩
            · have q2 : ((k : Int) < (q : Int)) = False := eq_false (by omega)
              obtain rfl : k = q := by omega
              have hfull : MS s1 (L ++ [(e : Int) + 1]) ((e : Int) + 1) 0 0 := by
                have h1 := HS1.out
                rw [show k = (((e : Int) + 1) % 3).toNat by have := HQ.out; omega] at h1
                exact h1.full
              have HF := Aside0.mk (And.intro hfull N1)
              clear hkq hk hfull N1 HS1
              go_wp2_with fail
              go_meet
              case rel => exact ⟨A5, c5, e + 1, L ++ [(e : Int) + 1], s1, by simp, by simp, by have := HI.out; omega, Aside0.mk ⟨by have := HA.out.1; simp; omega, by simp, by omega, by simpa using HF.out.1, HF.out.2⟩⟩
      case rest =>
        obtain ⟨A9, c9, e9, L9, s9, rfl, rfl, he9, H9⟩ := hcut
        clear HB HS x0
        go_upto_if 68 with (fail)
        go_cut [4] (fun v4 wx => ∃ (A5 : Option Addr) (c5 : Nat) (L5 : List Int) (s5 : Tab), v4 = .slice A5 L5.length c5 ∧ Aside0 (L5.length ≤ 8 ∧ MS s5 L5 e9 0 0 ∧ (∃ m, s5.mb = some m) ∧ Own w wx (Sep (TabAt tb s5) (RowAt (Kd.int .i64) 3 (.slice A5 L5.length c5) L5))))
        case first =>
          by_cases hb : bits .and .i64 x 1 = 0
          · have b1 : (bits .and .i64 x 1 == 0) = true := beq_iff_eq.2 hb
            obtain ⟨j, hj, hjm⟩ := idx_in x L9.length H9.out.2.1 (by have := H9.out.1; omega)
            have hne : (L9 = []) = False := eq_false (fun h => by have := H9.out.2.1; rw [h] at this; exact absurd this (by decide))
            have hmem : L9[j] ∈ L9 := List.getElem_mem hjm
            have hrd : rd L9 (j : Int) = L9[j] := rd_nat _ _ hjm
            have HJ := Aside0.mk (And.intro hjm hrd)
            have hcut1 := Aside0.mk (cut_one L9 H9.out.2.2.2.1.nodup j hjm)
            have hm8 := H9.out.1
            have hj8 : j < 8 := by omega
            have hrow : ∀ (s : Tab) W, Own w W (Sep (TabAt tb s) (RowAt (Kd.int .i64) 3 (.slice A9 L9.length c9) L9)) → ∃ ad, A9 = some ad ∧ W.cell? (ad.add j) = some (.int .i64 L9[j]) := fun s W o => by
              obtain ⟨A', c', ea, _, hC⟩ := Own.row (Own.right o)
              injection ea with h1 h2 h3
              subst h1
              obtain ⟨ad, h1, h2⟩ := Kd.at_int hC (j : Int) (by omega) (by omega)
              rw [HJ.out.2, Int.toNat_natCast] at h2
              exact ⟨ad, h1, h2⟩
            obtain ⟨ad9, ea9, y0⟩ := hrow _ _ H9.out.2.2.2.2
            subst ea9
            have CE := m_end H9.out.2.2.2.2 H9.out.2.2.2.1 hmem
            obtain ⟨n1, hn1⟩ : ∃ n1, n1 = L9[j] := ⟨_, rfl⟩
            rw [← hn1] at CE y0 hcut1
            have hrow2 : ∀ (s : Tab) W, Own w W (Sep (TabAt tb s) (RowAt (Kd.int .i64) 3 (.slice (some ad9) L9.length c9) L9)) → W.cell? (ad9.add j) = some (.int .i64 n1) := fun s W o => by
              obtain ⟨ad, h1, h2⟩ := hrow s W o
              injection h1 with h1
              rw [h1, hn1]; exact h2
            have HR2 := Aside0.mk hrow2
            have HH := Aside0.mk (And.intro hjm hj8)
            clear hb hrd hmem hrow hrow2 hn1 HJ
            go_upto_region 23 with (fail)
            clear hj
            go_wp2_with fail
            refine CE.mono ?_
            rintro x' w3 ⟨rfl, s3, HS3, N3⟩
            have y1 := HR2.out _ _ N3
            clear y0 CE
            go_wp2_with fail
            refine (m_end2 N3 HS3.out.2).mono ?_
            rintro x' w4 ⟨rfl, N4⟩
            obtain ⟨A', c', ea, hlc, hC⟩ := Own.row (Own.right N4)
            injection ea with h1 h2 h3
            subst h1
            subst h3
            clear y1 N3 b1 h2
            have hcs := cutTo (some ad9) L9.length c9 (j : Int) (by omega) (by omega) hlc
            have hcf := cutFrom (some ad9) L9.length c9 ((j : Int) + 1) (by omega) (by omega)
            rw [Int.toNat_natCast] at hcs
            rw [show ((j : Int) + 1).toNat = j + 1 by omega] at hcf
            have hwj : IntKind.i64.wrap ((j : Int) + 1) = (j : Int) + 1 := by rw [IntKind.wrap_i64]; omega
            have hT1 : ∀ W, Eff0 w4 W → Kd.C (Kd.int .i64) W (some ad9) j (L9.take j) := fun W e => by
              have := Kd.C_take (m := j) (Kd.C_below hC e.below0) (by have := HH.out.1; omega)
              rwa [List.length_take, Nat.min_eq_left (by have := HH.out.1; omega)] at this
            obtain ⟨A8, hA8⟩ : ∃ A8 : Option Addr, A8 = (if c9 = j + 1 then some ad9 else Option.map (fun x => x.add ((j + 1) * 1)) (some ad9)) := ⟨_, rfl⟩
            have hT3 : ∀ W, Eff0 w4 W → Kd.C (Kd.int .i64) W A8 (L9.length - (j + 1)) (L9.drop (j + 1)) := fun W e => by
              have := Kd.C_drop (c := c9) (Kd.C_below hC e.below0) (m := j + 1) (by have := HH.out.1; omega) hlc
              rw [List.length_drop] at this
              rw [hA8]
              exact this
            rw [← hA8] at hcf
            have HT := Aside0.mk (And.intro hT1 hT3)
            have HN4 := Aside0.mk (And.intro N4 hA8)
            clear hT1 hT3 hC hlc N4 hA8
            go_upto_region 25 with (fail)
            have sb : Eff0 w4 w4.drew := (Eff.refl _ _).drew
            go_cut [4] (fun v wx => ∃ A6 c6, v = .slice A6 (L9.length - 1) c6 ∧ Aside0 (Own w wx (Sep (TabAt tb s3) (RowAt (Kd.int .i64) 3 v (L9.take j ++ L9.drop (j + 1))))))
            case first =>
              go_region_held3 (fun W' => Eff0 w4 W') (first | assumption | exact sb)
                (first
                | (refine Kd.R_append_rows_step (Kd.int .i64) (w0 := w4) w4.heap.size rfl (.const (.slice none 0 0)) (.tmp 97) 22 3 (.int .i64 0) 8 rfl Try.underlying22 infoI rfl (by decide) (by decide) (.slice none 0 0) [] (L9.take j) (some ad9) j c9 (fun _ => True) (fun _ => False) (by simp [Act.eval, Act.put]) (by simp [Act.eval, Act.put]) (Kd.R_nil _ _ _ _ _) (HT.out.1 _ (by first | exact sb | assumption)) (fun _ _ h => h) (fun _ hk => hk.elim) (fun _ _ => trivial) (Eff.below0 (by first | exact sb | assumption)) (Eff.size (by first | exact sb | assumption)) (by simp; omega) ?_; intro v1 w5 r1 b1 g1 o1; have e1 : Eff0 w4 w5 := Eff.of_below b1; have AF := Aside0.mk (And.intro r1 (And.intro b1 g1)); clear r1 b1 g1 o1)
                | (refine Kd.R_append_rows_step (Kd.int .i64) (w0 := w4) w4.heap.size rfl (.tmp 98) (.tmp 102) 22 3 (.int .i64 0) 8 rfl Try.underlying22 infoI rfl (by decide) (by decide) v1 (L9.take j) (L9.drop (j + 1)) A8 (L9.length - (j + 1)) _ (fun _ => True) (fun _ => False) (by simp [Act.eval, Act.put]) rfl AF.out.1 (HT.out.2 _ e1) (fun _ _ h => h) (fun _ hk => hk.elim) (fun _ _ => trivial) AF.out.2.1 AF.out.2.1.size (by rw [List.length_take]; omega) ?_; intro v2 w6 r1 b1 g1 o1; have e2 : Eff0 w4 w6 := Eff.of_below b1; have AK := Aside0.mk (And.intro r1 (And.intro b1 g1)); clear r1 b1 g1 o1 e1)
                | fail)
              all_goals (go_wp2_with fail; go_meet)
              all_goals
                case rel =>
                  have hlen : (L9.take j ++ L9.drop (j + 1)).length = L9.length - 1 := by
                    rw [List.length_append, List.length_take, List.length_drop]
                    have := HH.out.1
                    omega
                  obtain ⟨A6, c6, hv⟩ := Kd.R_slice AK.out.1
                  refine ⟨A6, c6, by rw [hv, hlen], Aside0.mk ?_⟩
                  exact Own.newRow HN4.out.1.left AK.out.2.1 AK.out.1
            case rest =>
              obtain ⟨A6, c6, rfl, HO⟩ := hcut
              clear hcs hcf hwj HT HN4 HR2 hne
              go_wp2_with fail
              go_meet
              case rel =>
                have hlen : (L9.take j ++ L9.drop (j + 1)).length = L9.length - 1 := by
                  rw [List.length_append, List.length_take, List.length_drop]
                  have := HH.out.1
                  omega
                have hms : MS s3 (L9.take j ++ L9.drop (j + 1)) e9 0 0 := by rw [← hcut1.out]; exact HS3.out.1
                refine ⟨A6, c6, L9.take j ++ L9.drop (j + 1), s3, by rw [hlen], Aside0.mk ⟨by rw [hlen]; omega, hms, ?_, by rw [hlen]; exact HO.out⟩⟩
                rcases hms.mb with ⟨_, h2⟩ | h2
                · have := H9.out.2.2.1; omega
                · exact h2
          · have b1 : (bits .and .i64 x 1 == 0) = false := beq_eq_false_iff_ne.2 hb
            clear hb
            go_wp2_with fail
            go_meet
            case rel =>
              refine ⟨A9, c9, L9, s9, rfl, Aside0.mk ⟨H9.out.1, H9.out.2.2.2.1, ?_, H9.out.2.2.2.2⟩⟩
              rcases H9.out.2.2.2.1.mb with ⟨_, h2⟩ | h2
              · have := H9.out.2.2.1; omega
              · exact h2
        case rest =>
          obtain ⟨A5, c5, L5, s5, rfl, H5⟩ := hcut
          clear H9
          go_wp2_with fail
          obtain ⟨g0, rfl⟩ : ∃ g0 : Nat, g0 = gk := ⟨_, rfl⟩
          obtain ⟨w0, rfl⟩ : ∃ w0 : World, w0 = wr := ⟨_, rfl⟩
          go_loopg [12, 106] L5.length (fun gk s12 s106 wr => ∃ (k : Nat), s12 = .int .i64 ((((L5.take k).map (fun n => (n % 3).toNat)).sum : Nat) : Int) ∧ s106 = .int .i64 k ∧ k + gk = L5.length ∧ Aside0 (Own w wr (Sep (TabAt tb s5) (RowAt (Kd.int .i64) 3 (.slice A5 L5.length c5) L5))))
          case atStart => exact ⟨0, rfl, rfl, by omega, Aside0.mk H5.out.2.2.2⟩
          case round =>
            obtain ⟨k, rfl, rfl, hk, N5⟩ := hrel
            by_cases hk5 : k < L5.length
            · have q2 : ((k : Int) < (L5.length : Int)) = True := eq_true (by omega)
              have q3 : (0 : Int) ≤ (k : Int) := by omega
              have hk8 : k < 8 := by have := H5.out.1; omega
              obtain ⟨A', c', ea, _, hC⟩ := Own.row (Own.right N5.out)
              injection ea with h1 h2 h3
              subst h1
              subst h3
              clear h2
              obtain ⟨ad5, ea5, y0⟩ := Kd.at_int hC (k : Int) (by omega) (by omega)
              subst ea5
              have hmem : L5[k] ∈ L5 := List.getElem_mem hk5
              rw [rd_nat _ _ hk5, Int.toNat_natCast] at y0
              have hbn := H5.out.2.1.bnd _ hmem
              have CF := m_freed N5.out H5.out.2.1 hmem
              have hsum : ((L5.take (k + 1)).map (fun n => (n % 3).toNat)).sum = ((L5.take k).map (fun n => (n % 3).toNat)).sum + (L5[k] % 3).toNat := by
                rw [List.take_succ_eq_append_getElem hk5, List.map_append, List.sum_append]
                simp
              have hss := sum_small (L5.take k)
              rw [List.length_take] at hss
              obtain ⟨t, ht⟩ : ∃ t, t = ((L5.take k).map (fun n => (n % 3).toNat)).sum := ⟨_, rfl⟩
              rw [← ht] at hsum hss ⊢
              have ht20 : t < 900 := by omega
              obtain ⟨n5, hn5⟩ : ∃ n5 : Nat, L5[k] = (n5 : Int) := ⟨(L5[k]).toNat, by omega⟩
              rw [hn5] at y0 CF hsum hbn
              obtain ⟨r, hr⟩ : ∃ r : Nat, r = n5 % 3 := ⟨_, rfl⟩
              have hr2 : ((n5 : Int) % 3).toNat = r := by omega
              have hr3 : (n5 : Int).tmod 3 = (r : Int) := by rw [Int.tmod_eq_emod_of_nonneg (by omega)]; omega
              have hr4 : r < 3 := by omega
              rw [hr2] at CF hsum
              have q4 : (((2 * r : Nat) : Int) != 2 * (r : Int)) = false := by simp
              have HK := Aside0.mk (And.intro hk5 (And.intro hk hsum))
              clear hk5 hk hsum hss ht hn5 hr hr2 hmem hbn hC
              go_wp2_with fail
              refine CF.mono ?_
              rintro x' w4 ⟨⟨A3, c3, rfl⟩, N6⟩
              have N7 := Aside0.mk N6
              clear CF N6 y0
              go_wp2_with fail
              go_roundg (gk - 1)
              case measure => have := HK.out; omega
              case rel => exact ⟨k + 1, by rw [HK.out.2.2]; simp, by simp, by have := HK.out; omega, N7⟩
            · have q2 : ((k : Int) < (L5.length : Int)) = False := eq_false (by omega)
              obtain rfl : k = L5.length := by omega
              obtain ⟨m, hm⟩ := H5.out.2.2.1
              have CUp := m_updates N5.out H5.out.2.1 hm (by have := H5.out.1; omega)
              have CAll := fun W (o : Own w W (Sep (TabAt tb s5) (RowAt (Kd.int .i64) 3 (.slice A5 L5.length c5) L5))) => m_all o H5.out.2.1 hm H5.out.1
              rw [List.take_length]
              obtain ⟨t, ht⟩ : ∃ t, t = (L5.map (fun n => (n % 3).toNat)).sum := ⟨_, rfl⟩
              rw [← ht] at CUp ⊢
              clear hk5 hk N5 hm ht
              go_wp2_with fail
              refine CUp.mono ?_
              rintro x' w4 ⟨rfl, N6⟩
              have CA := CAll _ N6
              clear CUp CAll N6
              go_wp2_with fail
              refine CA.mono ?_
              rintro x' w5 ⟨⟨A3, c3, rfl⟩, N7⟩
              clear CA
              have HN7 := Aside0.mk N7
              clear N7
              go_wp2_with fail
              go_roundg (g0 - 1)
              case measure => have := HI.out; omega
              case rel => exact ⟨i + 1, e9, L5, s5, by simp, rfl, by have := HI.out; omega, by omega, H5.out.1, Aside0.mk H5.out.2.1, HN7.out⟩
    · have p4 : ((i : Int) < (l.length : Int)) = False := eq_false (by omega)
      have HB := Aside0.mk N1.below
      obtain ⟨A4, c4, rfl, _⟩ := Own.row (Own.right N1)
      clear hz hik hei hL HS N1
      go_wp2_with fail
      go_ret
      exact ⟨rfl, HB.out⟩
end Go.Proofs.Ytcgncdcihglgdaa.Pure
