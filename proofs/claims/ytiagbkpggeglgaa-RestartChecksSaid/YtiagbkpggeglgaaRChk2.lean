import Derived.Test.YtiagbkpggeglgaaRChk1
namespace Go.Proofs.Ytiagbkpggeglgaa.RS
open Go Go.RowKit Go.Proofs.YtiagbkpggeglgaaW.PrintWords Go.Proofs.YtiagbkpggeglgaaW.PrintLast Go.Proofs.YtiagbkpggeglgaaW.PrintMore Go.Proofs.Ytiagbkpggeglgaa.L Go.Proofs.Ytiagbkpggeglgaa.MR
set_option linter.unusedVariables false
set_option linter.unusedSimpArgs false
theorem chk_row {W : World} {b : Nat} {r : Rc} (h : W.heap[b]? = some (.cells r.cells 31 (0, 0))) : kdRc.C W (some ⟨b, 0, none⟩) 1 [r] := by
  refine ⟨rfl, by decide, fun _ => ⟨_, rfl, fun j p hj => ⟨encR p, rfl, rfl, fun i u hu => ?_⟩⟩⟩
  match j, hj with
  | 0, hj =>
    injection hj with hj
    subst hj
    rw [add_zero_off, blk_cell h]
    have e : (encR r) = r.cells.toList := rfl
    rw [e] at hu
    rw [← hu, Array.getElem?_toList]
    congr 1
    show 0 * 14 + i = i
    omega
  | j + 1, hj => cases hj
theorem keepS {b W : World} {P : World → Prop} (h : ∀ W, Eff0 b W → P W) (e : Eff0 b W) : Eff0 b W ∧ P W := ⟨e, h W e⟩
theorem chk_tail {w wc w7 w8 : World} (ck : Int) (m : List Rc) (he : Eqv (anaA ck m) (anaA 0 m) ∧ Fine (anaA 0 m)) (hb : (anaA 0 m).t.length < 900000 ∧ (anaA 0 m).d.length < 900000) (hg : ∀ r ∈ m, r.gs.length ≤ 17592186043904) (hw : Eff0 w wc) {A3 B3 A4 B4 : Option Addr} {c3 cB3 c4 cB4 : Nat} {us us2 : List Tv} {es es2 : List (Int × Int)}
    (HB : (us.map Tv.ab).Perm ((anaA ck m).t.map (·.2)) ∧ us.Pairwise (fun a b => a.tx ≤ b.tx) ∧ es.Perm (anaA ck m).d ∧ es.Pairwise (fun a b => a.1 ≤ b.1) ∧ kdT.C w7 A3 us.length us ∧ kdD.C w7 B3 es.length es ∧ (∀ t ∈ us, kdI.C w7 t.A t.p.length t.p) ∧ Below wc.heap.size wc w7)
    (HD : (us2.map Tv.ab).Perm ((anaA 0 m).t.map (·.2)) ∧ us2.Pairwise (fun a b => a.tx ≤ b.tx) ∧ es2.Perm (anaA 0 m).d ∧ es2.Pairwise (fun a b => a.1 ≤ b.1) ∧ kdT.C w8 A4 us2.length us2 ∧ kdD.C w8 B4 es2.length es2 ∧ (∀ t ∈ us2, kdI.C w8 t.A t.p.length t.p) ∧ Below (w7.alloc (.cells #[.slice A3 us.length c3, .slice B3 es.length cB3, .int .i64 (fromL ((anaA ck m).d.map (·.2)))] 33)).heap.size (w7.alloc (.cells #[.slice A3 us.length c3, .slice B3 es.length cB3, .int .i64 (fromL ((anaA ck m).d.map (·.2)))] 33)) w8) :
    let w9 := w8.alloc (.cells #[.slice A4 us2.length c4, .slice B4 es2.length cB4, .int .i64 (fromL ((anaA 0 m).d.map (·.2)))] 33)
    let Q := fun W : World => W.cell? ⟨w7.heap.size, 0, none⟩ = some (.slice A3 us.length c3) ∧ W.cell? ⟨w7.heap.size, 1, none⟩ = some (.slice B3 es.length cB3) ∧ W.cell? ⟨w7.heap.size, 2, none⟩ = some (.int .i64 (fromL ((anaA 0 m).d.map (·.2)))) ∧ W.cell? ⟨w8.heap.size, 0, none⟩ = some (.slice A4 us2.length c4) ∧ W.cell? ⟨w8.heap.size, 1, none⟩ = some (.slice B4 es2.length cB4) ∧ W.cell? ⟨w8.heap.size, 2, none⟩ = some (.int .i64 (fromL ((anaA 0 m).d.map (·.2))))
    (Calls Try.prog 10 #[.slice A3 us.length c3, .slice A4 us2.length c4] w9 (fun e w' => e = .returned (.bool true) ∧ Eff0 w9 w') ∧ (∀ W, Eff0 w9 W → Q W) ∧
      (∀ W, Eff0 w9 W → Calls Try.prog 11 #[.slice B3 es.length cB3, .slice B4 es2.length cB4] W (fun e w' => e = .returned (.bool true) ∧ Eff0 w9 w')) ∧ (∀ W, Eff0 w9 W → Below w.heap.size w W)) ∧ Q w9 := by
  intro w9 Q
  obtain ⟨b1, b2, b3, b4, b5, b6, b7, b8⟩ := HB
  obtain ⟨d1, d2, d3, d4, d5, d6, d7, d8⟩ := HD
  obtain ⟨s1, s2, s3⟩ := same_of he.1 he.2 b1 d1 b2 d2 b3 d3 b4 d4
  subst s2
  rw [s3] at d8
  have e8 := Eff.of_below (S := fun _ => False) d8
  have e9 : Eff0 w8 w9 := (Eff.refl _ _).alloc _
  have e7 : Eff0 w7 w9 := (((Eff.refl (fun _ => False) w7).alloc _).then0 e8).then0 e9
  have hq : ∀ W, Eff0 w9 W → Q W := fun W e =>
    have h7 := (e8.then0 (e9.then0 e)).below0
    have h8 := e.below0
    ⟨box_keep h7 0, box_keep h7 1, box_keep h7 2, box_keep h8 0, box_keep h8 1, box_keep h8 2⟩
  have hes : es.length < 900000 := by rw [d3.length_eq]; exact hb.2
  have hsm : Small (anaA 0 m).t := by
    rw [ana_zero]
    exact Small.go _ _ _ (fun p hp => by cases hp) hg
  have hus : us.length < 900000 := by
    have h1 := congrArg List.length s1
    have h2 := d1.length_eq
    rw [List.length_map, List.length_map] at h1 h2
    have := hb.1
    omega
  have hu2 : ∀ x ∈ us, x.p.length ≤ 17592186043904 := Small.of_perm hsm (by rw [s1]; exact d1)
  refine ⟨⟨sameTxs_calls w9 A3 A4 c3 c4 us us2 s1 (Kd.C_below b5 e7.below0) (Kd.C_below d5 e9.below0) (fun t ht => ⟨Kd.C_below (b7 t ht) e7.below0, hu2 t ht⟩) (fun t ht => Kd.C_below (d7 t ht) e9.below0) hus, hq, fun W e => ?_, fun W e => ?_⟩, hq _ (Eff.refl _ _)⟩
  · refine (sameDirty_calls W B3 B4 cB3 cB4 es (Kd.C_below b6 (e7.then0 e).below0) (Kd.C_below d6 (e9.then0 e).below0) hes).mono ?_
    rintro x w' ⟨rfl, n, rfl⟩
    exact ⟨rfl, e.drewN n⟩
  · exact (((hw.then0 (Eff.of_below b8)).then0 e7).then0 e).below0
set_option maxHeartbeats 1600000 in
set_option maxRecDepth 100000 in
theorem checks_walk (w : World) (A : Option Addr) (c : Nat) (rs : List Rc) (at_ : Int) (hC : kdRc.C w A rs.length rs) (hcap : rs.length ≤ c) (hr : ∀ r ∈ rs, r.ps.length < 900000 → RcAt w r) :
    Calls Try.prog 3 #[.slice A rs.length c, .int .i64 at_] w fun e w' => e = .returned (.bool true) ∧ Below w.heap.size w w' := by
  have H := Aside0.mk (And.intro hC (And.intro hcap hr))
  clear hC hcap hr
  by_cases hlen : rs.length ≤ 40
  · have p1 : ((rs.length : Int) > 40) = False := eq_false (by omega)
    have p2 : ((40 : Int) < (rs.length : Int)) = False := eq_false (by omega)
    go_enter Try.func3, Try.ntmps3
    go_wp2_with (go_at_call 8; refine (alive_calls _).mono ?_; rintro e w1 ⟨rfl, b1⟩; have B1 := Aside0.mk b1; clear b1)
    go_loopg [23] rs.length (fun k s24 wr => ∃ i : Nat, s24 = .int .i64 (i : Int) ∧ i + k = rs.length ∧ wr = w1 ∧ Aside0 (∀ j, j < i → (rs.getD j default).ps.length ≤ 40 ∧ (rs.getD j default).kd ≠ 7))
    case atStart => exact ⟨0, rfl, by omega, rfl, Aside0.mk (fun j h => by omega)⟩
    case round =>
      obtain ⟨i, rfl, hik, hw, HG⟩ := hrel
      subst hw
      by_cases hi : i < rs.length
      · have p4 : ((i : Int) < (rs.length : Int)) = True := eq_true (by omega)
        have p5 : (0 : Int) ≤ (i : Int) := by omega
        obtain ⟨ad, rfl, u0, uj⟩ := kdOf_at (Kd.C_below H.out.1 B1.out) i hi
        have x0 := u0 _ rfl
        have x11 := uj 11 (by omega) _ rfl
        have HI := Aside0.mk (And.intro hi hik)
        have HL := Aside0.mk hlen
        have hii : i < 900000 := by omega
        generalize hrr : rs.getD i default = r at *
        have HR := Aside0.mk hrr
        clear u0 uj hrr hi hik hlen
        by_cases h7 : r.kd = 7
        · have q3 : (r.kd == 7) = true := by rw [h7]; rfl
          have q4 : (r.kd = 7) = True := eq_true h7
          clear h7
          go_wp2_with fail
          go_ret
          exact ⟨rfl, B1.out⟩
        · have q3 : (r.kd == 7) = false := beq_eq_false_iff_ne.mpr h7
          have q4 : (r.kd = 7) = False := eq_false h7
          by_cases h20 : r.ps.length > 40
          · have q1 : ((r.ps.length : Int) > 40) = True := eq_true (by omega)
            have q2 : ((40 : Int) < (r.ps.length : Int)) = True := eq_true (by omega)
            clear h7
            go_wp2_with fail
            go_ret
            exact ⟨rfl, B1.out⟩
          · have q1 : ((r.ps.length : Int) > 40) = False := eq_false (by omega)
            have q2 : ((40 : Int) < (r.ps.length : Int)) = False := eq_false (by omega)
            have HN := Aside0.mk (And.intro h20 h7)
            clear h20 h7
            go_wp2_with fail
            go_roundg (gk - 1)
            case measure => have := HI.out; omega
            case rel =>
              refine ⟨i + 1, by simp, by have := HI.out; omega, rfl, Aside0.mk (fun j hj => ?_)⟩
              rcases Nat.lt_or_ge j i with h | h
              · exact HG.out j h
              · obtain rfl : j = i := by omega
                rw [HR.out]
                exact ⟨by have := HN.out.1; omega, HN.out.2⟩
      · have p4 : ((i : Int) < (rs.length : Int)) = False := eq_false (by omega)
        obtain rfl : i = rs.length := by omega
        clear hi hik p4
        have hps : ∀ r ∈ rs, r.ps.length ≤ 40 := fun r hr => by
          obtain ⟨j, hj, rfl⟩ := List.mem_iff_getElem.1 hr
          have := (HG.out j hj).1
          rwa [List.getD_eq_getElem?_getD, List.getElem?_eq_getElem hj] at this
        obtain ⟨s, m1, hs, e1, l1, l2, e2⟩ := modk at_ rs.length
        have hst : (rs.take s).length = s := by rw [List.length_take]; omega
        have hat : ∀ W, Below w.heap.size w W → ∀ r ∈ rs, RcAt W r := fun W hW r hr => (H.out.2.2 r hr (by have := hps r hr; omega)).keep hW
        have hlA : ∀ l : List Rc, (∀ r ∈ l, r.ps.length ≤ 40) → l.length ≤ 41 → (anaA 0 l).t.length < 900000 ∧ (anaA 0 l).d.length < 900000 := fun l h1 h2 => by
          rw [ana_zero]
          obtain ⟨b1, b2⟩ := goA_len 40 l ⟨[], []⟩ 0 h1
          have hm : l.length * 40 ≤ 1640 := by omega
          simp only [List.length_nil, Nat.zero_add] at b1 b2
          omega
        have htk : ∀ r ∈ rs.take s, r.ps.length ≤ 40 := fun r hr => hps r (List.mem_of_mem_take hr)
        have CA1 := anaS wr 0 A c (rs.take s) (Kd.C_take (Kd.C_below H.out.1 B1.out) hs) (by have := H.out.2.1; omega) (fun r hr => hat wr B1.out r (List.mem_of_mem_take hr)) (by omega) (hlA _ htk (by omega)).1 (hlA _ htk (by omega)).2 ⟨Int.le_refl _, by omega, fun h => absurd h (by decide)⟩ (fun h => absurd h (by decide)) (fun h => absurd h (by decide))
        rw [hst] at CA1
        have hcs := cutTo A rs.length c (s : Int) (by omega) (by omega) H.out.2.1
        have hcf := cutRc A rs.length c (s : Int) (by omega) (by omega)
        rw [Int.toNat_natCast] at hcs hcf
        have hCD := fun W (hW : Below w.heap.size w W) => Kd.C_drop (c := c) (Kd.C_below H.out.1 hW) (m := s) hs H.out.2.1
        obtain ⟨A9, hA9⟩ : ∃ A9 : Option Addr, A9 = (if c = s then A else Option.map (fun x => x.add (s * 14)) A) := ⟨_, rfl⟩
        rw [← hA9] at hcf
        have hCD2 : ∀ W, Below w.heap.size w W → kdRc.C W A9 (rs.drop s).length (rs.drop s) := fun W hW => by rw [hA9]; exact hCD W hW
        have hdl : (rs.drop s).length = rs.length - s := List.length_drop
        have d1 : ((rs.length : Int) + 1 = 0) = False := eq_false (by omega)
        have d2 : ((rs.length : Int) + 1 == 0) = false := beq_eq_false_iff_ne.mpr (by omega)
        have C1 := Aside0.mk CA1
        have HS := Aside0.mk (And.intro hs (And.intro hst (And.intro hps (And.intro hat (And.intro hlA (And.intro hCD2 hdl))))))
        clear CA1 hat hps hst HG hCD hA9 hCD2 hdl hlA htk
        go_wp2_with (first
          | (go_at_call 9; refine C1.out.mono ?_; rintro e w2 ⟨A2, c2, ts, B2, cB, ds, rfl, h1, h2, h3, h4, h5, h6, h8, h7⟩; have HA := Aside0.mk (And.intro h1 (And.intro h2 (And.intro h3 (And.intro h4 (And.intro h5 (And.intro h6 (And.intro h8 h7))))))); clear h1 h2 h3 h4 h5 h6 h7 h8 C1)
          | fail)
        have hX : ∀ W, Eff0 (w2.alloc (.cells #[.slice A2 ts.length c2, .slice B2 ds.length cB, .int .i64 (fromL ((anaA 0 (rs.take s)).d.map (·.2)))] 33)) W → W.cell? ⟨w2.heap.size, 0, none⟩ = some (.slice A2 ts.length c2) ∧ W.cell? ⟨w2.heap.size, 1, none⟩ = some (.slice B2 ds.length cB) := fun W e => ⟨box_keep e.below0 0, box_keep e.below0 1⟩
        have hE2 : Eff0 w2 (w2.alloc (.cells #[.slice A2 ts.length c2, .slice B2 ds.length cB, .int .i64 (fromL ((anaA 0 (rs.take s)).d.map (·.2)))] 33)) := (Eff.refl _ _).alloc _
        generalize hwb : w2.alloc (.cells #[.slice A2 ts.length c2, .slice B2 ds.length cB, .int .i64 (fromL ((anaA 0 (rs.take s)).d.map (·.2)))] 33) = wb at *
        have HW := Aside0.mk hwb
        clear hwb
        have e0 : Eff0 w wb := ((Eff.of_below B1.out).then0 (Eff.of_below HA.out.2.2.2.2.2.2.2)).then0 hE2
        have HX := Aside0.mk (And.intro hX (And.intro hE2 e0))
        have hT1 : ∀ W, Eff0 wb W → kdRc.C W A s (rs.take s) := fun W e => by
          have := Kd.C_take (m := s) (Kd.C_below H.out.1 (e0.then0 e).below0) HS.out.1
          rwa [HS.out.2.1] at this
        have hT3 : ∀ W, Eff0 wb W → kdRc.C W A9 (rs.length - s) (rs.drop s) := fun W e => by
          have := HS.out.2.2.2.2.2.1 W (e0.then0 e).below0
          rwa [HS.out.2.2.2.2.2.2] at this
        have HT := Aside0.mk (And.intro hT1 hT3)
        have HL1 := Aside0.mk (show (([] : List Rc).length + s) * 200 ≤ 140737488355328 ∧ ((rs.take s).length + 1) * 200 ≤ 140737488355328 ∧ ((rs.take s ++ [chkR A2 c2 ts B2 cB ds]).length + (rs.length - s)) * 200 ≤ 140737488355328 by
          rw [List.length_append, HS.out.2.1, List.length_nil, List.length_singleton]
          have := HS.out.1
          omega)
        have sb : Eff0 wb wb.drew := (Eff.refl _ _).drew
        clear hX hE2 e0 hT1 hT3
        go_cut [9] (fun v wx => ∃ A5 c5, v = .slice A5 (rs.length + 1) c5 ∧ Aside0 (Eff0 wb wx ∧ kdRc.C wx A5 (rs.length + 1) (rs.take s ++ chkR A2 c2 ts B2 cB ds :: rs.drop s) ∧ rs.length + 1 ≤ c5))
        case first =>
          go_region_held3 (fun W' => Eff0 wb W' ∧ W'.cell? ⟨w2.heap.size, 0, none⟩ = some (.slice A2 ts.length c2) ∧ W'.cell? ⟨w2.heap.size, 1, none⟩ = some (.slice B2 ds.length cB)) ((refine keepS HX.out.1 ?_; first | assumption | exact sb | (exact Eff.alloc (by assumption) _) | (exact Eff.alloc (And.left (by assumption)) _) | (exact Eff.alloc sb _)))
            (first
            | (refine Kd.R_append_rows_step kdRc (w0 := wb) wb.heap.size rfl (.const (.slice none 0 0)) (.tmp 66) 22 31 (.agg #[.int .i64 0, .int .i64 0, .int .i64 0, .int .i64 0, .string ⟨#[]⟩, .bool false, .string ⟨#[]⟩, .string ⟨#[]⟩, .int .i64 0, .int .i64 0, .slice none 0 0, .slice none 0 0, .slice none 0 0, .slice none 0 0]) 200 rfl Try.underlying22 infoR rfl (by decide) (by decide) (.slice none 0 0) [] (rs.take s) A s c (fun _ => True) (fun _ => False) (by simp [Act.eval, Act.put]) (by simp [Act.eval, Act.put]) (Kd.R_nil _ _ _ _ _) (HT.out.1 _ (by first | exact sb | exact Eff.alloc sb _ | exact And.left (by assumption))) (fun _ _ h => h) (fun _ hk => hk.elim) (fun _ _ => trivial) (Eff.below0 (by first | exact sb | exact Eff.alloc sb _ | exact And.left (by assumption))) (Eff.size (by first | exact sb | exact Eff.alloc sb _ | exact And.left (by assumption))) HL1.out.1 ?_; intro v1 w1 r1 b1 g1 o1; have e1 : Eff0 wb w1 := Eff.of_below b1; have AF := Aside0.mk (And.intro r1 (And.intro b1 g1)); clear r1 b1 g1 o1)
            | (refine Kd.R_append_rows_step kdRc (w0 := wb) wb.heap.size rfl (.tmp 67) (.tmp 73) 22 31 (.agg #[.int .i64 0, .int .i64 0, .int .i64 0, .int .i64 0, .string ⟨#[]⟩, .bool false, .string ⟨#[]⟩, .string ⟨#[]⟩, .int .i64 0, .int .i64 0, .slice none 0 0, .slice none 0 0, .slice none 0 0, .slice none 0 0]) 200 rfl Try.underlying22 infoR rfl (by decide) (by decide) v1 (rs.take s) [chkR A2 c2 ts B2 cB ds] _ 1 1 (fun _ => True) (fun _ => False) (by simp [Act.eval, Act.put]) rfl (by first | exact Kd.R_alloc AF.out.1 _ | exact AF.out.1) (by first | exact chk_row (heap_alloc_new w1 _) | exact chk_row ((AF.out.2.2.block wb.heap.size (by simp) (fun h => by cases h)).trans (heap_alloc_new wb.drew _))) (fun _ _ h => h) (fun _ hk => hk.elim) (fun _ _ => trivial) (by first | exact AF.out.2.1 | exact below_alloc AF.out.2.1 _) (by first | exact AF.out.2.1.size | exact (below_alloc AF.out.2.1 _).size) HL1.out.2.1 ?_; intro v2 w5 r1 b1 g1 o1; have e2 : Eff0 wb w5 := Eff.of_below b1; have AG := Aside0.mk (And.intro r1 (And.intro b1 g1)); clear r1 b1 g1 o1 e1)
            | (refine Kd.R_append_rows_step kdRc (w0 := wb) wb.heap.size rfl (.tmp 74) (.tmp 77) 22 31 (.agg #[.int .i64 0, .int .i64 0, .int .i64 0, .int .i64 0, .string ⟨#[]⟩, .bool false, .string ⟨#[]⟩, .string ⟨#[]⟩, .int .i64 0, .int .i64 0, .slice none 0 0, .slice none 0 0, .slice none 0 0, .slice none 0 0]) 200 rfl Try.underlying22 infoR rfl (by decide) (by decide) v2 (rs.take s ++ [chkR A2 c2 ts B2 cB ds]) (rs.drop s) A9 (rs.length - s) _ (fun _ => True) (fun _ => False) (by simp [Act.eval, Act.put]) rfl AG.out.1 (HT.out.2 _ e2) (fun _ _ h => h) (fun _ hk => hk.elim) (fun _ _ => trivial) AG.out.2.1 AG.out.2.1.size HL1.out.2.2 ?_; intro v3 w6 r1 b1 g1 o1; have e3 : Eff0 wb w6 := Eff.of_below b1; have AK := Aside0.mk (And.intro r1 (And.intro b1 g1)); clear r1 b1 g1 o1 e2)
            | fail)
          all_goals (go_wp2_with fail; go_meet)
          all_goals
            case rel =>
              obtain ⟨A5, c5, hv, hl5, hC5⟩ := Kd.R_reads AK.out.1
              have he : (rs.take s ++ [chkR A2 c2 ts B2 cB ds]) ++ rs.drop s = rs.take s ++ chkR A2 c2 ts B2 cB ds :: rs.drop s := by simp
              have hn : ((rs.take s ++ [chkR A2 c2 ts B2 cB ds]) ++ rs.drop s).length = rs.length + 1 := by
                rw [List.length_append, List.length_append, HS.out.2.1, List.length_singleton, HS.out.2.2.2.2.2.2]
                have := HS.out.1
                omega
              rw [hn] at hv hl5 hC5
              rw [he] at hC5
              exact ⟨A5, c5, hv, Aside0.mk ⟨e3, hC5, hl5⟩⟩
        case rest =>
          obtain ⟨A5, c5, rfl, HC5⟩ := hcut
          obtain ⟨e5, hC5, hc5⟩ := HC5.out
          obtain ⟨chk, hchk⟩ : ∃ chk, chk = chkR A2 c2 ts B2 cB ds := ⟨_, rfl⟩
          have hbt : ts.length < 900000 ∧ ds.length < 900000 := by
            have h1 := HA.out.1.length_eq
            have h2 := HA.out.2.2.1.length_eq
            rw [List.length_map, List.length_map] at h1
            have := HS.out.2.2.2.2.1 (rs.take s) (fun r hr => HS.out.2.2.1 r (List.mem_of_mem_take hr)) (by rw [HS.out.2.1]; have := HS.out.1; omega)
            omega
          have hsm : ∀ x ∈ ts, x.p.length ≤ 17592186043904 := by
            refine Small.of_perm ?_ HA.out.1
            rw [ana_zero]
            refine Small.go _ _ _ (fun p hp => by cases hp) (fun r hr => ?_)
            exact (HS.out.2.2.2.1 w (Below.refl _ _) r (List.mem_of_mem_take hr)).gl
          have hw2 : Eff0 w2 wc := HX.out.2.1.then0 e5
          have hca : RcAt wc chk := by
            rw [hchk]
            exact chk_at (Kd.C_below HA.out.2.2.2.2.1 hw2.below0) (Kd.C_below HA.out.2.2.2.2.2.1 hw2.below0) (fun t ht => Kd.C_below (HA.out.2.2.2.2.2.2.1 t ht) hw2.below0) hsm
          have hall : ∀ r ∈ rs.take s ++ chk :: rs.drop s, RcAt wc r := by
            intro r hr
            rcases List.mem_append.1 hr with h | h
            · exact HS.out.2.2.2.1 wc (HX.out.2.2.then0 e5).below0 r (List.mem_of_mem_take h)
            · rcases List.mem_cons.1 h with rfl | h
              · exact hca
              · exact HS.out.2.2.2.1 wc (HX.out.2.2.then0 e5).below0 r (List.mem_of_mem_drop h)
          have hpl : ∀ r ∈ rs.take s ++ chk :: rs.drop s, r.ps.length ≤ 40 := by
            intro r hr
            rcases List.mem_append.1 hr with h | h
            · exact HS.out.2.2.1 r (List.mem_of_mem_take h)
            · rcases List.mem_cons.1 h with rfl | h
              · rw [hchk]; exact Nat.zero_le _
              · exact HS.out.2.2.1 r (List.mem_of_mem_drop h)
          have hml : (rs.take s ++ chk :: rs.drop s).length = rs.length + 1 := by
            rw [List.length_append, List.length_cons, HS.out.2.1, HS.out.2.2.2.2.2.2]
            have := HS.out.1
            omega
          have hcs2 := check_same (rs.take s) (rs.drop s) chk (by rw [hchk]) (by rw [hchk]) (by rw [hchk]; exact HA.out.1) (by rw [hchk]; exact HA.out.2.2.1)
          rw [HS.out.2.1] at hcs2
          have hb0 := HS.out.2.2.2.2.1 _ hpl (by rw [hml]; omega)
          have hgd : (rs.take s ++ chk :: rs.drop s).getD (((s : Int) + 1).toNat - 1) default = chk := by
            rw [show ((s : Int) + 1).toNat - 1 = s by omega, List.getD_eq_getElem?_getD, List.getElem?_append_right (by rw [HS.out.2.1]; exact Nat.le_refl _), HS.out.2.1, Nat.sub_self]
            rfl
          rw [← hchk] at hC5
          generalize hm : rs.take s ++ chk :: rs.drop s = m at *
          rw [← hml] at hC5 hc5
          have CA := fun W (hW : Below wc.heap.size wc W) => anaS W ((s : Int) + 1) A5 c5 m (Kd.C_below hC5 hW) hc5 (fun r hr => (hall r hr).keep hW) (by rw [hml]; omega) (by rw [hcs2.1.t.length_eq]; exact hb0.1) (by rw [hcs2.1.d.length_eq]; exact hb0.2) ⟨by omega, by rw [hml]; have := HS.out.1; omega, fun _ => by rw [hgd, hchk]⟩ (fun _ => by rw [hgd, hchk]; exact hbt.1) (fun _ => by rw [hgd, hchk]; exact hbt.2)
          have CB := fun W (hW : Below wc.heap.size wc W) => anaS W 0 A5 c5 m (Kd.C_below hC5 hW) hc5 (fun r hr => (hall r hr).keep hW) (by rw [hml]; omega) hb0.1 hb0.2 ⟨Int.le_refl _, by omega, fun h => absurd h (by decide)⟩ (fun h => absurd h (by decide)) (fun h => absurd h (by decide))
          rw [hml] at CA CB
          have hgl : ∀ r ∈ m, r.gs.length ≤ 17592186043904 := fun r hr => (hall r hr).gl
          have C4 := Aside0.mk (CA wc (Below.refl _ _))
          have C5 := Aside0.mk CB
          have HQ := Aside0.mk (And.intro hcs2 (And.intro hb0 (And.intro hgl (HX.out.2.2.then0 e5))))
          clear CA CB hcs2 hb0 hgl hgd hml hpl hall hca hw2 hsm hbt hC5 hc5 e5 hm hchk
          have hs9 : s < 900000 := by omega
          go_wp2_with (first
            | (go_at_call 9; refine C4.out.mono ?_; rintro e w7 ⟨A3, c3, us, B3, cB3, es, rfl, h1, h2, h3, h4, h5, h6, h8, h7⟩; have HB := Aside0.mk (And.intro h1 (And.intro h2 (And.intro h3 (And.intro h4 (And.intro h5 (And.intro h6 (And.intro h8 h7))))))); clear h1 h2 h3 h4 h5 h6 h7 h8 C4; have C6 := Aside0.mk (C5.out (w7.alloc (.cells #[.slice A3 us.length c3, .slice B3 es.length cB3, .int .i64 (fromL ((anaA ((s : Int) + 1) m).d.map (·.2)))] 33)) ((Eff.of_below (S := fun _ => False) HB.out.2.2.2.2.2.2.2).alloc _).below0))
            | (go_at_call 9; refine C6.out.mono ?_; rintro e w8 ⟨A4, c4, us2, B4, cB4, es2, rfl, h1, h2, h3, h4, h5, h6, h8, h7⟩; have HD := Aside0.mk (And.intro h1 (And.intro h2 (And.intro h3 (And.intro h4 (And.intro h5 (And.intro h6 (And.intro h8 h7))))))); clear h1 h2 h3 h4 h5 h6 h7 h8 C6; obtain ⟨CL, t0, t1, t2, t3, t4, t5⟩ := chk_tail (c4 := c4) (cB4 := cB4) ((s : Int) + 1) m HQ.out.1 HQ.out.2.1 HQ.out.2.2.1 HQ.out.2.2.2 HB.out HD.out; have CS := Aside0.mk CL; clear CL)
            | (go_at_call 10; refine CS.out.1.mono ?_; rintro e w10 ⟨rfl, e10⟩; obtain ⟨t0, t1, t2, t3, t4, t5⟩ := CS.out.2.1 w10 e10)
            | (go_at_call 11; refine (CS.out.2.2.1 w10 e10).mono ?_; rintro e w11 ⟨rfl, e11⟩; obtain ⟨t0, t1, t2, t3, t4, t5⟩ := CS.out.2.1 w11 e11)
            | fail)
          go_ret
          exact ⟨rfl, CS.out.2.2.2 _ e11⟩
  · have p1 : ((rs.length : Int) > 40) = True := eq_true (by omega)
    have p2 : ((40 : Int) < (rs.length : Int)) = True := eq_true (by omega)
    clear hlen
    go_enter Try.func3, Try.ntmps3
    go_wp2_with (go_at_call 8; refine (alive_calls _).mono ?_; rintro e w1 ⟨rfl, b1⟩)
    go_ret
    exact ⟨rfl, b1⟩
end Go.Proofs.Ytiagbkpggeglgaa.RS
