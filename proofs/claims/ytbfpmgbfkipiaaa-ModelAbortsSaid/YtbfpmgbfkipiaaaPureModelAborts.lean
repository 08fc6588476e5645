/- What one that aborts wrote is as if it had never been; With tells what a commit makes (ModelAborts). Conditions: none beyond the given row's own. -/
import Derived.Test.YtbfpmgbfkipiaaaMx
import Derived.Test.YtbfpmgbfkipiaaaMFrame
namespace Go.Proofs.Ytbfpmgbfkipiaaa.Pure
open Go Go.RowKit Go.Proofs.YtbfpmgbfkipiaaaW.PrintWords Go.Proofs.YtbfpmgbfkipiaaaW.PrintLast Go.Proofs.YtbfpmgbfkipiaaaW.PrintMore Go.Proofs.Ytbfpmgbfkipiaaa.L Go.Proofs.Ytbfpmgbfkipiaaa.M Go.Proofs.Ytbfpmgbfkipiaaa.MD
set_option linter.unusedVariables false
set_option linter.unusedSimpArgs false
/-- What one thing that is done makes of a transaction. -/
def opX (m : List Ent) (x : One) (kind n : Int) (key val : ByteArray) : One :=
  if kind = 3 then ⟨x.l ++ [⟨key, val, false⟩], x.saves⟩
  else if kind = 4 then (if (seenR (MD.lastW x.l key) (lookM m key)).2 then ⟨x.l ++ [⟨key, ⟨#[]⟩, true⟩], x.saves⟩ else x)
  else if kind = 5 then ⟨x.l, x.saves ++ [(x.l.length : Int)]⟩
  else if kind = 6 then (if n < 0 ∨ (x.saves.length : Int) ≤ n then x else ⟨x.l.take (x.saves.getD n.toNat 0).toNat, x.saves.take (n.toNat + 1)⟩)
  else x
def sP (mb tb b1 b2 : Nat) (m : List Ent) (x1 x2 : One) : Mod := ⟨some mb, m, some tb, [(1, b1, x1), (2, b2, x2)]⟩
def sT (mb tb b1 b2 : Nat) (m : List Ent) (x x' : One) (j : Nat) : Mod := sP mb tb b1 b2 m (if j = 1 then x else x') (if j ≤ 2 then x else x')
section
variable {mb tb b1 b2 : Nat} {m : List Ent} {x x' : One} {j : Nat}
theorem sT_get (h1 : 1 ≤ j) (h2 : j ≤ 2) : ∃ b, getP (sT mb tb b1 b2 m x x' j).t (j : Int) = some (b, x) := by
  rcases (by omega : j = 1 ∨ j = 2) with rfl | rfl
  · exact ⟨b1, rfl⟩
  · exact ⟨b2, rfl⟩
theorem sT_set (h1 : 1 ≤ j) (h2 : j ≤ 2) : sT mb tb b1 b2 m x x' (j + 1) = { sT mb tb b1 b2 m x x' j with t := setP (sT mb tb b1 b2 m x x' j).t (j : Int) x' } := by
  rcases (by omega : j = 1 ∨ j = 2) with rfl | rfl
  · rfl
  · rfl
theorem sT_same (he : x' = x) (i j : Nat) : sT mb tb b1 b2 m x x' i = sT mb tb b1 b2 m x x' j := by
  subst he
  unfold sT
  simp
theorem sT_ok (h1 : 1 ≤ j) (h2 : j ≤ 2) {P : One → Prop} (hx : P x) : ∀ p, getP (sT mb tb b1 b2 m x x' j).t (j : Int) = some p → P p.2 := by
  obtain ⟨b, hb⟩ := sT_get (mb := mb) (tb := tb) (b1 := b1) (b2 := b2) (m := m) (x := x) (x' := x') h1 h2
  intro p hp
  rw [hb] at hp
  injection hp with hp
  subst hp
  exact hx
theorem sT_getR (h1 : 1 ≤ j) (h2 : j ≤ 2) (key : ByteArray) : getR (sT mb tb b1 b2 m x x' j) (j : Int) key = seenR (MD.lastW x.l key) (lookM m key) := by
  rcases (by omega : j = 1 ∨ j = 2) with rfl | rfl
  · rfl
  · rfl
theorem sT_del_yes (h1 : 1 ≤ j) (h2 : j ≤ 2) {key : ByteArray} (h : (seenR (MD.lastW x.l key) (lookM m key)).2 = true) (hx : x' = ⟨x.l ++ [⟨key, ⟨#[]⟩, true⟩], x.saves⟩) : delR (sT mb tb b1 b2 m x x' j) (j : Int) key = (true, sT mb tb b1 b2 m x x' (j + 1)) := by
  obtain ⟨b, hb⟩ := sT_get (mb := mb) (tb := tb) (b1 := b1) (b2 := b2) (m := m) (x := x) (x' := x') h1 h2
  unfold delR
  rw [sT_getR h1 h2, if_pos h, sT_set h1 h2]
  unfold putR
  rw [hb]
  dsimp only
  rw [hx]
theorem sT_del_no (h1 : 1 ≤ j) (h2 : j ≤ 2) {key : ByteArray} (h : (seenR (MD.lastW x.l key) (lookM m key)).2 = false) (hx : x' = x) : delR (sT mb tb b1 b2 m x x' j) (j : Int) key = (false, sT mb tb b1 b2 m x x' (j + 1)) := by
  unfold delR
  rw [sT_getR h1 h2, if_neg (by rw [h]; simp), sT_same hx j (j + 1)]
theorem sT_back_no (h1 : 1 ≤ j) (h2 : j ≤ 2) {n : Int} (h : n < 0 ∨ (x.saves.length : Int) ≤ n) (hx : x' = x) : backR (sT mb tb b1 b2 m x x' j) (j : Int) n = (false, sT mb tb b1 b2 m x x' (j + 1)) := by
  obtain ⟨b, hb⟩ := sT_get (mb := mb) (tb := tb) (b1 := b1) (b2 := b2) (m := m) (x := x) (x' := x') h1 h2
  unfold backR
  rw [hb]
  dsimp only
  rw [if_pos h, sT_same hx j (j + 1)]
theorem sT_back_yes (h1 : 1 ≤ j) (h2 : j ≤ 2) {n : Int} (h : ¬ (n < 0 ∨ (x.saves.length : Int) ≤ n)) (hx : x' = ⟨x.l.take (x.saves.getD n.toNat 0).toNat, x.saves.take (n.toNat + 1)⟩) : backR (sT mb tb b1 b2 m x x' j) (j : Int) n = (true, sT mb tb b1 b2 m x x' (j + 1)) := by
  obtain ⟨b, hb⟩ := sT_get (mb := mb) (tb := tb) (b1 := b1) (b2 := b2) (m := m) (x := x) (x' := x') h1 h2
  unfold backR
  rw [hb]
  dsimp only
  rw [if_neg h, sT_set h1 h2, hx]
end
theorem opX_len (m : List Ent) (x : One) (kind n : Int) (key val : ByteArray) : (opX m x kind n key val).l.length ≤ x.l.length + 1 ∧ (opX m x kind n key val).saves.length ≤ x.saves.length + 1 := by
  unfold opX
  split
  · simp
  · split
    · split
      · simp
      · omega
    · split
      · simp
      · split
        · split
          · omega
          · simp only [List.length_take]; omega
        · omega
theorem opX_ok (m : List Ent) (x : One) (kind n : Int) (key val : ByteArray) (h : OneOk x) : OneOk (opX m x kind n key val) := by
  obtain ⟨h1, h2⟩ := h
  have more : ∀ q : Wr, OneOk ⟨x.l ++ [q], x.saves⟩ := fun q => ⟨h1, fun n hn => by have := h2 n hn; simp only [List.length_append, List.length_cons, List.length_nil]; omega⟩
  unfold opX
  split
  · exact more _
  · split
    · split
      · exact more _
      · exact ⟨h1, h2⟩
    · split
      · refine ⟨List.pairwise_append.2 ⟨h1, List.pairwise_cons.2 ⟨fun _ h => (by cases h), List.Pairwise.nil⟩, fun a ha b hb => ?_⟩, fun n hn => ?_⟩
        · rw [List.mem_singleton.1 hb]
          exact (h2 a ha).2
        · rcases List.mem_append.1 hn with hn | hn
          · exact h2 n hn
          · rw [List.mem_singleton.1 hn]
            show 0 ≤ (x.l.length : Int) ∧ (x.l.length : Int) ≤ (x.l.length : Int)
            omega
      · split
        · split
          · exact ⟨h1, h2⟩
          · rename_i hn
            have hnl : n.toNat < x.saves.length := by omega
            have hg : x.saves.getD n.toNat 0 = x.saves[n.toNat] := by simp [List.getD, hnl]
            obtain ⟨g1, g2⟩ := h2 _ (List.getElem_mem hnl)
            refine ⟨h1.sublist (List.take_sublist _ _), fun a ha => ?_⟩
            obtain ⟨i, hi⟩ := List.getElem?_of_mem ha
            rw [List.getElem?_take] at hi
            split at hi
            · rename_i hin
              obtain ⟨hil, hia⟩ := List.getElem?_eq_some_iff.1 hi
              have hle : a ≤ x.saves[n.toNat] := by
                rcases Nat.lt_or_ge i n.toNat with h3 | h3
                · rw [← hia]
                  exact List.pairwise_iff_getElem.1 h1 i n.toNat hil hnl h3
                · have h4 : i = n.toNat := by omega
                  subst h4
                  rw [← hia]
                  exact Int.le_refl _
              refine ⟨(h2 a (by rw [← hia]; exact List.getElem_mem hil)).1, ?_⟩
              rw [hg]
              simp only [List.length_take]
              omega
            · cases hi
        · exact ⟨h1, h2⟩
set_option maxHeartbeats 1600000 in
set_option maxRecDepth 100000 in
theorem aborts_long (A : Option Addr) (c n : Nat) (w : World) (h : 60 < (n : Int)) :
    Calls Try.prog 6 #[.slice A n c] w fun e w' => e = .returned (.bool true) ∧ Below w.heap.size w w' := by
  have CA := fun W => alive_calls W
  go_enter Try.func6, Try.ntmps6
  go_wp2_with (go_at_call 8; refine (CA _).mono ?_; rintro e w1 ⟨rfl, e1⟩)
  go_ret
  exact ⟨rfl, e1.below0⟩
abbrev kA : ByteArray := ⟨#[97, 104, 101, 97, 100]⟩
abbrev vA : ByteArray := ⟨#[118]⟩
set_option maxHeartbeats 1600000 in
set_option maxRecDepth 100000 in
theorem ModelAborts_walk (A : Option Addr) (c : Nat) (l : List S39) (w : World) (t0 : l.length ≤ maxLen ∧ ∀ a_ ∈ l, ((Lit.int .i64 a_.f0).wf = true ∧ (Lit.int .i64 a_.f1).wf = true ∧ (Lit.int .i64 a_.f2).wf = true ∧ a_.f3.size ≤ maxLen ∧ a_.f4.size ≤ maxLen)) (y0 : l.length * 56 ≤ 140737488351232) (hr : Kd.C k39 w A l.length l) (hc : l.length ≤ c) :
    Calls Try.prog 6 #[.slice A l.length c] w fun e w' => e = .returned (.bool true) ∧ Below w.heap.size w w' := by
  by_cases hs : 60 < (l.length : Int)
  · exact aborts_long A c l.length w hs
  have CA := fun W => alive_calls W
  have HC := Aside0.mk hr
  clear hr t0
  go_enter Try.func6, Try.ntmps6
  go_wp2_with (go_at_call 8; refine (CA _).mono ?_; rintro e w1 ⟨rfl, e1⟩; have H0 := Aside0.mk (own_made ((Own.start w).after e1)))
  refine (o_begin0 H0.out 7).mono ?_
  rintro e w2 ⟨rfl, m1, tb, b7, H1⟩
  go_wp2_with fail
  generalize hb0 : w1.heap.size = b0 at *
  refine (o_put H1.out 7 kA vA rfl (by show 0 < 900000; decide) (s' := ⟨some m1, [], some tb, [(7, b7, ⟨[⟨kA, vA, false⟩], []⟩)]⟩) rfl).mono ?_
  rintro e w3 ⟨rfl, H2⟩
  go_wp2_with fail
  refine (o_commit H2.out 7 rfl List.Pairwise.nil (x := ⟨[⟨kA, vA, false⟩], []⟩) rfl (by show 1 < 400000; decide) (m' := [(kA, vA)]) rfl (t' := []) rfl).mono ?_
  rintro e w4 ⟨rfl, mb, H3⟩
  go_wp2_with fail
  refine (o_dump H3.out rfl (rises_one _) (by show 1 < 900000; decide) (m' := [(kA, vA)]) rfl (n := 1) rfl).mono ?_
  rintro e w5 ⟨A5, c5, rfl, H4⟩
  have H5 := Aside0.mk (Own.made H3.out H4.out.2)
  generalize hm : [(kA, vA)] = m at *
  have hrm : Rises m := by rw [← hm]; exact rises_one _
  have hlm : m.length = 1 := by rw [← hm]; rfl
  have HM := Aside0.mk (And.intro hrm hlm)
  clear hm hrm hlm H4
  go_wp2_with fail
  refine (f_begin H5.out rfl 1 rfl).mono ?_
  rintro e w6 ⟨rfl, b1, H6⟩
  go_wp2_with fail
  refine (f_begin H6.out rfl 2 rfl).mono ?_
  rintro e w7 ⟨rfl, b2, H7⟩
  go_wp2_with fail
  go_loopg [33] l.length (fun k s33 wr => ∃ (i : Nat) (x : One), s33 = .int .i64 i ∧ i + k = l.length ∧ x.l.length ≤ i ∧ x.saves.length ≤ i ∧ Aside0 (OneOk x ∧ Own w wr (Sep (ModAt b0 (sP mb tb b1 b2 m x x)) (EntAt A5 m))))
  case atStart => exact ⟨0, ⟨[], []⟩, rfl, by omega, Nat.le_refl _, Nat.le_refl _, Aside0.mk ⟨⟨List.Pairwise.nil, fun _ h => (by cases h)⟩, H7.out⟩⟩
  case round =>
    obtain ⟨i, x, rfl, hik, hxl, hxs, A1⟩ := hrel
    by_cases hi : i < l.length
    · have p1 : ((i : Int) < (l.length : Int)) = True := eq_true (by omega)
      obtain ⟨ad, ea, x0, x1, x2, x3, x4⟩ := at_T39 (Kd.C_below HC.out A1.out.2.below) (i : Int) (by omega) (by omega)
      subst ea
      generalize rd_T39 l (i : Int) = o at *
      obtain ⟨ok, otx, on, okey, oval⟩ := o
      rw [Int.toNat_natCast] at x0 x1 x2 x3 x4
      dsimp only at x0 x1 x2 x3 x4
      by_cases hz : 200 < wrap64 ((okey.size : Int) + (oval.size : Int))
      · have z1 := eq_true hz
        clear hz
        go_wp2
        go_ret
        exact ⟨rfl, (A1.out.2.alloc _).below⟩
      have z1 := eq_false hz
      clear hz
      obtain ⟨x', hx'⟩ : ∃ x', x' = opX m x ok on okey oval := ⟨_, rfl⟩
      have hlen := opX_len m x ok on okey oval
      rw [← hx'] at hlen
      have HX := Aside0.mk hx'
      clear hx'
      have HB := Aside0.mk (Own.assoc (Own.newCells A1.out.2 #[.int .i64 ok, .int .i64 otx, .int .i64 on, .string okey, .string oval] 39))
      go_wp2_with fail
      clear x0 x1 x2 x3 x4
      go_loopg [7] 2 (fun k s7 wx => ∃ j : Nat, s7 = .int .i64 j ∧ 1 ≤ j ∧ j + k = 3 ∧ Aside0 (Own w wx (Sep (ModAt b0 (sT mb tb b1 b2 m x x' j)) (Sep (EntAt A5 m) (CellsAt wr.heap.size #[.int .i64 ok, .int .i64 otx, .int .i64 on, .string okey, .string oval] 39)))))
      case atStart => exact ⟨1, rfl, Nat.le_refl _, rfl, HB⟩
      case round =>
        obtain ⟨j, rfl, hj1, hjk, B1⟩ := hrel
        by_cases hj : j ≤ 2
        · have p2 : ((j : Int) ≤ 2) = True := eq_true (by omega)
          obtain ⟨b, hb⟩ := sT_get (mb := mb) (tb := tb) (b1 := b1) (b2 := b2) (m := m) (x := x) (x' := x') hj1 hj
          have HG := Aside0.mk hb
          obtain ⟨cc, _⟩ := Own.cells B1.out.right.right
          have y0' := cc 0
          have y2 := cc 2
          have y3 := cc 3
          have y4 := cc 4
          clear cc hb
          by_cases k3 : ok = 3
          · subst k3
            have hx3 : x' = { x with l := x.l ++ [⟨okey, oval, false⟩] } := HX.out
            have HX3 := Aside0.mk hx3
            clear hx3
            go_wp2_with fail
            refine (f_put B1.out (j : Int) okey oval HG.out (by omega) (s' := sT mb tb b1 b2 m x x' (j + 1)) (by rw [sT_set hj1 hj, HX3.out])).mono ?_
            rintro e w9 ⟨rfl, B2⟩
            go_wp2_with fail
            go_roundg (gk - 1)
            case measure => omega
            case rel => exact ⟨j + 1, by simp, by omega, by omega, B2⟩
          · by_cases k4 : ok = 4
            · subst k4
              cases hse : (seenR (MD.lastW x.l okey) (lookM m okey)).2 with
              | true =>
                have hx3 : x' = ⟨x.l ++ [⟨okey, ⟨#[]⟩, true⟩], x.saves⟩ := by rw [HX.out]; unfold opX; rw [if_neg (by decide), if_pos rfl, if_pos hse]
                have HD := Aside0.mk (sT_del_yes (mb := mb) (tb := tb) (b1 := b1) (b2 := b2) hj1 hj hse hx3)
                clear hse hx3
                go_wp2_with fail
                refine (f_del B1.out (j : Int) okey (sT_ok (P := fun x => x.l.length < 900000) hj1 hj (by omega)) HD.out).mono ?_
                rintro e w9 ⟨rfl, B2⟩
                go_wp2_with fail
                go_roundg (gk - 1)
                case measure => omega
                case rel => exact ⟨j + 1, by simp, by omega, by omega, B2⟩
              | false =>
                have hx3 : x' = x := by rw [HX.out]; unfold opX; rw [if_neg (by decide), if_pos rfl, if_neg (by rw [hse]; simp)]
                have HD := Aside0.mk (sT_del_no (mb := mb) (tb := tb) (b1 := b1) (b2 := b2) hj1 hj hse hx3)
                clear hse hx3
                go_wp2_with fail
                refine (f_del B1.out (j : Int) okey (sT_ok (P := fun x => x.l.length < 900000) hj1 hj (by omega)) HD.out).mono ?_
                rintro e w9 ⟨rfl, B2⟩
                go_wp2_with fail
                go_roundg (gk - 1)
                case measure => omega
                case rel => exact ⟨j + 1, by simp, by omega, by omega, B2⟩
            · by_cases k5 : ok = 5
              · subst k5
                have hx3 : x' = { x with saves := x.saves ++ [(x.l.length : Int)] } := HX.out
                have HX3 := Aside0.mk hx3
                clear hx3
                go_wp2_with fail
                refine (f_save B1.out (j : Int) HG.out ⟨by omega, by omega⟩ (s' := sT mb tb b1 b2 m x x' (j + 1)) (by rw [sT_set hj1 hj, HX3.out])).mono ?_
                rintro e w9 ⟨rfl, B2⟩
                go_wp2_with fail
                go_roundg (gk - 1)
                case measure => omega
                case rel => exact ⟨j + 1, by simp, by omega, by omega, B2⟩
              · by_cases k6 : ok = 6
                · subst k6
                  obtain ⟨r, hr⟩ : ∃ r, backR (sT mb tb b1 b2 m x x' j) (j : Int) on = (r, sT mb tb b1 b2 m x x' (j + 1)) := by
                    by_cases hn : on < 0 ∨ (x.saves.length : Int) ≤ on
                    · exact ⟨false, sT_back_no hj1 hj hn (by rw [HX.out]; unfold opX; rw [if_neg (by decide), if_neg (by decide), if_neg (by decide), if_pos rfl, if_pos hn])⟩
                    · exact ⟨true, sT_back_yes hj1 hj hn (by rw [HX.out]; unfold opX; rw [if_neg (by decide), if_neg (by decide), if_neg (by decide), if_pos rfl, if_neg hn])⟩
                  have HD := Aside0.mk hr
                  clear hr
                  go_wp2_with fail
                  refine (f_back B1.out (j : Int) on (sT_ok (P := fun x => x.l.length < 900000 ∧ x.saves.length < 900000 ∧ OneOk x) hj1 hj ⟨by omega, by omega, A1.out.1⟩) HD.out).mono ?_
                  rintro e w9 ⟨rfl, B2⟩
                  go_wp2_with fail
                  go_roundg (gk - 1)
                  case measure => omega
                  case rel => exact ⟨j + 1, by simp, by omega, by omega, B2⟩
                · have hx3 : x' = x := by rw [HX.out]; unfold opX; rw [if_neg k3, if_neg k4, if_neg k5, if_neg k6]
                  have B2 : Aside0 (Own w _ (Sep (ModAt b0 (sT mb tb b1 b2 m x x' (j + 1))) _)) := Aside0.mk (by rw [sT_same hx3 (j + 1) j]; exact B1.out)
                  have e3 : (ok == 3) = false := beq_eq_false_iff_ne.mpr k3
                  have e4 : (ok == 4) = false := beq_eq_false_iff_ne.mpr k4
                  have e5 : (ok == 5) = false := beq_eq_false_iff_ne.mpr k5
                  have e6 : (ok == 6) = false := beq_eq_false_iff_ne.mpr k6
                  replace k3 := eq_false k3
                  replace k4 := eq_false k4
                  replace k5 := eq_false k5
                  replace k6 := eq_false k6
                  clear hx3
                  go_wp2_with fail
                  go_roundg (gk - 1)
                  case measure => omega
                  case rel => exact ⟨j + 1, by simp, by omega, by omega, B2⟩
        · have p2 : ((j : Int) ≤ 2) = False := eq_false (by omega)
          obtain rfl : j = 3 := by omega
          go_wp2_with fail
          go_roundg (l.length - (i + 1))
          case measure => omega
          case rel =>
            refine ⟨i + 1, x', by simp, by omega, by omega, by omega, Aside0.mk ⟨?_, (Own.assoc' B1.out).left⟩⟩
            rw [HX.out]
            exact opX_ok m x _ _ _ _ A1.out.1
    · have p1 : ((i : Int) < (l.length : Int)) = False := eq_false (by omega)
      go_wp2_with fail
      have hlo := len_over m x.l
      have hM1 := HM.out.2
      obtain ⟨M, hM⟩ : ∃ M, M = overL m x.l := ⟨_, rfl⟩
      have hRM : Rises M := by rw [hM]; exact rises_overL HM.out.1 _
      have hl2 : M.length ≤ 1 + x.l.length := by rw [hM]; omega
      refine (f_with A1.out.2 2 rfl HM.out.1 (x := x) rfl (by show m.length < 400000; omega) (by omega) (m' := M) hM.symm rfl).mono ?_
      rintro e w8 ⟨A8, c8, rfl, H8⟩
      have H8' := Aside0.mk (Own.assoc H8.out)
      have HMM := Aside0.mk (And.intro hM hRM)
      clear hM hRM hM1 hlo
      go_wp2_with fail
      refine (f_with H8'.out 1 rfl HM.out.1 (x := x) rfl (by show m.length < 400000; have := HM.out.2; omega) (by omega) (m' := M) HMM.out.1.symm rfl).mono ?_
      rintro e w9 ⟨A9, c9, rfl, H9⟩
      go_wp2_with fail
      refine (same_yes w9 A8 A9 c8 c9 M.length M (Own.ent (H9.out.left.right.right)) (Own.ent H9.out.right) rfl (by omega)).mono ?_
      rintro e w10 ⟨rfl, E10⟩
      have H10 := Aside0.mk (H9.out.left.after E10)
      go_wp2_with fail
      refine (f_abort H10.out 1 (p := (b1, x)) rfl (s' := ⟨some mb, m, some tb, [(2, b2, x)]⟩) rfl).mono ?_
      rintro e w11 ⟨rfl, H11⟩
      go_wp2_with fail
      refine (f_dump H11.out rfl HM.out.1 (by show m.length < 900000; have := HM.out.2; omega) (m' := m) rfl (n := 1) HM.out.2).mono ?_
      rintro e w12 ⟨A12, c12, rfl, H12⟩
      go_wp2_with fail
      refine (same_yes w12 A12 A5 c12 c5 1 m (by have := Own.ent H12.out.right; rw [HM.out.2] at this; exact this) (by have := Own.ent (H12.out.left.right.left); rw [HM.out.2] at this; exact this) HM.out.2.symm (by decide)).mono ?_
      rintro e w13 ⟨rfl, E13⟩
      have H13 := Aside0.mk (H12.out.left.after E13)
      go_wp2_with fail
      refine (f_commit H13.out 2 rfl HM.out.1 (x := x) rfl (by omega) (m' := M) HMM.out.1.symm (t' := []) rfl).mono ?_
      rintro e w14 ⟨rfl, mb2, H14⟩
      go_wp2_with fail
      refine (f_dump H14.out rfl HMM.out.2 (by show M.length < 900000; omega) (m' := M) rfl rfl).mono ?_
      rintro e w15 ⟨A15, c15, rfl, H15⟩
      go_wp2_with fail
      refine (same_yes w15 A15 A8 c15 c8 M.length M (Own.ent H15.out.right) (Own.ent (H15.out.left.right.right)) rfl (by omega)).mono ?_
      rintro e w16 ⟨rfl, E16⟩
      go_wp2_with fail
      go_ret
      exact ⟨rfl, (H15.out.after E16).below⟩
end Go.Proofs.Ytbfpmgbfkipiaaa.Pure
