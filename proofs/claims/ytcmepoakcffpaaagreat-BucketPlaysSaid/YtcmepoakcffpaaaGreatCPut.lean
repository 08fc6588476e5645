import Derived.Test.YtcmepoakcffpaaaGreatProg
import Derived.BigRegion
import Derived.BigQuiet
import Derived.Deep.QuietTactic
import Derived.Deep.AppendLies
import Derived.ChangeAlike
import Derived.Outline
import Derived.WalkKit
import Derived.KernelRfl
import Derived.Deep.LoopGhost
import Derived.Deep.RegionLaw
import Derived.Test.YtcmepoakcffpaaaGreatWMore
import Derived.Test.YtcmepoakcffpaaaGreatWKept
import Derived.Test.YtcmepoakcffpaaaGreatLSep
import Derived.Test.YtcmepoakcffpaaaGreatCBuilder
import Derived.Test.YtcmepoakcffpaaaGreatCTake
import Derived.Test.YtcmepoakcffpaaaGreatShelf
import Derived.Test.YtcmepoakcffpaaaGreatLSince
import Derived.Sort.Walk0
import Derived.Laws.Cover1
namespace Go.Proofs.YtcmepoakcffpaaaGreat.CP
open Go Go.RowKit Go.Proofs.YtcmepoakcffpaaaGreatW.PrintWords Go.Proofs.YtcmepoakcffpaaaGreatW.PrintLast Go.Proofs.YtcmepoakcffpaaaGreatW.PrintMore Go.Proofs.YtcmepoakcffpaaaGreat.CR Go.Proofs.YtcmepoakcffpaaaGreat.L
set_option linter.unusedVariables false
set_option linter.unusedSimpArgs false
/-- Rising, one more behind. -/
def okNext (l : List Cl) (c : Cl) : Bool := match l.getLast? with | none => true | some d => decide (d.k < c.k)
theorem rises_snoc : ∀ (l : List Cl) (c : Cl), rises (l ++ [c]) = (rises l && (right c && okNext l c))
  | [], c => by simp [rises, okNext]
  | [d], c => by simp [rises, okNext]; rw [Bool.and_assoc, Bool.and_comm (right c)]
  | d :: e :: l, c => by
    have ih := rises_snoc (e :: l) c
    have h1 : okNext (d :: e :: l) c = okNext (e :: l) c := by simp [okNext]
    rw [h1]
    show rises (d :: e :: (l ++ [c])) = _
    rw [rises, show e :: (l ++ [c]) = (e :: l) ++ [c] from rfl, ih, rises]
    simp [Bool.and_assoc]
theorem rises_take (l : List Cl) (i : Nat) (h : i < l.length) : rises (l.take (i + 1)) = (rises (l.take i) && (right l[i] && okNext (l.take i) l[i])) := by
  rw [List.take_succ_eq_append_getElem h, rises_snoc]
theorem rises_pre : ∀ (n : Nat) (l : List Cl), rises l = true → rises (l.take n) = true := by
  intro n l h
  refine rises_of (fun c hc => rises_right h c (List.mem_of_mem_take hc)) ?_
  rw [List.map_take]
  exact (rises_nodup h).sublist (List.take_sublist _ _)
theorem rises_false {l : List Cl} {n : Nat} (h : rises (l.take n) = false) : rises l = false := by
  cases hr : rises l with
  | false => rfl
  | true => rw [rises_pre n l hr] at h; cases h
def putF (l : List Cl) : ByteArray × Bool := match put l with | some b => (⟨b.toArray⟩, true) | none => (⟨#[]⟩, false)
theorem putF_none {l : List Cl} (h : rises l = false) : putF l = (⟨#[]⟩, false) := by simp [putF, put, h]
theorem encs_length : ∀ {l : List Cl}, (∀ c ∈ l, right c = true) → (encs l).length = total l
  | [], _ => rfl
  | c :: l, h => by
    have e2 : total (c :: l) = csize c + total l := by simp [total]
    have e3 : encs (c :: l) = enc c ++ encs l := by simp [encs]
    rw [e3, e2, List.length_append, encs_length (fun d hd => h d (by simp [hd])), enc_length (h c (by simp))]
theorem csize_le {c : Cl} (h : right c = true) : csize c ≤ 60 := by
  simp only [right, decide_eq_true_eq] at h
  unfold csize
  obtain ⟨_, h2, h3⟩ := h
  split <;> simp_all <;> omega
theorem total_le : ∀ {l : List Cl}, (∀ c ∈ l, right c = true) → total l ≤ 60 * l.length
  | [], _ => by simp [total]
  | c :: l, h => by
    have e2 : total (c :: l) = csize c + total l := by simp [total]
    have h1 := csize_le (h c (by simp))
    have h2 := total_le (l := l) (fun d hd => h d (by simp [hd]))
    rw [e2, List.length_cons]
    omega
/-- What was written when i cells were gone through. -/
def acc (l : List Cl) (i : Nat) : List UInt8 := UInt8.ofNat l.length :: encs (l.take i)
theorem acc_length {l : List Cl} {i : Nat} (h : rises (l.take i) = true) (hl : l.length ≤ 240) : (acc l i).length ≤ 14401 := by
  have h1 := encs_length (rises_right h)
  have h2 := total_le (rises_right h)
  have h3 : (l.take i).length ≤ 240 := by rw [List.length_take]; omega
  simp only [acc, List.length_cons]
  omega
theorem acc_next (l : List Cl) (i : Nat) (h : i < l.length) : acc l (i + 1) = acc l i ++ enc l[i] := by
  unfold acc encs
  rw [List.take_succ_eq_append_getElem h, List.flatMap_append, List.flatMap_singleton]
  rfl
theorem byteCells_str (s : List UInt8) : Lib.strCells ⟨s.toArray⟩ = Lib.byteCells s := by
  rfl
theorem BuiltAt.below {b : Nat} {p : Value} {bs : List Value} {w w1 : World} (h : Lib.BuilderAtF 141 5 b b p bs w) (e : Eff0 w w1) : Lib.BuilderAtF 141 5 b b p bs w1 := by
  obtain ⟨hB, v, hb, ho, hne⟩ := h
  have hlt : b < w.heap.size := (Array.getElem?_eq_some_iff.1 hb).1
  exact ⟨hB, v, (e.block b hlt id).trans hb, ho.kept (row := none) ⟨e.os, e.tape, e.output, e.size, fun k hk _ => e.block k hk id⟩ (by cases v.ownBlock <;> simp), hne⟩
theorem Built.below {b : Nat} {bs : List Value} {w w1 : World} (h : Built b bs w) (e : Eff0 w w1) : Built b bs w1 := h.imp (fun h => BuiltAt.below h e) (fun h => BuiltAt.below h e)
theorem repeat_zeros (c : Nat) : Lib.repeatL (⟨#[0]⟩ : ByteArray).data.toList c = List.replicate c 0 := by
  induction c with
  | zero => rfl
  | succ n ih =>
    show 0 :: Lib.repeatL (⟨#[0]⟩ : ByteArray).data.toList n = _
    rw [ih]
    rfl
/-- What Put has done so far. -/
def PutS (w : World) (l : List Cl) (i : Nat) (wr : World) : Prop := Built w.heap.size (Lib.byteCells (acc l i)) wr ∧ Below w.heap.size w wr
theorem PutS.eff {w wr w1 : World} {l : List Cl} {i : Nat} (h : PutS w l i wr) (e : Eff0 wr w1) : PutS w l i w1 := ⟨h.1.below e, below_eff h.2 (Nat.le_refl _) e (fun _ h => h.elim)⟩
set_option maxHeartbeats 1600000 in
set_option maxRecDepth 100000 in
theorem put_many (w : World) (A : Option Addr) (c : Nat) (l : List B) (hr : Kd.C kdB w A l.length l) :
    Calls Tryz.prog 77 #[.slice A l.length c] w fun e w' => e = .returned (.tuple #[.string (putF (l.map B.cl)).1, .bool (putF (l.map B.cl)).2]) ∧ Eff0 w w' := by
  by_cases h240 : l.length ≤ 240
  · have p1 : ((l.length : Int) > 240) = False := eq_false (by omega)
    have hwrap : IntKind.u8.wrap (l.length : Int) = (((UInt8.ofNat l.length).toNat : Nat) : Int) := by
      have : (UInt8.ofNat l.length).toNat = l.length % 256 := by simp
      rw [IntKind.wrap_u8, this]
      omega
    have H := Aside0.mk hr
    have W0 : ∀ o : Obj, w.heap.size ≤ (w.alloc o).heap.size := fun o => by simp
    have CB := writeByte_calls w.heap.size [] ((((UInt8.ofNat l.length).toNat : Nat) : Int)) (w.alloc (.cells #[.pointer none, .slice none 0 0] 141)) (Lib.IsBuilderF.of (Lib.fresh_isBuilder 141 5 w)) (by simp)
    have hl : (l.map B.cl).length = l.length := by simp
    have ha : Lib.byteCells (acc (l.map B.cl) 0) = [] ++ [.int .u8 ((((UInt8.ofNat l.length).toNat : Nat) : Int))] := by simp [acc, encs, Lib.byteCells]
    have A1 : ∀ w1, BuiltAt w.heap.size ([] ++ [.int .u8 ((((UInt8.ofNat l.length).toNat : Nat) : Int))]) w1 ∧ Below w.heap.size (w.alloc (.cells #[.pointer none, .slice none 0 0] 141)) w1 → Aside0 (PutS w (l.map B.cl) 0 w1) := by
      rintro w1 ⟨h1, h2⟩
      refine Aside0.mk ⟨?_, (below_alloc (Below.refl _ _) _).trans h2⟩
      rw [ha]
      exact .inr h1
    clear hr ha
    go_enter Tryz.func77, Tryz.ntmps77
    go_wp2_with (first | (go_at_call 99; go_loud (refine CB.mono ?_; rintro e w1 ⟨rfl, hU⟩; have S0 := A1 _ hU; clear hU A1 CB)))
    go_loopg [16] l.length (fun k s16 wr => ∃ i : Nat, s16 = .int .i64 i ∧ i + k = l.length ∧ Aside0 (rises ((l.map B.cl).take i) = true ∧ PutS w (l.map B.cl) i wr))
    case atStart => exact ⟨0, rfl, by omega, Aside0.mk ⟨by simp [rises], S0.out⟩⟩
    case round =>
      clear S0 W0
      obtain ⟨i, rfl, h1, A1⟩ := hrel
      by_cases hi : i < l.length
      · have p2 : ((i : Int) < (l.length : Int)) = True := eq_true (by omega)
        have p0 : (0 ≤ (i : Int)) = True := eq_true (by omega)
        obtain ⟨ad, ea, x0, x1, x2, x3⟩ := at_B (Kd.C_below H.out A1.out.2.2) i hi
        subst ea
        obtain ⟨q, hq⟩ : ∃ q, q = l.getD i default := ⟨_, rfl⟩
        rw [← hq] at x0 x1 x2 x3
        have A2 := Aside0.mk hq
        clear hq
        have A3 : Aside0 (∀ hi2 : i < (l.map B.cl).length, (l.map B.cl)[i] = q.cl) := Aside0.mk (by intro hi2; rw [List.getElem_map]; congr 1; rw [A2.out]; simp [List.getD, hi])
        have b0 := blk_cell (heap_alloc_new wr (.cells #[.string q.k, .string q.v, .int .i64 q.bl, .int .i64 q.sz] 42 (0, 0))) 0
        have b1 := blk_cell (heap_alloc_new wr (.cells #[.string q.k, .string q.v, .int .i64 q.bl, .int .i64 q.sz] 42 (0, 0))) 1
        have b2 := blk_cell (heap_alloc_new wr (.cells #[.string q.k, .string q.v, .int .i64 q.bl, .int .i64 q.sz] 42 (0, 0))) 2
        have b3 := blk_cell (heap_alloc_new wr (.cells #[.string q.k, .string q.v, .int .i64 q.bl, .int .i64 q.sz] 42 (0, 0))) 3
        have hbx : wr.heap.size < (wr.alloc (.cells #[.string q.k, .string q.v, .int .i64 q.bl, .int .i64 q.sz] 42 (0, 0))).heap.size := by simp
        have e0 : Aside0 (Eff0 wr (wr.alloc (.cells #[.string q.k, .string q.v, .int .i64 q.bl, .int .i64 q.sz] 42 (0, 0)))) := Aside0.mk ((Eff.refl _ _).alloc _)
        cases hR : right q.cl with
        | false =>
          have C : ∀ W : World, Calls Tryz.prog 23 #[.agg #[.string q.k, .string q.v, .int .i64 q.bl, .int .i64 q.sz]] W fun e w' => e = .returned (.bool false) ∧ Eff0 W w' := fun W => by rw [← hR]; exact right_calls W q
          go_wp2
          generalize wr.alloc (.cells #[.string q.k, .string q.v, .int .i64 q.bl, .int .i64 q.sz] 42 (0, 0)) = wq at *
          have B0 := Since.cell hbx b0
          have B1 := Since.cell hbx b1
          have B2 := Since.cell hbx b2
          have B3 := Since.cell hbx b3
          refine wp_region_since (by kernel_rfl) (by kernel_rfl) ?_
          quiet_step (fail)
          quiet_step ((go_at_call 23; exact Calls.since (C _)))
          quiet_step (fail)
          quiet_step (fail)
          iterate 13 (with_reducible refine wpQuiet_skip (by kernel_rfl) (by (simp only [Act.put, List.setIfInBounds_toArray, List.set_cons_zero, List.set_cons_succ]; rfl)) ?_)
          quiet_step (fail)
          refine wpQuiet_nil ?_
          intro _ hw'
          obtain ⟨p, rfl⟩ := hw'
          have hp : putF (l.map B.cl) = (⟨#[]⟩, false) := putF_none (rises_false (n := i + 1) (by rw [rises_take _ i (by rw [hl]; exact hi), A3.out (by rw [hl]; exact hi)]; rw [hR]; simp))
          have HP := Aside0.mk hp
          clear hp
          go_wp2
          go_ret2
          exact ⟨by rw [HP.out]; rfl, (Eff.of_below A1.out.2.2).then0 (e0.out.then0 p.eff)⟩
        | true =>
          have C : ∀ W : World, Calls Tryz.prog 23 #[.agg #[.string q.k, .string q.v, .int .i64 q.bl, .int .i64 q.sz]] W fun e w' => e = .returned (.bool true) ∧ Eff0 W w' := fun W => by rw [← hR]; exact right_calls W q
          by_cases hz : i = 0
          · have pz1 : ((i : Int) > 0) = False := eq_false (by omega)
            have pz2 : (0 < i) = False := eq_false (by omega)
            have A4 := Aside0.mk hz
            clear hz
            go_wp2
            generalize wr.alloc (.cells #[.string q.k, .string q.v, .int .i64 q.bl, .int .i64 q.sz] 42 (0, 0)) = wq at *
            have B0 := Since.cell hbx b0
            have B1 := Since.cell hbx b1
            have B2 := Since.cell hbx b2
            have B3 := Since.cell hbx b3
            refine wp_region_since (by kernel_rfl) (by kernel_rfl) ?_
            quiet_step (fail)
            quiet_step ((go_at_call 23; exact Calls.since (C _)))
            quiet_step (fail)
            quiet_step (fail)
            iterate 3 ((with_reducible refine wpQuiet_go (by kernel_rfl) (fun K hK => ?_)); go_simp; (with_reducible refine hK _ ?_); clear hK K)
            iterate 9 (with_reducible refine wpQuiet_skip (by kernel_rfl) (by (simp only [Act.put, List.setIfInBounds_toArray, List.set_cons_zero, List.set_cons_succ]; rfl)) ?_)
            ((with_reducible refine wpQuiet_go (by kernel_rfl) (fun K hK => ?_)); go_simp; (with_reducible refine hK _ ?_); clear hK K)
            quiet_step (fail)
            refine wpQuiet_nil ?_
            intro _ hw'
            obtain ⟨p, rfl⟩ := hw'
            have hS := A1.out.2.eff (e0.out.then0 p.eff)
            have hA2 : (acc (l.map B.cl) i).length ≤ 14401 := acc_length A1.out.1 (by rw [hl]; exact h240)
            have CP := put_calls p.here q hR
            have CW : ∀ w1, Eff0 p.here w1 → Calls Tryz.prog 100 #[.pointer (some ⟨w.heap.size, 0, none⟩), .string ⟨(enc q.cl).toArray⟩] w1 fun e w' => (∃ v, e = .returned v) ∧ Aside0 (rises ((l.map B.cl).take (i + 1)) = true ∧ PutS w (l.map B.cl) (i + 1) w') := by
              intro w1 e1
              have hS1 := hS.eff e1
              have hsz : (⟨(enc q.cl).toArray⟩ : ByteArray).size = (enc q.cl).length := size_data _
              have hle : (enc q.cl).length ≤ 60 := by rw [enc_length hR]; exact csize_le hR
              refine (writeString_calls w.heap.size _ ⟨(enc q.cl).toArray⟩ w1 hS1.1 (by rw [Lib.byteCells_length, hsz]; omega)).mono ?_
              rintro e w' ⟨he, hb, hbel⟩
              refine ⟨⟨_, he⟩, Aside0.mk ⟨?_, ?_, hS1.2.trans hbel⟩⟩
              · rw [rises_take _ i (by rw [hl]; exact hi), A3.out (by rw [hl]; exact hi), A1.out.1, hR]
                have hz := A4.out
                subst hz
                simp [okNext]
              · rw [acc_next _ i (by rw [hl]; exact hi), A3.out (by rw [hl]; exact hi), Lib.byteCells_append]
                exact .inr hb
            have g0 := B0 p
            have g1 := B1 p
            have g2 := B2 p
            have g3 := B3 p
            clear hS hA2 B0 B1 B2 B3 C
            go_wp2_with (first
              | (go_at_call 101; refine CP.mono ?_; rintro e w2 ⟨rfl, e2⟩)
              | (go_at_call 100; refine (CW _ (by first | exact e2 | exact e2.drew)).mono ?_; rintro e w3 ⟨⟨v, rfl⟩, A9⟩; clear CW CP))
            go_roundg (gk - 1)
            case measure => omega
            case rel => exact ⟨i + 1, by simp, by omega, A9⟩
          · obtain ⟨d, hd⟩ : ∃ d, d = l.getD (i - 1) default := ⟨_, rfl⟩
            obtain ⟨ad', ea, y0, _⟩ := at_B (Kd.C_below H.out A1.out.2.2) (i - 1) (by omega)
            injection ea with ea
            subst ea
            rw [← hd] at y0
            have A4 : Aside0 (∀ hi2 : i - 1 < (l.map B.cl).length, (l.map B.cl)[i - 1] = d.cl) := Aside0.mk (by intro hi2; rw [List.getElem_map]; congr 1; rw [hd]; simp [List.getD, show i - 1 < l.length by omega])
            have A5 : Aside0 (okNext ((l.map B.cl).take i) q.cl = decide (d.cl.k < q.cl.k)) := Aside0.mk (by
              have e : (l.map B.cl).take i = (l.map B.cl).take (i - 1) ++ [(l.map B.cl)[i - 1]'(by rw [hl]; omega)] := by
                rw [← List.take_succ_eq_append_getElem]
                congr 1
                omega
              rw [e, A4.out]
              simp [okNext])
            clear hd A4
            have hL0 : Op.bytesLess d.k.toList q.k.toList = decide (d.cl.k < q.cl.k) := by rw [bytesLess_eq, Lib.toList_data, Lib.toList_data]; rfl
            cases hL : decide (d.cl.k < q.cl.k) with
            | false =>
              rw [hL] at hL0 A5
              go_wp2
              obtain ⟨jj, hjj⟩ : ∃ jj : Int, (i : Int) = jj := ⟨_, rfl⟩
              obtain ⟨kk, hkk⟩ : ∃ kk : Int, jj - 1 = kk := ⟨_, rfl⟩
              have pg : (jj > 0) = True := eq_true (by omega)
              have pk0 : (0 ≤ kk) = True := eq_true (by omega)
              have pk1 : (kk < (l.length : Int)) = True := eq_true (by omega)
              have ik : i - 1 = kk.toNat := by omega
              rw [ik] at y0
              have hw : IntKind.i64.wrap (jj - 1) = kk := by rw [IntKind.wrap_i64]; omega
              have hw2 : wrap64 (jj - 1) = kk := by unfold wrap64; omega
              generalize wr.alloc (.cells #[.string q.k, .string q.v, .int .i64 q.bl, .int .i64 q.sz] 42 (0, 0)) = wq at *
              have B0 := Since.cell hbx b0
              have B1 := Since.cell hbx b1
              have B2 := Since.cell hbx b2
              have B3 := Since.cell hbx b3
              have yl : (ad.add (kk.toNat * 4)).block < wr.heap.size := World.block_lt_of_cell? wr _ y0
              have y1 : wq.cell? (ad.add (kk.toNat * 4)) = some (.string d.k) := Since.cell yl y0 ⟨wq, e0.out⟩
              have Y := Since.cell (Nat.lt_of_lt_of_le yl e0.out.size) y1
              rw [hjj]
              have A6 := Aside0.mk hjj
              clear hjj hkk ik
              refine wp_region_since (by kernel_rfl) (by kernel_rfl) ?_
              quiet_step (fail)
              quiet_step ((go_at_call 23; exact Calls.since (C _)))
              quiet_step (fail)
              quiet_step (fail)
              iterate 13 ((with_reducible refine wpQuiet_go (by kernel_rfl) (fun K hK => ?_)); go_simp; (with_reducible refine hK _ ?_); clear hK K)
              quiet_step (fail)
              refine wpQuiet_nil ?_
              intro _ hw'
              obtain ⟨p, rfl⟩ := hw'
              obtain rfl := A6.out
              have hp : putF (l.map B.cl) = (⟨#[]⟩, false) := putF_none (rises_false (n := i + 1) (by rw [rises_take _ i (by rw [hl]; exact hi), A3.out (by rw [hl]; exact hi)]; rw [A5.out]; simp))
              have HP := Aside0.mk hp
              clear hp
              go_wp2
              go_ret2
              exact ⟨by rw [HP.out]; rfl, (Eff.of_below A1.out.2.2).then0 (e0.out.then0 p.eff)⟩
            | true =>
              rw [hL] at hL0 A5
              go_wp2
              obtain ⟨jj, hjj⟩ : ∃ jj : Int, (i : Int) = jj := ⟨_, rfl⟩
              obtain ⟨kk, hkk⟩ : ∃ kk : Int, jj - 1 = kk := ⟨_, rfl⟩
              have pg : (jj > 0) = True := eq_true (by omega)
              have pk0 : (0 ≤ kk) = True := eq_true (by omega)
              have pk1 : (kk < (l.length : Int)) = True := eq_true (by omega)
              have ik : i - 1 = kk.toNat := by omega
              rw [ik] at y0
              have hw : IntKind.i64.wrap (jj - 1) = kk := by rw [IntKind.wrap_i64]; omega
              have hw2 : wrap64 (jj - 1) = kk := by unfold wrap64; omega
              generalize wr.alloc (.cells #[.string q.k, .string q.v, .int .i64 q.bl, .int .i64 q.sz] 42 (0, 0)) = wq at *
              have B0 := Since.cell hbx b0
              have B1 := Since.cell hbx b1
              have B2 := Since.cell hbx b2
              have B3 := Since.cell hbx b3
              have yl : (ad.add (kk.toNat * 4)).block < wr.heap.size := World.block_lt_of_cell? wr _ y0
              have y1 : wq.cell? (ad.add (kk.toNat * 4)) = some (.string d.k) := Since.cell yl y0 ⟨wq, e0.out⟩
              have Y := Since.cell (Nat.lt_of_lt_of_le yl e0.out.size) y1
              rw [hjj]
              have A6 := Aside0.mk hjj
              clear hjj hkk ik
              refine wp_region_since (by kernel_rfl) (by kernel_rfl) ?_
              quiet_step (fail)
              quiet_step ((go_at_call 23; exact Calls.since (C _)))
              quiet_step (fail)
              quiet_step (fail)
              iterate 13 ((with_reducible refine wpQuiet_go (by kernel_rfl) (fun K hK => ?_)); go_simp; (with_reducible refine hK _ ?_); clear hK K)
              quiet_step (fail)
              refine wpQuiet_nil ?_
              intro _ hw'
              obtain ⟨p, rfl⟩ := hw'
              obtain rfl := A6.out
              have hS := A1.out.2.eff (e0.out.then0 p.eff)
              have hA2 : (acc (l.map B.cl) i).length ≤ 14401 := acc_length A1.out.1 (by rw [hl]; exact h240)
              have CP := put_calls p.here q hR
              have CW : ∀ w1, Eff0 p.here w1 → Calls Tryz.prog 100 #[.pointer (some ⟨w.heap.size, 0, none⟩), .string ⟨(enc q.cl).toArray⟩] w1 fun e w' => (∃ v, e = .returned v) ∧ Aside0 (rises ((l.map B.cl).take (i + 1)) = true ∧ PutS w (l.map B.cl) (i + 1) w') := by
                intro w1 e1
                have hS1 := hS.eff e1
                have hsz : (⟨(enc q.cl).toArray⟩ : ByteArray).size = (enc q.cl).length := size_data _
                have hle : (enc q.cl).length ≤ 60 := by rw [enc_length hR]; exact csize_le hR
                refine (writeString_calls w.heap.size _ ⟨(enc q.cl).toArray⟩ w1 hS1.1 (by rw [Lib.byteCells_length, hsz]; omega)).mono ?_
                rintro e w' ⟨he, hb, hbel⟩
                refine ⟨⟨_, he⟩, Aside0.mk ⟨?_, ?_, hS1.2.trans hbel⟩⟩
                · rw [rises_take _ i (by rw [hl]; exact hi), A3.out (by rw [hl]; exact hi), A1.out.1, hR]
                  rw [A5.out]; rfl
                · rw [acc_next _ i (by rw [hl]; exact hi), A3.out (by rw [hl]; exact hi), Lib.byteCells_append]
                  exact .inr hb
              have g0 := B0 p
              have g1 := B1 p
              have g2 := B2 p
              have g3 := B3 p
              clear hS hA2 B0 B1 B2 B3 C
              go_wp2_with (first
                | (go_at_call 101; refine CP.mono ?_; rintro e w2 ⟨rfl, e2⟩)
                | (go_at_call 100; refine (CW _ (by first | exact e2 | exact e2.drew)).mono ?_; rintro e w3 ⟨⟨v, rfl⟩, A9⟩; clear CW CP))
              go_roundg (gk - 1)
              case measure => omega
              case rel => exact ⟨i + 1, by simp, by omega, A9⟩
      · have p2 : ((i : Int) < (l.length : Int)) = False := eq_false (by omega)
        have hin : i = l.length := by omega
        subst hin
        have hr0 : rises (l.map B.cl) = true := by have := A1.out.1; rwa [List.take_of_length_le (by rw [hl]; exact Nat.le_refl _)] at this
        have hN : (acc (l.map B.cl) l.length).length = 1 + total (l.map B.cl) := by
          unfold acc
          rw [List.take_of_length_le (by rw [hl]; exact Nat.le_refl _), List.length_cons, encs_length (rises_right hr0), Nat.add_comm]
        have CL : ∀ w1, Built w.heap.size (Lib.byteCells (acc (l.map B.cl) l.length)) w1 → Calls Tryz.prog 102 #[.pointer (some ⟨w.heap.size, 0, none⟩)] w1 fun e w' => e = .returned (.int .i64 ((1 + total (l.map B.cl) : Nat))) ∧ w' = w1 := by
          intro w1 h1
          have := Tryz.Builder_Len_f _ _ _ w1 h1
          rw [Lib.byteCells_length, hN] at this
          exact this
        have S1 := A1.out.2.1
        by_cases hT : 1 + total (l.map B.cl) ≤ 240
        · have p3 : (((1 + total (l.map B.cl) : Nat) : Int) > 240) = False := eq_false (by omega)
          have CS : Calls Tryz.prog 103 #[.pointer (some ⟨w.heap.size, 0, none⟩)] wr fun e w' => e = .returned (.string ⟨(acc (l.map B.cl) l.length).toArray⟩) ∧ Built w.heap.size (Lib.byteCells (acc (l.map B.cl) l.length)) w' ∧ Aside0 (Below w.heap.size w w') :=
            (Tryz.Builder_String_any_k _ _ _ wr S1 (Nat.le_of_lt S1.lt)).mono fun e w' ⟨he, h1, h2, _⟩ => ⟨he, h1, Aside0.mk (A1.out.2.2.trans h2)⟩
          have hq : ((239 - total (l.map B.cl) : Nat) : Int) = 240 - ((1 + total (l.map B.cl) : Nat) : Int) := by omega
          have CR : ∀ w1, Calls Tryz.prog 104 #[.string ⟨#[0]⟩, .int .i64 ((239 - total (l.map B.cl) : Nat))] w1 fun e w' => e = .returned (.string ⟨(List.replicate (239 - total (l.map B.cl)) 0).toArray⟩) ∧ Aside0 (Eff0 w1 w') := by
            intro w1
            have := Tryz.strings_Repeat ⟨#[0]⟩ (239 - total (l.map B.cl)) w1 (by omega) (by show 1 * _ ≤ _; omega)
            rw [repeat_zeros] at this
            exact this.mono fun e w' ⟨he, h1⟩ => ⟨he, Aside0.mk (Eff.of_below h1)⟩
          have hput : putF (l.map B.cl) = (⟨(acc (l.map B.cl) l.length).toArray⟩ ++ ⟨(List.replicate (239 - total (l.map B.cl)) 0).toArray⟩, true) := by
            unfold putF put
            rw [if_pos ⟨by rw [hl]; exact h240, hr0, hT⟩]
            refine Prod.ext (eq_of_data ?_) rfl
            rw [app_data]
            show _ = acc (l.map B.cl) l.length ++ List.replicate (239 - total (l.map B.cl)) 0
            unfold acc
            rw [List.take_of_length_le (by rw [hl]; exact Nat.le_refl _)]
            rfl
          have hsz : (⟨(acc (l.map B.cl) l.length).toArray⟩ : ByteArray).size + (⟨(List.replicate (239 - total (l.map B.cl)) 0).toArray⟩ : ByteArray).size = 240 := by
            rw [size_data, size_data]
            show (acc (l.map B.cl) l.length).length + (List.replicate (239 - total (l.map B.cl)) (0 : UInt8)).length = 240
            rw [hN, List.length_replicate]
            omega
          have HP := Aside0.mk hput
          clear hput hN
          generalize (⟨(acc (l.map B.cl) l.length).toArray⟩ : ByteArray) = t1 at *
          generalize (⟨(List.replicate (239 - total (l.map B.cl)) 0).toArray⟩ : ByteArray) = t2 at *
          have p5 : (9223372036854775807 < t1.size + t2.size) = False := eq_false (by omega)
          generalize 239 - total (l.map B.cl) = n2 at *
          generalize 1 + total (l.map B.cl) = n1 at *
          have hw : IntKind.i64.wrap (240 - (n1 : Int)) = (n2 : Int) := by rw [IntKind.wrap_i64]; omega
          have hw2 : wrap64 (240 - (n1 : Int)) = (n2 : Int) := by unfold wrap64; omega
          clear hsz hq
          go_wp2_with (first
            | (go_at_call 102; refine (CL _ S1).mono ?_; rintro e w' ⟨rfl, rfl⟩)
            | (go_at_call 103; refine CS.mono ?_; rintro e w2 ⟨rfl, S2, K2⟩)
            | (go_at_call 102; refine (CL _ S2).mono ?_; rintro e w' ⟨rfl, rfl⟩)
            | (go_at_call 104; refine (CR _).mono ?_; rintro e w3 ⟨rfl, K3⟩))
          go_ret2
          exact ⟨by rw [HP.out]; rfl, (Eff.of_below K2.out).then0 K3.out⟩
        · have p3 : (((1 + total (l.map B.cl) : Nat) : Int) > 240) = True := eq_true (by omega)
          have hput : putF (l.map B.cl) = (⟨#[]⟩, false) := by simp [putF, put, hT]
          have HP := Aside0.mk hput
          clear hput hN
          generalize 1 + total (l.map B.cl) = n1 at *
          go_wp2_with (go_at_call 102; refine (CL _ S1).mono ?_; rintro e w' ⟨rfl, rfl⟩)
          go_ret2
          exact ⟨by rw [HP.out]; rfl, Eff.of_below A1.out.2.2⟩
  · have p1 : ((l.length : Int) > 240) = True := eq_true (by omega)
    have hp : putF (l.map B.cl) = (⟨#[]⟩, false) := by simp [putF, put, h240]
    rw [hp]
    clear hr h240
    go_enter Tryz.func77, Tryz.ntmps77
    go_wp2
    go_ret2
    exact ⟨rfl, (Eff.refl _ _).alloc _⟩
end Go.Proofs.YtcmepoakcffpaaaGreat.CP
