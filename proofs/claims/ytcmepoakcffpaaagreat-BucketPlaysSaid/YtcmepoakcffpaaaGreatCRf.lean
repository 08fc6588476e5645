import Derived.Test.YtcmepoakcffpaaaGreatMRx
import Derived.Test.YtcmepoakcffpaaaGreatCCorr
import Derived.Test.YtcmepoakcffpaaaGreatProg
import Derived.BigRegion
import Derived.BigQuiet
import Derived.Deep.QuietTactic
import Derived.Deep.AppendLies
import Derived.ChangeAlike
import Derived.Outline
import Derived.WalkKit
import Derived.KernelRfl
import Derived.Deep.LoopGhost
import Derived.Deep.RegionLaw
import Derived.Test.YtcmepoakcffpaaaGreatWMore
import Derived.Test.YtcmepoakcffpaaaGreatWKept
import Derived.Test.YtcmepoakcffpaaaGreatLSep
import Derived.Deep.CutBlock
import Derived.Test.YtcmepoakcffpaaaGreatBKC
import Derived.Laws.Strings2
namespace Go.Proofs.YtcmepoakcffpaaaGreat.CP
open Go Go.RowKit Go.Proofs.YtcmepoakcffpaaaGreatW.PrintWords Go.Proofs.YtcmepoakcffpaaaGreatW.PrintLast Go.Proofs.YtcmepoakcffpaaaGreatW.PrintMore Go.Proofs.YtcmepoakcffpaaaGreat.CR Go.Proofs.YtcmepoakcffpaaaGreat.L Go.Proofs.YtcmepoakcffpaaaGreat.MR
set_option linter.unusedVariables false
set_option linter.unusedSimpArgs false
/-! ### the document's cells: CellRight, CellSize, Fits, CellsPut are the plain law -/
abbrev Sc := MR.S42
def bOf (x : Sc) : B := ⟨x.f0, x.f1, x.f2, x.f3⟩
def sOf (x : B) : Sc := ⟨x.k, x.v, x.bl, x.sz⟩
theorem bOf_s (x : B) : bOf (sOf x) = x := rfl
theorem sOf_b (x : Sc) : sOf (bOf x) = x := rfl
abbrev clS (x : Sc) : Cl := (bOf x).cl
theorem clS_k (x : Sc) : (clS x).k = x.f0.data.toList := rfl
theorem clS_v (x : Sc) : (clS x).v = x.f1.data.toList := rfl
theorem rdS (l : List Sc) (i : Nat) (h : i < l.length) : MR.rd_T42 l (i : Int) = l[i] := by
  unfold MR.rd_T42
  simp [List.getD, h]
theorem rright (x : Sc) : MR.honeycombref1_CellRight.f x.f0 x.f1 x.f2 x.f3 = some (right (clS x)) := by
  unfold MR.honeycombref1_CellRight.f MR.honeycombref1_Key.f right clS bOf B.cl
  have h1 := size_data x.f0
  have h2 := size_data x.f1
  simp only [toList_nil_iff]
  generalize x.f0.data.toList = K at *
  generalize x.f1.data.toList = V at *
  rw [h1, h2]
  generalize x.f2 = bl
  generalize x.f3 = sz
  clear h1 h2
  by_cases a : (K.length : Int) ≥ 1
  · have a' : 1 ≤ K.length := by omega
    rw [if_pos a, Option.bind_some]
    by_cases b : K.length ≤ 16
    · rw [decide_eq_true (show (K.length : Int) ≤ 16 by omega), if_pos rfl]
      by_cases d : bl = 0
      · rw [if_pos d]
        by_cases f : V.length ≤ 40
        · rw [if_pos (show (V.length : Int) ≤ 40 by omega)]
          simp only [a', b, d, f, true_and, if_true]
          rw [Option.some.injEq, Bool.eq_iff_iff]
          simp
        · rw [if_neg (show ¬ (V.length : Int) ≤ 40 by omega)]
          simp [d, f]
      · rw [if_neg d]
        by_cases g1 : bl ≥ 2
        · rw [if_pos g1]
          by_cases g2 : bl < 64
          · rw [if_pos g2]
            by_cases g3 : V = []
            · rw [if_pos g3]
              by_cases g4 : sz > 40
              · rw [if_pos g4]
                simp [a', b, d, g1, g2, g3, g4]
              · rw [if_neg g4]
                simp [d, g4]
            · rw [if_neg g3]
              simp [d, g3]
          · rw [if_neg g2]
            simp [d, g2]
        · rw [if_neg g1]
          simp [d]
          intro _ _ h
          omega
    · rw [decide_eq_false (show ¬ (K.length : Int) ≤ 16 by omega), if_neg (by simp)]
      simp [b]
  · have a' : ¬ 1 ≤ K.length := by omega
    rw [if_neg a, Option.bind_some, if_neg (by simp)]
    simp [a']
theorem rsize (x : Sc) (h : right (clS x) = true) : MR.honeycombref1_CellSize.f x.f0 x.f1 x.f2 x.f3 = some ((csize (clS x) : Nat) : Int) := by
  simp only [right, decide_eq_true_eq] at h
  obtain ⟨h1, h2, h3⟩ := h
  unfold MR.honeycombref1_CellSize.f csize
  rw [clS_k, clS_v] at *
  rw [← size_data] at *
  rw [← size_data] at *
  replace h3 : if x.f2 = 0 then x.f1.size ≤ 40 ∧ x.f3 = 0 else 2 ≤ x.f2 ∧ x.f2 < 64 ∧ x.f1.data.toList = [] ∧ 40 < x.f3 ∧ x.f3 ≤ 400 := h3
  rw [show (clS x).bl = x.f2 from rfl]
  by_cases hb : x.f2 = 0
  · rw [if_pos hb] at h3
    rw [if_pos hb, if_pos hb]
    congr 1
    unfold wrap64
    omega
  · rw [if_neg hb] at h3
    rw [if_neg hb, if_neg hb]
    congr 1
    unfold wrap64
    omega
def clsS (l : List Sc) : List Cl := l.map clS
theorem clsS_len (l : List Sc) : (clsS l).length = l.length := by simp [clsS]
theorem total_take (l : List Cl) (i : Nat) (h : i < l.length) : total (l.take (i + 1)) = total (l.take i) + csize l[i] := by
  unfold total
  rw [List.take_succ_eq_append_getElem h, List.map_append, List.sum_append]
  simp
theorem keyeq (x y : Sc) : x.f0.toList = y.f0.toList ↔ (clS x).k = (clS y).k := by
  rw [Lib.toList_data, Lib.toList_data]; rfl
/-- The keys of the first i are each once. -/
abbrev Nd (l : List Sc) (i : Nat) : Prop := (((clsS l).take i).map Cl.k).Nodup
theorem fits_no_right {l : List Cl} {c : Cl} (hc : c ∈ l) (h : right c = false) : fits l = false := by
  cases hf : fits l with
  | false => rfl
  | true =>
    simp only [fits, decide_eq_true_eq] at hf
    rw [hf.2.1 c hc] at h
    cases h
theorem fits_two {l : List Cl} {i j : Nat} (hi : i < l.length) (hj : j < i) (h : (l[j]'(by omega)).k = l[i].k) : fits l = false := by
  cases hf : fits l with
  | false => rfl
  | true =>
    simp only [fits, decide_eq_true_eq] at hf
    have := (List.nodup_iff_pairwise_ne.1 hf.2.2.1)
    rw [List.pairwise_iff_getElem] at this
    have := this j i (by rw [List.length_map]; omega) (by rw [List.length_map]; exact hi) hj
    rw [List.getElem_map, List.getElem_map] at this
    exact absurd h this
theorem total_ge : ∀ {l : List Cl}, 4 * l.length ≤ total l
  | [] => by simp [total]
  | c :: l => by
    have e2 : total (c :: l) = csize c + total l := by simp [total]
    have h2 := total_ge (l := l)
    have h3 : 4 ≤ csize c := by unfold csize; omega
    rw [e2, List.length_cons]
    omega
theorem fits_l1 (l : List Sc) (hl : l.length < 900000) (i : Nat) (hd : i < l.length) (hr : ∀ c ∈ (clsS l).take i, right c = true) (hn : Nd l i) (h : right (clS (l[i]'(by omega))) = true) (next : (∀ c ∈ (clsS l).take (i + 1), right c = true) → Nd l (i + 1) → Ev (fun k => MR.honeycombref1_Fits.l0 k l ((1 + total ((clsS l).take (i + 1)) : Nat) : Int) ((i + 1 : Nat) : Int)) (fits (clsS l))) : ∀ (m j : Nat) (hjm : j + m = i), (∀ (j' : Nat) (hj : j' < j), (clS (l[j']'(by omega))).k ≠ (clS (l[i]'(by omega))).k) → Ev (fun k => MR.honeycombref1_Fits.l1 k l ((1 + total ((clsS l).take i) : Nat) : Int) (i : Int) (j : Int)) (fits (clsS l))
  | 0, j, hj, hne => by
    have hi : i < l.length := by omega
    have hi' : i < (clsS l).length := by rw [clsS_len]; exact hi
    have hci : (clsS l)[i] = clS l[i] := by simp [clsS]
    obtain rfl : j = i := by omega
    have ht := total_take (clsS l) j hi'
    have hb := total_le (l := (clsS l).take j) hr
    rw [List.length_take] at hb
    have hc := csize_le h
    refine Ev.step (f := fun k => MR.honeycombref1_Fits.l0 k l ((1 + total ((clsS l).take (j + 1)) : Nat) : Int) ((j + 1 : Nat) : Int)) (fun k => ?_) (next ?_ ?_)
    · rw [MR.honeycombref1_Fits.l1, if_neg (by omega), if_pos (by omega), if_pos (by omega), rdS l j hi, rsize _ h, Option.bind_some]
      rw [ht, hci]
      have e1 : wrap64 (((1 + total ((clsS l).take j) : Nat) : Int) + ((csize (clS l[j]) : Nat) : Int)) = ((1 + (total ((clsS l).take j) + csize (clS l[j])) : Nat) : Int) := by unfold wrap64; omega
      have e2 : wrap64 ((j : Int) + 1) = ((j + 1 : Nat) : Int) := by unfold wrap64; omega
      rw [e1, e2]
    · intro c hc
      rw [List.take_succ_eq_append_getElem hi'] at hc
      rcases List.mem_append.1 hc with hc | hc
      · exact hr c hc
      · rw [List.mem_singleton.1 hc, hci]
        exact h
    · unfold Nd
      rw [List.take_succ_eq_append_getElem hi', List.map_append]
      refine List.nodup_append.2 ⟨hn, by simp, fun a ha b hb => ?_⟩
      simp only [List.map_cons, List.map_nil, List.mem_singleton] at hb
      subst hb
      obtain ⟨c, hc, rfl⟩ := List.mem_map.1 ha
      obtain ⟨p, hp, rfl⟩ := List.getElem_of_mem hc
      rw [List.length_take] at hp
      rw [List.getElem_take, hci]
      have := hne p (by omega)
      simpa [clsS] using this
  | m + 1, j, hj, hne => by
    have hi : i < l.length := by omega
    have hi' : i < (clsS l).length := by rw [clsS_len]; exact hi
    have hci : (clsS l)[i] = clS l[i] := by simp [clsS]
    have hjl : j < l.length := by omega
    refine Ev.step (f := fun k => if (clS l[j]).k = (clS l[i]).k then some false else MR.honeycombref1_Fits.l1 k l ((1 + total ((clsS l).take i) : Nat) : Int) (i : Int) ((j + 1 : Nat) : Int)) (fun k => ?_) ?_
    · rw [MR.honeycombref1_Fits.l1, if_pos (by omega), if_pos (by omega), if_pos (by omega), if_pos (by omega), if_pos (by omega), rdS l j hjl, rdS l i hi]
      have e2 : wrap64 ((j : Int) + 1) = ((j + 1 : Nat) : Int) := by unfold wrap64; omega
      rw [e2]
      by_cases he : (clS l[j]).k = (clS l[i]).k
      · rw [if_pos he, if_pos ((keyeq _ _).2 he)]
      · rw [if_neg he, if_neg (fun h => he ((keyeq _ _).1 h))]
    · by_cases he : (clS l[j]).k = (clS l[i]).k
      · have hf : fits (clsS l) = false := fits_two (i := i) (j := j) hi' (by omega) (by simpa [clsS] using he)
        rw [hf]
        exact Ev.congr (f := fun _ => some false) (fun k => by rw [if_pos he]) (Ev.now _)
      · refine Ev.congr (f := fun k => MR.honeycombref1_Fits.l1 k l ((1 + total ((clsS l).take i) : Nat) : Int) (i : Int) ((j + 1 : Nat) : Int)) (fun k => by rw [if_neg he]) ?_
        refine fits_l1 l hl i hd hr hn h next m (j + 1) (by omega) (fun j' hj' => ?_)
        by_cases e : j' = j
        · subst e; exact he
        · exact hne j' (by omega)
theorem fits_l0 (l : List Sc) (hl : l.length < 900000) : ∀ (d i : Nat), i + d = l.length → (∀ c ∈ (clsS l).take i, right c = true) → Nd l i → Ev (fun k => MR.honeycombref1_Fits.l0 k l ((1 + total ((clsS l).take i) : Nat) : Int) (i : Int)) (fits (clsS l))
  | 0, i, hd, hr, hn => by
    refine Ev.step (f := fun _ => some (fits (clsS l))) (fun k => ?_) (Ev.now _)
    rw [MR.honeycombref1_Fits.l0, if_neg (by omega)]
    congr 1
    have ht : (clsS l).take i = clsS l := List.take_of_length_le (by rw [clsS_len]; omega)
    unfold Nd at hn
    rw [ht] at hr hn ⊢
    have := total_ge (l := clsS l)
    unfold fits
    refine decide_eq_decide.2 ⟨fun h => ⟨by omega, hr, hn, by omega⟩, fun h => by omega⟩
  | d + 1, i, hd, hr, hn => by
    have hi : i < l.length := by omega
    have hi' : i < (clsS l).length := by rw [clsS_len]; exact hi
    have hci : (clsS l)[i] = clS l[i] := by simp [clsS]
    refine Ev.step (f := fun k => if right (clS l[i]) = true then MR.honeycombref1_Fits.l1 k l ((1 + total ((clsS l).take i) : Nat) : Int) (i : Int) ((0 : Nat) : Int) else some false) (fun k => ?_) ?_
    · rw [MR.honeycombref1_Fits.l0, if_pos (by omega), if_pos (by omega), rdS l i hi, rright, Option.bind_some]
      rfl
    · by_cases h : right (clS l[i]) = true
      · refine Ev.congr (f := fun k => MR.honeycombref1_Fits.l1 k l ((1 + total ((clsS l).take i) : Nat) : Int) (i : Int) ((0 : Nat) : Int)) (fun k => by rw [if_pos h]) ?_
        exact fits_l1 l hl i hi hr hn h (fun h1 h2 => fits_l0 l hl d (i + 1) (by omega) h1 h2) i 0 (by omega) (fun j hj => absurd hj (Nat.not_lt_zero _))
      · have hf : fits (clsS l) = false := fits_no_right (c := clS l[i]) (by rw [← hci]; exact List.getElem_mem hi') (by simpa using h)
        rw [hf]
        exact Ev.congr (f := fun _ => some false) (fun k => by rw [if_neg h]) (Ev.now _)
theorem rfits (l : List Sc) (hl : l.length < 900000) : Ev (fun k => MR.honeycombref1_Fits.f k l) (fits (clsS l)) :=
  fits_l0 l hl l.length 0 (by omega) (fun c hc => by simp at hc) (by unfold Nd; simp)
end Go.Proofs.YtcmepoakcffpaaaGreat.CP
namespace Go.Proofs.YtcmepoakcffpaaaGreat.CP
open Go Go.RowKit Go.Proofs.YtcmepoakcffpaaaGreatW.PrintWords Go.Proofs.YtcmepoakcffpaaaGreatW.PrintLast Go.Proofs.YtcmepoakcffpaaaGreatW.PrintMore Go.Proofs.YtcmepoakcffpaaaGreat.CR Go.Proofs.YtcmepoakcffpaaaGreat.L Go.Proofs.YtcmepoakcffpaaaGreat.MR
set_option linter.unusedVariables false
set_option linter.unusedSimpArgs false
/-! ### the document's CellsPut, walked -/
theorem c_s {w : World} {A : Option Addr} {n : Nat} {l : List B} (h : Kd.C kdB w A n l) : Kd.C MR.k42 w A n (l.map sOf) := by
  obtain ⟨h1, h2, h3⟩ := h
  refine ⟨by rw [List.length_map]; exact h1, h2, fun hn => ?_⟩
  obtain ⟨ad, e, hc⟩ := h3 hn
  refine ⟨ad, e, fun j p hj => ?_⟩
  rw [List.getElem?_map] at hj
  obtain ⟨q, hq, rfl⟩ := Option.map_eq_some_iff.1 hj
  obtain ⟨cs, hl, hK, hcc⟩ := hc j q hq
  have hK2 : cs = cellsB q := hK
  subst hK2
  exact ⟨_, hl, MR.k42_mk w (sOf q), hcc⟩
theorem clsS_s (l : List B) : clsS (l.map sOf) = l.map B.cl := by
  unfold clsS
  rw [List.map_map]
  rfl
theorem reffits_calls (w : World) (A : Option Addr) (c : Nat) (l : List B) (hr : Kd.C kdB w A l.length l) (hc : l.length ≤ c) (hl : l.length < 900000) : Calls Tryz.prog 9 #[.slice A l.length c] w fun e w' => e = .returned (.bool (fits (l.map B.cl))) ∧ Eff0 w w' := by
  obtain ⟨k, hk⟩ := (rfits (l.map sOf) (by rw [List.length_map]; exact hl)).rounds
  rw [clsS_s] at hk
  have h := MR.honeycombref1_Fits.calls k A c (l.map sOf) _ w (by rw [List.length_map]; exact c_s hr) (by rw [List.length_map]; exact hc) hk
  rw [List.length_map] at h
  exact h.mono fun e w' ⟨he, hb⟩ => ⟨he, Eff.of_below hb⟩
theorem and255 (x : Int) (h0 : 0 ≤ x) (h1 : x < 2 ^ 62) : Go.bits .and .i64 x 255 = x % 256 := by
  have := bits_mask .i64 62 (by decide) (fun n h0 h1 => by rw [IntKind.wrap_i64]; omega) 8 (by decide) x h0 h1
  exact this
theorem big2_calls (v : Nat) (h : v < 65536) (w : World) : Calls Tryz.prog 28 #[.int .i64 v, .int .i64 2] w fun e w' => (∃ b, e = .returned (.tuple #[.string (strOfNums [(v : Int) / 256 % 256, (v : Int) % 256]), .bool b])) ∧ Eff0 w w' := by
  have e1 := and255 (v : Int) (by omega) (by omega)
  have e2 := and255 ((v : Int) / 256) (by omega) (by omega)
  have h0 : (0 : Int) ≤ (v : Int) := by omega
  have hk : MR.honeycombref1_Big.f 3 (v : Int) 2 = some (strOfNums [(v : Int) / 256 % 256, (v : Int) % 256], ((v : Int) / 256 / 256 == 0)) := by
    simp [MR.honeycombref1_Big.f, MR.honeycombref1_Big.l0, wrap64, e1, e2, List.replicate]
  exact (MR.honeycombref1_Big.calls 3 (v : Int) 2 _ _ w hk).mono fun e w' ⟨he, hb⟩ => ⟨⟨_, he⟩, Eff.of_below hb⟩
theorem zeros_calls (n : Nat) (h : n ≤ 1000) (w : World) : Calls Tryz.prog 29 #[.int .i64 n] w fun e w' => e = .returned (.string ⟨(List.replicate n 0).toArray⟩) ∧ Eff0 w w' := by
  have hz : MR.honeycombref1_Zeros.f (n : Int) = some ⟨(List.replicate n 0).toArray⟩ := by
    unfold MR.honeycombref1_Zeros.f
    have e : mx (n : Int) 0 = (n : Int) := by unfold mx; split <;> omega
    rw [e, if_pos (by omega), Int.toNat_natCast, if_pos (by omega)]
    congr 1
    apply eq_of_data
    rw [str_data, List.map_replicate]
    rfl
  exact (MR.honeycombref1_Zeros.calls (n : Int) _ w hz).mono fun e w' ⟨he, hb⟩ => ⟨he, Eff.of_below hb⟩
def accB (L : List Cl) (i : Nat) : ByteArray := ⟨(acc L i).toArray⟩
theorem conv1 (W : World) (i : Int) : (convert 70 9 (.slice (some ⟨W.heap.size, 0, none⟩) 1 1)).run Tryz.prog (W.alloc (.cells #[.int .u8 i] 5)) = .ok (.string (strOfNums [i])) (W.alloc (.cells #[.int .u8 i] 5)) :=
  run_convert_bytes_arg (W.alloc (.cells #[.int .u8 i] 5)) 70 5 Tryz.underlying70 Tryz.underlying5 W.heap.size 0 1 1 [i] rfl (fun j hj => by
    obtain rfl : j = 0 := by omega
    exact blk_cell (heap_alloc_new W _) 0) 9 Tryz.underlying9
theorem accB_0 (L : List Cl) : strOfNums [(L.length : Int) % 256] = accB L 0 := by
  apply eq_of_data
  rw [str_data]
  unfold accB acc
  have : ((L.length : Int) % 256).toNat = L.length % 256 := by omega
  simp only [List.map_cons, List.map_nil, this, List.take_zero]
  simp [encs]
  apply UInt8.toNat_inj.mp
  simp
theorem accB_size {L : List Cl} {i : Nat} (h : rises (L.take i) = true) (hl : L.length ≤ 240) : (accB L i).size ≤ 14401 := by
  rw [size_data]
  exact acc_length h hl
/-- What one cell adds. -/
theorem accB_next0 (L : List Cl) (i : Nat) (q : B) (hi : i < L.length) (hq : L[i] = q.cl) (hR : right q.cl = true) (hb : q.bl = 0) :
    ((((accB L i ++ strOfNums [(q.k.size : Int) % 256]) ++ q.k) ++ (⟨#[0]⟩ : ByteArray)) ++ strOfNums [(q.v.size : Int) / 256 % 256, (q.v.size : Int) % 256]) ++ q.v = accB L (i + 1) := by
  simp only [right, decide_eq_true_eq] at hR
  obtain ⟨h1, h2, h3⟩ := hR
  have s1 := size_data q.k
  have s2 := size_data q.v
  have e1 : (([((q.k.size : Int)) % 256] : List Int).map (fun z => UInt8.ofNat z.toNat)) = [UInt8.ofNat q.k.size] := by
    have h9 : q.k.size ≤ 16 := by rw [s1]; exact h2
    have : (((q.k.size : Int)) % 256).toNat = q.k.size := by omega
    simp only [List.map_cons, List.map_nil, this]
  have hv : q.v.size < 65536 := by
    rw [if_pos (show q.cl.bl = 0 from hb)] at h3
    have : q.v.size ≤ 40 := by rw [s2]; exact h3.1
    omega
  apply eq_of_data
  simp only [app_data, str_data]
  rw [e1, num2_str q.v.size hv]
  show _ = acc L (i + 1)
  rw [acc_next L i hi, hq]
  show acc L i ++ _ ++ _ ++ _ ++ _ ++ _ = _
  unfold enc B.cl
  simp only [hb, if_true, ← s1, ← s2]
  simp
theorem accB_next1 (L : List Cl) (i : Nat) (q : B) (hi : i < L.length) (hq : L[i] = q.cl) (hR : right q.cl = true) (hb : q.bl ≠ 0) :
    ((((accB L i ++ strOfNums [(q.k.size : Int) % 256]) ++ q.k) ++ (⟨#[1]⟩ : ByteArray)) ++ strOfNums [q.sz / 256 % 256, q.sz % 256]) ++ strOfNums [q.bl / 256 % 256, q.bl % 256] = accB L (i + 1) := by
  simp only [right, decide_eq_true_eq] at hR
  obtain ⟨h1, h2, h3⟩ := hR
  have s1 := size_data q.k
  have e1 : (([((q.k.size : Int)) % 256] : List Int).map (fun z => UInt8.ofNat z.toNat)) = [UInt8.ofNat q.k.size] := by
    have h9 : q.k.size ≤ 16 := by rw [s1]; exact h2
    have : (((q.k.size : Int)) % 256).toNat = q.k.size := by omega
    simp only [List.map_cons, List.map_nil, this]
  rw [if_neg (show ¬ q.cl.bl = 0 from hb)] at h3
  obtain ⟨h4, h5, h6, h7, h8⟩ := h3
  have e2 : q.bl = ((q.bl.toNat : Nat) : Int) := by have : 2 ≤ q.bl := h4; omega
  have e3 : q.sz = ((q.sz.toNat : Nat) : Int) := by have : 40 < q.sz := h7; omega
  have b1 : q.bl.toNat < 65536 := by have : q.bl < 64 := h5; omega
  have b2 : q.sz.toNat < 65536 := by have : q.sz ≤ 400 := h8; omega
  apply eq_of_data
  simp only [app_data, str_data]
  rw [e1]
  conv => lhs; rw [e2, e3]
  rw [num2_str q.bl.toNat b1, num2_str q.sz.toNat b2]
  show _ = acc L (i + 1)
  rw [acc_next L i hi, hq]
  show acc L i ++ _ ++ _ ++ _ ++ _ ++ _ = _
  unfold enc B.cl
  simp only [hb, if_false, ← s1]
  simp
end Go.Proofs.YtcmepoakcffpaaaGreat.CP
namespace Go.Proofs.YtcmepoakcffpaaaGreat.CP
open Go Go.RowKit Go.Proofs.YtcmepoakcffpaaaGreatW.PrintWords Go.Proofs.YtcmepoakcffpaaaGreatW.PrintLast Go.Proofs.YtcmepoakcffpaaaGreatW.PrintMore Go.Proofs.YtcmepoakcffpaaaGreat.CR Go.Proofs.YtcmepoakcffpaaaGreat.L Go.Proofs.YtcmepoakcffpaaaGreat.MR
set_option linter.unusedVariables false
set_option linter.unusedSimpArgs false
set_option maxHeartbeats 3200000 in
set_option maxRecDepth 100000 in
theorem refput_calls (w : World) (A : Option Addr) (c : Nat) (l : List B) (hr : Kd.C kdB w A l.length l) (hc : l.length ≤ c) (hl : l.length < 900000) :
    Calls Tryz.prog 10 #[.slice A l.length c] w fun e w' => e = .returned (.tuple #[.string (putF (l.map B.cl)).1, .bool (putF (l.map B.cl)).2]) ∧ Eff0 w w' := by
  have FC := reffits_calls w A c l hr hc hl
  cases hb : fits (l.map B.cl) with
  | false =>
    rw [hb] at FC
    have hp : putF (l.map B.cl) = (⟨#[]⟩, false) := by
      cases h : put (l.map B.cl) with
      | none => simp [putF, h]
      | some b => rw [fits_put h] at hb; cases hb
    have HP := Aside0.mk hp
    clear hr hb hp
    go_enter Tryz.func10, Tryz.ntmps10
    go_wp2_with (go_at_call 9; refine FC.mono ?_; rintro e w2 ⟨rfl, e2⟩)
    go_ret2
    exact ⟨by rw [HP.out]; rfl, e2⟩
  | true =>
    rw [hb] at FC
    have hf := hb
    simp only [fits, decide_eq_true_eq] at hf
    obtain ⟨h240, hR, _, htot⟩ := hf
    have hll : (l.map B.cl).length = l.length := by simp
    rw [hll] at h240
    have H := Aside0.mk (And.intro hr (And.intro hR htot))
    have hll2 := Aside0.mk hll
    clear hr hb hR htot hc hl hll
    go_enter Tryz.func10, Tryz.ntmps10
    go_wp2_with (go_at_call 9; refine FC.mono ?_; rintro e w2 ⟨rfl, e2⟩; have E2 := Aside0.mk e2; have cv := conv1 w2 (l.length : Int); clear e2 FC)
    go_loopg [4, 5] l.length (fun k s4 s5 wr => ∃ i : Nat, s4 = .string (accB (l.map B.cl) i) ∧ s5 = .int .i64 i ∧ i + k = l.length ∧ Aside0 (rises ((l.map B.cl).take i) = true ∧ Eff0 w wr))
    case atStart =>
      refine ⟨0, ?_, rfl, by omega, Aside0.mk ⟨by simp [rises], E2.out.alloc _⟩⟩
      rw [← accB_0, hll2.out, Int.emod_eq_of_lt (by omega) (by omega)]
    case round =>
      clear cv
      obtain ⟨i, rfl, rfl, h1, A1⟩ := hrel
      by_cases hi : i < l.length
      · have p2 : ((i : Int) < (l.length : Int)) = True := eq_true (by omega)
        have p0 : (0 ≤ (i : Int)) = True := eq_true (by omega)
        obtain ⟨ad, ea, x0, x1, x2, x3⟩ := at_B (Kd.C_below H.out.1 A1.out.2.below0) i hi
        subst ea
        obtain ⟨q, hq⟩ : ∃ q, q = l.getD i default := ⟨_, rfl⟩
        rw [← hq] at x0 x1 x2 x3
        have hi2 : i < (l.map B.cl).length := by rw [hll2.out]; exact hi
        have A3 : (l.map B.cl)[i] = q.cl := by rw [List.getElem_map]; congr 1; rw [hq]; simp [List.getD, hi]
        have hRq : right q.cl = true := by rw [← A3]; exact H.out.2.1 _ (List.getElem_mem hi2)
        have A3A : Aside0 (∃ hi2 : i < (l.map B.cl).length, (l.map B.cl)[i] = q.cl ∧ right q.cl = true) := Aside0.mk ⟨hi2, A3, hRq⟩
        have hsz : (accB (l.map B.cl) i).size ≤ 14401 := accB_size A1.out.1 (by rw [hll2.out]; exact h240)
        have b0 := blk_cell (heap_alloc_new wr (.cells #[.string q.k, .string q.v, .int .i64 q.bl, .int .i64 q.sz] 42 (0, 0))) 0
        have b1 := blk_cell (heap_alloc_new wr (.cells #[.string q.k, .string q.v, .int .i64 q.bl, .int .i64 q.sz] 42 (0, 0))) 1
        have b2 := blk_cell (heap_alloc_new wr (.cells #[.string q.k, .string q.v, .int .i64 q.bl, .int .i64 q.sz] 42 (0, 0))) 2
        have b3 := blk_cell (heap_alloc_new wr (.cells #[.string q.k, .string q.v, .int .i64 q.bl, .int .i64 q.sz] 42 (0, 0))) 3
        have hbx : wr.heap.size < (wr.alloc (.cells #[.string q.k, .string q.v, .int .i64 q.bl, .int .i64 q.sz] 42 (0, 0))).heap.size := by simp
        have e0 : Aside0 (Eff0 wr (wr.alloc (.cells #[.string q.k, .string q.v, .int .i64 q.bl, .int .i64 q.sz] 42 (0, 0)))) := Aside0.mk ((Eff.refl _ _).alloc _)
        clear hq hRq A3 hi2
        have hbx2 : wr.heap.size < (wr.alloc (.cells #[.string q.k, .string q.v, .int .i64 q.bl, .int .i64 q.sz] 42 (0, 0))).heap.size := hbx
        obtain ⟨bb, hbb⟩ : ∃ bb, bb = !okNext ((l.map B.cl).take i) q.cl := ⟨_, rfl⟩
        have HBB := Aside0.mk hbb
        go_upto_region 8 with (fail)
        go_cut [43] (fun v wx => v = .bool bb ∧ Aside0 (Eff0 wr wx ∧ wx.heap[wr.heap.size]? = some (.cells #[.string q.k, .string q.v, .int .i64 q.bl, .int .i64 q.sz] 42 (0, 0))))
        case first =>
          have BH := Aside0.mk (heap_alloc_new wr (.cells #[.string q.k, .string q.v, .int .i64 q.bl, .int .i64 q.sz] 42 (0, 0)))
          by_cases hz : i = 0
          · have pz1 : ((i : Int) > 0) = False := eq_false (by omega)
            have pz2 : (0 < i) = False := eq_false (by omega)
            have pz3 : (0 < (i : Int)) = False := eq_false (by omega)
            have hb2 : bb = false := by rw [hbb]; subst hz; simp [okNext]
            clear hz hbb
            subst hb2
            generalize wr.alloc (.cells #[.string q.k, .string q.v, .int .i64 q.bl, .int .i64 q.sz] 42 (0, 0)) = wq at *
            go_quiet (fail)
            go_wp2
            go_meet
            case rel => exact ⟨rfl, Aside0.mk ⟨e0.out.drewN _, BH.out⟩⟩
          · obtain ⟨d, hd⟩ : ∃ d, d = l.getD (i - 1) default := ⟨_, rfl⟩
            obtain ⟨ad', ea, y0, _⟩ := at_B (Kd.C_below H.out.1 (A1.out.2.then0 e0.out).below0) (i - 1) (by omega)
            injection ea with ea
            subst ea
            rw [← hd] at y0
            have hbd : bb = !decide (d.cl.k < q.cl.k) := by
              have hi3 : i - 1 < (l.map B.cl).length := by rw [hll2.out]; omega
              have e : (l.map B.cl).take i = (l.map B.cl).take (i - 1) ++ [(l.map B.cl)[i - 1]'hi3] := by
                rw [← List.take_succ_eq_append_getElem]
                congr 1
                omega
              have e2 : (l.map B.cl)[i - 1]'hi3 = d.cl := by rw [List.getElem_map]; congr 1; rw [hd]; simp [List.getD, show i - 1 < l.length by omega]
              rw [hbb, e, e2]
              simp [okNext]
            have hL0 : Op.bytesLess d.k.toList q.k.toList = !bb := by
              rw [bytesLess_eq, Lib.toList_data, Lib.toList_data, hbd, Bool.not_not]
              rfl
            obtain ⟨jj, hjj⟩ : ∃ jj : Int, (i : Int) = jj := ⟨_, rfl⟩
            obtain ⟨kk, hkk⟩ : ∃ kk : Int, jj - 1 = kk := ⟨_, rfl⟩
            have pg : (jj > 0) = True := eq_true (by omega)
            have pk0 : (0 ≤ kk) = True := eq_true (by omega)
            have pk1 : (kk < (l.length : Int)) = True := eq_true (by omega)
            have ik : i - 1 = kk.toNat := by omega
            rw [ik] at y0
            have hw : IntKind.i64.wrap (jj - 1) = kk := by rw [IntKind.wrap_i64]; omega
            have hw2 : wrap64 (jj - 1) = kk := by unfold wrap64; omega
            clear hbb hbd hd hkk ik hz x0 x1 x2 x3
            generalize wr.alloc (.cells #[.string q.k, .string q.v, .int .i64 q.bl, .int .i64 q.sz] 42 (0, 0)) = wq at *
            rw [hjj]
            go_quiet (fail)
            go_wp2
            subst hjj
            go_meet
            case rel => exact ⟨by first | rfl | simp, Aside0.mk ⟨e0.out.drewN _, BH.out⟩⟩
        case rest =>
          obtain ⟨rfl, HC⟩ := hcut
          obtain ⟨w5, rfl⟩ : ∃ w5 : World, w5 = wc := ⟨_, rfl⟩
          have c0 : w5.cell? ⟨wr.heap.size, 0, none⟩ = some (.string q.k) := blk_cell HC.out.2 0
          have c1 : w5.cell? ⟨wr.heap.size, 1, none⟩ = some (.string q.v) := blk_cell HC.out.2 1
          have c2 : w5.cell? ⟨wr.heap.size, 2, none⟩ = some (.int .i64 q.bl) := blk_cell HC.out.2 2
          have c3 : w5.cell? ⟨wr.heap.size, 3, none⟩ = some (.int .i64 q.sz) := blk_cell HC.out.2 3
          have hlt : wr.heap.size < w5.heap.size := World.block_lt_of_cell? w5 _ c0
          clear b0 b1 b2 b3 hbx hbx2 e0 x0 x1 x2 x3 hbb
          cases bb with
          | true =>
            have hp : putF (l.map B.cl) = (⟨#[]⟩, false) := by
              obtain ⟨hi2, h3, h4⟩ := A3A.out
              refine putF_none (rises_false (n := i + 1) ?_)
              rw [rises_take _ i hi2, h3]
              have := HBB.out
              rw [show okNext ((l.map B.cl).take i) q.cl = false from by simpa using this]
              simp
            have HP := Aside0.mk hp
            clear hp
            go_wp2
            go_ret2
            exact ⟨by rw [HP.out]; rfl, A1.out.2.then0 HC.out.1⟩
          | false =>
            have hn : rises ((l.map B.cl).take (i + 1)) = true := by
              obtain ⟨hi2, h3, h4⟩ := A3A.out
              rw [rises_take _ i hi2, h3, A1.out.1, h4]
              have := HBB.out
              simpa using this.symm
            have hqs : 1 ≤ q.k.size ∧ q.k.size ≤ 16 ∧ q.v.size ≤ 40 ∧ (q.bl ≠ 0 → 2 ≤ q.bl ∧ q.bl < 64 ∧ 40 < q.sz ∧ q.sz ≤ 400) := by
              obtain ⟨_, _, h4⟩ := A3A.out
              simp only [right, decide_eq_true_eq] at h4
              obtain ⟨g1, g2, g3⟩ := h4
              have s1 : q.cl.k.length = q.k.size := (size_data _).symm
              have s2 : q.cl.v.length = q.v.size := (size_data _).symm
              rw [s1] at g1 g2
              refine ⟨g1, g2, ?_, fun hne => ?_⟩
              · by_cases hz : q.cl.bl = 0
                · rw [if_pos hz] at g3
                  rw [← s2]; exact g3.1
                · rw [if_neg hz] at g3
                  rw [← s2, g3.2.2.1]; simp
              · rw [if_neg (show ¬ q.cl.bl = 0 from hne)] at g3
                exact ⟨g3.1, g3.2.1, g3.2.2.2.1, g3.2.2.2.2⟩
            have HN := Aside0.mk (And.intro hn hqs)
            have hs1 : (strOfNums [(q.k.size : Int) % 256]).size = 1 := strOfNums_size _
            have cv2 := conv1 w5 ((q.k.size : Int) % 256)
            have hs2 : ∀ a b : Int, (strOfNums [a, b]).size = 2 := fun a b => strOfNums_size _
            have Z : ∀ a b : ByteArray, a.size ≤ 20000 → b.size ≤ 100 → ((9223372036854775807 < a.size + b.size) = False) ∧ ((a.size + b.size ≤ 9223372036854775807) = True) ∧ (a ++ b).size ≤ a.size + b.size := fun a b h1 h2 => ⟨eq_false (by omega), eq_true (by omega), by rw [ByteArray.size_append]; exact Nat.le_refl _⟩
            obtain ⟨z1, z1', y1⟩ := Z (accB (l.map B.cl) i) (strOfNums [(q.k.size : Int) % 256]) (by omega) (by omega)
            obtain ⟨z2, z2', y2⟩ := Z _ q.k (show (accB (l.map B.cl) i ++ strOfNums [(q.k.size : Int) % 256]).size ≤ 20000 by omega) (by omega)
            by_cases hb0 : q.bl = 0
            · have z0s : (⟨#[0]⟩ : ByteArray).size = 1 := rfl
              obtain ⟨z3, z3', y3⟩ := Z _ (⟨#[0]⟩ : ByteArray) (show ((accB (l.map B.cl) i ++ strOfNums [(q.k.size : Int) % 256]) ++ q.k).size ≤ 20000 by omega) (by omega)
              have hv2 := hs2 ((q.v.size : Int) / 256 % 256) ((q.v.size : Int) % 256)
              obtain ⟨z4, z4', y4⟩ := Z _ (strOfNums [(q.v.size : Int) / 256 % 256, (q.v.size : Int) % 256]) (show (((accB (l.map B.cl) i ++ strOfNums [(q.k.size : Int) % 256]) ++ q.k) ++ (⟨#[0]⟩ : ByteArray)).size ≤ 20000 by omega) (by omega)
              obtain ⟨z5, z5', y5⟩ := Z _ q.v (show ((((accB (l.map B.cl) i ++ strOfNums [(q.k.size : Int) % 256]) ++ q.k) ++ (⟨#[0]⟩ : ByteArray)) ++ strOfNums [(q.v.size : Int) / 256 % 256, (q.v.size : Int) % 256]).size ≤ 20000 by omega) (by omega)
              rw [z0s] at z3 z3'
              have xe0 : ((accB (l.map B.cl) i).size + (strOfNums [(q.k.size : Int) % 256]).size + q.k.size ≤ 9223372036854775807) = True := eq_true (by omega)
              have xf0 : (9223372036854775807 < (accB (l.map B.cl) i).size + (strOfNums [(q.k.size : Int) % 256]).size + q.k.size) = False := eq_false (by omega)
              have xe1 : ((accB (l.map B.cl) i).size + (strOfNums [(q.k.size : Int) % 256]).size + q.k.size + 1 ≤ 9223372036854775807) = True := eq_true (by omega)
              have xf1 : (9223372036854775807 < (accB (l.map B.cl) i).size + (strOfNums [(q.k.size : Int) % 256]).size + q.k.size + 1) = False := eq_false (by omega)
              have xe2 : ((accB (l.map B.cl) i).size + (strOfNums [(q.k.size : Int) % 256]).size + q.k.size + 1 + (strOfNums [(q.v.size : Int) / 256 % 256, (q.v.size : Int) % 256]).size ≤ 9223372036854775807) = True := eq_true (by omega)
              have xf2 : (9223372036854775807 < (accB (l.map B.cl) i).size + (strOfNums [(q.k.size : Int) % 256]).size + q.k.size + 1 + (strOfNums [(q.v.size : Int) / 256 % 256, (q.v.size : Int) % 256]).size) = False := eq_false (by omega)
              have xe3 : ((accB (l.map B.cl) i).size + (strOfNums [(q.k.size : Int) % 256]).size + q.k.size + 1 + (strOfNums [(q.v.size : Int) / 256 % 256, (q.v.size : Int) % 256]).size + q.v.size ≤ 9223372036854775807) = True := eq_true (by omega)
              have xf3 : (9223372036854775807 < (accB (l.map B.cl) i).size + (strOfNums [(q.k.size : Int) % 256]).size + q.k.size + 1 + (strOfNums [(q.v.size : Int) / 256 % 256, (q.v.size : Int) % 256]).size + q.v.size) = False := eq_false (by omega)
              have CB := Aside0.mk (show ∀ W, Eff0 w5 W → Calls Tryz.prog 28 #[.int .i64 (q.v.size : Int), .int .i64 2] W fun e w' => (∃ b, e = .returned (.tuple #[.string (strOfNums [(q.v.size : Int) / 256 % 256, (q.v.size : Int) % 256]), .bool b])) ∧ Eff0 w5 w' ∧ w'.cell? ⟨wr.heap.size, 1, none⟩ = some (.string q.v) from fun W e => (big2_calls q.v.size (by omega) W).mono fun e2 w' ⟨h1, h2⟩ => ⟨h1, e.then0 h2, ((e.then0 h2).cell hlt id).trans c1⟩)
              have HB := Aside0.mk hb0
              rw [hb0] at c2
              have HX := HC.out.1
              have HY := Aside0.mk HX
              clear hqs hn Z y1 y2 y3 y4 y5 hs2 hv2 z0s hb0 hsz hs1 HX
              generalize hS1 : strOfNums [(q.k.size : Int) % 256] = s1 at *
              generalize hS2 : strOfNums [(q.v.size : Int) / 256 % 256, (q.v.size : Int) % 256] = s2 at *
              generalize hS0 : accB (l.map B.cl) i = s0 at *
              have HS := Aside0.mk (And.intro hS1 (And.intro hS2 hS0))
              clear hS1 hS2 hS0
              go_wp2_with (go_at_call 28; refine (CB.out _ (by first | exact (Eff.refl _ _).alloc _ | exact Eff.refl _ _)).mono ?_; rintro e w6 ⟨⟨bv, rfl⟩, e6, g1⟩; clear CB)
              go_roundg (gk - 1)
              case measure => omega
              case rel =>
                refine ⟨i + 1, ?_, by simp, by omega, Aside0.mk ⟨HN.out.1, A1.out.2.then0 (HY.out.then0 e6)⟩⟩
                obtain ⟨hi2, h3, h4⟩ := A3A.out
                rw [← accB_next0 _ i q hi2 h3 h4 HB.out, HS.out.1, HS.out.2.1, HS.out.2.2]
            · have z0s : (⟨#[1]⟩ : ByteArray).size = 1 := rfl
              obtain ⟨hq1, hq2, hq3, hq4⟩ := hqs.2.2.2 hb0
              have e1 : ((q.sz.toNat : Nat) : Int) = q.sz := by omega
              have e2 : ((q.bl.toNat : Nat) : Int) = q.bl := by omega
              have hv2 := hs2 (q.sz / 256 % 256) (q.sz % 256)
              have hv3 := hs2 (q.bl / 256 % 256) (q.bl % 256)
              obtain ⟨z3, z3', y3⟩ := Z _ (⟨#[1]⟩ : ByteArray) (show ((accB (l.map B.cl) i ++ strOfNums [(q.k.size : Int) % 256]) ++ q.k).size ≤ 20000 by omega) (by omega)
              obtain ⟨z4, z4', y4⟩ := Z _ (strOfNums [q.sz / 256 % 256, q.sz % 256]) (show (((accB (l.map B.cl) i ++ strOfNums [(q.k.size : Int) % 256]) ++ q.k) ++ (⟨#[1]⟩ : ByteArray)).size ≤ 20000 by omega) (by omega)
              obtain ⟨z5, z5', y5⟩ := Z _ (strOfNums [q.bl / 256 % 256, q.bl % 256]) (show ((((accB (l.map B.cl) i ++ strOfNums [(q.k.size : Int) % 256]) ++ q.k) ++ (⟨#[1]⟩ : ByteArray)) ++ strOfNums [q.sz / 256 % 256, q.sz % 256]).size ≤ 20000 by omega) (by omega)
              rw [z0s] at z3 z3'
              have xe0 : ((accB (l.map B.cl) i).size + (strOfNums [(q.k.size : Int) % 256]).size + q.k.size ≤ 9223372036854775807) = True := eq_true (by omega)
              have xf0 : (9223372036854775807 < (accB (l.map B.cl) i).size + (strOfNums [(q.k.size : Int) % 256]).size + q.k.size) = False := eq_false (by omega)
              have xe1 : ((accB (l.map B.cl) i).size + (strOfNums [(q.k.size : Int) % 256]).size + q.k.size + 1 ≤ 9223372036854775807) = True := eq_true (by omega)
              have xf1 : (9223372036854775807 < (accB (l.map B.cl) i).size + (strOfNums [(q.k.size : Int) % 256]).size + q.k.size + 1) = False := eq_false (by omega)
              have xe2 : ((accB (l.map B.cl) i).size + (strOfNums [(q.k.size : Int) % 256]).size + q.k.size + 1 + (strOfNums [q.sz / 256 % 256, q.sz % 256]).size ≤ 9223372036854775807) = True := eq_true (by omega)
              have xf2 : (9223372036854775807 < (accB (l.map B.cl) i).size + (strOfNums [(q.k.size : Int) % 256]).size + q.k.size + 1 + (strOfNums [q.sz / 256 % 256, q.sz % 256]).size) = False := eq_false (by omega)
              have xe3 : ((accB (l.map B.cl) i).size + (strOfNums [(q.k.size : Int) % 256]).size + q.k.size + 1 + (strOfNums [q.sz / 256 % 256, q.sz % 256]).size + (strOfNums [q.bl / 256 % 256, q.bl % 256]).size ≤ 9223372036854775807) = True := eq_true (by omega)
              have xf3 : (9223372036854775807 < (accB (l.map B.cl) i).size + (strOfNums [(q.k.size : Int) % 256]).size + q.k.size + 1 + (strOfNums [q.sz / 256 % 256, q.sz % 256]).size + (strOfNums [q.bl / 256 % 256, q.bl % 256]).size) = False := eq_false (by omega)
              have CB1 := Aside0.mk (show ∀ W, Eff0 w5 W → Calls Tryz.prog 28 #[.int .i64 q.sz, .int .i64 2] W fun e w' => (∃ b, e = .returned (.tuple #[.string (strOfNums [q.sz / 256 % 256, q.sz % 256]), .bool b])) ∧ Eff0 w5 w' ∧ w'.cell? ⟨wr.heap.size, 2, none⟩ = some (.int .i64 q.bl) from fun W e => by
                have h := big2_calls q.sz.toNat (by omega) W
                rw [e1] at h
                exact h.mono fun e2 w' ⟨h1, h2⟩ => ⟨h1, e.then0 h2, ((e.then0 h2).cell hlt id).trans c2⟩)
              have CB2 := Aside0.mk (show ∀ W, Eff0 w5 W → Calls Tryz.prog 28 #[.int .i64 q.bl, .int .i64 2] W fun e w' => (∃ b, e = .returned (.tuple #[.string (strOfNums [q.bl / 256 % 256, q.bl % 256]), .bool b])) ∧ Eff0 w5 w' from fun W e => by
                have h := big2_calls q.bl.toNat (by omega) W
                rw [e2] at h
                exact h.mono fun e2 w' ⟨h1, h2⟩ => ⟨h1, e.then0 h2⟩)
              have HB := Aside0.mk hb0
              have hb1 : (q.bl == 0) = false := by simpa using hb0
              have hb2 : (q.bl = 0) = False := eq_false hb0
              have HX := HC.out.1
              have HY := Aside0.mk HX
              have FIRST := Aside0.mk trivial
              clear hqs hn Z y1 y2 y3 y4 y5 hs2 hv2 hv3 z0s hb0 hsz hs1 HX hq1 hq2 hq3 hq4 e1 e2
              generalize hS1 : strOfNums [(q.k.size : Int) % 256] = s1 at *
              generalize hS2 : strOfNums [q.sz / 256 % 256, q.sz % 256] = s2 at *
              generalize hS3 : strOfNums [q.bl / 256 % 256, q.bl % 256] = s3 at *
              generalize hS0 : accB (l.map B.cl) i = s0 at *
              have HS := Aside0.mk (And.intro hS1 (And.intro hS2 (And.intro hS3 hS0)))
              clear hS1 hS2 hS3 hS0
              go_wp2_with (first
                | (go_at_call 28; clear FIRST; refine (CB1.out _ (by first | exact (Eff.refl _ _).alloc _ | exact Eff.refl _ _)).mono ?_; rintro e w6 ⟨⟨bv, rfl⟩, e6, g1⟩; clear CB1)
                | (go_at_call 28; refine (CB2.out _ e6).mono ?_; rintro e w7 ⟨⟨bv2, rfl⟩, e7⟩; clear CB2))
              go_roundg (gk - 1)
              case measure => omega
              case rel =>
                refine ⟨i + 1, ?_, by simp, by omega, Aside0.mk ⟨HN.out.1, A1.out.2.then0 (HY.out.then0 e7)⟩⟩
                obtain ⟨hi2, h3, h4⟩ := A3A.out
                rw [← accB_next1 _ i q hi2 h3 h4 HB.out, HS.out.1, HS.out.2.1, HS.out.2.2.1, HS.out.2.2.2]
      · have p2 : ((i : Int) < (l.length : Int)) = False := eq_false (by omega)
        obtain rfl : i = l.length := by omega
        have hap : acc (l.map B.cl) l.length = UInt8.ofNat (l.map B.cl).length :: encs (l.map B.cl) := by
          unfold acc
          rw [List.take_of_length_le (by rw [hll2.out]; exact Nat.le_refl _)]
        have hris : rises (l.map B.cl) = true := by
          have := A1.out.1
          rwa [List.take_of_length_le (by rw [hll2.out]; exact Nat.le_refl _)] at this
        have hsz : (accB (l.map B.cl) l.length).size = 1 + total (l.map B.cl) := by
          rw [size_data]
          show (acc (l.map B.cl) l.length).length = _
          rw [hap, List.length_cons, encs_length (rises_right hris)]
          omega
        have ht := H.out.2.2
        have hp : putF (l.map B.cl) = (accB (l.map B.cl) l.length ++ ⟨(List.replicate (239 - total (l.map B.cl)) 0).toArray⟩, true) := by
          unfold putF put
          rw [if_pos ⟨by rw [hll2.out]; exact h240, hris, ht⟩]
          simp only [Prod.mk.injEq, and_true]
          apply eq_of_data
          rw [app_data]
          show _ = acc (l.map B.cl) l.length ++ _
          rw [hap]
          rfl
        have hz : (240 : Int) - ((accB (l.map B.cl) l.length).size : Int) = ((239 - total (l.map B.cl) : Nat) : Int) := by omega
        have CZ := fun W => zeros_calls (239 - total (l.map B.cl)) (by omega) W
        rw [← hz] at CZ
        have hw : IntKind.i64.wrap (240 - ((accB (l.map B.cl) l.length).size : Int)) = 240 - ((accB (l.map B.cl) l.length).size : Int) := by rw [IntKind.wrap_i64]; omega
        have hrs : (⟨(List.replicate (239 - total (l.map B.cl)) 0).toArray⟩ : ByteArray).size = 239 - total (l.map B.cl) := by
          rw [size_data]
          simp
        have q1 : (9223372036854775807 < (accB (l.map B.cl) l.length).size + (⟨(List.replicate (239 - total (l.map B.cl)) 0).toArray⟩ : ByteArray).size) = False := eq_false (by rw [hrs]; omega)
        have q2 : ((accB (l.map B.cl) l.length).size + (⟨(List.replicate (239 - total (l.map B.cl)) 0).toArray⟩ : ByteArray).size ≤ 9223372036854775807) = True := eq_true (by rw [hrs]; omega)
        have HP := Aside0.mk hp
        clear hp hrs hz hsz ht hap hris hi
        generalize (⟨(List.replicate (239 - total (l.map B.cl)) 0).toArray⟩ : ByteArray) = zz at *
        go_wp2_with (go_at_call 29; refine (CZ _).mono ?_; rintro e w3 ⟨rfl, e3⟩)
        go_ret2
        exact ⟨by rw [HP.out]; rfl, A1.out.2.then0 e3⟩
end Go.Proofs.YtcmepoakcffpaaaGreat.CP
namespace Go.Proofs.YtcmepoakcffpaaaGreat.CP
open Go Go.RowKit Go.Proofs.YtcmepoakcffpaaaGreatW.PrintWords Go.Proofs.YtcmepoakcffpaaaGreatW.PrintLast Go.Proofs.YtcmepoakcffpaaaGreatW.PrintMore Go.Proofs.YtcmepoakcffpaaaGreat.CR Go.Proofs.YtcmepoakcffpaaaGreat.L Go.Proofs.YtcmepoakcffpaaaGreat.MR
set_option linter.unusedVariables false
set_option linter.unusedSimpArgs false
/-! ### the document's CellsGet, walked -/
def byt (s : ByteArray) (i : Nat) : Nat := (s.data.toList.getD i 0).toNat
theorem byt_at (s : ByteArray) (i : Nat) : ∀ h : i < s.size, ((s[i]'h).toNat : Int) = (byt s i : Int) := by
  intro h
  unfold byt
  have h2 : i < s.data.toList.length := by rw [Array.length_toList]; exact h
  rw [List.getD_eq_getElem?_getD, List.getElem?_eq_getElem h2]
  rfl
theorem byt_lt (s : ByteArray) (i : Nat) : byt s i < 256 := by
  unfold byt
  exact UInt8.toNat_lt _
def bigv (s : ByteArray) : Nat := nval s.data.toList
theorem nval_lt2 (l : List UInt8) (h : l.length ≤ 2) : nval l < 65536 := by
  rcases l with _ | ⟨a, _ | ⟨b, _ | ⟨c, l⟩⟩⟩
  · decide
  · have := a.toNat_lt
    simp [nval]; omega
  · have := a.toNat_lt
    have := b.toNat_lt
    simp [nval]; omega
  · simp only [List.length_cons] at h
    omega
theorem Of_step (v x i : Nat) (hx : x < 256) (hv : v < 70000) (hi : i < 10) : wrap64 (wrap64 ((v : Int) * 256) + wrap64 (x : Int)) = ((v * 256 + x : Nat) : Int) ∧ wrap64 ((i : Int) + 1) = ((i + 1 : Nat) : Int) := by
  have e1 : wrap64 ((v : Int) * 256) = (v : Int) * 256 := by unfold wrap64; omega
  have e2 : wrap64 (x : Int) = (x : Int) := by unfold wrap64; omega
  rw [e1, e2]
  constructor
  · unfold wrap64; omega
  · unfold wrap64; omega
theorem Of_l0 (s : ByteArray) (hs : s.size ≤ 2) : ∀ (d i v : Nat), i + d = s.size → v < 256 ^ i → ∀ k, MR.honeycombref1_Of.l0 (k + d + 1) s v i = some (((s.data.toList.drop i).foldl (fun v b => v * 256 + b.toNat) v : Nat) : Int)
  | 0, i, v, h, hv, k => by
    rw [MR.honeycombref1_Of.l0, if_neg (by omega), List.drop_eq_nil_of_le (by rw [Array.length_toList]; show s.size ≤ i; omega)]
    rfl
  | d + 1, i, v, h, hv, k => by
    have hi : i < s.data.toList.length := by rw [Array.length_toList]; show i < s.size; omega
    have hx := (s.data.toList[i]'hi).toNat_lt
    have hv2 : v < 70000 := Nat.lt_of_lt_of_le hv (Nat.le_trans (Nat.pow_le_pow_right (by decide) (show i ≤ 2 by omega)) (by decide))
    have hbt : bt s (i : Int) = ((s.data.toList[i]'hi).toNat : Int) := by
      have := bt_at s (i : Int) (by rw [Int.toNat_natCast]; omega)
      rw [← this]
      rfl
    obtain ⟨e0, e1⟩ := Of_step v (s.data.toList[i]'hi).toNat i hx hv2 (by omega)
    rw [MR.honeycombref1_Of.l0, if_pos (by omega), if_pos (by omega), hbt, e0, e1, ← Nat.add_assoc, Of_l0 s hs d (i + 1) _ (by omega) (by rw [Nat.pow_succ]; omega) k, List.drop_eq_getElem_cons hi, List.foldl_cons]
theorem of_calls (s : ByteArray) (hs : s.size ≤ 2) (w : World) : Calls Tryz.prog 69 #[.string s] w fun e w' => e = .returned (.int .i64 (bigv s : Nat)) ∧ Drawn0 w w' := by
  have h := Of_l0 s hs s.size 0 0 (by omega) (by simp) 0
  rw [show ((0 : Nat) : Int) = 0 from rfl] at h
  exact MR.honeycombref1_Of.calls (0 + s.size + 1) s _ w h
/-- One cell read, where the document's reader stands; where it stands behind it. -/
def rstep (s : ByteArray) (i : Nat) : Option (B × Nat) :=
  if 240 ≤ i then none
  else if 240 < i + 1 + byt s i + 3 then none
  else if byt s (i + 1 + byt s i) = 0 then (if 240 < i + 4 + byt s i + bigv (s.extract (i + 2 + byt s i) (i + 4 + byt s i)) then none else some (⟨s.extract (i + 1) (i + 1 + byt s i), s.extract (i + 4 + byt s i) (i + 4 + byt s i + bigv (s.extract (i + 2 + byt s i) (i + 4 + byt s i))), 0, 0⟩, i + 4 + byt s i + bigv (s.extract (i + 2 + byt s i) (i + 4 + byt s i))))
  else if byt s (i + 1 + byt s i) = 1 then (if 240 < i + 4 + byt s i + 2 then none else some (⟨s.extract (i + 1) (i + 1 + byt s i), ⟨#[]⟩, (bigv (s.extract (i + 4 + byt s i) (i + 4 + byt s i + 2)) : Nat), (bigv (s.extract (i + 2 + byt s i) (i + 4 + byt s i)) : Nat)⟩, i + 4 + byt s i + 2))
  else none
def rloop (s : ByteArray) : Nat → Nat → List B → Option (List B)
  | 0, _, acc => some acc
  | d + 1, i, acc => match rstep s i with
    | none => none
    | some c => rloop s d c.2 (acc ++ [c.1])
def rfin (s : ByteArray) : Option (List B) → List B × Bool
  | none => ([], false)
  | some l => if putF (l.map B.cl) = (s, true) then (l, true) else ([], false)
def rget (s : ByteArray) : List B × Bool := if s.size = 240 then rfin s (rloop s (byt s 0) 1 []) else ([], false)
theorem ext_size (s : ByteArray) (a e : Nat) (h : e ≤ s.size) : (s.extract a e).size = e - a := by
  rw [ByteArray.size_extract, Nat.min_eq_left h]
theorem sl_run (s : ByteArray) (a b : Nat) (x y : Int) (hx : x = (a : Int)) (hy : y = (b : Int)) (hab : a ≤ b) (hb : b ≤ s.size) (W : World) : (Instr.slice 9 (.string s) (some (.int .i64 x)) (some (.int .i64 y)) none).run Tryz.prog W = .ok (.string (s.extract a b)) W := by
  subst hx hy
  have h := run_slice_string (P := Tryz.prog) W 9 s .i64 .i64 (a : Int) (b : Int) Tryz.underlying9 (by omega) (by omega) (by omega)
  rw [Int.toNat_natCast, Int.toNat_natCast] at h
  exact h
theorem lenR (x : B) : (cellsB x).length = 4 := rfl
theorem oneR (x : B) : ∀ u ∈ cellsB x, u.oneCell' = true := by
  intro u hu
  simp only [cellsB, List.mem_cons, List.not_mem_nil, or_false] at hu
  rcases hu with rfl | rfl | rfl | rfl <;> rfl
abbrev RB (v : Value) (xs : List B) : HP := RwAt cellsB 4 42 v xs
theorem RB_C {A : Option Addr} {n c : Nat} {xs : List B} {W : World} {F : Nat → Prop} (h : Rw cellsB 4 42 (.slice A n c) xs W F) : n = xs.length ∧ xs.length ≤ c ∧ Kd.C kdB W A xs.length xs := by
  obtain ⟨A1, c1, hv, hc, hC⟩ := Rw.C (d := kdB) rfl lenR (fun _ _ _ _ => rfl) h
  injection hv with e1 e2 e3
  subst e1
  exact ⟨e2, by omega, hC⟩
theorem box_add {w wr W9 : World} {A : Option Addr} {c : Nat} {xs : List B} (U : Upd w (fun _ => False) (RB (.slice A xs.length c) xs) wr) (e : Eff0 wr W9) (x : B) (hm : xs.length < 900) : ∃ (q : Option Addr × Nat) (W' : World), (∀ ty, (Builtin.append_ #[26, 26] ty #[.slice A xs.length c, .slice (some ⟨W9.heap.size, 0, none⟩) 1 1]).run Tryz.prog (W9.alloc (.cells #[.string x.k, .string x.v, .int .i64 x.bl, .int .i64 x.sz] 42)) = .ok (.slice q.1 (xs.length + 1) q.2) W') ∧ Aside0 (Upd w (fun _ => False) (RB (.slice q.1 (xs ++ [x]).length q.2) (xs ++ [x])) W') := by
  obtain ⟨F, hF, eF, kF⟩ := U
  obtain ⟨q, W', hr, hU⟩ := BK.row_add BK.kfCells (by decide) lenR oneR (HP.eff0 hF e) x (by omega)
  refine ⟨q, W', hr, Aside0.mk ?_⟩
  rw [List.length_append, List.length_singleton]
  exact upd_go (eF.then0 e) kF hU
end Go.Proofs.YtcmepoakcffpaaaGreat.CP
namespace Go.Proofs.YtcmepoakcffpaaaGreat.CP
open Go Go.RowKit Go.Proofs.YtcmepoakcffpaaaGreatW.PrintWords Go.Proofs.YtcmepoakcffpaaaGreatW.PrintLast Go.Proofs.YtcmepoakcffpaaaGreatW.PrintMore Go.Proofs.YtcmepoakcffpaaaGreat.CR Go.Proofs.YtcmepoakcffpaaaGreat.L Go.Proofs.YtcmepoakcffpaaaGreat.MR
set_option linter.unusedVariables false
set_option linter.unusedSimpArgs false
set_option maxHeartbeats 6400000 in
set_option maxRecDepth 100000 in
theorem refget_calls (w : World) (s : ByteArray) :
    Calls Tryz.prog 21 #[.string s] w fun e w' => ∃ A c, e = .returned (.tuple #[.slice A (rget s).1.length c, .bool (rget s).2]) ∧ Aside0 (Upd w (fun _ => False) (RB (.slice A (rget s).1.length c) (rget s).1) w') := by
  by_cases hs : s.size = 240
  · have hs1 : (s.size : Int) = 240 := by omega
    obtain ⟨R, hR⟩ : ∃ R, R = rloop s (byt s 0) 1 [] := ⟨_, rfl⟩
    have hrg : rget s = rfin s R := by
      unfold rget
      rw [if_pos hs, hR]
    have HG := Aside0.mk hrg
    have HR := Aside0.mk hR
    have hx0 := byt_at s 0
    have hN := byt_lt s 0
    have HN := Aside0.mk (show byt s 0 = byt s 0 from rfl)
    generalize hNN : byt s 0 = N at *
    clear hrg hR hNN
    go_enter Tryz.func21, Tryz.ntmps21
    go_wp2_with fail
    go_loopg [4, 5, 6] N (fun k s4 s5 s6 wr => ∃ (i n c : Nat) (A : Option Addr) (xs : List B), s4 = .slice A xs.length c ∧ s5 = .int .i64 (i : Int) ∧ s6 = .int .i64 (n : Int) ∧ n + k = N ∧ xs.length ≤ n ∧ i < 100000 ∧ Aside0 (R = rloop s (N - n) i xs ∧ Upd w (fun _ => False) (RB (.slice A xs.length c) xs) wr))
    case atStart => exact ⟨1, 0, 0, none, [], rfl, rfl, rfl, by omega, Nat.le_refl _, by omega, Aside0.mk ⟨HR.out, Upd.same (RwAt.nil w) (Eff.refl _ _)⟩⟩
    case round =>
      obtain ⟨i, n, c, A, xs, rfl, rfl, rfl, hnk, hxn, hi9, U⟩ := hrel
      by_cases hn : n < N
      · have p1 : ((n : Int) < (N : Int)) = True := eq_true (by omega)
        have hstep : R = (match rstep s i with | none => none | some c => rloop s (N - (n + 1)) c.2 (xs ++ [c.1])) := by
          have := U.out.1
          rw [show N - n = (N - (n + 1)) + 1 by omega] at this
          exact this
        have HS := Aside0.mk hstep
        clear hstep
        have HNone : Aside0 (rstep s i = none → rget s = ([], false)) := Aside0.mk (fun h => by
          have := HS.out
          rw [h] at this
          have h2 := HG.out
          rw [this] at h2
          exact h2)
        have NO : ∀ W', Eff0 w W' → rstep s i = none → Aside0 (rget s = ([], false) ∧ Upd w (fun _ => False) (RB (.slice none 0 0) []) W') := fun W' e h => Aside0.mk ⟨HNone.out h, Upd.same (RwAt.nil _) e⟩
        have EW : Aside0 (Eff0 w wr) := Aside0.mk (by obtain ⟨_, F, hF, eF, _⟩ := U.out; exact eF)
        by_cases hi : 240 ≤ i
        · have p2 : ((i : Int) ≥ 240) = True := eq_true (by omega)
          have hr := NO wr EW.out (by unfold rstep; rw [if_pos hi])
          clear hi
          go_wp2_with fail
          go_ret2
          exact ⟨none, 0, by rw [hr.out.1]; rfl, by rw [hr.out.1]; exact Aside0.mk hr.out.2⟩
        · have p2 : ((i : Int) ≥ 240) = False := eq_false (by omega)
          have hi240 : i < 240 := by omega
          have hxi := byt_at s i
          have hkb := byt_lt s i
          obtain ⟨kb, hkbe⟩ : ∃ kb, kb = byt s i := ⟨_, rfl⟩
          rw [← hkbe] at hxi hkb
          have HKB := Aside0.mk hkbe
          by_cases h2 : 240 < i + 1 + kb + 3
          · have p3 : ((i : Int) + 1 + (kb : Int) + 3 > 240) = True := eq_true (by omega)
            have hr := NO wr EW.out (by unfold rstep; rw [if_neg hi, ← hkbe, if_pos h2])
            clear hi hkbe h2
            go_wp2_with fail
            go_ret2
            exact ⟨none, 0, by rw [hr.out.1]; rfl, by rw [hr.out.1]; exact Aside0.mk hr.out.2⟩
          · have p3 : ((i : Int) + 1 + (kb : Int) + 3 > 240) = False := eq_false (by omega)
            have h2b : i + 1 + kb + 3 ≤ 240 := by omega
            have hxk := byt_at s (i + 1 + kb)
            have hkd := byt_lt s (i + 1 + kb)
            obtain ⟨kd, hkde⟩ : ∃ kd, kd = byt s (i + 1 + kb) := ⟨_, rfl⟩
            rw [← hkde] at hxk hkd
            have hes : (s.extract (i + 2 + kb) (i + 4 + kb)).size = 2 := by rw [ext_size _ _ _ (by omega)]; omega
            have CO := fun W => of_calls (s.extract (i + 2 + kb) (i + 4 + kb)) (by omega) W
            have hsz : bigv (s.extract (i + 2 + kb) (i + 4 + kb)) < 65536 := nval_lt2 _ (by rw [← size_data]; omega)
            obtain ⟨sz, hsze⟩ : ∃ sz, sz = bigv (s.extract (i + 2 + kb) (i + 4 + kb)) := ⟨_, rfl⟩
            rw [← hsze] at CO hsz
            have HKD := Aside0.mk (And.intro hkde (And.intro hsze hi))
            clear hkde hsze hkbe hi h2 hes
            have hb3 : (i : Int) + 1 + (kb : Int) < 240 := by omega
            have hb3' : i + 1 + kb < 240 := by omega
            have hb0 : (0 : Int) ≤ (i : Int) + 1 + (kb : Int) := by omega
            have t2 : ((i : Int) + 1 + (kb : Int)).toNat = i + 1 + kb := by omega
            have sl1 := sl_run s (i + 1) (i + 1 + kb) ((i : Int) + 1) ((i : Int) + 1 + (kb : Int)) (by omega) (by omega) (by omega) (by omega)
            have sl2 := sl_run s (i + 2 + kb) (i + 4 + kb) ((i : Int) + 2 + (kb : Int)) ((i : Int) + 4 + (kb : Int)) (by omega) (by omega) (by omega) (by omega)
            have HB := Aside0.mk (And.intro h2b hi240)
            by_cases hk0 : kd = 0
            · subst hk0
              by_cases h4 : 240 < i + 4 + kb + sz
              · have p4 : ((i : Int) + 4 + (kb : Int) + (sz : Int) > 240) = True := eq_true (by omega)
                have hrs : rstep s i = none := by
                  have := HKB.out
                  have h9 := HKD.out
                  unfold rstep
                  rw [if_neg h9.2.2, ← this, if_neg (by omega), ← h9.1, if_pos rfl, ← h9.2.1, if_pos h4]
                clear h4
                go_wp2_with (go_at_call 69; refine (CO _).mono ?_; rintro e w3 ⟨rfl, d3⟩; have E3 : Eff0 wr w3 := ((Eff.refl (fun _ => False) wr).alloc (.cells #[.string (s.extract (i + 1) (i + 1 + kb)), .string ⟨#[]⟩, .int .i64 0, .int .i64 0] 42)).drawn d3; have B3 := (((Eff.refl (fun _ => False) (wr.alloc (.cells #[.string (s.extract (i + 1) (i + 1 + kb)), .string ⟨#[]⟩, .int .i64 0, .int .i64 0] 42))).drawn d3).block wr.heap.size (by simp) id).trans (heap_alloc_new wr _); have f1 := blk_frozen B3 1; have f2 := blk_frozen B3 2; have f3 := blk_frozen B3 3; have g0 : w3.cell? ⟨wr.heap.size, 0, none⟩ = some (.string (s.extract (i + 1) (i + 1 + kb))) := blk_cell B3 0; have g1 : w3.cell? ⟨wr.heap.size, 1, none⟩ = some (.string ⟨#[]⟩) := blk_cell B3 1; have g2 : w3.cell? ⟨wr.heap.size, 2, none⟩ = some (.int .i64 0) := blk_cell B3 2; have g3 : w3.cell? ⟨wr.heap.size, 3, none⟩ = some (.int .i64 0) := blk_cell B3 3; have gl : wr.heap.size < w3.heap.size := World.block_lt_of_cell? w3 _ g0; clear d3 CO)
                have hr := NO _ (EW.out.then0 E3) hrs
                go_ret2
                exact ⟨none, 0, by rw [hr.out.1]; rfl, by rw [hr.out.1]; exact Aside0.mk hr.out.2⟩
              · have p4 : ((i : Int) + 4 + (kb : Int) + (sz : Int) > 240) = False := eq_false (by omega)
                have sl3 := sl_run s (i + 4 + kb) (i + 4 + kb + sz) ((i : Int) + 4 + (kb : Int)) ((i : Int) + 4 + (kb : Int) + (sz : Int)) (by omega) (by omega) (by omega) (by omega)
                have hrs : Aside0 (rstep s i = some (⟨s.extract (i + 1) (i + 1 + kb), s.extract (i + 4 + kb) (i + 4 + kb + sz), 0, 0⟩, i + 4 + kb + sz) ∧ i + 4 + kb + sz ≤ 240) := Aside0.mk (by
                  have := HKB.out
                  have h9 := HKD.out
                  refine ⟨?_, by omega⟩
                  unfold rstep
                  rw [if_neg h9.2.2, ← this, if_neg (by omega), ← h9.1, if_pos rfl, ← h9.2.1, if_neg h4])
                clear h4
                go_wp2_with (first
                  | (go_at_call 69; refine (CO _).mono ?_; rintro e w3 ⟨rfl, d3⟩; have E3 : Eff0 wr w3 := ((Eff.refl (fun _ => False) wr).alloc (.cells #[.string (s.extract (i + 1) (i + 1 + kb)), .string ⟨#[]⟩, .int .i64 0, .int .i64 0] 42)).drawn d3; have B3 := (((Eff.refl (fun _ => False) (wr.alloc (.cells #[.string (s.extract (i + 1) (i + 1 + kb)), .string ⟨#[]⟩, .int .i64 0, .int .i64 0] 42))).drawn d3).block wr.heap.size (by simp) id).trans (heap_alloc_new wr _); have f1 := blk_frozen B3 1; have f2 := blk_frozen B3 2; have f3 := blk_frozen B3 3; have g0 : w3.cell? ⟨wr.heap.size, 0, none⟩ = some (.string (s.extract (i + 1) (i + 1 + kb))) := blk_cell B3 0; have g1 : w3.cell? ⟨wr.heap.size, 1, none⟩ = some (.string ⟨#[]⟩) := blk_cell B3 1; have g2 : w3.cell? ⟨wr.heap.size, 2, none⟩ = some (.int .i64 0) := blk_cell B3 2; have g3 : w3.cell? ⟨wr.heap.size, 3, none⟩ = some (.int .i64 0) := blk_cell B3 3; have gl : wr.heap.size < w3.heap.size := World.block_lt_of_cell? w3 _ g0; clear d3 CO; obtain ⟨q, W9, hr, U9⟩ := box_add U.out.2 (E3.set ⟨wr.heap.size, 1, none⟩ (.string (s.extract (i + 4 + kb) (i + 4 + kb + sz))) (.inr (Nat.le_refl _))) ⟨s.extract (i + 1) (i + 1 + kb), s.extract (i + 4 + kb) (i + 4 + kb + sz), 0, 0⟩ (by omega); rw [show (w3.setCell ⟨wr.heap.size, 1, none⟩ (.string (s.extract (i + 4 + kb) (i + 4 + kb + sz)))).heap.size = w3.heap.size by simp [World.setCell]] at hr)
                  | (at_builtin; refine Lib.wpList_append_run _ rfl (.tmp 106) (.tmp 108) 26 26 rfl _ _ rfl rfl _ _ (hr _) ?_))
                go_roundg (gk - 1)
                case measure => omega
                case rel =>
                  refine ⟨i + 4 + kb + sz, n + 1, q.2, q.1, xs ++ [_], by rw [List.length_append, List.length_singleton], by first | (simp; done) | (simp; omega), by simp, by omega, by rw [List.length_append, List.length_singleton]; omega, by have := hrs.out.2; omega, Aside0.mk ⟨?_, U9.out⟩⟩
                  have := HS.out
                  rw [hrs.out.1] at this
                  exact this
            · by_cases hk1 : kd = 1
              · subst hk1
                by_cases h4 : 240 < i + 4 + kb + 2
                · have p4 : ((i : Int) + 4 + (kb : Int) + 2 > 240) = True := eq_true (by omega)
                  have hrs : rstep s i = none := by
                    have := HKB.out
                    have h9 := HKD.out
                    unfold rstep
                    rw [if_neg h9.2.2, ← this, if_neg (by omega), ← h9.1, if_neg (by decide), if_pos rfl, if_pos h4]
                  clear h4 hk0
                  go_wp2_with (go_at_call 69; refine (CO _).mono ?_; rintro e w3 ⟨rfl, d3⟩; have E3 : Eff0 wr w3 := ((Eff.refl (fun _ => False) wr).alloc (.cells #[.string (s.extract (i + 1) (i + 1 + kb)), .string ⟨#[]⟩, .int .i64 0, .int .i64 0] 42)).drawn d3; have B3 := (((Eff.refl (fun _ => False) (wr.alloc (.cells #[.string (s.extract (i + 1) (i + 1 + kb)), .string ⟨#[]⟩, .int .i64 0, .int .i64 0] 42))).drawn d3).block wr.heap.size (by simp) id).trans (heap_alloc_new wr _); have f1 := blk_frozen B3 1; have f2 := blk_frozen B3 2; have f3 := blk_frozen B3 3; have g0 : w3.cell? ⟨wr.heap.size, 0, none⟩ = some (.string (s.extract (i + 1) (i + 1 + kb))) := blk_cell B3 0; have g1 : w3.cell? ⟨wr.heap.size, 1, none⟩ = some (.string ⟨#[]⟩) := blk_cell B3 1; have g2 : w3.cell? ⟨wr.heap.size, 2, none⟩ = some (.int .i64 0) := blk_cell B3 2; have g3 : w3.cell? ⟨wr.heap.size, 3, none⟩ = some (.int .i64 0) := blk_cell B3 3; have gl : wr.heap.size < w3.heap.size := World.block_lt_of_cell? w3 _ g0; clear d3 CO)
                  have hr := NO _ (EW.out.then0 E3) hrs
                  go_ret2
                  exact ⟨none, 0, by rw [hr.out.1]; rfl, by rw [hr.out.1]; exact Aside0.mk hr.out.2⟩
                · have p4 : ((i : Int) + 4 + (kb : Int) + 2 > 240) = False := eq_false (by omega)
                  have sl3 := sl_run s (i + 4 + kb) (i + 4 + kb + 2) ((i : Int) + 4 + (kb : Int)) ((i : Int) + 4 + (kb : Int) + 2) (by omega) (by omega) (by omega) (by omega)
                  have hes : (s.extract (i + 4 + kb) (i + 4 + kb + 2)).size = 2 := by rw [ext_size _ _ _ (by omega)]; omega
                  have CO2 := fun W => of_calls (s.extract (i + 4 + kb) (i + 4 + kb + 2)) (by omega) W
                  have hrs : Aside0 (rstep s i = some (⟨s.extract (i + 1) (i + 1 + kb), ⟨#[]⟩, (bigv (s.extract (i + 4 + kb) (i + 4 + kb + 2)) : Nat), (sz : Nat)⟩, i + 4 + kb + 2) ∧ i + 4 + kb + 2 ≤ 240) := Aside0.mk (by
                    have := HKB.out
                    have h9 := HKD.out
                    refine ⟨?_, by omega⟩
                    unfold rstep
                    rw [if_neg h9.2.2, ← this, if_neg (by omega), ← h9.1, if_neg (by decide), if_pos rfl, if_neg h4, ← h9.2.1])
                  generalize bigv (s.extract (i + 4 + kb) (i + 4 + kb + 2)) = bl at *
                  clear h4 hk0 hes
                  go_wp2_with (first
                    | (go_at_call 69; refine (CO _).mono ?_; rintro e w3 ⟨rfl, d3⟩; have E3 : Eff0 wr w3 := ((Eff.refl (fun _ => False) wr).alloc (.cells #[.string (s.extract (i + 1) (i + 1 + kb)), .string ⟨#[]⟩, .int .i64 0, .int .i64 0] 42)).drawn d3; have B3 := (((Eff.refl (fun _ => False) (wr.alloc (.cells #[.string (s.extract (i + 1) (i + 1 + kb)), .string ⟨#[]⟩, .int .i64 0, .int .i64 0] 42))).drawn d3).block wr.heap.size (by simp) id).trans (heap_alloc_new wr _); have f1 := blk_frozen B3 1; have f2 := blk_frozen B3 2; have f3 := blk_frozen B3 3; have g0 : w3.cell? ⟨wr.heap.size, 0, none⟩ = some (.string (s.extract (i + 1) (i + 1 + kb))) := blk_cell B3 0; have g1 : w3.cell? ⟨wr.heap.size, 1, none⟩ = some (.string ⟨#[]⟩) := blk_cell B3 1; have g2 : w3.cell? ⟨wr.heap.size, 2, none⟩ = some (.int .i64 0) := blk_cell B3 2; have g3 : w3.cell? ⟨wr.heap.size, 3, none⟩ = some (.int .i64 0) := blk_cell B3 3; have gl : wr.heap.size < w3.heap.size := World.block_lt_of_cell? w3 _ g0; clear d3 CO)
                    | (go_at_call 69; refine (CO2 _).mono ?_; rintro e w5 ⟨rfl, d5⟩; have E5 : Eff0 wr w5 := E3.drawn d5; have B5 := (((Eff.refl (fun _ => False) w3).drawn d5).block wr.heap.size gl id).trans B3; have f52 := blk_frozen B5 2; have f53 := blk_frozen B5 3; have g50 : w5.cell? ⟨wr.heap.size, 0, none⟩ = some (.string (s.extract (i + 1) (i + 1 + kb))) := blk_cell B5 0; have g51 : w5.cell? ⟨wr.heap.size, 1, none⟩ = some (.string ⟨#[]⟩) := blk_cell B5 1; have g52 : w5.cell? ⟨wr.heap.size, 2, none⟩ = some (.int .i64 0) := blk_cell B5 2; have g53 : w5.cell? ⟨wr.heap.size, 3, none⟩ = some (.int .i64 0) := blk_cell B5 3; have gl5 : wr.heap.size < w5.heap.size := World.block_lt_of_cell? w5 _ g50; clear d5 CO2; obtain ⟨q, W9, hr, U9⟩ := box_add U.out.2 ((E5.set ⟨wr.heap.size, 3, none⟩ (.int .i64 (sz : Nat)) (.inr (Nat.le_refl _))).set ⟨wr.heap.size, 2, none⟩ (.int .i64 (bl : Nat)) (.inr (Nat.le_refl _))) ⟨s.extract (i + 1) (i + 1 + kb), ⟨#[]⟩, (bl : Nat), (sz : Nat)⟩ (by omega); rw [show ((w5.setCell ⟨wr.heap.size, 3, none⟩ (.int .i64 (sz : Nat))).setCell ⟨wr.heap.size, 2, none⟩ (.int .i64 (bl : Nat))).heap.size = w5.heap.size by simp [World.setCell]] at hr)
                    | (at_builtin; refine Lib.wpList_append_run _ rfl (.tmp 106) (.tmp 108) 26 26 rfl _ _ rfl rfl _ _ (hr _) ?_))
                  go_roundg (gk - 1)
                  case measure => omega
                  case rel =>
                    refine ⟨i + 4 + kb + 2, n + 1, q.2, q.1, xs ++ [_], by rw [List.length_append, List.length_singleton], by first | (simp; done) | (simp; omega), by simp, by omega, by rw [List.length_append, List.length_singleton]; omega, by have := hrs.out.2; omega, Aside0.mk ⟨?_, U9.out⟩⟩
                    have := HS.out
                    rw [hrs.out.1] at this
                    exact this
              · have hrs : rstep s i = none := by
                  have := HKB.out
                  have h9 := HKD.out
                  unfold rstep
                  rw [if_neg h9.2.2, ← this, if_neg (by omega), ← h9.1, if_neg hk0, if_neg hk1]
                have k0 : ((kd : Int) = 0) = False := eq_false (by omega)
                have k1 : ((kd : Int) = 1) = False := eq_false (by omega)
                have k0b : ((kd : Int) == 0) = false := by simpa using hk0
                have k1b : ((kd : Int) == 1) = false := by
                  have : (kd : Int) ≠ 1 := by omega
                  simpa using this
                clear hk0 hk1
                go_wp2_with (go_at_call 69; refine (CO _).mono ?_; rintro e w3 ⟨rfl, d3⟩; have E3 : Eff0 wr w3 := ((Eff.refl (fun _ => False) wr).alloc (.cells #[.string (s.extract (i + 1) (i + 1 + kb)), .string ⟨#[]⟩, .int .i64 0, .int .i64 0] 42)).drawn d3; have B3 := (((Eff.refl (fun _ => False) (wr.alloc (.cells #[.string (s.extract (i + 1) (i + 1 + kb)), .string ⟨#[]⟩, .int .i64 0, .int .i64 0] 42))).drawn d3).block wr.heap.size (by simp) id).trans (heap_alloc_new wr _); have f1 := blk_frozen B3 1; have f2 := blk_frozen B3 2; have f3 := blk_frozen B3 3; have g0 : w3.cell? ⟨wr.heap.size, 0, none⟩ = some (.string (s.extract (i + 1) (i + 1 + kb))) := blk_cell B3 0; have g1 : w3.cell? ⟨wr.heap.size, 1, none⟩ = some (.string ⟨#[]⟩) := blk_cell B3 1; have g2 : w3.cell? ⟨wr.heap.size, 2, none⟩ = some (.int .i64 0) := blk_cell B3 2; have g3 : w3.cell? ⟨wr.heap.size, 3, none⟩ = some (.int .i64 0) := blk_cell B3 3; have gl : wr.heap.size < w3.heap.size := World.block_lt_of_cell? w3 _ g0; clear d3 CO)
                have hr := NO _ (EW.out.then0 E3) hrs
                go_ret2
                exact ⟨none, 0, by rw [hr.out.1]; rfl, by rw [hr.out.1]; exact Aside0.mk hr.out.2⟩
      · have p1 : ((n : Int) < (N : Int)) = False := eq_false (by omega)
        obtain rfl : n = N := by omega
        have hRx : rget s = rfin s (some xs) := by
          have h1 := HG.out
          have h2 := U.out.1
          rw [Nat.sub_self] at h2
          rw [h1, h2]
          rfl
        obtain ⟨F, hF, eF, kF⟩ := U.out.2
        obtain ⟨_, hxc, hC⟩ := RB_C hF.1
        have CP := refput_calls wr A c xs hC hxc (by omega)
        have UX := U.out.2
        have U2 := Aside0.mk (fun (W' : World) (e : Eff0 wr W') => (show Upd w (fun _ => False) (RB (.slice A xs.length c) xs) W' from ⟨F, HP.eff0 hF e, eF.then0 e, kF⟩))
        have HRX := Aside0.mk hRx
        clear hRx hF hC hxc UX U
        obtain ⟨P, hP⟩ : ∃ P, P = putF (xs.map B.cl) := ⟨_, rfl⟩
        rw [← hP] at CP
        have HPP := Aside0.mk hP
        clear hP
        obtain ⟨t, b⟩ := P
        dsimp only at CP
        have NO : ∀ W', Eff0 w W' → ¬ (t, b) = (s, true) → Aside0 (rget s = ([], false) ∧ Upd w (fun _ => False) (RB (.slice none 0 0) []) W') := fun W' e h => Aside0.mk ⟨by
          rw [HRX.out]
          show (if putF (xs.map B.cl) = (s, true) then (xs, true) else ([], false)) = _
          rw [← HPP.out, if_neg h], Upd.same (RwAt.nil _) e⟩
        have EWn := Aside0.mk eF
        clear eF
        cases b with
        | false =>
          go_wp2_with (go_at_call 10; refine CP.mono ?_; rintro e w4 ⟨rfl, e4⟩)
          have hr := NO _ (EWn.out.then0 e4) (by simp)
          go_ret2
          exact ⟨none, 0, by rw [hr.out.1]; rfl, by rw [hr.out.1]; exact Aside0.mk hr.out.2⟩
        | true =>
          by_cases hts : t = s
          · have hr : rget s = (xs, true) := by
              rw [HRX.out]
              show (if putF (xs.map B.cl) = (s, true) then (xs, true) else ([], false)) = _
              rw [← HPP.out, hts, if_pos rfl]
            have HR2 := Aside0.mk hr
            clear hr NO HPP
            subst hts
            go_wp2_with (go_at_call 10; refine CP.mono ?_; rintro e w4 ⟨rfl, e4⟩; have U4 := Aside0.mk (U2.out _ e4))
            go_ret2
            exact ⟨A, c, by rw [HR2.out]; rfl, by rw [HR2.out]; exact U4⟩
          · have hne : (t.toList = s.toList) = False := eq_false (fun h => hts (by rw [Lib.toList_data, Lib.toList_data] at h; exact eq_of_data h))
            have hne2 : (t.toList == s.toList) = false := by
              have : ¬ t.toList = s.toList := fun h => hts (by rw [Lib.toList_data, Lib.toList_data] at h; exact eq_of_data h)
              simpa using this
            have hne3 : (t = s) = False := eq_false hts
            have HTS := Aside0.mk hts
            clear hts
            go_wp2_with (go_at_call 10; refine CP.mono ?_; rintro e w4 ⟨rfl, e4⟩)
            have hr := NO _ (EWn.out.then0 e4) (fun h => HTS.out (by injection h))
            go_ret2
            exact ⟨none, 0, by rw [hr.out.1]; rfl, by rw [hr.out.1]; exact Aside0.mk hr.out.2⟩
  · have hr : rget s = ([], false) := by unfold rget; rw [if_neg hs]
    have HRG := Aside0.mk hr
    have hs1 : ((s.size : Int) = 240) = False := eq_false (by omega)
    clear hr
    go_enter Tryz.func21, Tryz.ntmps21
    go_wp2_with fail
    go_ret2
    exact ⟨none, 0, by rw [HRG.out]; rfl, by rw [HRG.out]; exact Aside0.mk (Upd.same (RwAt.nil _) (Eff.refl _ _))⟩
end Go.Proofs.YtcmepoakcffpaaaGreat.CP
namespace Go.Proofs.YtcmepoakcffpaaaGreat.CP
open Go Go.RowKit Go.Proofs.YtcmepoakcffpaaaGreatW.PrintWords Go.Proofs.YtcmepoakcffpaaaGreatW.PrintLast Go.Proofs.YtcmepoakcffpaaaGreatW.PrintMore Go.Proofs.YtcmepoakcffpaaaGreat.CR Go.Proofs.YtcmepoakcffpaaaGreat.L Go.Proofs.YtcmepoakcffpaaaGreat.MR
set_option linter.unusedVariables false
set_option linter.unusedSimpArgs false
/-! ### the document's reader reads what was written -/
/-- A cell's bytes at a place of the body: the reader reads it. -/
theorem byt_drop {s : ByteArray} {i j : Nat} {l : List UInt8} (h : s.data.toList.drop i = l) (hj : j < l.length) : byt s (i + j) = (l[j]'hj).toNat := by
  unfold byt
  subst h
  rw [List.length_drop] at hj
  rw [List.getElem_drop, List.getD_eq_getElem?_getD, List.getElem?_eq_getElem (by omega)]
  rfl
theorem ext_drop {s : ByteArray} {i a b : Nat} {l : List UInt8} (h : s.data.toList.drop i = l) : (s.extract (i + a) (i + b)).data.toList = (l.take b).drop a := by
  rw [ext_data, List.drop_take]
  subst h
  rw [List.drop_take, List.drop_drop, show i + b - (i + a) = b - a by omega]
theorem rstep_enc (s : ByteArray) (hs : s.size = 240) (i : Nat) (c : Cl) (r : List UInt8) (hR : right c = true) (h : s.data.toList.drop i = enc c ++ r) : ∃ q : B, q.cl = c ∧ rstep s i = some (q, i + csize c) := by
  have hl0 : s.data.toList.length = 240 := by rw [← size_data]; exact hs
  have hL := congrArg List.length h
  rw [List.length_drop, hl0, List.length_append, enc_length hR] at hL
  have hR0 := hR
  simp only [right, decide_eq_true_eq] at hR
  obtain ⟨h1, h2, h3⟩ := hR
  obtain ⟨k, v, bl, sz⟩ := c
  dsimp only at h1 h2 h3
  have hcs : csize ⟨k, v, bl, sz⟩ = 4 + k.length + if bl = 0 then v.length else 2 := rfl
  by_cases hb : bl = 0
  · rw [if_pos hb] at h3
    obtain ⟨h4, h5⟩ := h3
    subst hb h5
    rw [if_pos rfl] at hcs
    have e : enc ⟨k, v, 0, 0⟩ ++ r = [UInt8.ofNat k.length] ++ (k ++ ([0] ++ (num2 v.length ++ (v ++ r)))) := by simp [enc]
    rw [e] at h
    have n2 : (num2 v.length).length = 2 := rfl
    have b0 : byt s i = k.length := by
      have := byt_drop (j := 0) h (by simp)
      rw [Nat.add_zero] at this
      rw [this]
      simp
      omega
    have bk : byt s (i + 1 + k.length) = 0 := by
      have := byt_drop (j := 1 + k.length) h (by simp; omega)
      rw [← Nat.add_assoc] at this
      rw [this]
      rw [List.getElem_append_right (by simp), List.getElem_append_right (by simp)]
      simp
    have hk : (s.extract (i + 1) (i + 1 + k.length)).data.toList = k := by
      have := ext_drop (a := 1) (b := 1 + k.length) h
      rw [← Nat.add_assoc] at this
      rw [this, List.drop_take, List.drop_left' (by simp), show 1 + k.length - 1 = k.length by omega, List.take_left' rfl]
    have hn : bigv (s.extract (i + 2 + k.length) (i + 4 + k.length)) = v.length := by
      have := ext_drop (a := 2 + k.length) (b := 4 + k.length) h
      rw [← Nat.add_assoc, ← Nat.add_assoc] at this
      unfold bigv
      rw [this]
      have e2 : [UInt8.ofNat k.length] ++ (k ++ ([0] ++ (num2 v.length ++ (v ++ r)))) = ([UInt8.ofNat k.length] ++ k ++ [0]) ++ (num2 v.length ++ (v ++ r)) := by simp
      have l2 : ([UInt8.ofNat k.length] ++ k ++ [0]).length = 2 + k.length := by simp; omega
      rw [e2, List.drop_take, List.drop_left' l2, show 4 + k.length - (2 + k.length) = 2 by omega, List.take_left' n2]
      exact nval2 _ (by omega)
    have hv : (s.extract (i + 4 + k.length) (i + 4 + k.length + v.length)).data.toList = v := by
      have := ext_drop (a := 4 + k.length) (b := 4 + k.length + v.length) h
      rw [← Nat.add_assoc, show i + (4 + k.length + v.length) = i + 4 + k.length + v.length by omega] at this
      rw [this]
      have e2 : [UInt8.ofNat k.length] ++ (k ++ ([0] ++ (num2 v.length ++ (v ++ r)))) = ([UInt8.ofNat k.length] ++ k ++ [0] ++ num2 v.length) ++ (v ++ r) := by simp
      have l2 : ([UInt8.ofNat k.length] ++ k ++ [0] ++ num2 v.length).length = 4 + k.length := by simp [n2]; omega
      rw [e2, List.drop_take, List.drop_left' l2, show 4 + k.length + v.length - (4 + k.length) = v.length by omega, List.take_left' rfl]
    refine ⟨⟨s.extract (i + 1) (i + 1 + k.length), s.extract (i + 4 + k.length) (i + 4 + k.length + v.length), 0, 0⟩, ?_, ?_⟩
    · unfold B.cl
      dsimp only
      rw [hk, hv]
    · unfold rstep
      rw [if_neg (by omega), b0, if_neg (by omega), bk, if_pos rfl, hn, if_neg (by omega), hcs]
      congr 2
      omega
  · rw [if_neg hb] at h3
    obtain ⟨h4, h5, h6, h7, h8⟩ := h3
    subst h6
    rw [if_neg hb] at hcs
    have e : enc ⟨k, [], bl, sz⟩ ++ r = [UInt8.ofNat k.length] ++ (k ++ ([1] ++ (num2 sz.toNat ++ (num2 bl.toNat ++ r)))) := by simp [enc, hb]
    rw [e] at h
    have n2 : (num2 sz.toNat).length = 2 := rfl
    have n3 : (num2 bl.toNat).length = 2 := rfl
    have b0 : byt s i = k.length := by
      have := byt_drop (j := 0) h (by simp)
      rw [Nat.add_zero] at this
      rw [this]
      simp
      omega
    have bk : byt s (i + 1 + k.length) = 1 := by
      have := byt_drop (j := 1 + k.length) h (by simp; omega)
      rw [← Nat.add_assoc] at this
      rw [this]
      rw [List.getElem_append_right (by simp), List.getElem_append_right (by simp)]
      simp
    have hk : (s.extract (i + 1) (i + 1 + k.length)).data.toList = k := by
      have := ext_drop (a := 1) (b := 1 + k.length) h
      rw [← Nat.add_assoc] at this
      rw [this, List.drop_take, List.drop_left' (by simp), show 1 + k.length - 1 = k.length by omega, List.take_left' rfl]
    have hn : bigv (s.extract (i + 2 + k.length) (i + 4 + k.length)) = sz.toNat := by
      have := ext_drop (a := 2 + k.length) (b := 4 + k.length) h
      rw [← Nat.add_assoc, ← Nat.add_assoc] at this
      unfold bigv
      rw [this]
      have e2 : [UInt8.ofNat k.length] ++ (k ++ ([1] ++ (num2 sz.toNat ++ (num2 bl.toNat ++ r)))) = ([UInt8.ofNat k.length] ++ k ++ [1]) ++ (num2 sz.toNat ++ (num2 bl.toNat ++ r)) := by simp
      have l2 : ([UInt8.ofNat k.length] ++ k ++ [1]).length = 2 + k.length := by simp; omega
      rw [e2, List.drop_take, List.drop_left' l2, show 4 + k.length - (2 + k.length) = 2 by omega, List.take_left' n2]
      exact nval2 _ (by omega)
    have hv : bigv (s.extract (i + 4 + k.length) (i + 4 + k.length + 2)) = bl.toNat := by
      have := ext_drop (a := 4 + k.length) (b := 4 + k.length + 2) h
      rw [← Nat.add_assoc, show i + (4 + k.length + 2) = i + 4 + k.length + 2 by omega] at this
      unfold bigv
      rw [this]
      have e2 : [UInt8.ofNat k.length] ++ (k ++ ([1] ++ (num2 sz.toNat ++ (num2 bl.toNat ++ r)))) = ([UInt8.ofNat k.length] ++ k ++ [1] ++ num2 sz.toNat) ++ (num2 bl.toNat ++ r) := by simp
      have l2 : ([UInt8.ofNat k.length] ++ k ++ [1] ++ num2 sz.toNat).length = 4 + k.length := by simp [n2]; omega
      rw [e2, List.drop_take, List.drop_left' l2, show 4 + k.length + 2 - (4 + k.length) = 2 by omega, List.take_left' n3]
      exact nval2 _ (by omega)
    refine ⟨⟨s.extract (i + 1) (i + 1 + k.length), ⟨#[]⟩, (bl.toNat : Nat), (sz.toNat : Nat)⟩, ?_, ?_⟩
    · unfold B.cl
      dsimp only
      rw [hk, Int.toNat_of_nonneg (show 0 ≤ bl by omega), Int.toNat_of_nonneg (show 0 ≤ sz by omega)]
    · unfold rstep
      rw [if_neg (by omega), b0, if_neg (by omega), bk, if_neg (by decide), if_pos rfl, if_neg (by omega), hn, hv, hcs]
      congr 2
      omega
theorem rloop_encs (s : ByteArray) (hs : s.size = 240) : ∀ (l : List Cl) (i : Nat) (acc : List B) (r : List UInt8), (∀ c ∈ l, right c = true) → s.data.toList.drop i = encs l ++ r → ∃ xs : List B, xs.map B.cl = l ∧ rloop s l.length i acc = some (acc ++ xs)
  | [], i, acc, r, _, _ => ⟨[], rfl, by simp [rloop]⟩
  | c :: l, i, acc, r, hR, h => by
    have e : encs (c :: l) ++ r = enc c ++ (encs l ++ r) := by simp [encs]
    rw [e] at h
    obtain ⟨q, hq, hst⟩ := rstep_enc s hs i c _ (hR c (by simp)) h
    have h2 : s.data.toList.drop (i + csize c) = encs l ++ r := by
      rw [← List.drop_drop, h, List.drop_left' (enc_length (hR c (by simp)))]
    obtain ⟨xs, hxs, hlp⟩ := rloop_encs s hs l (i + csize c) (acc ++ [q]) r (fun d hd => hR d (by simp [hd])) h2
    refine ⟨q :: xs, by rw [List.map_cons, hq, hxs], ?_⟩
    rw [List.length_cons, rloop, hst]
    show rloop s l.length (i + csize c) (acc ++ [q]) = _
    rw [hlp, List.append_assoc]
    rfl
theorem rget_is (s : ByteArray) : rget s = getF s := by
  by_cases hs : s.size = 240
  · obtain ⟨g, hg⟩ : ∃ g, g = getF s := ⟨_, rfl⟩
    obtain ⟨x, b⟩ := g
    rw [← hg]
    cases b with
    | true =>
      have hp := getF_true hg.symm
      have h1 := putF_put hp
      have h2 := h1
      unfold put at h2
      split at h2
      · rename_i hc
        have h3 := Option.some.inj h2
        have hd : s.data.toList.drop 1 = encs (x.map B.cl) ++ List.replicate (239 - total (x.map B.cl)) 0 := by rw [← h3]; rfl
        obtain ⟨xs, hxs, hlp⟩ := rloop_encs s hs (x.map B.cl) 1 [] _ (rises_right hc.2.1) hd
        have hb : byt s 0 = (x.map B.cl).length := by
          unfold byt
          rw [← h3]
          simp only [List.getD_cons_zero]
          simp
          have := hc.1
          rw [List.length_map] at this
          omega
        have hxx : xs = x := map_cl_inj hxs
        unfold rget
        rw [if_pos hs, hb, hlp, List.nil_append, hxx]
        show (if putF (x.map B.cl) = (s, true) then (x, true) else ([], false)) = _
        rw [if_pos hp]
      · cases h2
    | false =>
      have hx : x = [] := by
        unfold getF at hg
        split at hg
        · injection hg with _ h; cases h
        · injection hg
      subst hx
      unfold rget
      rw [if_pos hs]
      cases hr : rloop s (byt s 0) 1 [] with
      | none => rfl
      | some l =>
        show (if putF (l.map B.cl) = (s, true) then (l, true) else ([], false)) = _
        by_cases hp : putF (l.map B.cl) = (s, true)
        · have h1 := getF_put (putF_put hp)
          have h2 : (⟨s.data.toList.toArray⟩ : ByteArray) = s := by apply eq_of_data; simp
          rw [h2] at h1
          rw [h1] at hg
          injection hg with _ h
          cases h
        · rw [if_neg hp]
  · unfold rget
    rw [if_neg hs, getF_size hs]
end Go.Proofs.YtcmepoakcffpaaaGreat.CP
