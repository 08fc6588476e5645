import Derived.Test.YtbfpmgbfkipiaaaMOver
import Derived.Test.YtbfpmgbfkipiaaaShelf
import Derived.Test.YtbfpmgbfkipiaaaLSortLib
namespace Go.Proofs.Ytbfpmgbfkipiaaa.MD
open Go Go.RowKit Go.Proofs.YtbfpmgbfkipiaaaW.PrintWords Go.Proofs.YtbfpmgbfkipiaaaW.PrintLast Go.Proofs.YtbfpmgbfkipiaaaW.PrintMore Go.Proofs.Ytbfpmgbfkipiaaa.L
set_option linter.unusedVariables false
set_option linter.unusedSimpArgs false
open Go.Sort
def cellsE (c : Ent) : List Value := [.string c.1, .string c.2]
abbrev entV (c : Ent) : Value := .agg #[.string c.1, .string c.2]
def kdE : Kd Ent where
  sz := 2
  E := []
  K := fun _ x cs => cs = cellsE x
  M := fun _ _ _ x cs => cs = cellsE x
  K_len := by rintro w x cs rfl; rfl
  K_one := by
    rintro w x cs rfl u hu
    simp only [cellsE, List.mem_cons, List.not_mem_nil, or_false] at hu
    rcases hu with rfl | rfl <;> rfl
  K_below := fun _ h => h
  K_of_M := fun h => h
  M_mono := fun _ h => h
  M_bound := fun h => h
  M_move := fun _ h => h
  M_lower := fun _ h => h
theorem infoE : (Try.prog.info? 35).map (fun i => (i.zero, i.size, i.bytes)) = some (some (.agg #[.string ⟨#[]⟩, .string ⟨#[]⟩]), 2, 32) := by kernel_rfl
theorem at_E {w : World} {A : Option Addr} {n : Nat} {ls : List Ent} (h : Kd.C kdE w A n ls) (i : Nat) (h1 : i < n) :
    ∃ ad, A = some ad ∧ w.cell? (ad.add (i * 2)) = some (.string (ls.getD i default).1) ∧ w.cell? { block := (ad.add (i * 2)).block, off := (ad.add (i * 2)).off + 1 } = some (.string (ls.getD i default).2) := by
  obtain ⟨ad, c, e, _, hK, hc0⟩ := Kd.C_get h (default : Ent) (i : Int) (by omega) (by omega)
  have hc : ∀ j u, c[j]? = some u → w.cell? (ad.add (i * 2 + j)) = some u := hc0
  have hK2 : c = cellsE (ls.getD i default) := hK
  subst hK2
  exact ⟨ad, e, hc 0 _ rfl, by rw [← add_off _ _ 1 (by decide)]; exact hc 1 _ rfl⟩
abbrev cfE (x y : Ent) : Int := Lib.compareBytes (bl x.1) (bl y.1)
theorem bytes_compare : ∀ (a b : List UInt8), (Lib.compareBytes a b < 0) ↔ a < b
  | [], [] => by simp [Lib.compareBytes]
  | [], _ :: _ => by simp [Lib.compareBytes]
  | _ :: _, [] => by simp [Lib.compareBytes]
  | a :: x, b :: y => by
    have ih := bytes_compare x y
    unfold Lib.compareBytes
    rw [List.cons_lt_cons_iff]
    by_cases h1 : a < b
    · simp [h1]
    · rw [if_neg h1]
      by_cases h2 : b < a
      · rw [if_pos h2]
        simp only [h1, false_or, show ¬ ((1 : Int) < 0) by decide, false_iff, not_and]
        intro e
        subst e
        exact absurd h2 h1
      · rw [if_neg h2, ih]
        have e : a = b := UInt8.le_antisymm (UInt8.not_lt.mp h2) (UInt8.not_lt.mp h1)
        simp [h1, e]
theorem ltE (x y : Ent) : ltOf cfE x y = decide (bl x.1 < bl y.1) := by
  unfold ltOf
  exact decide_eq_decide.mpr (bytes_compare _ _)
theorem swoE : SWO (ltOf cfE) where
  irrefl x := by rw [ltE]; simp [List.lt_irrefl]
  trans x y z h1 h2 := by rw [ltE] at *; simp only [decide_eq_true_eq] at *; exact List.lt_trans h1 h2
  ntrans x y z h1 h2 := by
    rw [ltE] at *
    simp only [decide_eq_false_iff_not] at *
    exact fun h => by
      rcases List.le_iff_lt_or_eq.mp (List.not_lt.mp h1) with h3 | h3
      · exact h2 (List.lt_trans h3 h)
      · rw [← h3] at h; exact h2 h
set_option maxHeartbeats 1600000 in
theorem closureE (x y : Ent) (W : World) : Calls Try.prog 25 #[entV x, entV y] W fun e w' => e = .returned (.int .i64 (cfE x y)) ∧ ∃ q os', w' = grow (W.drewN q) os' := by
  have hcon := fun W' => Try.strings_Compare x.1 y.1 W'
  unfold cfE
  generalize Lib.compareBytes (bl x.1) (bl y.1) = r at hcon ⊢
  obtain ⟨xk, xv⟩ := x
  obtain ⟨yk, yv⟩ := y
  dsimp only at hcon ⊢
  go_enter Try.func25, Try.ntmps25
  go_wp2_with (go_at_call 26; refine (hcon _).mono ?_; rintro e w' ⟨rfl, rfl⟩)
  go_ret
  exact ⟨rfl, 0, _, by rw [alloc_eq_grow, alloc_eq_grow, grow_grow]; rfl⟩
theorem cmpE (blk off size : Nat) (w : World) : CmpLays Try.prog 25 #[] cellsE 2 cfE blk off size w := fun _ _ _ _ x y => closureE x y _
theorem sortE_calls (w : World) (base cap : Nat) (ok : Nat → Prop) (g : Nat) (l : List Ent) (h : kdE.R 35 w base ok (.slice (some ⟨g, 0, none⟩) l.length cap) l) (hl : l.length < 900000) :
    Calls Try.prog 24 #[.slice (some ⟨g, 0, none⟩) l.length cap, .func (.func 25) #[] #[]] w fun e w' => e = .returned (.tuple #[]) ∧ Eff (fun k => k = g) w w' ∧ ∃ d : List Ent, l.Perm d ∧ d.Pairwise (fun a b => ¬ bl b.1 < bl a.1) ∧ Kd.C kdE w' (some ⟨g, 0, none⟩) l.length d := by
  have eg : ∀ args w, (callFunc 25 args).run Try.prog w = .ok (.enter 25 args) w := enters_of Try.func25 (by kernel_rfl) rfl
  have hH : HoldsK cellsE 2 w g 0 l.toArray := holds_of_R (d := kdE) rfl (by decide) (fun h => h) h
  have hg : g < w.heap.size := Kd.R_lt h g (by simp [Value.ownBlock])
  have hcon := AnyQ.slices_SortFunc Try.sortEnt 2 Try.isAgg35 Try.sizeOf35 cellsE (fun _ => rfl) (fun x v hv => by simp [cellsE] at hv; rcases hv with rfl | rfl <;> rfl) cfE swoE 25 #[] g 0 cap l.toArray w eg (cmpE g 0 l.toArray.size w) hH hg (by simp; omega)
  change Calls Try.prog 24 _ _ _ at hcon
  refine hcon.mono ?_
  rintro e w' ⟨rfl, d, n, os, hp, hs, rfl⟩
  obtain ⟨p1, p2⟩ := perm_list hp
  have hsz : d.size = l.length := by rw [p2]; rfl
  refine ⟨rfl, sort_eff, d.toList, p1, ?_, ?_⟩
  · have h2 := sorted_list (b := d) (by rw [p2]; exact hs)
    exact h2.imp fun {a b} h3 => by rw [ltE] at h3; exact of_decide_eq_false h3
  · have h3 := C_of_holds (d := kdE) (k := 2) rfl (fun _ => rfl) (fun _ => rfl) (holdsK_sortWorldK cellsE 2 w g 0 n l.toArray d os hg hH p2) (by omega)
    rwa [hsz] at h3
/-- What a call has made to be read. -/
structure Made (W : World) (A : Option Addr) (n : Nat) (m : List Ent) (w' : World) : Prop where
  e : Eff0 W w'
  c : Kd.C kdE w' A n m
  n : n = m.length
  lo : ∀ ad, A = some ad → m ≠ [] → W.heap.size ≤ ad.block
/-- The entries that were gathered so far, what is left. -/
structure Ls (W : World) (m lf xs : List Ent) (v : Value) (wr : World) : Prop where
  e : Below W.heap.size W wr
  p : (xs ++ lf).Perm m
  r : kdE.R 35 wr W.heap.size (fun k => k ≠ W.heap.size) v xs
set_option maxHeartbeats 1600000 in
set_option maxRecDepth 100000 in
theorem list_calls (W : World) (mb : Nat) (m l' : List Ent) (hM : MapAt keyStr W mb (strs l')) (hp : l'.Perm m) (hm : Rises m) (hl : m.length < 900000) :
    Calls Try.prog 23 #[.map (some mb)] W fun e w' => ∃ A c, e = .returned (.slice A m.length c) ∧ Made W A m.length m w' := by
  have hlt := hM.lt
  have hn : (m.map (·.1)).Nodup := hm.nodup
  have hlen := hp.length_eq
  have CS : ∀ w1 v xs, Ls W m [] xs v w1 → ∃ A1 c1, v = .slice A1 m.length c1 ∧ Calls Try.prog 24 #[.slice A1 m.length c1, .func (.func 25) #[] #[]] w1 fun e w' => e = .returned (.tuple #[]) ∧ Aside0 (Made W A1 m.length m w') := by
    rintro w1 v xs ⟨hB, hpx, hR⟩
    rw [List.append_nil] at hpx
    have hxl : xs.length = m.length := hpx.length_eq
    obtain ⟨A1, c1, rfl, _, hC⟩ := Kd.R_reads hR
    rw [hxl] at hC ⊢
    refine ⟨A1, c1, rfl, ?_⟩
    rcases Kd.R_own hR with ⟨inner, ho⟩
    rcases ho.2 with ⟨hv, h0⟩ | ⟨g, cap, cur, hv, hg, _⟩
    · have hnil : m = [] := List.length_eq_zero_iff.mp (by omega)
      subst hnil
      have hcon := AnyF.slices_SortFunc_none Try.sortEnt A1 c1 (.func (.func 25) #[] #[]) w1
      change Calls Try.prog 24 _ _ _ at hcon
      refine hcon.mono ?_
      rintro e w' ⟨rfl, rfl⟩
      have hx0 : xs = [] := List.length_eq_zero_iff.mp hxl
      subst hx0
      exact ⟨rfl, Aside0.mk ⟨Eff.of_below hB, hC, rfl, fun _ _ h => absurd rfl h⟩⟩
    · injection hv with hv1 hv2 hv3
      subst hv1 hv3
      rw [← hxl]
      refine (sortE_calls w1 W.heap.size c1 _ g xs (by rw [hxl]; rw [hxl] at hR; exact hR) (by omega)).mono ?_
      rintro e w' ⟨rfl, h1, d, hd, hs, hC2⟩
      have hdm : d = m := by
        have hdp : d.Perm m := hd.symm.trans hpx
        have hdn : (d.map (·.1)).Nodup := (hdp.map _).nodup_iff.2 hn
        refine Rises.of_perm hdp hm ?_
        rw [List.Nodup, List.pairwise_map] at hdn
        refine (hs.and hdn).imp (fun {a b} ⟨h2, h3⟩ => ?_)
        rcases lt_tri (bl a.1) (bl b.1) with h4 | h4 | h4
        · exact h4
        · exact absurd (bl_inj.1 h4) h3
        · exact absurd h4 h2
      rw [hdm] at hC2
      exact ⟨rfl, Aside0.mk ⟨Eff.of_below (below_eff hB (Nat.le_refl _) h1 (by rintro k rfl; exact hg)), hC2, hxl, fun ad had _ => by injection had with had; rw [← had]; exact hg⟩⟩
  have A0 := Aside0.mk (And.intro hp (And.intro hlen (And.intro hl hn)))
  clear hn hp hm hlen
  go_enter Try.func23, Try.ntmps23
  go_wp2_with (at_range; refine wpList_range_map rfl (.tmp 6) rfl rfl hM Try.underlying24 ?_; intro o' hI)
  go_frame
  go_loopg [3] l'.length (fun k s3 wr => ∃ (lf xs : List Ent), Iter keyStr wr W.heap.size mb (strs l') (strs lf) ∧ lf.length ≤ k ∧ Aside0 (Ls W m lf xs s3 wr))
  case atStart => exact ⟨l', [], hI, Nat.le_refl _, Aside0.mk ⟨below_alloc (Below.refl _ _) _, A0.out.1, Kd.R_nil _ _ _ _ _⟩⟩
  case round =>
    obtain ⟨lf, xs, hI, hk, A1⟩ := hrel
    go_wp2_with (at_next; refine wpList_next_map rfl (.tmp 7) rfl rfl hI ?_ ?_)
    · intro h0
      have hlf : lf = [] := by cases lf with | nil => rfl | cons _ _ => cases h0
      subst hlf
      obtain ⟨A1', c1, rfl, C⟩ := CS _ _ _ A1.out
      clear h0 hI CS hM A1 hk
      go_wp2_with (go_at_call 24; refine C.mono ?_; rintro e w2 ⟨rfl, A2⟩; clear C)
      go_ret
      exact ⟨_, _, rfl, A2.out⟩
    · intro k0 v0 w' hp hI' hg hs hen
      obtain ⟨q, hq, he⟩ := mem_strs hp
      obtain ⟨rfl, rfl⟩ := Prod.mk.inj he
      clear he
      have hB : Below W.heap.size W w' := below_eff A1.out.e (Nat.le_refl _) (Eff.of_grown hg (S := fun k => k = W.heap.size) (fun k hk => by injection hk with hk; exact hk.symm)) (fun k hk => by rw [hk]; exact Nat.le_refl _)
      have hR := Kd.R_step (w1 := w') A1.out.r (fun k hk hlt => grown_same hg hlt hk)
      obtain ⟨A5, c5, hv⟩ := Kd.R_slice A1.out.r
      subst hv
      have hen2 : (Instr.entry (.pointer (some ⟨W.heap.size, 0, none⟩))).run Try.prog w' = .ok (.tuple #[.string q.1, .string q.2]) w' := hen
      have hpm := A1.out.p
      have hll := hpm.length_eq
      rw [List.length_append] at hll
      have hlf : 1 ≤ lf.length := List.length_pos_of_mem hq
      have hxs : xs.length < 900000 := by have := A0.out.2.2.1; omega
      have hnn : ((xs ++ lf).map (·.1)).Nodup := (hpm.map _).nodup_iff.2 A0.out.2.2.2
      rw [List.map_append, List.nodup_append] at hnn
      have hd := del_perm1 hnn.2.1 hq
      have hdl := hd.length_eq
      rw [List.length_cons] at hdl
      have hI2 := hI'
      rw [del_strs] at hI2
      have hp2 : ((xs ++ [q]) ++ delM lf q.1).Perm m := by
        rw [List.append_assoc]
        exact (hd.symm.append_left xs).trans hpm
      have A5' := Aside0.mk (And.intro hI2 (And.intro hp2 (And.intro hdl hk)))
      have HR := Aside0.mk (And.intro hR hB)
      have hit : W.heap.size < w'.heap.size := hI'.lt
      clear hp hI' hg hs hen hq hd hdl hI2 hp2 hnn hll hpm hlf hR hB hI hk CS A1
      rw [show keyStr.enc q.1 = .string q.1 from rfl]
      generalize delM lf q.1 = lf' at *
      obtain ⟨qk, qv⟩ := q
      dsimp only at hen2 ⊢
      go_wp2_with (at_builtin; refine Kd.R_append kdE (W := w') (w0 := W) W.heap.size rfl (.tmp 13) (.tmp 17) 32 35 (.agg #[.string ⟨#[]⟩, .string ⟨#[]⟩]) 32 rfl Try.underlying32 infoE rfl (by decide) (by decide) (.slice A5 xs.length c5) xs (qk, qv) [.string qk, .string qv] (fun k => k ≠ W.heap.size) (fun _ => False) rfl rfl rfl (fun _ hk => hk.elim) (fun k hk => by omega) HR.out.1 HR.out.2 HR.out.2.size (by omega) ?_; intro v1 w3 r1 b1 g1 o1; have A3 := Aside0.mk (And.intro r1 (And.intro b1 g1)); clear r1 b1 g1 o1)
      go_roundg (gk - 1)
      case measure => have := A5'.out.2.2; omega
      case rel =>
        obtain ⟨r1, b1, g1⟩ := A3.out
        obtain ⟨hI2, hp2, hdl, hk⟩ := A5'.out
        have E : Eff (fun k => (Value.slice A5 xs.length c5).ownBlock = some k) w' w3 := Eff.of_grown g1 (fun i hi => hi)
        refine ⟨lf', xs ++ [(qk, qv)], hI2.move ?_ ?_, by omega, Aside0.mk ⟨b1, hp2, r1⟩⟩
        · refine E.block mb (Nat.lt_of_lt_of_le hlt HR.out.2.size) (fun hk => ?_)
          have := Kd.R_base HR.out.1 mb hk
          omega
        · exact E.block _ hit (fun hk => HR.out.1.1 _ hk rfl)
end Go.Proofs.Ytbfpmgbfkipiaaa.MD
