import Derived.Test.YtlbdodopodgokaaGreatProg
import Derived.BigRegion
import Derived.BigQuiet
import Derived.Deep.QuietTactic
import Derived.Deep.AppendLies
import Derived.ChangeAlike
import Derived.Outline
import Derived.WalkKit
import Derived.KernelRfl
import Derived.Deep.LoopGhost
import Derived.Deep.RegionLaw
import Derived.Test.YtlbdodopodgokaaGreatWMore
import Derived.Test.YtlbdodopodgokaaGreatWKept
import Derived.Test.YtlbdodopodgokaaGreatLSep
import Derived.Test.YtlbdodopodgokaaGreatCGet
import Derived.Test.YtlbdodopodgokaaGreatLSortLib
namespace Go.Proofs.YtlbdodopodgokaaGreat.CP
open Go Go.RowKit Go.Proofs.YtlbdodopodgokaaGreatW.PrintWords Go.Proofs.YtlbdodopodgokaaGreatW.PrintLast Go.Proofs.YtlbdodopodgokaaGreatW.PrintMore Go.Proofs.YtlbdodopodgokaaGreat.CR Go.Proofs.YtlbdodopodgokaaGreat.L
set_option linter.unusedVariables false
set_option linter.unusedSimpArgs false
open Go.Sort
theorem eq_nil_cells (A : Option Addr) (n c : Nat) (w : World) : (binOp .eql 22 (.slice A n c) (.slice none 0 0)).run Tryz.prog w = .ok (.bool A.isNone) w := Lib.run_eql_slice_nil w _ 25 A n c 0 0 Tryz.underlying22
theorem emptyCells (w : World) : kdB.R 25 (w.alloc (.cells #[] 25)) w.heap.size (fun _ => True) (.slice (some ⟨w.heap.size, 0, none⟩) 0 0) [] := by
  refine ⟨fun _ _ => trivial, [], ?_, by simp, fun j p h => by simp at h⟩
  exact ⟨by simp, .inr ⟨w.heap.size, 0, #[], rfl, Nat.le_refl _, heap_alloc_new w _, Nat.le_refl _, Nat.zero_le _, by simp, by simp⟩⟩
set_option maxHeartbeats 1600000 in
set_option maxRecDepth 100000 in
theorem cloneB_calls (w : World) (A : Option Addr) (c : Nat) (l : List B) (hr : Kd.C kdB w A l.length l) (hm : l.length < 900000) :
    Calls Tryz.prog 34 #[.slice A l.length c] w fun e w' => ∃ v, e = .returned v ∧ kdB.R 25 w' w.heap.size (fun _ => True) v l ∧ Below w.heap.size w w' := by
  cases A with
  | none =>
    have hl : l = [] := by
      cases l with
      | nil => rfl
      | cons x l =>
        obtain ⟨ad, e, _⟩ := at_B hr 0 (by simp)
        cases e
    subst hl
    have hE := eq_nil_cells none 0 c w
    dsimp only [Option.isNone] at hE
    clear hr
    go_enter Tryz.func34, Tryz.ntmps34
    go_wp2
    go_ret
    exact ⟨_, rfl, Kd.R_nil _ _ _ _ _, Below.refl _ _⟩
  | some a =>
    have hE := eq_nil_cells (some a) l.length c w
    dsimp only [Option.isNone] at hE
    have H := Aside0.mk hr
    clear hr
    go_enter Tryz.func34, Tryz.ntmps34
    go_wp2_with (first | (at_builtin; refine Kd.R_append_rows kdB (w0 := w) w.heap.size rfl (.tmp 5) (.tmp 6) 22 25 (.agg #[.string ⟨#[]⟩, .string ⟨#[]⟩, .int .i64 0, .int .i64 0]) 48 rfl Tryz.underlying22 infoC rfl (by decide) (by omega) (.slice (some ⟨w.heap.size, 0, none⟩) 0 0) ([] : List B) l _ _ _ (fun _ => True) (fun _ => False) rfl rfl (emptyCells w) (Kd.C_alloc H.out _) (fun _ _ h => h) (fun _ h => h.elim) (fun _ _ => trivial) (below_alloc (Below.refl _ _) _) (by simp) (by simp; omega) ?_; intro v1 w1 ho hb hg hat; have A1 := Aside0.mk ho; have A2 := Aside0.mk hb; clear ho hb hg hat) | fail)
    go_ret
    exact ⟨_, rfl, by simpa using A1.out, A2.out⟩
abbrev cfB (x y : B) : Int := Lib.compareBytes x.cl.k y.cl.k
theorem ltB (x y : B) : ltOf cfB x y = decide (x.cl.k < y.cl.k) := by
  unfold ltOf
  exact decide_eq_decide.mpr (bytes_compare _ _)
theorem swoB : SWO (ltOf cfB) where
  irrefl x := by rw [ltB]; simp [List.lt_irrefl]
  trans x y z h1 h2 := by rw [ltB] at *; simp only [decide_eq_true_eq] at *; exact List.lt_trans h1 h2
  ntrans x y z h1 h2 := by
    rw [ltB] at *
    simp only [decide_eq_false_iff_not] at *
    exact fun h => by
      rcases List.le_iff_lt_or_eq.mp (List.not_lt.mp h1) with h3 | h3
      · exact h2 (List.lt_trans h3 h)
      · rw [← h3] at h; exact h2 h
set_option maxHeartbeats 1600000 in
theorem closureB (x y : B) (W : World) : Calls Tryz.prog 36 #[x.val, y.val] W fun e w' => e = .returned (.int .i64 (cfB x y)) ∧ ∃ q os', w' = grow (W.drewN q) os' := by
  have hcon := fun W' => Tryz.strings_Compare x.k y.k W'
  unfold cfB B.cl
  dsimp only
  generalize Lib.compareBytes x.k.data.toList y.k.data.toList = r at hcon ⊢
  go_enter Tryz.func36, Tryz.ntmps36
  go_wp2_with (go_at_call 37; refine (hcon _).mono ?_; rintro e w' ⟨rfl, rfl⟩)
  go_ret
  exact ⟨rfl, 0, _, by rw [alloc_eq_grow, alloc_eq_grow, grow_grow]; rfl⟩
theorem cmpB (blk off size : Nat) (w : World) : CmpLays Tryz.prog 36 #[] cellsB 4 cfB blk off size w := fun _ _ _ _ x y => closureB x y _
theorem sortB_calls (w : World) (base cap : Nat) (ok : Nat → Prop) (g : Nat) (l : List B) (h : kdB.R 25 w base ok (.slice (some ⟨g, 0, none⟩) l.length cap) l) (hl : l.length < 900000) :
    Calls Tryz.prog 35 #[.slice (some ⟨g, 0, none⟩) l.length cap, .func (.func 36) #[] #[]] w fun e w' => e = .returned (.tuple #[]) ∧ Eff (fun k => k = g) w w' ∧ ∃ d : List B, l.Perm d ∧ d.Pairwise (fun a b => ¬ b.cl.k < a.cl.k) ∧ Kd.C kdB w' (some ⟨g, 0, none⟩) l.length d := by
  have eg : ∀ args w, (callFunc 36 args).run Tryz.prog w = .ok (.enter 36 args) w := enters_of Tryz.func36 (by kernel_rfl) rfl
  have hH : HoldsK cellsB 4 w g 0 l.toArray := holds_of_R (d := kdB) rfl (by decide) (fun h => h) h
  have hg : g < w.heap.size := Kd.R_lt h g (by simp [Value.ownBlock])
  have hcon := AnyQ.slices_SortFunc Tryz.sortCell 4 Tryz.isAgg25 Tryz.sizeOf25 cellsB (fun _ => rfl) (fun x v hv => by simp [cellsB] at hv; rcases hv with rfl | rfl | rfl | rfl <;> rfl) cfB swoB 36 #[] g 0 cap l.toArray w eg (cmpB g 0 l.toArray.size w) hH hg (by simp; omega)
  change Calls Tryz.prog 35 _ _ _ at hcon
  refine hcon.mono ?_
  rintro e w' ⟨rfl, d, n, os, hp, hs, rfl⟩
  obtain ⟨p1, p2⟩ := perm_list hp
  have hsz : d.size = l.length := by rw [p2]; rfl
  refine ⟨rfl, sort_eff, d.toList, p1, ?_, ?_⟩
  · have h2 := sorted_list (b := d) (by rw [p2]; exact hs)
    exact h2.imp fun {a b} h3 => by rw [ltB] at h3; exact of_decide_eq_false h3
  · have h3 := C_of_holds (d := kdB) (k := 4) rfl (fun _ => rfl) (fun _ => rfl) (holdsK_sortWorldK cellsB 4 w g 0 n l.toArray d os hg hH p2) (by omega)
    rwa [hsz] at h3
theorem putF_isSome (l : List Cl) : (putF l).2 = (put l).isSome := by
  unfold putF
  cases put l <;> rfl
theorem pw_map {l : List B} (h : l.Pairwise (fun a b => ¬ b.cl.k < a.cl.k)) : (l.map B.cl).Pairwise (fun a b => ¬ b.k < a.k) := List.pairwise_map.mpr h
set_option maxHeartbeats 1600000 in
set_option maxRecDepth 100000 in
theorem fits_calls (w : World) (A : Option Addr) (c : Nat) (l : List B) (hr : Kd.C kdB w A l.length l) (hl : l.length < 900000) :
    Calls Tryz.prog 15 #[.slice A l.length c] w fun e w' => e = .returned (.bool (fits (l.map B.cl))) ∧ Below w.heap.size w w' := by
  have CC := cloneB_calls w A c l hr hl
  have CS : ∀ w1 v, kdB.R 25 w1 w.heap.size (fun _ => True) v l ∧ Below w.heap.size w w1 → ∃ A1 c1, v = .slice A1 l.length c1 ∧ Calls Tryz.prog 35 #[.slice A1 l.length c1, .func (.func 36) #[] #[]] w1 fun e w' => e = .returned (.tuple #[]) ∧ Aside0 (Below w.heap.size w w' ∧ ∃ d : List B, l.Perm d ∧ d.Pairwise (fun a b => ¬ b.cl.k < a.cl.k) ∧ Kd.C kdB w' A1 l.length d) := by
    rintro w1 v ⟨hR, hB⟩
    obtain ⟨A1, c1, rfl, _, hC⟩ := Kd.R_reads hR
    refine ⟨A1, c1, rfl, ?_⟩
    rcases Kd.R_own hR with ⟨inner, ho⟩
    rcases ho.2 with ⟨hv, h0⟩ | ⟨g, cap, cur, hv, hg, _⟩
    · have hnil : l = [] := List.length_eq_zero_iff.mp h0
      subst hnil
      have hcon := AnyF.slices_SortFunc_none Tryz.sortCell A1 c1 (.func (.func 36) #[] #[]) w1
      change Calls Tryz.prog 35 _ _ _ at hcon
      refine hcon.mono ?_
      rintro e w' ⟨rfl, rfl⟩
      exact ⟨rfl, Aside0.mk ⟨hB, [], List.Perm.refl _, List.Pairwise.nil, hC⟩⟩
    · injection hv with hv1 hv2 hv3
      subst hv1 hv3
      refine (sortB_calls w1 w.heap.size c1 (fun _ => True) g l hR hl).mono ?_
      rintro e w' ⟨rfl, h1, h2⟩
      exact ⟨rfl, Aside0.mk ⟨below_eff hB (Nat.le_refl _) h1 (by rintro k rfl; exact hg), h2⟩⟩
  have CP : ∀ w2 A1 c1, Aside0 (Below w.heap.size w w2 ∧ ∃ d : List B, l.Perm d ∧ d.Pairwise (fun a b => ¬ b.cl.k < a.cl.k) ∧ Kd.C kdB w2 A1 l.length d) → Calls Tryz.prog 10 #[.slice A1 l.length c1] w2 fun e w' => (∃ s, e = .returned (.tuple #[.string s, .bool (fits (l.map B.cl))])) ∧ Aside0 (Below w.heap.size w w') := by
    intro w2 A1 c1 h
    obtain ⟨hB, d, hp, hs, hC⟩ := h.out
    have hlen : l.length = d.length := hp.length_eq
    rw [hlen] at hC ⊢
    refine (put_many w2 A1 c1 d hC).mono ?_
    rintro e w' ⟨rfl, e1⟩
    refine ⟨⟨(putF (d.map B.cl)).1, ?_⟩, Aside0.mk (below_eff hB (Nat.le_refl _) e1 (fun _ h => h.elim))⟩
    rw [putF_isSome, fits_sorted (hp.map B.cl) (pw_map hs)]
  clear hr
  generalize fits (l.map B.cl) = r at *
  go_enter Tryz.func15, Tryz.ntmps15
  go_wp2_with (first
    | (go_at_call 34; refine CC.mono ?_; rintro e w1 ⟨v, rfl, hR, hB⟩; obtain ⟨A1, c1, rfl, CS1⟩ := CS w1 v ⟨hR, hB⟩; clear CS CC hR hB)
    | (go_at_call 35; refine CS1.mono ?_; rintro e w2 ⟨rfl, A2⟩; clear CS1)
    | (go_at_call 10; refine (CP _ _ _ A2).mono ?_; rintro e w3 ⟨⟨s, rfl⟩, A3⟩; clear CP))
  go_ret
  exact ⟨rfl, A3.out⟩
end Go.Proofs.YtlbdodopodgokaaGreat.CP
