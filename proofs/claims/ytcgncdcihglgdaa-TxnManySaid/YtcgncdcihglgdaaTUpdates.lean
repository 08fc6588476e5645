import Derived.Test.YtcgncdcihglgdaaTOps2
namespace Go.Proofs.Ytcgncdcihglgdaa.T
open Go Go.RowKit Go.Proofs.YtcgncdcihglgdaaW.PrintWords Go.Proofs.YtcgncdcihglgdaaW.PrintLast Go.Proofs.YtcgncdcihglgdaaW.PrintMore Go.Proofs.Ytcgncdcihglgdaa.L
set_option linter.unusedVariables false
set_option linter.unusedSimpArgs false
def upsOf (l : List (Int × Nat × One)) (k : Int) : Nat := match getP l k with | some p => p.2.ups.length | none => 0
theorem getP_mem {l : List (Int × Nat × One)} (hn : (l.map (·.1)).Nodup) {p : Int × Nat × One} (hp : p ∈ l) : getP l p.1 = some p.2 := by
  unfold getP
  induction l with
  | nil => cases hp
  | cons q l ih =>
    rw [List.map_cons, List.nodup_cons] at hn
    by_cases hq : q.1 = p.1
    · rw [List.find?_cons_of_pos (by simpa using hq)]
      rcases List.mem_cons.1 hp with rfl | hp
      · rfl
      · exact absurd (List.mem_map.2 ⟨p, hp, hq.symm⟩) hn.1
    · rw [List.find?_cons_of_neg (by simpa using hq)]
      rcases List.mem_cons.1 hp with rfl | hp
      · exact absurd rfl hq
      · exact ih hn.2 hp
theorem ups_total {l : List (Int × Nat × One)} (hn : (l.map (·.1)).Nodup) : ((ptrs l).map (fun p => upsOf l p.1)).sum = (l.map (fun p => p.2.2.ups.length)).sum := by
  unfold ptrs
  rw [List.map_map]
  congr 1
  refine List.map_congr_left (fun p hp => ?_)
  simp only [Function.comp_apply, upsOf, getP_mem hn hp]
set_option maxHeartbeats 4000000 in
set_option maxRecDepth 100000 in
theorem updates_calls (tb : Nat) (s : Tab) (W : World) (F : Nat → Prop) (m : Nat) (h : (TabAt tb s).on W F) (hmb : s.mb = some m) (hm : (s.l.map (fun p => p.2.2.ups.length)).sum < 900000) :
    Calls Try.prog 16 #[.pointer (some ⟨tb, 0, none⟩)] W fun e w' => e = .returned (.int .i64 (updatesR s)) ∧ Below W.heap.size W w' := by
  obtain ⟨c0, c1, f0, f1⟩ := TabAt.cells h
  rw [hmb] at c0
  obtain ⟨F1, hp, _⟩ := TabAt.map h
  have hn := PMap.nodup hp
  have hM : MapAt keyInt W m (ptrs s.l) := by
    obtain ⟨G1, G2, g1, _⟩ := hp
    rw [hmb] at g1
    exact g1.1
  have hK : ∀ wr, Below W.heap.size W wr → ∀ q ∈ s.l, ∃ A c, wr.cell? ⟨q.2.1, 1, none⟩ = some (.slice A q.2.2.ups.length c) := by
    intro wr hB q hq
    obtain ⟨F2, h2, _⟩ := TabAt.has (HP.eff0 h (Eff.of_below hB)) (getP_mem hn hq)
    obtain ⟨vu, vs, _, x1, _, _, hu1, _⟩ := OneAt.cells h2
    obtain ⟨A, c, rfl⟩ := Kd.R_slice hu1
    exact ⟨A, c, x1⟩
  have hT := ups_total hn
  obtain ⟨tot, htot⟩ : ∃ tot, tot = (s.l.map (fun p => p.2.2.ups.length)).sum := ⟨_, rfl⟩
  have hR : updatesR s = (tot : Int) := by rw [htot]; rfl
  rw [hR]
  rw [← htot] at hT hm
  have A0 := Aside0.mk (And.intro hT (And.intro hn hm))
  obtain ⟨l, hl⟩ : ∃ l, l = s.l := ⟨_, rfl⟩
  rw [← hl] at hK A0 hM
  clear h hmb hp hn hT htot hR hl hm
  go_enter Try.func16, Try.ntmps16
  go_wp2_with (at_range; refine wpList_range_map rfl (.tmp 11) rfl rfl hM Try.underlying25 ?_; intro o' hI)
  go_frame
  go_loopg [3] l.length (fun k s3 wr => ∃ (left : List (Int × Value)) (n : Nat), s3 = .int .i64 n ∧ Iter keyInt wr W.heap.size m (ptrs l) left ∧ left.length ≤ k ∧ Aside0 (n + (left.map (fun p => upsOf l p.1)).sum = tot ∧ (∀ p ∈ left, p ∈ ptrs l) ∧ (left.map (·.1)).Nodup ∧ Below W.heap.size W wr))
  case atStart =>
    refine ⟨ptrs l, 0, rfl, hI, by simp [ptrs], Aside0.mk ⟨by simpa using A0.out.1, fun _ h => h, by rw [ptrs_keys]; exact A0.out.2.1, below_alloc (Below.refl _ _) _⟩⟩
  case round =>
    obtain ⟨left, n, rfl, hI, hk, A1⟩ := hrel
    go_wp2_with (at_next; refine wpList_next_map rfl (.tmp 12) rfl rfl hI ?_ ?_)
    · intro h0
      subst h0
      have hn : n = tot := by have := A1.out.1; simpa using this
      subst hn
      clear hI hK
      go_wp2
      go_ret
      exact ⟨rfl, A1.out.2.2.2⟩
    · intro k0 v0 w' hp hI' hg hs hen
      have hpl := A1.out.2.1 (k0, v0) hp
      unfold ptrs at hpl
      obtain ⟨q, hq, hqe⟩ := List.mem_map.1 hpl
      obtain ⟨rfl, rfl⟩ := Prod.mk.inj hqe
      have hB : Below W.heap.size W w' := below_eff A1.out.2.2.2 (Nat.le_refl _) (Eff.of_grown hg (S := fun k => k = W.heap.size) (fun k hk => by injection hk with hk; exact hk.symm)) (fun k hk => by rw [hk]; exact Nat.le_refl _)
      obtain ⟨A, c, x1⟩ := hK w' hB q hq
      have hen2 : (Instr.entry (.pointer (some ⟨W.heap.size, 0, none⟩))).run Try.prog w' = .ok (.tuple #[.int .i64 q.1, .pointer (some ⟨q.2.1, 0, none⟩)]) w' := hen
      clear hen
      have hu : upsOf l q.1 = q.2.2.ups.length := by simp only [upsOf, getP_mem A0.out.2.1 hq]
      obtain ⟨u, hu1⟩ : ∃ u, u = q.2.2.ups.length := ⟨_, rfl⟩
      rw [← hu1] at x1 hu
      have hsum : u + ((del left q.1).map (fun p => upsOf l p.1)).sum = (left.map (fun p => upsOf l p.1)).sum := by
        have := ((del_perm A1.out.2.2.1 hp).map (fun p => upsOf l p.1)).sum_nat
        rw [this, List.map_cons, List.sum_cons, hu]
      have hlen := del_length hp
      have hb1 : n + u < 900000 := by have h1 := A1.out.1; have h2 := A0.out.2.2; omega
      have A2 := Aside0.mk (And.intro hsum (And.intro hI' (And.intro hlen hB)))
      have A3 := Aside0.mk hk
      clear hp hI hK hI' hg hs hu hu1 hsum hlen hk hB
      rw [show keyInt.enc q.1 = .int .i64 q.1 from rfl]
      clear hq hpl
      try clear hqe
      generalize q.2.1 = b at *
      generalize q.1 = tx at *
      clear q
      go_wp2
      go_roundg (gk - 1)
      case measure => have := A3.out; have := A2.out.2.2.1; omega
      case rel =>
        refine ⟨del left tx, n + u, by simp, A2.out.2.1, ?_, Aside0.mk ⟨?_, fun p hp => A1.out.2.1 p ((List.mem_filter.1 hp).1), del_nodup A1.out.2.2.1 _, A2.out.2.2.2⟩⟩
        · have := A3.out; have := A2.out.2.2.1; omega
        · have h1 := A2.out.1; have h2 := A1.out.1; omega
end Go.Proofs.Ytcgncdcihglgdaa.T
