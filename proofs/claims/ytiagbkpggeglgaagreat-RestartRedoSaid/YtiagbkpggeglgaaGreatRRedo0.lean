import Derived.Test.YtiagbkpggeglgaaGreatRedo
import Derived.Test.YtiagbkpggeglgaaGreatRAlive
import Derived.Test.YtiagbkpggeglgaaGreatProg
import Derived.BigRegion
import Derived.BigQuiet
import Derived.Deep.QuietTactic
import Derived.Deep.AppendLies
import Derived.ChangeAlike
import Derived.Outline
import Derived.WalkKit
import Derived.KernelRfl
import Derived.Deep.LoopGhost
import Derived.Deep.RegionLaw
import Derived.Test.YtiagbkpggeglgaaGreatWMore
import Derived.Test.YtiagbkpggeglgaaGreatWKept
import Derived.Test.YtiagbkpggeglgaaGreatLSep
namespace Go.Proofs.YtiagbkpggeglgaaGreat.RS
open Go Go.RowKit Go.Proofs.YtiagbkpggeglgaaGreatW.PrintWords Go.Proofs.YtiagbkpggeglgaaGreatW.PrintLast Go.Proofs.YtiagbkpggeglgaaGreatW.PrintMore Go.Proofs.YtiagbkpggeglgaaGreat.L Go.Proofs.YtiagbkpggeglgaaGreat.MP
set_option linter.unusedVariables false
set_option linter.unusedSimpArgs false
/-! ### the log of RestartRedo, told plainly -/
abbrev rcS (A : Option Addr) (c : Nat) (ps : List Pt) : Rc := ⟨3, 0, 0, 0, ⟨#[]⟩, false, ⟨#[]⟩, ⟨#[]⟩, 0, 0, none, 0, [], A, c, ps, none, 0, [], none, 0, []⟩
theorem touch_two (a b : Int) (s t : ByteArray) : touchF [(4, a, s), (9, b, t)] = [4, 9] := by
  unfold touchF sortI
  simp [Go.Lib.compact, Go.Lib.compactUpTo, List.mergeSort]
  rfl
theorem redoL_append (page : Int) : ∀ (l m : List Pt) (b : ByteArray), redoL page b (l ++ m) = (redoL page b l).bind (fun b2 => redoL page b2 m)
  | [], m, b => rfl
  | p :: l, m, b => by
    show (if p.1 = page then (if rightP p then redoL page (layP b p) (l ++ m) else none) else redoL page b (l ++ m)) = Option.bind (if p.1 = page then (if rightP p then redoL page (layP b p) l else none) else redoL page b l) _
    by_cases h1 : p.1 = page
    · rw [if_pos h1, if_pos h1]
      by_cases h2 : rightP p
      · rw [if_pos h2, if_pos h2]
        exact redoL_append page l m _
      · rw [if_neg h2, if_neg h2]
        rfl
    · rw [if_neg h1, if_neg h1]
      exact redoL_append page l m _
theorem lay_whole {t now : ByteArray} (ht : t.size = 256) (hn : now.size = 256) : rightP (4, 0, now) ∧ layP t (4, 0, now) = now := by
  have hwr : rightQ (q_ (4, 0, now)) := by unfold rightQ q_; dsimp only; omega
  refine ⟨hwr, byt_ext fun i => ?_⟩
  unfold layP
  rw [lay_byt ht hwr]
  unfold q_
  dsimp only
  rcases Nat.lt_or_ge i 256 with c | c
  · rw [if_pos (by omega)]; congr 1
  · rw [if_neg (by omega), byt_none (by omega), byt_none (by omega)]
/-- The log so far, and what it makes of page 4. -/
structure Lg (rs : List Rc) (k : Nat) (b : ByteArray) : Prop where
  len : rs.length = k + 1
  form : ∀ r ∈ rs, ∃ A c ps, r = rcS A c ps ∧ ps.length ≤ 2
  size : b.size = 256
  redo : ∀ t, t.size = 256 → redoL 4 t (ptsOf rs) = some b
  ana : goA ⟨[], []⟩ 0 rs = ⟨[], if k = 0 then [(4, 1)] else [(4, 1), (9, 2)]⟩
theorem Lg.start (A : Option Addr) (c : Nat) {now : ByteArray} (hn : now.size = 256) : Lg [rcS A c [(4, 0, now)]] 0 now := by
  refine ⟨rfl, fun r hr => ⟨A, c, _, List.mem_singleton.1 hr, Nat.le_succ 1⟩, hn, fun t ht => ?_, ?_⟩
  · obtain ⟨h1, h2⟩ := lay_whole ht hn
    show (if (4 : Int) = 4 then (if rightP (4, 0, now) then redoL 4 (layP t (4, 0, now)) [] else none) else _) = some now
    rw [if_pos rfl, if_pos h1, h2]
    rfl
  · show readA ⟨[], []⟩ 1 _ = _
    unfold readA
    rw [touch_one]
    rfl
theorem Lg.step {rs : List Rc} {k : Nat} {b : ByteArray} (h : Lg rs k b) (A : Option Addr) (c : Nat) (a : Int) (s t' : ByteArray) (hr : rightP (4, a, s)) : Lg (rs ++ [rcS A c [(4, a, s), (9, 0, t')]]) (k + 1) (layP b (4, a, s)) := by
  refine ⟨by simp [h.len], fun r hr => ?_, layP_size h.size hr, fun t ht => ?_, ?_⟩
  · rcases List.mem_append.1 hr with hr | hr
    · exact h.form r hr
    · exact ⟨A, c, _, List.mem_singleton.1 hr, Nat.le_refl 2⟩
  · unfold ptsOf
    rw [List.flatMap_append]
    have h0 := h.redo t ht
    unfold ptsOf at h0
    rw [redoL_append, h0]
    have e : redoL 4 b [(4, a, s), (9, 0, t')] = some (layP b (4, a, s)) := by simp [redoL, hr]
    exact e
  · rw [goA_snoc, h.ana, h.len]
    unfold readA
    rw [touch_two]
    by_cases hk : k = 0
    · subst hk
      rfl
    · rw [if_neg hk, if_neg (by omega)]
      rfl
theorem Lg.find4 {rs : List Rc} {k : Nat} {b : ByteArray} (h : Lg rs k b) {ds : List (Int × Int)} (hp : ds.Perm (anaA 0 rs).d) : ds.find? (fun d => decide (d.1 = 4)) = some (4, 1) ∧ ds.find? (fun d => decide (d.1 = 5)) = none ∧ (∀ d ∈ ds, d.2 ≤ 9223372036854775807) ∧ ds.length ≤ 2 := by
  have ha : (anaA 0 rs).d = if k = 0 then [(4, 1)] else [(4, 1), (9, 2)] := by
    have : anaA 0 rs = goA ⟨[], []⟩ 0 rs := by unfold anaA startA; rw [if_pos rfl]; rfl
    rw [this, h.ana]
  rw [ha] at hp
  have hm : ∀ d ∈ ds, d = (4, 1) ∨ d = (9, 2) := fun d hd => by
    have := hp.mem_iff.1 hd
    split at this
    · exact .inl (List.mem_singleton.1 this)
    · simpa using this
  have h4 : (4, 1) ∈ ds := hp.mem_iff.2 (by split <;> simp)
  refine ⟨?_, ?_, fun d hd => ?_, ?_⟩
  · cases hf : ds.find? (fun d => decide (d.1 = 4)) with
    | none => exact absurd (List.find?_eq_none.1 hf _ h4) (by simp)
    | some d =>
      have h1 := List.find?_some hf
      rcases hm d (List.mem_of_find?_eq_some hf) with rfl | rfl
      · rfl
      · simp at h1
  · rw [List.find?_eq_none]
    intro d hd
    rcases hm d hd with rfl | rfl <;> simp
  · rcases hm d hd with rfl | rfl <;> simp
  · rw [hp.length_eq]
    split <;> simp
theorem Lg.at4 {rs : List Rc} {k : Nat} {b : ByteArray} (h : Lg rs k b) {ds : List (Int × Int)} (hp : ds.Perm (anaA 0 rs).d) (t : ByteArray) (ht : t.size = 256) : ansO (redoA ds 4 t rs) = (b, true) := by
  unfold redoA
  rw [(h.find4 hp).1]
  show ansO (redoL 4 t (ptsOf (rs.drop 0))) = _
  rw [List.drop_zero, h.redo t ht]
  rfl
theorem Lg.at5 {rs : List Rc} {k : Nat} {b : ByteArray} (h : Lg rs k b) {ds : List (Int × Int)} (hp : ds.Perm (anaA 0 rs).d) (t : ByteArray) : ansO (redoA ds 5 t rs) = (t, true) := by
  unfold redoA
  rw [(h.find4 hp).2.1]
  rfl
/-! ### the patches of records lie there to be read -/
theorem C_sameP {W W' : World} {A : Option Addr} {n : Nat} {xs : List Pt} (h : kdPt.C W A n xs) (hk : ∀ ad, A = some ad → xs ≠ [] → W'.heap[ad.block]? = W.heap[ad.block]?) : kdPt.C W' A n xs := by
  refine ⟨h.1, h.2.1, fun hn => ?_⟩
  obtain ⟨ad, e, hc⟩ := h.2.2 hn
  refine ⟨ad, e, fun j p hj => ?_⟩
  obtain ⟨c, hl, hK, hcc⟩ := hc j p hj
  refine ⟨c, hl, hK, fun i u hu => ?_⟩
  rw [← hcc i u hu]
  have hb : (ad.add (j * kdPt.sz + i)).block = ad.block := by unfold Addr.add; split <;> rfl
  unfold World.cell?
  rw [hb, hk ad e (fun e2 => by rw [e2] at hj; cases hj)]
def PSat (rs : List Rc) : HP where
  on := fun W F => (∀ r ∈ rs, kdPt.C W r.pA r.ps.length r.ps ∧ ∀ ad, r.pA = some ad → r.ps ≠ [] → F ad.block) ∧ ∀ k, F k → k < W.heap.size
  frame := by
    rintro W W' F ⟨h, h3⟩ hk
    refine ⟨fun t ht => ?_, fun k hF => lt_of_same (h3 k hF) (hk k hF)⟩
    obtain ⟨h1, h2⟩ := h t ht
    exact ⟨C_sameP h1 (fun ad e hn => hk _ (h2 ad e hn)), h2⟩
  lt := fun h hk => h.2 _ hk
theorem PSat.app {ts us : List Rc} {W : World} {F : Nat → Prop} (h : (Sep (PSat ts) (PSat us)).on W F) : (PSat (ts ++ us)).on W F := by
  obtain ⟨F1, F2, h1, h2, _, hF⟩ := h
  refine ⟨fun p hp => ?_, fun k hk => ?_⟩
  · rcases List.mem_append.1 hp with hp | hp
    · exact ⟨(h1.1 p hp).1, fun ad e hn => (hF _).2 (.inl ((h1.1 p hp).2 ad e hn))⟩
    · exact ⟨(h2.1 p hp).1, fun ad e hn => (hF _).2 (.inr ((h2.1 p hp).2 ad e hn))⟩
  · rcases (hF k).1 hk with h | h
    · exact h1.2 k h
    · exact h2.2 k h
/-- A literal of patches. -/
theorem pts_lit {W : World} {b : Nat} {ps : List Pt} (h : W.heap[b]? = some (.cells (flatE encP ps).toArray 77 (0, 0))) (hl : ps.length ≤ 100) : kdPt.C W (some ⟨b, 0, none⟩) ps.length ps := by
  refine ⟨rfl, by omega, fun _ => ⟨_, rfl, fun j p hj => ⟨encP p, rfl, rfl, fun i u hu => ?_⟩⟩⟩
  rw [add_zero_off, blk_cell h]
  have hi : i < 3 := (List.getElem?_eq_some_iff.1 hu).1
  have hjl := (List.getElem?_eq_some_iff.1 hj).1
  have hx : ps = ps.take j ++ p :: ps.drop (j + 1) := by
    rw [← (List.getElem?_eq_some_iff.1 hj).2]
    simp
  have e3 : kdPt.sz = 3 := rfl
  rw [List.getElem?_toArray, e3]
  rw [hx, flatE_append, List.getElem?_append_right (by rw [flatE_length (k := 3) (fun _ => rfl), List.length_take]; omega), flatE_length (k := 3) (fun _ => rfl), List.length_take, Nat.min_eq_left (by omega), flatE_cons, show j * 3 + i - j * 3 = i by omega, List.getElem?_append_left (by show i < 3; exact hi)]
  exact hu
theorem PSat.one {W : World} {b : Nat} {ps : List Pt} {c : Nat} (h : W.heap[b]? = some (.cells (flatE encP ps).toArray 77 (0, 0))) (hl : ps.length ≤ 100) : (PSat [rcS (some ⟨b, 0, none⟩) c ps]).on W (fun k => k = b) := by
  refine ⟨fun r hr => ?_, fun k hk => by rw [hk]; exact (Array.getElem?_eq_some_iff.1 h).1⟩
  rw [List.mem_singleton.1 hr]
  exact ⟨pts_lit h hl, fun ad e _ => by injection e with e; rw [← e]⟩
theorem Lg.rcAt {rs : List Rc} {k : Nat} {b : ByteArray} (h : Lg rs k b) {W : World} {F : Nat → Prop} (hp : (PSat rs).on W F) : ∀ r ∈ rs, RcAt W r := fun r hr => by
  obtain ⟨A, c, ps, rfl, hl⟩ := h.form r hr
  exact ⟨kdI_nil _ _, (hp.1 _ hr).1, kd_nil _ _, (fun _ h => by cases h), kd_nil _ _, Nat.zero_le _, by show ps.length < 900000; omega⟩
end Go.Proofs.YtiagbkpggeglgaaGreat.RS
