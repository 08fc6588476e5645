/- The table of locks, plain: whoever has all of a key has it alone, and behind all releases nothing is left. Conditions: none beyond the stated ones. -/
import Derived.Test.YtlakklaaapfpeaaProg
import Derived.BigRegion
import Derived.BigQuiet
import Derived.Deep.QuietTactic
import Derived.Deep.AppendLies
import Derived.ChangeAlike
import Derived.Outline
import Derived.WalkKit
import Derived.KernelRfl
import Derived.Deep.LoopGhost
import Derived.Deep.RegionLaw
import Derived.Test.YtlakklaaapfpeaaWMore
import Derived.Test.YtlakklaaapfpeaaWKept
import Derived.Test.YtlakklaaapfpeaaLSep
import Derived.Test.YtlakklaaapfpeaaK4
namespace Go.Proofs.Ytlakklaaapfpeaa.Pure
open Go Go.RowKit Go.Proofs.YtlakklaaapfpeaaW.PrintWords Go.Proofs.YtlakklaaapfpeaaW.PrintLast Go.Proofs.YtlakklaaapfpeaaW.PrintMore Go.Proofs.Ytlakklaaapfpeaa.L Go.Proofs.Ytlakklaaapfpeaa.LK
set_option linter.unusedVariables false
set_option linter.unusedSimpArgs false
section
variable {K : Type} [DecidableEq K]
set_option linter.unusedSectionVars false
theorem getK_none {l : List (K × Le)} {key : K} : getK l key = none ↔ key ∉ l.map (·.1) := by
  unfold getK
  rw [Option.map_eq_none_iff, List.find?_eq_none]
  constructor
  · intro h hm
    obtain ⟨p, hp, e⟩ := List.mem_map.1 hm
    exact h p hp (by simpa using e)
  · intro h p hp
    simp only [decide_eq_true_eq]
    exact fun e => h (List.mem_map.2 ⟨p, hp, e⟩)
theorem wait_none {w : List (Int × K)} {tx : Int} (h : ∀ p ∈ w, p.1 ≠ tx) : waitK w tx = none := by
  unfold waitK
  rw [List.find?_eq_none.2 (fun p hp => by simpa using h p hp)]
  rfl
theorem getI_none {h : List (Int × Int)} {tx : Int} (hh : ∀ p ∈ h, p.1 ≠ tx) : getI h tx = 0 := by
  unfold getI
  rw [List.find?_eq_none.2 (fun p hp => by simpa using hh p hp)]
  rfl
theorem putK_new {w : List (Int × K)} {tx : Int} (h : ∀ p ∈ w, p.1 ≠ tx) (key : K) : putK w tx key = w ++ [(tx, key)] := by
  unfold putK
  rw [if_neg]
  intro e
  obtain ⟨p, hp, e⟩ := List.any_eq_true.1 e
  exact h p hp (by simpa using e)
theorem addF_end (tx : Int) (all : Bool) (q : List Wt) : addF ⟨tx, all, false⟩ q = q ++ [⟨tx, all, false⟩] := by
  unfold addF placeF
  simp
end
section
variable {K : Type} [DecidableEq K]
set_option linter.unusedSectionVars false
/-- Who holds a key, and who waits for it: one that has all of it has it alone; whoever waits does not have it. -/
structure EntOk (x : Le) : Prop where
  n : (x.h.map (·.1)).Nodup
  v : ∀ p ∈ x.h, p.2 = 1 ∨ p.2 = 2
  e : ∀ p ∈ x.h, p.2 = 2 → x.h = [p]
  q : ∀ t ∈ x.q, getI x.h t.tx ≠ 2 ∧ (t.all = false → ∀ p ∈ x.h, p.1 ≠ t.tx)
  d : (x.q.map (·.tx)).Nodup
  r : (∀ p ∈ x.h, 0 ≤ p.1 ∧ p.1 ≤ 20) ∧ ∀ t ∈ x.q, 0 ≤ t.tx ∧ t.tx ≤ 20
theorem getI_mem {h : List (Int × Int)} {tx : Int} (hg : getI h tx ≠ 0) : (tx, getI h tx) ∈ h := by
  unfold getI at hg ⊢
  cases hf : h.find? (fun p => decide (p.1 = tx)) with
  | none => rw [hf] at hg; exact absurd rfl hg
  | some p =>
    have h1 := List.mem_of_find?_eq_some hf
    have h2 : p.1 = tx := by simpa using List.find?_some hf
    simp only [Option.map_some, Option.getD_some]
    rw [← h2]
    exact h1
theorem getI_of_mem {h : List (Int × Int)} (hn : (h.map (·.1)).Nodup) {p : Int × Int} (hp : p ∈ h) : getI h p.1 = p.2 := by
  unfold getI
  cases hf : h.find? (fun q => decide (q.1 = p.1)) with
  | none => exact absurd (List.find?_eq_none.1 hf p hp) (by simp)
  | some q =>
    have h1 := List.mem_of_find?_eq_some hf
    have h2 : q.1 = p.1 := by simpa using List.find?_some hf
    simp only [Option.map_some, Option.getD_some]
    induction h with
    | nil => cases hp
    | cons a h ih =>
      rw [List.map_cons, List.nodup_cons] at hn
      rcases List.mem_cons.1 hp with rfl | hp'
      · rcases List.mem_cons.1 h1 with rfl | h1'
        · rfl
        · exact absurd (List.mem_map.2 ⟨q, h1', h2⟩) hn.1
      · rcases List.mem_cons.1 h1 with rfl | h1'
        · exact absurd (List.mem_map.2 ⟨p, hp', h2.symm⟩) hn.1
        · have hne : a.1 ≠ p.1 := fun e => hn.1 (List.mem_map.2 ⟨p, hp', e.symm⟩)
          rw [List.find?_cons_of_neg (by simpa using hne)] at hf
          exact ih hn.2 hp' hf h1'
theorem putI_in {h : List (Int × Int)} {k v : Int} (hk : ∃ p ∈ h, p.1 = k) : putI h k v = h.map (fun p => if p.1 = k then (k, v) else p) := by
  unfold putI
  rw [if_pos]
  obtain ⟨p, hp, e⟩ := hk
  exact List.any_eq_true.2 ⟨p, hp, by simpa using e⟩
theorem putI_out {h : List (Int × Int)} {k v : Int} (hk : ∀ p ∈ h, p.1 ≠ k) : putI h k v = h ++ [(k, v)] := by
  unfold putI
  rw [if_neg]
  intro e
  obtain ⟨p, hp, e⟩ := List.any_eq_true.1 e
  exact hk p hp (by simpa using e)
theorem getI_put_ne {h : List (Int × Int)} {k v k' : Int} (hne : k' ≠ k) : getI (putI h k v) k' = getI h k' := by
  by_cases hk : ∃ p ∈ h, p.1 = k
  · rw [putI_in hk]
    unfold getI
    rw [List.find?_map]
    have e : ((fun p : Int × Int => decide (p.1 = k')) ∘ fun p => if p.1 = k then (k, v) else p) = fun p => decide (p.1 = k') := by
      funext p
      simp only [Function.comp_apply]
      split
      · rename_i hp; simp [hp, Ne.symm hne]
      · rfl
    rw [e]
    cases hf : h.find? (fun p => decide (p.1 = k')) with
    | none => rfl
    | some p =>
      have h2 : p.1 = k' := by simpa using List.find?_some hf
      simp only [Option.map_some]
      rw [if_neg (by rw [h2]; exact hne)]
  · rw [putI_out (fun p hp e => hk ⟨p, hp, e⟩)]
    unfold getI
    rw [List.find?_append, List.find?_cons_of_neg (by simpa using hne.symm)]
    simp
theorem keys_put {h : List (Int × Int)} (hn : (h.map (·.1)).Nodup) (k v : Int) : ((putI h k v).map (·.1)).Nodup := by
  by_cases hk : ∃ p ∈ h, p.1 = k
  · rw [putI_in hk, List.map_map]
    have e : ((fun p : Int × Int => p.1) ∘ fun p => if p.1 = k then (k, v) else p) = fun p => p.1 := by
      funext p
      simp only [Function.comp_apply]
      split
      · rename_i hp; exact hp.symm
      · rfl
    rw [e]
    exact hn
  · have hk2 : ∀ p ∈ h, p.1 ≠ k := fun p hp e => hk ⟨p, hp, e⟩
    rw [putI_out hk2, List.map_append, List.nodup_append]
    refine ⟨hn, by simp, fun a ha b hb e => ?_⟩
    obtain ⟨p, hp, rfl⟩ := List.mem_map.1 ha
    simp only [List.map_cons, List.map_nil, List.mem_singleton] at hb
    exact hk2 p hp (e.trans hb)
theorem mem_put {h : List (Int × Int)} {k v : Int} {p : Int × Int} (hp : p ∈ putI h k v) : p = (k, v) ∨ (p ∈ h ∧ p.1 ≠ k) := by
  by_cases hk : ∃ p ∈ h, p.1 = k
  · rw [putI_in hk] at hp
    obtain ⟨q, hq, rfl⟩ := List.mem_map.1 hp
    split
    · exact .inl rfl
    · rename_i hne; exact .inr ⟨hq, hne⟩
  · have hk2 : ∀ p ∈ h, p.1 ≠ k := fun p hp e => hk ⟨p, hp, e⟩
    rw [putI_out hk2] at hp
    rcases List.mem_append.1 hp with hp | hp
    · exact .inr ⟨hp, hk2 p hp⟩
    · exact .inl (by simpa using hp)
/-- The first one that waits has the key. -/
theorem EntOk.one {h : List (Int × Int)} {t : Wt} {q : List Wt} (x : EntOk ⟨h, t :: q⟩) (hm : mayB h t = true) : EntOk ⟨putI h t.tx (if t.all then 2 else if getI h t.tx < 1 then 1 else getI h t.tx), q⟩ := by
  have ht := x.q t List.mem_cons_self
  have hd := x.d
  dsimp only at hd ht
  rw [List.map_cons, List.nodup_cons] at hd
  have hmm : ∀ p ∈ h, okP t p = true := List.all_eq_true.1 hm
  have hr := x.r
  dsimp only at hr
  have hr0 := hr.2 t List.mem_cons_self
  have hq : ∀ t' ∈ q, t'.tx ≠ t.tx := fun t' h' e => hd.1 (List.mem_map.2 ⟨t', h', e⟩)
  cases ha : t.all with
  | true =>
    rw [if_pos rfl]
    have hall : ∀ p ∈ h, p.1 = t.tx := fun p hp => by
      have := hmm p hp
      unfold okP at this
      rw [ha] at this
      simpa using this
    have hput : putI h t.tx 2 = [(t.tx, 2)] := by
      have hn := x.n
      dsimp only at hn
      cases h with
      | nil => rfl
      | cons a h =>
        cases h with
        | nil =>
          rw [putI_in ⟨a, List.mem_cons_self, hall a List.mem_cons_self⟩]
          simp [hall a List.mem_cons_self]
        | cons b h =>
          rw [List.map_cons, List.nodup_cons] at hn
          exact absurd (List.mem_map.2 ⟨b, List.mem_cons_self, (hall b (List.mem_cons_of_mem _ List.mem_cons_self)).trans (hall a List.mem_cons_self).symm⟩) hn.1
    rw [hput]
    refine ⟨by simp, fun p hp => ?_, fun p hp _ => ?_, fun t' h' => ?_, hd.2, ⟨fun p hp => ?_, fun t' h' => hr.2 t' (List.mem_cons_of_mem _ h')⟩⟩
    · rw [List.mem_singleton.1 hp]; exact .inr rfl
    · rw [List.mem_singleton.1 hp]
    · refine ⟨?_, fun _ p hp => ?_⟩
      · rw [getI_none (fun p hp => by rw [List.mem_singleton.1 hp]; exact (hq t' h').symm)]
        decide
      · rw [List.mem_singleton.1 hp]; exact (hq t' h').symm
    · rw [List.mem_singleton.1 hp]; exact hr0
  | false =>
    rw [if_neg (by simp)]
    have hno := ht.2 ha
    have h0 : getI h t.tx = 0 := getI_none hno
    rw [h0, if_pos (by decide)]
    have h1 : ∀ p ∈ h, p.2 = 1 := fun p hp => by
      have := hmm p hp
      unfold okP at this
      rw [ha] at this
      rcases x.v p hp with e | e
      · exact e
      · simp [e, hno p hp] at this
    rw [putI_out hno]
    have hv : ∀ p ∈ h ++ [(t.tx, (1 : Int))], p.2 = 1 := fun p hp => by
      rcases List.mem_append.1 hp with hp | hp
      · exact h1 p hp
      · rw [List.mem_singleton.1 hp]
    refine ⟨?_, fun p hp => .inl (hv p hp), fun p hp e => ?_, fun t' h' => ?_, hd.2, ⟨fun p hp => ?_, fun t' h' => hr.2 t' (List.mem_cons_of_mem _ h')⟩⟩
    · have := keys_put x.n t.tx 1
      dsimp only at this
      rwa [putI_out hno] at this
    · rw [hv p hp] at e; exact absurd e (by decide)
    · have h3 := x.q t' (List.mem_cons_of_mem _ h')
      dsimp only at h3
      refine ⟨?_, fun e p hp => ?_⟩
      · have := getI_put_ne (h := h) (k := t.tx) (v := 1) (hq t' h')
        rw [putI_out hno] at this
        dsimp only
        rw [this]
        exact h3.1
      · rcases List.mem_append.1 hp with hp | hp
        · exact h3.2 e p hp
        · rw [List.mem_singleton.1 hp]; exact (hq t' h').symm
    · rcases List.mem_append.1 hp with hp | hp
      · exact hr.1 p hp
      · rw [List.mem_singleton.1 hp]; exact hr0
theorem EntOk.grant : ∀ {h : List (Int × Int)} {q : List Wt}, EntOk ⟨h, q⟩ → EntOk ⟨(grantF h q).1, (grantF h q).2.1⟩
  | h, [], x => x
  | h, t :: q, x => by
    unfold grantF
    split
    · rename_i hm
      exact EntOk.grant (x.one hm)
    · exact x
theorem EntOk.stop {x : Le} (h : EntOk x) (tx : Int) : EntOk ⟨x.h, stopQ x.q tx⟩ :=
  ⟨h.n, h.v, h.e, fun t ht => h.q t (List.mem_filter.1 ht).1, h.d.sublist (List.Sublist.map _ List.filter_sublist), ⟨h.r.1, fun t ht => h.r.2 t (List.mem_filter.1 ht).1⟩⟩
theorem delI_mem {h : List (Int × Int)} {tx : Int} {p : Int × Int} (hp : p ∈ delI h tx) : p ∈ h ∧ p.1 ≠ tx := by
  obtain ⟨h1, h2⟩ := List.mem_filter.1 hp
  exact ⟨h1, by simpa using h2⟩
theorem EntOk.free {x : Le} (h : EntOk x) (tx : Int) : EntOk ⟨delI x.h tx, x.q⟩ := by
  refine ⟨h.n.sublist (List.Sublist.map _ List.filter_sublist), fun p hp => h.v p (delI_mem hp).1, fun p hp e => ?_, fun t ht => ⟨fun e => ?_, fun e p hp => (h.q t ht).2 e p (delI_mem hp).1⟩, h.d, ⟨fun p hp => h.r.1 p (delI_mem hp).1, h.r.2⟩⟩
  · have h1 := h.e p (delI_mem hp).1 e
    have h2 := (delI_mem hp).2
    dsimp only
    unfold delI
    rw [h1, List.filter_cons_of_pos (by simpa using h2)]
    rfl
  · dsimp only at e
    have h1 := delI_mem (getI_mem (h := delI x.h tx) (tx := t.tx) (by rw [e]; decide))
    rw [e] at h1
    have := getI_of_mem h.n h1.1
    exact (h.q t ht).1 this
theorem EntOk.add {x : Le} (h : EntOk x) {t : Wt} (h1 : getI x.h t.tx ≠ 2) (h2 : t.all = false → ∀ p ∈ x.h, p.1 ≠ t.tx) (h3 : ∀ t' ∈ x.q, t'.tx ≠ t.tx) (h4 : 0 ≤ t.tx ∧ t.tx ≤ 20) : EntOk ⟨x.h, addF t x.q⟩ := by
  refine ⟨h.n, h.v, h.e, fun t' ht => ?_, ?_, ⟨h.r.1, fun t' ht => ?_⟩⟩
  · rcases (addF_mem _ _).1 ht with rfl | ht
    · exact ⟨h1, h2⟩
    · exact h.q t' ht
  · have hp : (addF t x.q).Perm (t :: x.q) := by
      unfold addF
      refine List.perm_middle.trans ?_
      rw [List.take_append_drop]
    refine ((hp.map (·.tx)).nodup_iff).2 ?_
    rw [List.map_cons, List.nodup_cons]
    refine ⟨fun hm => ?_, h.d⟩
    obtain ⟨t', ht', e⟩ := List.mem_map.1 hm
    exact h3 t' ht' e
  · rcases (addF_mem _ _).1 ht with rfl | ht
    · exact h4
    · exact h.r.2 t' ht
/-- All is well with the table. -/
structure Z (s : St K) : Prop where
  k : (s.k.map (·.1)).Nodup
  w : (s.w.map (·.1)).Nodup
  e : ∀ key x, getK s.k key = some x → EntOk x ∧ ∀ t ∈ x.q, (t.tx, key) ∈ s.w
  q : ∀ p ∈ s.w, ∃ x, getK s.k p.2 = some x ∧ ∃ t ∈ x.q, t.tx = p.1
theorem w_one {w : List (Int × K)} (hn : (w.map (·.1)).Nodup) {tx : Int} {a b : K} (ha : (tx, a) ∈ w) (hb : (tx, b) ∈ w) : a = b := by
  induction w with
  | nil => cases ha
  | cons p w ih =>
    rw [List.map_cons, List.nodup_cons] at hn
    rcases List.mem_cons.1 ha with e1 | ha'
    · rcases List.mem_cons.1 hb with e2 | hb'
      · have e := e1.trans e2.symm
        injection e
      · refine absurd (show p.1 ∈ w.map (·.1) from List.mem_map.2 ⟨(tx, b), hb', ?_⟩) hn.1
        rw [← e1]
    · rcases List.mem_cons.1 hb with e2 | hb'
      · refine absurd (show p.1 ∈ w.map (·.1) from List.mem_map.2 ⟨(tx, a), ha', ?_⟩) hn.1
        rw [← e2]
      · exact ih hn.2 ha' hb'
theorem Z.settle {s : St K} (h : Z s) (key : K) : Z (settleA s key) := by
  unfold settleA
  cases hg : getK s.k key with
  | none => exact h
  | some x =>
    dsimp only
    obtain ⟨hx, hxw⟩ := h.e key x hg
    have hp := grantF_parts x.h x.q
    have hgr := hx.grant (h := x.h) (q := x.q)
    have hd := hx.d
    rw [← hp] at hd
    generalize grantF x.h x.q = r at *
    obtain ⟨h', q', out⟩ := r
    dsimp only at hp hgr hd ⊢
    rw [List.nodup_append] at hd
    have hout : ∀ tx ∈ out, (tx, key) ∈ s.w := fun tx htx => by
      have : tx ∈ x.q.map (·.tx) := by rw [← hp]; exact List.mem_append_left _ htx
      obtain ⟨t, ht, rfl⟩ := List.mem_map.1 this
      exact hxw t ht
    have hq' : ∀ t ∈ q', (t.tx, key) ∈ s.w ∧ t.tx ∉ out := fun t ht => by
      have : t.tx ∈ x.q.map (·.tx) := by rw [← hp]; exact List.mem_append_right _ (List.mem_map.2 ⟨t, ht, rfl⟩)
      obtain ⟨t2, ht2, e2⟩ := List.mem_map.1 this
      exact ⟨by rw [← e2]; exact hxw t2 ht2, fun hm => hd.2.2 _ hm _ (List.mem_map.2 ⟨t, ht, rfl⟩) rfl⟩
    refine ⟨?_, offK_nodup h.w _, fun key2 x2 hg2 => ?_, fun p hp2 => ?_⟩
    · split
      · exact keys_delK h.k _
      · rw [keys_setK]; exact h.k
    · dsimp only at hg2
      by_cases hk : key2 = key
      · subst hk
        have hx2 : x2 = ⟨h', q'⟩ := by
          split at hg2
          · rw [getK_delK, if_pos rfl] at hg2; cases hg2
          · rw [getK_setK, hg] at hg2
            simp only [Option.map_some, if_true, Option.some.injEq] at hg2
            exact hg2.symm
        rw [hx2]
        exact ⟨hgr, fun t ht => List.mem_filter.2 ⟨(hq' t ht).1, by simpa using (hq' t ht).2⟩⟩
      · have hg3 : getK s.k key2 = some x2 := by
          split at hg2
          · rw [getK_delK, if_neg hk] at hg2; exact hg2
          · rw [getK_setK] at hg2
            cases h3 : getK s.k key2 with
            | none => rw [h3] at hg2; cases hg2
            | some y => rw [h3] at hg2; simpa [hk] using hg2
        obtain ⟨a1, a2⟩ := h.e key2 x2 hg3
        refine ⟨a1, fun t ht => List.mem_filter.2 ⟨a2 t ht, ?_⟩⟩
        have : t.tx ∉ out := fun hm => hk (w_one h.w (a2 t ht) (hout _ hm))
        simpa using this
    · obtain ⟨hpw, hpo⟩ := List.mem_filter.1 hp2
      have hno : p.1 ∉ out := by simpa using hpo
      obtain ⟨y, hy, t, ht, hte⟩ := h.q p hpw
      by_cases hk : p.2 = key
      · rw [hk, hg] at hy
        injection hy with hy
        subst hy
        have hm : p.1 ∈ out ++ q'.map (·.tx) := by rw [hp]; exact List.mem_map.2 ⟨t, ht, hte⟩
        obtain ⟨t', ht', hte'⟩ := List.mem_map.1 ((List.mem_append.1 hm).resolve_left hno)
        have hne : q' ≠ [] := List.ne_nil_of_mem ht'
        dsimp only
        rw [if_neg (fun e => hne e.2), getK_setK, hk, hg]
        exact ⟨⟨h', q'⟩, by simp, t', ht', hte'⟩
      · dsimp only
        refine ⟨y, ?_, t, ht, hte⟩
        split
        · rw [getK_delK, if_neg hk]; exact hy
        · rw [getK_setK, hy]; simp [hk]
theorem getK_set_some {l : List (K × Le)} {key key2 : K} {y x2 : Le} {x : Le} (hg : getK l key = some x) (h : getK (setK l key y) key2 = some x2) : (key2 = key ∧ x2 = y) ∨ (key2 ≠ key ∧ getK l key2 = some x2) := by
  rw [getK_setK] at h
  by_cases hk : key2 = key
  · subst hk
    rw [hg] at h
    simp only [Option.map_some, if_true, Option.some.injEq] at h
    exact .inl ⟨rfl, h.symm⟩
  · cases h3 : getK l key2 with
    | none => rw [h3] at h; cases h
    | some z => rw [h3] at h; exact .inr ⟨hk, by simpa [hk] using h⟩
theorem Z.stop0 {s : St K} (h : Z s) {tx : Int} {key : K} {x : Le} (hw : (tx, key) ∈ s.w) (hg : getK s.k key = some x) : Z (⟨setK s.k key ⟨x.h, stopQ x.q tx⟩, dropK s.w tx⟩ : St K) := by
  refine ⟨by dsimp only; rw [keys_setK]; exact h.k, dropK_nodup h.w _, fun key2 x2 hg2 => ?_, fun p hp => ?_⟩
  · rcases getK_set_some hg hg2 with ⟨rfl, rfl⟩ | ⟨hk, hg3⟩
    · obtain ⟨a1, a2⟩ := h.e key2 x hg
      refine ⟨a1.stop tx, fun t ht => ?_⟩
      obtain ⟨b1, b2⟩ := List.mem_filter.1 ht
      exact List.mem_filter.2 ⟨a2 t b1, by simpa using b2⟩
    · obtain ⟨a1, a2⟩ := h.e key2 x2 hg3
      refine ⟨a1, fun t ht => List.mem_filter.2 ⟨a2 t ht, ?_⟩⟩
      have : t.tx ≠ tx := fun e => hk (w_one h.w (by rw [← e]; exact a2 t ht) hw)
      simpa using this
  · obtain ⟨hpw, hpo⟩ := List.mem_filter.1 hp
    have hne : p.1 ≠ tx := by simpa using hpo
    obtain ⟨y, hy, t, ht, hte⟩ := h.q p hpw
    dsimp only
    rw [getK_setK, hy]
    by_cases hk : p.2 = key
    · rw [hk, hg] at hy
      injection hy with hy
      subst hy
      exact ⟨⟨x.h, stopQ x.q tx⟩, by simp [hk], t, List.mem_filter.2 ⟨ht, by simpa [hte] using hne⟩, hte⟩
    · exact ⟨y, by simp [hk], t, ht, hte⟩
theorem Z.stop {s : St K} (h : Z s) (tx : Int) : Z (stopA s tx) := by
  unfold stopA
  cases hw : waitK s.w tx with
  | none => exact h
  | some key =>
    dsimp only
    cases hg : getK s.k key with
    | none => exact h
    | some x => exact (h.stop0 (waitK_mem hw) hg).settle key
theorem wait_out {w : List (Int × K)} {tx : Int} (h : waitK w tx = none) : ∀ p ∈ w, p.1 ≠ tx := by
  unfold waitK at h
  rw [Option.map_eq_none_iff, List.find?_eq_none] at h
  intro p hp e
  exact h p hp (by simpa using e)
theorem settle_w (s : St K) (key : K) {p : Int × K} (hp : p ∈ (settleA s key).w) : p ∈ s.w := by
  unfold settleA at hp
  cases hg : getK s.k key with
  | none => rw [hg] at hp; exact hp
  | some x => rw [hg] at hp; exact (List.mem_filter.1 hp).1
theorem stop_out {s : St K} (h : Z s) (tx : Int) : ∀ p ∈ (stopA s tx).w, p.1 ≠ tx := by
  unfold stopA
  cases hw : waitK s.w tx with
  | none => exact wait_out hw
  | some key =>
    dsimp only
    cases hg : getK s.k key with
    | none =>
      obtain ⟨x, hx, _⟩ := h.q _ (waitK_mem hw)
      rw [hg] at hx
      cases hx
    | some x =>
      intro p hp
      have := settle_w _ _ hp
      have := (List.mem_filter.1 this).2
      simpa using this
theorem Z.join {s : St K} (h : Z s) {tx : Int} (hw : ∀ p ∈ s.w, p.1 ≠ tx) (key : K) (all own : Bool) (h2 : holdsA s tx key ≠ 2) (h1 : all = false → holdsA s tx key ≠ 1) (hr : 0 ≤ tx ∧ tx ≤ 20) : Z (joinA s tx key all own) := by
  have hgn := getK_newK s.k key key
  rw [if_pos rfl] at hgn
  have hx : EntOk ((getK s.k key).getD ⟨[], []⟩) ∧ (∀ t ∈ ((getK s.k key).getD ⟨[], []⟩).q, (t.tx, key) ∈ s.w) ∧ getI ((getK s.k key).getD ⟨[], []⟩).h tx = holdsA s tx key := by
    unfold holdsA
    cases hg : getK s.k key with
    | none => exact ⟨⟨List.Pairwise.nil, fun p hp => (List.not_mem_nil hp).elim, fun p hp => (List.not_mem_nil hp).elim, fun p hp => (List.not_mem_nil hp).elim, List.Pairwise.nil, ⟨fun p hp => (List.not_mem_nil hp).elim, fun p hp => (List.not_mem_nil hp).elim⟩⟩, fun p hp => (List.not_mem_nil hp).elim, rfl⟩
    | some x =>
      obtain ⟨a1, a2⟩ := h.e key x hg
      exact ⟨a1, a2, rfl⟩
  have hold : ∀ key2, key2 ≠ key → getK (newK s.k key) key2 = getK s.k key2 := fun key2 hk => by rw [getK_newK, if_neg hk]
  unfold joinA
  rw [hgn]
  dsimp only
  generalize hxe : (getK s.k key).getD ⟨[], []⟩ = x at *
  obtain ⟨x1, x2, x3⟩ := hx
  have hno : all = false → ∀ p ∈ x.h, p.1 ≠ tx := fun e p hp he => by
    have h3 := getI_of_mem x1.n hp
    rw [he, x3] at h3
    rcases x1.v p hp with h4 | h4
    · exact h1 e (by rw [h3, h4])
    · exact h2 (by rw [h3, h4])
  have hq : ∀ t' ∈ x.q, t'.tx ≠ tx := fun t' ht' e => hw _ (x2 t' ht') e
  refine ⟨by dsimp only; rw [keys_setK]; exact keys_newK h.k _, putK_nodup h.w _ _, fun key2 y hg2 => ?_, fun p hp => ?_⟩
  · dsimp only
    rw [putK_new hw]
    rcases getK_set_some hgn hg2 with ⟨rfl, rfl⟩ | ⟨hk, hg3⟩
    · refine ⟨x1.add (t := ⟨tx, all, own⟩) (by dsimp only; rw [x3]; exact h2) hno hq hr, fun t ht => ?_⟩
      rcases (addF_mem _ _).1 ht with rfl | ht
      · exact List.mem_append_right _ (List.mem_singleton.2 rfl)
      · exact List.mem_append_left _ (x2 t ht)
    · rw [hold key2 hk] at hg3
      obtain ⟨a1, a2⟩ := h.e key2 y hg3
      exact ⟨a1, fun t ht => List.mem_append_left _ (a2 t ht)⟩
  · dsimp only
    rw [getK_setK, getK_newK]
    rcases mem_putK hp with rfl | ⟨hpw, hne⟩
    · exact ⟨⟨x.h, addF ⟨tx, all, own⟩ x.q⟩, by simp, ⟨tx, all, own⟩, (addF_mem _ _).2 (.inl rfl), rfl⟩
    · obtain ⟨y, hy, t, ht, hte⟩ := h.q p hpw
      by_cases hk : p.2 = key
      · rw [hk] at hy
        rw [hy] at hxe
        have hyx : y = x := hxe
        subst hyx
        exact ⟨⟨y.h, addF ⟨tx, all, own⟩ y.q⟩, by simp [hk], t, (addF_mem _ _).2 (.inr ht), hte⟩
      · exact ⟨y, by simp [hk, hy], t, ht, hte⟩
theorem Z.ask {s : St K} (h : Z s) {tx : Int} (hr : 0 ≤ tx ∧ tx ≤ 20) (key : K) (all : Bool) : Z (askA s tx key all).1 := by
  unfold askA
  split
  · exact h.settle key
  · split
    · exact h.stop tx
    · rename_i hn
      refine ((h.stop tx).join (stop_out h tx) key all _ (fun e => hn (.inl e)) (fun e1 e2 => hn (.inr ⟨e2, e1⟩)) hr).settle key
theorem Z.free {s : St K} (h : Z s) (tx : Int) (key : K) : Z (freeA s tx key) := by
  unfold freeA
  cases hg : getK s.k key with
  | none => exact h
  | some x =>
    suffices h0 : Z (⟨setK s.k key ⟨delI x.h tx, x.q⟩, s.w⟩ : St K) from h0.settle key
    obtain ⟨b1, b2⟩ := h.e key x hg
    refine ⟨by dsimp only; rw [keys_setK]; exact h.k, h.w, fun key2 x2 hg2 => ?_, fun p hp => ?_⟩
    · rcases getK_set_some hg hg2 with ⟨rfl, rfl⟩ | ⟨hk, hg3⟩
      · exact ⟨b1.free tx, b2⟩
      · exact h.e key2 x2 hg3
    · obtain ⟨y, hy, t, ht, hte⟩ := h.q p hp
      dsimp only
      rw [getK_setK, hy]
      by_cases hk : p.2 = key
      · rw [hk, hg] at hy
        injection hy with hy
        subst hy
        exact ⟨⟨delI x.h tx, x.q⟩, by simp [hk], t, ht, hte⟩
      · exact ⟨y, by simp [hk], t, ht, hte⟩
theorem Z.frees (tx : Int) : ∀ (l : List K) {s : St K}, Z s → Z (freesA s tx l)
  | [], _, h => h
  | a :: l, _, h => Z.frees tx l (h.free tx a)
theorem Z.rel {s : St K} (h : Z s) (tx : Int) : Z (relA s tx) := Z.frees tx _ (h.stop tx)
/-- Who has all of a key has it alone. -/
theorem Z.alone {s : St K} (h : Z s) (key : K) : (∀ tx, holdsA s tx key = 0 ∨ holdsA s tx key = 1) ∨ ∃ j : Int, 0 ≤ j ∧ j ≤ 20 ∧ ∀ tx, holdsA s tx key = if tx = j then 2 else 0 := by
  unfold holdsA
  cases hg : getK s.k key with
  | none => exact .inl (fun _ => .inl rfl)
  | some x =>
    dsimp only
    obtain ⟨a1, a2⟩ := h.e key x hg
    by_cases h2 : ∃ p ∈ x.h, p.2 = 2
    · obtain ⟨p, hp, e⟩ := h2
      have hr := a1.r.1 p hp
      refine .inr ⟨p.1, hr.1, hr.2, fun tx => ?_⟩
      rw [a1.e p hp e]
      by_cases ht : tx = p.1
      · subst ht; simp [getI, e]
      · rw [if_neg ht]
        exact getI_none (fun q hq => by rw [List.mem_singleton.1 hq]; exact fun e => ht e.symm)
    · refine .inl (fun tx => ?_)
      by_cases h0 : getI x.h tx = 0
      · exact .inl h0
      · have hm := getI_mem h0
        rcases a1.v _ hm with e | e
        · exact .inr e
        · exact absurd ⟨_, hm, e⟩ h2
theorem Z.waits {s : St K} (h : Z s) {tx : Int} {key : K} (hw : waitK s.w tx = some key) : holdsA s tx key ≠ 2 := by
  obtain ⟨x, hx, t, ht, e⟩ := h.q _ (waitK_mem hw)
  unfold holdsA
  rw [hx]
  have := ((h.e key x hx).1.q t ht).1
  rw [e] at this
  exact this
/-- All that are known are such. -/
structure Bd (C : Int → Prop) (s : St K) : Prop where
  w : ∀ p ∈ s.w, C p.1
  h : ∀ key x, getK s.k key = some x → ∀ p ∈ x.h, C p.1
theorem grant_mem : ∀ {h : List (Int × Int)} {q : List Wt} {p : Int × Int}, p ∈ (grantF h q).1 → (∃ p' ∈ h, p'.1 = p.1) ∨ ∃ t ∈ q, t.tx = p.1
  | h, [], p, hp => .inl ⟨p, hp, rfl⟩
  | h, t :: q, p, hp => by
    unfold grantF at hp
    split at hp
    · rcases grant_mem hp with ⟨p', h1, h2⟩ | ⟨t', h1, h2⟩
      · rcases mem_put h1 with rfl | ⟨h3, _⟩
        · exact .inr ⟨t, List.mem_cons_self, h2⟩
        · exact .inl ⟨p', h3, h2⟩
      · exact .inr ⟨t', List.mem_cons_of_mem _ h1, h2⟩
    · exact .inl ⟨p, hp, rfl⟩
theorem settle_get {s : St K} {key key2 : K} {x2 : Le} (hg2 : getK (settleA s key).k key2 = some x2) : (key2 ≠ key ∧ getK s.k key2 = some x2) ∨ (key2 = key ∧ ∃ x, getK s.k key = some x ∧ x2 = ⟨(grantF x.h x.q).1, (grantF x.h x.q).2.1⟩) := by
  unfold settleA at hg2
  cases hg : getK s.k key with
  | none =>
    rw [hg] at hg2
    dsimp only at hg2
    by_cases hk : key2 = key
    · rw [hk, hg] at hg2; cases hg2
    · exact .inl ⟨hk, hg2⟩
  | some x =>
    rw [hg] at hg2
    dsimp only at hg2
    split at hg2
    · rw [getK_delK] at hg2
      split at hg2
      · cases hg2
      · rename_i hk; exact .inl ⟨hk, hg2⟩
    · rcases getK_set_some hg hg2 with ⟨hk, he⟩ | ⟨hk, hg3⟩
      · exact .inr ⟨hk, x, rfl, he⟩
      · exact .inl ⟨hk, hg3⟩
theorem Bd.settle {C : Int → Prop} {s : St K} (z : Z s) (h : Bd C s) (key : K) : Bd C (settleA s key) := by
  refine ⟨fun p hp => h.w p (settle_w s key hp), fun key2 x2 hg2 p hp => ?_⟩
  rcases settle_get hg2 with ⟨_, hg3⟩ | ⟨rfl, x, hg3, rfl⟩
  · exact h.h key2 x2 hg3 p hp
  · rcases grant_mem hp with ⟨p', h1, h2⟩ | ⟨t, h1, h2⟩
    · rw [← h2]; exact h.h key2 x hg3 p' h1
    · rw [← h2]; exact h.w _ ((z.e key2 x hg3).2 t h1)
theorem Bd.stop {C : Int → Prop} {s : St K} (z : Z s) (h : Bd C s) (tx : Int) : Bd C (stopA s tx) := by
  unfold stopA
  cases hw : waitK s.w tx with
  | none => exact h
  | some key =>
    dsimp only
    cases hg : getK s.k key with
    | none => exact h
    | some x =>
      refine Bd.settle (z.stop0 (waitK_mem hw) hg) ⟨fun p hp => h.w p (List.mem_filter.1 hp).1, fun key2 x2 hg2 p hp => ?_⟩ key
      rcases getK_set_some hg hg2 with ⟨rfl, rfl⟩ | ⟨hk, hg3⟩
      · exact h.h key2 x hg p hp
      · exact h.h key2 x2 hg3 p hp
theorem Z.free0 {s : St K} (h : Z s) (tx : Int) {key : K} {x : Le} (hg : getK s.k key = some x) : Z (⟨setK s.k key ⟨delI x.h tx, x.q⟩, s.w⟩ : St K) := by
  obtain ⟨b1, b2⟩ := h.e key x hg
  refine ⟨by dsimp only; rw [keys_setK]; exact h.k, h.w, fun key2 x2 hg2 => ?_, fun p hp => ?_⟩
  · rcases getK_set_some hg hg2 with ⟨rfl, rfl⟩ | ⟨hk, hg3⟩
    · exact ⟨b1.free tx, b2⟩
    · exact h.e key2 x2 hg3
  · obtain ⟨y, hy, t, ht, hte⟩ := h.q p hp
    dsimp only
    rw [getK_setK, hy]
    by_cases hk : p.2 = key
    · rw [hk, hg] at hy
      injection hy with hy
      subst hy
      exact ⟨⟨delI x.h tx, x.q⟩, by simp [hk], t, ht, hte⟩
    · exact ⟨y, by simp [hk], t, ht, hte⟩
theorem Bd.free {C : Int → Prop} {s : St K} (z : Z s) (h : Bd C s) (tx : Int) (key : K) : Bd C (freeA s tx key) := by
  cases hg : getK s.k key with
  | none => unfold freeA; rw [hg]; exact h
  | some x =>
    have e : freeA s tx key = settleA ⟨setK s.k key ⟨delI x.h tx, x.q⟩, s.w⟩ key := by unfold freeA; rw [hg]
    rw [e]
    refine Bd.settle (z.free0 tx hg) ⟨h.w, fun key2 x2 hg2 p hp => ?_⟩ key
    rcases getK_set_some hg hg2 with ⟨rfl, rfl⟩ | ⟨hk, hg3⟩
    · exact h.h key2 x hg p (delI_mem hp).1
    · exact h.h key2 x2 hg3 p hp
/-- One does not hold a key. -/
def NoH (s : St K) (tx : Int) (key : K) : Prop := ∀ x, getK s.k key = some x → ∀ p ∈ x.h, p.1 ≠ tx
theorem free_no {s : St K} (z : Z s) {tx : Int} (hw : ∀ p ∈ s.w, p.1 ≠ tx) (key : K) : NoH (freeA s tx key) tx key := by
  intro x2 hg2 p hp
  cases hg : getK s.k key with
  | none =>
    have e : freeA s tx key = s := by unfold freeA; rw [hg]
    rw [e, hg] at hg2
    cases hg2
  | some x =>
    have e : freeA s tx key = settleA ⟨setK s.k key ⟨delI x.h tx, x.q⟩, s.w⟩ key := by unfold freeA; rw [hg]
    rw [e] at hg2
    rcases settle_get hg2 with ⟨hk, _⟩ | ⟨_, y, hy, rfl⟩
    · exact absurd rfl hk
    · rcases getK_set_some hg hy with ⟨_, rfl⟩ | ⟨hk, _⟩
      · rcases grant_mem hp with ⟨p', h1, h2⟩ | ⟨t, h1, h2⟩
        · rw [← h2]; exact (delI_mem h1).2
        · rw [← h2]; exact hw _ ((z.e key x hg).2 t h1)
      · exact absurd rfl hk
theorem free_w (s : St K) (tx : Int) (key : K) {p : Int × K} (hp : p ∈ (freeA s tx key).w) : p ∈ s.w := by
  unfold freeA at hp
  cases hg : getK s.k key with
  | none => rw [hg] at hp; exact hp
  | some x =>
    rw [hg] at hp
    dsimp only at hp
    exact settle_w ⟨setK s.k key ⟨delI x.h tx, x.q⟩, s.w⟩ key hp
theorem frees_no {tx : Int} : ∀ (l : List K) {s : St K}, Z s → (∀ p ∈ s.w, p.1 ≠ tx) → (∀ key, key ∈ l ∨ NoH s tx key) → (∀ p ∈ (freesA s tx l).w, p.1 ≠ tx) ∧ ∀ key, NoH (freesA s tx l) tx key
  | [], s, _, hw, h => ⟨hw, fun key => (h key).resolve_left List.not_mem_nil⟩
  | a :: l, s, z, hw, h => by
    refine frees_no l (z.free tx a) (fun p hp => hw p (free_w s tx a hp)) (fun key => ?_)
    by_cases hk : key = a
    · subst hk; exact .inr (free_no z hw key)
    · rcases h key with h1 | h1
      · exact .inl ((List.mem_cons.1 h1).resolve_left hk)
      · refine .inr (fun x hg => h1 x ?_)
        rwa [getK_free _ _ _ _ hk] at hg
theorem Bd.frees {C : Int → Prop} (tx : Int) : ∀ (l : List K) {s : St K}, Z s → Bd C s → Bd C (freesA s tx l)
  | [], _, _, h => h
  | a :: l, _, z, h => Bd.frees tx l (z.free tx a) (h.free z tx a)
theorem Bd.rel {s : St K} {i : Int} (z : Z s) (h : Bd (fun t => i ≤ t) s) : Bd (fun t => i + 1 ≤ t) (relA s i) := by
  have z1 := z.stop i
  have h1 := Bd.frees i (heldA (stopA s i) i) z1 (h.stop z i)
  have h2 := frees_no (heldA (stopA s i) i) z1 (stop_out z i) (fun key => by
    by_cases hk : key ∈ heldA (stopA s i) i
    · exact .inl hk
    · refine .inr (fun x hg p hp e => hk ?_)
      unfold heldA
      refine List.mem_map.2 ⟨(key, x), List.mem_filter.2 ⟨getK_mem hg, ?_⟩, rfl⟩
      obtain ⟨a1, _⟩ := z1.e key x hg
      have h3 := getI_of_mem a1.n hp
      rw [e] at h3
      simp only [decide_eq_true_eq]
      rw [h3]
      rcases a1.v p hp with h4 | h4 <;> omega)
  refine ⟨fun p hp => ?_, fun key x hg p hp => ?_⟩
  · have a := h1.w p hp
    have b := h2.1 p hp
    omega
  · have a := h1.h key x hg p hp
    have b := h2.2 key x hg p hp
    omega
theorem Bd.start {s : St K} (z : Z s) : Bd (fun t => 0 ≤ t) s := by
  refine ⟨fun p hp => ?_, fun key x hg p hp => ((z.e key x hg).1.r.1 p hp).1⟩
  obtain ⟨x, hx, t, ht, e⟩ := z.q p hp
  rw [← e]
  exact ((z.e _ x hx).1.r.2 t ht).1
theorem Bd.end_ {s : St K} (z : Z s) (h : Bd (fun t => 21 ≤ t) s) : s.w = [] ∧ (∀ tx, heldA s tx = []) ∧ pairsA s = [] := by
  have hw : s.w = [] := by
    cases hs : s.w with
    | nil => rfl
    | cons p w =>
      have hp : p ∈ s.w := by rw [hs]; exact List.mem_cons_self
      obtain ⟨x, hx, t, ht, e⟩ := z.q p hp
      have a := ((z.e _ x hx).1.r.2 t ht).2
      have b := h.w p hp
      omega
  have hk : ∀ p ∈ s.k, p.2.h = [] ∧ p.2.q = [] := fun p hp => by
    have hg : getK s.k p.1 = some p.2 := by
      cases hg : getK s.k p.1 with
      | none => exact absurd (List.mem_map.2 ⟨p, hp, rfl⟩) (getK_none.1 hg)
      | some y =>
        have hm := getK_mem hg
        have hn := z.k
        obtain ⟨i, hi⟩ := List.getElem?_of_mem hm
        obtain ⟨j, hj⟩ := List.getElem?_of_mem hp
        have hij : i = j := by
          have hi2 : (s.k.map (·.1))[i]? = some p.1 := by rw [List.getElem?_map, hi]; rfl
          have hj2 : (s.k.map (·.1))[j]? = some p.1 := by rw [List.getElem?_map, hj]; rfl
          obtain ⟨hi1, hi3⟩ := List.getElem?_eq_some_iff.1 hi2
          obtain ⟨hj1, hj3⟩ := List.getElem?_eq_some_iff.1 hj2
          rcases Nat.lt_trichotomy i j with hlt | he | hlt
          · exact absurd (hi3.trans hj3.symm) (List.pairwise_iff_getElem.1 hn i j hi1 hj1 hlt)
          · exact he
          · exact absurd (hj3.trans hi3.symm) (List.pairwise_iff_getElem.1 hn j i hj1 hi1 hlt)
        subst hij
        rw [hi] at hj
        injection hj with hj
        rw [← hj]
    obtain ⟨a1, a2⟩ := z.e p.1 p.2 hg
    refine ⟨?_, ?_⟩
    · cases hh : p.2.h with
      | nil => rfl
      | cons q l =>
        have hq : q ∈ p.2.h := by rw [hh]; exact List.mem_cons_self
        have a := (a1.r.1 q hq).2
        have b := h.h p.1 p.2 hg q hq
        omega
    · cases hh : p.2.q with
      | nil => rfl
      | cons t l =>
        have ht : t ∈ p.2.q := by rw [hh]; exact List.mem_cons_self
        have := a2 t ht
        rw [hw] at this
        cases this
  refine ⟨hw, fun tx => ?_, ?_⟩
  · unfold heldA
    rw [List.filter_eq_nil_iff.2]
    · rfl
    · intro p hp
      rw [(hk p hp).1]
      simp [getI]
  · unfold pairsA
    rw [List.flatMap_eq_nil_iff]
    intro p hp
    unfold pairsQ
    rw [(hk p hp).2]
    rfl
theorem Z.empty : Z (⟨[], []⟩ : St K) := ⟨List.Pairwise.nil, List.Pairwise.nil, fun key x h => (by cases h), fun p h => (List.not_mem_nil h).elim⟩
end
section
variable {K : Type} [DecidableEq K]
set_option linter.unusedSectionVars false
theorem settle_len (s : St K) (key : K) : (settleA s key).k.length ≤ s.k.length := by
  unfold settleA
  cases getK s.k key with
  | none => exact Nat.le_refl _
  | some x =>
    dsimp only
    split
    · exact List.length_filter_le _ _
    · unfold setK; rw [List.length_map]; exact Nat.le_refl _
theorem stop_len (s : St K) (tx : Int) : (stopA s tx).k.length ≤ s.k.length := by
  unfold stopA
  cases waitK s.w tx with
  | none => exact Nat.le_refl _
  | some key =>
    dsimp only
    cases getK s.k key with
    | none => exact Nat.le_refl _
    | some x =>
      dsimp only
      refine Nat.le_trans (settle_len _ _) ?_
      unfold setK
      rw [List.length_map]
      exact Nat.le_refl _
theorem join_len (s : St K) (tx : Int) (key : K) (all own : Bool) : (joinA s tx key all own).k.length ≤ s.k.length + 1 := by
  have hn : (newK s.k key).length ≤ s.k.length + 1 := by
    unfold newK
    split
    · omega
    · rw [List.length_append, List.length_singleton]; omega
  unfold joinA
  cases getK (newK s.k key) key with
  | none => exact Nat.le_succ _
  | some x =>
    dsimp only
    unfold setK
    rw [List.length_map]
    exact hn
theorem ask_len (s : St K) (tx : Int) (key : K) (all : Bool) : (askA s tx key all).1.k.length ≤ s.k.length + 1 := by
  unfold askA
  split
  · have := settle_len s key; dsimp only; omega
  · split
    · have := stop_len s tx; dsimp only; omega
    · have a := stop_len s tx
      have b := join_len (stopA s tx) tx key all (holdsA (stopA s tx) tx key == 1)
      have c := settle_len (joinA (stopA s tx) tx key all (holdsA (stopA s tx) tx key == 1)) key
      dsimp only
      omega
theorem free_len (s : St K) (tx : Int) (key : K) : (freeA s tx key).k.length ≤ s.k.length := by
  unfold freeA
  cases getK s.k key with
  | none => exact Nat.le_refl _
  | some x =>
    dsimp only
    refine Nat.le_trans (settle_len _ _) ?_
    unfold setK
    rw [List.length_map]
    exact Nat.le_refl _
theorem frees_len (tx : Int) : ∀ (l : List K) (s : St K), (freesA s tx l).k.length ≤ s.k.length
  | [], _ => Nat.le_refl _
  | a :: l, s => Nat.le_trans (frees_len tx l (freeA s tx a)) (free_len s tx a)
theorem rel_len (s : St K) (tx : Int) : (relA s tx).k.length ≤ s.k.length := Nat.le_trans (frees_len tx _ _) (stop_len s tx)
theorem held_len (s : St K) (tx : Int) : (heldA s tx).length ≤ s.k.length := by
  unfold heldA
  rw [List.length_map]
  exact List.length_filter_le _ _
end
end Go.Proofs.Ytlakklaaapfpeaa.Pure
