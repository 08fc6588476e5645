import Derived.Test.YtlakklaaapfpeaaK1
import Derived.Test.YtlakklaaapfpeaaProg
import Derived.BigRegion
import Derived.BigQuiet
import Derived.Deep.QuietTactic
import Derived.Deep.AppendLies
import Derived.ChangeAlike
import Derived.Outline
import Derived.WalkKit
import Derived.KernelRfl
import Derived.Deep.LoopGhost
import Derived.Deep.RegionLaw
import Derived.Test.YtlakklaaapfpeaaWMore
import Derived.Test.YtlakklaaapfpeaaWKept
import Derived.Test.YtlakklaaapfpeaaLSep
import Derived.Lib.Bytealg
namespace Go.Proofs.Ytlakklaaapfpeaa.LK
open Go Go.RowKit Go.Proofs.YtlakklaaapfpeaaW.PrintWords Go.Proofs.YtlakklaaapfpeaaW.PrintLast Go.Proofs.YtlakklaaapfpeaaW.PrintMore Go.Proofs.Ytlakklaaapfpeaa.L
set_option linter.unusedVariables false
set_option linter.unusedSimpArgs false
/-! ### the table in plain words: keys with who holds them and who waits, and for which key each waits -/
structure St (K : Type) where
  k : List (K × Le)
  w : List (Int × K)
section
variable {K : Type} [DecidableEq K]
set_option linter.unusedSectionVars false
def getK (l : List (K × Le)) (key : K) : Option Le := (l.find? (fun p => decide (p.1 = key))).map (·.2)
def setK (l : List (K × Le)) (key : K) (x : Le) : List (K × Le) := l.map (fun p => if p.1 = key then (p.1, x) else p)
def delK (l : List (K × Le)) (key : K) : List (K × Le) := l.filter (fun p => decide (p.1 ≠ key))
def waitK (w : List (Int × K)) (tx : Int) : Option K := (w.find? (fun p => decide (p.1 = tx))).map (·.2)
def offK (w : List (Int × K)) (out : List Int) : List (Int × K) := w.filter (fun p => !out.contains p.1)
def dropK (w : List (Int × K)) (tx : Int) : List (Int × K) := w.filter (fun p => decide (p.1 ≠ tx))
def putK (w : List (Int × K)) (tx : Int) (key : K) : List (Int × K) := if w.any (fun p => decide (p.1 = tx)) then w.map (fun p => if p.1 = tx then (tx, key) else p) else w ++ [(tx, key)]
def settleA (s : St K) (key : K) : St K := match getK s.k key with
  | none => s
  | some x => ⟨if (grantF x.h x.q).1 = [] ∧ (grantF x.h x.q).2.1 = [] then delK s.k key else setK s.k key ⟨(grantF x.h x.q).1, (grantF x.h x.q).2.1⟩, offK s.w (grantF x.h x.q).2.2⟩
def stopQ (q : List Wt) (tx : Int) : List Wt := q.filter (fun x => !(x.tx == tx))
def stopA (s : St K) (tx : Int) : St K := match waitK s.w tx with
  | none => s
  | some key => match getK s.k key with
    | none => s
    | some x => settleA ⟨setK s.k key ⟨x.h, stopQ x.q tx⟩, dropK s.w tx⟩ key
def holdsA (s : St K) (tx : Int) (key : K) : Int := match getK s.k key with
  | none => 0
  | some x => getI x.h tx
def inQ (q : List Wt) (tx : Int) (all : Bool) : Bool := q.any (fun x => x.tx == tx && x.all == all)
def againA (s : St K) (tx : Int) (key : K) (all : Bool) : Bool := decide (waitK s.w tx = some key) && (match getK s.k key with | none => false | some x => inQ x.q tx all)
def newK (l : List (K × Le)) (key : K) : List (K × Le) := if (getK l key).isSome then l else l ++ [(key, ⟨[], []⟩)]
/-- One more waits for a key. -/
def joinA (s : St K) (tx : Int) (key : K) (all own : Bool) : St K := match getK (newK s.k key) key with
  | none => s
  | some x => ⟨setK (newK s.k key) key ⟨x.h, addF ⟨tx, all, own⟩ x.q⟩, putK s.w tx key⟩
def askA (s : St K) (tx : Int) (key : K) (all : Bool) : St K × Bool :=
  if againA s tx key all then (settleA s key, !againA (settleA s key) tx key all)
  else if holdsA (stopA s tx) tx key = 2 ∨ (holdsA (stopA s tx) tx key = 1 ∧ all = false) then (stopA s tx, true)
  else (settleA (joinA (stopA s tx) tx key all (holdsA (stopA s tx) tx key == 1)) key, (waitK (settleA (joinA (stopA s tx) tx key all (holdsA (stopA s tx) tx key == 1)) key).w tx).isNone)
def freeA (s : St K) (tx : Int) (key : K) : St K := match getK s.k key with
  | none => s
  | some x => settleA ⟨setK s.k key ⟨delI x.h tx, x.q⟩, s.w⟩ key
def heldA (s : St K) (tx : Int) : List K := (s.k.filter (fun p => decide (0 < getI p.2.h tx))).map (·.1)
/-- All is well: whoever waits waits in its key's queue. -/
structure Ok (N : Nat) (s : St K) : Prop where
  k : (s.k.map (·.1)).Nodup
  w : (s.w.map (·.1)).Nodup
  q : ∀ p ∈ s.w, ∃ x, getK s.k p.2 = some x ∧ ∃ t ∈ x.q, t.tx = p.1
  l : ∀ p ∈ s.k, p.2.q.length ≤ N
theorem getK_mem {l : List (K × Le)} {key : K} {x : Le} (h : getK l key = some x) : (key, x) ∈ l := by
  unfold getK at h
  cases hf : l.find? (fun p => decide (p.1 = key)) with
  | none => rw [hf] at h; cases h
  | some p =>
    rw [hf] at h
    have h1 := List.mem_of_find?_eq_some hf
    have h2 : p.1 = key := by simpa using List.find?_some hf
    simp only [Option.map_some, Option.some.injEq] at h
    rw [← h2, ← h]
    exact h1
theorem getK_setK (l : List (K × Le)) (key : K) (x : Le) (key' : K) : getK (setK l key x) key' = (getK l key').map (fun y => if key' = key then x else y) := by
  unfold getK setK
  induction l with
  | nil => rfl
  | cons p l ih =>
    rw [List.map_cons]
    by_cases h : p.1 = key'
    · rw [List.find?_cons_of_pos (by split <;> simp [h]), List.find?_cons_of_pos (by simp [h])]
      by_cases h2 : p.1 = key
      · rw [if_pos h2]; simp [← h, h2]
      · rw [if_neg h2]; simp [← h, h2]
    · rw [List.find?_cons_of_neg (by split <;> simp [h]), List.find?_cons_of_neg (by simp [h]), ih]
theorem getK_delK (l : List (K × Le)) (key key' : K) : getK (delK l key) key' = if key' = key then none else getK l key' := by
  unfold getK delK
  rw [List.find?_filter]
  by_cases h : key' = key
  · rw [if_pos h, List.find?_eq_none.2]
    · rfl
    · intro p _
      simp only [decide_not, Bool.and_eq_true, decide_eq_true_eq, not_and]
      subst h
      simp
  · rw [if_neg h]
    congr 2
    funext p
    by_cases h2 : p.1 = key'
    · simp [h2, h]
    · simp [h2]
theorem getK_newK (l : List (K × Le)) (key key' : K) : getK (newK l key) key' = if key' = key then some ((getK l key).getD ⟨[], []⟩) else getK l key' := by
  unfold newK
  cases h : getK l key with
  | some x =>
    rw [if_pos (by simp)]
    by_cases h2 : key' = key
    · rw [if_pos h2, h2, h]; rfl
    · rw [if_neg h2]
  | none =>
    rw [if_neg (by simp)]
    unfold getK at h ⊢
    rw [List.find?_append]
    by_cases h2 : key' = key
    · subst h2
      rw [if_pos rfl]
      cases hf : l.find? (fun p => decide (p.1 = key')) with
      | none => simp
      | some p => rw [hf] at h; cases h
    · rw [if_neg h2, List.find?_cons_of_neg (by simpa using fun e => h2 e.symm)]
      simp
theorem keys_setK (l : List (K × Le)) (key : K) (x : Le) : (setK l key x).map (·.1) = l.map (·.1) := by
  unfold setK
  rw [List.map_map]
  refine List.map_congr_left (fun p _ => ?_)
  simp only [Function.comp_apply]
  split <;> rfl
theorem keys_delK {l : List (K × Le)} (h : (l.map (·.1)).Nodup) (key : K) : ((delK l key).map (·.1)).Nodup := h.sublist (List.Sublist.map _ List.filter_sublist)
theorem keys_newK {l : List (K × Le)} (h : (l.map (·.1)).Nodup) (key : K) : ((newK l key).map (·.1)).Nodup := by
  unfold newK
  cases hg : getK l key with
  | some x => rw [if_pos (by simp)]; exact h
  | none =>
    rw [if_neg (by simp), List.map_append, List.nodup_append]
    refine ⟨h, by simp, ?_⟩
    intro a ha b hb e
    obtain ⟨p, hp, rfl⟩ := List.mem_map.1 ha
    simp only [List.map_cons, List.map_nil, List.mem_singleton] at hb
    rw [hb] at e
    unfold getK at hg
    cases hf : l.find? (fun q => decide (q.1 = key)) with
    | none => exact absurd (List.find?_eq_none.1 hf p hp) (by simpa using e)
    | some q => rw [hf] at hg; cases hg
theorem grantF_parts : ∀ (h : List (Int × Int)) (q : List Wt), (grantF h q).2.2 ++ (grantF h q).2.1.map (·.tx) = q.map (·.tx)
  | h, [] => rfl
  | h, w :: q => by
    unfold grantF
    split
    · have := grantF_parts (putI h w.tx (if w.all then 2 else if getI h w.tx < 1 then 1 else getI h w.tx)) q
      simp only [List.cons_append, List.map_cons, this]
    · simp
theorem offK_nodup {w : List (Int × K)} (h : (w.map (·.1)).Nodup) (out : List Int) : ((offK w out).map (·.1)).Nodup := h.sublist (List.Sublist.map _ List.filter_sublist)
theorem dropK_nodup {w : List (Int × K)} (h : (w.map (·.1)).Nodup) (tx : Int) : ((dropK w tx).map (·.1)).Nodup := h.sublist (List.Sublist.map _ List.filter_sublist)
theorem putK_nodup {w : List (Int × K)} (h : (w.map (·.1)).Nodup) (tx : Int) (key : K) : ((putK w tx key).map (·.1)).Nodup := by
  unfold putK
  split
  · have e : (w.map (fun p => if p.1 = tx then (tx, key) else p)).map (·.1) = w.map (·.1) := by
      rw [List.map_map]
      refine List.map_congr_left (fun p _ => ?_)
      simp only [Function.comp_apply]
      split
      · rename_i h; exact h.symm
      · rfl
    rw [e]
    exact h
  · rename_i hn
    rw [List.map_append, List.nodup_append]
    refine ⟨h, by simp, ?_⟩
    intro a ha b hb e
    obtain ⟨p, hp, rfl⟩ := List.mem_map.1 ha
    simp only [List.map_cons, List.map_nil, List.mem_singleton] at hb
    subst hb
    exact hn (List.any_eq_true.2 ⟨p, hp, by simpa using e⟩)
theorem mem_putK {w : List (Int × K)} {tx : Int} {key : K} {p : Int × K} (h : p ∈ putK w tx key) : p = (tx, key) ∨ (p ∈ w ∧ p.1 ≠ tx) := by
  unfold putK at h
  split at h
  · obtain ⟨q, hq, rfl⟩ := List.mem_map.1 h
    split
    · exact .inl rfl
    · rename_i hn; exact .inr ⟨hq, hn⟩
  · rename_i hn
    rcases List.mem_append.1 h with h | h
    · exact .inr ⟨h, fun e => hn (List.any_eq_true.2 ⟨p, h, by simpa using e⟩)⟩
    · exact .inl (by simpa using h)
theorem waitK_mem {w : List (Int × K)} {tx : Int} {key : K} (h : waitK w tx = some key) : (tx, key) ∈ w := by
  unfold waitK at h
  cases hf : w.find? (fun p => decide (p.1 = tx)) with
  | none => rw [hf] at h; cases h
  | some p =>
    rw [hf] at h
    have h1 := List.mem_of_find?_eq_some hf
    have h2 : p.1 = tx := by simpa using List.find?_some hf
    simp only [Option.map_some, Option.some.injEq] at h
    rw [← h2, ← h]
    exact h1
theorem Ok.settle {N : Nat} {s : St K} (h : Ok N s) (key : K) : Ok N (settleA s key) := by
  unfold settleA
  cases hg : getK s.k key with
  | none => exact h
  | some x =>
    dsimp only
    have hp := grantF_parts x.h x.q
    have hl := grantF_len x.h x.q
    have hxl : x.q.length ≤ N := h.l _ (getK_mem hg)
    generalize grantF x.h x.q = r at *
    obtain ⟨h', q', out⟩ := r
    dsimp only at hp hl ⊢
    refine ⟨?_, offK_nodup h.w _, fun p hp2 => ?_, fun p hp2 => ?_⟩
    · split
      · exact keys_delK h.k _
      · rw [keys_setK]; exact h.k
    · obtain ⟨hpw, hpo⟩ := List.mem_filter.1 hp2
      have hno : p.1 ∉ out := by simpa using hpo
      obtain ⟨y, hy, t, ht, hte⟩ := h.q p hpw
      by_cases hk : p.2 = key
      · rw [hk, hg] at hy
        injection hy with hy
        subst hy
        have hm : p.1 ∈ out ++ q'.map (·.tx) := by rw [hp]; exact List.mem_map.2 ⟨t, ht, hte⟩
        obtain ⟨t', ht', hte'⟩ := List.mem_map.1 ((List.mem_append.1 hm).resolve_left hno)
        have hne : q' ≠ [] := List.ne_nil_of_mem ht'
        dsimp only
        rw [if_neg (fun e => hne e.2), getK_setK, hk, hg]
        exact ⟨⟨h', q'⟩, by simp, t', ht', hte'⟩
      · dsimp only
        refine ⟨y, ?_, t, ht, hte⟩
        split
        · rw [getK_delK, if_neg hk]; exact hy
        · rw [getK_setK, hy]; simp [hk]
    · dsimp only at hp2
      split at hp2
      · exact h.l p (List.mem_filter.1 hp2).1
      · unfold setK at hp2
        obtain ⟨p0, hp0, rfl⟩ := List.mem_map.1 hp2
        split
        · dsimp only; omega
        · exact h.l p0 hp0
theorem Ok.mono {N M : Nat} {s : St K} (h : Ok N s) (hN : N ≤ M) : Ok M s := ⟨h.k, h.w, h.q, fun p hp => Nat.le_trans (h.l p hp) hN⟩
theorem Ok.stop0 {N : Nat} {s : St K} (h : Ok N s) {tx : Int} {key : K} {x : Le} (hg : getK s.k key = some x) : Ok N (⟨setK s.k key ⟨x.h, stopQ x.q tx⟩, dropK s.w tx⟩ : St K) := by
  have hxl : x.q.length ≤ N := h.l _ (getK_mem hg)
  refine ⟨by dsimp only; rw [keys_setK]; exact h.k, dropK_nodup h.w _, fun p hp => ?_, fun p hp => ?_⟩
  · obtain ⟨hpw, hpo⟩ := List.mem_filter.1 hp
    have hne : p.1 ≠ tx := by simpa using hpo
    obtain ⟨y, hy, t, ht, hte⟩ := h.q p hpw
    dsimp only
    rw [getK_setK, hy]
    by_cases hk : p.2 = key
    · rw [hk, hg] at hy
      injection hy with hy
      subst hy
      exact ⟨⟨x.h, stopQ x.q tx⟩, by simp [hk], t, List.mem_filter.2 ⟨ht, by simpa [hte] using hne⟩, hte⟩
    · exact ⟨y, by simp [hk], t, ht, hte⟩
  · dsimp only at hp
    unfold setK at hp
    obtain ⟨p0, hp0, rfl⟩ := List.mem_map.1 hp
    split
    · exact Nat.le_trans (List.length_filter_le _ _) hxl
    · exact h.l p0 hp0
theorem Ok.stop {N : Nat} {s : St K} (h : Ok N s) (tx : Int) : Ok N (stopA s tx) := by
  unfold stopA
  cases hw : waitK s.w tx with
  | none => exact h
  | some key =>
    dsimp only
    cases hg : getK s.k key with
    | none => exact h
    | some x => exact (h.stop0 hg).settle key
theorem addF_len (w : Wt) (q : List Wt) : (addF w q).length = q.length + 1 := by
  have := placeF_le w q
  unfold addF
  rw [List.length_append, List.length_cons, List.length_take, List.length_drop]
  omega
theorem addF_mem (w : Wt) (q : List Wt) {t : Wt} : t ∈ addF w q ↔ t = w ∨ t ∈ q := by
  unfold addF
  rw [List.mem_append, List.mem_cons]
  have e : t ∈ q ↔ t ∈ q.take (placeF w q) ∨ t ∈ q.drop (placeF w q) := by
    conv => lhs; rw [← List.take_append_drop (placeF w q) q]
    rw [List.mem_append]
  rw [e]
  constructor
  · rintro (h | h | h)
    · exact .inr (.inl h)
    · exact .inl h
    · exact .inr (.inr h)
  · rintro (h | h | h)
    · exact .inr (.inl h)
    · exact .inl h
    · exact .inr (.inr h)
theorem Ok.join {N : Nat} {s : St K} (h : Ok N s) (tx : Int) (key : K) (all own : Bool) : Ok (N + 1) (joinA s tx key all own) := by
  unfold joinA
  have hgn := getK_newK s.k key key
  rw [if_pos rfl] at hgn
  rw [hgn]
  dsimp only
  have hln : ∀ p ∈ newK s.k key, p.2.q.length ≤ N := by
    intro p hp
    unfold newK at hp
    split at hp
    · exact h.l p hp
    · rcases List.mem_append.1 hp with hp | hp
      · exact h.l p hp
      · rw [List.mem_singleton.1 hp]; exact Nat.zero_le _
  have hx : ((getK s.k key).getD ⟨[], []⟩).q.length ≤ N := hln _ (getK_mem hgn)
  generalize hxe : (getK s.k key).getD ⟨[], []⟩ = x at *
  refine ⟨by dsimp only; rw [keys_setK]; exact keys_newK h.k _, putK_nodup h.w _ _, fun p hp => ?_, fun p hp => ?_⟩
  · dsimp only
    rw [getK_setK, getK_newK]
    rcases mem_putK hp with rfl | ⟨hpw, hne⟩
    · exact ⟨⟨x.h, addF ⟨tx, all, own⟩ x.q⟩, by simp, ⟨tx, all, own⟩, (addF_mem _ _).2 (.inl rfl), rfl⟩
    · obtain ⟨y, hy, t, ht, hte⟩ := h.q p hpw
      by_cases hk : p.2 = key
      · rw [hk] at hy
        rw [hy] at hxe
        have hyx : y = x := hxe
        subst hyx
        exact ⟨⟨y.h, addF ⟨tx, all, own⟩ y.q⟩, by simp [hk], t, (addF_mem _ _).2 (.inr ht), hte⟩
      · exact ⟨y, by simp [hk, hy], t, ht, hte⟩
  · dsimp only at hp
    unfold setK at hp
    obtain ⟨p0, hp0, rfl⟩ := List.mem_map.1 hp
    split
    · dsimp only; rw [addF_len]; omega
    · exact Nat.le_trans (hln p0 hp0) (Nat.le_succ _)
theorem Ok.ask {N : Nat} {s : St K} (h : Ok N s) (tx : Int) (key : K) (all : Bool) : Ok (N + 1) (askA s tx key all).1 := by
  unfold askA
  split
  · exact (h.settle key).mono (Nat.le_succ _)
  · split
    · exact (h.stop tx).mono (Nat.le_succ _)
    · exact ((h.stop tx).join tx key all _).settle key
theorem Ok.free {N : Nat} {s : St K} (h : Ok N s) (tx : Int) (key : K) : Ok N (freeA s tx key) := by
  unfold freeA
  cases hg : getK s.k key with
  | none => exact h
  | some x =>
    suffices h0 : Ok N (⟨setK s.k key ⟨delI x.h tx, x.q⟩, s.w⟩ : St K) from h0.settle key
    refine ⟨by dsimp only; rw [keys_setK]; exact h.k, h.w, fun p hp => ?_, fun p hp => ?_⟩
    · obtain ⟨y, hy, t, ht, hte⟩ := h.q p hp
      rw [getK_setK, hy]
      by_cases hk : p.2 = key
      · rw [hk, hg] at hy
        injection hy with hy
        subst hy
        exact ⟨⟨delI x.h tx, x.q⟩, by simp [hk], t, ht, hte⟩
      · exact ⟨y, by simp [hk], t, ht, hte⟩
    · dsimp only at hp
      unfold setK at hp
      obtain ⟨p0, hp0, rfl⟩ := List.mem_map.1 hp
      split
      · exact h.l (key, x) (getK_mem hg)
      · exact h.l p0 hp0
end
end Go.Proofs.Ytlakklaaapfpeaa.LK
namespace Go.Proofs.Ytlakklaaapfpeaa.LK
open Go Go.RowKit Go.Proofs.YtlakklaaapfpeaaW.PrintWords Go.Proofs.YtlakklaaapfpeaaW.PrintLast Go.Proofs.YtlakklaaapfpeaaW.PrintMore Go.Proofs.Ytlakklaaapfpeaa.L
set_option linter.unusedVariables false
set_option linter.unusedSimpArgs false
variable {n : Bool}
/-! ### the table as it lies, and in plain words -/
def absT (t : Tb) : St ByteArray := ⟨t.k.map (fun p => (p.1, p.2.2)), t.w⟩
def TabA (b : Nat) (n : Bool) (s : St ByteArray) : HP := HEx (fun t : {t : Tb // absT t = s ∧ t.kb.isSome = n ∧ t.wb.isSome = n} => TabAt b t.1)
theorem TabA.mk {b : Nat} {t : Tb} {s : St ByteArray} {W : World} {F : Nat → Prop} (h : (TabAt b t).on W F) (hs : absT t = s) (hk : t.kb.isSome = n ∧ t.wb.isSome = n) : (TabA b n s).on W F := ⟨⟨t, hs, hk⟩, h⟩
theorem TabA.open_ {b : Nat} {s : St ByteArray} {W : World} {F : Nat → Prop} (h : (TabA b n s).on W F) : ∃ t, absT t = s ∧ (t.kb.isSome = n ∧ t.wb.isSome = n) ∧ (TabAt b t).on W F := by
  obtain ⟨⟨t, h1, h2⟩, h3⟩ := h
  exact ⟨t, h1, h2, h3⟩
theorem abs_get (t : Tb) (key : ByteArray) : getK (absT t).k key = (getP t.k key).map (·.2) := by
  unfold getK getP absT
  dsimp only
  rw [List.find?_map]
  have e : ((fun p : ByteArray × Le => decide (p.1 = key)) ∘ fun p : ByteArray × Nat × Le => (p.1, p.2.2)) = fun p => decide (p.1 = key) := rfl
  rw [e]
  cases t.k.find? (fun p => decide (p.1 = key)) <;> rfl
theorem abs_set (k : List (ByteArray × Nat × Le)) (key : ByteArray) (x : Le) : (setP k key x).map (fun p => (p.1, p.2.2)) = setK (k.map (fun p => (p.1, p.2.2))) key x := by
  unfold setP setK
  rw [List.map_map, List.map_map]
  refine List.map_congr_left (fun p _ => ?_)
  simp only [Function.comp_apply]
  split <;> rfl
theorem abs_del (k : List (ByteArray × Nat × Le)) (key : ByteArray) : (delP k key).map (fun p => (p.1, p.2.2)) = delK (k.map (fun p => (p.1, p.2.2))) key := by
  unfold delP delK
  rw [List.filter_map]
  rfl
theorem abs_some {t : Tb} {key : ByteArray} {x : Le} (h : getK (absT t).k key = some x) : ∃ eb, getP t.k key = some (eb, x) := by
  rw [abs_get] at h
  obtain ⟨p, hp, rfl⟩ := Option.map_eq_some_iff.1 h
  exact ⟨p.1, hp⟩
theorem abs_none {t : Tb} {key : ByteArray} (h : getK (absT t).k key = none) : getP t.k key = none := by
  rw [abs_get] at h
  simpa using h
theorem abs_wait (t : Tb) (tx : Int) : waitK (absT t).w tx = waitF t.w tx := rfl
theorem abs_settle (t : Tb) (key : ByteArray) : absT (settleF t key) = settleA (absT t) key := by
  unfold settleF settleA
  rw [abs_get]
  cases getP t.k key with
  | none => rfl
  | some p =>
    obtain ⟨eb, x⟩ := p
    dsimp only [Option.map_some]
    unfold absT
    dsimp only
    congr 1
    split
    · exact abs_del _ _
    · exact abs_set _ _ _
theorem settleF_parts (t : Tb) (key : ByteArray) : (settleF t key).kb = t.kb ∧ (settleF t key).wb = t.wb := by
  unfold settleF
  cases getP t.k key with
  | none => exact ⟨rfl, rfl⟩
  | some p => exact ⟨rfl, rfl⟩
/-- Where a key is there are maps. -/
theorem TabAt.maps {b : Nat} {t : Tb} {W : World} {F : Nat → Prop} {key : ByteArray} {p : Nat × Le} (h : (TabAt b t).on W F) (hg : getP t.k key = some p) (hk : t.kb.isSome = n ∧ t.wb.isSome = n) : ∃ mk m, t.kb = some mk ∧ t.wb = some m := by
  obtain ⟨_, _, _, ⟨G, ⟨G1, G2, g1, _⟩, _⟩, _⟩ := TabAt.facts h
  cases hb : t.kb with
  | none =>
    rw [hb] at g1
    have h2 : ptrs t.k = [] := g1.1
    have h3 : t.k = [] := by
      cases hkk : t.k with
      | nil => rfl
      | cons _ _ => rw [hkk] at h2; cases h2
    rw [h3] at hg
    cases hg
  | some mk =>
    rw [hb] at hk
    cases hw : t.wb with
    | none => rw [hw] at hk; exact absurd (hk.1.trans hk.2.symm) (by simp)
    | some m => exact ⟨mk, m, rfl, rfl⟩
theorem Upd.ab {b : Nat} {t : Tb} {s : St ByteArray} {W w : World} {F : Nat → Prop} (u : Upd W F (TabAt b t) w) (hs : absT t = s) (hk : t.kb.isSome = n ∧ t.wb.isSome = n) : Upd W F (TabA b n s) w := u.imp (fun _ h => TabA.mk h hs hk)
theorem settleA_calls (b : Nat) (s : St ByteArray) (W : World) (F : Nat → Prop) (key : ByteArray) (x : Le) (h : (TabA b n s).on W F) (hg : getK s.k key = some x) (hq : x.q.length < 900000) :
    Calls Try.prog 24 #[.pointer (some ⟨b, 0, none⟩), .string key] W fun e w' => e = .returned (.tuple #[]) ∧ Aside0 (Upd W F (TabA b n (settleA s key)) w') := by
  obtain ⟨t, rfl, hk, h1⟩ := TabA.open_ h
  obtain ⟨eb, hg2⟩ := abs_some hg
  obtain ⟨mk, m, h2, h3⟩ := TabAt.maps h1 hg2 hk
  refine (settle_calls b t W F key eb x m mk h1 hg2 h3 h2 hq).mono ?_
  rintro e w' ⟨rfl, U⟩
  refine ⟨rfl, Aside0.mk (Upd.ab U.out (abs_settle t key) ?_)⟩
  obtain ⟨e1, e2⟩ := settleF_parts t key
  rw [e1, e2]
  exact hk
theorem waitsA_calls (b : Nat) (s : St ByteArray) (W : World) (F : Nat → Prop) (tx : Int) (h : (TabA b n s).on W F) :
    Calls Try.prog 17 #[.pointer (some ⟨b, 0, none⟩), .int .i64 tx] W fun e w' => e = .returned (.tuple #[.string ((waitK s.w tx).getD ⟨#[]⟩), .bool (waitK s.w tx).isSome]) ∧ w' = W := by
  obtain ⟨t, rfl, hk, h1⟩ := TabA.open_ h
  exact waits_calls b t W F tx h1
end Go.Proofs.Ytlakklaaapfpeaa.LK
namespace Go.Proofs.Ytlakklaaapfpeaa.LK
open Go Go.RowKit Go.Proofs.YtlakklaaapfpeaaW.PrintWords Go.Proofs.YtlakklaaapfpeaaW.PrintLast Go.Proofs.YtlakklaaapfpeaaW.PrintMore Go.Proofs.Ytlakklaaapfpeaa.L
set_option linter.unusedVariables false
set_option linter.unusedSimpArgs false
section
variable {α : Type} {enc : α → List Value} {k : Nat}
theorem RowX.take {e base : Nat} {W : World} {g cap : Nat} {xs : List α} (h : RowX enc k e W base g cap xs) (m : Nat) : RowX enc k e W base g cap (xs.take m) := by
  obtain ⟨cur, rest, hh, hc, ht⟩ := h.has
  refine ⟨h.le, by have := h.len; rw [List.length_take]; omega, h.max, cur, flatE enc (xs.drop m) ++ rest, hh, hc, ?_⟩
  rw [ht, ← List.append_assoc, ← flatE_parts]
theorem RowX.set {e base : Nat} {W : World} {g cap m : Nat} {xs : List α} (hk : ∀ x, (enc x).length = k) (h : RowX enc k e W base g cap xs) (hm : m < xs.length) (c : α) : RowX enc k e (W.setCells g (m * k) (enc c)) base g cap (xs.set m c) := by
  obtain ⟨cur, rest, hh, hc, ht⟩ := h.has
  have hl := h.len
  have m1 : (m + 1) * k = m * k + k := Nat.succ_mul _ _
  have m2 : (m + 1) * k ≤ cap * k := Nat.mul_le_mul_right _ (by omega)
  obtain ⟨cur', h3, h4, h5⟩ := setCells_row (enc c) (m * k) W cur hh (by rw [hc, hk]; omega)
  refine ⟨h.le, by rw [List.length_set]; exact hl, h.max, cur', rest, h3, by rw [h4, hc], ?_⟩
  have ex : xs = xs.take m ++ xs[m] :: xs.drop (m + 1) := by rw [List.getElem_cons_drop, List.take_append_drop]
  have e1 : cur.toList = flatE enc (xs.take m) ++ (enc xs[m] ++ (flatE enc (xs.drop (m + 1)) ++ rest)) := by
    rw [ht]
    conv => lhs; rw [ex]
    rw [flatE_append, flatE_cons]
    simp only [List.append_assoc]
  have la : (flatE enc (xs.take m)).length = m * k := by rw [flatE_length hk, List.length_take, Nat.min_eq_left (by omega)]
  rw [h5, e1, List.take_left' la, hk, ← List.drop_drop, List.drop_left' la, List.drop_left' (hk _), List.set_eq_take_append_cons_drop, if_pos hm, flatE_append, flatE_cons]
  simp only [List.append_assoc]
end
theorem set3 (W : World) (g o : Nat) (c : Wt) : W.setCells g o (cellsT c) = ((W.setCell ⟨g, o, none⟩ (.int .i64 c.tx)).setCell ⟨g, o + 1, none⟩ (.bool c.all)).setCell ⟨g, o + 2, none⟩ (.bool c.own) := rfl
theorem cell_eff {w w1 : World} {p : Addr} {v : Value} (h : w.cell? p = some v) (e : Eff0 w w1) : w1.cell? p = some v := by
  have hlt := World.block_lt_of_cell? w _ h
  unfold World.cell? at h ⊢
  rw [e.block _ hlt id]
  exact h
/-! ### the queue without those of a transaction: the closures -/
set_option maxHeartbeats 1600000 in
set_option maxRecDepth 100000 in
theorem stop1_calls (w : World) (x : Wt) (id : Int) (pb : Nat) (h : w.cell? ⟨pb, 0, none⟩ = some (.int .i64 id)) :
    Calls Try.prog 27 #[.agg #[.int .i64 x.tx, .bool x.all, .bool x.own], .pointer (some ⟨pb, 0, none⟩)] w fun e w' => e = .returned (.bool (x.tx == id)) ∧ Eff0 w w' := by
  have hlt := World.block_lt_of_cell? w _ h
  go_enter Try.func27, Try.ntmps27
  go_wp2
  go_ret
  exact ⟨rfl, (Eff.refl _ _).alloc _⟩
/-- Where the first one is that is such. -/
def firstL (p : Wt → Bool) (xs : List Wt) : Option Nat := xs.findIdx? p
def firstI (p : Wt → Bool) (xs : List Wt) : Int := match firstL p xs with | some i => (i : Int) | none => -1
theorem slice_i (g o i : Nat) : ({ block := g, off := o + i } : Addr) = ⟨g, o + i, none⟩ := rfl
set_option maxHeartbeats 1600000 in
set_option maxRecDepth 100000 in
theorem index_calls (w : World) (A : Option Addr) (c pb : Nat) (xs : List Wt) (id : Int) (hC : ∀ w1, Eff0 w w1 → ∀ i, i < xs.length → ∃ g o, A = some ⟨g, o, none⟩ ∧ w1.cell? ⟨g, o + i * 3, none⟩ = some (.int .i64 (xs.getD i default).tx) ∧ w1.cell? ⟨g, o + i * 3 + 1, none⟩ = some (.bool (xs.getD i default).all) ∧ w1.cell? ⟨g, o + i * 3 + 2, none⟩ = some (.bool (xs.getD i default).own)) (h : w.cell? ⟨pb, 0, none⟩ = some (.int .i64 id)) (hm : xs.length < 900000) :
    Calls Try.prog 40 #[.slice A xs.length c, .func (.func 27) #[] #[.pointer (some ⟨pb, 0, none⟩)]] w fun e w' => e = .returned (.int .i64 (firstI (fun x => x.tx == id) xs)) ∧ Eff0 w w' := by
  have H := Aside0.mk h
  clear h
  go_enter Try.func40, Try.ntmps40
  go_wp2
  go_loopg [8] xs.length (fun k s8 wr => ∃ (i : Nat), s8 = .int .i64 i ∧ i + k = xs.length ∧ Aside0 (∀ x ∈ xs.take i, (x.tx == id) = false) ∧ Aside0 (Eff0 w wr))
  case atStart => exact ⟨0, rfl, by omega, Aside0.mk (by simp), Aside0.mk (Eff.refl _ _)⟩
  case round =>
    obtain ⟨i, rfl, h1, A1, e1⟩ := hrel
    by_cases hz : i < xs.length
    · have p2 : ((i : Int) < (xs.length : Int)) = True := eq_true (by omega)
      have B2 : i < 900000 := by omega
      obtain ⟨g, o, rfl, x0, x1, x2⟩ := hC wr e1.out i hz
      have A2 : Aside0 (xs.getD i default = xs[i]) := Aside0.mk (by rw [List.getD_eq_getElem?_getD, List.getElem?_eq_getElem hz]; rfl)
      have A3 := Aside0.mk (cell_eff H.out e1.out)
      clear hC
      generalize xs.getD i default = x at *
      have C := stop1_calls wr x id pb A3.out
      cases hb : (x.tx == id)
      · rw [hb] at C
        have A4 := Aside0.mk hb
        clear hb
        go_wp2_with (go_at_call 27; refine C.mono ?_; rintro e w2 ⟨rfl, k2⟩)
        go_roundg (gk - 1)
        case measure => omega
        case rel =>
          refine ⟨i + 1, by simp, by omega, Aside0.mk (fun y hy => ?_), Aside0.mk (e1.out.trans k2 (fun _ h => h.elim))⟩
          rw [List.take_succ_eq_append_getElem hz] at hy
          rcases List.mem_append.1 hy with hy | hy
          · exact A1.out y hy
          · rw [List.mem_singleton.1 hy, ← A2.out]; exact A4.out
      · rw [hb] at C
        have A4 := Aside0.mk hb
        clear hb
        go_wp2_with (go_at_call 27; refine C.mono ?_; rintro e w2 ⟨rfl, k2⟩)
        go_ret
        refine ⟨?_, e1.out.trans k2 (fun _ h => h.elim)⟩
        have : firstL (fun x => x.tx == id) xs = some i := by
          unfold firstL
          rw [List.findIdx?_eq_some_iff_getElem]
          refine ⟨hz, by rw [← A2.out]; exact A4.out, fun j hj => ?_⟩
          rw [A1.out xs[j] (List.mem_take_iff_getElem.2 ⟨j, by omega, rfl⟩)]
          simp
        unfold firstI
        rw [this]
        rfl
    · have p2 : ((i : Int) < (xs.length : Int)) = False := eq_false (by omega)
      clear hC
      go_wp2
      go_ret
      refine ⟨?_, e1.out⟩
      have : firstL (fun x => x.tx == id) xs = none := by
        unfold firstL
        rw [List.findIdx?_eq_none_iff]
        have := A1.out
        rw [List.take_of_length_le (by omega)] at this
        exact this
      unfold firstI
      rw [this]
      rfl
end Go.Proofs.Ytlakklaaapfpeaa.LK
namespace Go.Proofs.Ytlakklaaapfpeaa.LK
open Go Go.RowKit Go.Proofs.YtlakklaaapfpeaaW.PrintWords Go.Proofs.YtlakklaaapfpeaaW.PrintLast Go.Proofs.YtlakklaaapfpeaaW.PrintMore Go.Proofs.Ytlakklaaapfpeaa.L
set_option linter.unusedVariables false
set_option linter.unusedSimpArgs false
theorem stopQ_snoc (id : Int) (xs : List Wt) (j : Nat) (hj : j < xs.length) : stopQ (xs.take (j + 1)) id = if (xs[j].tx == id) = true then stopQ (xs.take j) id else stopQ (xs.take j) id ++ [xs[j]] := by
  unfold stopQ
  rw [List.take_succ_eq_append_getElem hj, List.filter_append]
  split
  next h => rw [List.filter_cons_of_neg (by simp [h])]; simp
  next h => rw [List.filter_cons_of_pos (by simpa using h)]; simp
theorem RowT.lt {W : World} {g cap : Nat} {l : List Wt} (h : RowT W g cap l) : g < W.heap.size := by
  obtain ⟨cur, rest, hh, _⟩ := h.has
  exact blk_lt hh
theorem RowT.q {W : World} {g cap : Nat} {pre ys : List Wt} (h : RowT W g cap (pre ++ ys)) : (QAt (.slice (some ⟨g, pre.length * 3, none⟩) ys.length (cap - pre.length)) ys).on W (fun k => k = g) :=
  ⟨.inr ⟨g, cap, pre, rfl, h, rfl⟩, by rintro k rfl; exact RowT.lt h⟩
theorem RowT.at {W : World} {g cap : Nat} {pre ys : List Wt} (h : RowT W g cap (pre ++ ys)) (i : Nat) (hi : i < ys.length) : W.cell? ⟨g, pre.length * 3 + i * 3, none⟩ = some (.int .i64 (ys.getD i default).tx) ∧ W.cell? ⟨g, pre.length * 3 + i * 3 + 1, none⟩ = some (.bool (ys.getD i default).all) ∧ W.cell? ⟨g, pre.length * 3 + i * 3 + 2, none⟩ = some (.bool (ys.getD i default).own) := by
  obtain ⟨A, c, hv, _, hR⟩ := QAt.reads (RowT.q h)
  injection hv with ha _ _
  subst ha
  obtain ⟨g', o', he, x⟩ := hR i hi
  injection he with he
  injection he with h1 h2
  subst h1 h2
  exact x
theorem RowT.eff {W W1 : World} {g cap : Nat} {l : List Wt} (h : RowT W g cap l) (e : Eff0 W W1) : RowT W1 g cap l := RowX.eff h e id
theorem zeroT : (Builtin.zeroCells (Value.agg #[.int .i64 0, .bool false, .bool false]).cells 1).toList = cellsT ⟨0, false, false⟩ := by
  simp [Builtin.zeroCells, Value.cells, Array.range, cellsT]
theorem zerosT (n : Nat) : ∀ u ∈ (Builtin.zeroCells (Value.agg #[.int .i64 0, .bool false, .bool false]).cells n).toList, u.oneCell' = true := by
  intro u hu
  simp only [Builtin.zeroCells, Array.toList_map, List.mem_map] at hu
  obtain ⟨i, _, rfl⟩ := hu
  have e : (Value.agg #[.int .i64 0, .bool false, .bool false]).cells = #[.int .i64 0, .bool false, .bool false] := rfl
  rw [e]
  have : i % 3 = 0 ∨ i % 3 = 1 ∨ i % 3 = 2 := by omega
  rcases this with h | h | h <;> simp [h, Value.oneCell']
/-- What is left is cleared behind. -/
theorem RowT.clear {W : World} {g cap : Nat} {pre ys : List Wt} (h : RowT W g cap (pre ++ ys)) (i : Nat) (hi : i < ys.length) (c : Nat) : ∃ W', (∀ ty, (Builtin.clear_ #[57] ty #[.slice (some ⟨g, pre.length * 3 + i * 3, none⟩) (ys.length - i) c]).run Try.prog W = .ok (.tuple #[]) W') ∧ RowT W' g cap (pre ++ ys.take i) ∧ Eff (fun k => k = g) W W' := by
  have hl := h.len
  rw [List.length_append] at hl
  have hz : (Builtin.zeroCells (Value.agg #[.int .i64 0, .bool false, .bool false]).cells (ys.length - i)).toList.length = (ys.length - i) * 3 := by rw [Array.length_toList, size_zeroCells]; rfl
  refine ⟨_, fun ty => run_clearK (P := Try.prog) (n := ys.length - i) W 57 62 ty (.agg #[.int .i64 0, .bool false, .bool false]) Try.underlying57 Try.zeroValue62 (zerosT _) g (pre.length * 3 + i * 3) c (by omega) (fun j hj => ?_) (fun j _ => h.free _), ?_, eff_setCells _ _ _ _⟩
  · rw [hz] at hj
    exact h.some _ (by omega)
  · have h2 : RowT W g cap (pre ++ ys.take i) := by
      have := RowX.take h (pre.length + i)
      rwa [List.take_append, List.take_of_length_le (by omega), Nat.add_sub_cancel_left] at this
    have hlen : (pre ++ ys.take i).length = pre.length + i := by rw [List.length_append, List.length_take]; omega
    exact RowX.behind lenT h2 (by rw [hlen]; omega) (by rw [hz]; omega)
/-- One is written. -/
theorem RowT.put {W : World} {g cap : Nat} {pre ys : List Wt} (h : RowT W g cap (pre ++ ys)) (i : Nat) (hi : i < ys.length) (c : Wt) : RowT (((W.setCell ⟨g, pre.length * 3 + i * 3, none⟩ (.int .i64 c.tx)).setCell ⟨g, pre.length * 3 + i * 3 + 1, none⟩ (.bool c.all)).setCell ⟨g, pre.length * 3 + i * 3 + 2, none⟩ (.bool c.own)) g cap (pre ++ ys.set i c) ∧
    Eff (fun k => k = g) W (((W.setCell ⟨g, pre.length * 3 + i * 3, none⟩ (.int .i64 c.tx)).setCell ⟨g, pre.length * 3 + i * 3 + 1, none⟩ (.bool c.all)).setCell ⟨g, pre.length * 3 + i * 3 + 2, none⟩ (.bool c.own)) := by
  have h2 := RowX.set lenT h (m := pre.length + i) (by rw [List.length_append]; omega) c
  rw [List.set_append_right _ _ (by omega), Nat.add_sub_cancel_left, show (pre.length + i) * 3 = pre.length * 3 + i * 3 by omega] at h2
  have h3 := eff_setCells g (pre.length * 3 + i * 3) (cellsT c) W
  rw [set3] at h2 h3
  exact ⟨h2, h3⟩
set_option maxHeartbeats 1600000 in
set_option maxRecDepth 100000 in
theorem deleteT_calls (w : World) (g cap pb : Nat) (pre xs : List Wt) (id : Int) (hR : RowT w g cap (pre ++ xs)) (h : w.cell? ⟨pb, 0, none⟩ = some (.int .i64 id)) (hpg : pb ≠ g) (hm : xs.length < 900000) :
    Calls Try.prog 26 #[.slice (some ⟨g, pre.length * 3, none⟩) xs.length (cap - pre.length), .func (.func 27) #[] #[.pointer (some ⟨pb, 0, none⟩)]] w fun e w' =>
      ∃ m, e = .returned (.slice (some ⟨g, pre.length * 3, none⟩) m (cap - pre.length)) ∧ m = (stopQ xs id).length ∧ RowT w' g cap (pre ++ stopQ xs id) ∧ Eff (fun k => k = g) w w' := by
  have hlt := World.block_lt_of_cell? w _ h
  have hcl := hR.len
  rw [List.length_append] at hcl
  have hcm := hR.max
  simp only [maxLen] at hcm
  have CI := index_calls w (some ⟨g, pre.length * 3, none⟩) (cap - pre.length) pb xs id (fun w1 e i hi => ⟨g, _, rfl, RowT.at (RowT.eff hR e) i hi⟩) h hm
  obtain ⟨C, hC⟩ : ∃ C, C = cap - pre.length := ⟨_, rfl⟩
  have hCl : xs.length ≤ C := by omega
  have hCm : C ≤ 9223372036854775807 := by omega
  rw [← hC] at CI ⊢
  cases hf : firstL (fun x => x.tx == id) xs with
  | none =>
    have hk : stopQ xs id = xs := by
      unfold stopQ
      rw [List.filter_eq_self]
      intro x hx
      have := List.findIdx?_eq_none_iff.1 hf x hx
      simp only [this, Bool.not_false]
    have hi : firstI (fun x => x.tx == id) xs = -1 := by unfold firstI; rw [hf]
    rw [hi] at CI
    have H := Aside0.mk (And.intro hR hk)
    clear hi hf h hk hR hC hcl hcm
    go_enter Try.func26, Try.ntmps26
    go_wp2_with (go_at_call 40; refine CI.mono ?_; rintro e w2 ⟨rfl, k2⟩)
    go_ret
    refine ⟨_, rfl, by rw [H.out.2], ?_, k2.mono (fun _ h => h.elim)⟩
    rw [H.out.2]
    exact RowT.eff H.out.1 k2
  | some i0 =>
    obtain ⟨hi0, hi1, hi2⟩ := List.findIdx?_eq_some_iff_getElem.1 hf
    have hi : firstI (fun x => x.tx == id) xs = i0 := by unfold firstI; rw [hf]
    rw [hi] at CI
    have hne : ((i0 : Int) == -1) = false := beq_eq_false_iff_ne.2 (by omega)
    have B0 : i0 < 900000 := by omega
    have H := Aside0.mk (And.intro h (And.intro hR (And.intro hi1 (And.intro hi2 hlt))))
    have hs : Aside0 (stopQ (xs.take (i0 + 1)) id = xs.take i0) := Aside0.mk (by
      rw [stopQ_snoc id xs i0 hi0, if_pos hi1]
      unfold stopQ
      rw [List.filter_eq_self]
      intro x hx
      obtain ⟨j, hj, rfl⟩ := List.mem_take_iff_getElem.1 hx
      have := hi2 j (by omega)
      simpa using this)
    have HC := Aside0.mk hC
    clear hi hf h hR hi1 hi2 hcl hcm hC
    go_enter Try.func26, Try.ntmps26
    go_wp2_with (go_at_call 40; refine CI.mono ?_; rintro e w2 ⟨rfl, k2⟩)
    go_loopg [5, 6] (xs.length - (i0 + 1)) (fun k s5 s6 wr => ∃ (i j : Nat) (ys : List Wt), s5 = .int .i64 i ∧ s6 = .int .i64 j ∧ j + k = xs.length ∧ i < j ∧ Aside0 (ys.length = xs.length) ∧ Aside0 (ys.take i = stopQ (xs.take j) id ∧ ys.drop j = xs.drop j) ∧ Aside0 (RowT wr g cap (pre ++ ys)) ∧ Aside0 (Eff (fun k => k = g) w wr))
    case atStart => exact ⟨i0, i0 + 1, xs, rfl, by simp, by omega, by omega, Aside0.mk rfl, Aside0.mk ⟨hs.out.symm, rfl⟩, Aside0.mk (RowT.eff H.out.2.1 k2), Aside0.mk (k2.mono (fun _ h => h.elim))⟩
    case round =>
      clear k2 hne CI B0
      obtain ⟨i, j, ys, rfl, rfl, h1, h2, h3, A1, A2, e1⟩ := hrel
      by_cases hz : j < xs.length
      · have p2 : ((j : Int) < (xs.length : Int)) = True := eq_true (by omega)
        have B2 : j < 900000 := by omega
        obtain ⟨x0, x1, x2⟩ := RowT.at A2.out j (by have := h3.out; omega)
        have A3 : Aside0 (ys.getD j default = xs[j]) := Aside0.mk (by
          have := congrArg (fun z => z[0]?) A1.out.2
          simp only [List.getElem?_drop, Nat.add_zero] at this
          rw [List.getD_eq_getElem?_getD, this, List.getElem?_eq_getElem hz]
          rfl)
        have hgl := RowT.lt A2.out
        have hcp : wr.cell? ⟨pb, 0, none⟩ = some (.int .i64 id) := by rw [Eff.cell e1.out H.out.2.2.2.2 hpg]; exact H.out.1
        have C0 : ∀ w1, Eff0 wr w1 → Calls Try.prog 27 #[.agg #[.int .i64 (ys.getD j default).tx, .bool (ys.getD j default).all, .bool (ys.getD j default).own], .pointer (some ⟨pb, 0, none⟩)] w1 fun e w' => e = .returned (.bool ((ys.getD j default).tx == id)) ∧ Eff0 w1 w' := fun w1 k1 => stop1_calls w1 _ id pb (cell_eff hcp k1)
        generalize ys.getD j default = x at *
        clear hcp
        have C2 : ∀ r, (x.tx == id) = r → Calls Try.prog 27 #[.agg #[.int .i64 x.tx, .bool x.all, .bool x.own], .pointer (some ⟨pb, 0, none⟩)] (wr.alloc (.cells #[.int .i64 x.tx, .bool x.all, .bool x.own] 62)) fun e w' => e = .returned (.bool r) ∧ Aside0 (Eff0 wr w') ∧ w'.cell? ⟨wr.heap.size, 0, none⟩ = some (.int .i64 x.tx) ∧ w'.cell? ⟨wr.heap.size, 1, none⟩ = some (.bool x.all) ∧ w'.cell? ⟨wr.heap.size, 2, none⟩ = some (.bool x.own) ∧
            w'.cell? ⟨g, pre.length * 3 + i * 3, none⟩ = some (.int .i64 (ys.getD i default).tx) ∧ w'.cell? ⟨g, pre.length * 3 + i * 3 + 1, none⟩ = some (.bool (ys.getD i default).all) ∧ w'.cell? ⟨g, pre.length * 3 + i * 3 + 2, none⟩ = some (.bool (ys.getD i default).own) ∧ w'.frozen? ⟨g, pre.length * 3 + i * 3, none⟩ = false ∧ w'.frozen? ⟨g, pre.length * 3 + i * 3 + 1, none⟩ = false ∧ w'.frozen? ⟨g, pre.length * 3 + i * 3 + 2, none⟩ = false := by
          intro r hr
          refine (C0 _ ((Eff.refl _ _).alloc _)).mono fun e w' ⟨he, k2⟩ => ?_
          have k3 := ((Eff.refl (fun _ => False) wr).alloc (.cells #[.int .i64 x.tx, .bool x.all, .bool x.own] 62)).trans k2 (fun _ h => h.elim)
          have hn2 : w'.heap[wr.heap.size]? = some (.cells #[.int .i64 x.tx, .bool x.all, .bool x.own] 62 (0, 0)) := (k2.block _ (by simp) (fun h => h)).trans (heap_alloc_new wr _)
          have R2 := RowT.eff A2.out k3
          obtain ⟨z0, z1, z2⟩ := RowT.at R2 i (by have := h3.out; omega)
          exact ⟨by rw [he, hr], Aside0.mk k3, blk_cell hn2 0, blk_cell hn2 1, blk_cell hn2 2, z0, z1, z2, R2.free _, R2.free _, R2.free _⟩
        have HX := Aside0.mk (And.intro x0 (And.intro x1 x2))
        obtain ⟨y, hy⟩ : ∃ y, y = ys.getD i default := ⟨_, rfl⟩
        rw [← hy] at C2
        clear C0 hy
        have HO := Aside0.mk (show pre.length * 3 = pre.length * 3 from rfl)
        cases hb : (x.tx == id)
        · have C3 := C2 false hb
          have A4 := Aside0.mk hb
          clear hb C2
          go_wp2_with (go_at_call 27; refine C3.mono ?_; rintro e w2 ⟨rfl, k3, y0, y1, y2, s0, s1, s2, f0, f1, f2⟩)
          have W1 := RowT.put (RowT.eff A2.out k3.out) i (by have := h3.out; omega) x
          go_roundg (gk - 1)
          case measure => omega
          case rel =>
            refine ⟨i + 1, j + 1, ys.set i x, by simp, by simp, by omega, by omega, Aside0.mk (by rw [List.length_set]; exact h3.out), Aside0.mk ⟨?_, ?_⟩, Aside0.mk W1.1, Aside0.mk ((e1.out.trans k3.out (fun _ h => h.elim)).trans W1.2 (fun _ h => .inl h))⟩
            · have hn : ¬ (xs[j].tx == id) = true := by rw [← A3.out, A4.out]; simp
              rw [stopQ_snoc id xs j hz, if_neg hn, ← A1.out.1, ← A3.out]
              have := h3.out
              rw [List.take_succ_eq_append_getElem (by rw [List.length_set]; omega), List.take_set_of_le (by omega)]
              simp
            · rw [List.drop_set_of_lt (by omega), ← List.drop_drop, ← List.drop_drop, A1.out.2]
        · have C3 := C2 true hb
          have A4 := Aside0.mk hb
          clear hb C2
          go_wp2_with (go_at_call 27; refine C3.mono ?_; rintro e w2 ⟨rfl, k3, _⟩)
          go_roundg (gk - 1)
          case measure => omega
          case rel =>
            refine ⟨i, j + 1, ys, rfl, by simp, by omega, by omega, h3, Aside0.mk ⟨?_, ?_⟩, Aside0.mk (RowT.eff A2.out k3.out), Aside0.mk (e1.out.trans k3.out (fun _ h => h.elim))⟩
            · rw [stopQ_snoc id xs j hz, if_pos (by rw [← A3.out]; exact A4.out)]
              exact A1.out.1
            · rw [← List.drop_drop, ← List.drop_drop, A1.out.2]
      · have p2 : ((j : Int) < (xs.length : Int)) = False := eq_false (by omega)
        have B2 : i < 900000 := by omega
        have pc : (C = i) = False := eq_false (by omega)
        obtain ⟨w3, hcl, z3, z4⟩ := RowT.clear A2.out i (by have := h3.out; omega) (C - i)
        rw [h3.out] at hcl
        have hyi : ys.take i = stopQ xs id := by
          have := A1.out.1
          rwa [List.take_of_length_le (l := xs) (by omega)] at this
        rw [hyi] at z3
        have hil : i = (stopQ xs id).length := by rw [← hyi, List.length_take]; have := h3.out; omega
        have Z := Aside0.mk (And.intro z3 (And.intro z4 hil))
        clear z3 z4 hyi hil
        go_wp2
        go_ret
        exact ⟨i, rfl, Z.out.2.2, Z.out.1, e1.out.trans Z.out.2.1 (fun _ h => .inl h)⟩
/-- slices.DeleteFunc of those of a transaction. -/
theorem deleteQ_calls (W : World) (F : Nat → Prop) (A : Option Addr) (n cap pb : Nat) (l : List Wt) (id : Int) (h : (QAt (.slice A n cap) l).on W F) (hp : W.cell? ⟨pb, 0, none⟩ = some (.int .i64 id)) (hpF : ¬ F pb) (hm : l.length < 900000) :
    Calls Try.prog 26 #[.slice A n cap, .func (.func 27) #[] #[.pointer (some ⟨pb, 0, none⟩)]] W fun e w' => ∃ v', e = .returned v' ∧ Upd W F (QAt v' (stopQ l id)) w' := by
  have h0 := h
  rcases h.1 with ⟨A', hv, rfl⟩ | ⟨g, cap', pre, hv, h2, h3⟩
  · injection hv with ha hn hc
    subst ha hn hc
    have CI := index_calls W A 0 pb [] id (fun _ _ i hi => absurd hi (Nat.not_lt_zero _)) hp (by decide)
    simp only [List.length_nil] at CI
    have hi : firstI (fun x => x.tx == id) [] = -1 := rfl
    rw [hi] at CI
    have H := Aside0.mk h0
    clear h h0 hi
    go_enter Try.func26, Try.ntmps26
    go_wp2_with (go_at_call 40; refine CI.mono ?_; rintro e w2 ⟨rfl, k2⟩)
    go_ret
    exact ⟨_, rfl, Upd.same H.out k2⟩
  · injection hv with ha hn hc
    subst ha hn hc
    refine (deleteT_calls W g cap' pb pre l id h2 hp (fun e => hpF (e ▸ h3)) hm).mono ?_
    rintro e w' ⟨m, rfl, hm', hR, hE⟩
    subst hm'
    exact ⟨_, rfl, Upd.mk (F' := F) ⟨.inr ⟨g, cap', pre, rfl, hR, h3⟩, fun k hk => Nat.lt_of_lt_of_le (h0.2 k hk) hE.size⟩ (hE.mono (fun k hk => by subst hk; exact h3)) (fun _ hk => .inl hk)⟩
end Go.Proofs.Ytlakklaaapfpeaa.LK
namespace Go.Proofs.Ytlakklaaapfpeaa.LK
open Go Go.RowKit Go.Proofs.YtlakklaaapfpeaaW.PrintWords Go.Proofs.YtlakklaaapfpeaaW.PrintLast Go.Proofs.YtlakklaaapfpeaaW.PrintMore Go.Proofs.Ytlakklaaapfpeaa.L
set_option linter.unusedVariables false
set_option linter.unusedSimpArgs false
variable {n : Bool}
theorem TabAt.focus0 {b : Nat} {s : Tb} {W : World} {F : Nat → Prop} {key : ByteArray} {eb : Nat} {x : Le} (h : (TabAt b s).on W F) (hg : getP s.k key = some (eb, x)) : ∃ F1, (EntAt eb x).on W F1 ∧ (∀ k, F1 k → F k) ∧ ∀ (x' : Le) (W' : World), Upd W F1 (EntAt eb x') W' → Upd W F (TabAt b { s with k := setP s.k key x' }) W' := by
  obtain ⟨F2, h2, k2, u2⟩ := Sep.focusR h
  obtain ⟨F3, h3, k3, u3⟩ := Sep.focus h2
  obtain ⟨F1, h1, k1, u1⟩ := PMap.focus h3 hg
  exact ⟨F1, h1, fun k hk => k2 k (k3 k (k1 k hk)), fun x' W' c => u2 _ _ (u3 _ _ (u1 x' W' c))⟩
theorem Upd.tab0 {W w : World} {F : Nat → Prop} {b : Nat} {s : Tb} (u : Upd W F (TabAt b s) w) : w.cell? ⟨b, 0, none⟩ = some (.map s.kb) ∧ w.cell? ⟨b, 1, none⟩ = some (.map s.wb) := by
  obtain ⟨G, g1, _⟩ := u
  obtain ⟨c0, c1, _⟩ := TabAt.facts g1
  exact ⟨c0, c1⟩
theorem Upd.del0 {W w : World} {F : Nat → Prop} {b m : Nat} {s : Tb} (u : Upd W F (TabAt b s) w) (hm : s.wb = some m) (tx : Int) : ∃ w', (∀ ty, (Builtin.delete_ #[26, 3] ty #[.map (some m), .int .i64 tx]).run Try.prog w = .ok (.tuple #[]) w') ∧ Upd W F (TabAt b { s with w := LK.delW s.w tx }) w' := by
  obtain ⟨G, h1, e1, k1⟩ := u
  obtain ⟨w', hrun, u2⟩ := TabAt.delW h1 hm tx 0
  exact ⟨w', fun ty => hrun, Upd.go e1 k1 u2⟩
theorem Upd.a {b : Nat} {s : St ByteArray} {W w : World} {F : Nat → Prop} (u : Upd W F (TabA b n s) w) : ∃ t, absT t = s ∧ (t.kb.isSome = n ∧ t.wb.isSome = n) ∧ Upd W F (TabAt b t) w := by
  obtain ⟨G, h1, e1, k1⟩ := u
  obtain ⟨t, h2, h3, h4⟩ := TabA.open_ h1
  exact ⟨t, h2, h3, G, h4, e1, k1⟩
/-- A call on what a call has left. -/
theorem Upd.then_ {P : Program} {f : FuncId} {args : Array Value} {W w : World} {F : Nat → Prop} {S T : HP} {r : Ending → Prop} (u : Upd W F S w) (c : ∀ G, S.on w G → Calls P f args w fun e w' => r e ∧ Aside0 (Upd w G T w')) : Calls P f args w fun e w' => r e ∧ Aside0 (Upd W F T w') := by
  obtain ⟨G, h1, e1, k1⟩ := u
  refine (c G h1).mono ?_
  rintro e w' ⟨he, U⟩
  exact ⟨he, Aside0.mk (Upd.go e1 k1 U.out)⟩
theorem Upd.on_ {W w : World} {F : Nat → Prop} {S : HP} (u : Upd W F S w) : ∃ G, S.on w G ∧ (∀ k, G k → F k ∨ W.heap.size ≤ k) ∧ ∀ T w', Upd w G T w' → Upd W F T w' := by
  obtain ⟨G, h1, e1, k1⟩ := u
  exact ⟨G, h1, k1, fun T w' u2 => Upd.go e1 k1 u2⟩
set_option maxHeartbeats 1600000 in
set_option maxRecDepth 100000 in
theorem stop_calls (b : Nat) (s : St ByteArray) (W : World) (F : Nat → Prop) (tx : Int) (h : (TabA b n s).on W F) (ho : Ok 899999 s) :
    Calls Try.prog 14 #[.pointer (some ⟨b, 0, none⟩), .int .i64 tx] W fun e w' => e = .returned (.bool (waitK s.w tx).isSome) ∧ Aside0 (Upd W F (TabA b n (stopA s tx)) w') := by
  have e0 : Eff0 W (W.alloc (.cells #[.int .i64 tx] 3)) := (Eff.refl _ _).alloc _
  have h1 := HP.eff0 h e0
  have CW := Aside0.mk (waitsA_calls b s _ F tx h1)
  cases hw : waitK s.w tx with
  | none =>
    rw [hw] at CW
    have HR := Aside0.mk (show stopA s tx = s by unfold stopA; rw [hw])
    have H := Aside0.mk (Upd.same h e0)
    clear hw h h1 ho e0
    go_enter Try.func14, Try.ntmps14
    go_wp2_with (go_at_call 17; refine CW.out.mono ?_; rintro e w1 ⟨rfl, rfl⟩)
    go_ret
    exact ⟨rfl, Aside0.mk (by rw [HR.out]; exact H.out)⟩
  | some key =>
    rw [hw] at CW
    obtain ⟨x, hg, _⟩ := ho.q _ (waitK_mem hw)
    dsimp only at hg
    have hq : x.q.length < 900000 := by have := ho.l _ (getK_mem hg); dsimp only at this; omega
    have HR := Aside0.mk (show stopA s tx = settleA ⟨setK s.k key ⟨x.h, stopQ x.q tx⟩, dropK s.w tx⟩ key by unfold stopA; rw [hw]; dsimp only; rw [hg])
    have hgs : getK (⟨setK s.k key ⟨x.h, stopQ x.q tx⟩, dropK s.w tx⟩ : St ByteArray).k key = some ⟨x.h, stopQ x.q tx⟩ := by dsimp only; rw [getK_setK, hg]; simp
    have hqs : (stopQ x.q tx).length < 900000 := Nat.lt_of_le_of_lt (List.length_filter_le _ _) hq
    have x0 : (W.alloc (.cells #[.int .i64 tx] 3)).cell? ⟨W.heap.size, 0, none⟩ = some (.int .i64 tx) := blk_cell (heap_alloc_new W _) 0
    have hFb : ¬ F W.heap.size := fun hk => Nat.lt_irrefl _ (HP.lt _ h hk)
    have hsb : W.heap.size < (W.alloc (.cells #[.int .i64 tx] 3)).heap.size := by simp
    obtain ⟨t, rfl, hk, ht⟩ := TabA.open_ h1
    obtain ⟨eb, hg2⟩ := abs_some hg
    obtain ⟨mk, m, hmk, hm⟩ := TabAt.maps ht hg2 hk
    go_enter Try.func14, Try.ntmps14
    go_upto_region 1 with (fail)
    generalize hW1 : W.alloc (.cells #[.int .i64 tx] 3) = W1 at *
    have U0 : Upd W1 F (TabAt b t) W1 := Upd.same ht (Eff.refl _ _)
    have E0 := Aside0.mk e0
    have HB := Aside0.mk (And.intro hFb hsb)
    have HS := Aside0.mk (And.intro hgs hqs)
    obtain ⟨w2, hdel, U2⟩ := Upd.del0 (U0.after ((Eff.refl _ _).drew)) hm tx
    have y0 := (Upd.cell U2 W.heap.size hsb hFb 0).trans x0
    have H2 := Aside0.mk (And.intro U2 y0)
    obtain ⟨c0, c1⟩ := Upd.tab0 U0
    have HG := Aside0.mk (And.intro hmk (And.intro hg2 (And.intro hk hq)))
    rw [hmk] at c0
    rw [hm] at c1
    clear hw h h1 ho e0 ht hg hg2 hq hk U0 U2 y0 hFb hsb hgs hqs hW1 hm hmk
    go_upto_region 3 with (go_at_call 17; refine CW.out.mono ?_; rintro e W1 ⟨rfl, rfl⟩)
    go_cut [] (fun wx => Aside0 (Upd W1 F (TabAt b { t with w := LK.delW t.w tx }) wx ∧ wx.cell? ⟨W.heap.size, 0, none⟩ = some (.int .i64 tx)))
    case first =>
      go_region
      all_goals go_wp2_with fail
      all_goals go_meet
      all_goals (case rel => exact H2)
    case rest =>
      have H3 := hcut
      clear hdel H2 c0 c1 x0 CW
      obtain ⟨G, hG, hGF, lift⟩ := Upd.on_ H3.out.1
      have x1 := H3.out.2
      obtain ⟨c0, c1, _⟩ := TabAt.facts hG
      dsimp only at c0 c1
      have hL := TabAt.lookK hG key
      dsimp only at hL
      rw [HG.out.1] at c0 hL
      rw [HG.out.2.1] at hL
      dsimp only [ptrOf, Option.map_some] at hL
      obtain ⟨F1, hE, hF1, lift2⟩ := TabAt.focus0 hG HG.out.2.1
      obtain ⟨hb, vq, G1, d0, d1, f, hM, hQ, hG1, hU⟩ := EntAt.facts hE
      obtain ⟨A, c, rfl, hc, _⟩ := QAt.reads hQ
      have hnb : ¬ G1 W.heap.size := fun hk => by
        rcases hGF _ (hF1 _ (hG1 _ hk)) with h | h
        · exact HB.out.1 h
        · have := HB.out.2; omega
      have CD := Aside0.mk (deleteQ_calls wc G1 A x.q.length c W.heap.size x.q tx hQ x1 hnb HG.out.2.2.2)
      have HL := Aside0.mk (And.intro lift (And.intro lift2 hU))
      clear lift lift2 hU hG hGF hE hF1 hM hQ hG1 hnb H3 hcut hc f
      go_upto_region 6 with (go_at_call 26; refine CD.out.mono ?_; rintro e w4 ⟨v4, rfl, U4⟩; obtain ⟨A4, n4, c4, rfl⟩ := Upd.slice U4; obtain ⟨z0, z1, zf, U5⟩ := HL.out.2.2 _ _ w4 U4; have U6 := Aside0.mk (HL.out.1 _ _ (HL.out.2.1 _ _ U5)); clear U5 U4; have zf1 := zf 1)
      have U7 : Upd W1 F (TabA b n ⟨setK (absT t).k key ⟨x.h, stopQ x.q tx⟩, dropK (absT t).w tx⟩) _ := Upd.ab U6.out (by unfold absT; dsimp only; rw [abs_set]; rfl) HG.out.2.2.1
      have CS := Aside0.mk (Upd.then_ (r := fun e => e = .returned (.tuple #[])) U7 (fun G h => settleA_calls b _ _ G key _ h HS.out.1 HS.out.2))
      clear U6 U7 zf zf1 z0 z1 c0 c1 d0 d1 hL x1
      go_wp2_with (go_at_call 24; refine CS.out.mono ?_; rintro e w6 ⟨rfl, U8⟩)
      go_ret
      refine ⟨rfl, Aside0.mk ?_⟩
      rw [HR.out]
      exact Upd.of E0.out U8.out
end Go.Proofs.Ytlakklaaapfpeaa.LK
namespace Go.Proofs.Ytlakklaaapfpeaa.LK
open Go Go.RowKit Go.Proofs.YtlakklaaapfpeaaW.PrintWords Go.Proofs.YtlakklaaapfpeaaW.PrintLast Go.Proofs.YtlakklaaapfpeaaW.PrintMore Go.Proofs.Ytlakklaaapfpeaa.L
set_option linter.unusedVariables false
set_option linter.unusedSimpArgs false
variable {n : Bool}
theorem TabA.lookK {b : Nat} {s : St ByteArray} {W : World} {F : Nat → Prop} (h : (TabA b n s).on W F) (key : ByteArray) : ∃ kb, W.cell? ⟨b, 0, none⟩ = some (.map kb) ∧ match getK s.k key with
    | none => (Instr.lookup 25 (.map kb) (.string key) false).run Try.prog W = .ok (.pointer none) W
    | some x => ∃ eb hb A c, (Instr.lookup 25 (.map kb) (.string key) false).run Try.prog W = .ok (.pointer (some ⟨eb, 0, none⟩)) W ∧ W.cell? ⟨eb, 0, none⟩ = some (.map (some hb)) ∧ W.cell? ⟨eb, 1, none⟩ = some (.slice A x.q.length c) ∧ MapAt keyInt W hb (ints x.h) ∧ ∃ G, (QAt (.slice A x.q.length c) x.q).on W G ∧ ∀ k, G k → F k := by
  obtain ⟨t, rfl, hk, ht⟩ := TabA.open_ h
  obtain ⟨c0, c1, _⟩ := TabAt.facts ht
  refine ⟨t.kb, c0, ?_⟩
  have hL := TabAt.lookK ht key
  cases hg : getK (absT t).k key with
  | none =>
    dsimp only
    rw [abs_none hg] at hL
    exact hL
  | some x =>
    dsimp only
    obtain ⟨eb, hg2⟩ := abs_some hg
    rw [hg2] at hL
    obtain ⟨F1, hE, hF1, _⟩ := TabAt.focus ht hg2
    obtain ⟨hb, vq, G1, d0, d1, f, hM, hQ, hG1, hU⟩ := EntAt.facts hE
    obtain ⟨A, c, rfl, _⟩ := QAt.reads hQ
    exact ⟨eb, hb, A, c, hL, d0, d1, hM, G1, hQ, fun k hk => hF1 k (hG1 k hk)⟩
theorem look_h {W : World} {hb : Nat} {h : List (Int × Int)} (hM : MapAt keyInt W hb (ints h)) (k : Int) : (Instr.lookup 56 (.map (some hb)) (.int .i64 k) false).run Try.prog W = .ok (.int .i64 (getI h k)) W := by
  have := hM.lookup (P := Try.prog) Try.underlying56 Try.underlying3 (z := .int .i64 0) (by kernel_rfl) k false
  rw [← look_getI]
  exact this
set_option maxHeartbeats 1600000 in
set_option maxRecDepth 100000 in
theorem holds_calls (b : Nat) (s : St ByteArray) (W : World) (F : Nat → Prop) (tx : Int) (key : ByteArray) (h : (TabA b n s).on W F) :
    Calls Try.prog 16 #[.pointer (some ⟨b, 0, none⟩), .int .i64 tx, .string key] W fun e w' => e = .returned (.int .i64 (holdsA s tx key)) ∧ w' = W := by
  obtain ⟨kb, c0, hL⟩ := TabA.lookK h key
  unfold holdsA
  cases hg : getK s.k key with
  | none =>
    rw [hg] at hL
    dsimp only at hL ⊢
    clear hg h
    go_enter Try.func16, Try.ntmps16
    go_wp2
    go_ret
    exact ⟨rfl, rfl⟩
  | some x =>
    rw [hg] at hL
    dsimp only at hL ⊢
    obtain ⟨eb, hb, A, c, hL, d0, d1, hM, _⟩ := hL
    have hT := look_h hM tx
    clear hg h hM
    go_enter Try.func16, Try.ntmps16
    go_wp2
    go_ret
    exact ⟨rfl, rfl⟩
end Go.Proofs.Ytlakklaaapfpeaa.LK
namespace Go.Proofs.Ytlakklaaapfpeaa.LK
open Go Go.RowKit Go.Proofs.YtlakklaaapfpeaaW.PrintWords Go.Proofs.YtlakklaaapfpeaaW.PrintLast Go.Proofs.YtlakklaaapfpeaaW.PrintMore Go.Proofs.Ytlakklaaapfpeaa.L
set_option linter.unusedVariables false
set_option linter.unusedSimpArgs false
variable {n : Bool}
theorem toList_iff {a b : ByteArray} : a.toList = b.toList ↔ a = b := by
  rw [Lib.toList_data, Lib.toList_data]
  constructor
  · intro h
    cases a
    cases b
    congr 1
    exact Array.toList_inj.1 h
  · rintro rfl; rfl
set_option maxHeartbeats 1600000 in
set_option maxRecDepth 100000 in
theorem again1_calls (w : World) (x : Wt) (id : Int) (all : Bool) (pb pa : Nat) (h : w.cell? ⟨pb, 0, none⟩ = some (.int .i64 id)) (h2 : w.cell? ⟨pa, 0, none⟩ = some (.bool all)) :
    Calls Try.prog 37 #[.agg #[.int .i64 x.tx, .bool x.all, .bool x.own], .pointer (some ⟨pb, 0, none⟩), .pointer (some ⟨pa, 0, none⟩)] w fun e w' => e = .returned (.bool (x.tx == id && x.all == all)) ∧ Eff0 w w' := by
  have hlt := World.block_lt_of_cell? w _ h
  have hlt2 := World.block_lt_of_cell? w _ h2
  obtain ⟨tx, a, o⟩ := x
  dsimp only
  by_cases ht : tx = id
  · have n1 : (tx == id) = true := beq_iff_eq.2 ht
    subst ht
    cases a <;> cases all
    all_goals
      go_enter Try.func37, Try.ntmps37
      go_wp2
      go_ret
      exact ⟨by simp, (Eff.refl _ _).alloc _⟩
  · have n1 : (tx == id) = false := beq_eq_false_iff_ne.2 ht
    have n2 : (tx = id) = False := eq_false ht
    clear ht
    go_enter Try.func37, Try.ntmps37
    go_wp2
    go_ret
    exact ⟨by simp, (Eff.refl _ _).alloc _⟩
set_option maxHeartbeats 1600000 in
set_option maxRecDepth 100000 in
theorem index2_calls (w : World) (A : Option Addr) (c pb pa : Nat) (xs : List Wt) (id : Int) (all : Bool) (hC : ∀ w1, Eff0 w w1 → ∀ i, i < xs.length → ∃ g o, A = some ⟨g, o, none⟩ ∧ w1.cell? ⟨g, o + i * 3, none⟩ = some (.int .i64 (xs.getD i default).tx) ∧ w1.cell? ⟨g, o + i * 3 + 1, none⟩ = some (.bool (xs.getD i default).all) ∧ w1.cell? ⟨g, o + i * 3 + 2, none⟩ = some (.bool (xs.getD i default).own)) (h : w.cell? ⟨pb, 0, none⟩ = some (.int .i64 id) ∧ w.cell? ⟨pa, 0, none⟩ = some (.bool all)) (hm : xs.length < 900000) :
    Calls Try.prog 40 #[.slice A xs.length c, .func (.func 37) #[] #[.pointer (some ⟨pb, 0, none⟩), .pointer (some ⟨pa, 0, none⟩)]] w fun e w' => e = .returned (.int .i64 (firstI (fun x => x.tx == id && x.all == all) xs)) ∧ Eff0 w w' := by
  have H := Aside0.mk h
  clear h
  go_enter Try.func40, Try.ntmps40
  go_wp2
  go_loopg [8] xs.length (fun k s8 wr => ∃ (i : Nat), s8 = .int .i64 i ∧ i + k = xs.length ∧ Aside0 (∀ x ∈ xs.take i, (x.tx == id && x.all == all) = false) ∧ Aside0 (Eff0 w wr))
  case atStart => exact ⟨0, rfl, by omega, Aside0.mk (by simp), Aside0.mk (Eff.refl _ _)⟩
  case round =>
    obtain ⟨i, rfl, h1, A1, e1⟩ := hrel
    by_cases hz : i < xs.length
    · have p2 : ((i : Int) < (xs.length : Int)) = True := eq_true (by omega)
      have B2 : i < 900000 := by omega
      obtain ⟨g, o, rfl, x0, x1, x2⟩ := hC wr e1.out i hz
      have A2 : Aside0 (xs.getD i default = xs[i]) := Aside0.mk (by rw [List.getD_eq_getElem?_getD, List.getElem?_eq_getElem hz]; rfl)
      have A3 := Aside0.mk (And.intro (cell_eff H.out.1 e1.out) (cell_eff H.out.2 e1.out))
      clear hC
      generalize xs.getD i default = x at *
      have C := again1_calls wr x id all pb pa A3.out.1 A3.out.2
      cases hb : (x.tx == id && x.all == all)
      · rw [hb] at C
        have A4 := Aside0.mk hb
        clear hb
        go_wp2_with (go_at_call 37; refine C.mono ?_; rintro e w2 ⟨rfl, k2⟩)
        go_roundg (gk - 1)
        case measure => omega
        case rel =>
          refine ⟨i + 1, by simp, by omega, Aside0.mk (fun y hy => ?_), Aside0.mk (e1.out.trans k2 (fun _ h => h.elim))⟩
          rw [List.take_succ_eq_append_getElem hz] at hy
          rcases List.mem_append.1 hy with hy | hy
          · exact A1.out y hy
          · rw [List.mem_singleton.1 hy, ← A2.out]; exact A4.out
      · rw [hb] at C
        have A4 := Aside0.mk hb
        clear hb
        go_wp2_with (go_at_call 37; refine C.mono ?_; rintro e w2 ⟨rfl, k2⟩)
        go_ret
        refine ⟨?_, e1.out.trans k2 (fun _ h => h.elim)⟩
        have : firstL (fun x => x.tx == id && x.all == all) xs = some i := by
          unfold firstL
          rw [List.findIdx?_eq_some_iff_getElem]
          refine ⟨hz, by rw [← A2.out]; exact A4.out, fun j hj => ?_⟩
          rw [A1.out xs[j] (List.mem_take_iff_getElem.2 ⟨j, by omega, rfl⟩)]
          simp
        unfold firstI
        rw [this]
        rfl
    · have p2 : ((i : Int) < (xs.length : Int)) = False := eq_false (by omega)
      clear hC
      go_wp2
      go_ret
      refine ⟨?_, e1.out⟩
      have : firstL (fun x => x.tx == id && x.all == all) xs = none := by
        unfold firstL
        rw [List.findIdx?_eq_none_iff]
        have := A1.out
        rw [List.take_of_length_le (by omega)] at this
        exact this
      unfold firstI
      rw [this]
      rfl
set_option maxHeartbeats 1600000 in
set_option maxRecDepth 100000 in
theorem contains_calls (w : World) (A : Option Addr) (c pb pa : Nat) (xs : List Wt) (id : Int) (all : Bool) (G : Nat → Prop) (hQ : (QAt (.slice A xs.length c) xs).on w G) (h : w.cell? ⟨pb, 0, none⟩ = some (.int .i64 id) ∧ w.cell? ⟨pa, 0, none⟩ = some (.bool all)) (hm : xs.length < 900000) :
    Calls Try.prog 36 #[.slice A xs.length c, .func (.func 37) #[] #[.pointer (some ⟨pb, 0, none⟩), .pointer (some ⟨pa, 0, none⟩)]] w fun e w' => e = .returned (.bool (inQ xs id all)) ∧ Eff0 w w' := by
  have CI := index2_calls w A c pb pa xs id all (fun w1 e i hi => by
    obtain ⟨A', c', hv, _, hR⟩ := QAt.reads (HP.eff0 hQ e)
    injection hv with ha _ _
    subst ha
    exact hR i hi) h hm
  have hr : (firstI (fun x => x.tx == id && x.all == all) xs ≥ 0) = (inQ xs id all = true) := by
    unfold firstI firstL inQ
    cases hf : xs.findIdx? (fun x => x.tx == id && x.all == all) with
    | none =>
      have := List.findIdx?_eq_none_iff.1 hf
      have e : xs.any (fun x => x.tx == id && x.all == all) = false := by
        rw [List.any_eq_false]
        intro x hx
        rw [this x hx]
        simp
      rw [e]
      simp
    | some i =>
      obtain ⟨h1, h2, _⟩ := List.findIdx?_eq_some_iff_getElem.1 hf
      have e : xs.any (fun x => x.tx == id && x.all == all) = true := List.any_eq_true.2 ⟨_, List.getElem_mem h1, h2⟩
      rw [e]
      simp
  generalize firstI (fun x => x.tx == id && x.all == all) xs = r at *
  generalize inQ xs id all = a at *
  have p1 : decide (r ≥ 0) = a := by
    cases a with
    | true => exact decide_eq_true (by rw [hr])
    | false => exact decide_eq_false (by rw [hr]; simp)
  have HP1 := Aside0.mk p1
  clear hQ h hr p1
  go_enter Try.func36, Try.ntmps36
  go_wp2_with (go_at_call 40; refine CI.mono ?_; rintro e w2 ⟨rfl, k2⟩)
  go_ret
  refine ⟨?_, k2⟩
  rw [← HP1.out]
  rfl
set_option maxHeartbeats 1600000 in
set_option maxRecDepth 100000 in
theorem again_calls (b : Nat) (s : St ByteArray) (W : World) (F : Nat → Prop) (tx : Int) (key : ByteArray) (all : Bool) (h : (TabA b n s).on W F) (ho : Ok 899999 s) :
    Calls Try.prog 23 #[.pointer (some ⟨b, 0, none⟩), .int .i64 tx, .string key, .bool all] W fun e w' => e = .returned (.bool (againA s tx key all)) ∧ Eff0 W w' := by
  have e0 : Eff0 W ((W.alloc (.cells #[.int .i64 tx] 3)).alloc (.cells #[.bool all] 4)) := ((Eff.refl _ _).alloc _).alloc _
  have h1 := HP.eff0 h e0
  have CW := Aside0.mk (waitsA_calls b s _ F tx h1)
  have x0 : ((W.alloc (.cells #[.int .i64 tx] 3)).alloc (.cells #[.bool all] 4)).cell? ⟨W.heap.size, 0, none⟩ = some (.int .i64 tx) := blk_cell (heap_alloc2_old W _ _) 0
  have x1 : ((W.alloc (.cells #[.int .i64 tx] 3)).alloc (.cells #[.bool all] 4)).cell? ⟨W.heap.size + 1, 0, none⟩ = some (.bool all) := by
    have := blk_cell (heap_alloc_new (W.alloc (.cells #[.int .i64 tx] 3)) (.cells #[.bool all] 4)) 0
    rwa [show (W.alloc (.cells #[.int .i64 tx] 3)).heap.size = W.heap.size + 1 by simp] at this
  cases hw : waitK s.w tx with
  | none =>
    rw [hw] at CW
    have HR := Aside0.mk (show againA s tx key all = false by unfold againA; rw [hw]; rfl)
    have H := Aside0.mk e0
    clear hw h h1 ho e0
    go_enter Try.func23, Try.ntmps23
    go_wp2_with (go_at_call 17; refine CW.out.mono ?_; rintro e w1 ⟨rfl, rfl⟩)
    go_ret
    exact ⟨by rw [HR.out]; rfl, H.out⟩
  | some at_ =>
    rw [hw] at CW
    by_cases hk : at_ = key
    · subst hk
      obtain ⟨x, hg, _⟩ := ho.q _ (waitK_mem hw)
      dsimp only at hg
      have hq : x.q.length < 900000 := by have := ho.l _ (getK_mem hg); dsimp only at this; omega
      have HR := Aside0.mk (show againA s tx at_ all = inQ x.q tx all by unfold againA; rw [hw, hg]; simp)
      obtain ⟨kb, c0, hL⟩ := TabA.lookK h1 at_
      rw [hg] at hL
      dsimp only at hL
      obtain ⟨eb, hb, A, c, hL, d0, d1, hM, G, hQ, _⟩ := hL
      have CC := Aside0.mk (contains_calls _ A c W.heap.size (W.heap.size + 1) x.q tx all G hQ ⟨x0, x1⟩ hq)
      have H := Aside0.mk e0
      clear hw h h1 ho e0 hg hQ hM hq
      go_enter Try.func23, Try.ntmps23
      go_wp2_with (first
        | (go_at_call 17; refine CW.out.mono ?_; rintro e w1 ⟨rfl, rfl⟩)
        | (go_at_call 36; refine CC.out.mono ?_; rintro e w2 ⟨rfl, k2⟩))
      go_ret
      exact ⟨by rw [HR.out]; rfl, H.out.then0 k2⟩
    · have n2 : (at_.toList = key.toList) = False := eq_false (fun e => hk (toList_iff.1 e))
      have HR := Aside0.mk (show againA s tx key all = false by unfold againA; rw [hw]; simp [hk])
      have H := Aside0.mk e0
      clear hw h h1 ho e0 hk
      go_enter Try.func23, Try.ntmps23
      go_wp2_with (go_at_call 17; refine CW.out.mono ?_; rintro e w1 ⟨rfl, rfl⟩)
      go_ret
      exact ⟨by rw [HR.out]; rfl, H.out⟩
end Go.Proofs.Ytlakklaaapfpeaa.LK
namespace Go.Proofs.Ytlakklaaapfpeaa.LK
open Go Go.RowKit Go.Proofs.YtlakklaaapfpeaaW.PrintWords Go.Proofs.YtlakklaaapfpeaaW.PrintLast Go.Proofs.YtlakklaaapfpeaaW.PrintMore Go.Proofs.Ytlakklaaapfpeaa.L
set_option linter.unusedVariables false
set_option linter.unusedSimpArgs false
variable {n : Bool}
theorem TabA.made {b : Nat} {s : St ByteArray} {W : World} {F : Nat → Prop} (h : (TabA b true s).on W F) : ∃ mk m, W.cell? ⟨b, 0, none⟩ = some (.map (some mk)) ∧ W.cell? ⟨b, 1, none⟩ = some (.map (some m)) := by
  obtain ⟨t, rfl, ⟨h1, h2⟩, ht⟩ := TabA.open_ h
  obtain ⟨c0, c1, _⟩ := TabAt.facts ht
  obtain ⟨mk, hk⟩ := Option.isSome_iff_exists.1 h1
  obtain ⟨m, hm⟩ := Option.isSome_iff_exists.1 h2
  exact ⟨mk, m, by rw [c0, hk], by rw [c1, hm]⟩
/-- The maps are made. -/
theorem TabA.make {b : Nat} {s : St ByteArray} {W : World} {F : Nat → Prop} (h : (TabA b false s).on W F) : W.cell? ⟨b, 0, none⟩ = some (.map none) ∧ W.cell? ⟨b, 1, none⟩ = some (.map none) ∧ (∀ i, W.frozen? ⟨b, i, none⟩ = false) ∧
    Upd W F (TabA b true s) ((((W.setCell ⟨b, 0, none⟩ (.map (some W.heap.size))).setCell ⟨b, 1, none⟩ (.map (some (W.heap.size + 1)))).alloc (.map #[] 0)).alloc (.map #[] 0)) := by
  obtain ⟨⟨kb, k, wb, w⟩, rfl, ⟨h1, h2⟩, ht⟩ := TabA.open_ h
  dsimp only at h1 h2
  obtain rfl : kb = none := by simpa using h1
  obtain rfl : wb = none := by simpa using h2
  obtain ⟨F1, F2, c, ⟨G1, G2, p, q, gd, gF⟩, hd, hF⟩ := ht
  have hk : k = [] := by
    obtain ⟨H1, H2, a, _⟩ := p
    have h2 : ptrs k = [] := a.1
    cases k with
    | nil => rfl
    | cons _ _ => cases h2
  have hw : w = [] := by
    have h2 : txts w = [] := q.1
    cases w with
    | nil => rfl
    | cons _ _ => cases h2
  subst hk hw
  refine ⟨CellsAt.cell c 0, CellsAt.cell c 1, CellsAt.frozen c, ?_⟩
  have hb : b < W.heap.size := World.block_lt_of_cell? _ _ (CellsAt.cell c 0)
  have ew : ((((W.setCell ⟨b, 0, none⟩ (.map (some W.heap.size))).setCell ⟨b, 1, none⟩ (.map (some (W.heap.size + 1)))).alloc (.map #[] 0)).alloc (.map #[] 0)) = ((((W.alloc (.map #[] 0)).alloc (.map #[] 0)).setCell ⟨b, 0, none⟩ (.map (some W.heap.size))).setCell ⟨b, 1, none⟩ (.map (some (W.heap.size + 1)))) := by
    rw [World.setCell_alloc_past _ _ _ _ (by simp; omega), World.setCell_alloc_past _ _ _ _ hb, World.setCell_alloc_past _ _ _ _ (by simp [World.setCell]; omega), World.setCell_alloc_past _ _ _ _ (by simpa [World.setCell] using hb)]
  rw [ew]
  have e2 : Eff0 W ((W.alloc (.map #[] 0)).alloc (.map #[] 0)) := ((Eff.refl _ _).alloc _).alloc _
  have n1 : (Sep (PMap keyStr EntAt (some W.heap.size) []) (MapPart keyInt (some (W.heap.size + 1)) (txts []))).on ((W.alloc (.map #[] 0)).alloc (.map #[] 0)) (fun k => k = W.heap.size ∨ k = W.heap.size + 1) := by
    obtain ⟨P, hP, hPk⟩ := PMap.made keyStr EntAt W
    have hP2 := HP.eff0 hP (((Eff.refl (fun _ => False) (W.alloc (.map #[] 0))).alloc (.map #[] 0)))
    have hs : (W.alloc (.map #[] 0)).heap.size = W.heap.size + 1 := by simp
    have m1 : MapAt keyInt ((W.alloc (.map #[] 0)).alloc (.map #[] 0)) (W.heap.size + 1) (txts []) := by
      have := MapAt.made keyInt (W.alloc (.map #[] 0))
      rwa [hs] at this
    have hPl : ∀ k, P k → k = W.heap.size := fun k hk => by
      have h1 := HP.lt _ hP hk
      have h2 := hPk k hk
      omega
    have hP3 : (PMap keyStr EntAt (some W.heap.size) []).on ((W.alloc (.map #[] 0)).alloc (.map #[] 0)) (fun k => k = W.heap.size) := by
      refine ⟨fun k => k = W.heap.size, fun _ => False, ⟨(MapAt.made keyStr W).move ?_, rfl, ?_⟩, fun _ h => h, fun _ _ h => h, fun k => by simp⟩
      · exact ((Eff.refl (fun _ => False) (W.alloc (.map #[] 0))).alloc (.map #[] 0)).block _ (by simp) id
      · rintro k rfl; simp; omega
    exact ⟨fun k => k = W.heap.size, fun k => k = W.heap.size + 1, hP3, ⟨m1, rfl, by rintro k rfl; simp⟩, fun k a b => by omega, fun k => Iff.rfl⟩
  have u1 : Upd W F1 (Sep (CellsAt b #[.map none, .map none] 28) (Sep (PMap keyStr EntAt (some W.heap.size) []) (MapPart keyInt (some (W.heap.size + 1)) (txts [])))) ((W.alloc (.map #[] 0)).alloc (.map #[] 0)) :=
    Upd.new c e2 n1 (fun k hk => by omega)
  have u2 := (u1.trans (fun G hG => Upd.left hG (fun G1 g1 => CellsAt.set g1 0 (.map (some W.heap.size))))).trans (fun G hG => Upd.left hG (fun G1 g1 => CellsAt.set g1 1 (.map (some (W.heap.size + 1)))))
  refine Upd.sub (u2.imp (fun G hG => TabA.mk (t := ⟨some W.heap.size, [], some (W.heap.size + 1), []⟩) ?_ rfl ⟨rfl, rfl⟩)) (fun k hk => (hF k).2 (.inl hk))
  exact Sep.imp hG (fun _ h => h) (fun _ h => h)
theorem txts_put (w : Ws) (tx : Int) (key : ByteArray) : L.put (txts w) tx (.string key) = txts (putK w tx key) := by
  unfold L.put putK
  have e : (L.look (txts w) tx).isSome = w.any (fun p => decide (p.1 = tx)) := by
    rw [look_txts]
    unfold waitF
    cases hf : w.find? (fun p => decide (p.1 = tx)) with
    | none => simpa using hf
    | some p =>
      have h1 := List.mem_of_find?_eq_some hf
      have h2 : p.1 = tx := by simpa using List.find?_some hf
      exact (List.any_eq_true.2 ⟨p, h1, by simpa using h2⟩).symm
  rw [e]
  split
  · unfold txts
    rw [List.map_map, List.map_map]
    refine List.map_congr_left (fun p _ => ?_)
    simp only [Function.comp_apply]
    split <;> rfl
  · unfold txts
    simp
theorem TabAt.putW {b m : Nat} {t : Tb} {W : World} {F : Nat → Prop} (h : (TabAt b t).on W F) (hm : t.wb = some m) (tx : Int) (key : ByteArray) : ∃ w', (Instr.mapUpdate 26 (.map (some m)) (.int .i64 tx) (.string key)).run Try.prog W = .ok () w' ∧ Upd W F (TabAt b { t with w := putK t.w tx key }) w' := by
  obtain ⟨kb, k, wb, w⟩ := t
  dsimp only at hm
  subst hm
  obtain ⟨F2, h2, k2, u2⟩ := Sep.focusR h
  obtain ⟨F3, h3, k3, u3⟩ := Sep.focusR h2
  obtain ⟨w', hrun, hM, hg, hs⟩ := h3.1.update (P := Try.prog) Try.underlying26 Try.underlying3 tx (.string key)
  rw [txts_put] at hM
  exact ⟨w', hrun, u2 _ _ (u3 _ _ (MapHP.upd (κ := keyInt) h3 hM hg))⟩
/-- An entry is made. -/
theorem TabAt.newK {b mk : Nat} {t : Tb} {W : World} {F : Nat → Prop} (h : (TabAt b t).on W F) (hm : t.kb = some mk) (key : ByteArray) (hg : getP t.k key = none) : ∃ w', (Instr.mapUpdate 25 (.map (some mk)) (.string key) (.pointer (some ⟨W.heap.size + 1, 0, none⟩))).run Try.prog ((W.alloc (.map #[] 0)).alloc (.cells #[.map (some W.heap.size), .slice none 0 0] 59)) = .ok () w' ∧ Upd W F (TabAt b { t with k := t.k ++ [(key, W.heap.size + 1, ⟨[], []⟩)] }) w' := by
  obtain ⟨kb, k, wb, w⟩ := t
  dsimp only at hm hg
  subst hm
  have e2 : Eff0 W ((W.alloc (.map #[] 0)).alloc (.cells #[.map (some W.heap.size), .slice none 0 0] 59)) := ((Eff.refl _ _).alloc _).alloc _
  have hs : (W.alloc (.map #[] 0)).heap.size = W.heap.size + 1 := by simp
  have n1 : (EntAt (W.heap.size + 1) ⟨[], []⟩).on ((W.alloc (.map #[] 0)).alloc (.cells #[.map (some W.heap.size), .slice none 0 0] 59)) (fun k => k = W.heap.size ∨ k = W.heap.size + 1) := by
    have hM : MapAt keyInt ((W.alloc (.map #[] 0)).alloc (.cells #[.map (some W.heap.size), .slice none 0 0] 59)) W.heap.size [] :=
      (MapAt.made keyInt W).move (((Eff.refl (fun _ => False) (W.alloc (.map #[] 0))).alloc _).block _ (by simp) id)
    have hC := heap_alloc_new (W.alloc (.map #[] 0)) (.cells #[.map (some W.heap.size), .slice none 0 0] 59)
    rw [hs] at hC
    refine ⟨(W.heap.size, .slice none 0 0), fun k => k = W.heap.size + 1, fun k => k = W.heap.size, ⟨hC, rfl, by rintro k rfl; simp⟩, ⟨fun k => k = W.heap.size, fun _ => False, ⟨hM, rfl, by rintro k rfl; simp; omega⟩, QAt.empty _, fun _ _ h => h, fun k => by simp⟩, fun k a b => by omega, fun k => Or.comm⟩
  have u1 : Upd W F (Sep (TabAt b ⟨some mk, k, wb, w⟩) (EntAt (W.heap.size + 1) ⟨[], []⟩)) ((W.alloc (.map #[] 0)).alloc (.cells #[.map (some W.heap.size), .slice none 0 0] 59)) := Upd.new h e2 n1 (fun k hk => by omega)
  obtain ⟨G, hG, _, lift⟩ := Upd.on_ u1
  have hG2 : (Sep (CellsAt b #[.map (some mk), .map wb] 28) (Sep (Sep (PMap keyStr EntAt (some mk) k) (EntAt (W.heap.size + 1) ⟨[], []⟩)) (MapPart keyInt wb (txts w)))).on ((W.alloc (.map #[] 0)).alloc (.cells #[.map (some W.heap.size), .slice none 0 0] 59)) G :=
    Sep.imp (Sep.assoc hG) (fun _ h => h) (fun _ h => sep_swap h)
  obtain ⟨F2, h2, k2, u2⟩ := Sep.focusR hG2
  obtain ⟨F3, h3, k3, u3⟩ := Sep.focus h2
  obtain ⟨w', hrun, u4⟩ := PMap.insert (P := Try.prog) (κ := keyStr) h3 hg Try.underlying25 Try.underlying9
  exact ⟨w', hrun, lift _ _ (u2 _ _ (u3 _ _ u4))⟩
theorem eqm (W : World) (a : Option Nat) : (binOp .eql 25 (.map a) (.map none)).run Try.prog W = .ok (.bool a.isNone) W := run_eql_map_nil W _ _ _ a Try.underlying25
theorem abs_newK {t : Tb} {key : ByteArray} (h : getP t.k key = none) (e : Nat) : absT { t with k := t.k ++ [(key, e, ⟨[], []⟩)] } = ⟨newK (absT t).k key, (absT t).w⟩ := by
  unfold newK
  rw [abs_get, h]
  unfold absT
  simp
end Go.Proofs.Ytlakklaaapfpeaa.LK
namespace Go.Proofs.Ytlakklaaapfpeaa.LK
open Go Go.RowKit Go.Proofs.YtlakklaaapfpeaaW.PrintWords Go.Proofs.YtlakklaaapfpeaaW.PrintLast Go.Proofs.YtlakklaaapfpeaaW.PrintMore Go.Proofs.Ytlakklaaapfpeaa.L
set_option linter.unusedVariables false
set_option linter.unusedSimpArgs false
variable {n : Bool} {W w : World} {F : Nat → Prop} {b : Nat} {s : St ByteArray}
/-! ### the table's calls, one behind the other -/
abbrev UT (W : World) (F : Nat → Prop) (b : Nat) (n : Bool) (s : St ByteArray) (w : World) : Prop := Aside0 (Upd W F (TabA b n s) w)
theorem u_settle (u : UT W F b n s w) (key : ByteArray) {x : Le} (hg : getK s.k key = some x) (hq : x.q.length < 900000) :
    Calls Try.prog 24 #[.pointer (some ⟨b, 0, none⟩), .string key] w fun e w' => e = .returned (.tuple #[]) ∧ UT W F b n (settleA s key) w' :=
  Upd.then_ (r := fun e => e = .returned (.tuple #[])) u.out (fun G h => settleA_calls b s w G key x h hg hq)
theorem u_stop (u : UT W F b n s w) (ho : Ok 899999 s) (tx : Int) :
    Calls Try.prog 14 #[.pointer (some ⟨b, 0, none⟩), .int .i64 tx] w fun e w' => e = .returned (.bool (waitK s.w tx).isSome) ∧ UT W F b n (stopA s tx) w' :=
  Upd.then_ (r := fun e => e = .returned (.bool (waitK s.w tx).isSome)) u.out (fun G h => stop_calls b s w G tx h ho)
theorem u_waits (u : UT W F b n s w) (tx : Int) :
    Calls Try.prog 17 #[.pointer (some ⟨b, 0, none⟩), .int .i64 tx] w fun e w' => e = .returned (.tuple #[.string ((waitK s.w tx).getD ⟨#[]⟩), .bool (waitK s.w tx).isSome]) ∧ w' = w := by
  obtain ⟨G, hG, _⟩ := Upd.on_ u.out
  exact waitsA_calls b s w G tx hG
theorem u_holds (u : UT W F b n s w) (tx : Int) (key : ByteArray) :
    Calls Try.prog 16 #[.pointer (some ⟨b, 0, none⟩), .int .i64 tx, .string key] w fun e w' => e = .returned (.int .i64 (holdsA s tx key)) ∧ w' = w := by
  obtain ⟨G, hG, _⟩ := Upd.on_ u.out
  exact holds_calls b s w G tx key hG
theorem u_again (u : UT W F b n s w) (ho : Ok 899999 s) (tx : Int) (key : ByteArray) (all : Bool) :
    Calls Try.prog 23 #[.pointer (some ⟨b, 0, none⟩), .int .i64 tx, .string key, .bool all] w fun e w' => e = .returned (.bool (againA s tx key all)) ∧ UT W F b n s w' :=
  Upd.then_ (r := fun e => e = .returned (.bool (againA s tx key all))) u.out (fun G h => (again_calls b s w G tx key all h ho).mono (fun e w' ⟨h1, h2⟩ => ⟨h1, Aside0.mk (Upd.same h h2)⟩))
theorem u_lookW (u : UT W F b true s w) (tx : Int) : ∃ m, w.cell? ⟨b, 1, none⟩ = some (.map (some m)) ∧ (Instr.lookup 26 (.map (some m)) (.int .i64 tx) true).run Try.prog w = .ok (.tuple #[.string ((waitK s.w tx).getD ⟨#[]⟩), .bool (waitK s.w tx).isSome]) w := by
  obtain ⟨G, hG, _⟩ := Upd.on_ u.out
  obtain ⟨t, rfl, ⟨_, hm⟩, ht⟩ := TabA.open_ hG
  obtain ⟨m, hm⟩ := Option.isSome_iff_exists.1 hm
  obtain ⟨_, c1, _⟩ := TabAt.facts ht
  have hL := TabAt.lookW ht tx
  rw [hm] at c1 hL
  exact ⟨m, c1, hL⟩
theorem u_putW (u : UT W F b true s w) (tx : Int) (key : ByteArray) : ∃ m w', w.cell? ⟨b, 1, none⟩ = some (.map (some m)) ∧ (Instr.mapUpdate 26 (.map (some m)) (.int .i64 tx) (.string key)).run Try.prog w = .ok () w' ∧ UT W F b true ⟨s.k, putK s.w tx key⟩ w' := by
  obtain ⟨G, hG, _, lift⟩ := Upd.on_ u.out
  obtain ⟨t, rfl, hk, ht⟩ := TabA.open_ hG
  obtain ⟨m, hm⟩ := Option.isSome_iff_exists.1 hk.2
  obtain ⟨_, c1, _⟩ := TabAt.facts ht
  obtain ⟨w', hrun, u2⟩ := TabAt.putW ht hm tx key
  rw [hm] at c1
  exact ⟨m, w', c1, hrun, Aside0.mk (lift _ _ (Upd.ab u2 rfl hk))⟩
/-- Is there an entry? .. or one is made. -/
theorem u_newK (u : UT W F b true s w) (key : ByteArray) : ∃ mk, w.cell? ⟨b, 0, none⟩ = some (.map (some mk)) ∧
    (((Instr.lookup 25 (.map (some mk)) (.string key) false).run Try.prog w = .ok (.pointer none) w ∧ ∃ w', (Instr.mapUpdate 25 (.map (some mk)) (.string key) (.pointer (some ⟨w.heap.size + 1, 0, none⟩))).run Try.prog ((w.alloc (.map #[] 0)).alloc (.cells #[.map (some w.heap.size), .slice none 0 0] 59)) = .ok () w' ∧ UT W F b true ⟨newK s.k key, s.w⟩ w') ∨
     ∃ eb, (Instr.lookup 25 (.map (some mk)) (.string key) false).run Try.prog w = .ok (.pointer (some ⟨eb, 0, none⟩)) w ∧ UT W F b true ⟨newK s.k key, s.w⟩ w) := by
  obtain ⟨G, hG, _, lift⟩ := Upd.on_ u.out
  obtain ⟨t, rfl, hk, ht⟩ := TabA.open_ hG
  obtain ⟨mk, hm⟩ := Option.isSome_iff_exists.1 hk.1
  obtain ⟨c0, _⟩ := TabAt.facts ht
  have hL := TabAt.lookK ht key
  rw [hm] at c0 hL
  refine ⟨mk, c0, ?_⟩
  cases hg : getP t.k key with
  | none =>
    rw [hg] at hL
    obtain ⟨w', hrun, u2⟩ := TabAt.newK ht hm key hg
    exact .inl ⟨hL, w', hrun, Aside0.mk (lift _ _ (Upd.ab u2 (abs_newK hg _) hk))⟩
  | some p =>
    obtain ⟨eb, x⟩ := p
    rw [hg] at hL
    refine .inr ⟨eb, hL, ?_⟩
    have e : newK (absT t).k key = (absT t).k := by
      unfold newK
      rw [abs_get, hg]
      simp
    rw [e]
    exact u
/-- .. and one more waits there. -/
theorem u_add (u : UT W F b true s w) (key : ByteArray) {x : Le} (hg : getK s.k key = some x) (hq : x.q.length < 900000) (t : Wt) : ∃ mk eb, w.cell? ⟨b, 0, none⟩ = some (.map (some mk)) ∧ (Instr.lookup 25 (.map (some mk)) (.string key) false).run Try.prog w = .ok (.pointer (some ⟨eb, 0, none⟩)) w ∧
    Calls Try.prog 25 #[.pointer (some ⟨eb, 0, none⟩), .agg #[.int .i64 t.tx, .bool t.all, .bool t.own]] w fun e w' => e = .returned (.tuple #[]) ∧ UT W F b true ⟨setK s.k key ⟨x.h, addF t x.q⟩, s.w⟩ w' := by
  obtain ⟨G, hG, _, lift⟩ := Upd.on_ u.out
  obtain ⟨tb, rfl, hk, ht⟩ := TabA.open_ hG
  obtain ⟨mk, hm⟩ := Option.isSome_iff_exists.1 hk.1
  obtain ⟨c0, _⟩ := TabAt.facts ht
  have hL := TabAt.lookK ht key
  obtain ⟨eb, hg2⟩ := abs_some hg
  rw [hg2, hm] at hL
  rw [hm] at c0
  obtain ⟨F1, hE, hF1, lift2⟩ := TabAt.focus0 ht hg2
  refine ⟨mk, eb, c0, hL, (add_calls eb x t w F1 hE hq).mono ?_⟩
  rintro e w' ⟨rfl, U⟩
  refine ⟨rfl, Aside0.mk (lift _ _ (Upd.ab (lift2 _ _ U.out) ?_ hk))⟩
  unfold absT
  dsimp only
  rw [abs_set]
end Go.Proofs.Ytlakklaaapfpeaa.LK
namespace Go.Proofs.Ytlakklaaapfpeaa.LK
open Go Go.RowKit Go.Proofs.YtlakklaaapfpeaaW.PrintWords Go.Proofs.YtlakklaaapfpeaaW.PrintLast Go.Proofs.YtlakklaaapfpeaaW.PrintMore Go.Proofs.Ytlakklaaapfpeaa.L
set_option linter.unusedVariables false
set_option linter.unusedSimpArgs false
variable {n : Bool} {W w : World} {F : Nat → Prop} {b : Nat} {s : St ByteArray}
theorem Ok.ex {N : Nat} {s : St ByteArray} (ho : Ok N s) {tx : Int} {key : ByteArray} (hw : waitK s.w tx = some key) : ∃ x, getK s.k key = some x ∧ x.q.length ≤ N := by
  obtain ⟨x, hg, _⟩ := ho.q _ (waitK_mem hw)
  exact ⟨x, hg, ho.l _ (getK_mem hg)⟩
theorem newP {k : List (ByteArray × Le)} {key : ByteArray} {ws : List (Int × ByteArray)} (h : ∃ mk, w.cell? ⟨b, 0, none⟩ = some (.map (some mk)) ∧
    (((Instr.lookup 25 (.map (some mk)) (.string key) false).run Try.prog w = .ok (.pointer none) w ∧ ∃ w', (Instr.mapUpdate 25 (.map (some mk)) (.string key) (.pointer (some ⟨w.heap.size + 1, 0, none⟩))).run Try.prog ((w.alloc (.map #[] 0)).alloc (.cells #[.map (some w.heap.size), .slice none 0 0] 59)) = .ok () w' ∧ UT W F b true ⟨k, ws⟩ w') ∨
     ∃ eb, (Instr.lookup 25 (.map (some mk)) (.string key) false).run Try.prog w = .ok (.pointer (some ⟨eb, 0, none⟩)) w ∧ UT W F b true ⟨k, ws⟩ w)) :
    ∃ mk pv, w.cell? ⟨b, 0, none⟩ = some (.map (some mk)) ∧ (Instr.lookup 25 (.map (some mk)) (.string key) false).run Try.prog w = .ok (.pointer pv) w ∧
      ((pv = none ∧ ∃ w', (Instr.mapUpdate 25 (.map (some mk)) (.string key) (.pointer (some ⟨w.heap.size + 1, 0, none⟩))).run Try.prog ((w.alloc (.map #[] 0)).alloc (.cells #[.map (some w.heap.size), .slice none 0 0] 59)) = .ok () w' ∧ UT W F b true ⟨k, ws⟩ w') ∨
       ∃ eb, pv = some ⟨eb, 0, none⟩ ∧ UT W F b true ⟨k, ws⟩ w) := by
  obtain ⟨mk, c0, h | ⟨eb, h1, h2⟩⟩ := h
  · exact ⟨mk, none, c0, h.1, .inl ⟨rfl, h.2⟩⟩
  · exact ⟨mk, _, c0, h1, .inr ⟨eb, rfl, h2⟩⟩
set_option maxHeartbeats 1600000 in
set_option maxRecDepth 100000 in
theorem ask_calls (b : Nat) (s : St ByteArray) (W : World) (F : Nat → Prop) (tx : Int) (key : ByteArray) (all : Bool) (h : (TabA b n s).on W F) (ho : Ok 899998 s) :
    Calls Try.prog 13 #[.pointer (some ⟨b, 0, none⟩), .int .i64 tx, .string key, .bool all] W fun e w' => e = .returned (.bool (askA s tx key all).2) ∧ UT W F b true (askA s tx key all).1 w' := by
  have HO := Aside0.mk ho
  clear ho
  have H := Aside0.mk h
  obtain ⟨kb, c0, hn⟩ : ∃ kb, W.cell? ⟨b, 0, none⟩ = some (.map kb) ∧ kb.isNone = !n := by
    obtain ⟨t, _, ⟨h1, _⟩, ht⟩ := TabA.open_ h
    exact ⟨t.kb, (TabAt.facts ht).1, by rw [← h1]; cases t.kb <;> rfl⟩
  have hE := eqm W kb
  rw [hn] at hE
  clear h
  have HN := Aside0.mk hn
  clear hn
  go_enter Try.func13, Try.ntmps13
  go_upto_if 18 with (fail)
  go_cut [] (fun wx => UT W F b true s wx)
  case first =>
    cases n with
    | false =>
      clear c0 hE
      obtain ⟨c0, c1, f, U⟩ := TabA.make H.out
      have hlt := World.block_lt_of_cell? _ _ c0
      have f0 := f 0
      have f1 := f 1
      clear f
      have HU := Aside0.mk U
      clear U
      have hmm := @run_makeMap Try.prog
      go_wp2
      go_meet
      case rel => exact HU
    | true =>
      go_wp2
      go_meet
      case rel => exact Aside0.mk (Upd.same H.out (Eff.refl _ _))
  case rest =>
    have U1 := hcut
    clear hcut H c0 hE HN
    cases hag : againA s tx key all with
    | true =>
      have hw : waitK s.w tx = some key := by
        unfold againA at hag
        simp only [Bool.and_eq_true, decide_eq_true_eq] at hag
        exact hag.1
      obtain ⟨x, hg, hq⟩ := Ok.ex HO.out hw
      have CA := Aside0.mk (fun w (u : UT W F b true s w) => u_again u (HO.out.mono (by omega)) tx key all)
      rw [hag] at CA
      have CS := Aside0.mk (fun w (u : UT W F b true s w) => u_settle u key hg (by omega))
      have CA2 := Aside0.mk (fun w (u : UT W F b true (settleA s key) w) => u_again u ((HO.out.settle key).mono (by omega)) tx key all)
      have HR := Aside0.mk (show askA s tx key all = (settleA s key, !againA (settleA s key) tx key all) by unfold askA; rw [if_pos hag])
      clear hag hw hg hq
      generalize againA (settleA s key) tx key all = r at *
      go_wp2_with (go_at_call 23; refine (CA.out _ U1).mono ?_; rintro e w2 ⟨rfl, U2⟩; clear U1)
      go_wp2_with (go_at_call 24; refine (CS.out _ U2).mono ?_; rintro e w3 ⟨rfl, U3⟩; clear U2)
      go_wp2_with (go_at_call 23; refine (CA2.out _ U3).mono ?_; rintro e w4 ⟨rfl, U4⟩; clear U3)
      go_ret
      rw [HR.out]
      exact ⟨rfl, U4⟩
    | false =>
      have CA := Aside0.mk (fun w (u : UT W F b true s w) => u_again u (HO.out.mono (by omega)) tx key all)
      rw [hag] at CA
      have CT := Aside0.mk (fun w (u : UT W F b true s w) => u_stop u (HO.out.mono (by omega)) tx)
      have HO1 := Aside0.mk (HO.out.stop tx)
      have CH := Aside0.mk (fun w (u : UT W F b true (stopA s tx) w) => u_holds u tx key)
      have HR := Aside0.mk (show askA s tx key all = if holdsA (stopA s tx) tx key = 2 ∨ (holdsA (stopA s tx) tx key = 1 ∧ all = false) then (stopA s tx, true) else (settleA (joinA (stopA s tx) tx key all (holdsA (stopA s tx) tx key == 1)) key, (waitK (settleA (joinA (stopA s tx) tx key all (holdsA (stopA s tx) tx key == 1)) key).w tx).isNone) by unfold askA; rw [hag]; rfl)
      clear hag HO
      generalize (waitK s.w tx).isSome = r1 at *
      generalize stopA s tx = s1 at *
      generalize holdsA s1 tx key = hw at *
      go_wp2_with (go_at_call 23; refine (CA.out _ U1).mono ?_; rintro e w2 ⟨rfl, U2⟩; clear U1)
      go_wp2_with (go_at_call 14; refine (CT.out _ U2).mono ?_; rintro e w3 ⟨rfl, U3⟩; clear U2)
      by_cases h2 : hw = 2
      · subst h2
        have HR2 := Aside0.mk (show askA s tx key all = (s1, true) by rw [HR.out]; simp)
        go_wp2_with (go_at_call 16; refine (CH.out _ U3).mono ?_; rintro e w4 ⟨rfl, rfl⟩)
        go_ret
        rw [HR2.out]
        exact ⟨rfl, U3⟩
      by_cases h1 : hw = 1
      · subst h1
        cases all with
        | false =>
          have HR2 := Aside0.mk (show askA s tx key false = (s1, true) by rw [HR.out]; simp)
          go_wp2_with (go_at_call 16; refine (CH.out _ U3).mono ?_; rintro e w4 ⟨rfl, rfl⟩)
          go_ret
          rw [HR2.out]
          exact ⟨rfl, U3⟩
        | true =>
          clear h2
          have HR2 := Aside0.mk (show askA s tx key true = (settleA (joinA s1 tx key true true) key, (waitK (settleA (joinA s1 tx key true true) key).w tx).isNone) by rw [HR.out]; simp)
          clear HR CA CT
          go_upto_region 12 with (go_at_call 16; refine (CH.out _ U3).mono ?_; rintro e w4 ⟨rfl, rfl⟩)
          obtain ⟨mk, pv, c0, hL, hK⟩ := newP (u_newK U3 key)
          have hm0 := @run_makeMap Try.prog
          have hgn : getK (newK s1.k key) key = some ((getK s1.k key).getD ⟨[], []⟩) := by rw [getK_newK, if_pos rfl]
          have hqn : ((getK s1.k key).getD ⟨[], []⟩).q.length ≤ 899998 := by
            cases hx : getK s1.k key with
            | none => exact Nat.zero_le _
            | some x => exact HO1.out.l _ (getK_mem hx)
          have HJ := Aside0.mk (show joinA s1 tx key true true = ⟨setK (newK s1.k key) key ⟨((getK s1.k key).getD ⟨[], []⟩).h, addF ⟨tx, true, true⟩ ((getK s1.k key).getD ⟨[], []⟩).q⟩, putK s1.w tx key⟩ by unfold joinA; rw [hgn])
          generalize (getK s1.k key).getD ⟨[], []⟩ = x at *
          have HX := Aside0.mk (And.intro hgn hqn)
          have HK := Aside0.mk hK
          clear hgn hqn hK
          go_upto_if 64 with (fail)
          go_cut [] (fun wx => UT W F b true ⟨newK s1.k key, s1.w⟩ wx)
          case first =>
            clear U3
            rcases HK.out with ⟨rfl, w5, hrun, U5⟩ | ⟨eb, rfl, U5⟩
            · go_wp2
              go_meet
              case rel => exact U5
            · go_wp2
              go_meet
              case rel => exact U5
          case rest =>
            have U4 := hcut
            clear hcut HK hL c0 U3
            obtain ⟨mk2, eb, c0, hL, CA⟩ := u_add U4 key HX.out.1 (by have := HX.out.2; omega) ⟨tx, true, true⟩
            have HCA := Aside0.mk CA
            have hgs : getK (joinA s1 tx key true true).k key = some ⟨x.h, addF ⟨tx, true, true⟩ x.q⟩ := by rw [HJ.out]; dsimp only; rw [getK_setK, HX.out.1]; simp
            have hqs : (addF ⟨tx, true, true⟩ x.q).length < 900000 := by rw [addF_len]; have := HX.out.2; omega
            have CS := Aside0.mk (fun w (u : UT W F b true (joinA s1 tx key true true) w) => u_settle u key hgs hqs)
            clear hgs hqs CA
            go_upto_region 15 with (go_at_call 25; refine HCA.out.mono ?_; rintro e w5 ⟨rfl, U5⟩)
            clear hL c0 HCA U4
            obtain ⟨m, w6, c1, hrun, U6⟩ := u_putW U5 tx key
            have U7 : UT W F b true (joinA s1 tx key true true) w6 := by rw [HJ.out]; exact U6
            clear U5 U6
            go_wp2_with (go_at_call 24; refine (CS.out _ U7).mono ?_; rintro e w7 ⟨rfl, U8⟩; clear c1 hrun U7; obtain ⟨m2, c1, hLW⟩ := u_lookW U8 tx)
            go_ret
            rw [HR2.out]
            refine ⟨?_, U8⟩
            rfl
      · have n1 : (hw == 2) = false := beq_eq_false_iff_ne.2 h2
        have n2 : (hw = 2) = False := eq_false h2
        have n3 : (hw = 1) = False := eq_false h1
        have n4 : (hw == 1) = false := beq_eq_false_iff_ne.2 h1
        clear h2 h1
        have HR2 := Aside0.mk (show askA s tx key all = (settleA (joinA s1 tx key all false) key, (waitK (settleA (joinA s1 tx key all false) key).w tx).isNone) by rw [HR.out]; simp [n2, n3, n4])
        clear HR CA CT
        go_upto_region 12 with (go_at_call 16; refine (CH.out _ U3).mono ?_; rintro e w4 ⟨rfl, rfl⟩)
        obtain ⟨mk, pv, c0, hL, hK⟩ := newP (u_newK U3 key)
        have hm0 := @run_makeMap Try.prog
        have hgn : getK (newK s1.k key) key = some ((getK s1.k key).getD ⟨[], []⟩) := by rw [getK_newK, if_pos rfl]
        have hqn : ((getK s1.k key).getD ⟨[], []⟩).q.length ≤ 899998 := by
          cases hx : getK s1.k key with
          | none => exact Nat.zero_le _
          | some x => exact HO1.out.l _ (getK_mem hx)
        have HJ := Aside0.mk (show joinA s1 tx key all false = ⟨setK (newK s1.k key) key ⟨((getK s1.k key).getD ⟨[], []⟩).h, addF ⟨tx, all, false⟩ ((getK s1.k key).getD ⟨[], []⟩).q⟩, putK s1.w tx key⟩ by unfold joinA; rw [hgn])
        generalize (getK s1.k key).getD ⟨[], []⟩ = x at *
        have HX := Aside0.mk (And.intro hgn hqn)
        have HK := Aside0.mk hK
        clear hgn hqn hK
        go_upto_if 64 with (fail)
        go_cut [] (fun wx => UT W F b true ⟨newK s1.k key, s1.w⟩ wx)
        case first =>
          clear U3
          rcases HK.out with ⟨rfl, w5, hrun, U5⟩ | ⟨eb, rfl, U5⟩
          · go_wp2
            go_meet
            case rel => exact U5
          · go_wp2
            go_meet
            case rel => exact U5
        case rest =>
          have U4 := hcut
          clear hcut HK hL c0 U3
          obtain ⟨mk2, eb, c0, hL, CA⟩ := u_add U4 key HX.out.1 (by have := HX.out.2; omega) ⟨tx, all, false⟩
          have HCA := Aside0.mk CA
          have hgs : getK (joinA s1 tx key all false).k key = some ⟨x.h, addF ⟨tx, all, false⟩ x.q⟩ := by rw [HJ.out]; dsimp only; rw [getK_setK, HX.out.1]; simp
          have hqs : (addF ⟨tx, all, false⟩ x.q).length < 900000 := by rw [addF_len]; have := HX.out.2; omega
          have CS := Aside0.mk (fun w (u : UT W F b true (joinA s1 tx key all false) w) => u_settle u key hgs hqs)
          clear hgs hqs CA
          go_upto_region 15 with (go_at_call 25; refine HCA.out.mono ?_; rintro e w5 ⟨rfl, U5⟩)
          clear hL c0 HCA U4
          obtain ⟨m, w6, c1, hrun, U6⟩ := u_putW U5 tx key
          have U7 : UT W F b true (joinA s1 tx key all false) w6 := by rw [HJ.out]; exact U6
          clear U5 U6
          go_wp2_with (go_at_call 24; refine (CS.out _ U7).mono ?_; rintro e w7 ⟨rfl, U8⟩; clear c1 hrun U7; obtain ⟨m2, c1, hLW⟩ := u_lookW U8 tx)
          go_ret
          rw [HR2.out]
          refine ⟨?_, U8⟩
          rfl
end Go.Proofs.Ytlakklaaapfpeaa.LK
