/- Keys are locked by themselves: one that waits for a key waits for nobody that has others (LockKeys). Conditions: none beyond the given row's own. -/
import Derived.Test.YtlakklaaapfpeaaProg
import Derived.BigRegion
import Derived.BigQuiet
import Derived.Deep.QuietTactic
import Derived.Deep.AppendLies
import Derived.ChangeAlike
import Derived.Outline
import Derived.WalkKit
import Derived.KernelRfl
import Derived.Deep.LoopGhost
import Derived.Deep.RegionLaw
import Derived.Test.YtlakklaaapfpeaaWMore
import Derived.Test.YtlakklaaapfpeaaWKept
import Derived.Test.YtlakklaaapfpeaaLSep
import Derived.Test.YtlakklaaapfpeaaMx
import Derived.Test.YtlakklaaapfpeaaK4
namespace Go.Proofs.Ytlakklaaapfpeaa.Pure
open Go Go.RowKit Go.Proofs.YtlakklaaapfpeaaW.PrintWords Go.Proofs.YtlakklaaapfpeaaW.PrintLast Go.Proofs.YtlakklaaapfpeaaW.PrintMore Go.Proofs.Ytlakklaaapfpeaa.L Go.Proofs.Ytlakklaaapfpeaa.M Go.Proofs.Ytlakklaaapfpeaa.LK
set_option linter.unusedVariables false
set_option linter.unusedSimpArgs false
section
variable {K : Type} [DecidableEq K]
set_option linter.unusedSectionVars false
/-- A key is known. -/
def inK (l : List K) (key : K) : Bool := l.any (fun x => decide (x = key))
theorem inK_iff {l : List K} {key : K} : inK l key = true ↔ key ∈ l := by
  unfold inK
  rw [List.any_eq_true]
  constructor
  · rintro ⟨x, hx, e⟩
    have : x = key := by simpa using e
    rw [← this]; exact hx
  · intro h
    exact ⟨key, h, by simp⟩
theorem inK_not {l : List K} {key : K} (h : key ∉ l) : inK l key = false := by
  cases hk : inK l key with
  | false => rfl
  | true => exact absurd (inK_iff.1 hk) h
def addK (l : List K) (key : K) : List K := if inK l key = true then l else l ++ [key]
theorem addK_in {l : List K} {key : K} (h : key ∈ l) : addK l key = l := by unfold addK; rw [if_pos (inK_iff.2 h)]
theorem addK_not {l : List K} {key : K} (h : key ∉ l) : addK l key = l ++ [key] := by unfold addK; rw [inK_not h]; rfl
abbrev keysK (s : St K) : List K := s.k.map (·.1)
theorem getK_none {l : List (K × Le)} {key : K} : getK l key = none ↔ key ∉ l.map (·.1) := by
  unfold getK
  rw [Option.map_eq_none_iff, List.find?_eq_none]
  constructor
  · intro h hm
    obtain ⟨p, hp, e⟩ := List.mem_map.1 hm
    exact h p hp (by simpa using e)
  · intro h p hp
    simp only [decide_eq_true_eq]
    exact fun e => h (List.mem_map.2 ⟨p, hp, e⟩)
theorem wait_none {w : List (Int × K)} {tx : Int} (h : ∀ p ∈ w, p.1 ≠ tx) : waitK w tx = none := by
  unfold waitK
  rw [List.find?_eq_none.2 (fun p hp => by simpa using h p hp)]
  rfl
theorem getI_none {h : List (Int × Int)} {tx : Int} (hh : ∀ p ∈ h, p.1 ≠ tx) : getI h tx = 0 := by
  unfold getI
  rw [List.find?_eq_none.2 (fun p hp => by simpa using hh p hp)]
  rfl
theorem putK_new {w : List (Int × K)} {tx : Int} (h : ∀ p ∈ w, p.1 ≠ tx) (key : K) : putK w tx key = w ++ [(tx, key)] := by
  unfold putK
  rw [if_neg]
  intro e
  obtain ⟨p, hp, e⟩ := List.any_eq_true.1 e
  exact h p hp (by simpa using e)
theorem addF_end (tx : Int) (all : Bool) (q : List Wt) : addF ⟨tx, all, false⟩ q = q ++ [⟨tx, all, false⟩] := by
  unfold addF placeF
  simp
/-- Nobody knows of the transaction. -/
def New (s : St K) (tx : Int) : Prop := (∀ p ∈ s.w, p.1 ≠ tx) ∧ ∀ p ∈ s.k, ∀ q ∈ p.2.h, q.1 ≠ tx
theorem holds_new {s : St K} {tx : Int} (h : New s tx) (key : K) : holdsA s tx key = 0 := by
  unfold holdsA
  cases hg : getK s.k key with
  | none => rfl
  | some x => exact getI_none (h.2 _ (getK_mem hg))
theorem ask_new {s : St K} {tx : Int} (h : New s tx) (key : K) (all : Bool) : askA s tx key all = (settleA (joinA s tx key all false) key, (waitK (settleA (joinA s tx key all false) key).w tx).isNone) := by
  have e1 : againA s tx key all = false := by
    unfold againA
    rw [wait_none h.1]
    rfl
  have e2 : stopA s tx = s := by
    unfold stopA
    rw [wait_none h.1]
  unfold askA
  rw [e1, e2, holds_new h]
  rfl
theorem set_new {l : List (K × Le)} {key : K} (h : key ∉ l.map (·.1)) (x y : Le) : setK (l ++ [(key, x)]) key y = l ++ [(key, y)] := by
  unfold setK
  rw [List.map_append]
  congr 1
  · refine (List.map_congr_left (fun p hp => ?_)).trans (List.map_id _)
    rw [if_neg (fun e => h (List.mem_map.2 ⟨p, hp, e⟩))]
    rfl
  · simp
theorem join_absent {s : St K} {key : K} (h : key ∉ keysK s) (tx : Int) (all : Bool) : joinA s tx key all false = ⟨s.k ++ [(key, ⟨[], [⟨tx, all, false⟩]⟩)], putK s.w tx key⟩ := by
  have hg := getK_none.2 h
  have hn : newK s.k key = s.k ++ [(key, ⟨[], []⟩)] := by unfold newK; rw [hg]; rfl
  have h2 := getK_newK s.k key key
  rw [if_pos rfl, hg, hn] at h2
  unfold joinA
  rw [hn, h2]
  dsimp only [Option.getD_none]
  rw [set_new h, addF_end]
  rfl
theorem join_there {s : St K} {key : K} {x : Le} (h : getK s.k key = some x) (tx : Int) (all : Bool) : joinA s tx key all false = ⟨setK s.k key ⟨x.h, x.q ++ [⟨tx, all, false⟩]⟩, putK s.w tx key⟩ := by
  have hn : newK s.k key = s.k := by unfold newK; rw [h]; rfl
  unfold joinA
  rw [hn, h]
  dsimp only
  rw [addF_end]
theorem off_new {w : List (Int × K)} {tx : Int} (h : ∀ p ∈ w, p.1 ≠ tx) (key : K) : offK (w ++ [(tx, key)]) [tx] = w := by
  unfold offK
  rw [List.filter_append, List.filter_eq_self.2 (fun p hp => by simpa using h p hp)]
  simp
theorem off_nil (w : List (Int × K)) : offK w [] = w := by
  unfold offK
  simp
theorem wait_last {w : List (Int × K)} {tx : Int} (h : ∀ p ∈ w, p.1 ≠ tx) (key : K) : waitK (w ++ [(tx, key)]) tx = some key := by
  unfold waitK
  rw [List.find?_append, List.find?_eq_none.2 (fun p hp => by simpa using h p hp)]
  simp
/-- A key that nobody asked for is had at once. -/
theorem ask_absent {s : St K} {tx : Int} (h : New s tx) {key : K} (hk : key ∉ keysK s) (all : Bool) : askA s tx key all = (⟨s.k ++ [(key, ⟨[(tx, cond all 2 1)], []⟩)], s.w⟩, true) := by
  have hg2 : getK (s.k ++ [(key, (⟨[], [⟨tx, all, false⟩]⟩ : Le))]) key = some ⟨[], [⟨tx, all, false⟩]⟩ := by
    unfold getK
    rw [List.find?_append, List.find?_eq_none.2 (fun p hp => by simpa using fun e => hk (List.mem_map.2 ⟨p, hp, e⟩))]
    simp
  have hgr : grantF [] [⟨tx, all, false⟩] = ([(tx, cond all 2 1)], [], [tx]) := by
    cases all <;> simp [grantF, mayB, putI, getI]
  have e : settleA (joinA s tx key all false) key = ⟨s.k ++ [(key, ⟨[(tx, cond all 2 1)], []⟩)], s.w⟩ := by
    rw [join_absent hk]
    unfold settleA
    dsimp only
    rw [hg2]
    dsimp only
    rw [hgr]
    dsimp only
    rw [if_neg (by simp), set_new hk, putK_new h.1, off_new h.1]
  rw [ask_new h, e]
  dsimp only
  rw [wait_none h.1]
  rfl
/-- Of a key that others share one has a share. -/
theorem ask_share {s : St K} {tx : Int} (h : New s tx) {key : K} {hh : List (Int × Int)} (hk : getK s.k key = some ⟨hh, []⟩) (h1 : ∀ p ∈ hh, p.2 = 1) : askA s tx key false = (⟨setK s.k key ⟨hh ++ [(tx, 1)], []⟩, s.w⟩, true) := by
  have hnew := h.2 _ (getK_mem hk)
  have hgr : grantF hh [⟨tx, false, false⟩] = (hh ++ [(tx, 1)], [], [tx]) := by
    have hm : mayB hh ⟨tx, false, false⟩ = true := by
      unfold mayB okP
      rw [List.all_eq_true]
      intro p hp
      simp [h1 p hp]
    have hp : putI hh tx 1 = hh ++ [(tx, 1)] := by
      unfold putI
      rw [if_neg]
      intro e
      obtain ⟨p, hp, e⟩ := List.any_eq_true.1 e
      exact hnew p hp (by simpa using e)
    have hg0 : getI hh tx = 0 := getI_none hnew
    unfold grantF
    rw [if_pos hm]
    simp [grantF, hg0, hp]
  have e : settleA (joinA s tx key false false) key = ⟨setK s.k key ⟨hh ++ [(tx, 1)], []⟩, s.w⟩ := by
    rw [join_there hk]
    unfold settleA
    dsimp only
    rw [getK_setK, hk]
    simp only [Option.map_some, if_true, List.nil_append]
    rw [hgr]
    dsimp only
    rw [if_neg (by simp), setK_setK, putK_new h.1, off_new h.1]
  rw [ask_new h, e]
  dsimp only
  rw [wait_none h.1]
  rfl
/-- For a key that one has alone others wait. -/
theorem ask_wait {s : St K} {tx : Int} (h : New s tx) {key : K} {j : Int} {q : List Wt} (hk : getK s.k key = some ⟨[(j, 2)], q⟩) (hj : tx ≠ j) (hq : ∀ t ∈ q, t.tx ≠ j) : askA s tx key true = (⟨setK s.k key ⟨[(j, 2)], q ++ [⟨tx, true, false⟩]⟩, s.w ++ [(tx, key)]⟩, false) := by
  have hgr : grantF [(j, 2)] (q ++ [⟨tx, true, false⟩]) = ([(j, 2)], q ++ [⟨tx, true, false⟩], []) := by
    have hm : ∀ t : Wt, t.tx ≠ j → mayB [(j, 2)] t = false := fun t ht => by
      simp [mayB, okP, Ne.symm ht]
    cases q with
    | nil =>
      rw [List.nil_append]
      unfold grantF
      rw [hm _ hj]
      simp
    | cons a q =>
      rw [List.cons_append]
      unfold grantF
      rw [hm _ (hq a List.mem_cons_self)]
      simp
  have e : settleA (joinA s tx key true false) key = ⟨setK s.k key ⟨[(j, 2)], q ++ [⟨tx, true, false⟩]⟩, s.w ++ [(tx, key)]⟩ := by
    rw [join_there hk]
    unfold settleA
    dsimp only
    rw [getK_setK, hk]
    simp only [Option.map_some, if_true]
    rw [hgr]
    dsimp only
    rw [if_neg (by simp), setK_setK, putK_new h.1, off_nil]
  rw [ask_new h, e]
  dsimp only
  rw [wait_last h.1]
  rfl
theorem keys_set (l : List (K × Le)) (key : K) (x : Le) : (setK l key x).map (·.1) = l.map (·.1) := keys_setK l key x
theorem mem_setK {l : List (K × Le)} {key : K} {x : Le} {p : K × Le} (h : p ∈ setK l key x) : p.2 = x ∨ p ∈ l := by
  unfold setK at h
  obtain ⟨q, hq, rfl⟩ := List.mem_map.1 h
  split
  · exact .inl rfl
  · exact .inr hq
/-- Behind i that asked, to share: all share, nobody waits. -/
structure InvS (s : St K) (i : Nat) : Prop where
  k : ∀ p ∈ s.k, p.2.q = [] ∧ ∀ q ∈ p.2.h, q.2 = 1 ∧ q.1 ≤ i
  w : s.w = []
theorem InvS.step {s : St K} {i : Nat} (h : InvS s i) (key : K) : ∃ s', askA s ((i : Int) + 1) key false = (s', true) ∧ InvS s' (i + 1) ∧ keysK s' = addK (keysK s) key := by
  have hn : New s ((i : Int) + 1) := ⟨fun p hp => (by rw [h.w] at hp; cases hp), fun p hp q hq => by have := ((h.k p hp).2 q hq).2; omega⟩
  by_cases hk : key ∈ keysK s
  · cases hg : getK s.k key with
    | none => exact absurd hk (getK_none.1 hg)
    | some x =>
      obtain ⟨hh, q⟩ := x
      have hx := h.k _ (getK_mem hg)
      dsimp only at hx
      obtain ⟨rfl, hx2⟩ := hx
      refine ⟨_, ask_share hn hg (fun p hp => (hx2 p hp).1), ⟨fun p hp => ?_, h.w⟩, ?_⟩
      · rcases mem_setK hp with e | hp
        · rw [e]
          refine ⟨rfl, fun q hq => ?_⟩
          rcases List.mem_append.1 hq with hq | hq
          · have := hx2 q hq; exact ⟨this.1, by have := this.2; push_cast; omega⟩
          · rw [List.mem_singleton.1 hq]; exact ⟨rfl, by push_cast; omega⟩
        · have := h.k p hp
          exact ⟨this.1, fun q hq => ⟨(this.2 q hq).1, by have := (this.2 q hq).2; push_cast; omega⟩⟩
      · rw [addK_in hk]
        exact keys_set _ _ _
  · refine ⟨_, ask_absent hn hk false, ⟨fun p hp => ?_, h.w⟩, ?_⟩
    · rcases List.mem_append.1 hp with hp | hp
      · have := h.k p hp
        exact ⟨this.1, fun q hq => ⟨(this.2 q hq).1, by have := (this.2 q hq).2; push_cast; omega⟩⟩
      · rw [List.mem_singleton.1 hp]
        refine ⟨rfl, fun q hq => ?_⟩
        rw [List.mem_singleton.1 hq]
        exact ⟨rfl, by push_cast; omega⟩
    · rw [addK_not hk]
      unfold keysK
      rw [List.map_append]
      rfl
theorem InvS.pairs {s : St K} {i : Nat} (h : InvS s i) : pairsA s = [] := by
  unfold pairsA
  rw [List.flatMap_eq_nil_iff]
  intro p hp
  unfold pairsQ
  rw [(h.k p hp).1]
  rfl
/-- Behind i that asked for all of a key: each key is one's alone. -/
structure InvA (s : St K) (i : Nat) : Prop where
  k : ∀ p ∈ s.k, ∃ j : Int, p.2.h = [(j, 2)] ∧ 1 ≤ j ∧ j ≤ i ∧ ∀ t ∈ p.2.q, t.tx ≠ j
  w : ∀ p ∈ s.w, p.1 ≤ i
theorem InvA.step {s : St K} {i : Nat} (h : InvA s i) (key : K) : ∃ s', askA s ((i : Int) + 1) key true = (s', !inK (keysK s) key) ∧ InvA s' (i + 1) ∧ keysK s' = addK (keysK s) key := by
  have hn : New s ((i : Int) + 1) := ⟨fun p hp => (by have := h.w p hp; omega), fun p hp q hq => by
    obtain ⟨j, hj, _, hji, _⟩ := h.k p hp
    rw [hj] at hq
    rw [List.mem_singleton.1 hq]
    dsimp only
    omega⟩
  have hold : ∀ p ∈ s.k, ∃ j : Int, p.2.h = [(j, 2)] ∧ 1 ≤ j ∧ j ≤ ((i + 1 : Nat) : Int) ∧ ∀ t ∈ p.2.q, t.tx ≠ j := fun p hp => by
    obtain ⟨j, a1, a2, a3, a4⟩ := h.k p hp
    exact ⟨j, a1, a2, by push_cast; omega, a4⟩
  by_cases hk : key ∈ keysK s
  · cases hg : getK s.k key with
    | none => exact absurd hk (getK_none.1 hg)
    | some x =>
      obtain ⟨hh, q⟩ := x
      obtain ⟨j, a1, a2, a3, a4⟩ := h.k _ (getK_mem hg)
      dsimp only at a1 a4
      subst a1
      have ha := ask_wait hn hg (show (i : Int) + 1 ≠ j by omega) a4
      refine ⟨_, by rw [ha, inK_iff.2 hk]; rfl, ⟨fun p hp => ?_, fun p hp => ?_⟩, ?_⟩
      · rcases mem_setK hp with e | hp
        · rw [e]
          refine ⟨j, rfl, a2, by push_cast; omega, fun t ht => ?_⟩
          rcases List.mem_append.1 ht with ht | ht
          · exact a4 t ht
          · rw [List.mem_singleton.1 ht]
            dsimp only
            omega
        · exact hold p hp
      · rcases List.mem_append.1 hp with hp | hp
        · have := h.w p hp; push_cast; omega
        · rw [List.mem_singleton.1 hp]; push_cast; omega
      · rw [addK_in hk]
        exact keys_set _ _ _
  · refine ⟨_, by rw [ask_absent hn hk true, inK_not hk]; rfl, ⟨fun p hp => ?_, fun p hp => ?_⟩, ?_⟩
    · rcases List.mem_append.1 hp with hp | hp
      · exact hold p hp
      · rw [List.mem_singleton.1 hp]
        exact ⟨(i : Int) + 1, rfl, by omega, by push_cast; omega, fun t ht => by cases ht⟩
    · have := h.w p hp; push_cast; omega
    · rw [addK_not hk]
      unfold keysK
      rw [List.map_append]
      rfl
/-- How many keys the first ones hold. -/
def sumK (s : St K) : Nat → Nat
  | 0 => 0
  | i + 1 => sumK s i + (heldA s ((i : Int) + 1)).length
def hdK (p : K × Le) : Int := match p.2.h with
  | (j, _) :: _ => j
  | [] => 0
theorem count_split (f : K × Le → Int) (i : Int) : ∀ l : List (K × Le), (l.filter (fun p => decide (f p ≤ i + 1))).length = (l.filter (fun p => decide (f p ≤ i))).length + (l.filter (fun p => decide (f p = i + 1))).length
  | [] => rfl
  | a :: l => by
    have ih := count_split f i l
    by_cases h1 : f a ≤ i
    · rw [List.filter_cons_of_pos (by simp; omega), List.filter_cons_of_pos (by simpa using h1), List.filter_cons_of_neg (by simp; omega), List.length_cons, List.length_cons, ih]
      omega
    · by_cases h2 : f a = i + 1
      · rw [List.filter_cons_of_pos (by simp; omega), List.filter_cons_of_neg (by simp; omega), List.filter_cons_of_pos (by simpa using h2), List.length_cons, List.length_cons, ih]
        omega
      · rw [List.filter_cons_of_neg (by simp; omega), List.filter_cons_of_neg (by simp; omega), List.filter_cons_of_neg (by simpa using h2), ih]
theorem held_count {s : St K} {N : Nat} (h : InvA s N) (tx : Int) : (heldA s tx).length = (s.k.filter (fun p => decide (hdK p = tx))).length := by
  unfold heldA
  rw [List.length_map]
  congr 1
  refine List.filter_congr (fun p hp => ?_)
  obtain ⟨j, a1, a2, a3, a4⟩ := h.k p hp
  unfold hdK
  rw [a1]
  dsimp only
  by_cases hj : j = tx
  · subst hj; simp [getI]
  · simp [getI, hj]
theorem sum_eq {s : St K} {N : Nat} (h : InvA s N) : ∀ i : Nat, sumK s i = (s.k.filter (fun p => decide (hdK p ≤ (i : Int)))).length
  | 0 => by
    rw [List.filter_eq_nil_iff.2]
    · rfl
    · intro p hp
      obtain ⟨j, a1, a2, a3, a4⟩ := h.k p hp
      unfold hdK
      rw [a1]
      simp
      omega
  | i + 1 => by
    rw [sumK, sum_eq h i, held_count h, ← count_split]
    rfl
theorem sum_all {s : St K} {N : Nat} (h : InvA s N) : sumK s N = (keysK s).length := by
  rw [sum_eq h, List.filter_eq_self.2, List.length_map]
  intro p hp
  obtain ⟨j, a1, a2, a3, a4⟩ := h.k p hp
  unfold hdK
  rw [a1]
  simpa using a3
theorem held_le {s : St K} {N : Nat} (h : InvA s N) (tx : Int) : (heldA s tx).length ≤ (keysK s).length := by
  rw [held_count h, List.length_map]
  exact List.length_filter_le _ _
end
def Inv (all : Bool) (s : St ByteArray) (i : Nat) : Prop := if all then InvA s i else InvS s i
theorem Inv.zero (all : Bool) : Inv all ⟨[], []⟩ 0 := by
  cases all
  · exact ⟨fun p h => (List.not_mem_nil h).elim, rfl⟩
  · exact ⟨fun p h => (List.not_mem_nil h).elim, fun p h => (List.not_mem_nil h).elim⟩
theorem Inv.step {all : Bool} {s : St ByteArray} {i : Nat} (h : Inv all s i) (key : ByteArray) : ∃ s', askA s ((i : Int) + 1) key all = (s', !inK (keysK s) key || !all) ∧ Inv all s' (i + 1) ∧ keysK s' = addK (keysK s) key := by
  cases all
  · obtain ⟨s', h1, h2, h3⟩ := InvS.step h key
    exact ⟨s', by rw [h1]; simp, h2, h3⟩
  · obtain ⟨s', h1, h2, h3⟩ := InvA.step h key
    exact ⟨s', by rw [h1]; simp, h2, h3⟩
def bools (l : List ByteArray) : List (ByteArray × Value) := l.map (fun k => (k, .bool true))
theorem bools_look (l : List ByteArray) (k : ByteArray) : (L.look (bools l) k).getD (.bool false) = .bool (inK l k) := by
  unfold L.look bools
  rw [List.find?_map]
  have e : ((fun p : ByteArray × Value => decide (p.1 = k)) ∘ fun k => (k, Value.bool true)) = fun x => decide (x = k) := rfl
  rw [e]
  cases hf : l.find? (fun x => decide (x = k)) with
  | none =>
    rw [inK_not (fun hm => by simpa using List.find?_eq_none.1 hf k hm)]
    rfl
  | some x =>
    have h1 := List.mem_of_find?_eq_some hf
    have h2 : x = k := by simpa using List.find?_some hf
    subst h2
    rw [inK_iff.2 h1]
    rfl
theorem bools_put (l : List ByteArray) (k : ByteArray) : L.put (bools l) k (.bool true) = bools (addK l k) := by
  have e : (L.look (bools l) k).isSome = inK l k := by
    unfold L.look bools
    rw [List.find?_map]
    have e : ((fun p : ByteArray × Value => decide (p.1 = k)) ∘ fun k => (k, Value.bool true)) = fun x => decide (x = k) := rfl
    rw [e]
    cases hf : l.find? (fun x => decide (x = k)) with
    | none =>
      rw [inK_not (fun hm => by simpa using List.find?_eq_none.1 hf k hm)]
      rfl
    | some x =>
      have h1 := List.mem_of_find?_eq_some hf
      have h2 : x = k := by simpa using List.find?_some hf
      subst h2
      rw [inK_iff.2 h1]
      rfl
  unfold L.put
  rw [e]
  by_cases h : k ∈ l
  · rw [if_pos (inK_iff.2 h), addK_in h]
    unfold bools
    rw [List.map_map]
    refine List.map_congr_left (fun x _ => ?_)
    simp only [Function.comp_apply]
    split
    · rename_i hx; rw [hx]
    · rfl
  · rw [inK_not h, addK_not h]
    unfold bools
    rw [if_neg (by simp)]
    rw [List.map_append]
    rfl
theorem zeroB (w : World) : (zeroValue 4).run Try.prog w = .ok (.bool false) w := by kernel_rfl
/-- The table and the map of what was asked for. -/
abbrev KB (w1 : World) (b hb : Nat) (n : Bool) (s : St ByteArray) (wr : World) : Prop := Upd w1 (fun _ => False) (Sep (TabA b n s) (MapHP keyStr hb (bools (keysK s)))) wr
theorem KB.had {w1 wr : World} {b hb : Nat} {n : Bool} {s : St ByteArray} {l : List ByteArray} (u : Upd w1 (fun _ => False) (Sep (TabA b n s) (MapHP keyStr hb (bools l))) wr) (k : ByteArray) :
    (Instr.lookup 48 (.map (some hb)) (.string k) false).run Try.prog wr = .ok (.bool (inK l k)) wr ∧ ∃ w', (Instr.mapUpdate 48 (.map (some hb)) (.string k) (.bool true)).run Try.prog wr = .ok () w' ∧ Upd w1 (fun _ => False) (Sep (TabA b n s) (MapHP keyStr hb (bools (addK l k)))) w' := by
  obtain ⟨G, hG, e1, k1⟩ := u
  obtain ⟨F2, h2, _, lift⟩ := Sep.focusR hG
  have hM := h2.1
  refine ⟨?_, ?_⟩
  · have := hM.lookup (P := Try.prog) Try.underlying48 Try.underlying9 (zeroB wr) k false
    rw [← bools_look]
    exact this
  · obtain ⟨w', hrun, hm, hgr, hs⟩ := hM.update (P := Try.prog) Try.underlying48 Try.underlying9 k (.bool true)
    rw [bools_put] at hm
    exact ⟨w', hrun, Upd.go e1 k1 (lift _ _ (MapHP.upd (κ := keyStr) h2 hm hgr))⟩
theorem kb_ask {w1 wr : World} {b : Nat} {n : Bool} {s : St ByteArray} {R : HP} (u : Upd w1 (fun _ => False) (Sep (TabA b n s) R) wr) (ho : Ok 899998 s) (tx : Int) (key : ByteArray) (all : Bool) :
    Calls Try.prog 13 #[.pointer (some ⟨b, 0, none⟩), .int .i64 tx, .string key, .bool all] wr fun e w' => e = .returned (.bool (askA s tx key all).2) ∧ Aside0 (Upd w1 (fun _ => False) (Sep (TabA b true (askA s tx key all).1) R) w') :=
  Upd.thenL (r := fun e => e = .returned (.bool (askA s tx key all).2)) u (fun G h => ask_calls b s wr G tx key all h ho)
theorem kb_new (w : World) : KB w w.heap.size (w.heap.size + 1) false ⟨[], []⟩ ((w.alloc (.cells #[.map none, .map none] 28)).alloc (.map #[] 0)) := by
  have u := (u_new w).out
  have hs : (w.alloc (.cells #[.map none, .map none] 28)).heap.size = w.heap.size + 1 := by simp
  have hM : (MapHP keyStr (w.heap.size + 1) []).on ((w.alloc (.cells #[.map none, .map none] 28)).alloc (.map #[] 0)) (fun k => k = w.heap.size + 1) := by
    have := MapAt.made keyStr (w.alloc (.cells #[.map none, .map none] 28))
    rw [hs] at this
    exact ⟨this, rfl, by rintro k rfl; simp⟩
  exact u.trans (fun G hG => Upd.new hG ((Eff.refl _ _).alloc _) hM (by rintro k rfl; rw [hs]; exact Nat.le_refl _))
set_option maxHeartbeats 1600000 in
set_option maxRecDepth 100000 in
theorem LockKeys_out (A : Option Addr) (c : Nat) (l : List ByteArray) (all : Bool) (w : World) (h : 20 < l.length) (hl : l.length * 16 ≤ 140737488351232) :
    Calls Try.prog 8 #[.slice A l.length c, .bool all] w fun e w' => e = .returned (.bool true) ∧ Below w.heap.size w w' := by
  have CA := fun W => alive_calls W
  have p1 : ((l.length : Int) > 20) = True := eq_true (by omega)
  have p2 : (20 < (l.length : Int)) = True := eq_true (by omega)
  clear h
  go_enter Try.func8, Try.ntmps8
  go_wp2_with (go_at_call 12; refine (CA _).mono ?_; rintro e w1 ⟨rfl, e1⟩)
  go_ret
  exact ⟨rfl, e1.out.below0⟩
set_option maxHeartbeats 1600000 in
set_option maxRecDepth 100000 in
theorem LockKeys_walk (A : Option Addr) (c : Nat) (l : List ByteArray) (all : Bool) (w : World) (h1 : l.length ≤ maxLen ∧ ∀ a ∈ l, a.size ≤ maxLen) (h2 : l.length * 16 ≤ 140737488351232) (h3 : Kd.C Kd.string w A l.length l) (h4 : l.length ≤ c) :
    Calls Try.prog 8 #[.slice A l.length c, .bool all] w fun e w' => e = .returned (.bool true) ∧ Below w.heap.size w w' := by
  by_cases ho : 20 < l.length
  · exact LockKeys_out A c l all w ho h2
  have p1 : ((l.length : Int) > 20) = False := eq_false (by omega)
  have p2 : (20 < (l.length : Int)) = False := eq_false (by omega)
  have hl : l.length < 21 := by omega
  have CA := fun W => alive_calls W
  have HR := Aside0.mk (And.intro h3 h1)
  have hmm := @run_makeMap Try.prog
  clear ho h1 h2 h3 h4
  go_enter Try.func8, Try.ntmps8
  go_wp2_with (go_at_call 12; refine (CA _).mono ?_; rintro e w1 ⟨rfl, e1⟩)
  have U0 := Aside0.mk (kb_new w1)
  clear CA p1 p2 hmm
  go_loopg [7, 26] l.length (fun k s7 s26 wr => ∃ (i m : Nat) (s : St ByteArray) (b : Bool), s26 = .int .i64 (i : Int) ∧ s7 = .int .i64 (m : Int) ∧ i + k = l.length ∧ m < 900 ∧ Aside0 (KB w1 w1.heap.size (w1.heap.size + 1) b s wr ∧ Inv all s i ∧ Ok i s ∧ (keysK s).length ≤ i ∧ m = (keysK s).length))
  case atStart => exact ⟨0, 0, ⟨[], []⟩, false, rfl, rfl, by omega, by omega, Aside0.mk ⟨U0.out, Inv.zero all, Ok.empty 0, Nat.zero_le _, rfl⟩⟩
  case round =>
    obtain ⟨i, m, s, b, rfl, rfl, hik, hm9, A1⟩ := hrel
    by_cases hi : i < l.length
    · have p1 : ((i : Int) < (l.length : Int)) = True := eq_true (by omega)
      have E1 : Eff0 w wr := e1.out.trans (show Eff0 w1 wr from by obtain ⟨_, _, e, _⟩ := A1.out.1; exact e) (fun _ h => h.elim)
      obtain ⟨ad, rfl, x0⟩ := at_str (Kd.C_below HR.out.1 E1.below0) i hi
      generalize l.getD i default = key at *
      by_cases hks : 40 < (key.size : Int)
      · clear hi
        go_wp2
        go_ret
        exact ⟨rfl, E1.below0⟩
      · obtain ⟨s', ha, hin, hkk⟩ := A1.out.2.1.step key
        have hN := A1.out.2.2.2.1
        have CQ := Aside0.mk (kb_ask A1.out.1 (A1.out.2.2.1.mono (by omega)) ((i : Int) + 1) key all)
        have hok := A1.out.2.2.1.ask ((i : Int) + 1) key all
        rw [ha] at CQ hok
        have hll : (keysK s').length ≤ i + 1 := by
          rw [hkk]
          unfold addK
          split
          · omega
          · rw [List.length_append, List.length_singleton]; omega
        have HI := Aside0.mk (And.intro hi (And.intro hik (And.intro hin (And.intro hok hll))))
        have hii : i < 900 := by omega
        have hnn : (keysK s).length < 21 := by omega
        have HNN := Aside0.mk hnn
        clear hi hik hin hok hll ha hN hnn
        by_cases hm : key ∈ keysK s
        · have hkk2 : keysK s' = keysK s := by rw [hkk, addK_in hm]
          have hd : inK (keysK s) key = true := inK_iff.2 hm
          rw [hd] at CQ
          have HK := Aside0.mk (And.intro hkk2 (And.intro hd (And.intro hkk (show addK (keysK s) key = keysK s' from hkk.symm))))
          clear hm hkk2 hd hkk
          cases all
          all_goals
            go_wp2_with (go_at_call 13; refine CQ.out.mono ?_; rintro e w2 ⟨rfl, A2⟩; obtain ⟨hL, w3, hrun, U3⟩ := KB.had A2.out key; have HU := Aside0.mk U3; clear U3; rw [HK.out.2.1] at hL)
            go_roundg (gk - 1)
            case measure => have := HI.out.1; have := HI.out.2.1; omega
            case rel => exact ⟨i + 1, m, s', true, by simp, rfl, by have := HI.out.1; have := HI.out.2.1; omega, hm9, Aside0.mk ⟨by rw [HK.out.2.2.2] at HU; exact HU.out, HI.out.2.2.1, HI.out.2.2.2.1, HI.out.2.2.2.2, by rw [HK.out.1]; exact A1.out.2.2.2.2⟩⟩
        · have hkk2 : (keysK s').length = (keysK s).length + 1 := by rw [hkk, addK_not hm]; simp
          have hd : inK (keysK s) key = false := inK_not hm
          rw [hd] at CQ
          have HK := Aside0.mk (And.intro hkk2 (And.intro hd (And.intro hkk (show addK (keysK s) key = keysK s' from hkk.symm))))
          clear hm hkk2 hd hkk
          cases all
          all_goals
            go_wp2_with (go_at_call 13; refine CQ.out.mono ?_; rintro e w2 ⟨rfl, A2⟩; obtain ⟨hL, w3, hrun, U3⟩ := KB.had A2.out key; have HU := Aside0.mk U3; clear U3; rw [HK.out.2.1] at hL)
            go_roundg (gk - 1)
            case measure => have := HI.out.1; have := HI.out.2.1; omega
            case rel => exact ⟨i + 1, m + 1, s', true, by simp, by simp, by have := HI.out.1; have := HI.out.2.1; omega, by have := HNN.out; have := A1.out.2.2.2.2; omega, Aside0.mk ⟨by rw [HK.out.2.2.2] at HU; exact HU.out, HI.out.2.2.1, HI.out.2.2.2.1, HI.out.2.2.2.2, by rw [HK.out.1, A1.out.2.2.2.2]⟩⟩
    · have p1 : ((i : Int) < (l.length : Int)) = False := eq_false (by omega)
      obtain rfl : i = l.length := by omega
      clear hi
      have E1 : Eff0 w wr := e1.out.trans (show Eff0 w1 wr from by obtain ⟨_, _, e, _⟩ := A1.out.1; exact e) (fun _ h => h.elim)
      have UT1 : UT w1 (fun _ => False) w1.heap.size b s wr := u_drop A1.out.1
      cases all with
      | false =>
        have hp := InvS.pairs (show InvS s l.length from A1.out.2.1)
        have he : edgesA s = [] := by unfold edgesA; rw [hp]; rfl
        have CE := Aside0.mk (u_edges UT1 (A1.out.2.2.1.mono (by omega)) (by rw [hp]; decide))
        rw [he] at CE
        clear hp he UT1
        go_wp2_with (go_at_call 19; refine CE.out.mono ?_; rintro e w2 ⟨A5, c5, rfl, A2⟩)
        go_ret
        exact ⟨rfl, (e1.out.trans (u_eff (u_drop A2.out)) (fun _ h => h.elim)).below0⟩
      | true =>
        have hin : InvA s l.length := A1.out.2.1
        have hs := sum_all hin
        have HS := Aside0.mk (And.intro hin (And.intro hs A1.out.2.2.2.2))
        have hkl := A1.out.2.2.2.1
        have HO := Aside0.mk A1.out.2.2.1
        clear hin hs A1
        obtain ⟨g1, rfl⟩ : ∃ g1 : Nat, g1 = gk := ⟨_, rfl⟩
        obtain ⟨w0, rfl⟩ : ∃ w0 : World, w0 = wr := ⟨_, rfl⟩
        go_wp2_with fail
        go_loopg [11, 67] l.length (fun k s11 s67 wr => ∃ (j v : Nat), s67 = .int .i64 (j : Int) ∧ s11 = .int .i64 (v : Int) ∧ j + k = l.length ∧ v ≤ j * 21 ∧ Aside0 (v = sumK s j) ∧ UT w1 (fun _ => False) w1.heap.size b s wr)
        case atStart => exact ⟨0, 0, rfl, rfl, by omega, by omega, Aside0.mk rfl, UT1⟩
        case round =>
          obtain ⟨j, v, rfl, rfl, hjk, hv, hvs, UT2⟩ := hrel
          by_cases hj : j < l.length
          · have p3 : ((j : Int) < (l.length : Int)) = True := eq_true (by omega)
            have hlen : (heldA s ((j : Int) + 1)).length ≤ 20 := by have := held_le HS.out.1 ((j : Int) + 1); omega
            obtain ⟨q, hq⟩ : ∃ q, (heldA s ((j : Int) + 1)).length = q := ⟨_, rfl⟩
            rw [hq] at hlen
            have CK : Calls Try.prog 18 #[.pointer (some ⟨w1.heap.size, 0, none⟩), .int .i64 ((j : Int) + 1)] wr fun e w' => ∃ A c, e = .returned (.slice A q c) ∧ UT w1 (fun _ => False) w1.heap.size b s w' := by
              refine (u_keys UT2 ((j : Int) + 1) (by rw [hq]; omega)).mono ?_
              rintro e w' ⟨v, ys, rfl, A3⟩
              obtain ⟨h1, _, h3⟩ := A3.out
              obtain ⟨A, c, hv, _⟩ := Upd.rowS h3
              rw [h1.length_eq, hq] at hv
              exact ⟨A, c, by rw [hv], u_drop h3⟩
            have HQ := Aside0.mk (And.intro hq (And.intro hj hjk))
            have hvv : v < 900 := by omega
            have hjj : j < 900 := by omega
            have HV := Aside0.mk hv
            clear hq hj hjk hv
            go_wp2_with (go_at_call 18; refine CK.mono ?_; rintro e w5 ⟨A5, c5, rfl, UT3⟩)
            go_roundg (gk - 1)
            case measure => have := HQ.out.2; omega
            case rel =>
              exact ⟨j + 1, v + q, by simp, by simp, by have := HQ.out.2; omega, by have := HV.out; omega, Aside0.mk (by show v + q = sumK s j + (heldA s ((j : Int) + 1)).length; rw [HQ.out.1, ← hvs.out]), UT3⟩
          · have p3 : ((j : Int) < (l.length : Int)) = False := eq_false (by omega)
            obtain rfl : j = l.length := by omega
            have hvm : v = m := by rw [hvs.out, HS.out.2.1, HS.out.2.2]
            subst hvm
            clear hj hjk
            go_wp2
            go_ret
            exact ⟨rfl, (e1.out.trans (u_eff UT2) (fun _ h => h.elim)).below0⟩
end Go.Proofs.Ytlakklaaapfpeaa.Pure
