import Derived.Test.YtcgncdcihglgdaaTTwo
namespace Go.Proofs.Ytcgncdcihglgdaa.T
open Go Go.RowKit Go.Proofs.YtcgncdcihglgdaaW.PrintWords Go.Proofs.YtcgncdcihglgdaaW.PrintLast Go.Proofs.YtcgncdcihglgdaaW.PrintMore Go.Proofs.Ytcgncdcihglgdaa.L
set_option linter.unusedVariables false
set_option linter.unusedSimpArgs false
/-! ### as many transactions as may be (TxnMany): plain -/
/-- The table, as the law knows it: who lives, each with its updates; cur has k of them so far. -/
structure MS (s : Tab) (L : List Int) (e : Int) (cur : Int) (k : Nat) : Prop where
  keys : s.l.map (·.1) = L
  next : s.next = e
  mb : (L = [] ∧ e = 0) ∨ ∃ m, s.mb = some m
  nodup : L.Nodup
  bnd : ∀ n ∈ L, 1 ≤ n ∧ n ≤ e
  two : ∀ p ∈ s.l, ∀ u ∈ p.2.2.ups, u.length = 2
  len : ∀ p ∈ s.l, p.2.2.ups.length = if p.1 = cur then k else (p.1 % 3).toNat
variable {s : Tab} {L : List Int} {e cur n : Int} {k : Nat}
theorem MS.start : MS T0 [] 0 0 0 := ⟨rfl, rfl, .inl ⟨rfl, rfl⟩, List.nodup_nil, fun _ h => (List.not_mem_nil h).elim, fun _ h => (List.not_mem_nil h).elim, fun _ h => (List.not_mem_nil h).elim⟩
theorem MS.length (h : MS s L e cur k) : s.l.length = L.length := by rw [← h.keys, List.length_map]
theorem MS.get (h : MS s L e cur k) (hn : n ∈ L) : ∃ b x, (n, b, x) ∈ s.l ∧ getP s.l n = some (b, x) ∧ (∀ u ∈ x.ups, u.length = 2) ∧ x.ups.length = if n = cur then k else (n % 3).toNat := by
  rw [← h.keys] at hn
  obtain ⟨p, hp, rfl⟩ := List.mem_map.1 hn
  exact ⟨p.2.1, p.2.2, hp, getP_mem (by rw [h.keys]; exact h.nodup) hp, h.two p hp, h.len p hp⟩
theorem getP_out {l : List (Int × Nat × One)} (h : n ∉ l.map (·.1)) : getP l n = none := by
  unfold getP
  rw [List.find?_eq_none.2 (fun p hp => by simpa using fun he => h (List.mem_map.2 ⟨p, hp, he⟩))]
  rfl
theorem MS.out (h : MS s L e cur k) (hn : n ∉ L) : getP s.l n = none := getP_out (by rw [h.keys]; exact hn)
theorem MS.fresh (h : MS s L e cur k) : getP s.l (s.next + 1) = none := h.out (fun hm => by have := (h.bnd _ hm).2; have := h.next; omega)
theorem MS.begin (h : MS s L e 0 0) (he : 0 ≤ e) (m b : Nat) : MS ⟨some m, s.l ++ [(s.next + 1, b, ⟨0, [], []⟩)], s.next + 1⟩ (L ++ [e + 1]) (e + 1) (e + 1) 0 := by
  have hx := h.next
  refine ⟨by simp [h.keys, hx], by show s.next + 1 = _; rw [hx], .inr ⟨m, rfl⟩, ?_, ?_, ?_, ?_⟩
  · rw [List.nodup_append]
    refine ⟨h.nodup, by simp, fun a ha b hb hab => ?_⟩
    rw [List.mem_singleton] at hb
    have := (h.bnd a ha).2
    omega
  · intro n hn
    rcases List.mem_append.1 hn with hn | hn
    · have := h.bnd n hn; omega
    · rw [List.mem_singleton] at hn; omega
  · intro p hp
    rcases List.mem_append.1 hp with hp | hp
    · exact h.two p hp
    · rw [List.mem_singleton] at hp
      subst hp
      exact fun u hu => (List.not_mem_nil hu).elim
  · intro p hp
    rcases List.mem_append.1 hp with hp | hp
    · have h1 := h.len p hp
      have h2 := h.bnd p.1 (by rw [← h.keys]; exact List.mem_map.2 ⟨p, hp, rfl⟩)
      rw [if_neg (by omega)] at h1 ⊢
      exact h1
    · rw [List.mem_singleton] at hp
      subst hp
      rw [if_pos (by show s.next + 1 = _; rw [hx])]
      rfl
theorem MS.upd (h : MS s L e n k) (hn : n ∈ L) {q : List Int} (hq : q.length = 2) : (updR s n q).1 = true ∧ MS (updR s n q).2 L e n (k + 1) := by
  obtain ⟨b, x, hm, hg, h2, h3⟩ := h.get hn
  rw [if_pos rfl] at h3
  have hu : updR s n q = (true, { s with l := setP s.l n { x with ups := x.ups ++ [q] } }) := by simp [updR, hg]
  rw [hu]
  refine ⟨rfl, ?_, h.next, h.mb, h.nodup, h.bnd, ?_, ?_⟩
  · show (setP s.l n _).map (·.1) = L
    rw [← h.keys]
    unfold setP
    rw [List.map_map]
    refine List.map_congr_left (fun p _ => ?_)
    simp only [Function.comp_apply]
    split <;> rfl
  · intro p hp u hu2
    obtain ⟨p0, hp0, rfl⟩ := List.mem_map.1 hp
    by_cases hpn : p0.1 = n
    · rw [if_pos hpn] at hu2
      rcases List.mem_append.1 hu2 with hu2 | hu2
      · exact h2 u hu2
      · rw [List.mem_singleton.1 hu2]; exact hq
    · rw [if_neg hpn] at hu2
      exact h.two p0 hp0 u hu2
  · intro p hp
    obtain ⟨p0, hp0, rfl⟩ := List.mem_map.1 hp
    by_cases hpn : p0.1 = n
    · rw [if_pos hpn, if_pos hpn]
      simp [h3]
    · rw [if_neg hpn, if_neg hpn]
      have := h.len p0 hp0
      rwa [if_neg hpn] at this
theorem MS.full (h : MS s L e n (n % 3).toNat) : MS s L e 0 0 := by
  refine ⟨h.keys, h.next, h.mb, h.nodup, h.bnd, h.two, fun p hp => ?_⟩
  have h1 := h.len p hp
  have h2 := h.bnd p.1 (by rw [← h.keys]; exact List.mem_map.2 ⟨p, hp, rfl⟩)
  rw [if_neg (by omega), h1]
  by_cases hp2 : p.1 = n
  · rw [if_pos hp2, hp2]
  · rw [if_neg hp2]
theorem MS.end_ (h : MS s L e 0 0) (hn : n ∈ L) : (endR s n).1 = true ∧ MS (endR s n).2 (L.filter (fun x => decide (x ≠ n))) e 0 0 ∧ endR (endR s n).2 n = (false, (endR s n).2) := by
  obtain ⟨b, x, hm, hg, h2, h3⟩ := h.get hn
  have hu : endR s n = (true, { s with l := delP s.l n }) := by simp [endR, hg]
  have hk : (delP s.l n).map (·.1) = L.filter (fun x => decide (x ≠ n)) := by
    rw [← h.keys]
    unfold delP
    rw [List.filter_map]
    rfl
  rw [hu]
  refine ⟨rfl, ⟨hk, h.next, ?_, h.nodup.filter _, fun n hn => h.bnd n (List.mem_filter.1 hn).1, fun p hp => h.two p (List.mem_filter.1 hp).1, fun p hp => h.len p (List.mem_filter.1 hp).1⟩, ?_⟩
  · rcases h.mb with ⟨h1, h2⟩ | h1
    · exact .inl ⟨by rw [h1]; rfl, h2⟩
    · exact .inr h1
  · have : getP (delP s.l n) n = none := getP_out (by rw [hk]; simp)
    simp [endR, this]
theorem flat_two (l : List (List Int)) (h : ∀ u ∈ l, u.length = 2) : l.flatten.length = 2 * l.length := by
  induction l with
  | nil => rfl
  | cons x l ih =>
    rw [List.flatten_cons, List.length_append, List.length_cons, ih (fun u hu => h u (List.mem_cons_of_mem _ hu)), h x List.mem_cons_self]
    omega
theorem MS.freed (h : MS s L e 0 0) (hn : n ∈ L) : (freedR s n).length = 2 * (n % 3).toNat ∧ ∀ p, getP s.l n = some p → p.2.ups.length < 900000 ∧ p.2.ups.flatten.length < 900000 := by
  obtain ⟨b, x, hm, hg, h2, h3⟩ := h.get hn
  have hb := h.bnd n hn
  rw [if_neg (by omega)] at h3
  have hf := flat_two x.ups h2
  refine ⟨by simp only [freedR, hg]; rw [hf, h3], fun p hp => ?_⟩
  rw [hg] at hp
  injection hp with hp
  subst hp
  dsimp only
  rw [hf, h3]
  omega
theorem MS.sum (h : MS s L e 0 0) : (s.l.map (fun p => p.2.2.ups.length)).sum = (L.map (fun n => (n % 3).toNat)).sum := by
  rw [← h.keys, List.map_map]
  congr 1
  refine List.map_congr_left (fun p hp => ?_)
  have h1 := h.len p hp
  have h2 := h.bnd p.1 (by rw [← h.keys]; exact List.mem_map.2 ⟨p, hp, rfl⟩)
  rw [if_neg (by omega)] at h1
  exact h1
theorem sum_small (L : List Int) : (L.map (fun n => (n % 3).toNat)).sum ≤ 2 * L.length := by
  induction L with
  | nil => simp
  | cons x l ih =>
    rw [List.map_cons, List.sum_cons, List.length_cons]
    omega
theorem cut_one (L : List Int) (h : L.Nodup) (i : Nat) (hi : i < L.length) : L.filter (fun x => decide (x ≠ L[i])) = L.take i ++ L.drop (i + 1) := by
  have h0 : L = L.take i ++ L[i] :: L.drop (i + 1) := by rw [List.getElem_cons_drop, List.take_append_drop]
  have h1 := h
  rw [h0, List.nodup_append] at h1
  obtain ⟨_, n2, n3⟩ := h1
  rw [List.nodup_cons] at n2
  generalize L[i] = a at *
  generalize L.take i = p at *
  generalize L.drop (i + 1) = q at *
  rw [h0, List.filter_append, List.filter_cons_of_neg (by simp), List.filter_eq_self.2, List.filter_eq_self.2]
  · intro b hb
    exact decide_eq_true (fun he => n2.1 (he ▸ hb))
  · intro b hb
    exact decide_eq_true (fun he => n3 b hb a List.mem_cons_self he)
end Go.Proofs.Ytcgncdcihglgdaa.T
