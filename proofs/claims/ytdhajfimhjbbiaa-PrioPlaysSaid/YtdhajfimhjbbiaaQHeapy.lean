import Derived.Test.YtdhajfimhjbbiaaQQueue
namespace Go.Proofs.Ytdhajfimhjbbiaa.Q
open Go Go.RowKit Go.Proofs.YtdhajfimhjbbiaaW.PrintWords Go.Proofs.YtdhajfimhjbbiaaW.PrintLast Go.Proofs.YtdhajfimhjbbiaaW.PrintMore
set_option linter.unusedVariables false
/-- x comes ahead of y, or is as y. -/
def leB (x y : Int × Int) : Bool := !lessB y x
theorem leB_iff (x y : Int × Int) : leB x y = true ↔ (y.1 < x.1 ∨ (x.1 = y.1 ∧ x.2 ≤ y.2)) := by
  unfold leB lessB
  by_cases h1 : x.1 < y.1 <;> by_cases h2 : y.1 = x.1 <;> by_cases h3 : y.2 < x.2 <;> simp [h1, h2, h3] <;> omega
theorem lessB_iff (x y : Int × Int) : lessB x y = true ↔ (y.1 < x.1 ∨ (x.1 = y.1 ∧ x.2 < y.2)) := by
  unfold lessB
  by_cases h1 : y.1 < x.1 <;> by_cases h2 : x.1 = y.1 <;> by_cases h3 : x.2 < y.2 <;> simp [h1, h2, h3]
theorem leB_refl (x : Int × Int) : leB x x = true := by rw [leB_iff]; omega
theorem leB_trans {x y z : Int × Int} (h : leB x y = true) (k : leB y z = true) : leB x z = true := by rw [leB_iff] at *; omega
theorem leB_antisymm {x y : Int × Int} (h : leB x y = true) (k : leB y x = true) : x = y := by
  rw [leB_iff] at *
  exact Prod.ext (by omega) (by omega)
theorem leB_of_less {x y : Int × Int} (h : lessB x y = true) : leB x y = true := by rw [leB_iff]; rw [lessB_iff] at h; omega
theorem leB_of_not {x y : Int × Int} (h : ¬ lessB x y = true) : leB y x = true := by rw [leB_iff]; rw [lessB_iff] at h; omega
theorem rdp_nat (xs : List (Int × Int)) (i : Nat) : rdp xs (i : Int) = xs.getD i (0, 0) := rfl
theorem swap_get (xs : List (Int × Int)) (i j k : Nat) (hi : i < xs.length) (hj : j < xs.length) :
    (swapL xs (i : Nat) (j : Nat)).getD k (0, 0) = if k = j then xs.getD i (0, 0) else if k = i then xs.getD j (0, 0) else xs.getD k (0, 0) := by
  unfold swapL rdp
  simp only [Int.toNat_natCast, List.getD_eq_getElem?_getD, List.getElem?_set, List.length_set]
  by_cases h1 : k = j
  · subst h1
    simp [hj]
  · rw [if_neg (Ne.symm h1), if_neg h1]
    by_cases h2 : k = i
    · subst h2
      simp [hi]
    · rw [if_neg (Ne.symm h2), if_neg h2]
theorem swap_perm (xs : List (Int × Int)) (i j : Nat) (hi : i < xs.length) (hj : j < xs.length) : (swapL xs (i : Nat) (j : Nat)).Perm xs := by
  rw [List.perm_iff_count]
  intro a
  unfold swapL rdp
  simp only [Int.toNat_natCast]
  have e1 : xs.getD i (0, 0) = xs[i] := by simp [List.getD_eq_getElem?_getD, hi]
  have e2 : xs.getD j (0, 0) = xs[j] := by simp [List.getD_eq_getElem?_getD, hj]
  rw [e1, e2, List.count_set (by simpa using hj), List.count_set hi, List.getElem_set]
  have c1 : xs[i] = a → 0 < xs.count a := fun h => List.count_pos_iff.2 (h ▸ List.getElem_mem hi)
  have c2 : xs[j] = a → 0 < xs.count a := fun h => List.count_pos_iff.2 (h ▸ List.getElem_mem hj)
  by_cases hij : i = j
  · subst hij
    by_cases h1 : xs[i] = a
    · have := c1 h1; simp [h1]; omega
    · simp [h1]
  · rw [if_neg hij]
    by_cases h1 : xs[i] = a <;> by_cases h2 : xs[j] = a
    · have := c1 h1; simp [h1, h2]; omega
    · have := c1 h1; simp [h1, h2]; omega
    · have := c2 h2; simp [h1, h2]
    · simp [h1, h2]
/-- A heap, as far as its first n go, from the parents m on. -/
def Hp (m n : Nat) (xs : List (Int × Int)) : Prop := ∀ i, 0 < i → i < n → m ≤ (i - 1) / 2 → leB (xs.getD ((i - 1) / 2) (0, 0)) (xs.getD i (0, 0)) = true
def UpInv (n : Nat) (xs : List (Int × Int)) (j : Nat) : Prop := (∀ i, 0 < i → i < n → i ≠ j → leB (xs.getD ((i - 1) / 2) (0, 0)) (xs.getD i (0, 0)) = true) ∧ (0 < j → ∀ i, 0 < i → i < n → (i - 1) / 2 = j → leB (xs.getD ((j - 1) / 2) (0, 0)) (xs.getD i (0, 0)) = true)
theorem upL_heap : ∀ (f : Nat) (xs : List (Int × Int)) (j : Nat), j < f → j < xs.length → UpInv xs.length xs j → Hp 0 xs.length (upL f xs j) ∧ (upL f xs j).Perm xs
  | 0, _, _, h, _, _ => by omega
  | f + 1, xs, j, hf, hj, hI => by
    unfold upL
    split
    next h0 =>
      subst h0
      exact ⟨fun i h1 h2 _ => hI.1 i h1 h2 (by omega), List.Perm.refl _⟩
    next h0 =>
      obtain ⟨p, hp⟩ : ∃ p, p = (j - 1) / 2 := ⟨_, rfl⟩
      rw [← hp]
      have hpl : p < xs.length := by omega
      split
      next hl =>
        rw [rdp_nat, rdp_nat] at hl
        have ih := upL_heap f (swapL xs (p : Nat) j) p (by omega) (by rw [swapL_length]; omega) ?_
        · rw [swapL_length] at ih
          exact ⟨ih.1, ih.2.trans (swap_perm xs p j hpl hj)⟩
        rw [swapL_length]
        refine ⟨fun i h1 h2 h3 => ?_, fun h4 i h1 h2 h3 => ?_⟩
        · rw [swap_get _ _ _ _ hpl hj, swap_get _ _ _ _ hpl hj]
          by_cases c1 : i = j
          · subst c1
            rw [← hp, if_neg (by omega), if_pos rfl, if_pos rfl]
            exact leB_of_less hl
          · rw [if_neg c1, if_neg h3]
            by_cases c2 : (i - 1) / 2 = j
            · rw [if_pos c2, hp]
              exact hI.2 (by omega) i h1 h2 c2
            · rw [if_neg c2]
              by_cases c3 : (i - 1) / 2 = p
              · rw [if_pos c3]
                refine leB_trans (leB_of_less hl) ?_
                rw [← c3]
                exact hI.1 i h1 h2 c1
              · rw [if_neg c3]
                exact hI.1 i h1 h2 c1
        · rw [swap_get _ _ _ _ hpl hj, swap_get _ _ _ _ hpl hj, if_neg (by omega), if_neg (by omega), if_neg (show ¬ i = p by omega)]
          have k1 := hI.1 p h4 (by omega) (by omega)
          by_cases c1 : i = j
          · rw [if_pos c1]; exact k1
          · rw [if_neg c1]
            refine leB_trans k1 ?_
            rw [← h3]
            exact hI.1 i h1 h2 c1
      next hl =>
        rw [rdp_nat, rdp_nat] at hl
        refine ⟨fun i h1 h2 _ => ?_, List.Perm.refl _⟩
        by_cases c1 : i = j
        · subst c1
          rw [← hp]
          exact leB_of_not hl
        · exact hI.1 i h1 h2 c1
def DownInv (m n : Nat) (xs : List (Int × Int)) (i : Nat) : Prop := (∀ k, 0 < k → k < n → m ≤ (k - 1) / 2 → (k - 1) / 2 ≠ i → leB (xs.getD ((k - 1) / 2) (0, 0)) (xs.getD k (0, 0)) = true) ∧ (0 < i → m ≤ (i - 1) / 2 → ∀ k, 0 < k → k < n → (k - 1) / 2 = i → leB (xs.getD ((i - 1) / 2) (0, 0)) (xs.getD k (0, 0)) = true)
theorem downL_heap (m : Nat) : ∀ (f : Nat) (xs : List (Int × Int)) (i n : Nat), n < i + f → m ≤ i → n ≤ xs.length → DownInv m n xs i → Hp m n (downL f xs i n) ∧ (downL f xs i n).Perm xs ∧ ∀ k, n ≤ k → (i < n → (downL f xs i n).getD k (0, 0) = xs.getD k (0, 0))
  | 0, xs, i, n, hf, hm, hn, hI => ⟨fun k h1 h2 h3 => hI.1 k h1 h2 h3 (by omega), List.Perm.refl _, fun _ _ _ => rfl⟩
  | f + 1, xs, i, n, hf, hm, hn, hI => by
    unfold downL
    split
    next h0 => exact ⟨fun k h1 h2 h3 => hI.1 k h1 h2 h3 (by omega), List.Perm.refl _, fun _ _ _ => rfl⟩
    next h0 =>
      obtain ⟨c, hc⟩ : ∃ c, c = childL xs i n := ⟨_, rfl⟩
      rw [← hc]
      have hc1 : c < n ∧ (c = 2 * i + 1 ∨ c = 2 * i + 2) ∧ ∀ k, 0 < k → k < n → (k - 1) / 2 = i → leB (xs.getD c (0, 0)) (xs.getD k (0, 0)) = true := by
        rw [hc]
        unfold childL
        split
        next h1 =>
          obtain ⟨a1, a2⟩ := h1
          rw [rdp_nat, rdp_nat] at a2
          refine ⟨a1, .inr rfl, fun k k1 k2 k3 => ?_⟩
          have : k = 2 * i + 1 ∨ k = 2 * i + 2 := by omega
          rcases this with rfl | rfl
          · exact leB_of_less a2
          · exact leB_refl _
        next h1 =>
          refine ⟨by omega, .inl rfl, fun k k1 k2 k3 => ?_⟩
          have : k = 2 * i + 1 ∨ k = 2 * i + 2 := by omega
          rcases this with rfl | rfl
          · exact leB_refl _
          · have : ¬ lessB (rdp xs (2 * i + 2 : Nat)) (rdp xs (2 * i + 1 : Nat)) = true := fun h => h1 ⟨k2, h⟩
            rw [rdp_nat, rdp_nat] at this
            exact leB_of_not this
      obtain ⟨hcn, hcc, hb⟩ := hc1
      have hil : i < xs.length := by omega
      have hcl : c < xs.length := by omega
      split
      next hl =>
        rw [rdp_nat, rdp_nat] at hl
        have ih := downL_heap m f (swapL xs (i : Nat) (c : Nat)) c n (by omega) (by omega) (by rw [swapL_length]; exact hn) ?_
        · refine ⟨ih.1, ih.2.1.trans (swap_perm xs i c hil hcl), fun k hk hi => ?_⟩
          rw [ih.2.2 k hk (by omega), swap_get _ _ _ _ hil hcl, if_neg (by omega), if_neg (by omega)]
        refine ⟨fun k h1 h2 h3 h4 => ?_, fun h4 h5 k h1 h2 h3 => ?_⟩
        · rw [swap_get _ _ _ _ hil hcl, swap_get _ _ _ _ hil hcl, if_neg h4]
          by_cases c1 : (k - 1) / 2 = i
          · rw [if_pos c1]
            by_cases c2 : k = c
            · rw [if_pos c2]
              exact leB_of_less hl
            · rw [if_neg c2, if_neg (by omega)]
              exact hb k h1 h2 c1
          · rw [if_neg c1, if_neg (show ¬ k = c by omega)]
            by_cases c2 : k = i
            · subst c2
              rw [if_pos rfl]
              exact hI.2 h1 h3 c (by omega) hcn (by omega)
            · rw [if_neg c2]
              exact hI.1 k h1 h2 h3 c1
        · have e : (c - 1) / 2 = i := by omega
          rw [e] at h5 ⊢
          rw [swap_get _ _ _ _ hil hcl, swap_get _ _ _ _ hil hcl, if_neg (by omega), if_pos rfl, if_neg (by omega), if_neg (by omega)]
          rw [← h3]
          exact hI.1 k h1 h2 (by omega) (by omega)
      next hl =>
        rw [rdp_nat, rdp_nat] at hl
        refine ⟨fun k h1 h2 h3 => ?_, List.Perm.refl _, fun _ _ _ => rfl⟩
        by_cases c1 : (k - 1) / 2 = i
        · rw [c1]
          exact leB_trans (leB_of_not hl) (hb k h1 h2 c1)
        · exact hI.1 k h1 h2 h3 c1
theorem heap_top {n : Nat} {xs : List (Int × Int)} (h : Hp 0 n xs) : ∀ i, i < n → leB (xs.getD 0 (0, 0)) (xs.getD i (0, 0)) = true := by
  intro i
  induction i using Nat.strongRecOn with
  | _ i ih =>
    intro hi
    by_cases h0 : i = 0
    · subst h0; exact leB_refl _
    · exact leB_trans (ih ((i - 1) / 2) (by omega) (by omega)) (h i (by omega) hi (by omega))
/-- Put in its place. -/
def insL (o : Int × Int) : List (Int × Int) → List (Int × Int)
  | [] => [o]
  | x :: l => if lessB x o then x :: insL o l else o :: x :: l
theorem insL_perm (o : Int × Int) : ∀ l, (insL o l).Perm (o :: l)
  | [] => List.Perm.refl _
  | x :: l => by
    unfold insL
    split
    · exact ((insL_perm o l).cons x).trans (List.Perm.swap _ _ _)
    · exact List.Perm.refl _
theorem insL_length (o : Int × Int) (l : List (Int × Int)) : (insL o l).length = l.length + 1 := (insL_perm o l).length_eq
/-- Falling. -/
def Srt (l : List (Int × Int)) : Prop := l.Pairwise (fun a b => leB a b = true)
theorem insL_srt (o : Int × Int) : ∀ l, Srt l → Srt (insL o l)
  | [], _ => by simp [insL, Srt]
  | x :: l, h => by
    have h2 := List.pairwise_cons.1 h
    unfold insL
    split
    next h1 =>
      refine List.pairwise_cons.2 ⟨fun y hy => ?_, insL_srt o l h2.2⟩
      rcases List.mem_cons.1 ((insL_perm o l).mem_iff.1 hy) with rfl | hy
      · exact leB_of_less h1
      · exact h2.1 y hy
    next h1 =>
      refine List.pairwise_cons.2 ⟨fun y hy => ?_, h⟩
      rcases List.mem_cons.1 hy with rfl | hy
      · exact leB_of_not h1
      · exact leB_trans (leB_of_not h1) (h2.1 y hy)
theorem srt_unique : ∀ {l m : List (Int × Int)}, l.Perm m → Srt l → Srt m → l = m
  | [], m, h, _, _ => by rw [List.nil_perm] at h; exact h.symm
  | x :: l, [], h, _, _ => by rw [List.perm_nil] at h; cases h
  | x :: l, y :: m, h, hl, hm => by
    have a := List.pairwise_cons.1 hl
    have b := List.pairwise_cons.1 hm
    have e : x = y := by
      rcases List.mem_cons.1 (h.mem_iff.1 (List.mem_cons_self (a := x) (l := l))) with e | e
      · exact e
      · rcases List.mem_cons.1 (h.mem_iff.2 (List.mem_cons_self (a := y) (l := m))) with f | f
        · exact f.symm
        · exact leB_antisymm (a.1 y f) (b.1 x e)
    subst e
    rw [srt_unique (h.cons_inv) a.2 b.2]
/-- A heap has the elements of a falling list. -/
structure QS (xs l : List (Int × Int)) : Prop where
  heap : Hp 0 xs.length xs
  perm : xs.Perm l
  srt : Srt l
theorem QS.nil : QS [] [] := ⟨fun i _ h _ => by simp at h, List.Perm.refl _, List.Pairwise.nil⟩
theorem QS.length {xs l : List (Int × Int)} (h : QS xs l) : xs.length = l.length := h.perm.length_eq
theorem QS.push {xs l : List (Int × Int)} (h : QS xs l) (o : Int × Int) : QS (heapPushL xs o) (insL o l) := by
  have hl : (xs ++ [o]).length = xs.length + 1 := by simp
  have k := upL_heap (xs.length + 1) (xs ++ [o]) xs.length (by omega) (by omega) ?_
  · refine ⟨?_, (k.2.trans ?_).trans (insL_perm o l).symm, insL_srt o l h.srt⟩
    · unfold heapPushL
      rw [upL_length]
      exact k.1
    · exact (List.perm_append_comm).trans (h.perm.cons o)
  · have g : ∀ i, i < xs.length → (xs ++ [o]).getD i (0, 0) = xs.getD i (0, 0) := fun i hi => by
      simp [List.getD_eq_getElem?_getD, List.getElem?_append_left hi]
    refine ⟨fun i h1 h2 h3 => ?_, fun h4 i h1 h2 h3 => by omega⟩
    rw [g _ (by omega), g _ (by omega)]
    exact h.heap i h1 (by omega) (by omega)
theorem take_getD (xs : List (Int × Int)) (n k : Nat) (h : k < n) : (xs.take n).getD k (0, 0) = xs.getD k (0, 0) := by
  simp [List.getD_eq_getElem?_getD, h]
theorem QS.pop {xs l : List (Int × Int)} {x : Int × Int} (h : QS xs (x :: l)) : xs.getD 0 (0, 0) = x ∧ QS (popL xs) l := by
  have hlen := h.length
  simp only [List.length_cons] at hlen
  obtain ⟨n, hn⟩ : ∃ n, n = l.length := ⟨_, rfl⟩
  have hx : xs.length = n + 1 := by omega
  have hsp := swap_perm xs 0 n (by omega) (by omega)
  have g := swap_get xs 0 n
  have k := downL_heap 0 (n + 1) (swapL xs (0 : Nat) (n : Nat)) 0 n (by omega) (by omega) (by rw [swapL_length]; omega) ?_
  · have e : heapPopL xs = downL (n + 1) (swapL xs (0 : Nat) (n : Nat)) 0 n := by unfold heapPopL; rw [hx]; rfl
    have ep : popL xs = (heapPopL xs).take n := by unfold popL; rw [hx]; rfl
    rw [← e] at k
    obtain ⟨k1, k2, k3⟩ := k
    have hl2 := heapPopL_length xs
    have k4 : (heapPopL xs).getD n (0, 0) = xs.getD 0 (0, 0) := by
      by_cases h0 : 0 < n
      · rw [k3 n (Nat.le_refl _) h0, g n (by omega) (by omega), if_pos rfl]
      · have : n = 0 := by omega
        subst this
        rw [e, downL, if_pos (by omega), g 0 (by omega) (by omega), if_pos rfl]
    have k5 : heapPopL xs = popL xs ++ [xs.getD 0 (0, 0)] := by
      rw [ep, ← k4]
      have : (heapPopL xs).getD n (0, 0) = (heapPopL xs)[n]'(by omega) := by simp [List.getD_eq_getElem?_getD, hl2, hx]
      rw [this, List.take_append_getElem, List.take_of_length_le (by omega)]
    have k6 : xs.Perm (xs.getD 0 (0, 0) :: popL xs) := by
      have := (k2.trans hsp).symm
      rw [k5] at this
      exact this.trans List.perm_append_comm
    have hb : ∀ y ∈ xs, leB (xs.getD 0 (0, 0)) y = true := by
      intro y hy
      obtain ⟨i, hi, rfl⟩ := List.getElem_of_mem hy
      have := heap_top h.heap i hi
      rwa [show xs.getD i (0, 0) = xs[i] by simp [List.getD_eq_getElem?_getD, hi]] at this
    have hs := List.pairwise_cons.1 h.srt
    have hx0 : xs.getD 0 (0, 0) = x := by
      refine leB_antisymm (hb x (h.perm.mem_iff.2 List.mem_cons_self)) ?_
      have : xs.getD 0 (0, 0) ∈ xs := k6.mem_iff.2 List.mem_cons_self
      rcases List.mem_cons.1 (h.perm.mem_iff.1 this) with e | e
      · rw [e]; exact leB_refl _
      · exact hs.1 _ e
    refine ⟨hx0, ?_, ?_, hs.2⟩
    · have hpl : (popL xs).length = n := by rw [ep, List.length_take, hl2]; omega
      intro i h1 h2 h3
      rw [hpl] at h2
      rw [ep, take_getD _ _ _ (by omega), take_getD _ _ _ h2]
      exact k1 i h1 h2 h3
    · rw [hx0] at k6
      exact (k6.symm.trans h.perm).cons_inv
  · refine ⟨fun i h1 h2 _ h3 => ?_, fun h4 => by omega⟩
    rw [g _ (by omega) (by omega), g _ (by omega) (by omega), if_neg (by omega), if_neg (by omega), if_neg (by omega), if_neg (by omega)]
    exact h.heap i h1 (by omega) (by omega)
theorem initL_heap : ∀ (k : Nat) (xs : List (Int × Int)) (n : Nat), n = xs.length → Hp k n xs → Hp 0 n (initL k xs n) ∧ (initL k xs n).Perm xs
  | 0, xs, n, _, h => ⟨h, List.Perm.refl _⟩
  | k + 1, xs, n, hn, h => by
    have d := downL_heap k (n + 1) xs k n (by omega) (Nat.le_refl _) (by omega) ⟨fun i h1 h2 h3 h4 => h i h1 h2 (by omega), fun h1 h2 => by omega⟩
    have ih := initL_heap k (downL (n + 1) xs k n) n (by rw [downL_length]; exact hn) d.1
    rw [initL]
    exact ⟨ih.1, ih.2.trans d.2.1⟩
theorem QS.init {xs l : List (Int × Int)} (p : xs.Perm l) (s : Srt l) : QS (initL (xs.length / 2) xs xs.length) l := by
  have h := initL_heap (xs.length / 2) xs xs.length rfl (fun i h1 h2 h3 => by omega)
  refine ⟨?_, h.2.trans p, s⟩
  rw [initL_length]
  exact h.1
theorem QS.drop {xs l : List (Int × Int)} (h : QS xs l) (p : Int × Int → Bool) : QS (initL ((xs.filter p).length / 2) (xs.filter p) (xs.filter p).length) (l.filter p) :=
  QS.init (h.perm.filter p) (List.Pairwise.filter p h.srt)
end Go.Proofs.Ytdhajfimhjbbiaa.Q
