import Derived.Test.YtcmepoakcffpaaaPureCommon
namespace Go.Proofs.Ytcmepoakcffpaaa.Pure
open Go Go.RowKit Go.Proofs.Ytcmepoakcffpaaa.M Go.Proofs.YtcmepoakcffpaaaW.PrintWords Go.Proofs.YtcmepoakcffpaaaW.PrintLast Go.Proofs.YtcmepoakcffpaaaW.PrintMore
set_option linter.unusedVariables false
open Go.Proofs.Ytcmepoakcffpaaa.CP
/-- A page of the law: kind, depth, next stay. -/
def Pg9 (s : ByteArray) : Pg := ⟨4, 2, 9, s⟩
/-- A page that still has all cells but one key's. -/
def Keeps (was : List B) (key : List UInt8) (x : S23) : Prop := x.f0 = 4 ∧ x.f1 = 2 ∧ x.f2 = 9 ∧ ∃ l, IsP ⟨4, 2, 9, x.f3⟩ l ∧ ∀ c ∈ was, c.kk ≠ key → findB l c.kk = some c
def Zero (x : S23) : Prop := x = ⟨0, 0, 0, ⟨#[]⟩⟩
theorem eqz (x : S23) : ((x.f0 == 0 && (x.f1 == 0 && (x.f2 == 0 && (x.f3.toList == ([] : List UInt8))))) = true) ↔ Zero x := by
  simp only [Bool.and_eq_true, beq_iff_eq]
  unfold Zero
  obtain ⟨a, b, c, d⟩ := x
  simp only [S23.mk.injEq]
  have : d.toList = [] ↔ d = ⟨#[]⟩ := by
    have e0 : (⟨#[]⟩ : ByteArray).toList = [] := by rw [Lib.toList_data]
    exact ⟨fun h => toList_eq.1 (h.trans e0.symm), fun h => by rw [h]; exact e0⟩
  rw [this]
theorem rd25 (cs : List S25) (i : Nat) (hx : i < cs.length) : rd_T25 cs (i : Int) = cs[i] := by unfold rd_T25; simp [List.getD, hx]
theorem rd23 (cs : List S23) (i : Nat) (hx : i < cs.length) : rd_T23 cs (i : Int) = cs[i] := by unfold rd_T23; simp [List.getD, hx]
/-- All cells are looked for in one page. -/
theorem others_l2 (cs : List S25) (hc : cs.length < 300) (ps : List S23) (hp : ps.length = 3) (j : Nat) (key a1 : ByteArray) (a2 a3 : Int) (s : ByteArray) (l : List B) (hP : IsP ⟨4, 2, 9, s⟩ l) (hk : ∀ x ∈ cs, (toB x).kk ≠ key.data.toList → findB l (toB x).kk = some (toB x)) (K : Nat) (r : Option Bool)
    (hr : ∀ k, K ≤ k → honeycomblaw8_BucketOthers.l1 k cs ps (ps.length : Int) ((j + 1 : Nat) : Int) key a1 a2 a3 = r) (hj : j < 3) :
    ∀ (d i k : Nat), i + d = cs.length → d + 1 + K ≤ k → honeycomblaw8_BucketOthers.l2 k cs ps (ps.length : Int) (j : Int) cs (cs.length : Int) (i : Int) key a1 a2 a3 4 2 9 s = r
  | 0, i, k, hi, hkk => by
    obtain ⟨k, rfl⟩ : ∃ m, k = m + 1 := ⟨k - 1, by omega⟩
    rw [honeycomblaw8_BucketOthers.l2, if_neg (by omega), if_pos rfl, if_pos rfl, if_pos rfl, wrap_succ (by omega)]
    exact hr k (by omega)
  | d + 1, i, k, hi, hkk => by
    have ih := others_l2 cs hc ps hp j key a1 a2 a3 s l hP hk K r hr hj d (i + 1)
    obtain ⟨k, rfl⟩ : ∃ m, k = m + 1 := ⟨k - 1, by omega⟩
    have hx : i < cs.length := by omega
    rw [honeycomblaw8_BucketOthers.l2, if_pos (by omega), if_pos (by omega), if_pos (by omega), rd25 cs i hx]
    have hk' := hk cs[i] (List.getElem_mem hx)
    generalize cs[i] = x at *
    unfold bucket_Find.f
    rw [hP.cells, Option.bind_some]
    dsimp only
    rw [wrap_succ (by omega)]
    by_cases he : x.f0.toList = key.toList
    · rw [if_pos he]
      exact ih k (by omega) (by omega)
    · rw [if_neg he]
      have hf := hk' (fun e => he (by rw [Lib.toList_data, Lib.toList_data]; exact e))
      have hf' : findB l x.f0.data.toList = some (toB x) := hf
      have hd : findD l x.f0.data.toList = toB x := by unfold findD; rw [hf']; rfl
      rw [hf', hd, if_pos (show (some (toB x)).isSome = true from rfl), if_neg]
      · exact ih k (by omega) (by omega)
      · simp [toB]
theorem others_l1 (cs : List S25) (hc : cs.length < 300) (ps : List S23) (hp : ps.length = 3) (key a1 : ByteArray) (a2 a3 : Int) (hP : ∀ x ∈ ps, Zero x ∨ Keeps (cs.map toB) key.data.toList x) :
    ∀ (d i : Nat), i + d = ps.length → ∃ K, ∀ k, K ≤ k → honeycomblaw8_BucketOthers.l1 k cs ps (ps.length : Int) (i : Int) key a1 a2 a3 = some true
  | 0, i, hi => by
    refine ⟨1, fun k hk => ?_⟩
    obtain ⟨k, rfl⟩ : ∃ m, k = m + 1 := ⟨k - 1, by omega⟩
    rw [honeycomblaw8_BucketOthers.l1, if_neg (by omega)]
  | d + 1, i, hi => by
    obtain ⟨K, ih⟩ := others_l1 cs hc ps hp key a1 a2 a3 hP d (i + 1) (by omega)
    refine ⟨cs.length + 2 + K, fun k hk => ?_⟩
    obtain ⟨k, rfl⟩ : ∃ m, k = m + 1 := ⟨k - 1, by omega⟩
    have hx : i < ps.length := by omega
    rw [honeycomblaw8_BucketOthers.l1, if_pos (by omega), if_pos (by omega), if_pos (by omega), rd23 ps i hx]
    have hP' := hP ps[i] (List.getElem_mem hx)
    generalize ps[i] = x at *
    by_cases hz : Zero x
    · rw [if_pos ((eqz x).2 hz), wrap_succ (by omega)]
      exact ih k (by omega)
    · rw [if_neg (fun h => hz ((eqz x).1 h))]
      obtain ⟨h0, h1, h2, l, hl, hk2⟩ := hP'.resolve_left hz
      rw [h0, h1, h2]
      exact others_l2 cs hc ps hp i key a1 a2 a3 x.f3 l hl (fun y hy => hk2 (toB y) (List.mem_map.2 ⟨y, hy, rfl⟩)) K _ (fun k2 hk2 => ih k2 hk2) (by omega) cs.length 0 k (by omega) (by omega)
theorem ofTo (l : List B) : (l.map ofB).map toB = l := by
  rw [List.map_map]
  exact List.map_id'' toB_of l
theorem others_l0 (xs : List S25) (hl : xs.length ≤ 30) (key a1 : ByteArray) (a2 a3 : Int) : ∀ (d i : Nat) (s : ByteArray) (l : List B), i + d = xs.length → IsP ⟨4, 2, 9, s⟩ l → ∃ K, ∀ k, K ≤ k → honeycomblaw8_BucketOthers.l0 k xs (xs.length : Int) (i : Int) key a1 a2 a3 4 2 9 s = some true
  | 0, i, s, l, hi, hp => by
    have hn := len_cellsP ⟨4, 2, 9, s⟩
    rw [hp.cells] at hn
    dsimp only at hn
    have hmem : ∀ c ∈ l, c.kk ≠ key.data.toList → findB l c.kk = some c := fun c hc _ => findB_mem hp.good.rise hc
    -- what Set leaves
    obtain ⟨p1, e1, hs, h1⟩ : ∃ p1 e1, setP ⟨4, 2, 9, s⟩ ⟨key, a1, a2, a3⟩ = (p1, e1) ∧ (p1 = Pg.none ∨ p1.kind = 4 ∧ p1.depth = 2 ∧ p1.next = 9 ∧ ∃ l', IsP ⟨4, 2, 9, p1.body⟩ l' ∧ ∀ c ∈ l, c.kk ≠ key.data.toList → findB l' c.kk = some c) := by
      cases hr : right (B.cl ⟨key, a1, a2, a3⟩) with
      | false => exact ⟨_, _, hp.set_arg hr, .inl rfl⟩
      | true =>
        by_cases ht : tot (setB l ⟨key, a1, a2, a3⟩) ≤ 239
        · obtain ⟨b, hb, hp'⟩ := hp.set hr ht
          refine ⟨_, _, hb, .inr ⟨rfl, rfl, rfl, _, hp', fun c hc hne => ?_⟩⟩
          rw [find_setB hp.good.rise, if_neg hne]
          exact hmem c hc hne
        · exact ⟨_, _, hp.set_long hr ht, .inl rfl⟩
    obtain ⟨p2, e2, hs2, h2⟩ : ∃ p2 e2, cutP ⟨4, 2, 9, s⟩ key.data.toList = (p2, e2) ∧ (p2 = Pg.none ∨ p2.kind = 4 ∧ p2.depth = 2 ∧ p2.next = 9 ∧ ∃ l', IsP ⟨4, 2, 9, p2.body⟩ l' ∧ ∀ c ∈ l, c.kk ≠ key.data.toList → findB l' c.kk = some c) := by
      cases hf : findB l key.data.toList with
      | none => exact ⟨_, _, hp.cut_none hf, .inl rfl⟩
      | some y =>
        obtain ⟨b, hb, hp'⟩ := hp.cut hf
        refine ⟨_, _, hb, .inr ⟨rfl, rfl, rfl, _, hp', fun c hc hne => ?_⟩⟩
        rw [find_cutB hp.good.rise, if_neg hne]
        exact hmem c hc hne
    have S1 := Set_is 4 2 9 s ⟨key, a1, a2, a3⟩ hs
    have S2 := Cut_is 4 2 9 s key hs2
    dsimp only at S1
    have hat : ∀ a b c d e, honeycomblaw8_at.f a b c d e = some (a, b, c, d) := fun _ _ _ _ _ => rfl
    have hz : ∀ p : Pg, p = Pg.none → Zero ⟨p.kind, p.depth, p.next, p.body⟩ := by rintro p rfl; rfl
    have hall : ∀ x ∈ [(⟨4, 2, 9, s⟩ : S23), ⟨p1.kind, p1.depth, p1.next, p1.body⟩, ⟨p2.kind, p2.depth, p2.next, p2.body⟩], Zero x ∨ Keeps ((l.map ofB).map toB) key.data.toList x := by
      rw [ofTo]
      intro x hx
      simp only [List.mem_cons, List.not_mem_nil, or_false] at hx
      rcases hx with rfl | rfl | rfl
      · exact .inr ⟨rfl, rfl, rfl, l, hp, hmem⟩
      · exact h1.imp (hz p1) (fun h => h)
      · exact h2.imp (hz p2) (fun h => h)
    obtain ⟨K, hK⟩ := others_l1 (l.map ofB) (by simpa using hn) [(⟨4, 2, 9, s⟩ : S23), ⟨p1.kind, p1.depth, p1.next, p1.body⟩, ⟨p2.kind, p2.depth, p2.next, p2.body⟩] rfl key a1 a2 a3 hall 3 0 rfl
    refine ⟨K + 1, fun k hk => ?_⟩
    obtain ⟨k, rfl⟩ : ∃ m, k = m + 1 := ⟨k - 1, by omega⟩
    rw [honeycomblaw8_BucketOthers.l0, if_neg (by omega)]
    unfold bucket_Cells.f
    rw [hp.cells, Option.bind_some, S1, Option.bind_some]
    simp only [hat, S2, Option.bind_some]
    exact hK k (by omega)
  | d + 1, i, s, l, hi, hp => by
    have ih := others_l0 xs hl key a1 a2 a3 d (i + 1)
    have hx : i < xs.length := by omega
    have go : ∀ (k : Nat) (p : Pg) (e : Int), setP ⟨4, 2, 9, s⟩ (toB xs[i]) = (p, e) → honeycomblaw8_BucketOthers.l0 (k + 1) xs (xs.length : Int) (i : Int) key a1 a2 a3 4 2 9 s = if e = 0 then honeycomblaw8_BucketOthers.l0 k xs (xs.length : Int) ((i + 1 : Nat) : Int) key a1 a2 a3 p.kind p.depth p.next p.body else honeycomblaw8_BucketOthers.l0 k xs (xs.length : Int) ((i + 1 : Nat) : Int) key a1 a2 a3 4 2 9 s := by
      intro k p e h
      rw [honeycomblaw8_BucketOthers.l0, if_pos (by omega), if_pos (by omega), if_pos (by omega), rd25 xs i hx, wrap_succ (by omega)]
      have := Set_is 4 2 9 s (toB xs[i]) h
      unfold toB at this
      dsimp only at this
      rw [this, Option.bind_some]
    have same : ∀ p e, e ≠ 0 → setP ⟨4, 2, 9, s⟩ (toB xs[i]) = (p, e) → ∃ K, ∀ k, K ≤ k → honeycomblaw8_BucketOthers.l0 k xs (xs.length : Int) (i : Int) key a1 a2 a3 4 2 9 s = some true := by
      intro p e he h
      obtain ⟨K, hK⟩ := ih s l (by omega) hp
      refine ⟨K + 1, fun k hk => ?_⟩
      obtain ⟨k, rfl⟩ : ∃ m, k = m + 1 := ⟨k - 1, by omega⟩
      rw [go k p e h, if_neg he]
      exact hK k (by omega)
    cases hr : right (toB xs[i]).cl with
    | false => exact same _ _ (by decide) (hp.set_arg hr)
    | true =>
      by_cases ht : tot (setB l (toB xs[i])) ≤ 239
      · obtain ⟨b, hb, hp'⟩ := hp.set hr ht
        obtain ⟨K, hK⟩ := ih b _ (by omega) hp'
        refine ⟨K + 1, fun k hk => ?_⟩
        obtain ⟨k, rfl⟩ : ∃ m, k = m + 1 := ⟨k - 1, by omega⟩
        rw [go k _ _ hb, if_pos rfl]
        exact hK k (by omega)
      · exact same _ _ (by decide) (hp.set_long hr ht)
theorem Zeros240 : honeycombref1_Zeros.f 240 = some zeros240 := by
  unfold honeycombref1_Zeros.f zeros240
  have h : (mx 240 0 : Int) = 240 := by decide
  rw [h]
  rfl
theorem others_l0' (xs : List S25) (a1 : S25) : ∃ K, xs.length ≤ 30 → ∀ k, K ≤ k → honeycomblaw8_BucketOthers.l0 k xs (xs.length : Int) (0 : Int) a1.f0 a1.f1 a1.f2 a1.f3 4 2 9 zeros240 = some true := by
  by_cases h : xs.length ≤ 30
  · obtain ⟨K, hK⟩ := others_l0 xs h a1.f0 a1.f1 a1.f2 a1.f3 xs.length 0 zeros240 [] (by omega) (isP_empty 4 2 9 (.inr rfl))
    exact ⟨K, fun _ => hK⟩
  · exact ⟨0, fun h2 => absurd h2 h⟩
theorem BucketOthers : honeycomblaw8_BucketOthers.Pure := by
  intro l0 a1 h0 _ hw
  obtain ⟨K, hK⟩ := others_l0' l0 a1
  refine ⟨K + 1, ?_⟩
  unfold honeycomblaw8_BucketOthers.f
  have hal : honeycomblaw8_alive.f = some true := rfl
  by_cases h60 : (l0.length : Int) > 30
  · rw [if_pos h60, honeycomblaw8_BucketOthers.j0, if_pos rfl, hal]
    rfl
  by_cases h1 : (a1.f0.size : Int) > 60
  · rw [if_neg h60, if_pos h1, honeycomblaw8_BucketOthers.j0, if_pos rfl, hal]
    rfl
  rw [if_neg h60, if_neg h1, hal, Option.bind_some, Bool.not_true, honeycomblaw8_BucketOthers.j0, if_neg (by simp)]
  unfold honeycomblaw8_Empty.f
  rw [Zeros240, Option.bind_some, Option.bind_some]
  exact hK (by omega) K (Nat.le_refl _)

end Go.Proofs.Ytcmepoakcffpaaa.Pure
