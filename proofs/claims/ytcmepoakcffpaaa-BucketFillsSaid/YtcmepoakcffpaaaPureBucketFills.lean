import Derived.Test.YtcmepoakcffpaaaPureCommon
namespace Go.Proofs.Ytcmepoakcffpaaa.Pure
open Go Go.RowKit Go.Proofs.Ytcmepoakcffpaaa.M Go.Proofs.YtcmepoakcffpaaaW.PrintWords Go.Proofs.YtcmepoakcffpaaaW.PrintLast Go.Proofs.YtcmepoakcffpaaaW.PrintMore
set_option linter.unusedVariables false
open Go.Proofs.Ytcmepoakcffpaaa.CP
theorem CellSize_is (c : B) (h : right c.cl = true) : honeycombref1_CellSize.f c.k c.v c.bl c.sz = some ((csize c.cl : Nat) : Int) := by
  obtain ⟨_, h2, h3⟩ := right_of h
  unfold honeycombref1_CellSize.f
  rw [csize_of]
  unfold wrap64
  split
  · simp only [Option.some.injEq]; omega
  · simp only [Option.some.injEq]; omega
theorem Room_is (k d n : Int) (s : ByteArray) {l : List B} (h : IsP ⟨k, d, n, s⟩ l) : bucket_Room.f k d n s = some (239 - ((tot l : Nat) : Int)) := by
  unfold bucket_Room.f
  rw [h.room]
theorem fills_l1 (cs : List S25) (hc : cs.length < 300) : ∀ (d i k : Nat) (s : ByteArray) (l : List B), i + d = cs.length → d + 1 ≤ k → IsP ⟨3, 0, 0, s⟩ l → (∀ x ∈ cs, right (toB x).cl = true ∧ ∃ y, findB l (toB x).kk = some y) → honeycomblaw8_BucketFills.l1 k cs (cs.length : Int) (i : Int) 3 0 0 s = some true
  | 0, i, k, s, l, hi, hk, hp, hf => by
    obtain ⟨k, rfl⟩ : ∃ m, k = m + 1 := ⟨k - 1, by omega⟩
    rw [honeycomblaw8_BucketFills.l1, if_neg (by omega)]
  | d + 1, i, k, s, l, hi, hk, hp, hf => by
    obtain ⟨k, rfl⟩ : ∃ m, k = m + 1 := ⟨k - 1, by omega⟩
    have hx : i < cs.length := by omega
    have e : rd_T25 cs (i : Int) = cs[i] := by unfold rd_T25; simp [List.getD, hx]
    rw [honeycomblaw8_BucketFills.l1, if_pos (by omega), if_pos (by omega), if_pos (by omega), e]
    obtain ⟨hr, y, hy⟩ := hf cs[i] (List.getElem_mem hx)
    obtain ⟨r1, r2, _⟩ := right_of hr
    have hcr : right (B.cl ⟨cs[i].f0, ⟨#[]⟩, 0, 0⟩) = true := right_mk r1 r2 (show 0 ≤ 40 from by omega)
    have hy' : findB l (B.kk ⟨cs[i].f0, ⟨#[]⟩, 0, 0⟩) = some y := hy
    have ht := tot_set_had hp.good.rise hy'
    have hs : csize (B.cl ⟨cs[i].f0, ⟨#[]⟩, 0, 0⟩) ≤ csize y.cl := by
      have a1 := csize_of ⟨cs[i].f0, ⟨#[]⟩, 0, 0⟩
      have a2 := csize_of y
      have a3 := kk_size (findB_some hy').2
      have a4 : (⟨#[]⟩ : ByteArray).size = 0 := rfl
      rw [if_pos rfl] at a1
      dsimp only at a1 a3
      omega
    have hle := hp.le
    obtain ⟨b, hb, hp'⟩ := hp.set hcr (by omega)
    have := Set_is 3 0 0 s ⟨cs[i].f0, ⟨#[]⟩, 0, 0⟩ hb
    dsimp only at this
    rw [this, Option.bind_some]
    dsimp only
    rw [if_pos rfl, wrap_succ (by omega)]
    refine fills_l1 cs hc d (i + 1) k b _ (by omega) (by omega) hp' (fun x hx => ⟨(hf x hx).1, ?_⟩)
    rw [find_setB hp.good.rise]
    split
    · exact ⟨_, rfl⟩
    · exact (hf x hx).2
theorem fills_l0 (ks : List ByteArray) (hl : ks.length ≤ 60) (sz : Nat) (hz : sz ≤ 40) : ∀ (d i k : Nat) (s : ByteArray) (l : List B), i + d = ks.length → 3 * d + 400 ≤ k → IsP ⟨3, 0, 0, s⟩ l → honeycomblaw8_BucketFills.l0 k (sz : Int) ks (ks.length : Int) (i : Int) 3 0 0 s = some true
  | 0, i, k, s, l, hi, hk, hp => by
    obtain ⟨k, rfl⟩ : ∃ m, k = m + 1 := ⟨k - 1, by omega⟩
    rw [honeycomblaw8_BucketFills.l0, if_neg (by omega)]
    have hn := len_cellsP ⟨3, 0, 0, s⟩
    unfold bucket_Cells.f
    rw [hp.cells] at hn ⊢
    rw [Option.bind_some]
    refine fills_l1 _ (by simpa using hn) (l.map ofB).length 0 k s l (by simp) (by rw [List.length_map]; dsimp only at hn; omega) hp (fun x hx => ?_)
    obtain ⟨y, hy, rfl⟩ := List.mem_map.1 hx
    exact ⟨hp.good.right y hy, y, findB_mem hp.good.rise hy⟩
  | d + 1, i, k, s, l, hi, hk, hp => by
    have ih := fills_l0 ks hl sz hz d (i + 1)
    obtain ⟨k, rfl⟩ : ∃ m, k = m + 1 := ⟨k - 1, by omega⟩
    have hx : i < ks.length := by omega
    generalize rdOf ByteArray.empty ks (i : Int) = key at *
    rw [honeycomblaw8_BucketFills.l0, if_pos (by omega), if_pos (by omega), if_pos (by omega)]
    generalize rdOf ByteArray.empty ks (i : Int) = key
    have hK : honeycombref1_Key.f key = some (decide (1 ≤ key.size ∧ key.size ≤ 16)) := by
      unfold honeycombref1_Key.f
      by_cases h1 : (key.size : Int) ≥ 1
      · rw [if_pos h1]
        congr 1
        rw [Bool.eq_iff_iff, decide_eq_true_iff, decide_eq_true_iff]
        omega
      · rw [if_neg h1]
        congr 1
        symm
        rw [decide_eq_false_iff_not]
        omega
    rw [hK, Option.bind_some]
    by_cases hk2 : ¬ (1 ≤ key.size ∧ key.size ≤ 16)
    · rw [if_neg (by simpa using hk2)]
    rw [Classical.not_not] at hk2
    rw [if_pos (by simpa using hk2), Room_is 3 0 0 s hp, Option.bind_some]
    obtain ⟨z, hZ, hz1⟩ : ∃ z, honeycombref1_Zeros.f (sz : Int) = some z ∧ z.size = sz := by
      refine ⟨strOfNums (List.replicate sz 0), ?_, by rw [size_data, strOfNums_data]; simp⟩
      unfold honeycombref1_Zeros.f
      have hm : (mx (sz : Int) 0 : Int) = sz := by unfold mx; omega
      rw [hm, if_pos (by omega), if_pos (by omega)]
      simp
    rw [hZ, Option.bind_some]
    have hc : right (B.cl ⟨key, z, 0, 0⟩) = true := right_mk hk2.1 hk2.2 (by omega)
    have hS : honeycombref1_CellSize.f key z 0 0 = some ((csize (B.cl ⟨key, z, 0, 0⟩) : Nat) : Int) := CellSize_is ⟨key, z, 0, 0⟩ hc
    have hcs : csize (B.cl ⟨key, z, 0, 0⟩) ≤ 60 := by rw [csize_of, if_pos rfl]; show 4 + key.size + z.size ≤ 60; omega
    have hle := hp.le
    -- the two ways, as one
    have hj : ∀ need : Int, (tot (setB l ⟨key, z, 0, 0⟩) : Nat) = (tot l : Nat) + need → honeycomblaw8_BucketFills.j2 k (sz : Int) (239 - ((tot l : Nat) : Int)) need ks (ks.length : Int) (i : Int) 3 0 0 s key z 0 0 = some true := by
      intro need hneed
      obtain ⟨k, rfl⟩ : ∃ m, k = m + 1 + 1 := ⟨k - 2, by omega⟩
      rw [honeycomblaw8_BucketFills.j2]
      by_cases hfit : tot (setB l ⟨key, z, 0, 0⟩) ≤ 239
      · obtain ⟨b, hb, hp'⟩ := hp.set hc hfit
        have := Set_is 3 0 0 s ⟨key, z, 0, 0⟩ hb
        dsimp only at this
        rw [this, Option.bind_some]
        dsimp only
        rw [if_neg (by rw [show decide (need ≤ 239 - ((tot l : Nat) : Int)) = true from decide_eq_true (by omega)]; decide), if_pos rfl, honeycomblaw8_BucketFills.j3, if_neg (by simp), if_pos rfl, Room_is 3 0 0 b hp', Option.bind_some]
        have hw : wrap64 ((239 - ((tot l : Nat) : Int)) - need) = 239 - ((tot (setB l ⟨key, z, 0, 0⟩) : Nat) : Int) := by unfold wrap64; omega
        rw [hw, if_pos rfl, wrap_succ (by omega)]
        exact ih k b _ (by omega) (by omega) hp'
      · have hb := hp.set_long hc hfit
        have := Set_is 3 0 0 s ⟨key, z, 0, 0⟩ hb
        dsimp only at this
        rw [this, Option.bind_some]
        dsimp only
        rw [if_neg (by rw [show decide (need ≤ 239 - ((tot l : Nat) : Int)) = false from decide_eq_false (by omega)]; decide), if_neg (by decide), honeycomblaw8_BucketFills.j3, if_neg (by decide), if_neg (by decide), wrap_succ (by omega)]
        exact ih k s l (by omega) (by omega) hp
    unfold bucket_Find.f
    rw [hp.cells, Option.bind_some, hS, Option.bind_some]
    dsimp only
    cases hf : findB l key.data.toList with
    | none =>
      rw [if_neg (by simp)]
      refine hj _ ?_
      rw [tot_set_none hp.good.rise (c := ⟨key, z, 0, 0⟩) hf]
      omega
    | some y =>
      have hy := findB_some hf
      have hyr := hp.good.right y hy.1
      have hyS := CellSize_is y hyr
      obtain ⟨_, y2, y3⟩ := right_of hyr
      have hys : csize y.cl ≤ 60 := by rw [csize_of]; split <;> omega
      have e : findD l key.data.toList = y := by unfold findD; rw [hf]; rfl
      have ht := tot_set_had hp.good.rise (c := ⟨key, z, 0, 0⟩) hf
      rw [if_pos (by simp), e, hyS, Option.bind_some]
      refine hj _ ?_
      unfold wrap64
      omega
theorem Zeros240 : honeycombref1_Zeros.f 240 = some zeros240 := by
  unfold honeycombref1_Zeros.f zeros240
  have h : (mx 240 0 : Int) = 240 := by decide
  rw [h]
  rfl
theorem BucketFills : honeycomblaw8_BucketFills.Pure := by
  intro l0 a1 h0 _ hw
  refine ⟨3 * l0.length + 401, ?_⟩
  unfold honeycomblaw8_BucketFills.f
  have hal : honeycomblaw8_alive.f = some true := rfl
  by_cases h60 : (l0.length : Int) > 60
  · rw [if_pos h60, honeycomblaw8_BucketFills.j0, if_pos rfl, hal]
    rfl
  by_cases h1 : a1 < 0
  · rw [if_neg h60, if_pos h1, honeycomblaw8_BucketFills.j0, if_pos rfl, hal]
    rfl
  by_cases h2 : a1 > 40
  · rw [if_neg h60, if_neg h1, if_pos h2, honeycomblaw8_BucketFills.j0, if_pos rfl, hal]
    rfl
  obtain ⟨sz, rfl⟩ := Int.eq_ofNat_of_zero_le (by omega : 0 ≤ a1)
  rw [if_neg h60, if_neg h1, if_neg h2, hal, Option.bind_some, Bool.not_true, honeycomblaw8_BucketFills.j0, if_neg (by simp)]
  unfold honeycomblaw8_Empty.f
  rw [Zeros240, Option.bind_some, Option.bind_some]
  exact fills_l0 l0 (by omega) sz (by omega) l0.length 0 _ zeros240 [] (by omega) (by omega) (isP_empty 3 0 0 (.inl rfl))

end Go.Proofs.Ytcmepoakcffpaaa.Pure
