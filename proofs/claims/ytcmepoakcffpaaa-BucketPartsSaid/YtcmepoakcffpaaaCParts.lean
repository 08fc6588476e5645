import Derived.Test.YtcmepoakcffpaaaCSplit
import Derived.Test.YtcmepoakcffpaaaProg
import Derived.BigRegion
import Derived.BigQuiet
import Derived.Deep.QuietTactic
import Derived.Deep.AppendLies
import Derived.ChangeAlike
import Derived.Outline
import Derived.WalkKit
import Derived.KernelRfl
import Derived.Deep.LoopGhost
import Derived.Deep.RegionLaw
import Derived.Test.YtcmepoakcffpaaaWMore
import Derived.Test.YtcmepoakcffpaaaWKept
import Derived.Test.YtcmepoakcffpaaaLSep
namespace Go.Proofs.Ytcmepoakcffpaaa.SP
open Go Go.RowKit Go.Proofs.YtcmepoakcffpaaaW.PrintWords Go.Proofs.YtcmepoakcffpaaaW.PrintLast Go.Proofs.YtcmepoakcffpaaaW.PrintMore Go.Proofs.Ytcmepoakcffpaaa.L Go.Proofs.Ytcmepoakcffpaaa.CF
set_option linter.unusedVariables false
set_option linter.unusedSimpArgs false
/-! ### cells by the lowest bits of their keys' hashes: plain -/
def hN (s : ByteArray) : Nat := (hash s).toNat
def PN (l : List Ce) (d i : Nat) : List Ce := l.filter (fun x => decide (hN x.1 % 2 ^ d = i))
theorem PN_zero (l : List Ce) : PN l 0 0 = l := by
  unfold PN
  rw [List.filter_eq_self.2]
  intro x _
  simp [Nat.mod_one]
theorem bit_split (h d i : Nat) (hi : i < 2 ^ d) : (h % 2 ^ (d + 1) = i ↔ h / 2 ^ d % 2 = 0 ∧ h % 2 ^ d = i) ∧ (h % 2 ^ (d + 1) = i + 2 ^ d ↔ h / 2 ^ d % 2 = 1 ∧ h % 2 ^ d = i) := by
  have e := @Nat.mod_pow_succ h 2 d
  have hq : h % 2 ^ d < 2 ^ d := Nat.mod_lt _ (Nat.two_pow_pos d)
  rw [e]
  generalize h % 2 ^ d = q at *
  generalize 2 ^ d = m at *
  rcases (by omega : h / m % 2 = 0 ∨ h / m % 2 = 1) with hr | hr
  · rw [hr]; omega
  · rw [hr]; omega
theorem half_PN (l : List Ce) (d i : Nat) (hi : i < 2 ^ d) : half d 0 (PN l d i) = PN l (d + 1) i ∧ half d 1 (PN l d i) = PN l (d + 1) (i + 2 ^ d) := by
  unfold half PN
  rw [List.filter_filter, List.filter_filter]
  constructor
  · refine List.filter_congr (fun x _ => ?_)
    have := (bit_split (hN x.1) d i hi).1
    unfold bitd
    change (decide (hN x.1 / 2 ^ d % 2 = 0) && decide (hN x.1 % 2 ^ d = i)) = _
    rw [← Bool.decide_and]
    exact decide_eq_decide.2 this.symm
  · refine List.filter_congr (fun x _ => ?_)
    have := (bit_split (hN x.1) d i hi).2
    unfold bitd
    change (decide (hN x.1 / 2 ^ d % 2 = 1) && decide (hN x.1 % 2 ^ d = i)) = _
    rw [← Bool.decide_and]
    exact decide_eq_decide.2 this.symm
theorem halves_len (d : Nat) (xs : List Ce) : (half d 0 xs).length + (half d 1 xs).length = xs.length := by
  induction xs with
  | nil => rfl
  | cons x xs ih =>
    unfold half at ih ⊢
    rcases bitd_two d x.1 with h | h
    · rw [List.filter_cons_of_pos (by simpa using h), List.filter_cons_of_neg (by simp [h])]
      simp only [List.length_cons]
      omega
    · rw [List.filter_cons_of_neg (by simp [h]), List.filter_cons_of_pos (by simpa using h)]
      simp only [List.length_cons]
      omega
def sumN (l : List Ce) (d m : Nat) : Nat := ((List.range m).map (fun i => (PN l d i).length)).sum
theorem sumN_succ (l : List Ce) (d m : Nat) : sumN l d (m + 1) = sumN l d m + (PN l d m).length := by
  unfold sumN
  rw [List.range_succ, List.map_append, List.sum_append]
  simp
theorem sumN_all (l : List Ce) : ∀ d, sumN l d (2 ^ d) = l.length
  | 0 => by
    show sumN l 0 1 = _
    rw [sumN_succ, PN_zero]
    simp [sumN]
  | d + 1 => by
    have key : ∀ m, m ≤ 2 ^ d → ((List.range m).map (fun i => (PN l (d + 1) i).length)).sum + ((List.range m).map (fun i => (PN l (d + 1) (i + 2 ^ d)).length)).sum = sumN l d m := by
      intro m hm
      induction m with
      | zero => rfl
      | succ m ih =>
        have := ih (by omega)
        rw [sumN_succ, List.range_succ, List.map_append, List.map_append, List.sum_append, List.sum_append]
        obtain ⟨h1, h2⟩ := half_PN l d m (by omega)
        have h3 := halves_len d (PN l d m)
        rw [h1, h2] at h3
        simp only [List.map_cons, List.map_nil, List.sum_cons, List.sum_nil, Nat.add_zero]
        omega
    have h1 := key (2 ^ d) (Nat.le_refl _)
    rw [sumN_all l d] at h1
    unfold sumN
    rw [show 2 ^ (d + 1) = 2 ^ d + 2 ^ d by rw [Nat.pow_succ]; omega, List.range_add, List.map_append, List.sum_append, List.map_map]
    rw [← h1]
    congr 2
    refine List.map_congr_left (fun i _ => ?_)
    simp only [Function.comp_apply, Nat.add_comm]
theorem PN_mem {l : List Ce} {d i : Nat} {x : Ce} (h : x ∈ PN l d i) : x ∈ l ∧ hN x.1 % 2 ^ d = i := by
  have := List.mem_filter.1 h
  exact ⟨this.1, by simpa using this.2⟩
theorem PN_len (l : List Ce) (d i : Nat) : (PN l d i).length ≤ l.length := List.length_filter_le _ _
/-- What the reference's Bits tells. -/
theorem bits_calls (s : ByteArray) (hs : s.size ≤ 9223372036854775807) (d : Nat) (hd : d ≤ 31) (W : World) : Calls Try.prog 21 #[.string s, .int .i64 d] W fun e w' => e = .returned (.int .i64 ((hN s % 2 ^ d : Nat) : Int)) ∧ Below W.heap.size W w' := by
  have h := refbits_is s hs (d : Int) (Nat.lt_succ_self _)
  have e : deep (d : Int) = d := by unfold deep mn mx; split <;> split <;> omega
  obtain ⟨h0, _⟩ := hash_range s
  have e2 : hash s % 2 ^ d = ((hN s % 2 ^ d : Nat) : Int) := by
    unfold hN
    rw [Int.natCast_emod, Int.natCast_pow, Int.toNat_of_nonneg h0]
    rfl
  rw [e, e2] at h
  exact honeycombref1_Bits.calls (s.size + 1) s d _ W h
/-! ### the parts lie to be read -/
def PsAt (W : World) (b : Nat) (hd : Nat → Option Addr × Nat) (L : Nat → List Ce) (p : Nat → Prop) : Prop := ∀ i, p i → W.cell? ⟨b, i, none⟩ = some (.slice (hd i).1 (L i).length (hd i).2) ∧ RdC W (hd i).1 (L i)
theorem RdC.keep' {W W' : World} {A : Option Addr} {xs : List Ce} (h : RdC W A xs) {S : Nat → Prop} (e : Eff S W W') (hS : ∀ ad, A = some ad → ad.block < W.heap.size → ¬ S ad.block) : RdC W' A xs := fun j u hu => by
  obtain ⟨ad, ha, hc⟩ := h j u hu
  refine ⟨ad, ha, ?_⟩
  have hb := World.block_lt_of_cell? W _ hc
  rw [add_block] at hb
  rw [← hc]
  unfold World.cell?
  rw [add_block, e.block _ hb (hS ad ha hb)]
theorem own_rd {w W : World} {l : List HP} {i : Nat} {v : Value} {xs : List Ce} (o : Own w W (Stars l)) (hi : l[i]? = some (RC v xs)) : ∃ A c, v = .slice A xs.length c ∧ RdC W A xs ∧ ∀ ad, A = some ad → w.heap.size ≤ ad.block := by
  obtain ⟨_, F, hF, hk⟩ := o.at_ i hi
  rcases hF.1 with ⟨rfl, rfl⟩ | ⟨g, cap, rfl, hX, hg⟩
  · exact ⟨none, 0, rfl, fun j u hu => by simp [flatE] at hu, fun ad h => by cases h⟩
  · refine ⟨_, _, rfl, fun j u hu => ⟨_, rfl, by rw [add_zero_off']; exact hX.cells j u hu⟩, fun ad h => ?_⟩
    injection h with h
    rw [← h]
    exact hk g hg
theorem sc_ne (W : World) (b i j : Nat) (v : Value) (h : i ≠ j) : (W.setCell ⟨b, i, none⟩ v).cell? ⟨b, j, none⟩ = W.cell? ⟨b, j, none⟩ := by
  apply World.cell?_setCell_other
  intro e
  injection e with _ e
  exact h e
/-- The next parts so far: block b of m places. -/
structure Nx (w1 W : World) (b m : Nat) : Prop where
  e : Eff (fun k => k = b) w1 W
  c : ∀ j, j < m → ∃ u, W.cell? ⟨b, j, none⟩ = some u
  f : ∀ j, W.frozen? ⟨b, j, none⟩ = false
theorem nx_step {w1 W W' : World} {b n i : Nat} {hd : Nat → Option Addr × Nat} {L : Nat → List Ce} {A0 A1 : Option Addr} {c0 c1 : Nat} (hN : Nx w1 W b (2 * n)) (hb : b < W.heap.size) (hi : i < n) (hP : PsAt W b hd L (fun j => j < i ∨ (n ≤ j ∧ j < n + i))) (hne : ∀ j, (j < i ∨ (n ≤ j ∧ j < n + i)) → ∀ ad, (hd j).1 = some ad → ad.block ≠ b) (e : Eff0 W W')
    (r0 : RdC W' A0 (L i)) (r1 : RdC W' A1 (L (i + n))) (k0 : ∀ ad, A0 = some ad → W.heap.size ≤ ad.block) (k1 : ∀ ad, A1 = some ad → W.heap.size ≤ ad.block) :
    Nx w1 ((W'.setCell ⟨b, i, none⟩ (.slice A0 (L i).length c0)).setCell ⟨b, i + n, none⟩ (.slice A1 (L (i + n)).length c1)) b (2 * n) ∧
      PsAt ((W'.setCell ⟨b, i, none⟩ (.slice A0 (L i).length c0)).setCell ⟨b, i + n, none⟩ (.slice A1 (L (i + n)).length c1)) b (fun j => if j = i then (A0, c0) else if j = i + n then (A1, c1) else hd j) L (fun j => j < i + 1 ∨ (n ≤ j ∧ j < n + (i + 1))) ∧
      (∀ j, (j < i + 1 ∨ (n ≤ j ∧ j < n + (i + 1))) → ∀ ad, (if j = i then (A0, c0) else if j = i + n then (A1, c1) else hd j).1 = some ad → ad.block ≠ b) := by
  have hc' : ∀ j, W'.cell? ⟨b, j, none⟩ = W.cell? ⟨b, j, none⟩ := fun j => e.cell hb id
  have e2 : Eff (fun k => k = b) W' ((W'.setCell ⟨b, i, none⟩ (.slice A0 (L i).length c0)).setCell ⟨b, i + n, none⟩ (.slice A1 (L (i + n)).length c1)) := Eff.set (Eff.set (Eff.refl (fun k => k = b) W') ⟨b, i, none⟩ _ (.inl rfl)) ⟨b, i + n, none⟩ _ (.inl rfl)
  have e3 : Eff (fun k => k = b) W ((W'.setCell ⟨b, i, none⟩ (.slice A0 (L i).length c0)).setCell ⟨b, i + n, none⟩ (.slice A1 (L (i + n)).length c1)) := (e.any _).trans e2 (fun _ h => .inl h)
  obtain ⟨u0, hu0⟩ := hN.c i (by omega)
  obtain ⟨u1, hu1⟩ := hN.c (i + n) (by omega)
  have hu0' : W'.cell? ⟨b, i, none⟩ = some u0 := (hc' i).trans hu0
  have hu1' : (W'.setCell ⟨b, i, none⟩ (.slice A0 (L i).length c0)).cell? ⟨b, i + n, none⟩ = some u1 := by
    rw [sc_ne _ _ _ _ _ (by omega), hc']
    exact hu1
  have y1 : ((W'.setCell ⟨b, i, none⟩ (.slice A0 (L i).length c0)).setCell ⟨b, i + n, none⟩ (.slice A1 (L (i + n)).length c1)).cell? ⟨b, i + n, none⟩ = some (.slice A1 (L (i + n)).length c1) := World.cell?_setCell_same' _ _ _ (by rw [hu1']; rfl)
  have y0 : ((W'.setCell ⟨b, i, none⟩ (.slice A0 (L i).length c0)).setCell ⟨b, i + n, none⟩ (.slice A1 (L (i + n)).length c1)).cell? ⟨b, i, none⟩ = some (.slice A0 (L i).length c0) := by
    rw [sc_ne _ _ _ _ _ (by omega)]
    exact World.cell?_setCell_same' _ _ _ (by rw [hu0']; rfl)
  have yj : ∀ j, j ≠ i → j ≠ i + n → ((W'.setCell ⟨b, i, none⟩ (.slice A0 (L i).length c0)).setCell ⟨b, i + n, none⟩ (.slice A1 (L (i + n)).length c1)).cell? ⟨b, j, none⟩ = W.cell? ⟨b, j, none⟩ := fun j h1 h2 => by
    rw [sc_ne _ _ _ _ _ (by omega), sc_ne _ _ _ _ _ (by omega), hc']
  refine ⟨⟨hN.e.trans e3 (fun _ h => .inl h), fun j hj => ?_, fun j => ?_⟩, fun j hj => ?_, fun j hj ad => ?_⟩
  · by_cases h1 : j = i
    · rw [h1]; exact ⟨_, y0⟩
    · by_cases h2 : j = i + n
      · rw [h2]; exact ⟨_, y1⟩
      · rw [yj j h1 h2]; exact hN.c j hj
  · rw [World.frozen?_setCell, World.frozen?_setCell]
    have := hN.f j
    unfold World.frozen? at this ⊢
    rw [e.block b hb id]
    exact this
  · show _ = some (Value.slice (if j = i then (A0, c0) else if j = i + n then (A1, c1) else hd j).1 (L j).length (if j = i then (A0, c0) else if j = i + n then (A1, c1) else hd j).2) ∧ RdC _ (if j = i then (A0, c0) else if j = i + n then (A1, c1) else hd j).1 (L j)
    by_cases h1 : j = i
    · subst h1
      rw [if_pos rfl]
      exact ⟨y0, r0.keep' e2 (fun ad ha hl => by have := k0 ad ha; omega)⟩
    · by_cases h2 : j = i + n
      · subst h2
        rw [if_neg h1, if_pos rfl]
        exact ⟨y1, r1.keep' e2 (fun ad ha hl => by have := k1 ad ha; omega)⟩
      · rw [if_neg h1, if_neg h2, yj j h1 h2]
        have hj' : j < i ∨ (n ≤ j ∧ j < n + i) := by omega
        exact ⟨(hP j hj').1, (hP j hj').2.keep' e3 (fun ad ha _ => hne j hj' ad ha)⟩
  · by_cases h1 : j = i
    · rw [if_pos h1]
      intro ha
      have := k0 ad ha
      omega
    · by_cases h2 : j = i + n
      · rw [if_neg h1, if_pos h2]
        intro ha
        have := k1 ad ha
        omega
      · rw [if_neg h1, if_neg h2]
        exact hne j (by omega) ad
end Go.Proofs.Ytcmepoakcffpaaa.SP
