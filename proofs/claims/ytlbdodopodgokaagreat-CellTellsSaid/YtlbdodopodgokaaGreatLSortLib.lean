import Derived.Test.YtlbdodopodgokaaGreatLSep
import Derived.Shelf.SlSortCmp.WholeK
import Derived.Shelf.SlSortCmp.NoneTotal
import Derived.Test.YtlbdodopodgokaaGreatWMore
import Derived.Test.YtlbdodopodgokaaGreatWLast
import Derived.Test.YtlbdodopodgokaaGreatWKept
namespace Go.Proofs.YtlbdodopodgokaaGreat.L
open Go Go.RowKit Go.Proofs.YtlbdodopodgokaaGreatW.PrintWords Go.Proofs.YtlbdodopodgokaaGreatW.PrintLast Go.Proofs.YtlbdodopodgokaaGreatW.PrintMore Go.Proofs.YtlbdodopodgokaaGreat.L
set_option linter.unusedVariables false
set_option linter.unusedSimpArgs false
/-! slices.SortFunc at structs: between the shelf's words and ours. -/
open Go.Sort
section
variable {α : Type} [Inhabited α] {enc : α → List Value} {k : Nat}
theorem add_zero_off (b n : Nat) : (⟨b, 0, none⟩ : Addr).add n = ⟨b, n, none⟩ := by
  unfold Addr.add
  split
  · rename_i h; rw [h]
  · simp
theorem holds_of_R {d : Kd α} {e base : Nat} {ok : Nat → Prop} {w : World} {g cap : Nat} {xs : List α} (hs : d.sz = k) (hk : 0 < k) (hM : ∀ {w : World} {base : Nat} {ok : Nat → Prop} {x : α} {cs : List Value}, d.M w base ok x cs → cs = enc x) (h : d.R e w base ok (.slice (some ⟨g, 0, none⟩) xs.length cap) xs) : HoldsK enc k w g 0 xs.toArray := by
  intro j hj
  rw [size_flatK] at hj
  have hj2 : j < xs.length * k := hj
  have hi : j / k < xs.length := Nat.div_lt_of_lt_mul (by rw [Nat.mul_comm]; exact hj2)
  have hjk : j % k < k := Nat.mod_lt _ hk
  have e2 : j / k * k + j % k = j := Nat.div_add_mod' j k
  rw [get_flatK _ _ _ _ hj]
  generalize j / k = q at *
  generalize j % k = r at *
  obtain ⟨c, hcl, hm, hcc, hf⟩ := Kd.R_elem h (default : α) ((q : Nat) : Int) (by omega) (by omega)
  have hc := hM hm
  rw [hs] at hcl hcc hf
  rw [Int.toNat_natCast] at hcc hf hc
  have hx : xs.getD q default = xs.toArray[q]! := by simp [List.getD, hi, getElem!_pos]
  subst e2
  refine ⟨?_, ?_⟩
  · rw [Nat.zero_add]
    refine (hcc r _ (List.getElem?_eq_getElem (by omega))).trans ?_
    subst hc
    rw [hx] at hcl
    show _ = some (enc xs.toArray[q]!)[r]!
    rw [getElem!_pos _ _ (by omega)]
    congr 1
    simp only [hx]
  · rw [Nat.zero_add]
    exact hf _
theorem C_of_holds {d : Kd α} {w : World} {g : Nat} {a : Array α} (hs : d.sz = k) (hl : ∀ x, (enc x).length = k) (hK : ∀ x, d.K w x (enc x)) (h : HoldsK enc k w g 0 a) (hn : a.size ≤ 9223372036854775807) : Kd.C d w (some ⟨g, 0, none⟩) a.size a.toList := by
  refine ⟨by simp, hn, fun _ => ⟨_, rfl, fun j p hj => ⟨enc p, by rw [hl, hs], hK p, fun i u hu => ?_⟩⟩⟩
  have hja : j < a.size := by
    have := (List.getElem?_eq_some_iff.1 hj).1
    simpa using this
  have hik : i < k := by rw [← hl p]; exact (List.getElem?_eq_some_iff.1 hu).1
  have hp : p = a[j]! := by
    rw [getElem!_pos a j hja]
    have := (List.getElem?_eq_some_iff.1 hj).2
    simpa using this.symm
  have := (HoldsK.cell h hja hik).1
  rw [add_zero_off, hs]
  rw [Nat.zero_add] at this
  rw [this, ← hp]
  obtain ⟨h1, h2⟩ := List.getElem?_eq_some_iff.1 hu
  rw [getElem!_pos (enc p) i h1, h2]
theorem sort_eff {w : World} {g n : Nat} {a : Array α} {os : Array Obj} : Eff (fun j => j = g) w (sortWorldK enc k w g 0 n a os) := by
  refine ⟨rfl, rfl, rfl, ?_, fun j hj hne => ?_⟩
  · show _ ≤ ((w.heap.modify g _) ++ os).size
    simp
  · show ((w.heap.modify g _) ++ os)[j]? = _
    rw [Array.getElem?_append_left (by simpa using hj), Array.getElem?_modify, if_neg (fun h => hne h.symm)]
theorem perm_list {a b : Array α} (h : PermIn 0 a.size a b) : a.toList.Perm b.toList ∧ b.size = a.size := by
  obtain ⟨hs, _, hp⟩ := h
  have e1 : a.extract 0 a.size = a := by simp
  have e2 : b.extract 0 a.size = b := by rw [← hs]; simp
  rw [e1, e2] at hp
  exact ⟨hp.symm, hs⟩
theorem sorted_list {lt : α → α → Bool} {b : Array α} (h : SortedIn lt 0 b.size b) : b.toList.Pairwise (fun x y => lt y x = false) := by
  rw [List.pairwise_iff_getElem]
  intro i j hi hj hij
  have := h i j (Nat.zero_le _) hij (by simpa using hj)
  rw [getElem!_pos b i (by simpa using hi), getElem!_pos b j (by simpa using hj)] at this
  simpa using this
end
end Go.Proofs.YtlbdodopodgokaaGreat.L
