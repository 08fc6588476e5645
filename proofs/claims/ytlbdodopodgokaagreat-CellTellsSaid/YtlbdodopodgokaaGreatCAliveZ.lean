import Derived.Test.YtlbdodopodgokaaGreatMx
import Derived.Test.YtlbdodopodgokaaGreatCCorr
import Derived.Test.YtlbdodopodgokaaGreatProg
import Derived.BigRegion
import Derived.BigQuiet
import Derived.Deep.QuietTactic
import Derived.Deep.AppendLies
import Derived.ChangeAlike
import Derived.Outline
import Derived.WalkKit
import Derived.KernelRfl
import Derived.Deep.LoopGhost
import Derived.Deep.RegionLaw
import Derived.Test.YtlbdodopodgokaaGreatWMore
import Derived.Test.YtlbdodopodgokaaGreatWKept
import Derived.Test.YtlbdodopodgokaaGreatLSep
namespace Go.Proofs.YtlbdodopodgokaaGreat.Pure
open Go Go.RowKit Go.Proofs.YtlbdodopodgokaaGreatW.PrintWords Go.Proofs.YtlbdodopodgokaaGreatW.PrintLast Go.Proofs.YtlbdodopodgokaaGreatW.PrintMore Go.Proofs.YtlbdodopodgokaaGreat.CP Go.Proofs.YtlbdodopodgokaaGreat.M Go.Proofs.YtlbdodopodgokaaGreat.L
set_option linter.unusedVariables false
set_option linter.unusedSimpArgs false
/-! ### the cells, as the print has them -/
def cls (l : List S25) : List Cl := (l.map toB).map B.cl
theorem cls_length (l : List S25) : (cls l).length = l.length := by simp [cls]
theorem toB_inj {x y : S25} (h : toB x = toB y) : x = y := by
  have := congrArg ofB h
  rwa [ofB_to, ofB_to] at this
theorem map_of_to (l : List S25) : (l.map toB).map ofB = l := by
  rw [List.map_map]
  exact List.map_id'' ofB_to l
theorem map_to_of (l : List B) : (l.map ofB).map toB = l := by
  rw [List.map_map]
  exact List.map_id'' toB_of l
theorem Put_is (l : List S25) : cell_Put.f l = some (putF (cls l)) := rfl
theorem Get_is (s : ByteArray) : cell_Get.f s = some ((getF s).1.map ofB, (getF s).2) := rfl
theorem toList_eq {s t : ByteArray} : s.toList = t.toList ↔ s = t := by
  rw [Lib.toList_data, Lib.toList_data]
  exact ⟨eq_of_data, fun h => by rw [h]⟩
theorem Size_is (x : S25) (h1 : x.f0.size ≤ 16) (h2 : x.f1.size ≤ 40) : cell_Size.f x.f0 x.f1 x.f2 x.f3 = some ((csize (toB x).cl : Nat) : Int) := by
  unfold cell_Size.f csize
  have e1 : (toB x).cl.k.length = x.f0.size := by rw [size_data]; rfl
  have e2 : (toB x).cl.v.length = x.f1.size := by rw [size_data]; rfl
  have e3 : (toB x).cl.bl = x.f2 := rfl
  rw [e1, e2, e3]
  unfold wrap64
  split
  · simp only [Option.some.injEq]; omega
  · simp only [Option.some.injEq]; omega
theorem right_sizes {x : S25} (h : right (toB x).cl = true) : x.f0.size ≤ 16 ∧ x.f1.size ≤ 40 := by
  simp only [right, decide_eq_true_eq] at h
  obtain ⟨_, h2, h3⟩ := h
  have e1 : (toB x).cl.k.length = x.f0.size := by rw [size_data]; rfl
  have e2 : (toB x).cl.v.length = x.f1.size := by rw [size_data]; rfl
  refine ⟨by omega, ?_⟩
  split at h3
  · omega
  · rw [← e2, h3.2.2.1]; simp
theorem put_get {l : List S25} {b : List UInt8} (h : put (cls l) = some b) : cell_Get.f ⟨b.toArray⟩ = some (l, true) := by
  rw [Get_is, getF_put h]
  simp only [map_of_to]
theorem putF_some {l : List S25} {b : List UInt8} (h : put (cls l) = some b) : cell_Put.f l = some (⟨b.toArray⟩, true) := by
  rw [Put_is]
  simp [putF, h]
theorem putF_no {l : List S25} (h : put (cls l) = none) : cell_Put.f l = some (⟨#[]⟩, false) := by
  rw [Put_is]
  simp [putF, h]
def ex1 : S25 := ⟨⟨#[97]⟩, ⟨#[98, 99]⟩, 0, 0⟩
def ex2 : S25 := ⟨⟨#[98]⟩, ⟨#[]⟩, 7, 100⟩
set_option maxRecDepth 100000 in
theorem alive_is : honeycomblaw7_alive.f = some true := by
  obtain ⟨b, hb⟩ : ∃ b, put (cls [ex1, ex2]) = some b := ⟨_, rfl⟩
  have h1 := putF_some hb
  have h2 := put_get hb
  have hb2 : b = 2 :: 1 :: 97 :: 0 :: 0 :: 2 :: 98 :: 99 :: 1 :: 98 :: 1 :: 0 :: 100 :: 0 :: 7 :: 0 :: List.replicate 224 0 := by
    have : put (cls [ex1, ex2]) = some (2 :: 1 :: 97 :: 0 :: 0 :: 2 :: 98 :: 99 :: 1 :: 98 :: 1 :: 0 :: 100 :: 0 :: 7 :: 0 :: List.replicate 224 0) := by decide +kernel
    rw [this] at hb
    exact (Option.some.inj hb).symm
  unfold honeycomblaw7_alive.f
  show (cell_Put.f [ex1, ex2]).bind _ = _
  rw [h1, Option.bind_some]
  dsimp only
  rw [h2, Option.bind_some]
  have e1 : (⟨b.toArray⟩ : ByteArray).size = 240 := by rw [size_data]; exact put_length hb
  have e2 : ((⟨b.toArray⟩ : ByteArray).extract 0 16).toList = ([2, 1, 97, 0, 0, 2, 98, 99, 1, 98, 1, 0, 100, 0, 7, 0] : List UInt8) := by
    rw [Lib.toList_data, ext_data, hb2]
    rfl
  refine (if_pos rfl).trans ?_
  refine (if_pos (by rw [e1]; rfl)).trans ?_
  refine (if_pos (by decide)).trans ?_
  refine (if_pos (by rw [e1]; decide)).trans ?_
  refine (if_pos e2).trans ?_
  refine (if_pos rfl).trans ?_
  refine (if_pos rfl).trans ?_
  refine (if_pos (by decide)).trans ?_
  refine (if_pos rfl).trans ?_
  refine (if_pos (by decide)).trans ?_
  show (cell_Size.f ex1.f0 ex1.f1 ex1.f2 ex1.f3).bind _ = _
  rw [Size_is ex1 (by decide) (by decide)]
  rfl


theorem alive_calls (w : World) : Calls Tryz.prog 4 #[] w fun e w' => e = .returned (.bool true) ∧ Eff0 w w' := (honeycomblaw7_alive.calls true w alive_is).mono fun e w' ⟨h, b⟩ => ⟨h, Eff.of_below b⟩
end Go.Proofs.YtlbdodopodgokaaGreat.Pure
