import Derived.Test.YtcmepoakcffpaaaGreatProg
import Derived.BigRegion
import Derived.BigQuiet
import Derived.Deep.QuietTactic
import Derived.Deep.AppendLies
import Derived.ChangeAlike
import Derived.Outline
import Derived.WalkKit
import Derived.KernelRfl
import Derived.Deep.LoopGhost
import Derived.Deep.RegionLaw
import Derived.Test.YtcmepoakcffpaaaGreatWMore
import Derived.Test.YtcmepoakcffpaaaGreatWKept
import Derived.Test.YtcmepoakcffpaaaGreatLSep
import Derived.Test.YtcmepoakcffpaaaGreatCGet
namespace Go.Proofs.YtcmepoakcffpaaaGreat.CP
open Go Go.RowKit Go.Proofs.YtcmepoakcffpaaaGreatW.PrintWords Go.Proofs.YtcmepoakcffpaaaGreatW.PrintLast Go.Proofs.YtcmepoakcffpaaaGreatW.PrintMore Go.Proofs.YtcmepoakcffpaaaGreat.CR Go.Proofs.YtcmepoakcffpaaaGreat.L
set_option linter.unusedVariables false
set_option linter.unusedSimpArgs false
/-! What the walks compute is the plain law. -/
def lst (r : ByteArray × Bool) : Rd := (r.1.data.toList, r.2)
theorem ext_data (s : ByteArray) (a e : Nat) : (s.extract a e).data.toList = (s.data.toList.take e).drop a := by
  rw [ByteArray.data_extract, Array.toList_extract, List.extract_eq_take_drop, List.drop_take]
theorem takeB_take (n : Nat) (s : ByteArray) (bad : Bool) : ((takeB n s bad).1.data.toList, lst (takeB n s bad).2) = take n (lst (s, bad)) := by
  unfold takeB take lst
  dsimp only
  rw [← size_data]
  by_cases h : bad = true ∨ s.size < n
  · rw [if_pos h, if_pos h]
  · rw [if_neg h, if_neg h]
    dsimp only
    rw [ext_data, ext_data, List.drop_zero, size_data s, List.take_length]
theorem numB_num (n : Nat) (s : ByteArray) (bad : Bool) : ((numB n s bad).1, lst (numB n s bad).2) = num n (lst (s, bad)) := by
  have h := takeB_take n s bad
  unfold numB num nvalB
  rw [← h]
theorem cellB_cell (s : ByteArray) (bad : Bool) : ((cellB s bad).1.cl, lst (cellB s bad).2) = cell (lst (s, bad)) := by
  unfold cellB cell
  dsimp only
  have h1 := numB_num 1 s bad
  rw [← h1]
  dsimp only
  generalize numB 1 s bad = a
  obtain ⟨a, a2, ab⟩ := a
  dsimp only
  have h2 := takeB_take a a2 ab
  rw [← h2]
  dsimp only
  generalize takeB a a2 ab = k
  obtain ⟨k, ks, kb⟩ := k
  dsimp only
  have h3 := numB_num 1 ks kb
  rw [← h3]
  dsimp only
  generalize numB 1 ks kb = kd
  obtain ⟨kd, ds, db⟩ := kd
  dsimp only
  have h4 := numB_num 2 ds db
  rw [← h4]
  dsimp only
  generalize numB 2 ds db = n
  obtain ⟨n, ns, nb⟩ := n
  dsimp only
  by_cases hk : kd = 0
  · rw [if_pos hk, if_pos hk]
    have h5 := takeB_take n ns nb
    rw [← h5]
    rfl
  · rw [if_neg hk, if_neg hk]
    have h5 := numB_num 2 ns nb
    rw [← h5]
    rfl
theorem cells_snoc : ∀ (k : Nat) (r : Rd), cells (k + 1) r = ((cells k r).1 ++ [(cell (cells k r).2).1], (cell (cells k r).2).2)
  | 0, r => rfl
  | k + 1, r => by
    rw [cells, cells_snoc k (cell r).2, cells]
    rfl
theorem readN_cells (r : ByteArray × Bool) : ∀ k, ((readN r k).1.map B.cl, lst (readN r k).2) = cells k (lst r)
  | 0 => rfl
  | k + 1 => by
    have ih := readN_cells r k
    have h := cellB_cell (readN r k).2.1 (readN r k).2.2
    rw [cells_snoc, ← ih, readN, List.map_append]
    dsimp only
    rw [show lst ((readN r k).2.1, (readN r k).2.2) = lst (readN r k).2 from rfl] at h
    rw [← h]
    rfl
theorem readB_readAll (s : ByteArray) : ((readB s).1.map B.cl, lst (readB s).2) = readAll s.data.toList := by
  unfold readB readAll
  have h := numB_num 1 s false
  rw [readN_cells]
  dsimp only
  rw [show num 1 (s.data.toList, false) = num 1 (lst (s, false)) from rfl, ← h]
theorem cl_inj {c d : B} (h : c.cl = d.cl) : c = d := by
  obtain ⟨k, v, b, s⟩ := c
  obtain ⟨k', v', b', s'⟩ := d
  unfold B.cl at h
  injection h with h1 h2 h3 h4
  have e1 : k = k' := eq_of_data h1
  have e2 : v = v' := eq_of_data h2
  have e3 : b = b' := h3
  have e4 : s = s' := h4
  rw [e1, e2, e3, e4]
theorem map_cl_inj {l m : List B} (h : l.map B.cl = m.map B.cl) : l = m := (List.map_inj_right (fun _ _ e => cl_inj e)).mp h
/-- What was written is read. -/
theorem getF_put {l : List B} {b : List UInt8} (h : put (l.map B.cl) = some b) : getF ⟨b.toArray⟩ = (l, true) := by
  have h1 := get_put h
  unfold get at h1
  split at h1
  · rename_i hc
    have h2 := Option.some.inj h1
    have h3 := readB_readAll ⟨b.toArray⟩
    have h4 : (readB ⟨b.toArray⟩).1 = l := map_cl_inj ((congrArg Prod.fst h3).trans h2)
    have h5 : (readB ⟨b.toArray⟩).2.2 = false := ((congrArg (fun x => x.2.2) h3).trans hc.1)
    unfold getF
    rw [if_pos ⟨h5, by rw [h4]; simp [putF, h]⟩, h4]
  · cases h1
theorem getF_true {s : ByteArray} {x : List B} (h : getF s = (x, true)) : putF (x.map B.cl) = (s, true) := by
  unfold getF at h
  split at h
  · rename_i hc
    injection h with h1
    rw [← h1]
    exact hc.2
  · cases h
theorem putF_put {l : List Cl} {s : ByteArray} (h : putF l = (s, true)) : put l = some s.data.toList := by
  unfold putF at h
  split at h
  · rename_i b hb
    injection h with h1
    rw [← h1, hb]
  · cases h
theorem putF_size {l : List Cl} {s : ByteArray} (h : putF l = (s, true)) : s.size = 240 := by
  rw [size_data]; exact put_length (putF_put h)
theorem getF_size {s : ByteArray} (h : s.size ≠ 240) : getF s = ([], false) := by
  unfold getF
  rw [if_neg (fun hc => h (putF_size hc.2))]
end Go.Proofs.YtcmepoakcffpaaaGreat.CP
