import Derived.Test.YtcmepoakcffpaaaMx
import Derived.Test.YtcmepoakcffpaaaCB
namespace Go.Proofs.Ytcmepoakcffpaaa.Pure
open Go Go.RowKit Go.Proofs.Ytcmepoakcffpaaa.M Go.Proofs.YtcmepoakcffpaaaW.PrintWords Go.Proofs.YtcmepoakcffpaaaW.PrintLast Go.Proofs.YtcmepoakcffpaaaW.PrintMore
set_option linter.unusedVariables false
open Go.Proofs.Ytcmepoakcffpaaa.CP
/-! ### what the bucket's laws share -/
theorem toList_eq {s t : ByteArray} : s.toList = t.toList ↔ s = t := by
  rw [Lib.toList_data, Lib.toList_data]
  exact ⟨eq_of_data, fun h => by rw [h]⟩
theorem len_data (s : ByteArray) : s.data.toList.length = s.size := by rw [size_data]
theorem csize_of (c : B) : csize c.cl = 4 + c.k.size + if c.bl = 0 then c.v.size else 2 := by
  unfold csize
  rw [show c.cl.k.length = c.k.size from len_data _, show c.cl.v.length = c.v.size from len_data _]
  rfl
theorem right_of {c : B} (h : right c.cl = true) : 1 ≤ c.k.size ∧ c.k.size ≤ 16 ∧ c.v.size ≤ 40 := by
  simp only [right, decide_eq_true_eq] at h
  obtain ⟨h1, h2, h3⟩ := h
  rw [show c.cl.k.length = c.k.size from len_data _] at h1 h2
  refine ⟨h1, h2, ?_⟩
  rw [← show c.cl.v.length = c.v.size from len_data _]
  split at h3
  · exact h3.1
  · rw [h3.2.2.1]; simp
theorem right_mk {k v : ByteArray} (h1 : 1 ≤ k.size) (h2 : k.size ≤ 16) (h3 : v.size ≤ 40) : right (B.cl ⟨k, v, 0, 0⟩) = true := by
  simp only [right, decide_eq_true_eq]
  rw [show (B.cl ⟨k, v, 0, 0⟩).k.length = k.size from len_data _, show (B.cl ⟨k, v, 0, 0⟩).v.length = v.size from len_data _]
  refine ⟨h1, h2, ?_⟩
  rw [if_pos (show (B.cl ⟨k, v, 0, 0⟩).bl = 0 from rfl)]
  exact ⟨h3, rfl⟩
theorem kk_size {c d : B} (h : c.kk = d.kk) : c.k.size = d.k.size := by rw [← len_data, ← len_data]; exact congrArg List.length h
theorem Set_is (k d n : Int) (s : ByteArray) (c : B) {p : Pg} {e : Int} (h : setP ⟨k, d, n, s⟩ c = (p, e)) : bucket_Set.f k d n s c.k c.v c.bl c.sz = some (p.kind, p.depth, p.next, p.body, e) := by
  unfold bucket_Set.f
  rw [show (⟨c.k, c.v, c.bl, c.sz⟩ : B) = c from rfl, h]
theorem Cut_is (k d n : Int) (s key : ByteArray) {p : Pg} {e : Int} (h : cutP ⟨k, d, n, s⟩ key.data.toList = (p, e)) : bucket_Cut.f k d n s key = some (p.kind, p.depth, p.next, p.body, e) := by
  unfold bucket_Cut.f
  rw [h]
theorem wrap_succ {i : Nat} (h : i < 900000) : wrap64 ((i : Int) + 1) = ((i + 1 : Nat) : Int) := by unfold wrap64; omega

end Go.Proofs.Ytcmepoakcffpaaa.Pure
