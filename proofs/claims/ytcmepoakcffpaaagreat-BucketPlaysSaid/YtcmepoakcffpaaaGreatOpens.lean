import Derived.Test.YtcmepoakcffpaaaGreatProg
import Derived.ProofKit
import Derived.SizedLaws
import Derived.Deep.Slices
import Derived.ChangeArms
import Derived.Test.YtcmepoakcffpaaaGreatWWords
import Derived.Test.YtcmepoakcffpaaaGreatWLast
import Derived.Test.YtcmepoakcffpaaaGreatWTab
import Derived.Test.YtcmepoakcffpaaaGreatWFour
import Derived.Test.YtcmepoakcffpaaaGreatWQPut
import Derived.Test.YtcmepoakcffpaaaGreatWApart
import Derived.Test.YtcmepoakcffpaaaGreatWArr
import Derived.Test.YtcmepoakcffpaaaGreatWZeros
import Derived.Test.YtcmepoakcffpaaaGreatWFoot
import Derived.Test.YtcmepoakcffpaaaGreatWKept
import Derived.Test.YtcmepoakcffpaaaGreatWShare
import Derived.Test.YtcmepoakcffpaaaGreatWN
import Derived.Test.YtcmepoakcffpaaaGreatWFootNe
import Derived.Test.YtcmepoakcffpaaaGreatWAt
import Derived.Test.YtcmepoakcffpaaaGreatWEqStruct
import Derived.Test.YtcmepoakcffpaaaGreatWRepsOne
import Derived.Test.YtcmepoakcffpaaaGreatWInv
import Derived.Test.YtcmepoakcffpaaaGreatWInvWords
import Derived.Test.YtcmepoakcffpaaaGreatWGuard
import Derived.Test.YtcmepoakcffpaaaGreatWNEv
import Derived.Test.YtcmepoakcffpaaaGreatWMore
namespace Go.Proofs.YtcmepoakcffpaaaGreat.Lib
open Go.ChangeShapes Go.WideShapes Go.RowKit Go.Proofs.YtcmepoakcffpaaaGreatW.PrintWords Go.Proofs.YtcmepoakcffpaaaGreatW.PrintLast Go.Proofs.YtcmepoakcffpaaaGreatW.PrintMore
/-- What is read as data of type t is a value that the word d tells, and T holds of it. -/
def Opens {α : Type} (P : Program) (t : TypeId) (d : Kd α) (T : α → Prop) : Prop :=
  P.cellsOf t = d.sz ∧ ∀ (H : Type) (enc : TypeId × Value → H) (w : World) (base : Nat) (spare : Nat → Bool) (held : Bool) (fuel : Nat) (cs : List Value) (x : DataW H × List MemPlace),
    DataW.trod enc P w base spare held fuel t cs = some x → ∃ a : α, d.K w a cs ∧ T a
theorem Opens.int {P : Program} {t : TypeId} {k : IntKind} (hu : P.underlying t = some (.int k)) (hc : P.cellsOf t = 1) : Opens P t (Kd.int k) (fun n => (Lit.int k n).wf = true) :=
  ⟨hc, fun H enc w base spare held fuel cs x h => by
    obtain ⟨n, rfl, _, hw⟩ := DataW.trod_int hu h
    exact ⟨n, rfl, hw⟩⟩
theorem Opens.bool {P : Program} {t : TypeId} (hu : P.underlying t = some .bool) (hc : P.cellsOf t = 1) : Opens P t Kd.bool (fun _ => True) :=
  ⟨hc, fun H enc w base spare held fuel cs x h => by
    obtain ⟨n, rfl, _⟩ := DataW.trod_bool hu h
    exact ⟨n, rfl, trivial⟩⟩
theorem Opens.string {P : Program} {t : TypeId} (hu : P.underlying t = some .string) (hc : P.cellsOf t = 1) : Opens P t Kd.string (fun s => s.size ≤ maxLen) :=
  ⟨hc, fun H enc w base spare held fuel cs x h => by
    obtain ⟨s, rfl, _, hs⟩ := DataW.trod_string hu h
    exact ⟨s, rfl, hs⟩⟩
theorem list_of_fn {α : Type} {n : Nat} {p : Nat → α → Prop} (h : ∀ i, i < n → ∃ a, p i a) : ∃ l : List α, l.length = n ∧ ∀ (i : Nat) (a : α), l[i]? = some a → p i a := by
  induction n with
  | zero => exact ⟨[], rfl, fun i a h => by simp at h⟩
  | succ n ih =>
    obtain ⟨l, hl, hp⟩ := ih (fun i hi => h i (by omega))
    obtain ⟨a, ha⟩ := h n (by omega)
    refine ⟨l ++ [a], by simp [hl], fun i b hb => ?_⟩
    by_cases hi : i < n
    · rw [List.getElem?_append_left (by omega)] at hb
      exact hp i b hb
    · rw [List.getElem?_append_right (by omega)] at hb
      have : i = n := by
        rcases Nat.lt_or_ge (i - l.length) 1 with hz | hz
        · omega
        · rw [List.getElem?_eq_none (by simpa using hz)] at hb
          exact absurd hb (by simp)
      subst this
      rw [hl, Nat.sub_self, List.getElem?_cons_zero] at hb
      exact Option.some.inj hb ▸ ha
theorem Opens.slice {α : Type} {P : Program} {t e : TypeId} {d : Kd α} {T : α → Prop} (hu : P.underlying t = some (.slice e)) (hc : P.cellsOf t = 1) (ho : Opens P e d T) : Opens P t (Kd.slice e d) (fun l => l.length ≤ maxLen ∧ ∀ a ∈ l, T a) :=
  ⟨hc, fun H enc w base spare held fuel cs x h => by
    rcases Go.Deep.open_slice hu h with ⟨rfl, _⟩ | ⟨a, len, cap, m, n, D, Pl, rfl, hb, hl, hm, hmm, rfl, hx⟩
    · exact ⟨[], ⟨none, 0, rfl, Nat.le_refl _, rfl, by simp, fun h => absurd h (by simp)⟩, by simp, fun a h => absurd h (by simp)⟩
    · have hlm : len ≤ m := by rw [hmm]; split <;> omega
      obtain ⟨l, hll, hp⟩ := list_of_fn (n := len) (p := fun i (b : α) => ∃ c, w.cells? base (a.add (i * P.cellsOf e)) (P.cellsOf e) = some c ∧ d.K w b c ∧ T b) (fun i hi => by
        obtain ⟨c, h1, h2⟩ := hx i (by omega)
        obtain ⟨b, h3, h4⟩ := ho.2 _ _ _ _ _ _ _ _ _ h2
        exact ⟨b, c, h1, h3, h4⟩)
      refine ⟨l, ⟨some a, cap, by rw [hll], by omega, rfl, ?_, fun _ => ⟨a, rfl, fun j p hj => ?_⟩⟩, by omega, fun b hb => ?_⟩
      · unfold maxLen at hm; omega
      · obtain ⟨c, h1, h3, _⟩ := hp j p hj
        refine ⟨c, d.K_len h3, h3, fun i u hi => ?_⟩
        rw [ho.1] at h1
        obtain ⟨_, hlen, hcell⟩ := World.cells?_some h1
        have hi2 : i < c.length := by
          rcases Nat.lt_or_ge i c.length with h | h
          · exact h
          · rw [List.getElem?_eq_none h] at hi; exact absurd hi (by simp)
        have h5 := hcell i (by omega)
        rw [Go.Deep.add_add] at h5
        rw [h5]
        exact hi
      · obtain ⟨i, hi⟩ := List.mem_iff_getElem?.1 hb
        exact (hp i b hi).choose_spec.2.2⟩
/-- What a struct's cells read as, field by field. -/
def OpensSeg {α : Type} (P : Program) (ts : List TypeId) (d : Kd α) (T : α → Prop) : Prop :=
  (ts.map P.cellsOf).sum = d.sz ∧ ∀ (H : Type) (enc : TypeId × Value → H) (w : World) (base : Nat) (spare : Nat → Bool) (held : Bool) (fuel : Nat) (cs : List Value), cs.length = d.sz →
    (∀ i t, ts[i]? = some t → ∃ x, DataW.trod enc P w base spare held fuel t ((cs.drop ((ts.take i).map P.cellsOf).sum).take (P.cellsOf t)) = some x) → ∃ a : α, d.K w a cs ∧ T a
theorem OpensSeg.one {α : Type} {P : Program} {t : TypeId} {d : Kd α} {T : α → Prop} (h : Opens P t d T) : OpensSeg P [t] d T :=
  ⟨by simp [h.1], fun H enc w base spare held fuel cs hl hx => by
    obtain ⟨x, hx⟩ := hx 0 t rfl
    simp only [List.take_zero, List.map_nil, List.sum_nil, List.drop_zero] at hx
    rw [List.take_of_length_le (by rw [h.1]; omega)] at hx
    exact h.2 _ _ _ _ _ _ _ _ _ hx⟩
theorem OpensSeg.cons {α β : Type} {P : Program} {t : TypeId} {ts : List TypeId} {a : Kd α} {b : Kd β} {T : α → Prop} {U : β → Prop} (h : Opens P t a T) (hs : OpensSeg P ts b U) : OpensSeg P (t :: ts) (Kd.pair a b) (fun x => T x.1 ∧ U x.2) :=
  ⟨by simp [h.1, hs.1, Kd.pair], fun H enc w base spare held fuel cs hl hx => by
    have hl2 : cs.length = a.sz + b.sz := hl
    obtain ⟨x, h0⟩ := hx 0 t rfl
    simp only [List.take_zero, List.map_nil, List.sum_nil, List.drop_zero] at h0
    obtain ⟨u, hu, tu⟩ := h.2 _ _ _ _ _ _ _ _ _ h0
    obtain ⟨v, hv, tv⟩ := hs.2 H enc w base spare held fuel (cs.drop (P.cellsOf t)) (by rw [List.length_drop, h.1]; omega) (fun i t' hi => by
      obtain ⟨y, hy⟩ := hx (i + 1) t' (by simpa using hi)
      refine ⟨y, ?_⟩
      rw [List.drop_drop]
      simpa using hy)
    refine ⟨(u, v), ⟨cs.take (P.cellsOf t), cs.drop (P.cellsOf t), by rw [List.take_append_drop], hu, hv⟩, tu, tv⟩⟩
theorem Opens.iso {α β : Type} {P : Program} {t : TypeId} {d : Kd α} {T : α → Prop} (h : Opens P t d T) (f : β → α) (g : α → β) (hfg : ∀ a, f (g a) = a) : Opens P t (Kd.iso d f) (fun b => T (f b)) :=
  ⟨h.1, fun H enc w base spare held fuel cs x hx => by
    obtain ⟨a, ha, ta⟩ := h.2 _ _ _ _ _ _ _ _ _ hx
    exact ⟨g a, by show d.K w (f (g a)) cs; rw [hfg]; exact ha, by show T (f (g a)); rw [hfg]; exact ta⟩⟩
theorem Opens.struct {α : Type} {P : Program} {t : TypeId} {fs : Array Field} {ts : List TypeId} {d : Kd α} {T : α → Prop} (hu : P.underlying t = some (.struct fs)) (hc : P.cellsOf t = d.sz)
    (hfs : ∀ i (t' : TypeId), ts[i]? = some t' → ∃ f, fs[i]? = some f ∧ f.type = t' ∧ f.offset = ((ts.take i).map P.cellsOf).sum) (h : OpensSeg P ts d T) : Opens P t d T :=
  ⟨hc, fun H enc w base spare held fuel cs x hx => by
    obtain ⟨xs, n, rfl, _, hlen, hxl, hf⟩ := DataW.trod_struct hu hx
    refine h.2 H enc w base spare held n cs (by rw [hlen, hc]) (fun i t' hi => ?_)
    obtain ⟨f, h1, rfl, ho⟩ := hfs i t' hi
    have h2 := hf i f h1
    have hi2 : i < xs.length := by
      rw [hxl]
      rcases Nat.lt_or_ge i fs.size with h | h
      · exact h
      · rw [Array.getElem?_eq_none h] at h1; exact absurd h1 (by simp)
    rw [List.getElem?_eq_getElem hi2] at h2
    rw [← ho]
    exact ⟨_, h2⟩⟩
theorem opens_slice {α : Type} {H : Type} {enc : TypeId × Value → H} {P : Program} {W : World} {base : Nat} {spare : Nat → Bool} {held : Bool} {t e : TypeId} {d : Kd α} {T : α → Prop} {a : Option Addr} {len cap : Nat} {dd : DataW H} {ps : List MemPlace}
    (hu : P.underlying t = some (.slice e)) (ho : Opens P e d T) (h : DataW.Trod enc P W base spare held t (.slice a len cap) dd ps) : ∃ l : List α, len = l.length ∧ d.C W a l.length l ∧ l.length ≤ cap ∧ (l.length ≤ maxLen ∧ ∀ x ∈ l, T x) := by
  obtain ⟨fuel, hf⟩ := h
  have hz : P.cellsOf e = d.sz := ho.1
  rcases Go.Deep.open_slice hu hf with ⟨hcs, _⟩ | ⟨a', len', cap', m, n, D, Pl, hcs, hb, hl, hm, hmm, _, hx⟩
  · simp [Value.cells] at hcs
    obtain ⟨rfl, rfl, rfl⟩ := hcs
    exact ⟨[], rfl, ⟨rfl, by simp, fun h => absurd h (by simp)⟩, Nat.le_refl _, by simp, fun a h => absurd h (by simp)⟩
  · simp [Value.cells] at hcs
    obtain ⟨rfl, rfl, rfl⟩ := hcs
    have hlm : len ≤ m := by rw [hmm]; split <;> omega
    obtain ⟨l, hll, hp⟩ := list_of_fn (n := len) (p := fun i (b : α) => ∃ c, W.cells? base (a'.add (i * P.cellsOf e)) (P.cellsOf e) = some c ∧ d.K W b c ∧ T b) (fun i hi => by
      obtain ⟨c, h1, h2⟩ := hx i (by omega)
      obtain ⟨b, h3, h4⟩ := ho.2 _ _ _ _ _ _ _ _ _ h2
      exact ⟨b, c, h1, h3, h4⟩)
    refine ⟨l, hll.symm, ⟨rfl, ?_, fun _ => ⟨a', rfl, fun j p hj => ?_⟩⟩, by omega, by omega, fun b hb => ?_⟩
    · unfold maxLen at hm; omega
    · obtain ⟨c, h1, h3, _⟩ := hp j p hj
      refine ⟨c, d.K_len h3, h3, fun i u hi => ?_⟩
      rw [hz] at h1
      obtain ⟨_, hlen, hcell⟩ := World.cells?_some h1
      have hi2 : i < c.length := by
        rcases Nat.lt_or_ge i c.length with h | h
        · exact h
        · rw [List.getElem?_eq_none h] at hi; exact absurd hi (by simp)
      have h5 := hcell i (by omega)
      rw [Go.Deep.add_add] at h5
      rw [h5]
      exact hi
    · obtain ⟨i, hi⟩ := List.mem_iff_getElem?.1 hb
      exact (hp i b hi).choose_spec.2.2
theorem sized_opens {H : Type} {enc : TypeId × Value → H} {P : Program} {W : World} {base : Nat} {spare : Nat → Bool} {held : Bool} {t e : TypeId} {a : Option Addr} {len cap : Nat} {d : DataW H} {ps : List MemPlace} {ts : List TypeId} {ds : List (DataW H)} {j : Nat}
    (hsz : (DataW.weightsEach P ts ds).all (· ≤ reachBytes) = true) (ht : ts[j]? = some t) (hd : ds[j]? = some d) (hu : P.underlying t = some (.slice e)) {B : Nat} (hB : P.bytesOf e = B)
    (h : DataW.Trod enc P W base spare held t (.slice a len cap) d ps) : len * B ≤ 140737488351232 := by
  obtain ⟨fuel, hf⟩ := h
  rcases Go.Deep.open_slice hu hf with ⟨hcs, _⟩ | ⟨a', len', cap', m, n, D, Pl, hcs, hb, hl, hm, hmm, hx, _⟩
  · simp [Value.cells] at hcs
    obtain ⟨rfl, rfl, rfl⟩ := hcs
    simp
  · simp [Value.cells] at hcs
    obtain ⟨rfl, rfl, rfl⟩ := hcs
    obtain ⟨hx, _⟩ := Prod.mk.inj hx
    subst hx
    have z := sized_slice hsz ht hd hu
    rw [hB] at z
    simp only [List.length_map, List.length_range] at z
    exact Nat.le_trans (Nat.mul_le_mul_right _ (by omega)) z
theorem opens_agg {α : Type} {H : Type} {enc : TypeId × Value → H} {P : Program} {W : World} {base : Nat} {spare : Nat → Bool} {held : Bool} {t : TypeId} {d : Kd α} {T : α → Prop} {cs : List Value} {dd : DataW H} {ps : List MemPlace}
    (ho : Opens P t d T) (h : DataW.Trod enc P W base spare held t (.agg ⟨cs⟩) dd ps) : ∃ a : α, d.K W a cs ∧ T a := by
  obtain ⟨fuel, hf⟩ := h
  exact ho.2 _ _ _ _ _ _ _ _ _ hf
end Go.Proofs.YtcmepoakcffpaaaGreat.Lib
