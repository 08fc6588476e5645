import Derived.Test.YtiagbkpggeglgaaProg
import Derived.ProofKit
import Derived.SizedLaws
import Derived.Deep.Slices
import Derived.ChangeArms
import Derived.Test.YtiagbkpggeglgaaWWords
import Derived.Test.YtiagbkpggeglgaaWLast
import Derived.Test.YtiagbkpggeglgaaWTab
import Derived.Test.YtiagbkpggeglgaaWQPut
import Derived.Test.YtiagbkpggeglgaaWApart
import Derived.Test.YtiagbkpggeglgaaWArr
import Derived.Test.YtiagbkpggeglgaaWZeros
import Derived.Test.YtiagbkpggeglgaaWFoot
import Derived.Test.YtiagbkpggeglgaaWKept
import Derived.Test.YtiagbkpggeglgaaWShare
import Derived.Test.YtiagbkpggeglgaaWN
import Derived.Test.YtiagbkpggeglgaaWFootNe
import Derived.Test.YtiagbkpggeglgaaWAt
import Derived.Test.YtiagbkpggeglgaaWEqStruct
import Derived.Test.YtiagbkpggeglgaaWNEv
import Derived.Test.YtiagbkpggeglgaaWMore
namespace Go.Proofs.Ytiagbkpggeglgaa.LibW
open Go.ChangeShapes Go.WideShapes Go.RowKit Go.Proofs.YtiagbkpggeglgaaW.PrintWords Go.Proofs.YtiagbkpggeglgaaW.PrintLast Go.Proofs.YtiagbkpggeglgaaW.PrintMore
/-- What is read as data of type t is a value that the word d tells, and T holds of it. -/
def Opens {α : Type} (P : Program) (t : TypeId) (d : Kd α) (T : α → Prop) : Prop :=
  P.cellsOf t = d.sz ∧ ∀ (H : Type) (enc : TypeId × Value → H) (w : World) (base : Nat) (spare : Nat → Bool) (held : Bool) (fuel : Nat) (cs : List Value) (x : DataW H × List MemPlace),
    DataW.trod enc P w base spare held fuel t cs = some x → (∀ n ∈ x.1.weights P t, n ≤ reachBytes) → ∃ a : α, d.K w a cs ∧ T a
theorem Opens.int {P : Program} {t : TypeId} {k : IntKind} (hu : P.underlying t = some (.int k)) (hc : P.cellsOf t = 1) : Opens P t (Kd.int k) (fun n => (Lit.int k n).wf = true) :=
  ⟨hc, fun H enc w base spare held fuel cs x h _ => by
    obtain ⟨n, rfl, _, hw⟩ := DataW.trod_int hu h
    exact ⟨n, rfl, hw⟩⟩
theorem Opens.bool {P : Program} {t : TypeId} (hu : P.underlying t = some .bool) (hc : P.cellsOf t = 1) : Opens P t Kd.bool (fun _ => True) :=
  ⟨hc, fun H enc w base spare held fuel cs x h _ => by
    obtain ⟨n, rfl, _⟩ := DataW.trod_bool hu h
    exact ⟨n, rfl, trivial⟩⟩
theorem Opens.string {P : Program} {t : TypeId} (hu : P.underlying t = some .string) (hc : P.cellsOf t = 1) : Opens P t Kd.string (fun s => s.size ≤ maxLen) :=
  ⟨hc, fun H enc w base spare held fuel cs x h _ => by
    obtain ⟨s, rfl, _, hs⟩ := DataW.trod_string hu h
    exact ⟨s, rfl, hs⟩⟩
theorem list_of_fn {α : Type} {n : Nat} {p : Nat → α → Prop} (h : ∀ i, i < n → ∃ a, p i a) : ∃ l : List α, l.length = n ∧ ∀ (i : Nat) (a : α), l[i]? = some a → p i a := by
  induction n with
  | zero => exact ⟨[], rfl, fun i a h => by simp at h⟩
  | succ n ih =>
    obtain ⟨l, hl, hp⟩ := ih (fun i hi => h i (by omega))
    obtain ⟨a, ha⟩ := h n (by omega)
    refine ⟨l ++ [a], by simp [hl], fun i b hb => ?_⟩
    by_cases hi : i < n
    · rw [List.getElem?_append_left (by omega)] at hb
      exact hp i b hb
    · rw [List.getElem?_append_right (by omega)] at hb
      have : i = n := by
        rcases Nat.lt_or_ge (i - l.length) 1 with hz | hz
        · omega
        · rw [List.getElem?_eq_none (by simpa using hz)] at hb
          exact absurd hb (by simp)
      subst this
      rw [hl, Nat.sub_self, List.getElem?_cons_zero] at hb
      exact Option.some.inj hb ▸ ha
theorem weightsAll_mem {H : Type} {P : Program} {e : TypeId} : ∀ {l : List (DataW H)} {d : DataW H} {n : Nat}, d ∈ l → n ∈ d.weights P e → n ∈ DataW.weightsAll P e l
  | x :: l, d, n, hd, hn => by
    simp only [DataW.weightsAll, List.mem_append]
    rcases List.mem_cons.1 hd with rfl | hd
    · exact .inl hn
    · exact .inr (weightsAll_mem hd hn)
theorem mem_weights_slice {H : Type} {P : Program} {t e : TypeId} {l r : List (DataW H)} {d : DataW H} {n : Nat} (hu : P.underlying t = some (.slice e)) (hd : d ∈ l) (hn : n ∈ d.weights P e) : n ∈ (DataW.slice l r).weights P t := by
  simp only [DataW.weights, hu, List.mem_cons, List.mem_append]
  exact .inr (.inl (weightsAll_mem hd hn))
theorem len_of_weights {H : Type} {P : Program} {t e : TypeId} {D : Nat → DataW H} {r : List (DataW H)} {len : Nat} (hu : P.underlying t = some (.slice e)) (hB : 8 ≤ P.bytesOf e) (h : ∀ n ∈ (DataW.slice ((List.range len).map D) r).weights P t, n ≤ reachBytes) : len ≤ 17592186043904 := by
  have h1 := h ((((List.range len).map D).length + r.length) * P.bytesOf e) (by simp only [DataW.weights, hu, List.mem_cons]; exact .inl trivial)
  rw [List.length_map, List.length_range] at h1
  have h2 : (len + r.length) * 8 ≤ (len + r.length) * P.bytesOf e := Nat.mul_le_mul_left _ hB
  have h3 : reachBytes = 140737488351232 := rfl
  omega
theorem mem_weights_struct {H : Type} {P : Program} {t : TypeId} {fs : Array Field} {ds : List (DataW H)} {i : Nat} {f : Field} {d : DataW H} {n : Nat} (hu : P.underlying t = some (.struct fs)) (hf : fs[i]? = some f) (hd : ds[i]? = some d) (hn : n ∈ d.weights P f.type) : n ∈ (DataW.agg ds).weights P t := by
  simp only [DataW.weights, hu]
  exact DataW.weights_mem_each (j := i) (t := f.type) (d := d) (by simp [hf]) hd n hn
theorem Opens.slice {α : Type} {P : Program} {t e : TypeId} {d : Kd α} {T : α → Prop} (hu : P.underlying t = some (.slice e)) (hc : P.cellsOf t = 1) (ho : Opens P e d T) (hB : 8 ≤ P.bytesOf e) : Opens P t (Kd.slice e d) (fun l => l.length ≤ 17592186043904 ∧ ∀ a ∈ l, T a) :=
  ⟨hc, fun H enc w base spare held fuel cs x h hwt => by
    rcases Go.Deep.open_slice hu h with ⟨rfl, _⟩ | ⟨a, len, cap, m, n, D, Pl, rfl, hb, hl, hm, hmm, rfl, hx⟩
    · exact ⟨[], ⟨none, 0, rfl, Nat.le_refl _, rfl, by simp, fun h => absurd h (by simp)⟩, by simp, fun a h => absurd h (by simp)⟩
    · have hlm : len ≤ m := by rw [hmm]; split <;> omega
      obtain ⟨l, hll, hp⟩ := list_of_fn (n := len) (p := fun i (b : α) => ∃ c, w.cells? base (a.add (i * P.cellsOf e)) (P.cellsOf e) = some c ∧ d.K w b c ∧ T b) (fun i hi => by
        obtain ⟨c, h1, h2⟩ := hx i (by omega)
        obtain ⟨b, h3, h4⟩ := ho.2 _ _ _ _ _ _ _ _ _ h2 (fun n hn => hwt n (mem_weights_slice hu (List.mem_map.2 ⟨i, List.mem_range.2 hi, rfl⟩) hn))
        exact ⟨b, c, h1, h3, h4⟩)
      refine ⟨l, ⟨some a, cap, by rw [hll], by omega, rfl, ?_, fun _ => ⟨a, rfl, fun j p hj => ?_⟩⟩, by rw [hll]; exact len_of_weights hu hB (by simpa using hwt), fun b hb => ?_⟩
      · unfold maxLen at hm; omega
      · obtain ⟨c, h1, h3, _⟩ := hp j p hj
        refine ⟨c, d.K_len h3, h3, fun i u hi => ?_⟩
        rw [ho.1] at h1
        obtain ⟨_, hlen, hcell⟩ := World.cells?_some h1
        have hi2 : i < c.length := by
          rcases Nat.lt_or_ge i c.length with h | h
          · exact h
          · rw [List.getElem?_eq_none h] at hi; exact absurd hi (by simp)
        have h5 := hcell i (by omega)
        rw [Go.Deep.add_add] at h5
        rw [h5]
        exact hi
      · obtain ⟨i, hi⟩ := List.mem_iff_getElem?.1 hb
        exact (hp i b hi).choose_spec.2.2⟩
/-- What a struct's cells read as, field by field. -/
def OpensSeg {α : Type} (P : Program) (ts : List TypeId) (d : Kd α) (T : α → Prop) : Prop :=
  (ts.map P.cellsOf).sum = d.sz ∧ ∀ (H : Type) (enc : TypeId × Value → H) (w : World) (base : Nat) (spare : Nat → Bool) (held : Bool) (fuel : Nat) (cs : List Value), cs.length = d.sz →
    (∀ i t, ts[i]? = some t → ∃ x, DataW.trod enc P w base spare held fuel t ((cs.drop ((ts.take i).map P.cellsOf).sum).take (P.cellsOf t)) = some x ∧ ∀ n ∈ x.1.weights P t, n ≤ reachBytes) → ∃ a : α, d.K w a cs ∧ T a
theorem OpensSeg.one {α : Type} {P : Program} {t : TypeId} {d : Kd α} {T : α → Prop} (h : Opens P t d T) : OpensSeg P [t] d T :=
  ⟨by simp [h.1], fun H enc w base spare held fuel cs hl hx => by
    obtain ⟨x, hx, hw⟩ := hx 0 t rfl
    simp only [List.take_zero, List.map_nil, List.sum_nil, List.drop_zero] at hx
    rw [List.take_of_length_le (by rw [h.1]; omega)] at hx
    exact h.2 _ _ _ _ _ _ _ _ _ hx hw⟩
theorem OpensSeg.cons {α β : Type} {P : Program} {t : TypeId} {ts : List TypeId} {a : Kd α} {b : Kd β} {T : α → Prop} {U : β → Prop} (h : Opens P t a T) (hs : OpensSeg P ts b U) : OpensSeg P (t :: ts) (Kd.pair a b) (fun x => T x.1 ∧ U x.2) :=
  ⟨by simp [h.1, hs.1, Kd.pair], fun H enc w base spare held fuel cs hl hx => by
    have hl2 : cs.length = a.sz + b.sz := hl
    obtain ⟨x, h0, hw0⟩ := hx 0 t rfl
    simp only [List.take_zero, List.map_nil, List.sum_nil, List.drop_zero] at h0
    obtain ⟨u, hu, tu⟩ := h.2 _ _ _ _ _ _ _ _ _ h0 hw0
    obtain ⟨v, hv, tv⟩ := hs.2 H enc w base spare held fuel (cs.drop (P.cellsOf t)) (by rw [List.length_drop, h.1]; omega) (fun i t' hi => by
      obtain ⟨y, hy, hwy⟩ := hx (i + 1) t' (by simpa using hi)
      refine ⟨y, ?_, hwy⟩
      rw [List.drop_drop]
      simpa using hy)
    refine ⟨(u, v), ⟨cs.take (P.cellsOf t), cs.drop (P.cellsOf t), by rw [List.take_append_drop], hu, hv⟩, tu, tv⟩⟩
theorem Opens.iso {α β : Type} {P : Program} {t : TypeId} {d : Kd α} {T : α → Prop} (h : Opens P t d T) (f : β → α) (g : α → β) (hfg : ∀ a, f (g a) = a) : Opens P t (Kd.iso d f) (fun b => T (f b)) :=
  ⟨h.1, fun H enc w base spare held fuel cs x hx hw => by
    obtain ⟨a, ha, ta⟩ := h.2 _ _ _ _ _ _ _ _ _ hx hw
    exact ⟨g a, by show d.K w (f (g a)) cs; rw [hfg]; exact ha, by show T (f (g a)); rw [hfg]; exact ta⟩⟩
theorem Opens.struct {α : Type} {P : Program} {t : TypeId} {fs : Array Field} {ts : List TypeId} {d : Kd α} {T : α → Prop} (hu : P.underlying t = some (.struct fs)) (hc : P.cellsOf t = d.sz)
    (hfs : ∀ i (t' : TypeId), ts[i]? = some t' → ∃ f, fs[i]? = some f ∧ f.type = t' ∧ f.offset = ((ts.take i).map P.cellsOf).sum) (h : OpensSeg P ts d T) : Opens P t d T :=
  ⟨hc, fun H enc w base spare held fuel cs x hx hwt => by
    obtain ⟨xs, n, rfl, rfl, hlen, hxl, hf⟩ := DataW.trod_struct hu hx
    refine h.2 H enc w base spare held n cs (by rw [hlen, hc]) (fun i t' hi => ?_)
    obtain ⟨f, h1, rfl, ho⟩ := hfs i t' hi
    have h2 := hf i f h1
    have hi2 : i < xs.length := by
      rw [hxl]
      rcases Nat.lt_or_ge i fs.size with h | h
      · exact h
      · rw [Array.getElem?_eq_none h] at h1; exact absurd h1 (by simp)
    rw [List.getElem?_eq_getElem hi2] at h2
    rw [← ho]
    exact ⟨_, h2, fun n hn => hwt n (mem_weights_struct hu h1 (by rw [List.getElem?_map, List.getElem?_eq_getElem hi2]; rfl) hn)⟩⟩
theorem opens_slice {α : Type} {H : Type} {enc : TypeId × Value → H} {P : Program} {W : World} {base : Nat} {spare : Nat → Bool} {held : Bool} {t e : TypeId} {d : Kd α} {T : α → Prop} {a : Option Addr} {len cap : Nat} {dd : DataW H} {ps : List MemPlace}
    (hu : P.underlying t = some (.slice e)) (ho : Opens P e d T) (h : DataW.Trod enc P W base spare held t (.slice a len cap) dd ps) (hwt : ∀ n ∈ dd.weights P t, n ≤ reachBytes) (hB : 8 ≤ P.bytesOf e) : ∃ l : List α, len = l.length ∧ d.C W a l.length l ∧ l.length ≤ cap ∧ (l.length ≤ 17592186043904 ∧ ∀ x ∈ l, T x) := by
  obtain ⟨fuel, hf⟩ := h
  have hz : P.cellsOf e = d.sz := ho.1
  rcases Go.Deep.open_slice hu hf with ⟨hcs, _⟩ | ⟨a', len', cap', m, n, D, Pl, hcs, hb, hl, hm, hmm, hxx, hx⟩
  · simp [Value.cells] at hcs
    obtain ⟨rfl, rfl, rfl⟩ := hcs
    exact ⟨[], rfl, ⟨rfl, by simp, fun h => absurd h (by simp)⟩, Nat.le_refl _, by simp, fun a h => absurd h (by simp)⟩
  · simp [Value.cells] at hcs
    obtain ⟨rfl, rfl, rfl⟩ := hcs
    obtain ⟨rfl, _⟩ := Prod.mk.inj hxx
    have hlm : len ≤ m := by rw [hmm]; split <;> omega
    obtain ⟨l, hll, hp⟩ := list_of_fn (n := len) (p := fun i (b : α) => ∃ c, W.cells? base (a'.add (i * P.cellsOf e)) (P.cellsOf e) = some c ∧ d.K W b c ∧ T b) (fun i hi => by
      obtain ⟨c, h1, h2⟩ := hx i (by omega)
      obtain ⟨b, h3, h4⟩ := ho.2 _ _ _ _ _ _ _ _ _ h2 (fun n hn => hwt n (mem_weights_slice hu (List.mem_map.2 ⟨i, List.mem_range.2 hi, rfl⟩) hn))
      exact ⟨b, c, h1, h3, h4⟩)
    refine ⟨l, hll.symm, ⟨rfl, ?_, fun _ => ⟨a', rfl, fun j p hj => ?_⟩⟩, by omega, by rw [hll]; exact len_of_weights hu hB hwt, fun b hb => ?_⟩
    · unfold maxLen at hm; omega
    · obtain ⟨c, h1, h3, _⟩ := hp j p hj
      refine ⟨c, d.K_len h3, h3, fun i u hi => ?_⟩
      rw [hz] at h1
      obtain ⟨_, hlen, hcell⟩ := World.cells?_some h1
      have hi2 : i < c.length := by
        rcases Nat.lt_or_ge i c.length with h | h
        · exact h
        · rw [List.getElem?_eq_none h] at hi; exact absurd hi (by simp)
      have h5 := hcell i (by omega)
      rw [Go.Deep.add_add] at h5
      rw [h5]
      exact hi
    · obtain ⟨i, hi⟩ := List.mem_iff_getElem?.1 hb
      exact (hp i b hi).choose_spec.2.2
theorem opens_agg {α : Type} {H : Type} {enc : TypeId × Value → H} {P : Program} {W : World} {base : Nat} {spare : Nat → Bool} {held : Bool} {t : TypeId} {d : Kd α} {T : α → Prop} {cs : List Value} {dd : DataW H} {ps : List MemPlace}
    (ho : Opens P t d T) (h : DataW.Trod enc P W base spare held t (.agg ⟨cs⟩) dd ps) (hwt : ∀ n ∈ dd.weights P t, n ≤ reachBytes) : ∃ a : α, d.K W a cs ∧ T a := by
  obtain ⟨fuel, hf⟩ := h
  exact ho.2 _ _ _ _ _ _ _ _ _ hf hwt
end Go.Proofs.Ytiagbkpggeglgaa.LibW
