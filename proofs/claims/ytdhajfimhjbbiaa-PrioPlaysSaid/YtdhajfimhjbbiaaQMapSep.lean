import Derived.Test.YtdhajfimhjbbiaaQQSort
import Derived.Test.YtdhajfimhjbbiaaLMap
namespace Go.Proofs.Ytdhajfimhjbbiaa.Q
open Go Go.RowKit Go.Proofs.YtdhajfimhjbbiaaW.PrintWords Go.Proofs.YtdhajfimhjbbiaaW.PrintLast Go.Proofs.YtdhajfimhjbbiaaW.PrintMore
set_option linter.unusedVariables false
open Go.Proofs.Ytdhajfimhjbbiaa.L
section
variable {K : Type} {κ : Key K} {w w1 : World} {b : Nat} {l : List (K × Value)}
theorem _root_.Go.Proofs.Ytdhajfimhjbbiaa.L.MapAt.afterT {B : Nat} {T : List Nat} (h : MapAt κ w b l) (e : Eff (Typed B w T) w w1) : MapAt κ w1 b l := by
  refine h.move (e.block b h.lt ?_)
  rintro ⟨_, cells, t, hc, _⟩
  obtain ⟨es, clock, hb, _⟩ := h
  rw [hb] at hc
  cases hc
theorem _root_.Go.Proofs.Ytdhajfimhjbbiaa.L.MapAt.eff (h : MapAt κ w b l) (e : Eff (fun _ => False) w w1) : MapAt κ w1 b l := h.move (e.block b h.lt id)
theorem R_map {α : Type} {d : Kd α} {e base : Nat} {ok : Nat → Prop} {v : Value} {xs : List α} (h : d.R e w base ok v xs) (m : MapAt κ w b l) (g : w.grownBy w1 (some b)) : d.R e w1 base ok v xs := by
  refine Kd.R_mono (Kd.R_step (Kd.R_bound h) (fun i hi hlt => g.block i hlt ?_)) (fun _ hk => hk.1)
  intro he
  injection he with he
  subst he
  obtain ⟨_, _, _, q, hq, cells', hc'⟩ := hi
  obtain ⟨es, clock, hb, _⟩ := m
  rw [hb] at hc'
  cases hc'
theorem Row.map {base bq : Nat} {v : Value} {xs : List (Int × Int)} (h : Row w base bq v xs) (m : MapAt κ w b l) (g : w.grownBy w1 (some b)) : Row w1 base bq v xs := by
  refine ⟨(g.block bq h.lt ?_).trans h.blk, h.from_, R_map h.row m g⟩
  intro he
  injection he with he
  subst he
  obtain ⟨es, clock, hb, _⟩ := m
  have := h.blk
  rw [hb] at this
  cases this
theorem NewT.map {W W' w : World} {bq : Nat} {q : List (Int × Int)} (h : NewT w W bq q) (m : MapAt κ W b l) (g : W.grownBy W' (some b)) : NewT w W' bq q := by
  obtain ⟨v, xs, r, s⟩ := h
  exact ⟨v, xs, r.map m g, s⟩
theorem below_map {W W' w : World} {B : Nat} (h : Below B w W) (hB : B ≤ w.heap.size) (g : W.grownBy W' (some b)) (hb : B ≤ b) : Below B w W' := h.grown g (Nat.le_trans hB h.size) (fun k hk => by injection hk with hk; omega)
end
/-- What was put in: each number with its place. -/
def pushed (l : List Int) : List (Int × Int) := l.zipIdx.foldl (fun acc p => insL (p.1, (p.2 : Int)) acc) []
theorem pushed_snoc (l : List Int) (x : Int) : pushed (l ++ [x]) = insL (x, (l.length : Int)) (pushed l) := by
  unfold pushed
  rw [List.zipIdx_append, List.foldl_append]
  simp
theorem foldl_ins_perm {α : Type} (f : α → Int × Int) : ∀ (l : List α) (acc : List (Int × Int)), (l.foldl (fun acc p => insL (f p) acc) acc).Perm (l.map f ++ acc)
  | [], acc => List.Perm.refl _
  | x :: l, acc => by
    rw [List.foldl_cons]
    refine (foldl_ins_perm f l _).trans ?_
    rw [List.map_cons, List.cons_append]
    exact (List.Perm.append_left _ (insL_perm _ _)).trans List.perm_middle
theorem foldl_ins_srt {α : Type} (f : α → Int × Int) : ∀ (l : List α) (acc : List (Int × Int)), Srt acc → Srt (l.foldl (fun acc p => insL (f p) acc) acc)
  | [], acc, h => h
  | x :: l, acc, h => foldl_ins_srt f l _ (insL_srt _ _ h)
theorem pushed_perm (l : List Int) : (pushed l).Perm (l.zipIdx.map (fun p => (p.1, (p.2 : Int)))) := by
  have := foldl_ins_perm (fun p : Int × Nat => (p.1, (p.2 : Int))) l.zipIdx []
  rwa [List.append_nil] at this
theorem pushed_srt (l : List Int) : Srt (pushed l) := foldl_ins_srt (fun p : Int × Nat => (p.1, (p.2 : Int))) l.zipIdx [] List.Pairwise.nil
theorem pushed_length (l : List Int) : (pushed l).length = l.length := by rw [(pushed_perm l).length_eq]; simp
theorem srtP_perm (l : List Int) : (srtP l).Perm (l.map (fun x => (x, (0 : Int)))) := by
  have := foldl_ins_perm (fun x : Int => (x, (0 : Int))) l []
  rwa [List.append_nil] at this
theorem srtP_srt (l : List Int) : Srt (srtP l) := foldl_ins_srt (fun x : Int => (x, (0 : Int))) l [] List.Pairwise.nil
theorem srt_fst {l : List (Int × Int)} (h : Srt l) : (l.map (·.1)).Pairwise (fun a b => b ≤ a) := List.pairwise_map.2 (h.imp (fun {a b} hab => by rw [leB_iff] at hab; omega))
theorem fall_unique : ∀ {l m : List Int}, l.Perm m → l.Pairwise (fun a b => b ≤ a) → m.Pairwise (fun a b => b ≤ a) → l = m
  | [], m, h, _, _ => by rw [List.nil_perm] at h; exact h.symm
  | x :: l, [], h, _, _ => by rw [List.perm_nil] at h; cases h
  | x :: l, y :: m, h, hl, hm => by
    have a := List.pairwise_cons.1 hl
    have b := List.pairwise_cons.1 hm
    have e : x = y := by
      rcases List.mem_cons.1 (h.mem_iff.1 (List.mem_cons_self (a := x) (l := l))) with e | e
      · exact e
      · rcases List.mem_cons.1 (h.mem_iff.2 (List.mem_cons_self (a := y) (l := m))) with f | f
        · exact f.symm
        · have := a.1 y f; have := b.1 x e; omega
    subst e
    rw [fall_unique h.cons_inv a.2 b.2]
theorem fallL_perm (l : List Int) : (fallL l).Perm l := by
  have := (srtP_perm l).map Prod.fst
  unfold fallL
  refine this.trans ?_
  rw [List.map_map]
  have e : (Prod.fst ∘ fun x : Int => (x, (0 : Int))) = id := rfl
  rw [e, List.map_id]
theorem fallL_falls (l : List Int) : (fallL l).Pairwise (fun a b => b ≤ a) := srt_fst (srtP_srt l)
theorem fallL_eq {l m : List Int} (hp : m.Perm l) (h : m.Pairwise (fun a b => b ≤ a)) : m = fallL l := fall_unique (hp.trans (fallL_perm l).symm) h (fallL_falls l)
theorem pushed_fst (l : List Int) : (pushed l).map (·.1) = fallL l := by
  refine fallL_eq ?_ (srt_fst (pushed_srt l))
  refine ((pushed_perm l).map _).trans ?_
  rw [List.map_map]
  have e : (Prod.fst ∘ fun p : Int × Nat => (p.1, (p.2 : Int))) = Prod.fst := rfl
  rw [e, List.zipIdx_map_fst]
theorem pushed_mem {l : List Int} {x : Int × Int} (h : x ∈ pushed l) : 0 ≤ x.2 ∧ x.2 < l.length ∧ rd l x.2 = x.1 := by
  obtain ⟨p, hp, rfl⟩ := List.mem_map.1 ((pushed_perm l).mem_iff.1 h)
  obtain ⟨_, h2, h3⟩ := List.mem_zipIdx hp
  have h4 : p.2 < l.length := by simpa using h2
  refine ⟨by dsimp only; omega, by dsimp only; omega, ?_⟩
  unfold rd
  dsimp only
  rw [Int.toNat_natCast, List.getD_eq_getElem?_getD, List.getElem?_eq_getElem h4]
  simp at h3
  exact h3.symm
theorem pushed_ids (l : List Int) : ((pushed l).map (·.2)).Nodup := by
  refine (((pushed_perm l).map _).nodup_iff).2 ?_
  rw [List.map_map]
  have e : (Prod.snd ∘ fun p : Int × Nat => (p.1, (p.2 : Int))) = (fun n : Nat => (n : Int)) ∘ Prod.snd := rfl
  rw [e, ← List.map_map, List.zipIdx_map_snd]
  exact List.pairwise_map.2 ((List.nodup_range' (s := 0) (n := l.length) (step := 1)).imp (fun hab h => hab (by omega)))
end Go.Proofs.Ytdhajfimhjbbiaa.Q
