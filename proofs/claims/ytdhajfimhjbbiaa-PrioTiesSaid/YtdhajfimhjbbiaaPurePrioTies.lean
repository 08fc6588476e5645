import Derived.Test.YtdhajfimhjbbiaaQMapSep
import Derived.Test.YtdhajfimhjbbiaaQAlive
import Derived.Test.YtdhajfimhjbbiaaMx0
namespace Go.Proofs.Ytdhajfimhjbbiaa.Pure
open Go Go.RowKit Go.Proofs.Ytdhajfimhjbbiaa.Q Go.Proofs.Ytdhajfimhjbbiaa.M Go.Proofs.YtdhajfimhjbbiaaW.PrintWords Go.Proofs.YtdhajfimhjbbiaaW.PrintLast Go.Proofs.YtdhajfimhjbbiaaW.PrintMore
set_option linter.unusedVariables false
open Go.Proofs.Ytdhajfimhjbbiaa.L
/-- What was put in at one place. -/
def tied (a : Int) (l : List Int) : List (Int × Int) := l.foldl (fun acc id => insL (a, id) acc) []
theorem tied_snoc (a : Int) (l : List Int) (x : Int) : tied a (l ++ [x]) = insL (a, x) (tied a l) := by simp [tied]
theorem tied_perm (a : Int) (l : List Int) : (tied a l).Perm (l.map (fun x => (a, x))) := by
  have := foldl_ins_perm (fun x : Int => (a, x)) l []
  rwa [List.append_nil] at this
theorem tied_length (a : Int) (l : List Int) : (tied a l).length = l.length := by rw [(tied_perm a l).length_eq]; simp
theorem tied_fst {a : Int} {l : List Int} {x : Int × Int} (h : x ∈ tied a l) : x.1 = a := by
  obtain ⟨p, _, rfl⟩ := List.mem_map.1 ((tied_perm a l).mem_iff.1 h)
  rfl
theorem tied_snd (a : Int) (l : List Int) : ((tied a l).map (·.2)).reverse = fallL l := by
  refine fallL_eq ?_ ?_
  · refine (List.reverse_perm _).trans (((tied_perm a l).map _).trans ?_)
    rw [List.map_map]
    have e : (Prod.snd ∘ fun x : Int => (a, x)) = id := rfl
    rw [e, List.map_id]
  · rw [List.pairwise_reverse, List.pairwise_map]
    have hs : Srt (tied a l) := foldl_ins_srt (fun x : Int => (a, x)) l [] List.Pairwise.nil
    refine hs.imp_of_mem (fun {x y} hx hy h => ?_)
    rw [leB_iff] at h
    have := tied_fst hx
    have := tied_fst hy
    omega
set_option maxHeartbeats 4000000 in
set_option maxRecDepth 100000 in
theorem PrioTies_walk (a0 : Int) (A : Option Addr) (c : Nat) (l : List Int) (w : World) (hn : (Lit.int .i64 a0).wf = true) (h0 : (l.length ≤ maxLen ∧ ∀ a_ ∈ l, (Lit.int .i64 a_).wf = true)) (h1 : l.length * 8 ≤ 140737488351232) (hr : Kd.C (Kd.int .i64) w A l.length l) (hc : l.length ≤ c) :
    Calls Try.prog 6 #[.int .i64 a0, .slice A l.length c] w fun e w' => e = .returned (.bool true) ∧ Below w.heap.size w w' := by
  by_cases hlong : 60 < l.length
  · have p1 : (60 < (l.length : Int)) = True := eq_true (by omega)
    clear h0 h1
    go_enter Try.func6, Try.ntmps6
    go_wp2_with (go_at_call 10; refine (alive_calls _).mono ?_; rintro e w1 ⟨rfl, e1⟩)
    go_ret
    exact ⟨rfl, e1.below (Nat.le_refl _) (fun _ h => h.elim)⟩
  · have p1 : (60 < (l.length : Int)) = False := eq_false (by omega)
    have B : l.length ≤ 60 := by omega
    have H := Aside0.mk hr
    clear h0 h1 hr hlong
    go_enter Try.func6, Try.ntmps6
    go_wp2_with (go_at_call 10; refine (alive_calls _).mono ?_; rintro e w1 ⟨rfl, e1⟩; have N0 := NewS.mk w e1; generalize hb : w1.heap.size = b at N0)
    go_loopg [25] l.length (fun k s25 wr => ∃ (i : Nat), s25 = .int .i64 i ∧ i + k = l.length ∧ NewS w wr b (tied a0 (l.take i)))
    case atStart => exact ⟨0, rfl, by omega, N0⟩
    case round =>
      obtain ⟨i, rfl, h1, N1⟩ := hrel
      clear N0 hb e1
      have hlen := tied_length a0 (l.take i)
      rw [List.length_take] at hlen
      have A1 := Aside0.mk hlen
      clear hlen
      by_cases hz : i < l.length
      · have p2 : ((i : Int) < (l.length : Int)) = True := eq_true (by omega)
        have B2 : i < 60 := by omega
        obtain ⟨ad, rfl, x1⟩ := Kd.at_int (Kd.C_below H.out N1.below) (i : Int) (by omega) (by omega)
        have e2 : (i : Int).toNat = i := by omega
        rw [e2] at x1
        go_wp2_with (go_at_call 11; refine (NewS.push N1 (by rw [A1.out]; omega) _ _).mono ?_; rintro e w2 ⟨rfl, N2⟩)
        go_roundg (gk - 1)
        case measure => omega
        case rel => exact ⟨i + 1, by simp, by omega, by rw [takeRd l i hz, tied_snoc]; exact N2⟩
      · have p2 : ((i : Int) < (l.length : Int)) = False := eq_false (by omega)
        rw [List.take_of_length_le (by omega)] at N1 A1
        go_wp2_with (go_at_call 15; refine (sorted_calls _ _ _ _ (Kd.C_below H.out N1.below) (by omega)).mono ?_; rintro e w2 ⟨v, rfl, HS, B2⟩; obtain ⟨A2, c2, hv, hc2, HC⟩ := Kd.R_reads HS; rw [fallL_length] at hv hc2 HC; subst hv; have N2 := (NewS.toT N1).after ((Eff.of_below (S := fun _ => False) B2)); have B3 := below_then N1.below N1.below.size B2)
        have hrw : w.heap.size ≤ wr.heap.size := N1.below.size
        clear N1 HC B2 hc2
        generalize hwr' : wr = wr' at hrw HS
        go_loopg [43] l.length (fun k s43 wrr => ∃ (j : Nat) (done rest : List (Int × Int)), s43 = .int .i64 j ∧ j + k = l.length ∧ Aside0 (done ++ rest = tied a0 l) ∧ done.length = j ∧ NewT w wrr b rest ∧ Below w.heap.size w wrr ∧ Kd.R (Kd.int .i64) 3 wrr wr'.heap.size (fun _ => True) (.slice A2 l.length c2) (fallL l))
        case atStart => exact ⟨0, [], tied a0 l, rfl, by omega, Aside0.mk rfl, rfl, N2, B3, HS⟩
        case round =>
          clear N2 B3 HS p2
          obtain ⟨j, done, rest, rfl, h2, A3, h3, N4, B4, HS4⟩ := hrel
          have hall := congrArg List.length A3.out
          rw [tied_length, List.length_append] at hall
          by_cases hj : j < l.length
          · have p2 : ((j : Int) < (l.length : Int)) = True := eq_true (by omega)
            have B5 : j < 60 := by omega
            cases rest with
            | nil => simp at hall; omega
            | cons x rest =>
              obtain ⟨m, hm⟩ : ∃ m : Nat, m = l.length - 1 - j := ⟨_, rfl⟩
              have hsnd : rd (fallL l) (m : Int) = x.2 := by
                rw [← tied_snd a0, ← A3.out]
                unfold rd
                rw [Int.toNat_natCast, List.getD_eq_getElem?_getD, List.getElem?_reverse (by simp at hall ⊢; omega)]
                simp only [List.length_map, List.length_append, List.length_cons, List.map_append, List.map_cons]
                rw [show done.length + (rest.length + 1) - 1 - m = (done.map (·.2)).length by simp at hall ⊢; omega, List.getElem?_append_right (Nat.le_refl _), Nat.sub_self]
                rfl
              have hfst : x.1 = a0 := tied_fst (a := a0) (l := l) (by rw [← A3.out]; simp)
              have d1 : decide (0 < (x :: rest).length) = true := decide_eq_true (by simp)
              have C := NewT.pop N4 (by omega)
              rw [d1] at C
              simp only [hd, List.getD_cons_zero, List.tail_cons] at C
              obtain ⟨xa, xi⟩ := x
              dsimp only at hfst hsnd C
              subst hfst
              obtain ⟨ad2, rfl, _⟩ := Kd.at_int (Kd.R_reads' HS4).2.2 (m : Int) (by omega) (by rw [fallL_length]; omega)
              have C2 : Calls Try.prog 13 #[.pointer (some ⟨b, 0, none⟩)] wr fun e w' => e = .returned (.tuple #[.int .i64 xa, .int .i64 xi, .bool true]) ∧ NewT w w' b rest ∧ Below w.heap.size w w' ∧ Aside0 (Kd.R (Kd.int .i64) 3 w' wr'.heap.size (fun _ => True) (.slice (some ad2) l.length c2) (fallL l)) ∧
                  w'.cell? (ad2.add m) = some (.int .i64 xi) := by
                refine C.mono fun e w' ⟨he, N5, Q5⟩ => ?_
                have HS5 := R_q HS4 Q5 (by decide) (by decide)
                obtain ⟨ad2', e2, y2⟩ := Kd.at_int (Kd.R_reads' HS5).2.2 (m : Int) (by omega) (by rw [fallL_length]; omega)
                injection e2 with e2
                subst e2
                rw [hsnd] at y2
                exact ⟨he, N5, below_q B4 Q5, Aside0.mk HS5, y2⟩
              have q1 : (l.length : Int) - 1 - (j : Int) = (m : Int) := by omega
              have hm2 := Aside0.mk hm
              clear C d1 hsnd HS4 N4 B4 hall hm
              go_wp2_with (first | (go_at_call 13; refine C2.mono ?_; rintro e w4 ⟨rfl, N5, B6, HS5, y2⟩) | fail)
              go_roundg (gk - 1)
              case measure => omega
              case rel => exact ⟨j + 1, done ++ [(xa, xi)], rest, by simp, by omega, Aside0.mk (by rw [← A3.out]; simp), by simp [h3], N5, B6, HS5.out⟩
          · have p2 : ((j : Int) < (l.length : Int)) = False := eq_false (by omega)
            obtain rfl : rest = [] := List.eq_nil_of_length_eq_zero (by omega)
            go_wp2_with (first | (go_at_call 14; refine (NewT.len N4).mono ?_; rintro e w4 ⟨rfl, N5, Q5⟩) | fail)
            go_ret
            exact ⟨rfl, below_q B4 Q5⟩
end Go.Proofs.Ytdhajfimhjbbiaa.Pure
