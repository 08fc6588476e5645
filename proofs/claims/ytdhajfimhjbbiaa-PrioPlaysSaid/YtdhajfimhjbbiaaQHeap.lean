import Derived.Test.YtdhajfimhjbbiaaQDown
namespace Go.Proofs.Ytdhajfimhjbbiaa.Q
open Go Go.RowKit Go.Proofs.YtdhajfimhjbbiaaW.PrintWords Go.Proofs.YtdhajfimhjbbiaaW.PrintLast Go.Proofs.YtdhajfimhjbbiaaW.PrintMore
set_option linter.unusedVariables false
def heapPushL (xs : List (Int × Int)) (o : Int × Int) : List (Int × Int) := upL (xs.length + 1) (xs ++ [o]) xs.length
theorem len_row {w : World} {base b : Nat} {v : Value} {xs : List (Int × Int)} (h : Row w base b v xs) :
    Calls Try.prog 104 #[v] w fun e w' => e = .returned (.int .i64 xs.length) ∧ w' = w := by
  obtain ⟨A, c, rfl⟩ := Kd.R_slice h.row
  clear h
  go_enter Try.func104, Try.ntmps104
  go_wp2
  go_ret
  exact ⟨rfl, rfl⟩
theorem Post.lift {w w1 w2 : World} {base b : Nat} {v v1 : Value} {ys : List (Int × Int)} (e1 : Eff (Foot b v) w w1) (o1 : ∀ k, v1.ownBlock = some k → v.ownBlock = some k ∨ w.heap.size ≤ k) (r2 : Row w2 base b v1 ys) (e2 : Eff (Foot b v1) w1 w2) : Post w base b v ys w2 :=
  Post.step e1 o1 ⟨v1, r2, e2, fun _ hk => .inl hk⟩
set_option maxHeartbeats 4000000 in
set_option maxRecDepth 100000 in
theorem heapPush_calls (w : World) (base b : Nat) (v : Value) (xs : List (Int × Int)) (o : Int × Int) (hR : Row w base b v xs) (hbase : base ≤ w.heap.size) (hm : xs.length < 900000) :
    Calls Try.prog 24 #[.iface 65 (.pointer (some ⟨b, 0, none⟩)), .iface 67 (.agg #[.int .i64 o.1, .int .i64 o.2])] w fun e w' => e = .returned (.tuple #[]) ∧ Post w base b v (heapPushL xs o) w' := by
  have C := push_calls w base b v xs o hR hbase (by omega)
  have hl : (xs ++ [o]).length = xs.length + 1 := by simp
  have A := Aside0.mk hR
  clear hR
  go_enter Try.func24, Try.ntmps24
  go_wp2_with (first | (go_at_call 108; refine C.mono ?_; rintro e w1 ⟨rfl, v1, r1, e1, o1⟩; have A1 := Aside0.mk o1; clear o1; have hL := method_len ⟨b, 0, none⟩ w1 v1 r1.cell) | (go_at_call 104; refine (len_row r1).mono ?_; rintro e w2 ⟨rfl, hw2⟩; subst hw2) | (go_at_call 66; refine (up_calls _ base b _ (xs ++ [o]) xs.length (by assumption) (by omega) (by omega)).mono ?_; rintro e w3 ⟨rfl, r3, e3⟩))
  go_end0
  exact ⟨rfl, Post.lift e1 A1.out r3 e3⟩
def heapPopL (xs : List (Int × Int)) : List (Int × Int) := downL (xs.length - 1 + 1) (swapL xs (0 : Nat) (xs.length - 1 : Nat)) 0 (xs.length - 1)
theorem upL_length : ∀ (f : Nat) (xs : List (Int × Int)) (j : Nat), (upL f xs j).length = xs.length
  | 0, _, _ => rfl
  | f + 1, xs, j => by
    unfold upL
    split
    · rfl
    · split
      · rw [upL_length, swapL_length]
      · rfl
theorem downL_length : ∀ (f : Nat) (xs : List (Int × Int)) (i n : Nat), (downL f xs i n).length = xs.length
  | 0, _, _, _ => rfl
  | f + 1, xs, i, n => by
    unfold downL
    split
    · rfl
    · split
      · rw [downL_length, swapL_length]
      · rfl
theorem heapPopL_length (xs : List (Int × Int)) : (heapPopL xs).length = xs.length := by unfold heapPopL; rw [downL_length, swapL_length]
set_option maxHeartbeats 4000000 in
set_option maxRecDepth 100000 in
theorem heapPop_calls (w : World) (base b : Nat) (v : Value) (xs : List (Int × Int)) (hR : Row w base b v xs) (hn : 0 < xs.length) (hm : xs.length < 900000) :
    Calls Try.prog 25 #[.iface 65 (.pointer (some ⟨b, 0, none⟩))] w fun e w' => (∃ u, e = .returned u) ∧ Post w base b v ((heapPopL xs).take (xs.length - 1)) w' := by
  have hl := heapPopL_length xs
  obtain ⟨n, hx⟩ : ∃ n, xs.length = n + 1 := ⟨xs.length - 1, by omega⟩
  have p1 : (xs.length : Int) - 1 = (n : Nat) := by omega
  have A := Aside0.mk hx
  have hls : (swapL xs (0 : Nat) (n : Nat)).length = xs.length := swapL_length _ _ _
  have hL := method_len ⟨b, 0, none⟩ w v hR.cell
  have hS := method_swap ⟨b, 0, none⟩ w v hR.cell
  have B : n < 1000000 := by omega
  go_enter Try.func25, Try.ntmps25
  go_wp2_with (first | (go_at_call 104; refine (len_row hR).mono ?_; rintro e w2 ⟨rfl, hw2⟩; subst hw2) | (go_at_call 106; refine (swap_row hR (0 : Nat) (n : Nat) (by omega) (by omega) (by omega) (by omega)).mono ?_; rintro e w2 ⟨rfl, r2, e2⟩) | (go_at_call 67; refine (down_calls _ base b v _ 0 n r2 (by omega) (by omega) (by omega)).mono ?_; rintro e w3 ⟨⟨q, rfl⟩, r3, e3⟩) | (go_at_call 107; refine (pop_calls _ base b v _ r3 (by rw [downL_length]; omega) (by rw [downL_length]; omega)).mono ?_; rintro e w4 ⟨rfl, P4⟩))
  go_ret
  refine ⟨⟨_, rfl⟩, ?_⟩
  have eq : heapPopL xs = downL (n + 1) (swapL xs (0 : Nat) (n : Nat)) 0 n := by unfold heapPopL; rw [A.out]; rfl
  rw [eq, A.out]
  rw [downL_length, hls, A.out] at P4
  exact Post.step (e2.trans e3 (fun _ h => .inl h)) (fun _ hk => .inl hk) P4
def initL : Nat → List (Int × Int) → Nat → List (Int × Int)
  | 0, xs, _ => xs
  | k + 1, xs, n => initL k (downL (n + 1) xs k n) n
theorem initL_length : ∀ (k : Nat) (xs : List (Int × Int)) (n : Nat), (initL k xs n).length = xs.length
  | 0, _, _ => rfl
  | k + 1, xs, n => by rw [initL, initL_length, downL_length]
end Go.Proofs.Ytdhajfimhjbbiaa.Q
