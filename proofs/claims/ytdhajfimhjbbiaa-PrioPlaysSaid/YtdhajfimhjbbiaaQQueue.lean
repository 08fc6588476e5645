import Derived.Test.YtdhajfimhjbbiaaQHeapI
namespace Go.Proofs.Ytdhajfimhjbbiaa.Q
open Go Go.RowKit Go.Proofs.YtdhajfimhjbbiaaW.PrintWords Go.Proofs.YtdhajfimhjbbiaaW.PrintLast Go.Proofs.YtdhajfimhjbbiaaW.PrintMore
set_option linter.unusedVariables false
set_option maxHeartbeats 4000000 in
set_option maxRecDepth 100000 in
theorem qpush_calls (w : World) (base b : Nat) (v : Value) (xs : List (Int × Int)) (at_ id : Int) (hR : Row w base b v xs) (hbase : base ≤ w.heap.size) (hm : xs.length < 900000) :
    Calls Try.prog 11 #[.pointer (some ⟨b, 0, none⟩), .int .i64 at_, .int .i64 id] w fun e w' => e = .returned (.tuple #[]) ∧ Post w base b v (heapPushL xs (at_, id)) w' := by
  have hlt := hR.lt
  go_enter Try.func11, Try.ntmps11
  go_wp2_with (first | (go_at_call 24; refine (heapPush_calls _ base b v xs (at_, id) (by assumption) (by omega) (by omega)).mono ?_; rintro e w1 ⟨rfl, P1⟩))
  go_end0
  exact ⟨rfl, P1⟩
set_option maxHeartbeats 4000000 in
set_option maxRecDepth 100000 in
theorem qlen_calls (w : World) (base b : Nat) (v : Value) (xs : List (Int × Int)) (hR : Row w base b v xs) :
    Calls Try.prog 14 #[.pointer (some ⟨b, 0, none⟩)] w fun e w' => e = .returned (.int .i64 xs.length) ∧ Drawn0 w w' := by
  obtain ⟨A, c, rfl⟩ := Kd.R_slice hR.row
  have hv := hR.cell
  clear hR
  go_enter Try.func14, Try.ntmps14
  go_wp2
  go_ret
  exact ⟨rfl, Drawn0.refl _⟩
set_option maxHeartbeats 4000000 in
set_option maxRecDepth 100000 in
theorem qpeek_calls (w : World) (base b : Nat) (v : Value) (xs : List (Int × Int)) (hR : Row w base b v xs) :
    Calls Try.prog 12 #[.pointer (some ⟨b, 0, none⟩)] w fun e w' => e = .returned (.tuple #[.int .i64 (rdp xs (0 : Nat)).1, .int .i64 (rdp xs (0 : Nat)).2, .bool (decide (0 < xs.length))]) ∧ Drawn0 w w' := by
  cases xs with
  | nil =>
    have hv := hR.cell
    go_enter Try.func12, Try.ntmps12
    go_wp2_with (go_at_call 14; refine (qlen_calls _ base b v _ hR).mono ?_; rintro e w1 ⟨rfl, d1⟩)
    go_ret3
    exact ⟨rfl, d1⟩
  | cons x xs =>
    obtain ⟨g, cap, rfl, hc⟩ := hR.form (by simp)
    have C := qlen_calls w base b _ _ hR
    obtain ⟨n, hn⟩ : ∃ n, n = (x :: xs).length := ⟨_, rfl⟩
    have hn0 : 0 < n := by rw [hn]; simp
    have F : ∀ w1, Drawn0 w w1 → w1.cell? ⟨b, 0, none⟩ = some (.slice (some ⟨g, 0, none⟩) n cap) ∧ w1.cell? ⟨g, 0, none⟩ = some (.int .i64 x.1) ∧ w1.cell? ⟨g, 1, none⟩ = some (.int .i64 x.2) := by
      intro w1 d1
      have r1 := Row.after hR d1
      obtain ⟨ad, ea, hx1, hx2⟩ := at_p (Kd.R_reads' r1.row).2.2 0 (by omega) (by simp)
      injection ea with ea
      subst ea
      exact ⟨hn ▸ r1.cell, hx1, hx2⟩
    rw [← hn] at C hc ⊢
    have e1 : decide (0 < n) = true := decide_eq_true hn0
    have e2 : rdp (x :: xs) (0 : Nat) = x := rfl
    have e3 : ((n : Int) == 0) = false := beq_eq_false_iff_ne.2 (by omega)
    have e4 : (0 < n) = True := eq_true hn0
    rw [e1, e2]
    clear hR hn e1 e2
    go_enter Try.func12, Try.ntmps12
    go_wp2_with (go_at_call 14; refine C.mono ?_; rintro e w1 ⟨rfl, d1⟩; obtain ⟨hv, hx1, hx2⟩ := F w1 d1; clear F C)
    go_quiet (fail)
    go_wp2
    go_ret3
    exact ⟨rfl, d1.step _⟩
def popL (xs : List (Int × Int)) : List (Int × Int) := (heapPopL xs).take (xs.length - 1)
theorem popL_nil : popL [] = [] := by simp [popL]
theorem popL_length (xs : List (Int × Int)) : (popL xs).length = xs.length - 1 := by
  unfold popL
  rw [List.length_take, heapPopL_length]
  omega
set_option maxHeartbeats 4000000 in
set_option maxRecDepth 100000 in
theorem qpop_calls (w : World) (base b : Nat) (v : Value) (xs : List (Int × Int)) (hR : Row w base b v xs) (hm : xs.length < 900000) :
    Calls Try.prog 13 #[.pointer (some ⟨b, 0, none⟩)] w fun e w' => e = .returned (.tuple #[.int .i64 (rdp xs (0 : Nat)).1, .int .i64 (rdp xs (0 : Nat)).2, .bool (decide (0 < xs.length))]) ∧ Post w base b v (popL xs) w' := by
  cases xs with
  | nil =>
    have C := qpeek_calls w base b v _ hR
    go_enter Try.func13, Try.ntmps13
    go_wp2_with (first | (go_at_call 12; refine C.mono ?_; rintro e w1 ⟨rfl, d1⟩))
    go_ret3
    exact ⟨rfl, (Post.refl hR).drawn d1⟩
  | cons x xs =>
    have C := qpeek_calls w base b _ _ hR
    obtain ⟨n, hn⟩ : ∃ n, n = (x :: xs).length := ⟨_, rfl⟩
    have hn0 : 0 < n := by rw [hn]; simp
    have e1 : decide (0 < n) = true := decide_eq_true hn0
    have H : ∀ w1, Drawn0 w w1 → Calls Try.prog 25 #[.iface 65 (.pointer (some ⟨b, 0, none⟩))] w1 fun e w' => (∃ u, e = .returned u) ∧ Post w base b v (popL (x :: xs)) w' := by
      intro w1 d1
      refine (heapPop_calls w1 base b v _ (Row.after hR d1) (by simp) hm).mono fun e w' ⟨he, hP⟩ => ⟨he, ?_⟩
      exact Post.step ((Eff.refl _ _).drawn d1) (fun _ hk => .inl hk) hP
    rw [← hn, e1] at C
    rw [← hn, e1]
    clear hR hm hn e1 hn0
    go_enter Try.func13, Try.ntmps13
    go_wp2_with (first | (go_at_call 12; refine C.mono ?_; rintro e w1 ⟨rfl, d1⟩) | (go_at_call 25; refine (H _ d1).mono ?_; rintro e w2 ⟨⟨u, rfl⟩, P2⟩))
    go_ret3
    exact ⟨rfl, P2⟩
end Go.Proofs.Ytdhajfimhjbbiaa.Q
