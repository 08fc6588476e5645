import Derived.Test.YtcmepoakcffpaaaPTx0
import Derived.Test.YtcmepoakcffpaaaCParts
import Derived.Test.YtcmepoakcffpaaaCB
import Derived.Laws.MakeOwn
import Derived.Test.YtcmepoakcffpaaaProg
import Derived.BigRegion
import Derived.BigQuiet
import Derived.Deep.QuietTactic
import Derived.Deep.AppendLies
import Derived.ChangeAlike
import Derived.Outline
import Derived.WalkKit
import Derived.KernelRfl
import Derived.Deep.LoopGhost
import Derived.Deep.RegionLaw
import Derived.Test.YtcmepoakcffpaaaWMore
import Derived.Test.YtcmepoakcffpaaaWKept
import Derived.Test.YtcmepoakcffpaaaLSep
namespace Go.Proofs.Ytcmepoakcffpaaa.Pure
open Go Go.RowKit Go.Proofs.YtcmepoakcffpaaaW.PrintWords Go.Proofs.YtcmepoakcffpaaaW.PrintLast Go.Proofs.YtcmepoakcffpaaaW.PrintMore Go.Proofs.Ytcmepoakcffpaaa.L Go.Proofs.Ytcmepoakcffpaaa.SP Go.Proofs.Ytcmepoakcffpaaa.CF Go.Proofs.Ytcmepoakcffpaaa.CP Go.Proofs.Ytcmepoakcffpaaa.PT
set_option linter.unusedVariables false
set_option linter.unusedSimpArgs false
/-! ### BucketParts: the walk -/
def ce (x : S25) : Ce := (x.f0, x.f1, x.f2, x.f3)
theorem rdc_of {W : World} {A : Option Addr} {l : List S25} (h : Kd.C k25 W A l.length l) : RdC W A (l.map ce) := fun j u hu => by
  have hj := (List.getElem?_eq_some_iff.1 hu).1
  rw [flatE_length (k := 4) lenC, List.length_map] at hj
  obtain ⟨i, r, rfl, hr⟩ : ∃ i r, j = i * 4 + r ∧ r < 4 := ⟨j / 4, j % 4, by omega, by omega⟩
  have hi : i < l.length := by omega
  obtain ⟨ad, hA, h0, h1, h2, h3⟩ := at_T25 h (i : Int) (by omega) (by omega)
  have e : rd_T25 l (i : Int) = l[i] := by unfold rd_T25; simp [List.getD, hi]
  rw [e, Int.toNat_natCast] at h0 h1 h2 h3
  have hx : l.map ce = (l.map ce).take i ++ ce l[i] :: (l.map ce).drop (i + 1) := by
    conv => lhs; rw [← List.take_append_drop i (l.map ce)]
    rw [List.drop_eq_getElem_cons (by rw [List.length_map]; exact hi), List.getElem_map]
  have hl : ((l.map ce).take i).length = i := by rw [List.length_take, List.length_map]; omega
  rw [hx, flatE_append, flatE_cons, List.getElem?_append_right (by rw [flatE_length (k := 4) lenC, hl]; omega), flatE_length (k := 4) lenC, hl, Nat.add_sub_cancel_left, List.getElem?_append_left (by rw [lenC]; exact hr)] at hu
  refine ⟨ad, hA, ?_⟩
  rcases (by omega : r = 0 ∨ r = 1 ∨ r = 2 ∨ r = 3) with rfl | rfl | rfl | rfl
  · injection hu with hu; subst hu; exact h0
  · injection hu with hu; subst hu; rw [add_more _ _ _ (by decide)]; exact h1
  · injection hu with hu; subst hu; rw [add_more _ _ _ (by decide)]; exact h2
  · injection hu with hu; subst hu; rw [add_more _ _ _ (by decide)]; exact h3
theorem infoL : ∃ i0, Try.prog.info? 40 = some i0 ∧ i0.zero = some (.slice none 0 0) ∧ i0.size = 1 ∧ i0.bytes = 24 := by
  have h : (Try.prog.info? 40).map (fun i => (i.zero, i.size, i.bytes)) = some (some (.slice none 0 0), 1, 24) := by kernel_rfl
  obtain ⟨i0, hi, hz⟩ := Option.map_eq_some_iff.1 h
  simp only [Prod.mk.injEq] at hz
  exact ⟨i0, hi, hz.1, hz.2.1, hz.2.2⟩
/-- A row of n empty lists is made. -/
theorem make_parts (n : Nat) (hn : n ≤ 64) (w : World) : (Instr.makeSlice 48 (.int .i64 n) (.int .i64 n)).run Try.prog w = .ok (.slice (some ⟨w.heap.size, 0, none⟩) n n) (w.alloc (.cells (madeCells #[.slice none 0 0] n) 40)) := by
  obtain ⟨i0, hi, hz, hs, hb⟩ := infoL
  have h := run_make (P := Try.prog) w 48 40 i0 _ Try.underlying48 hi hz .i64 .i64 n n (by omega) (by omega) (by rw [hb]; omega) (by omega)
  rw [hs, Int.toNat_natCast, Nat.mul_one] at h
  exact h
theorem nx_made {w W : World} (n : Nat) (e : Eff0 w W) : Nx w ((W.alloc (.cells (madeCells #[.slice none 0 0] (2 * n)) 40))) W.heap.size (2 * n) := by
  refine ⟨(e.any _).alloc _, fun j hj => ?_, fun j => ?_⟩
  · have h := World.cell?_alloc_new (w := W) (madeCells #[.slice none 0 0] (2 * n)) 40 j
    have hs : j < (madeCells #[.slice none 0 0] (2 * n)).size := by rw [size_madeCells]; exact hj
    exact ⟨_, h.trans (Array.getElem?_eq_getElem hs)⟩
  · have h := heap_alloc_new W (.cells (madeCells #[.slice none 0 0] (2 * n)) 40)
    unfold World.frozen?
    rw [h]
    rfl
theorem sumN_le (l : List Ce) (d : Nat) : ∀ m, sumN l d m ≤ m * l.length
  | 0 => by simp [sumN]
  | m + 1 => by
    have := sumN_le l d m
    have h2 := PN_len l d m
    rw [sumN_succ, Nat.succ_mul]
    omega
/-- The parts so far: block b. -/
def Lev (W0 : World) (lc : List Ce) (d : Nat) (s5 : Value) (wr : World) : Prop := ∃ (b : Nat) (hd : Nat → Option Addr × Nat) (cap : Nat), s5 = .slice (some ⟨b, 0, none⟩) (2 ^ d) cap ∧ 2 ^ d ≤ cap ∧ b < wr.heap.size ∧ PsAt wr b hd (PN lc d) (· < 2 ^ d) ∧ Eff0 W0 wr
/-- The next parts so far. -/
def Inn (wr wx : World) (lc : List Ce) (d n i : Nat) : Prop := ∃ hd2 : Nat → Option Addr × Nat, Nx wr wx wr.heap.size (2 * n) ∧ wr.heap.size < wx.heap.size ∧ PsAt wx wr.heap.size hd2 (PN lc (d + 1)) (fun j => j < i ∨ (n ≤ j ∧ j < n + i)) ∧ ∀ j, (j < i ∨ (n ≤ j ∧ j < n + i)) → ∀ ad, (hd2 j).1 = some ad → ad.block ≠ wr.heap.size
set_option maxHeartbeats 3200000 in
set_option maxRecDepth 100000 in
theorem BucketParts_walk (A : Option Addr) (c : Nat) (l : List S25) (depth : Int) (W : World) (t0 : l.length ≤ maxLen ∧ ∀ a_ ∈ l, (a_.f0.size ≤ maxLen ∧ a_.f1.size ≤ maxLen ∧ (Lit.int .i64 a_.f2).wf = true ∧ (Lit.int .i64 a_.f3).wf = true)) (y0 : l.length * 48 ≤ 140737488351232) (w1 : (Lit.int .i64 depth).wf = true) (hr : Kd.C k25 W A l.length l) (hc : l.length ≤ c) :
    Calls Try.prog 7 #[.slice A l.length c, .int .i64 depth] W fun e w' => e = .returned (.bool true) ∧ Below W.heap.size W w' := by
  by_cases h40 : l.length > 40
  · have p1 : ((l.length : Int) > 40) = True := eq_true (by omega)
    clear t0 y0 w1 hr hc h40
    go_enter Try.func7, Try.ntmps7
    go_wp2_with (go_at_call 8; refine (alive_calls _).mono ?_; rintro e w2 ⟨rfl, e2⟩)
    go_ret
    exact ⟨rfl, e2.below0⟩
  have p1 : ((l.length : Int) > 40) = False := eq_false (by omega)
  by_cases hd0 : depth < 0
  · have p2 : (depth < 0) = True := eq_true hd0
    clear t0 y0 w1 hr hc h40 hd0
    go_enter Try.func7, Try.ntmps7
    go_wp2_with (go_at_call 8; refine (alive_calls _).mono ?_; rintro e w2 ⟨rfl, e2⟩)
    go_ret
    exact ⟨rfl, e2.below0⟩
  have p2 : (depth < 0) = False := eq_false hd0
  by_cases hd5 : depth > 5
  · have p3 : (depth > 5) = True := eq_true hd5
    clear t0 y0 w1 hr hc h40 hd0 hd5
    go_enter Try.func7, Try.ntmps7
    go_wp2_with (go_at_call 8; refine (alive_calls _).mono ?_; rintro e w2 ⟨rfl, e2⟩)
    go_ret
    exact ⟨rfl, e2.below0⟩
  have p3 : (depth > 5) = False := eq_false hd5
  obtain ⟨D, rfl⟩ : ∃ D : Nat, depth = (D : Int) := ⟨depth.toNat, by omega⟩
  have hD : D ≤ 5 := by omega
  have hl40 : l.length ≤ 40 := by omega
  clear h40 hd0 hd5
  have hk : ∀ x ∈ l.map ce, x.1.size ≤ 9223372036854775807 := by
    intro x hx
    obtain ⟨y, hy, rfl⟩ := List.mem_map.1 hx
    exact (t0.2 y hy).1
  have hR := rdc_of hr
  obtain ⟨lc, hlc⟩ : ∃ lc, lc = l.map ce := ⟨_, rfl⟩
  have hll : lc.length = l.length := by rw [hlc, List.length_map]
  rw [← hlc] at hk hR
  have H := Aside0.mk (And.intro hk (And.intro hR (And.intro hll hl40)))
  clear t0 y0 hr hc hk hR hlc hll hl40
  go_enter Try.func7, Try.ntmps7
  go_wp2_with (go_at_call 8; refine (alive_calls _).mono ?_; rintro e w2 ⟨rfl, e2⟩)
  go_loopg [5, 6] D (fun k s5 s6 wr => ∃ (d : Nat), s6 = .int .i64 (d : Int) ∧ d + k = D ∧ Aside0 (Lev W lc d s5 wr))
  case atStart =>
    refine ⟨0, rfl, by omega, Aside0.mk ⟨w2.heap.size, fun _ => (A, c), 1, rfl, Nat.le_refl _, by simp, fun i hi => ?_, (e2.alloc _)⟩⟩
    have hi0 : i = 0 := by simpa using hi
    subst hi0
    rw [PN_zero, H.out.2.2.1]
    refine ⟨by rw [World.cell?_alloc_new]; rfl, ?_⟩
    exact H.out.2.1.keep ((e2.alloc _)) (fun _ _ h => h)
  case round =>
    rename Nat => gq
    rename World => wo
    obtain ⟨d, rfl, hdk, L1⟩ := hrel
    by_cases hdD : d < D
    · have p4 : ((d : Int) < (D : Int)) = True := eq_true (by omega)
      obtain ⟨b, hd, cap, rfl, hcap, hb, hP, e3⟩ := L1.out
      clear L1
      obtain ⟨n, hn⟩ : ∃ n, n = 2 ^ d := ⟨_, rfl⟩
      have hn16 : n ≤ 16 := by rw [hn]; exact Nat.pow_le_pow_right (by decide) (show d ≤ 4 by omega)
      have hn0 : 0 < n := by rw [hn]; exact Nat.two_pow_pos d
      rw [← hn] at hcap hP ⊢
      have hmk : ∀ W : World, (Instr.makeSlice 48 (.int .i64 (2 * (n : Int))) (.int .i64 (2 * (n : Int)))).run Try.prog W = .ok (.slice (some ⟨W.heap.size, 0, none⟩) (2 * n) (2 * n)) (W.alloc (.cells (madeCells #[.slice none 0 0] (2 * n)) 40)) := fun W => make_parts (2 * n) (by omega) W
      have p5 : IntKind.i64.wrap (2 * (n : Int)) = 2 * (n : Int) := by rw [IntKind.wrap_i64]; omega
      have p6 : wrap64 (2 * (n : Int)) = 2 * (n : Int) := by unfold wrap64; omega
      have A1 := Aside0.mk (And.intro hcap (And.intro hP (And.intro e3 (And.intro hdk hn))))
      clear hcap hP e3 hdk hn
      go_wp2_with fail
      go_loopg [42] n (fun k s42 wx => ∃ (i : Nat), s42 = .int .i64 (i : Int) ∧ i + k = n ∧ Aside0 (Inn wo wx lc d n i))
      case atStart =>
        refine ⟨0, rfl, by omega, Aside0.mk ⟨fun _ => (none, 0), nx_made n (Eff.refl _ _), by simp, fun j hj => ?_, fun j hj => ?_⟩⟩
        · exfalso; omega
        · exfalso; omega
      case round =>
        obtain ⟨i, rfl, hik, I1⟩ := hrel
        by_cases hi : i < n
        · have p7 : ((i : Int) < (n : Int)) = True := eq_true (by omega)
          have p8 : (0 : Int) ≤ (i : Int) := by omega
          have hi9 : i < 16 := Nat.lt_of_lt_of_le hi hn16
          obtain ⟨hd2, hN, hbx, hP2, hne⟩ := I1.out
          obtain ⟨hcap, hP, e3, hdk, hn⟩ := A1.out
          have x0 : wr.cell? ⟨b, i, none⟩ = some (.slice (hd i).1 (PN lc d i).length (hd i).2) := (hN.e.cell hb (show ¬ b = wo.heap.size by omega)).trans (hP i hi).1
          have hR : RdC wr (hd i).1 (PN lc d i) := (hP i hi).2.keep' hN.e (fun ad _ hl => by omega)
          have hL := PN_len lc d i
          have CS := split_calls wr (hd i).1 (hd i).2 (PN lc d i) d (by omega) hR (by have := H.out; omega) (fun x hx => H.out.1 x (PN_mem hx).1)
          have I2 := Aside0.mk (And.intro hN (And.intro hbx (And.intro hP2 (And.intro hne (And.intro hik hi)))))
          have CS2 := Aside0.mk CS
          have e4 := hN.e
          clear I1 hN hbx hP2 hne hcap hP e3 hdk hn hR hL CS hik hi
          have p9 : IntKind.i64.wrap ((i : Int) + (n : Int)) = (i : Int) + (n : Int) := by rw [IntKind.wrap_i64]; omega
          have p10 : wrap64 ((i : Int) + (n : Int)) = (i : Int) + (n : Int) := by unfold wrap64; omega
          go_wp2_with fail
          refine CS2.out.mono ?_
          rintro e' w3 ⟨v0, v1, rfl, O1⟩
          obtain ⟨A0, c0, rfl, r0, k0⟩ := own_rd O1.out (i := 1) rfl
          obtain ⟨A1', c1, rfl, r1, k1⟩ := own_rd O1.out (i := 2) rfl
          obtain ⟨hN, hbx, hP2, hne, hik, hi⟩ := I2.out
          obtain ⟨hp0, hp1⟩ := half_PN lc d i (by rw [← A1.out.2.2.2.2]; exact hi)
          rw [← A1.out.2.2.2.2] at hp1
          have e5 : Eff0 wr w3 := Eff.of_below O1.out.below
          rw [hp0] at r0 ⊢
          rw [hp1] at r1 ⊢
          have NX := Aside0.mk (nx_step (c0 := c0) (c1 := c1) hN hbx hi hP2 hne e5 r0 r1 k0 k1)
          obtain ⟨u0, y0⟩ := hN.c i (by omega)
          obtain ⟨u1, y1⟩ := hN.c (i + n) (by omega)
          have z0 := (e5.below0.cell (p := ⟨wo.heap.size, i, none⟩) hbx).trans y0
          have z1 := (e5.below0.cell (p := ⟨wo.heap.size, i + n, none⟩) hbx).trans y1
          have z2 : (w3.setCell ⟨wo.heap.size, i, none⟩ (.slice A0 (PN lc (d + 1) i).length c0)).cell? ⟨wo.heap.size, i + n, none⟩ = some u1 := (sc_ne _ _ _ _ _ (by omega)).trans z1
          have f0 := (e5.below0.frozen (p := ⟨wo.heap.size, i, none⟩) hbx).trans (hN.f i)
          have f1 := (e5.below0.frozen (p := ⟨wo.heap.size, i + n, none⟩) hbx).trans (hN.f (i + n))
          clear CS2 O1 hp0 hp1 r0 r1 k0 k1 hN hP2 hne y0 y1 e5 e4
          go_wp2_with fail
          go_roundg (gk - 1)
          case measure => omega
          case rel =>
            obtain ⟨u, hu⟩ := NX.out.1.c i (by omega)
            exact ⟨i + 1, by simp, by omega, Aside0.mk ⟨_, NX.out.1, World.block_lt_of_cell? _ _ hu, NX.out.2.1, NX.out.2.2⟩⟩
        · have p7 : ((i : Int) < (n : Int)) = False := eq_false (by omega)
          obtain rfl : i = n := by omega
          clear hik hi
          go_wp2_with fail
          go_roundg (gq - 1)
          case measure => have := A1.out; omega
          case rel =>
            obtain ⟨hcap, hP, e3, hdk, hn⟩ := A1.out
            obtain ⟨hd2, hN, hbx, hP2, hne⟩ := I1.out
            have e2n : 2 * i = 2 ^ (d + 1) := by rw [Nat.pow_succ, ← hn]; omega
            refine ⟨d + 1, by simp, by omega, Aside0.mk ⟨wo.heap.size, hd2, 2 * i, by rw [e2n], by rw [e2n]; exact Nat.le_refl _, hbx, fun j hj => hP2 j (by rw [← e2n] at hj; omega), e3.trans hN.e (fun k hk => .inr (by have := e3.size; omega))⟩⟩
    · have p4 : ((d : Int) < (D : Int)) = False := eq_false (by omega)
      obtain rfl : d = D := by omega
      obtain ⟨b, hd, cap, rfl, hcap, hb, hP, e3⟩ := L1.out
      clear L1
      obtain ⟨n, hn⟩ : ∃ n, n = 2 ^ d := ⟨_, rfl⟩
      have hn32 : n ≤ 32 := by rw [hn]; exact Nat.pow_le_pow_right (by decide) (show d ≤ 5 by omega)
      rw [← hn] at hcap hP ⊢
      have A1 := Aside0.mk (And.intro hcap (And.intro hP (And.intro e3 hn)))
      clear hcap hP e3 hdk hn
      go_wp2_with fail
      go_loopg [9, 67] n (fun k s9 s67 wr => ∃ (i t : Nat), s67 = .int .i64 (i : Int) ∧ s9 = .int .i64 (t : Int) ∧ i + k = n ∧ Aside0 (t = sumN lc d i ∧ Eff0 wo wr))
      case atStart => exact ⟨0, 0, rfl, rfl, by omega, Aside0.mk ⟨rfl, Eff.refl _ _⟩⟩
      case round =>
        rename Nat => gq2
        obtain ⟨i, t, rfl, rfl, hik, B1⟩ := hrel
        rename World => wq
        by_cases hi : i < n
        · have p7 : ((i : Int) < (n : Int)) = True := eq_true (by omega)
          have p8 : (0 : Int) ≤ (i : Int) := by omega
          have hi9 : i < 32 := Nat.lt_of_lt_of_le hi hn32
          have x0 : wq.cell? ⟨b, i, none⟩ = some (.slice (hd i).1 (PN lc d i).length (hd i).2) := (B1.out.2.cell hb id).trans (A1.out.2.1 i hi).1
          have hR : RdC wo (hd i).1 (PN lc d i) := (A1.out.2.1 i hi).2
          have hL := PN_len lc d i
          have hS := sumN_le lc d i
          have hm := fun x (hx : x ∈ PN lc d i) => PN_mem hx
          have hss := sumN_succ lc d i
          generalize (hd i).1 = Ai at *
          generalize (hd i).2 = ci at *
          obtain ⟨xs, hxs⟩ : ∃ xs, xs = PN lc d i := ⟨_, rfl⟩
          rw [← hxs] at x0 hR hL hm hss
          rw [← B1.out.1] at hS hss
          have hl40 : xs.length ≤ 40 := by have := H.out; omega
          have ht : t ≤ 1280 := by
            have h1 : i * lc.length ≤ 32 * 40 := Nat.mul_le_mul (by omega) (by have := H.out; omega)
            omega
          have e5 := B1.out.2
          have A2 := Aside0.mk (And.intro hR (And.intro hm (And.intro hss (And.intro hik (And.intro hi hxs)))))
          clear hR hL hm hss hS hik hi hxs B1
          go_wp2_with fail
          go_loopg [9, 75] xs.length (fun k s9 s75 wr => ∃ j : Nat, s75 = .int .i64 (j : Int) ∧ s9 = .int .i64 ((t : Int) + (j : Int)) ∧ j + k = xs.length ∧ Aside0 (Eff0 wo wr))
          case atStart => exact ⟨0, rfl, by simp, by omega, Aside0.mk (by first | exact e5 | exact e5.drewN _)⟩
          case round =>
            obtain ⟨j, rfl, rfl, hjk, C1⟩ := hrel
            by_cases hj : j < xs.length
            · have p9 : ((j : Int) < (xs.length : Int)) = True := eq_true (by omega)
              have p10 : (0 : Int) ≤ (j : Int) := by omega
              have hj9 : j < 40 := Nat.lt_of_lt_of_le hj hl40
              obtain ⟨hR, hm, hss, hik, hi, hxs⟩ := A2.out
              obtain ⟨ad, rfl, q0, q1, q2, q3⟩ := (hR.keep C1.out (fun _ _ => id)).at j hj
              obtain ⟨hm1, hm2⟩ := hm _ (List.getElem_mem hj)
              have hks := H.out.1 _ hm1
              have CB := fun W => bits_calls (xs[j]).1 hks d (by omega) W
              rw [hm2] at CB
              generalize xs[j] = x at *
              have C2 := Aside0.mk (And.intro hjk hj)
              clear hR hm hss hik hi hxs hm1 hm2 hjk hj
              by_cases h100 : (x.1.size : Int) > 100
              · have p11 : ((x.1.size : Int) > 100) = True := eq_true h100
                clear hks h100 CB
                go_wp2_with fail
                go_ret
                exact ⟨rfl, (A1.out.2.2.1.trans (C1.out.alloc _) (fun _ h => h.elim)).below0⟩
              · have p11 : ((x.1.size : Int) > 100) = False := eq_false h100
                have CB2 := Aside0.mk CB
                clear hks h100 CB
                go_wp2_with (go_at_call 21; refine (CB2.out _).mono ?_; rintro e w4 ⟨rfl, e4⟩)
                have C3 : Eff0 wo w4 := (C1.out.alloc _).then0 (Eff.of_below e4)
                go_roundg (gk - 1)
                case measure => have := C2.out; omega
                case rel => exact ⟨j + 1, by simp, by simp [Int.add_assoc], by have := C2.out; omega, Aside0.mk C3⟩
            · have p9 : ((j : Int) < (xs.length : Int)) = False := eq_false (by omega)
              obtain rfl : j = xs.length := by omega
              go_wp2_with fail
              go_roundg (gq2 - 1)
              case measure => have := A2.out; omega
              case rel => exact ⟨i + 1, t + xs.length, by simp, by simp, by have := A2.out; omega, Aside0.mk ⟨A2.out.2.2.1.symm, C1.out⟩⟩
        · have p7 : ((i : Int) < (n : Int)) = False := eq_false (by omega)
          obtain rfl : i = n := by omega
          obtain ⟨h1, h2⟩ := B1.out
          have h3 := A1.out.2.2.2
          rw [h3, sumN_all, H.out.2.2.1] at h1
          subst h1
          clear h2 hik hi
          go_wp2_with fail
          go_ret
          exact ⟨rfl, (A1.out.2.2.1.trans B1.out.2 (fun _ h => h.elim)).below0⟩
end Go.Proofs.Ytcmepoakcffpaaa.Pure
