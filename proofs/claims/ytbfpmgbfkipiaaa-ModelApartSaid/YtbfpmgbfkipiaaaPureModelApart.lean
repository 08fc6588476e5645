/- What one writes another one does not see, till it committed (ModelApart). Conditions: none beyond the given row's own. -/
import Derived.Test.YtbfpmgbfkipiaaaMx
import Derived.Test.YtbfpmgbfkipiaaaMOwn
namespace Go.Proofs.Ytbfpmgbfkipiaaa.Pure
open Go Go.RowKit Go.Proofs.YtbfpmgbfkipiaaaW.PrintWords Go.Proofs.YtbfpmgbfkipiaaaW.PrintLast Go.Proofs.YtbfpmgbfkipiaaaW.PrintMore Go.Proofs.Ytbfpmgbfkipiaaa.L Go.Proofs.Ytbfpmgbfkipiaaa.M Go.Proofs.Ytbfpmgbfkipiaaa.MD
set_option linter.unusedVariables false
set_option linter.unusedSimpArgs false
set_option maxHeartbeats 1600000 in
set_option maxRecDepth 100000 in
theorem apart_long (key a b : ByteArray) (w : World) (h : 200 < (key.size : Int) + (a.size : Int) + (b.size : Int)) (h1 : key.size ≤ 140737488351232) (h2 : a.size ≤ 140737488351232) (h3 : b.size ≤ 140737488351232) :
    Calls Try.prog 3 #[.string key, .string a, .string b] w fun e w' => e = .returned (.bool true) ∧ Below w.heap.size w w' := by
  have CA := fun W => alive_calls W
  go_enter Try.func3, Try.ntmps3
  go_wp2_with (go_at_call 8; refine (CA _).mono ?_; rintro e w1 ⟨rfl, e1⟩)
  go_ret
  exact ⟨rfl, e1.below0⟩
def s2 (m1 m2 b1 b2 : Nat) (m : List Ent) (l1 l2 : List Wr) : Mod := ⟨some m1, m, some m2, [(1, b1, ⟨l1, []⟩), (2, b2, ⟨l2, []⟩)]⟩
def s3 (m1 m2 b2 : Nat) (m : List Ent) (l2 : List Wr) : Mod := ⟨some m1, m, some m2, [(2, b2, ⟨l2, []⟩)]⟩
set_option maxHeartbeats 1600000 in
set_option maxRecDepth 100000 in
theorem ModelApart_walk (key a b : ByteArray) (w : World) (h1 : key.size ≤ 140737488351232) (h2 : a.size ≤ 140737488351232) (h3 : b.size ≤ 140737488351232) :
    Calls Try.prog 3 #[.string key, .string a, .string b] w fun e w' => e = .returned (.bool true) ∧ Below w.heap.size w w' := by
  by_cases hs : 200 < (key.size : Int) + (a.size : Int) + (b.size : Int)
  · exact apart_long key a b w hs h1 h2 h3
  have CA := fun W => alive_calls W
  have q0 : ∀ b : ByteArray, (b.toList == b.toList) = true := fun b => beq_self_eq_true _
  go_enter Try.func3, Try.ntmps3
  go_wp2_with (go_at_call 8; refine (CA _).mono ?_; rintro e w1 ⟨rfl, e1⟩; have H0 := Aside0.mk (own_made ((Own.start w).after e1)))
  refine (o_begin0 H0.out 1).mono ?_
  rintro e w2 ⟨rfl, m1, m2, b1, H1⟩
  go_wp2_with fail
  refine (o_begin H1.out rfl 2 rfl).mono ?_
  rintro e w3 ⟨rfl, b2, H2⟩
  go_wp2_with fail
  refine (o_had H2.out 1 _ rfl).mono ?_
  rintro e w4 ⟨rfl, H3⟩
  go_wp2_with fail
  refine (o_put H3.out 1 key a rfl (by show 0 < 900000; decide) (s' := s2 m1 m2 b1 b2 [] [⟨key, a, false⟩] []) rfl).mono ?_
  rintro e w5 ⟨rfl, H4⟩
  go_wp2_with fail
  refine (o_get H4.out 2 key (fun p hp => by injection hp with hp; subst hp; show 0 < 900000; decide) (r1 := ⟨#[]⟩) (r2 := false) rfl).mono ?_
  rintro e w6 ⟨rfl, H5⟩
  go_wp2_with fail
  refine (o_put H5.out.1 2 key b rfl (by show 0 < 900000; decide) (s' := s2 m1 m2 b1 b2 [] [⟨key, a, false⟩] [⟨key, b, false⟩]) rfl).mono ?_
  rintro e w7 ⟨rfl, H6⟩
  go_wp2_with fail
  refine (o_commit H6.out 1 rfl List.Pairwise.nil (x := ⟨[⟨key, a, false⟩], []⟩) rfl (by show 1 < 400000; decide) (m' := [(key, a)]) rfl (t' := [(2, b2, ⟨[⟨key, b, false⟩], []⟩)]) rfl).mono ?_
  rintro e w8 ⟨rfl, m3, H7⟩
  go_wp2_with fail
  refine (o_get (s := s3 m3 m2 b2 [(key, a)] [⟨key, b, false⟩]) H7.out 2 key (fun p hp => by injection hp with hp; subst hp; show 1 < 900000; decide) (r1 := b) (r2 := true) (by show seenR (MD.lastW [⟨key, b, false⟩] key) _ = _; rw [last1 ⟨key, b, false⟩]; rfl)).mono ?_
  rintro e w9 ⟨rfl, H8⟩
  go_wp2_with fail
  refine (o_dump H8.out.1 rfl (rises_one _) (by show 1 < 900000; decide) (m' := [(key, a)]) rfl (n := 1) rfl).mono ?_
  rintro e w10 ⟨A1, c1, rfl, H9⟩
  obtain ⟨ad, ea, x0, x1⟩ := at_E H9.out.2.c 0 (by decide)
  subst ea
  change w10.cell? ad = some (.string key) at x0
  change w10.cell? ⟨ad.block, ad.off + 1, none⟩ = some (.string a) at x1
  go_wp2_with fail
  refine (o_commit H9.out.1 2 rfl (rises_one _) (x := ⟨[⟨key, b, false⟩], []⟩) rfl (by show 1 < 400000; decide) (m' := [(key, b)]) (ins_one key a b) (t' := []) rfl).mono ?_
  rintro e w11 ⟨rfl, m4, H10⟩
  clear x0 x1
  go_wp2_with fail
  refine (o_dump H10.out rfl (rises_one _) (by show 1 < 900000; decide) (m' := [(key, b)]) rfl (n := 1) rfl).mono ?_
  rintro e w12 ⟨A2, c2, rfl, H11⟩
  obtain ⟨ad2, ea, x0, x1⟩ := at_E H11.out.2.c 0 (by decide)
  subst ea
  change w12.cell? ad2 = some (.string key) at x0
  change w12.cell? ⟨ad2.block, ad2.off + 1, none⟩ = some (.string b) at x1
  go_wp2_with fail
  go_ret
  exact ⟨rfl, H11.out.1.below⟩
end Go.Proofs.Ytbfpmgbfkipiaaa.Pure
