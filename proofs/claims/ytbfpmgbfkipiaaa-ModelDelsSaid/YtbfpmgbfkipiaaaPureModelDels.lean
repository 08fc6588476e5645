/- A key that is taken away is not there; taken away again there is nothing; put anew it is (ModelDels). Conditions: none beyond the given row's own. -/
import Derived.Test.YtbfpmgbfkipiaaaMx
import Derived.Test.YtbfpmgbfkipiaaaMOwn
namespace Go.Proofs.Ytbfpmgbfkipiaaa.Pure
open Go Go.RowKit Go.Proofs.YtbfpmgbfkipiaaaW.PrintWords Go.Proofs.YtbfpmgbfkipiaaaW.PrintLast Go.Proofs.YtbfpmgbfkipiaaaW.PrintMore Go.Proofs.Ytbfpmgbfkipiaaa.L Go.Proofs.Ytbfpmgbfkipiaaa.M Go.Proofs.Ytbfpmgbfkipiaaa.MD
set_option linter.unusedVariables false
set_option linter.unusedSimpArgs false
set_option maxHeartbeats 1600000 in
set_option maxRecDepth 100000 in
theorem dels_long (key a b : ByteArray) (w : World) (h : 200 < (key.size : Int) + (a.size : Int) + (b.size : Int)) (h1 : key.size ≤ 140737488351232) (h2 : a.size ≤ 140737488351232) (h3 : b.size ≤ 140737488351232) :
    Calls Try.prog 5 #[.string key, .string a, .string b] w fun e w' => e = .returned (.bool true) ∧ Below w.heap.size w w' := by
  have CA := fun W => alive_calls W
  go_enter Try.func5, Try.ntmps5
  go_wp2_with (go_at_call 8; refine (CA _).mono ?_; rintro e w1 ⟨rfl, e1⟩)
  go_ret
  exact ⟨rfl, e1.below0⟩
set_option maxHeartbeats 1600000 in
set_option maxRecDepth 100000 in
theorem ModelDels_walk (key a b : ByteArray) (w : World) (h1 : key.size ≤ 140737488351232) (h2 : a.size ≤ 140737488351232) (h3 : b.size ≤ 140737488351232) :
    Calls Try.prog 5 #[.string key, .string a, .string b] w fun e w' => e = .returned (.bool true) ∧ Below w.heap.size w w' := by
  by_cases hs : 200 < (key.size : Int) + (a.size : Int) + (b.size : Int)
  · exact dels_long key a b w hs h1 h2 h3
  have CA := fun W => alive_calls W
  have q0 : (b.toList == b.toList) = true := beq_self_eq_true _
  go_enter Try.func5, Try.ntmps5
  go_wp2_with (go_at_call 8; refine (CA _).mono ?_; rintro e w1 ⟨rfl, e1⟩; have H0 := Aside0.mk (own_made ((Own.start w).after e1)))
  refine (o_begin0 H0.out 1).mono ?_
  rintro e w2 ⟨rfl, m1, m2, b0, H1⟩
  go_wp2_with fail
  refine (o_del (s := sB m1 m2 b0 [] []) H1.out 1 key (small1 _ (by decide)) (delB_no m1 m2 b0 [] [] key rfl)).mono ?_
  rintro e w3 ⟨rfl, H2⟩
  go_wp2_with fail
  refine (o_put H2.out 1 key a rfl (by show 0 < 900000; decide) (s' := sB m1 m2 b0 [] [⟨key, a, false⟩]) rfl).mono ?_
  rintro e w4 ⟨rfl, H3⟩
  go_wp2_with fail
  refine (o_commit H3.out 1 rfl List.Pairwise.nil (x := ⟨[⟨key, a, false⟩], []⟩) rfl (by show 1 < 400000; decide) (m' := [(key, a)]) rfl (t' := []) rfl).mono ?_
  rintro e w5 ⟨rfl, m3, H4⟩
  go_wp2_with fail
  refine (o_begin H4.out rfl 1 rfl).mono ?_
  rintro e w6 ⟨rfl, b1, H5⟩
  go_wp2_with fail
  refine (o_del (s := sB m3 m2 b1 [(key, a)] []) H5.out 1 key (small1 _ (by decide)) (delB m3 m2 b1 _ [] key (by rw [last0, look_one]; rfl))).mono ?_
  rintro e w7 ⟨rfl, H6⟩
  go_wp2_with fail
  refine (o_del H6.out 1 key (small1 _ (by show 1 < 900000; decide)) (delB_no m3 m2 b1 _ _ key (by rw [List.nil_append, last1 ⟨key, ⟨#[]⟩, true⟩]; rfl))).mono ?_
  rintro e w8 ⟨rfl, H7⟩
  go_wp2_with fail
  refine (o_get H7.out 1 key (small1 _ (by show 1 < 900000; decide)) (r1 := ⟨#[]⟩) (r2 := false) (by rw [getB, List.nil_append, last1 ⟨key, ⟨#[]⟩, true⟩]; rfl)).mono ?_
  rintro e w9 ⟨rfl, H8⟩
  go_wp2_with fail
  refine (o_dump H8.out.1 rfl (rises_one _) (by show 1 < 900000; decide)).mono ?_
  rintro e w10 ⟨A1, c1, rfl, H9⟩
  go_wp2_with fail
  refine (o_with H9.out.1 1 rfl (rises_one _) (x := ⟨[⟨key, ⟨#[]⟩, true⟩], []⟩) rfl (by show 1 < 400000; decide) (by show 1 < 400000; decide) (m' := []) (del_one key a)).mono ?_
  rintro e w11 ⟨A2, c2, rfl, H10⟩
  go_wp2_with fail
  refine (o_put H10.out.1 1 key b rfl (by show 1 < 900000; decide) (s' := sB m3 m2 b1 [(key, a)] [⟨key, ⟨#[]⟩, true⟩, ⟨key, b, false⟩]) rfl).mono ?_
  rintro e w12 ⟨rfl, H11⟩
  go_wp2_with fail
  refine (o_get H11.out 1 key (small1 _ (by show 2 < 900000; decide)) (r1 := b) (r2 := true) (by rw [getB, last2 _ ⟨key, b, false⟩]; rfl)).mono ?_
  rintro e w13 ⟨rfl, H12⟩
  go_wp2_with fail
  refine (o_commit H12.out.1 1 rfl (rises_one _) (x := ⟨[⟨key, ⟨#[]⟩, true⟩, ⟨key, b, false⟩], []⟩) rfl (by show 2 < 400000; decide) (m' := [(key, b)]) (by show insM (delM [(key, a)] key) key b = _; rw [del_one, ins_nil]) (t' := []) rfl).mono ?_
  rintro e w14 ⟨rfl, m4, H13⟩
  go_wp2_with fail
  refine (o_dump H13.out rfl (rises_one _) (by show 1 < 900000; decide)).mono ?_
  rintro e w15 ⟨A3, c3, rfl, H14⟩
  go_wp2_with fail
  go_ret
  exact ⟨rfl, H14.out.1.below⟩
end Go.Proofs.Ytbfpmgbfkipiaaa.Pure
