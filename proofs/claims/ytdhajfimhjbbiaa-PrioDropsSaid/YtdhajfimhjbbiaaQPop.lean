import Derived.Test.YtdhajfimhjbbiaaQPush
namespace Go.Proofs.Ytdhajfimhjbbiaa.Q
open Go Go.RowKit Go.Proofs.YtdhajfimhjbbiaaW.PrintWords Go.Proofs.YtdhajfimhjbbiaaW.PrintLast Go.Proofs.YtdhajfimhjbbiaaW.PrintMore
set_option linter.unusedVariables false
theorem Post.after {w w1 w2 : World} {base b : Nat} {v : Value} {xs : List (Int × Int)} (h : Post w base b v xs w1) (k : Eff (fun _ => False) w1 w2) : Post w base b v xs w2 := by
  obtain ⟨v', r, e, o⟩ := h
  exact ⟨v', r.eff k id (fun _ _ => id), e.trans k (fun _ h => h.elim), o⟩
theorem Post.alloc {w w1 : World} {base b : Nat} {v : Value} {xs : List (Int × Int)} (h : Post w base b v xs w1) (o : Obj) : Post w base b v xs (w1.alloc o) := h.after ((Eff.refl _ _).alloc o)
theorem Post.drew {w w1 : World} {base b : Nat} {v : Value} {xs : List (Int × Int)} (h : Post w base b v xs w1) : Post w base b v xs w1.drew := h.after ((Eff.refl _ _).drew)
theorem Post.drawn {w w1 w2 : World} {base b : Nat} {v : Value} {xs : List (Int × Int)} (h : Post w base b v xs w1) (k : Drawn0 w1 w2) : Post w base b v xs w2 := h.after ((Eff.refl _ _).drawn k)
theorem take_post {w : World} {base b n c : Nat} {ad : Addr} {xs : List (Int × Int)} (hR : Row w base b (.slice (some ad) n c) xs) (m : Nat) (hm : m ≤ xs.length) : Post w base b (.slice (some ad) n c) (xs.take m) (w.setCell ⟨b, 0, none⟩ (.slice (some ad) m c)) :=
  set_post hR (Eff.refl _ _) rfl (Kd.R_take hR.row hm) (fun _ hk => .inl hk)
set_option maxHeartbeats 4000000 in
set_option maxRecDepth 100000 in
theorem pop_calls (w : World) (base b : Nat) (v : Value) (xs : List (Int × Int)) (hR : Row w base b v xs) (hn : 0 < xs.length) (hm : xs.length < 1000000) :
    Calls Try.prog 107 #[.pointer (some ⟨b, 0, none⟩)] w fun e w' => e = .returned (.iface 67 (.agg #[.int .i64 (rdp xs (xs.length - 1)).1, .int .i64 (rdp xs (xs.length - 1)).2])) ∧ Post w base b v (xs.take (xs.length - 1)) w' := by
  have hv := hR.cell
  have hlt := hR.lt
  have hf := hR.fro
  have hne := hR.ne
  obtain ⟨A, c, rfl, hc, hC⟩ := Kd.R_reads hR.row
  obtain ⟨ad, rfl, hx1, hx2⟩ := at_p hC (xs.length - 1) (by omega) (by omega)
  have e1 : ((xs.length : Int) - 1).toNat = xs.length - 1 := by omega
  rw [e1] at hx1 hx2
  generalize rdp xs (xs.length - 1) = x at *
  generalize hnn : xs.length = n at *
  go_enter Try.func107, Try.ntmps107
  go_wp2
  go_ret
  exact ⟨rfl, (take_post hR (n - 1) (by omega)).alloc _⟩
end Go.Proofs.Ytdhajfimhjbbiaa.Q
