import Derived.Test.YtiagbkpggeglgaaMx0
import Derived.Test.YtiagbkpggeglgaaRK2
import Derived.Test.YtiagbkpggeglgaaProg
import Derived.BigRegion
import Derived.BigQuiet
import Derived.Deep.QuietTactic
import Derived.Deep.AppendLies
import Derived.ChangeAlike
import Derived.Outline
import Derived.WalkKit
import Derived.KernelRfl
import Derived.Deep.LoopGhost
import Derived.Deep.RegionLaw
import Derived.Test.YtiagbkpggeglgaaWMore
import Derived.Test.YtiagbkpggeglgaaWKept
import Derived.Test.YtiagbkpggeglgaaLSep
namespace Go.Proofs.Ytiagbkpggeglgaa.Pure
open Go Go.RowKit Go.Proofs.YtiagbkpggeglgaaW.PrintWords Go.Proofs.YtiagbkpggeglgaaW.PrintLast Go.Proofs.YtiagbkpggeglgaaW.PrintMore Go.Proofs.Ytiagbkpggeglgaa.M Go.Proofs.Ytiagbkpggeglgaa.L Go.Proofs.Ytiagbkpggeglgaa.RS
set_option linter.unusedVariables false
set_option linter.unusedSimpArgs false
/-! ### records as a row tells them, and ours -/
theorem C_map {α β : Type} {d : Kd α} {k : Nat} {enc : β → List Value} {hl : ∀ x, (enc x).length = k} {h1 : ∀ x, ∀ u ∈ enc x, u.oneCell' = true} (hs : d.sz = k) (g : α → β) {w : World} {A : Option Addr} {n : Nat} {xs : List α} (h : d.C w A n xs) (hK : ∀ x cs, d.K w x cs → cs = enc (g x)) : (kdOf k enc hl h1).C w A n (xs.map g) := by
  obtain ⟨bs, hb, hlen, hr⟩ := C_choose (hl := hl) (h1 := h1) hs (fun x b => b = g x) h (fun x _ cs hk => ⟨g x, hK x cs hk, rfl⟩)
  have := map_of (f := g) (g := fun b : β => b) hlen hr (fun x b h => h)
  rw [List.map_id'] at this
  rw [← this]
  exact hb
abbrev toPt (x : S56) : Pt := (x.f0, x.f1, x.f2)
abbrev toD (x : S53) : Int × Int := (x.f0, x.f1)
abbrev toT (x : S58) : Tp := ⟨x.f0, x.f1, x.f2, x.f3⟩
theorem txs_bridge {W : World} {A : Option Addr} {n : Nat} {l : List (S58)} (h : k58.C W A n l) (hb : ∀ x ∈ l, x.f3.length ≤ 17592186043904) : ∃ ts : List Tv, kdT.C W A n ts ∧ ts.length = l.length ∧ (∀ t ∈ ts, kdI.C W t.A t.p.length t.p ∧ t.p.length ≤ 17592186043904) ∧ ts.map Tv.ab = l.map toT := by
  obtain ⟨ts, hc, hlen, hr⟩ := C_choose (k := 4) (enc := encT) (hl := fun _ => rfl) (h1 := _) rfl (fun (x : S58) (t : Tv) => t.ab = toT x ∧ kdI.C W t.A t.p.length t.p ∧ t.p.length ≤ 17592186043904) h (fun x hx cs hk => by
    obtain ⟨A3, c3, rfl, _, g⟩ := k58_open hk
    exact ⟨⟨x.f0, x.f1, x.f2, A3, c3, x.f3⟩, rfl, rfl, g, hb x hx⟩)
  refine ⟨ts, hc, hlen, fun t ht => ?_, map_of hlen hr (fun x b h => h.1)⟩
  obtain ⟨i, hi⟩ := List.getElem?_of_mem ht
  obtain ⟨x, _, h⟩ := hr i t hi
  exact h.2
/-- What a record tells. -/
structure Tells31 (W : World) (x : S31) (r : Rc) : Prop where
  kd : r.kd = x.f0
  tx : r.tx = x.f1
  gs : r.gs = x.f7
  ps : r.ps = x.f8.map toPt
  ts : r.ts.map Tv.ab = x.f9.map toT
  ds : r.ds = x.f10.map toD
  at_ : r.ps.length < 900000 → RcAt W r
theorem rc_bridge {W : World} {A : Option Addr} {n : Nat} {l : List (S31)} (h : k31.C W A n l) (hb : ∀ x ∈ l, x.f7.length ≤ 17592186043904 ∧ ∀ a ∈ x.f9, a.f3.length ≤ 17592186043904) : ∃ rs : List Rc, kdRc.C W A n rs ∧ rs.length = l.length ∧ ∀ (i : Nat) (r : Rc), rs[i]? = some r → ∃ x, l[i]? = some x ∧ Tells31 W x r :=
  C_choose (k := 14) (enc := encR) (hl := fun _ => rfl) (h1 := _) rfl (Tells31 W) h (fun x hx cs hk => by
    obtain ⟨A10, c10, A11, c11, A12, c12, A13, c13, rfl, l10, g10, l11, g11, l12, g12, l13, g13⟩ := k31_open hk
    obtain ⟨ts, hT, hlT, hpT, hab⟩ := txs_bridge g12 (hb x hx).2
    have gP : kdPt.C W A11 x.f8.length (x.f8.map toPt) := C_map rfl toPt g11 (fun y cs hk => k56_open hk)
    have gD : kdD.C W A13 x.f10.length (x.f10.map toD) := C_map rfl toD g13 (fun y cs hk => k53_open hk)
    refine ⟨⟨x.f0, x.f1, x.f2, x.f3, x.f4, x.f5, x.f6.f0, x.f6.f1, x.f6.f2, x.f6.f3, A10, c10, x.f7, A11, c11, x.f8.map toPt, A12, c12, ts, A13, c13, x.f10.map toD⟩, ?_, rfl, rfl, rfl, rfl, hab, rfl, fun hp => ⟨g10, ?_, ?_, hpT, ?_, (hb x hx).1, hp⟩⟩
    · simp only [encR, List.length_map, hlT]
    · dsimp only; rw [List.length_map]; exact gP
    · dsimp only; rw [hlT]; exact hT
    · dsimp only; rw [List.length_map]; exact gD)
end Go.Proofs.Ytiagbkpggeglgaa.Pure
