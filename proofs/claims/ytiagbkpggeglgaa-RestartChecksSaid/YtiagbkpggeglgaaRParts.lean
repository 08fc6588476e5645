import Derived.Test.YtiagbkpggeglgaaRK2
import Derived.Test.YtiagbkpggeglgaaRAlive
import Derived.Deep.CutBlock
import Derived.RegionTactic
import Derived.Test.YtiagbkpggeglgaaProg
import Derived.BigRegion
import Derived.BigQuiet
import Derived.Deep.QuietTactic
import Derived.Deep.AppendLies
import Derived.ChangeAlike
import Derived.Outline
import Derived.WalkKit
import Derived.KernelRfl
import Derived.Deep.LoopGhost
import Derived.Deep.RegionLaw
import Derived.Test.YtiagbkpggeglgaaWMore
import Derived.Test.YtiagbkpggeglgaaWKept
import Derived.Test.YtiagbkpggeglgaaLSep
namespace Go.Proofs.Ytiagbkpggeglgaa.RS
open Go Go.RowKit Go.Proofs.YtiagbkpggeglgaaW.PrintWords Go.Proofs.YtiagbkpggeglgaaW.PrintLast Go.Proofs.YtiagbkpggeglgaaW.PrintMore Go.Proofs.Ytiagbkpggeglgaa.L Go.Proofs.Ytiagbkpggeglgaa.MR
set_option linter.unusedVariables false
set_option linter.unusedSimpArgs false
/-- What an analysis leaves to be read. -/
def AnR (w : World) (rs : List Rc) (e : Ending) (w' : World) : Prop := ∃ (A : Option Addr) (c : Nat) (ts : List Tv) (B : Option Addr) (cB : Nat) (ds : List (Int × Int)), e = .returned (.tuple #[.agg #[.slice A ts.length c, .slice B ds.length cB, .int .i64 (fromL ((anaA 0 rs).d.map (·.2)))], .bool true]) ∧
  (ts.map Tv.ab).Perm ((anaA 0 rs).t.map (·.2)) ∧ ts.Pairwise (fun a b => a.tx ≤ b.tx) ∧ ds.Perm (anaA 0 rs).d ∧ ds.Pairwise (fun a b => a.1 ≤ b.1) ∧ kdT.C w' A ts.length ts ∧ kdD.C w' B ds.length ds ∧ Below w.heap.size w w'
theorem ana0 (w : World) (A : Option Addr) (c : Nat) (rs : List Rc) (hC : kdRc.C w A rs.length rs) (hcap : rs.length ≤ c) (hr : ∀ r ∈ rs, RcAt w r) (hl : rs.length ≤ 40) (hp : ∀ r ∈ rs, r.ps.length ≤ 40) :
    Calls Try.prog 9 #[.int .i64 0, .slice A rs.length c] w (AnR w rs) := by
  have hs : anaA 0 rs = goA ⟨[], []⟩ 0 rs := by unfold anaA startA; rw [if_pos rfl]; rfl
  obtain ⟨b1, b2⟩ := goA_len 40 rs ⟨[], []⟩ 0 hp
  rw [← hs] at b1 b2
  have hm : rs.length * 40 ≤ 1600 := by omega
  simp only [List.length_nil, Nat.zero_add] at b1 b2
  refine (analyse_calls w 0 A c rs hC hcap hr (by omega) (by omega) (by omega) ⟨Int.le_refl _, by omega, fun h => absurd h (by decide)⟩ (fun h => absurd h (by decide)) (fun h => absurd h (by decide))).mono ?_
  rintro e w' ⟨A', c', ts, B, cB, ds, rfl, h2, h3, h4, h5, o⟩
  obtain ⟨F1, hT⟩ := o.fact 1 rfl
  obtain ⟨F2, hD⟩ := o.fact 2 rfl
  obtain ⟨_, _, e1, _, cT⟩ := RowAt.reads hT
  obtain ⟨_, _, e2, _, cD⟩ := RowAt.reads hD
  injection e1 with e1 _ e3
  injection e2 with e2 _ e4
  subst e1 e2
  exact ⟨A', c', ts, B, cB, ds, rfl, h2, h3, h4, h5, cT, cD, o.below⟩
end Go.Proofs.Ytiagbkpggeglgaa.RS
