/- PatchBack: what changed makes of the one page the other one, the way back makes the first one again, as a whole it makes it of any page. Conditions: none beyond the given row's own. -/
import Derived.Test.YteakeonlgdbeiaaPPx11
import Derived.Test.YteakeonlgdbeiaaPureCommon
namespace Go.Proofs.Yteakeonlgdbeiaa.Pure
open Go Go.RowKit Go.Proofs.Yteakeonlgdbeiaa.PP Go.Proofs.YteakeonlgdbeiaaW.PrintWords Go.Proofs.YteakeonlgdbeiaaW.PrintLast Go.Proofs.YteakeonlgdbeiaaW.PrintMore
set_option linter.unusedVariables false
theorem PatchBack : honeycomblaw6_PatchBack.Pure := by
  intro page old0 now0 other0 hp h1 h2 h3
  refine ⟨703, ?_⟩
  have hA := alive_is (k := 703) (by omega)
  have hA' := alive_is (k := 702) (by omega)
  have hT : honeycomblaw6_PatchBack.j0 703 page old0 now0 other0 true = some true := by
    rw [show (703 : Nat) = 702 + 1 from rfl]
    simp only [honeycomblaw6_PatchBack.j0]
    rw [if_pos trivial, hA']
    rfl
  unfold honeycomblaw6_PatchBack.f
  by_cases c1 : page < 0
  · rw [if_pos c1, hT]
  by_cases c2 : page ≥ 64
  · rw [if_neg c1, if_pos c2, hT]
  by_cases c3 : (old0.size : Int) > 300
  · rw [if_neg c1, if_neg c2, if_pos c3, hT]
  by_cases c4 : (now0.size : Int) > 300
  · rw [if_neg c1, if_neg c2, if_neg c3, if_pos c4, hT]
  by_cases c5 : (other0.size : Int) > 300
  · rw [if_neg c1, if_neg c2, if_neg c3, if_neg c4, if_pos c5, hT]
  rw [if_neg c1, if_neg c2, if_neg c3, if_neg c4, if_neg c5, hA]
  simp only [Option.bind_some]
  rw [show (703 : Nat) = 702 + 1 from rfl]
  simp only [honeycomblaw6_PatchBack.j0]
  rw [if_neg (by decide), Page_is, Page_is, Page_is]
  simp only [Option.bind_some]
  have so := pageB_size old0
  have sn := pageB_size now0
  have st := pageB_size other0
  generalize pageB old0 = old at *
  generalize pageB now0 = now at *
  generalize pageB other0 = other at *
  have hp2 : 0 ≤ page ∧ page < 64 := by omega
  rw [Whole_is, if_pos ⟨hp2.1, hp2.2, sn⟩]
  have hwr : rightQ ⟨page, 0, now⟩ := by unfold rightQ; dsimp only; omega
  have hwl : layB other ⟨page, 0, now⟩ = now := by
    refine byt_ext fun i => ?_
    rw [lay_byt st hwr]
    dsimp only
    rcases Nat.lt_or_ge i 256 with c | c
    · rw [if_pos (by omega)]; congr 1
    · rw [if_neg (by omega), byt_none (by omega), byt_none (by omega)]
  have hwa := Apply_is other ⟨page, 0, now⟩ (k := 701) (by omega)
  dsimp only at hwa
  rw [if_pos ⟨st, hwr⟩, hwl] at hwa
  by_cases e : old = now
  · subst e
    rw [Diff_no (by simp) (by omega)]
    simp only [Option.bind_some]
    rw [if_pos trivial, show (702 : Nat) = 701 + 1 from rfl]
    simp only [honeycomblaw6_PatchBack.j1]
    rw [if_neg (by simp), hwa]
    simp only [Option.bind_some]
    rw [if_pos trivial, show (701 : Nat) = 700 + 1 from rfl]
    simp only [honeycomblaw6_PatchBack.j2]
    rw [if_neg (by simp), if_neg (by decide)]
  · obtain ⟨a, z, hd⟩ := diff_of so sn e
    have hlt := hd.lt
    have hle := hd.le
    rw [Diff_yes hp2 so sn hd (by omega)]
    simp only [Option.bind_some]
    have hne : (old.toList != now.toList) = true := bne_iff_ne.2 (fun h => e (toList_inj'.1 h))
    rw [if_pos trivial, show (702 : Nat) = 701 + 1 from rfl]
    simp only [honeycomblaw6_PatchBack.j1]
    rw [hne, if_neg (by decide), hwa]
    simp only [Option.bind_some]
    rw [if_pos trivial, show (701 : Nat) = 700 + 1 from rfl]
    simp only [honeycomblaw6_PatchBack.j2]
    have ha1 := Apply_is old ⟨page, (a : Int), now.extract a z⟩ (k := 700) (by omega)
    dsimp only at ha1
    rw [if_pos ⟨so, diff_right hp2 sn hd⟩, diff_lays hp2 so sn hd] at ha1
    have ha2 := Apply_is now ⟨page, (a : Int), old.extract a z⟩ (k := 700) (by omega)
    dsimp only at ha2
    rw [if_pos ⟨sn, diff_right hp2 so hd.symm⟩, diff_lays hp2 sn so hd.symm] at ha2
    rw [if_neg (by simp), if_pos trivial, ha1]
    simp only [Option.bind_some]
    rw [Diff_yes hp2 sn so hd.symm (by omega)]
    simp only [Option.bind_some]
    rw [ha2]
    simp only [Option.bind_some]
    rw [if_pos trivial, if_pos trivial, if_pos trivial, if_pos trivial, if_pos trivial, if_pos trivial]
    rw [ByteArray.size_extract, ByteArray.size_extract]
    simp
    omega

end Go.Proofs.Yteakeonlgdbeiaa.Pure
