-- Laid by wip/gen/myprint.py of this session, on the kit's print.
import Derived.Test.YtdhajfimhjbbiaaProg
import Derived.Below
import Derived.Deep.Draws
import Derived.Deep.AppendLies
import Derived.Maps.AppendAt
import Derived.OwnWalk
import Derived.Laws.BytesArg
import Derived.Laws.MakeOwn
import Derived.Laws.OwnMore
import Derived.Deep.OwnRows
import Derived.Tactics
import Derived.Lib.ConvBytes
import Derived.Laws.Slices
import Derived.WalkKit
import Derived.KernelRfl
import Derived.RowKit3
import Derived.Deep.LoopGhost
import Derived.Deep.QuietTactic
import Derived.BigQuiet
import Derived.WideLaws
import Derived.Deep.DeepCutAuto
import Derived.Deep.CutBlock
import Derived.Deep.RegionHeld3
import Derived.Laws.Rows
import Derived.Lib.AppendStr
import Derived.ArgAppend
import Derived.Laws.IdiomCopy
import Derived.OrdersHeld
import Derived.Laws.BitsLemmas
import Derived.RowKit
import Derived.Test.YtdhajfimhjbbiaaWWords
import Derived.Test.YtdhajfimhjbbiaaWLast
import Derived.Test.YtdhajfimhjbbiaaWTab
import Derived.Test.YtdhajfimhjbbiaaWFour
import Derived.Test.YtdhajfimhjbbiaaWQPut
import Derived.Test.YtdhajfimhjbbiaaWApart
import Derived.Test.YtdhajfimhjbbiaaWArr
import Derived.Test.YtdhajfimhjbbiaaWZeros
import Derived.Test.YtdhajfimhjbbiaaWFoot
import Derived.Test.YtdhajfimhjbbiaaWKept
import Derived.Test.YtdhajfimhjbbiaaWShare
import Derived.Test.YtdhajfimhjbbiaaWN
import Derived.Test.YtdhajfimhjbbiaaWFootNe
import Derived.Test.YtdhajfimhjbbiaaWAt
import Derived.Test.YtdhajfimhjbbiaaWEqStruct
import Derived.Test.YtdhajfimhjbbiaaWRepsOne
import Derived.Test.YtdhajfimhjbbiaaWInv
import Derived.Test.YtdhajfimhjbbiaaWInvWords
import Derived.Test.YtdhajfimhjbbiaaWGuard
import Derived.Test.YtdhajfimhjbbiaaWNEv
import Derived.Test.YtdhajfimhjbbiaaWMore
namespace Go.Proofs.Ytdhajfimhjbbiaa.PF
open Go.RowKit Go.Proofs.YtdhajfimhjbbiaaW.PrintWords Go.Proofs.YtdhajfimhjbbiaaW.PrintLast Go.Proofs.YtdhajfimhjbbiaaW.PrintMore
attribute [local go_sem] max2_int min2_int max_two min_two max_three min_three max_four min_four   -- for this text's walks alone
set_option linter.unusedVariables false
set_option linter.unusedSimpArgs false



def errW : Option Int → Value
  | none => .nilIface
  | some c => .iface 0 (.int .i64 c)
theorem errW_none : errW none = .nilIface := rfl
theorem errW_some (c : Int) : errW (some c) = .iface 0 (.int .i64 c) := rfl

-- the values' own types
/-! #### struct type 48 -/
structure S48 where
  f0 : Int
  f1 : Int
def z48 : S48 := ⟨(0 : Int), (0 : Int)⟩
def k48 : Kd S48 := Kd.iso (Kd.pair (Kd.int .i64) (Kd.int .i64)) (fun x : S48 => (x.f0, x.f1))
theorem k48_open {w : World} {x : S48} {cs : List Value} (h : k48.K w x cs) : cs = [.int .i64 x.f0, .int .i64 x.f1] := by
  obtain ⟨_, _, rfl, rfl, rfl⟩ := h
  exact rfl
theorem k48_openM {w : World} {base : Nat} {ok : Nat → Prop} {x : S48} {cs : List Value} (h : k48.M w base ok x cs) : cs = [.int .i64 x.f0, .int .i64 x.f1] := by
  obtain ⟨_, _, rfl, rfl, rfl⟩ := h
  exact rfl
theorem k48_mk (w : World) (x : S48)  : k48.K w x [.int .i64 x.f0, .int .i64 x.f1] := ⟨[.int .i64 x.f0], [.int .i64 x.f1], rfl, rfl, rfl⟩
theorem k48_mkM (w : World) (base : Nat) (ok : Nat → Prop) (x : S48)  : k48.M w base ok x [.int .i64 x.f0, .int .i64 x.f1] := ⟨[.int .i64 x.f0], [.int .i64 x.f1], rfl, rfl, rfl⟩
def rd_T48 (xs : List S48) (i : Int) : S48 := xs.getD i.toNat z48
theorem at_T48 {w : World} {A : Option Addr} {n : Nat} {xs : List S48} (h : Kd.C k48 w A n xs) (i : Int) (h0 : 0 ≤ i) (h1 : i < n) : ∃ ad , A = some ad ∧ w.cell? (ad.add (i.toNat * 2)) = some (.int .i64 (rd_T48 xs i).f0) ∧ w.cell? ⟨(ad.add (i.toNat * 2)).block, (ad.add (i.toNat * 2)).off + 1, none⟩ = some (.int .i64 (rd_T48 xs i).f1) := by
  obtain ⟨ad, c, e, _, hK, hc0⟩ := Kd.C_get h z48 i h0 h1
  have hc : ∀ j u, c[j]? = some u → w.cell? (ad.add (i.toNat * 2 + j)) = some u := hc0
  obtain rfl := k48_open hK
  exact ⟨ad, e, hc 0 _ rfl, by rw [← add_field _ _ 1 (by omega)]; exact hc 1 _ rfl⟩

end Go.Proofs.Ytdhajfimhjbbiaa.PF
