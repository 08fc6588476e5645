/-
  No cell of these rows narrows 'for every input' (looked for: loops, veiled, ifaces, maps, wideKeys, modest, calm, conditions, laid).
  DERIVED. THE GIVEN ROWS OF THIS SEAT. 3 by the template 'for every input the law returns true; each argument reads behind the call as it read before'; 0 by the template 'total and deterministic' (their statements: YtiagbkpggeglgaaGreatTotals.lean).
  GIVEN WITH THE SEED: the statements are not yours to turn. If you find one false, say at which input.
  Laid BY PROGRAM, IN A SANDBOX (cutbox-rows.mjs): the forced cells as the released guide's own fill.sh prints them over the translation ab81e839698d7c68… (all of the seat's roots in one cut). By AI agents, Wed Nov 11 2026. No macro, syntax, notation, axiom, sorry.
-/
import Derived.Test.YtiagbkpggeglgaaGreatChecked
import GoSem.Claim
import GoSem.ClaimJoined
import GoSem.ClaimMapViews
import Derived.JoinedTies
import Derived.KernelRfl
namespace Go.Proofs.YtiagbkpggeglgaaGreat
/- THE CELL 'sum', in the pinned program and in every row, IS THE sha256 OF THE DUMP (.gsa) THAT YtiagbkpggeglgaaGreatProg.lean LOADS. Nothing in Lean hashes anything: it is a label: what it is worth is what the hold of that sum in a sandbox is worth. -/
noncomputable def Tryz.pinned : Pinned := { name := "ytiagbkpggeglgaagreat", sum := "ab81e839698d7c68f7223641d814ae4b9fece36b827bb8f731675f89e04a04d0", checked := Tryz.checked }
namespace Rows
def none {H : Type} : Left H := { results := [], args := [] }

/-- 'honeycomblaw22.MasterTells': WHATEVER THE INPUT: true; the input reads as it did. -/
def masterTellsSpec : ChangeSpec := { name := "masterTells", fn := fun _ => fun
  | [d1, d2, d3] => { results := [.lit (.bool true)], args := [d1, d2, d3] }
  | _ => none }
def masterTellsRow : OpenClaim := { program := "ytiagbkpggeglgaagreat", sum := "ab81e839698d7c68f7223641d814ae4b9fece36b827bb8f731675f89e04a04d0", func := "honeycomb/honeycomblaw22.MasterTells", spec := "masterTells", inPlace := ["internal/abi.NoEscape", "internal/bytealg.MakeNoZero"], unfollowed := true, recurses := true, apart := false }
def MasterTellsSaid : Prop := masterTellsRow.holds Tryz.pinned (OpenSpec.ofChange masterTellsSpec)

/-- ITS FALSE NEIGHBOUR: 'it returns false'. Refute it at one input. -/
def masterTellsWrong : ChangeSpec := { name := "masterTells", fn := fun _ => fun
  | [d1, d2, d3] => { results := [.lit (.bool false)], args := [d1, d2, d3] }
  | _ => none }
def MasterTellsWrongFalsely : Prop := masterTellsRow.holds Tryz.pinned (OpenSpec.ofChange masterTellsWrong)

/-- 'honeycomblaw22.RestartTells': WHATEVER THE INPUT: true; the input reads as it did. -/
def restartTellsSpec : ChangeSpec := { name := "restartTells", fn := fun _ => fun
  | [d1, d2, d3, d4] => { results := [.lit (.bool true)], args := [d1, d2, d3, d4] }
  | _ => none }
def restartTellsRow : OpenClaim := { program := "ytiagbkpggeglgaagreat", sum := "ab81e839698d7c68f7223641d814ae4b9fece36b827bb8f731675f89e04a04d0", func := "honeycomb/honeycomblaw22.RestartTells", spec := "restartTells", inPlace := ["internal/abi.NoEscape", "internal/bytealg.MakeNoZero"], unfollowed := true, recurses := true, apart := false }
def RestartTellsSaid : Prop := restartTellsRow.holds Tryz.pinned (OpenSpec.ofChange restartTellsSpec)

/-- ITS FALSE NEIGHBOUR: 'it returns false'. Refute it at one input. -/
def restartTellsWrong : ChangeSpec := { name := "restartTells", fn := fun _ => fun
  | [d1, d2, d3, d4] => { results := [.lit (.bool false)], args := [d1, d2, d3, d4] }
  | _ => none }
def RestartTellsWrongFalsely : Prop := restartTellsRow.holds Tryz.pinned (OpenSpec.ofChange restartTellsWrong)

/-- 'honeycomblaw22.RestartRedo': WHATEVER THE INPUT: true; the input reads as it did. -/
def restartRedoSpec : ChangeSpec := { name := "restartRedo", fn := fun _ => fun
  | [d1, d2, d3, d4] => { results := [.lit (.bool true)], args := [d1, d2, d3, d4] }
  | _ => none }
def restartRedoRow : OpenClaim := { program := "ytiagbkpggeglgaagreat", sum := "ab81e839698d7c68f7223641d814ae4b9fece36b827bb8f731675f89e04a04d0", func := "honeycomb/honeycomblaw22.RestartRedo", spec := "restartRedo", inPlace := ["internal/abi.NoEscape", "internal/bytealg.MakeNoZero"], unfollowed := true, recurses := true, apart := false }
def RestartRedoSaid : Prop := restartRedoRow.holds Tryz.pinned (OpenSpec.ofChange restartRedoSpec)

/-- ITS FALSE NEIGHBOUR: 'it returns false'. Refute it at one input. -/
def restartRedoWrong : ChangeSpec := { name := "restartRedo", fn := fun _ => fun
  | [d1, d2, d3, d4] => { results := [.lit (.bool false)], args := [d1, d2, d3, d4] }
  | _ => none }
def RestartRedoWrongFalsely : Prop := restartRedoRow.holds Tryz.pinned (OpenSpec.ofChange restartRedoWrong)

/- THE SECOND FORM. 'bulk': how many values and letters a reading holds, each counted each time it is reached (what is shared counts as often as it is met; a slice's spare places count too). A statement '..UptoSaid' is the law's where the arguments, and the package variables that the reading takes, are together of bulk at most 1048576: NARROWER than '..Said'. Prove '..Said' where nothing that the law and all that it calls make is longer than what came in: it says more and counts as full. Else prove '..UptoSaid'. A law counts once. -/
mutual
def uptoBulk {H : Type} : DataW H → Nat
  | .lit (.string bytes) => bytes.length + 1
  | .lit _ => 1
  | .nil => 1
  | .ptr d => uptoBulk d + 1
  | .slice elems spare => uptoBulkAll elems + uptoBulkAll spare + 1
  | .agg parts => uptoBulkAll parts + 1
  | .iface _ d => uptoBulk d + 1
  | .map entries => uptoBulkEntries entries + 1
  | .held _ => 1
def uptoBulkAll {H : Type} : List (DataW H) → Nat
  | [] => 0
  | d :: r => uptoBulk d + uptoBulkAll r
def uptoBulkEntries {H : Type} : List (Lit × DataW H) → Nat
  | [] => 0
  | x :: r => uptoBulkEntry x + uptoBulkEntries r
def uptoBulkEntry {H : Type} : Lit × DataW H → Nat
  | (.string bytes, d) => bytes.length + uptoBulk d + 1
  | (_, d) => uptoBulk d + 1
 end
def uptoSmall : (H : Type) → List (DataW H) → Bool := fun _ ds => decide (uptoBulkAll ds ≤ 1048576)
def OpenSpec.upto (s : _root_.Go.ChangeSpec) : _root_.Go.OpenSpec := { _root_.Go.OpenSpec.ofChange s with cond := some uptoSmall }

/-- 'honeycomblaw22.MasterTells', WHERE WHAT IT READS IS OF BULK AT MOST 1048576: true; the input reads as it did. -/
def masterTellsUptoRow : OpenClaim := { program := "ytiagbkpggeglgaagreat", sum := "ab81e839698d7c68f7223641d814ae4b9fece36b827bb8f731675f89e04a04d0", func := "honeycomb/honeycomblaw22.MasterTells", spec := "masterTells", inPlace := ["internal/abi.NoEscape", "internal/bytealg.MakeNoZero"], unfollowed := true, recurses := true, apart := false, narrowed := true }
def MasterTellsUptoSaid : Prop := masterTellsUptoRow.holds Tryz.pinned (OpenSpec.upto masterTellsSpec)

/-- 'honeycomblaw22.RestartTells', WHERE WHAT IT READS IS OF BULK AT MOST 1048576: true; the input reads as it did. -/
def restartTellsUptoRow : OpenClaim := { program := "ytiagbkpggeglgaagreat", sum := "ab81e839698d7c68f7223641d814ae4b9fece36b827bb8f731675f89e04a04d0", func := "honeycomb/honeycomblaw22.RestartTells", spec := "restartTells", inPlace := ["internal/abi.NoEscape", "internal/bytealg.MakeNoZero"], unfollowed := true, recurses := true, apart := false, narrowed := true }
def RestartTellsUptoSaid : Prop := restartTellsUptoRow.holds Tryz.pinned (OpenSpec.upto restartTellsSpec)

/-- 'honeycomblaw22.RestartRedo', WHERE WHAT IT READS IS OF BULK AT MOST 1048576: true; the input reads as it did. -/
def restartRedoUptoRow : OpenClaim := { program := "ytiagbkpggeglgaagreat", sum := "ab81e839698d7c68f7223641d814ae4b9fece36b827bb8f731675f89e04a04d0", func := "honeycomb/honeycomblaw22.RestartRedo", spec := "restartRedo", inPlace := ["internal/abi.NoEscape", "internal/bytealg.MakeNoZero"], unfollowed := true, recurses := true, apart := false, narrowed := true }
def RestartRedoUptoSaid : Prop := restartRedoUptoRow.holds Tryz.pinned (OpenSpec.upto restartRedoSpec)

end Rows
end Go.Proofs.YtiagbkpggeglgaaGreat
