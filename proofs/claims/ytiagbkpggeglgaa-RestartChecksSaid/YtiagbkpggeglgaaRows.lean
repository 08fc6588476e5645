/-
  No cell of these rows narrows 'for every input' (looked for: loops, veiled, ifaces, maps, wideKeys, modest, calm, conditions, laid).
  DERIVED. THE GIVEN ROWS OF THIS SEAT. 5 by the template 'for every input the law returns true; each argument reads behind the call as it read before'; 0 by the template 'total and deterministic' (their statements: YtiagbkpggeglgaaTotals.lean).
  GIVEN WITH THE SEED: the statements are not yours to turn. If you find one false, say at which input.
  Laid BY PROGRAM, IN A SANDBOX (cutbox-rows.mjs): the forced cells as the released guide's own fill.sh prints them over the translation ac774702b2c9224b… (all of the seat's roots in one cut). By AI agents, Wed Nov 11 2026. No macro, syntax, notation, axiom, sorry.
-/
import Derived.Test.YtiagbkpggeglgaaChecked
import GoSem.Claim
import GoSem.ClaimJoined
import GoSem.ClaimMapViews
import Derived.JoinedTies
import Derived.KernelRfl
namespace Go.Proofs.Ytiagbkpggeglgaa
/- THE CELL 'sum', in the pinned program and in every row, IS THE sha256 OF THE DUMP (.gsa) THAT YtiagbkpggeglgaaProg.lean LOADS. Nothing in Lean hashes anything: it is a label: what it is worth is what the hold of that sum in a sandbox is worth. -/
noncomputable def Try.pinned : Pinned := { name := "ytiagbkpggeglgaa", sum := "ac774702b2c9224b7f486bd0cde25a20ae312bfea7337c9b715c1f51e7a30217", checked := Try.checked }
namespace Rows
def none {H : Type} : Left H := { results := [], args := [] }

/-- 'honeycomblaw22.RestartChecks': WHATEVER THE INPUT: true; the input reads as it did. -/
def restartChecksSpec : ChangeSpec := { name := "restartChecks", fn := fun _ => fun
  | [d1, d2] => { results := [.lit (.bool true)], args := [d1, d2] }
  | _ => none }
def restartChecksRow : OpenClaim := { program := "ytiagbkpggeglgaa", sum := "ac774702b2c9224b7f486bd0cde25a20ae312bfea7337c9b715c1f51e7a30217", func := "honeycomb/honeycomblaw22.RestartChecks", spec := "restartChecks", inPlace := ["internal/abi.NoEscape", "internal/bytealg.MakeNoZero"], unfollowed := true, recurses := true, apart := false }
def RestartChecksSaid : Prop := restartChecksRow.holds Try.pinned (OpenSpec.ofChange restartChecksSpec)

/-- ITS FALSE NEIGHBOUR: 'it returns false'. Refute it at one input. -/
def restartChecksWrong : ChangeSpec := { name := "restartChecks", fn := fun _ => fun
  | [d1, d2] => { results := [.lit (.bool false)], args := [d1, d2] }
  | _ => none }
def RestartChecksWrongFalsely : Prop := restartChecksRow.holds Try.pinned (OpenSpec.ofChange restartChecksWrong)

/-- 'honeycomblaw22.MasterTurns': WHATEVER THE INPUT: true; the input reads as it did. -/
def masterTurnsSpec : ChangeSpec := { name := "masterTurns", fn := fun _ => fun
  | [d] => { results := [.lit (.bool true)], args := [d] }
  | _ => none }
def masterTurnsRow : OpenClaim := { program := "ytiagbkpggeglgaa", sum := "ac774702b2c9224b7f486bd0cde25a20ae312bfea7337c9b715c1f51e7a30217", func := "honeycomb/honeycomblaw22.MasterTurns", spec := "masterTurns", inPlace := ["internal/abi.NoEscape", "internal/bytealg.MakeNoZero"], unfollowed := true, recurses := true, apart := false }
def MasterTurnsSaid : Prop := masterTurnsRow.holds Try.pinned (OpenSpec.ofChange masterTurnsSpec)

/-- ITS FALSE NEIGHBOUR: 'it returns false'. Refute it at one input. -/
def masterTurnsWrong : ChangeSpec := { name := "masterTurns", fn := fun _ => fun
  | [d] => { results := [.lit (.bool false)], args := [d] }
  | _ => none }
def MasterTurnsWrongFalsely : Prop := masterTurnsRow.holds Try.pinned (OpenSpec.ofChange masterTurnsWrong)

/-- 'honeycomblaw22.MasterEdges': WHATEVER THE INPUT: true; the input reads as it did. -/
def masterEdgesSpec : ChangeSpec := { name := "masterEdges", fn := fun _ => fun
  | [d1, d2] => { results := [.lit (.bool true)], args := [d1, d2] }
  | _ => none }
def masterEdgesRow : OpenClaim := { program := "ytiagbkpggeglgaa", sum := "ac774702b2c9224b7f486bd0cde25a20ae312bfea7337c9b715c1f51e7a30217", func := "honeycomb/honeycomblaw22.MasterEdges", spec := "masterEdges", inPlace := ["internal/abi.NoEscape", "internal/bytealg.MakeNoZero"], unfollowed := true, recurses := true, apart := false }
def MasterEdgesSaid : Prop := masterEdgesRow.holds Try.pinned (OpenSpec.ofChange masterEdgesSpec)

/-- ITS FALSE NEIGHBOUR: 'it returns false'. Refute it at one input. -/
def masterEdgesWrong : ChangeSpec := { name := "masterEdges", fn := fun _ => fun
  | [d1, d2] => { results := [.lit (.bool false)], args := [d1, d2] }
  | _ => none }
def MasterEdgesWrongFalsely : Prop := masterEdgesRow.holds Try.pinned (OpenSpec.ofChange masterEdgesWrong)

/-- 'honeycomblaw22.MasterTurned': WHATEVER THE INPUT: true; the input reads as it did. -/
def masterTurnedSpec : ChangeSpec := { name := "masterTurned", fn := fun _ => fun
  | [d1, d2, d3] => { results := [.lit (.bool true)], args := [d1, d2, d3] }
  | _ => none }
def masterTurnedRow : OpenClaim := { program := "ytiagbkpggeglgaa", sum := "ac774702b2c9224b7f486bd0cde25a20ae312bfea7337c9b715c1f51e7a30217", func := "honeycomb/honeycomblaw22.MasterTurned", spec := "masterTurned", inPlace := ["internal/abi.NoEscape", "internal/bytealg.MakeNoZero"], unfollowed := true, recurses := true, apart := false }
def MasterTurnedSaid : Prop := masterTurnedRow.holds Try.pinned (OpenSpec.ofChange masterTurnedSpec)

/-- ITS FALSE NEIGHBOUR: 'it returns false'. Refute it at one input. -/
def masterTurnedWrong : ChangeSpec := { name := "masterTurned", fn := fun _ => fun
  | [d1, d2, d3] => { results := [.lit (.bool false)], args := [d1, d2, d3] }
  | _ => none }
def MasterTurnedWrongFalsely : Prop := masterTurnedRow.holds Try.pinned (OpenSpec.ofChange masterTurnedWrong)

/-- 'honeycomblaw22.RestartParts': WHATEVER THE INPUT: true; the input reads as it did. -/
def restartPartsSpec : ChangeSpec := { name := "restartParts", fn := fun _ => fun
  | [d1, d2] => { results := [.lit (.bool true)], args := [d1, d2] }
  | _ => none }
def restartPartsRow : OpenClaim := { program := "ytiagbkpggeglgaa", sum := "ac774702b2c9224b7f486bd0cde25a20ae312bfea7337c9b715c1f51e7a30217", func := "honeycomb/honeycomblaw22.RestartParts", spec := "restartParts", inPlace := ["internal/abi.NoEscape", "internal/bytealg.MakeNoZero"], unfollowed := true, recurses := true, apart := false }
def RestartPartsSaid : Prop := restartPartsRow.holds Try.pinned (OpenSpec.ofChange restartPartsSpec)

/-- ITS FALSE NEIGHBOUR: 'it returns false'. Refute it at one input. -/
def restartPartsWrong : ChangeSpec := { name := "restartParts", fn := fun _ => fun
  | [d1, d2] => { results := [.lit (.bool false)], args := [d1, d2] }
  | _ => none }
def RestartPartsWrongFalsely : Prop := restartPartsRow.holds Try.pinned (OpenSpec.ofChange restartPartsWrong)

/- THE SECOND FORM. 'bulk': how many values and letters a reading holds, each counted each time it is reached (what is shared counts as often as it is met; a slice's spare places count too). A statement '..UptoSaid' is the law's where the arguments, and the package variables that the reading takes, are together of bulk at most 1048576: NARROWER than '..Said'. Prove '..Said' where nothing that the law and all that it calls make is longer than what came in: it says more and counts as full. Else prove '..UptoSaid'. A law counts once. -/
mutual
def uptoBulk {H : Type} : DataW H → Nat
  | .lit (.string bytes) => bytes.length + 1
  | .lit _ => 1
  | .nil => 1
  | .ptr d => uptoBulk d + 1
  | .slice elems spare => uptoBulkAll elems + uptoBulkAll spare + 1
  | .agg parts => uptoBulkAll parts + 1
  | .iface _ d => uptoBulk d + 1
  | .map entries => uptoBulkEntries entries + 1
  | .held _ => 1
def uptoBulkAll {H : Type} : List (DataW H) → Nat
  | [] => 0
  | d :: r => uptoBulk d + uptoBulkAll r
def uptoBulkEntries {H : Type} : List (Lit × DataW H) → Nat
  | [] => 0
  | x :: r => uptoBulkEntry x + uptoBulkEntries r
def uptoBulkEntry {H : Type} : Lit × DataW H → Nat
  | (.string bytes, d) => bytes.length + uptoBulk d + 1
  | (_, d) => uptoBulk d + 1
 end
def uptoSmall : (H : Type) → List (DataW H) → Bool := fun _ ds => decide (uptoBulkAll ds ≤ 1048576)
def OpenSpec.upto (s : _root_.Go.ChangeSpec) : _root_.Go.OpenSpec := { _root_.Go.OpenSpec.ofChange s with cond := some uptoSmall }

/-- 'honeycomblaw22.RestartChecks', WHERE WHAT IT READS IS OF BULK AT MOST 1048576: true; the input reads as it did. -/
def restartChecksUptoRow : OpenClaim := { program := "ytiagbkpggeglgaa", sum := "ac774702b2c9224b7f486bd0cde25a20ae312bfea7337c9b715c1f51e7a30217", func := "honeycomb/honeycomblaw22.RestartChecks", spec := "restartChecks", inPlace := ["internal/abi.NoEscape", "internal/bytealg.MakeNoZero"], unfollowed := true, recurses := true, apart := false, narrowed := true }
def RestartChecksUptoSaid : Prop := restartChecksUptoRow.holds Try.pinned (OpenSpec.upto restartChecksSpec)

/-- 'honeycomblaw22.MasterTurns', WHERE WHAT IT READS IS OF BULK AT MOST 1048576: true; the input reads as it did. -/
def masterTurnsUptoRow : OpenClaim := { program := "ytiagbkpggeglgaa", sum := "ac774702b2c9224b7f486bd0cde25a20ae312bfea7337c9b715c1f51e7a30217", func := "honeycomb/honeycomblaw22.MasterTurns", spec := "masterTurns", inPlace := ["internal/abi.NoEscape", "internal/bytealg.MakeNoZero"], unfollowed := true, recurses := true, apart := false, narrowed := true }
def MasterTurnsUptoSaid : Prop := masterTurnsUptoRow.holds Try.pinned (OpenSpec.upto masterTurnsSpec)

/-- 'honeycomblaw22.MasterEdges', WHERE WHAT IT READS IS OF BULK AT MOST 1048576: true; the input reads as it did. -/
def masterEdgesUptoRow : OpenClaim := { program := "ytiagbkpggeglgaa", sum := "ac774702b2c9224b7f486bd0cde25a20ae312bfea7337c9b715c1f51e7a30217", func := "honeycomb/honeycomblaw22.MasterEdges", spec := "masterEdges", inPlace := ["internal/abi.NoEscape", "internal/bytealg.MakeNoZero"], unfollowed := true, recurses := true, apart := false, narrowed := true }
def MasterEdgesUptoSaid : Prop := masterEdgesUptoRow.holds Try.pinned (OpenSpec.upto masterEdgesSpec)

/-- 'honeycomblaw22.MasterTurned', WHERE WHAT IT READS IS OF BULK AT MOST 1048576: true; the input reads as it did. -/
def masterTurnedUptoRow : OpenClaim := { program := "ytiagbkpggeglgaa", sum := "ac774702b2c9224b7f486bd0cde25a20ae312bfea7337c9b715c1f51e7a30217", func := "honeycomb/honeycomblaw22.MasterTurned", spec := "masterTurned", inPlace := ["internal/abi.NoEscape", "internal/bytealg.MakeNoZero"], unfollowed := true, recurses := true, apart := false, narrowed := true }
def MasterTurnedUptoSaid : Prop := masterTurnedUptoRow.holds Try.pinned (OpenSpec.upto masterTurnedSpec)

/-- 'honeycomblaw22.RestartParts', WHERE WHAT IT READS IS OF BULK AT MOST 1048576: true; the input reads as it did. -/
def restartPartsUptoRow : OpenClaim := { program := "ytiagbkpggeglgaa", sum := "ac774702b2c9224b7f486bd0cde25a20ae312bfea7337c9b715c1f51e7a30217", func := "honeycomb/honeycomblaw22.RestartParts", spec := "restartParts", inPlace := ["internal/abi.NoEscape", "internal/bytealg.MakeNoZero"], unfollowed := true, recurses := true, apart := false, narrowed := true }
def RestartPartsUptoSaid : Prop := restartPartsUptoRow.holds Try.pinned (OpenSpec.upto restartPartsSpec)

end Rows
end Go.Proofs.Ytiagbkpggeglgaa
