/-
  No cell of these rows narrows 'for every input' (looked for: loops, veiled, ifaces, maps, wideKeys, modest, calm, conditions, laid).
  DERIVED. THE GIVEN ROWS OF THIS SEAT. 6 by the template 'for every input the law returns true; each argument reads behind the call as it read before'; 0 by the template 'total and deterministic' (their statements: YtlbdodopodgokaaTotals.lean).
  GIVEN WITH THE SEED: the statements are not yours to turn. If you find one false, say at which input.
  Laid BY PROGRAM, IN A SANDBOX (cutbox-rows.mjs): the forced cells as the released guide's own fill.sh prints them over the translation 98ed82f1da5e7ef2… (all of the seat's roots in one cut). By AI agents, Wed Nov 11 2026. No macro, syntax, notation, axiom, sorry.
-/
import Derived.Test.YtlbdodopodgokaaChecked
import GoSem.Claim
import GoSem.ClaimJoined
import GoSem.ClaimMapViews
import Derived.JoinedTies
import Derived.KernelRfl
namespace Go.Proofs.Ytlbdodopodgokaa
/- THE CELL 'sum', in the pinned program and in every row, IS THE sha256 OF THE DUMP (.gsa) THAT YtlbdodopodgokaaProg.lean LOADS. Nothing in Lean hashes anything: it is a label: what it is worth is what the hold of that sum in a sandbox is worth. -/
noncomputable def Try.pinned : Pinned := { name := "ytlbdodopodgokaa", sum := "98ed82f1da5e7ef2b8aecddec7afced1a95b94dcf280d6a6b861cf2b0cfd01fa", checked := Try.checked }
namespace Rows
def none {H : Type} : Left H := { results := [], args := [] }

/-- 'honeycomblaw7.CellTurned': WHATEVER THE INPUT: true; the input reads as it did. -/
def cellTurnedSpec : ChangeSpec := { name := "cellTurned", fn := fun _ => fun
  | [d1, d2, d3] => { results := [.lit (.bool true)], args := [d1, d2, d3] }
  | _ => none }
def cellTurnedRow : OpenClaim := { program := "ytlbdodopodgokaa", sum := "98ed82f1da5e7ef2b8aecddec7afced1a95b94dcf280d6a6b861cf2b0cfd01fa", func := "honeycomb/honeycomblaw7.CellTurned", spec := "cellTurned", inPlace := ["internal/abi.NoEscape", "internal/bytealg.MakeNoZero"], apart := false }
def CellTurnedSaid : Prop := cellTurnedRow.holds Try.pinned (OpenSpec.ofChange cellTurnedSpec)

/-- ITS FALSE NEIGHBOUR: 'it returns false'. Refute it at one input. -/
def cellTurnedWrong : ChangeSpec := { name := "cellTurned", fn := fun _ => fun
  | [d1, d2, d3] => { results := [.lit (.bool false)], args := [d1, d2, d3] }
  | _ => none }
def CellTurnedWrongFalsely : Prop := cellTurnedRow.holds Try.pinned (OpenSpec.ofChange cellTurnedWrong)

/-- 'honeycomblaw7.CellBack': WHATEVER THE INPUT: true; the input reads as it did. -/
def cellBackSpec : ChangeSpec := { name := "cellBack", fn := fun _ => fun
  | [d] => { results := [.lit (.bool true)], args := [d] }
  | _ => none }
def cellBackRow : OpenClaim := { program := "ytlbdodopodgokaa", sum := "98ed82f1da5e7ef2b8aecddec7afced1a95b94dcf280d6a6b861cf2b0cfd01fa", func := "honeycomb/honeycomblaw7.CellBack", spec := "cellBack", inPlace := ["internal/abi.NoEscape", "internal/bytealg.MakeNoZero", "internal/bytealg.abigen_runtime_cmpstring"], unfollowed := true, recurses := true, apart := false }
def CellBackSaid : Prop := cellBackRow.holds Try.pinned (OpenSpec.ofChange cellBackSpec)

/-- ITS FALSE NEIGHBOUR: 'it returns false'. Refute it at one input. -/
def cellBackWrong : ChangeSpec := { name := "cellBack", fn := fun _ => fun
  | [d] => { results := [.lit (.bool false)], args := [d] }
  | _ => none }
def CellBackWrongFalsely : Prop := cellBackRow.holds Try.pinned (OpenSpec.ofChange cellBackWrong)

/-- 'honeycomblaw7.CellSizes': WHATEVER THE INPUT: true; the input reads as it did. -/
def cellSizesSpec : ChangeSpec := { name := "cellSizes", fn := fun _ => fun
  | [d1, d2] => { results := [.lit (.bool true)], args := [d1, d2] }
  | _ => none }
def cellSizesRow : OpenClaim := { program := "ytlbdodopodgokaa", sum := "98ed82f1da5e7ef2b8aecddec7afced1a95b94dcf280d6a6b861cf2b0cfd01fa", func := "honeycomb/honeycomblaw7.CellSizes", spec := "cellSizes", inPlace := ["internal/abi.NoEscape", "internal/bytealg.MakeNoZero", "internal/bytealg.abigen_runtime_cmpstring"], unfollowed := true, recurses := true, apart := false }
def CellSizesSaid : Prop := cellSizesRow.holds Try.pinned (OpenSpec.ofChange cellSizesSpec)

/-- ITS FALSE NEIGHBOUR: 'it returns false'. Refute it at one input. -/
def cellSizesWrong : ChangeSpec := { name := "cellSizes", fn := fun _ => fun
  | [d1, d2] => { results := [.lit (.bool false)], args := [d1, d2] }
  | _ => none }
def CellSizesWrongFalsely : Prop := cellSizesRow.holds Try.pinned (OpenSpec.ofChange cellSizesWrong)

/-- 'honeycomblaw7.CellOrder': WHATEVER THE INPUT: true; the input reads as it did. -/
def cellOrderSpec : ChangeSpec := { name := "cellOrder", fn := fun _ => fun
  | [d1, d2] => { results := [.lit (.bool true)], args := [d1, d2] }
  | _ => none }
def cellOrderRow : OpenClaim := { program := "ytlbdodopodgokaa", sum := "98ed82f1da5e7ef2b8aecddec7afced1a95b94dcf280d6a6b861cf2b0cfd01fa", func := "honeycomb/honeycomblaw7.CellOrder", spec := "cellOrder", inPlace := ["internal/abi.NoEscape", "internal/bytealg.MakeNoZero", "internal/bytealg.abigen_runtime_cmpstring"], unfollowed := true, recurses := true, apart := false }
def CellOrderSaid : Prop := cellOrderRow.holds Try.pinned (OpenSpec.ofChange cellOrderSpec)

/-- ITS FALSE NEIGHBOUR: 'it returns false'. Refute it at one input. -/
def cellOrderWrong : ChangeSpec := { name := "cellOrder", fn := fun _ => fun
  | [d1, d2] => { results := [.lit (.bool false)], args := [d1, d2] }
  | _ => none }
def CellOrderWrongFalsely : Prop := cellOrderRow.holds Try.pinned (OpenSpec.ofChange cellOrderWrong)

/-- 'honeycomblaw7.CellEdges': WHATEVER THE INPUT: true; the input reads as it did. -/
def cellEdgesSpec : ChangeSpec := { name := "cellEdges", fn := fun _ => fun
  | [d1, d2, d3, d4] => { results := [.lit (.bool true)], args := [d1, d2, d3, d4] }
  | _ => none }
def cellEdgesRow : OpenClaim := { program := "ytlbdodopodgokaa", sum := "98ed82f1da5e7ef2b8aecddec7afced1a95b94dcf280d6a6b861cf2b0cfd01fa", func := "honeycomb/honeycomblaw7.CellEdges", spec := "cellEdges", inPlace := ["internal/abi.NoEscape", "internal/bytealg.MakeNoZero", "internal/bytealg.abigen_runtime_cmpstring"], unfollowed := true, recurses := true, apart := false }
def CellEdgesSaid : Prop := cellEdgesRow.holds Try.pinned (OpenSpec.ofChange cellEdgesSpec)

/-- ITS FALSE NEIGHBOUR: 'it returns false'. Refute it at one input. -/
def cellEdgesWrong : ChangeSpec := { name := "cellEdges", fn := fun _ => fun
  | [d1, d2, d3, d4] => { results := [.lit (.bool false)], args := [d1, d2, d3, d4] }
  | _ => none }
def CellEdgesWrongFalsely : Prop := cellEdgesRow.holds Try.pinned (OpenSpec.ofChange cellEdgesWrong)

/-- 'honeycomblaw7.CellNone': WHATEVER THE INPUT: true; the input reads as it did. -/
def cellNoneSpec : ChangeSpec := { name := "cellNone", fn := fun _ => fun
  | [d] => { results := [.lit (.bool true)], args := [d] }
  | _ => none }
def cellNoneRow : OpenClaim := { program := "ytlbdodopodgokaa", sum := "98ed82f1da5e7ef2b8aecddec7afced1a95b94dcf280d6a6b861cf2b0cfd01fa", func := "honeycomb/honeycomblaw7.CellNone", spec := "cellNone", inPlace := ["internal/abi.NoEscape", "internal/bytealg.MakeNoZero", "internal/bytealg.abigen_runtime_cmpstring"], unfollowed := true, recurses := true, apart := false }
def CellNoneSaid : Prop := cellNoneRow.holds Try.pinned (OpenSpec.ofChange cellNoneSpec)

/-- ITS FALSE NEIGHBOUR: 'it returns false'. Refute it at one input. -/
def cellNoneWrong : ChangeSpec := { name := "cellNone", fn := fun _ => fun
  | [d] => { results := [.lit (.bool false)], args := [d] }
  | _ => none }
def CellNoneWrongFalsely : Prop := cellNoneRow.holds Try.pinned (OpenSpec.ofChange cellNoneWrong)

/- THE SECOND FORM. 'bulk': how many values and letters a reading holds, each counted each time it is reached (what is shared counts as often as it is met; a slice's spare places count too). A statement '..UptoSaid' is the law's where the arguments, and the package variables that the reading takes, are together of bulk at most 1048576: NARROWER than '..Said'. Prove '..Said' where nothing that the law and all that it calls make is longer than what came in: it says more and counts as full. Else prove '..UptoSaid'. A law counts once. -/
mutual
def uptoBulk {H : Type} : DataW H → Nat
  | .lit (.string bytes) => bytes.length + 1
  | .lit _ => 1
  | .nil => 1
  | .ptr d => uptoBulk d + 1
  | .slice elems spare => uptoBulkAll elems + uptoBulkAll spare + 1
  | .agg parts => uptoBulkAll parts + 1
  | .iface _ d => uptoBulk d + 1
  | .map entries => uptoBulkEntries entries + 1
  | .held _ => 1
def uptoBulkAll {H : Type} : List (DataW H) → Nat
  | [] => 0
  | d :: r => uptoBulk d + uptoBulkAll r
def uptoBulkEntries {H : Type} : List (Lit × DataW H) → Nat
  | [] => 0
  | x :: r => uptoBulkEntry x + uptoBulkEntries r
def uptoBulkEntry {H : Type} : Lit × DataW H → Nat
  | (.string bytes, d) => bytes.length + uptoBulk d + 1
  | (_, d) => uptoBulk d + 1
 end
def uptoSmall : (H : Type) → List (DataW H) → Bool := fun _ ds => decide (uptoBulkAll ds ≤ 1048576)
def OpenSpec.upto (s : _root_.Go.ChangeSpec) : _root_.Go.OpenSpec := { _root_.Go.OpenSpec.ofChange s with cond := some uptoSmall }

/-- 'honeycomblaw7.CellTurned', WHERE WHAT IT READS IS OF BULK AT MOST 1048576: true; the input reads as it did. -/
def cellTurnedUptoRow : OpenClaim := { program := "ytlbdodopodgokaa", sum := "98ed82f1da5e7ef2b8aecddec7afced1a95b94dcf280d6a6b861cf2b0cfd01fa", func := "honeycomb/honeycomblaw7.CellTurned", spec := "cellTurned", inPlace := ["internal/abi.NoEscape", "internal/bytealg.MakeNoZero"], apart := false, narrowed := true }
def CellTurnedUptoSaid : Prop := cellTurnedUptoRow.holds Try.pinned (OpenSpec.upto cellTurnedSpec)

/-- 'honeycomblaw7.CellBack', WHERE WHAT IT READS IS OF BULK AT MOST 1048576: true; the input reads as it did. -/
def cellBackUptoRow : OpenClaim := { program := "ytlbdodopodgokaa", sum := "98ed82f1da5e7ef2b8aecddec7afced1a95b94dcf280d6a6b861cf2b0cfd01fa", func := "honeycomb/honeycomblaw7.CellBack", spec := "cellBack", inPlace := ["internal/abi.NoEscape", "internal/bytealg.MakeNoZero", "internal/bytealg.abigen_runtime_cmpstring"], unfollowed := true, recurses := true, apart := false, narrowed := true }
def CellBackUptoSaid : Prop := cellBackUptoRow.holds Try.pinned (OpenSpec.upto cellBackSpec)

/-- 'honeycomblaw7.CellSizes', WHERE WHAT IT READS IS OF BULK AT MOST 1048576: true; the input reads as it did. -/
def cellSizesUptoRow : OpenClaim := { program := "ytlbdodopodgokaa", sum := "98ed82f1da5e7ef2b8aecddec7afced1a95b94dcf280d6a6b861cf2b0cfd01fa", func := "honeycomb/honeycomblaw7.CellSizes", spec := "cellSizes", inPlace := ["internal/abi.NoEscape", "internal/bytealg.MakeNoZero", "internal/bytealg.abigen_runtime_cmpstring"], unfollowed := true, recurses := true, apart := false, narrowed := true }
def CellSizesUptoSaid : Prop := cellSizesUptoRow.holds Try.pinned (OpenSpec.upto cellSizesSpec)

/-- 'honeycomblaw7.CellOrder', WHERE WHAT IT READS IS OF BULK AT MOST 1048576: true; the input reads as it did. -/
def cellOrderUptoRow : OpenClaim := { program := "ytlbdodopodgokaa", sum := "98ed82f1da5e7ef2b8aecddec7afced1a95b94dcf280d6a6b861cf2b0cfd01fa", func := "honeycomb/honeycomblaw7.CellOrder", spec := "cellOrder", inPlace := ["internal/abi.NoEscape", "internal/bytealg.MakeNoZero", "internal/bytealg.abigen_runtime_cmpstring"], unfollowed := true, recurses := true, apart := false, narrowed := true }
def CellOrderUptoSaid : Prop := cellOrderUptoRow.holds Try.pinned (OpenSpec.upto cellOrderSpec)

/-- 'honeycomblaw7.CellEdges', WHERE WHAT IT READS IS OF BULK AT MOST 1048576: true; the input reads as it did. -/
def cellEdgesUptoRow : OpenClaim := { program := "ytlbdodopodgokaa", sum := "98ed82f1da5e7ef2b8aecddec7afced1a95b94dcf280d6a6b861cf2b0cfd01fa", func := "honeycomb/honeycomblaw7.CellEdges", spec := "cellEdges", inPlace := ["internal/abi.NoEscape", "internal/bytealg.MakeNoZero", "internal/bytealg.abigen_runtime_cmpstring"], unfollowed := true, recurses := true, apart := false, narrowed := true }
def CellEdgesUptoSaid : Prop := cellEdgesUptoRow.holds Try.pinned (OpenSpec.upto cellEdgesSpec)

/-- 'honeycomblaw7.CellNone', WHERE WHAT IT READS IS OF BULK AT MOST 1048576: true; the input reads as it did. -/
def cellNoneUptoRow : OpenClaim := { program := "ytlbdodopodgokaa", sum := "98ed82f1da5e7ef2b8aecddec7afced1a95b94dcf280d6a6b861cf2b0cfd01fa", func := "honeycomb/honeycomblaw7.CellNone", spec := "cellNone", inPlace := ["internal/abi.NoEscape", "internal/bytealg.MakeNoZero", "internal/bytealg.abigen_runtime_cmpstring"], unfollowed := true, recurses := true, apart := false, narrowed := true }
def CellNoneUptoSaid : Prop := cellNoneUptoRow.holds Try.pinned (OpenSpec.upto cellNoneSpec)

end Rows
end Go.Proofs.Ytlbdodopodgokaa
