/-
  No cell of these rows narrows 'for every input' (looked for: loops, veiled, ifaces, maps, wideKeys, modest, calm, conditions, laid).
  DERIVED. THE GIVEN ROWS OF THIS SEAT. 7 by the template 'for every input the law returns true; each argument reads behind the call as it read before'; 0 by the template 'total and deterministic' (their statements: YteakeonlgdbeiaaTotals.lean).
  GIVEN WITH THE SEED: the statements are not yours to turn. If you find one false, say at which input.
  Laid BY PROGRAM, IN A SANDBOX (cutbox-rows.mjs): the forced cells as the released guide's own fill.sh prints them over the translation ca7a233e0e6bf2cf… (all of the seat's roots in one cut). By AI agents, Wed Nov 11 2026. No macro, syntax, notation, axiom, sorry.
-/
import Derived.Test.YteakeonlgdbeiaaChecked
import GoSem.Claim
import GoSem.ClaimJoined
import GoSem.ClaimMapViews
import Derived.JoinedTies
import Derived.KernelRfl
namespace Go.Proofs.Yteakeonlgdbeiaa
/- THE CELL 'sum', in the pinned program and in every row, IS THE sha256 OF THE DUMP (.gsa) THAT YteakeonlgdbeiaaProg.lean LOADS. Nothing in Lean hashes anything: it is a label: what it is worth is what the hold of that sum in a sandbox is worth. -/
noncomputable def Try.pinned : Pinned := { name := "yteakeonlgdbeiaa", sum := "ca7a233e0e6bf2cf3fc098e1d8b540bb1cd1eed57fad1dcec5bd61ac9c4edebf", checked := Try.checked }
namespace Rows
def none {H : Type} : Left H := { results := [], args := [] }

/-- 'honeycomblaw6.PatchSmall': WHATEVER THE INPUT: true; the input reads as it did. -/
def patchSmallSpec : ChangeSpec := { name := "patchSmall", fn := fun _ => fun
  | [d1, d2, d3, d4, d5] => { results := [.lit (.bool true)], args := [d1, d2, d3, d4, d5] }
  | _ => none }
def patchSmallRow : OpenClaim := { program := "yteakeonlgdbeiaa", sum := "ca7a233e0e6bf2cf3fc098e1d8b540bb1cd1eed57fad1dcec5bd61ac9c4edebf", func := "honeycomb/honeycomblaw6.PatchSmall", spec := "patchSmall", unfollowed := true, recurses := true, apart := false }
def PatchSmallSaid : Prop := patchSmallRow.holds Try.pinned (OpenSpec.ofChange patchSmallSpec)

/-- ITS FALSE NEIGHBOUR: 'it returns false'. Refute it at one input. -/
def patchSmallWrong : ChangeSpec := { name := "patchSmall", fn := fun _ => fun
  | [d1, d2, d3, d4, d5] => { results := [.lit (.bool false)], args := [d1, d2, d3, d4, d5] }
  | _ => none }
def PatchSmallWrongFalsely : Prop := patchSmallRow.holds Try.pinned (OpenSpec.ofChange patchSmallWrong)

/-- 'honeycomblaw6.PatchOthers': WHATEVER THE INPUT: true; the input reads as it did. -/
def patchOthersSpec : ChangeSpec := { name := "patchOthers", fn := fun _ => fun
  | [d1, d2, d3] => { results := [.lit (.bool true)], args := [d1, d2, d3] }
  | _ => none }
def patchOthersRow : OpenClaim := { program := "yteakeonlgdbeiaa", sum := "ca7a233e0e6bf2cf3fc098e1d8b540bb1cd1eed57fad1dcec5bd61ac9c4edebf", func := "honeycomb/honeycomblaw6.PatchOthers", spec := "patchOthers", unfollowed := true, recurses := true, apart := false }
def PatchOthersSaid : Prop := patchOthersRow.holds Try.pinned (OpenSpec.ofChange patchOthersSpec)

/-- ITS FALSE NEIGHBOUR: 'it returns false'. Refute it at one input. -/
def patchOthersWrong : ChangeSpec := { name := "patchOthers", fn := fun _ => fun
  | [d1, d2, d3] => { results := [.lit (.bool false)], args := [d1, d2, d3] }
  | _ => none }
def PatchOthersWrongFalsely : Prop := patchOthersRow.holds Try.pinned (OpenSpec.ofChange patchOthersWrong)

/-- 'honeycomblaw6.PatchChains': WHATEVER THE INPUT: true; the input reads as it did. -/
def patchChainsSpec : ChangeSpec := { name := "patchChains", fn := fun _ => fun
  | [d] => { results := [.lit (.bool true)], args := [d] }
  | _ => none }
def patchChainsRow : OpenClaim := { program := "yteakeonlgdbeiaa", sum := "ca7a233e0e6bf2cf3fc098e1d8b540bb1cd1eed57fad1dcec5bd61ac9c4edebf", func := "honeycomb/honeycomblaw6.PatchChains", spec := "patchChains", unfollowed := true, recurses := true, apart := false }
def PatchChainsSaid : Prop := patchChainsRow.holds Try.pinned (OpenSpec.ofChange patchChainsSpec)

/-- ITS FALSE NEIGHBOUR: 'it returns false'. Refute it at one input. -/
def patchChainsWrong : ChangeSpec := { name := "patchChains", fn := fun _ => fun
  | [d] => { results := [.lit (.bool false)], args := [d] }
  | _ => none }
def PatchChainsWrongFalsely : Prop := patchChainsRow.holds Try.pinned (OpenSpec.ofChange patchChainsWrong)

/-- 'honeycomblaw6.PatchEdges': WHATEVER THE INPUT: true; the input reads as it did. -/
def patchEdgesSpec : ChangeSpec := { name := "patchEdges", fn := fun _ => fun
  | [d1, d2, d3] => { results := [.lit (.bool true)], args := [d1, d2, d3] }
  | _ => none }
def patchEdgesRow : OpenClaim := { program := "yteakeonlgdbeiaa", sum := "ca7a233e0e6bf2cf3fc098e1d8b540bb1cd1eed57fad1dcec5bd61ac9c4edebf", func := "honeycomb/honeycomblaw6.PatchEdges", spec := "patchEdges", unfollowed := true, recurses := true, apart := false }
def PatchEdgesSaid : Prop := patchEdgesRow.holds Try.pinned (OpenSpec.ofChange patchEdgesSpec)

/-- ITS FALSE NEIGHBOUR: 'it returns false'. Refute it at one input. -/
def patchEdgesWrong : ChangeSpec := { name := "patchEdges", fn := fun _ => fun
  | [d1, d2, d3] => { results := [.lit (.bool false)], args := [d1, d2, d3] }
  | _ => none }
def PatchEdgesWrongFalsely : Prop := patchEdgesRow.holds Try.pinned (OpenSpec.ofChange patchEdgesWrong)

/-- 'honeycomblaw6.PatchTwice': WHATEVER THE INPUT: true; the input reads as it did. -/
def patchTwiceSpec : ChangeSpec := { name := "patchTwice", fn := fun _ => fun
  | [d1, d2, d3] => { results := [.lit (.bool true)], args := [d1, d2, d3] }
  | _ => none }
def patchTwiceRow : OpenClaim := { program := "yteakeonlgdbeiaa", sum := "ca7a233e0e6bf2cf3fc098e1d8b540bb1cd1eed57fad1dcec5bd61ac9c4edebf", func := "honeycomb/honeycomblaw6.PatchTwice", spec := "patchTwice", unfollowed := true, recurses := true, apart := false }
def PatchTwiceSaid : Prop := patchTwiceRow.holds Try.pinned (OpenSpec.ofChange patchTwiceSpec)

/-- ITS FALSE NEIGHBOUR: 'it returns false'. Refute it at one input. -/
def patchTwiceWrong : ChangeSpec := { name := "patchTwice", fn := fun _ => fun
  | [d1, d2, d3] => { results := [.lit (.bool false)], args := [d1, d2, d3] }
  | _ => none }
def PatchTwiceWrongFalsely : Prop := patchTwiceRow.holds Try.pinned (OpenSpec.ofChange patchTwiceWrong)

/-- 'honeycomblaw6.PatchTells': WHATEVER THE INPUT: true; the input reads as it did. -/
def patchTellsSpec : ChangeSpec := { name := "patchTells", fn := fun _ => fun
  | [d1, d2, d3, d4, d5] => { results := [.lit (.bool true)], args := [d1, d2, d3, d4, d5] }
  | _ => none }
def patchTellsRow : OpenClaim := { program := "yteakeonlgdbeiaa", sum := "ca7a233e0e6bf2cf3fc098e1d8b540bb1cd1eed57fad1dcec5bd61ac9c4edebf", func := "honeycomb/honeycomblaw6.PatchTells", spec := "patchTells", unfollowed := true, recurses := true, apart := false }
def PatchTellsSaid : Prop := patchTellsRow.holds Try.pinned (OpenSpec.ofChange patchTellsSpec)

/-- ITS FALSE NEIGHBOUR: 'it returns false'. Refute it at one input. -/
def patchTellsWrong : ChangeSpec := { name := "patchTells", fn := fun _ => fun
  | [d1, d2, d3, d4, d5] => { results := [.lit (.bool false)], args := [d1, d2, d3, d4, d5] }
  | _ => none }
def PatchTellsWrongFalsely : Prop := patchTellsRow.holds Try.pinned (OpenSpec.ofChange patchTellsWrong)

/-- 'honeycomblaw6.PatchBack': WHATEVER THE INPUT: true; the input reads as it did. -/
def patchBackSpec : ChangeSpec := { name := "patchBack", fn := fun _ => fun
  | [d1, d2, d3, d4] => { results := [.lit (.bool true)], args := [d1, d2, d3, d4] }
  | _ => none }
def patchBackRow : OpenClaim := { program := "yteakeonlgdbeiaa", sum := "ca7a233e0e6bf2cf3fc098e1d8b540bb1cd1eed57fad1dcec5bd61ac9c4edebf", func := "honeycomb/honeycomblaw6.PatchBack", spec := "patchBack", unfollowed := true, recurses := true, apart := false }
def PatchBackSaid : Prop := patchBackRow.holds Try.pinned (OpenSpec.ofChange patchBackSpec)

/-- ITS FALSE NEIGHBOUR: 'it returns false'. Refute it at one input. -/
def patchBackWrong : ChangeSpec := { name := "patchBack", fn := fun _ => fun
  | [d1, d2, d3, d4] => { results := [.lit (.bool false)], args := [d1, d2, d3, d4] }
  | _ => none }
def PatchBackWrongFalsely : Prop := patchBackRow.holds Try.pinned (OpenSpec.ofChange patchBackWrong)

/- THE SECOND FORM. 'bulk': how many values and letters a reading holds, each counted each time it is reached (what is shared counts as often as it is met; a slice's spare places count too). A statement '..UptoSaid' is the law's where the arguments, and the package variables that the reading takes, are together of bulk at most 1048576: NARROWER than '..Said'. Prove '..Said' where nothing that the law and all that it calls make is longer than what came in: it says more and counts as full. Else prove '..UptoSaid'. A law counts once. -/
mutual
def uptoBulk {H : Type} : DataW H → Nat
  | .lit (.string bytes) => bytes.length + 1
  | .lit _ => 1
  | .nil => 1
  | .ptr d => uptoBulk d + 1
  | .slice elems spare => uptoBulkAll elems + uptoBulkAll spare + 1
  | .agg parts => uptoBulkAll parts + 1
  | .iface _ d => uptoBulk d + 1
  | .map entries => uptoBulkEntries entries + 1
  | .held _ => 1
def uptoBulkAll {H : Type} : List (DataW H) → Nat
  | [] => 0
  | d :: r => uptoBulk d + uptoBulkAll r
def uptoBulkEntries {H : Type} : List (Lit × DataW H) → Nat
  | [] => 0
  | x :: r => uptoBulkEntry x + uptoBulkEntries r
def uptoBulkEntry {H : Type} : Lit × DataW H → Nat
  | (.string bytes, d) => bytes.length + uptoBulk d + 1
  | (_, d) => uptoBulk d + 1
 end
def uptoSmall : (H : Type) → List (DataW H) → Bool := fun _ ds => decide (uptoBulkAll ds ≤ 1048576)
def OpenSpec.upto (s : _root_.Go.ChangeSpec) : _root_.Go.OpenSpec := { _root_.Go.OpenSpec.ofChange s with cond := some uptoSmall }

/-- 'honeycomblaw6.PatchSmall', WHERE WHAT IT READS IS OF BULK AT MOST 1048576: true; the input reads as it did. -/
def patchSmallUptoRow : OpenClaim := { program := "yteakeonlgdbeiaa", sum := "ca7a233e0e6bf2cf3fc098e1d8b540bb1cd1eed57fad1dcec5bd61ac9c4edebf", func := "honeycomb/honeycomblaw6.PatchSmall", spec := "patchSmall", unfollowed := true, recurses := true, apart := false, narrowed := true }
def PatchSmallUptoSaid : Prop := patchSmallUptoRow.holds Try.pinned (OpenSpec.upto patchSmallSpec)

/-- 'honeycomblaw6.PatchOthers', WHERE WHAT IT READS IS OF BULK AT MOST 1048576: true; the input reads as it did. -/
def patchOthersUptoRow : OpenClaim := { program := "yteakeonlgdbeiaa", sum := "ca7a233e0e6bf2cf3fc098e1d8b540bb1cd1eed57fad1dcec5bd61ac9c4edebf", func := "honeycomb/honeycomblaw6.PatchOthers", spec := "patchOthers", unfollowed := true, recurses := true, apart := false, narrowed := true }
def PatchOthersUptoSaid : Prop := patchOthersUptoRow.holds Try.pinned (OpenSpec.upto patchOthersSpec)

/-- 'honeycomblaw6.PatchChains', WHERE WHAT IT READS IS OF BULK AT MOST 1048576: true; the input reads as it did. -/
def patchChainsUptoRow : OpenClaim := { program := "yteakeonlgdbeiaa", sum := "ca7a233e0e6bf2cf3fc098e1d8b540bb1cd1eed57fad1dcec5bd61ac9c4edebf", func := "honeycomb/honeycomblaw6.PatchChains", spec := "patchChains", unfollowed := true, recurses := true, apart := false, narrowed := true }
def PatchChainsUptoSaid : Prop := patchChainsUptoRow.holds Try.pinned (OpenSpec.upto patchChainsSpec)

/-- 'honeycomblaw6.PatchEdges', WHERE WHAT IT READS IS OF BULK AT MOST 1048576: true; the input reads as it did. -/
def patchEdgesUptoRow : OpenClaim := { program := "yteakeonlgdbeiaa", sum := "ca7a233e0e6bf2cf3fc098e1d8b540bb1cd1eed57fad1dcec5bd61ac9c4edebf", func := "honeycomb/honeycomblaw6.PatchEdges", spec := "patchEdges", unfollowed := true, recurses := true, apart := false, narrowed := true }
def PatchEdgesUptoSaid : Prop := patchEdgesUptoRow.holds Try.pinned (OpenSpec.upto patchEdgesSpec)

/-- 'honeycomblaw6.PatchTwice', WHERE WHAT IT READS IS OF BULK AT MOST 1048576: true; the input reads as it did. -/
def patchTwiceUptoRow : OpenClaim := { program := "yteakeonlgdbeiaa", sum := "ca7a233e0e6bf2cf3fc098e1d8b540bb1cd1eed57fad1dcec5bd61ac9c4edebf", func := "honeycomb/honeycomblaw6.PatchTwice", spec := "patchTwice", unfollowed := true, recurses := true, apart := false, narrowed := true }
def PatchTwiceUptoSaid : Prop := patchTwiceUptoRow.holds Try.pinned (OpenSpec.upto patchTwiceSpec)

/-- 'honeycomblaw6.PatchTells', WHERE WHAT IT READS IS OF BULK AT MOST 1048576: true; the input reads as it did. -/
def patchTellsUptoRow : OpenClaim := { program := "yteakeonlgdbeiaa", sum := "ca7a233e0e6bf2cf3fc098e1d8b540bb1cd1eed57fad1dcec5bd61ac9c4edebf", func := "honeycomb/honeycomblaw6.PatchTells", spec := "patchTells", unfollowed := true, recurses := true, apart := false, narrowed := true }
def PatchTellsUptoSaid : Prop := patchTellsUptoRow.holds Try.pinned (OpenSpec.upto patchTellsSpec)

/-- 'honeycomblaw6.PatchBack', WHERE WHAT IT READS IS OF BULK AT MOST 1048576: true; the input reads as it did. -/
def patchBackUptoRow : OpenClaim := { program := "yteakeonlgdbeiaa", sum := "ca7a233e0e6bf2cf3fc098e1d8b540bb1cd1eed57fad1dcec5bd61ac9c4edebf", func := "honeycomb/honeycomblaw6.PatchBack", spec := "patchBack", unfollowed := true, recurses := true, apart := false, narrowed := true }
def PatchBackUptoSaid : Prop := patchBackUptoRow.holds Try.pinned (OpenSpec.upto patchBackSpec)

end Rows
end Go.Proofs.Yteakeonlgdbeiaa
