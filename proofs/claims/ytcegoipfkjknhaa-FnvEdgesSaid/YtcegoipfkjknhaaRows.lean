/-
  No cell of these rows narrows 'for every input' (looked for: loops, veiled, ifaces, maps, wideKeys, modest, calm, conditions, laid).
  DERIVED. THE GIVEN ROWS OF THIS SEAT. 6 by the template 'for every input the law returns true; each argument reads behind the call as it read before'; 0 by the template 'total and deterministic' (their statements: YtcegoipfkjknhaaTotals.lean).
  GIVEN WITH THE SEED: the statements are not yours to turn. If you find one false, say at which input.
  Laid BY PROGRAM, IN A SANDBOX (cutbox-rows.mjs): the forced cells as the released guide's own fill.sh prints them over the translation 1c8c9ee83125523b… (all of the seat's roots in one cut). By AI agents, Wed Nov 11 2026. No macro, syntax, notation, axiom, sorry.
-/
import Derived.Test.YtcegoipfkjknhaaChecked
import GoSem.Claim
import GoSem.ClaimJoined
import GoSem.ClaimMapViews
import Derived.JoinedTies
import Derived.KernelRfl
namespace Go.Proofs.Ytcegoipfkjknhaa
/- THE CELL 'sum', in the pinned program and in every row, IS THE sha256 OF THE DUMP (.gsa) THAT YtcegoipfkjknhaaProg.lean LOADS. Nothing in Lean hashes anything: it is a label: what it is worth is what the hold of that sum in a sandbox is worth. -/
noncomputable def Try.pinned : Pinned := { name := "ytcegoipfkjknhaa", sum := "1c8c9ee83125523b2998867f6a1bf1977f40911506f318e577ad73b9b8f687ad", checked := Try.checked }
namespace Rows
def none {H : Type} : Left H := { results := [], args := [] }

/-- 'honeycomblaw1.FnvTells': WHATEVER THE INPUT: true; the input reads as it did. -/
def fnvTellsSpec : ChangeSpec := { name := "fnvTells", fn := fun _ => fun
  | [d1, d2] => { results := [.lit (.bool true)], args := [d1, d2] }
  | _ => none }
def fnvTellsRow : OpenClaim := { program := "ytcegoipfkjknhaa", sum := "1c8c9ee83125523b2998867f6a1bf1977f40911506f318e577ad73b9b8f687ad", func := "honeycomb/honeycomblaw1.FnvTells", spec := "fnvTells", apart := false }
def FnvTellsSaid : Prop := fnvTellsRow.holds Try.pinned (OpenSpec.ofChange fnvTellsSpec)

/-- ITS FALSE NEIGHBOUR: 'it returns false'. Refute it at one input. -/
def fnvTellsWrong : ChangeSpec := { name := "fnvTells", fn := fun _ => fun
  | [d1, d2] => { results := [.lit (.bool false)], args := [d1, d2] }
  | _ => none }
def FnvTellsWrongFalsely : Prop := fnvTellsRow.holds Try.pinned (OpenSpec.ofChange fnvTellsWrong)

/-- 'honeycomblaw1.FnvBits': WHATEVER THE INPUT: true; the input reads as it did. -/
def fnvBitsSpec : ChangeSpec := { name := "fnvBits", fn := fun _ => fun
  | [d1, d2, d3] => { results := [.lit (.bool true)], args := [d1, d2, d3] }
  | _ => none }
def fnvBitsRow : OpenClaim := { program := "ytcegoipfkjknhaa", sum := "1c8c9ee83125523b2998867f6a1bf1977f40911506f318e577ad73b9b8f687ad", func := "honeycomb/honeycomblaw1.FnvBits", spec := "fnvBits", apart := false }
def FnvBitsSaid : Prop := fnvBitsRow.holds Try.pinned (OpenSpec.ofChange fnvBitsSpec)

/-- ITS FALSE NEIGHBOUR: 'it returns false'. Refute it at one input. -/
def fnvBitsWrong : ChangeSpec := { name := "fnvBits", fn := fun _ => fun
  | [d1, d2, d3] => { results := [.lit (.bool false)], args := [d1, d2, d3] }
  | _ => none }
def FnvBitsWrongFalsely : Prop := fnvBitsRow.holds Try.pinned (OpenSpec.ofChange fnvBitsWrong)

/-- 'honeycomblaw1.FnvParts': WHATEVER THE INPUT: true; the input reads as it did. -/
def fnvPartsSpec : ChangeSpec := { name := "fnvParts", fn := fun _ => fun
  | [d1, d2] => { results := [.lit (.bool true)], args := [d1, d2] }
  | _ => none }
def fnvPartsRow : OpenClaim := { program := "ytcegoipfkjknhaa", sum := "1c8c9ee83125523b2998867f6a1bf1977f40911506f318e577ad73b9b8f687ad", func := "honeycomb/honeycomblaw1.FnvParts", spec := "fnvParts", apart := false }
def FnvPartsSaid : Prop := fnvPartsRow.holds Try.pinned (OpenSpec.ofChange fnvPartsSpec)

/-- ITS FALSE NEIGHBOUR: 'it returns false'. Refute it at one input. -/
def fnvPartsWrong : ChangeSpec := { name := "fnvParts", fn := fun _ => fun
  | [d1, d2] => { results := [.lit (.bool false)], args := [d1, d2] }
  | _ => none }
def FnvPartsWrongFalsely : Prop := fnvPartsRow.holds Try.pinned (OpenSpec.ofChange fnvPartsWrong)

/-- 'honeycomblaw1.FnvZero': WHATEVER THE INPUT: true; the input reads as it did. -/
def fnvZeroSpec : ChangeSpec := { name := "fnvZero", fn := fun _ => fun
  | [d1, d2] => { results := [.lit (.bool true)], args := [d1, d2] }
  | _ => none }
def fnvZeroRow : OpenClaim := { program := "ytcegoipfkjknhaa", sum := "1c8c9ee83125523b2998867f6a1bf1977f40911506f318e577ad73b9b8f687ad", func := "honeycomb/honeycomblaw1.FnvZero", spec := "fnvZero", apart := false }
def FnvZeroSaid : Prop := fnvZeroRow.holds Try.pinned (OpenSpec.ofChange fnvZeroSpec)

/-- ITS FALSE NEIGHBOUR: 'it returns false'. Refute it at one input. -/
def fnvZeroWrong : ChangeSpec := { name := "fnvZero", fn := fun _ => fun
  | [d1, d2] => { results := [.lit (.bool false)], args := [d1, d2] }
  | _ => none }
def FnvZeroWrongFalsely : Prop := fnvZeroRow.holds Try.pinned (OpenSpec.ofChange fnvZeroWrong)

/-- 'honeycomblaw1.FnvTurned': WHATEVER THE INPUT: true; the input reads as it did. -/
def fnvTurnedSpec : ChangeSpec := { name := "fnvTurned", fn := fun _ => fun
  | [d1, d2, d3] => { results := [.lit (.bool true)], args := [d1, d2, d3] }
  | _ => none }
def fnvTurnedRow : OpenClaim := { program := "ytcegoipfkjknhaa", sum := "1c8c9ee83125523b2998867f6a1bf1977f40911506f318e577ad73b9b8f687ad", func := "honeycomb/honeycomblaw1.FnvTurned", spec := "fnvTurned", apart := false }
def FnvTurnedSaid : Prop := fnvTurnedRow.holds Try.pinned (OpenSpec.ofChange fnvTurnedSpec)

/-- ITS FALSE NEIGHBOUR: 'it returns false'. Refute it at one input. -/
def fnvTurnedWrong : ChangeSpec := { name := "fnvTurned", fn := fun _ => fun
  | [d1, d2, d3] => { results := [.lit (.bool false)], args := [d1, d2, d3] }
  | _ => none }
def FnvTurnedWrongFalsely : Prop := fnvTurnedRow.holds Try.pinned (OpenSpec.ofChange fnvTurnedWrong)

/-- 'honeycomblaw1.FnvEdges': WHATEVER THE INPUT: true; the input reads as it did. -/
def fnvEdgesSpec : ChangeSpec := { name := "fnvEdges", fn := fun _ => fun
  | [d] => { results := [.lit (.bool true)], args := [d] }
  | _ => none }
def fnvEdgesRow : OpenClaim := { program := "ytcegoipfkjknhaa", sum := "1c8c9ee83125523b2998867f6a1bf1977f40911506f318e577ad73b9b8f687ad", func := "honeycomb/honeycomblaw1.FnvEdges", spec := "fnvEdges", apart := false }
def FnvEdgesSaid : Prop := fnvEdgesRow.holds Try.pinned (OpenSpec.ofChange fnvEdgesSpec)

/-- ITS FALSE NEIGHBOUR: 'it returns false'. Refute it at one input. -/
def fnvEdgesWrong : ChangeSpec := { name := "fnvEdges", fn := fun _ => fun
  | [d] => { results := [.lit (.bool false)], args := [d] }
  | _ => none }
def FnvEdgesWrongFalsely : Prop := fnvEdgesRow.holds Try.pinned (OpenSpec.ofChange fnvEdgesWrong)

/- THE SECOND FORM. 'bulk': how many values and letters a reading holds, each counted each time it is reached (what is shared counts as often as it is met; a slice's spare places count too). A statement '..UptoSaid' is the law's where the arguments, and the package variables that the reading takes, are together of bulk at most 1048576: NARROWER than '..Said'. Prove '..Said' where nothing that the law and all that it calls make is longer than what came in: it says more and counts as full. Else prove '..UptoSaid'. A law counts once. -/
mutual
def uptoBulk {H : Type} : DataW H → Nat
  | .lit (.string bytes) => bytes.length + 1
  | .lit _ => 1
  | .nil => 1
  | .ptr d => uptoBulk d + 1
  | .slice elems spare => uptoBulkAll elems + uptoBulkAll spare + 1
  | .agg parts => uptoBulkAll parts + 1
  | .iface _ d => uptoBulk d + 1
  | .map entries => uptoBulkEntries entries + 1
  | .held _ => 1
def uptoBulkAll {H : Type} : List (DataW H) → Nat
  | [] => 0
  | d :: r => uptoBulk d + uptoBulkAll r
def uptoBulkEntries {H : Type} : List (Lit × DataW H) → Nat
  | [] => 0
  | x :: r => uptoBulkEntry x + uptoBulkEntries r
def uptoBulkEntry {H : Type} : Lit × DataW H → Nat
  | (.string bytes, d) => bytes.length + uptoBulk d + 1
  | (_, d) => uptoBulk d + 1
 end
def uptoSmall : (H : Type) → List (DataW H) → Bool := fun _ ds => decide (uptoBulkAll ds ≤ 1048576)
def OpenSpec.upto (s : _root_.Go.ChangeSpec) : _root_.Go.OpenSpec := { _root_.Go.OpenSpec.ofChange s with cond := some uptoSmall }

/-- 'honeycomblaw1.FnvTells', WHERE WHAT IT READS IS OF BULK AT MOST 1048576: true; the input reads as it did. -/
def fnvTellsUptoRow : OpenClaim := { program := "ytcegoipfkjknhaa", sum := "1c8c9ee83125523b2998867f6a1bf1977f40911506f318e577ad73b9b8f687ad", func := "honeycomb/honeycomblaw1.FnvTells", spec := "fnvTells", apart := false, narrowed := true }
def FnvTellsUptoSaid : Prop := fnvTellsUptoRow.holds Try.pinned (OpenSpec.upto fnvTellsSpec)

/-- 'honeycomblaw1.FnvBits', WHERE WHAT IT READS IS OF BULK AT MOST 1048576: true; the input reads as it did. -/
def fnvBitsUptoRow : OpenClaim := { program := "ytcegoipfkjknhaa", sum := "1c8c9ee83125523b2998867f6a1bf1977f40911506f318e577ad73b9b8f687ad", func := "honeycomb/honeycomblaw1.FnvBits", spec := "fnvBits", apart := false, narrowed := true }
def FnvBitsUptoSaid : Prop := fnvBitsUptoRow.holds Try.pinned (OpenSpec.upto fnvBitsSpec)

/-- 'honeycomblaw1.FnvParts', WHERE WHAT IT READS IS OF BULK AT MOST 1048576: true; the input reads as it did. -/
def fnvPartsUptoRow : OpenClaim := { program := "ytcegoipfkjknhaa", sum := "1c8c9ee83125523b2998867f6a1bf1977f40911506f318e577ad73b9b8f687ad", func := "honeycomb/honeycomblaw1.FnvParts", spec := "fnvParts", apart := false, narrowed := true }
def FnvPartsUptoSaid : Prop := fnvPartsUptoRow.holds Try.pinned (OpenSpec.upto fnvPartsSpec)

/-- 'honeycomblaw1.FnvZero', WHERE WHAT IT READS IS OF BULK AT MOST 1048576: true; the input reads as it did. -/
def fnvZeroUptoRow : OpenClaim := { program := "ytcegoipfkjknhaa", sum := "1c8c9ee83125523b2998867f6a1bf1977f40911506f318e577ad73b9b8f687ad", func := "honeycomb/honeycomblaw1.FnvZero", spec := "fnvZero", apart := false, narrowed := true }
def FnvZeroUptoSaid : Prop := fnvZeroUptoRow.holds Try.pinned (OpenSpec.upto fnvZeroSpec)

/-- 'honeycomblaw1.FnvTurned', WHERE WHAT IT READS IS OF BULK AT MOST 1048576: true; the input reads as it did. -/
def fnvTurnedUptoRow : OpenClaim := { program := "ytcegoipfkjknhaa", sum := "1c8c9ee83125523b2998867f6a1bf1977f40911506f318e577ad73b9b8f687ad", func := "honeycomb/honeycomblaw1.FnvTurned", spec := "fnvTurned", apart := false, narrowed := true }
def FnvTurnedUptoSaid : Prop := fnvTurnedUptoRow.holds Try.pinned (OpenSpec.upto fnvTurnedSpec)

/-- 'honeycomblaw1.FnvEdges', WHERE WHAT IT READS IS OF BULK AT MOST 1048576: true; the input reads as it did. -/
def fnvEdgesUptoRow : OpenClaim := { program := "ytcegoipfkjknhaa", sum := "1c8c9ee83125523b2998867f6a1bf1977f40911506f318e577ad73b9b8f687ad", func := "honeycomb/honeycomblaw1.FnvEdges", spec := "fnvEdges", apart := false, narrowed := true }
def FnvEdgesUptoSaid : Prop := fnvEdgesUptoRow.holds Try.pinned (OpenSpec.upto fnvEdgesSpec)

end Rows
end Go.Proofs.Ytcegoipfkjknhaa
