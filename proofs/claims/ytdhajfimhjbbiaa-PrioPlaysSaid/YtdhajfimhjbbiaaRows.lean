/-
  No cell of these rows narrows 'for every input' (looked for: loops, veiled, ifaces, maps, wideKeys, modest, calm, conditions, laid).
  DERIVED. THE GIVEN ROWS OF THIS SEAT. 7 by the template 'for every input the law returns true; each argument reads behind the call as it read before'; 0 by the template 'total and deterministic' (their statements: YtdhajfimhjbbiaaTotals.lean).
  GIVEN WITH THE SEED: the statements are not yours to turn. If you find one false, say at which input.
  Laid BY PROGRAM, IN A SANDBOX (cutbox-rows.mjs): the forced cells as the released guide's own fill.sh prints them over the translation e446648823000867… (all of the seat's roots in one cut). By AI agents, Wed Nov 11 2026. No macro, syntax, notation, axiom, sorry.
-/
import Derived.Test.YtdhajfimhjbbiaaChecked
import GoSem.Claim
import GoSem.ClaimJoined
import GoSem.ClaimMapViews
import Derived.JoinedTies
import Derived.KernelRfl
namespace Go.Proofs.Ytdhajfimhjbbiaa
/- THE CELL 'sum', in the pinned program and in every row, IS THE sha256 OF THE DUMP (.gsa) THAT YtdhajfimhjbbiaaProg.lean LOADS. Nothing in Lean hashes anything: it is a label: what it is worth is what the hold of that sum in a sandbox is worth. -/
noncomputable def Try.pinned : Pinned := { name := "ytdhajfimhjbbiaa", sum := "e44664882300086745dfa43f2fe37000448cb7d31031f87a3b529d5877cae43f", checked := Try.checked }
namespace Rows
def none {H : Type} : Left H := { results := [], args := [] }

/-- 'honeycomblaw3.PrioPeeks': WHATEVER THE INPUT: true; the input reads as it did. -/
def prioPeeksSpec : ChangeSpec := { name := "prioPeeks", fn := fun _ => fun
  | [d] => { results := [.lit (.bool true)], args := [d] }
  | _ => none }
def prioPeeksRow : OpenClaim := { program := "ytdhajfimhjbbiaa", sum := "e44664882300086745dfa43f2fe37000448cb7d31031f87a3b529d5877cae43f", func := "honeycomb/honeycomblaw3.PrioPeeks", spec := "prioPeeks", unfollowed := true, recurses := true, apart := false }
def PrioPeeksSaid : Prop := prioPeeksRow.holds Try.pinned (OpenSpec.ofChange prioPeeksSpec)

/-- ITS FALSE NEIGHBOUR: 'it returns false'. Refute it at one input. -/
def prioPeeksWrong : ChangeSpec := { name := "prioPeeks", fn := fun _ => fun
  | [d] => { results := [.lit (.bool false)], args := [d] }
  | _ => none }
def PrioPeeksWrongFalsely : Prop := prioPeeksRow.holds Try.pinned (OpenSpec.ofChange prioPeeksWrong)

/-- 'honeycomblaw3.PrioGreater': WHATEVER THE INPUT: true; the input reads as it did. -/
def prioGreaterSpec : ChangeSpec := { name := "prioGreater", fn := fun _ => fun
  | [d1, d2] => { results := [.lit (.bool true)], args := [d1, d2] }
  | _ => none }
def prioGreaterRow : OpenClaim := { program := "ytdhajfimhjbbiaa", sum := "e44664882300086745dfa43f2fe37000448cb7d31031f87a3b529d5877cae43f", func := "honeycomb/honeycomblaw3.PrioGreater", spec := "prioGreater", unfollowed := true, recurses := true, apart := false }
def PrioGreaterSaid : Prop := prioGreaterRow.holds Try.pinned (OpenSpec.ofChange prioGreaterSpec)

/-- ITS FALSE NEIGHBOUR: 'it returns false'. Refute it at one input. -/
def prioGreaterWrong : ChangeSpec := { name := "prioGreater", fn := fun _ => fun
  | [d1, d2] => { results := [.lit (.bool false)], args := [d1, d2] }
  | _ => none }
def PrioGreaterWrongFalsely : Prop := prioGreaterRow.holds Try.pinned (OpenSpec.ofChange prioGreaterWrong)

/-- 'honeycomblaw3.PrioFalls': WHATEVER THE INPUT: true; the input reads as it did. -/
def prioFallsSpec : ChangeSpec := { name := "prioFalls", fn := fun _ => fun
  | [d] => { results := [.lit (.bool true)], args := [d] }
  | _ => none }
def prioFallsRow : OpenClaim := { program := "ytdhajfimhjbbiaa", sum := "e44664882300086745dfa43f2fe37000448cb7d31031f87a3b529d5877cae43f", func := "honeycomb/honeycomblaw3.PrioFalls", spec := "prioFalls", unfollowed := true, recurses := true, apart := false }
def PrioFallsSaid : Prop := prioFallsRow.holds Try.pinned (OpenSpec.ofChange prioFallsSpec)

/-- ITS FALSE NEIGHBOUR: 'it returns false'. Refute it at one input. -/
def prioFallsWrong : ChangeSpec := { name := "prioFalls", fn := fun _ => fun
  | [d] => { results := [.lit (.bool false)], args := [d] }
  | _ => none }
def PrioFallsWrongFalsely : Prop := prioFallsRow.holds Try.pinned (OpenSpec.ofChange prioFallsWrong)

/-- 'honeycomblaw3.PrioTies': WHATEVER THE INPUT: true; the input reads as it did. -/
def prioTiesSpec : ChangeSpec := { name := "prioTies", fn := fun _ => fun
  | [d1, d2] => { results := [.lit (.bool true)], args := [d1, d2] }
  | _ => none }
def prioTiesRow : OpenClaim := { program := "ytdhajfimhjbbiaa", sum := "e44664882300086745dfa43f2fe37000448cb7d31031f87a3b529d5877cae43f", func := "honeycomb/honeycomblaw3.PrioTies", spec := "prioTies", unfollowed := true, recurses := true, apart := false }
def PrioTiesSaid : Prop := prioTiesRow.holds Try.pinned (OpenSpec.ofChange prioTiesSpec)

/-- ITS FALSE NEIGHBOUR: 'it returns false'. Refute it at one input. -/
def prioTiesWrong : ChangeSpec := { name := "prioTies", fn := fun _ => fun
  | [d1, d2] => { results := [.lit (.bool false)], args := [d1, d2] }
  | _ => none }
def PrioTiesWrongFalsely : Prop := prioTiesRow.holds Try.pinned (OpenSpec.ofChange prioTiesWrong)

/-- 'honeycomblaw3.PrioSorted': WHATEVER THE INPUT: true; the input reads as it did. -/
def prioSortedSpec : ChangeSpec := { name := "prioSorted", fn := fun _ => fun
  | [d1, d2] => { results := [.lit (.bool true)], args := [d1, d2] }
  | _ => none }
def prioSortedRow : OpenClaim := { program := "ytdhajfimhjbbiaa", sum := "e44664882300086745dfa43f2fe37000448cb7d31031f87a3b529d5877cae43f", func := "honeycomb/honeycomblaw3.PrioSorted", spec := "prioSorted", unfollowed := true, recurses := true, apart := false }
def PrioSortedSaid : Prop := prioSortedRow.holds Try.pinned (OpenSpec.ofChange prioSortedSpec)

/-- ITS FALSE NEIGHBOUR: 'it returns false'. Refute it at one input. -/
def prioSortedWrong : ChangeSpec := { name := "prioSorted", fn := fun _ => fun
  | [d1, d2] => { results := [.lit (.bool false)], args := [d1, d2] }
  | _ => none }
def PrioSortedWrongFalsely : Prop := prioSortedRow.holds Try.pinned (OpenSpec.ofChange prioSortedWrong)

/-- 'honeycomblaw3.PrioDrops': WHATEVER THE INPUT: true; the input reads as it did. -/
def prioDropsSpec : ChangeSpec := { name := "prioDrops", fn := fun _ => fun
  | [d1, d2] => { results := [.lit (.bool true)], args := [d1, d2] }
  | _ => none }
def prioDropsRow : OpenClaim := { program := "ytdhajfimhjbbiaa", sum := "e44664882300086745dfa43f2fe37000448cb7d31031f87a3b529d5877cae43f", func := "honeycomb/honeycomblaw3.PrioDrops", spec := "prioDrops", unfollowed := true, recurses := true, apart := false }
def PrioDropsSaid : Prop := prioDropsRow.holds Try.pinned (OpenSpec.ofChange prioDropsSpec)

/-- ITS FALSE NEIGHBOUR: 'it returns false'. Refute it at one input. -/
def prioDropsWrong : ChangeSpec := { name := "prioDrops", fn := fun _ => fun
  | [d1, d2] => { results := [.lit (.bool false)], args := [d1, d2] }
  | _ => none }
def PrioDropsWrongFalsely : Prop := prioDropsRow.holds Try.pinned (OpenSpec.ofChange prioDropsWrong)

/-- 'honeycomblaw3.PrioPlays': WHATEVER THE INPUT: true; the input reads as it did. -/
def prioPlaysSpec : ChangeSpec := { name := "prioPlays", fn := fun _ => fun
  | [d1, d2] => { results := [.lit (.bool true)], args := [d1, d2] }
  | _ => none }
def prioPlaysRow : OpenClaim := { program := "ytdhajfimhjbbiaa", sum := "e44664882300086745dfa43f2fe37000448cb7d31031f87a3b529d5877cae43f", func := "honeycomb/honeycomblaw3.PrioPlays", spec := "prioPlays", unfollowed := true, recurses := true, apart := false }
def PrioPlaysSaid : Prop := prioPlaysRow.holds Try.pinned (OpenSpec.ofChange prioPlaysSpec)

/-- ITS FALSE NEIGHBOUR: 'it returns false'. Refute it at one input. -/
def prioPlaysWrong : ChangeSpec := { name := "prioPlays", fn := fun _ => fun
  | [d1, d2] => { results := [.lit (.bool false)], args := [d1, d2] }
  | _ => none }
def PrioPlaysWrongFalsely : Prop := prioPlaysRow.holds Try.pinned (OpenSpec.ofChange prioPlaysWrong)

/- THE SECOND FORM. 'bulk': how many values and letters a reading holds, each counted each time it is reached (what is shared counts as often as it is met; a slice's spare places count too). A statement '..UptoSaid' is the law's where the arguments, and the package variables that the reading takes, are together of bulk at most 1048576: NARROWER than '..Said'. Prove '..Said' where nothing that the law and all that it calls make is longer than what came in: it says more and counts as full. Else prove '..UptoSaid'. A law counts once. -/
mutual
def uptoBulk {H : Type} : DataW H → Nat
  | .lit (.string bytes) => bytes.length + 1
  | .lit _ => 1
  | .nil => 1
  | .ptr d => uptoBulk d + 1
  | .slice elems spare => uptoBulkAll elems + uptoBulkAll spare + 1
  | .agg parts => uptoBulkAll parts + 1
  | .iface _ d => uptoBulk d + 1
  | .map entries => uptoBulkEntries entries + 1
  | .held _ => 1
def uptoBulkAll {H : Type} : List (DataW H) → Nat
  | [] => 0
  | d :: r => uptoBulk d + uptoBulkAll r
def uptoBulkEntries {H : Type} : List (Lit × DataW H) → Nat
  | [] => 0
  | x :: r => uptoBulkEntry x + uptoBulkEntries r
def uptoBulkEntry {H : Type} : Lit × DataW H → Nat
  | (.string bytes, d) => bytes.length + uptoBulk d + 1
  | (_, d) => uptoBulk d + 1
 end
def uptoSmall : (H : Type) → List (DataW H) → Bool := fun _ ds => decide (uptoBulkAll ds ≤ 1048576)
def OpenSpec.upto (s : _root_.Go.ChangeSpec) : _root_.Go.OpenSpec := { _root_.Go.OpenSpec.ofChange s with cond := some uptoSmall }

/-- 'honeycomblaw3.PrioPeeks', WHERE WHAT IT READS IS OF BULK AT MOST 1048576: true; the input reads as it did. -/
def prioPeeksUptoRow : OpenClaim := { program := "ytdhajfimhjbbiaa", sum := "e44664882300086745dfa43f2fe37000448cb7d31031f87a3b529d5877cae43f", func := "honeycomb/honeycomblaw3.PrioPeeks", spec := "prioPeeks", unfollowed := true, recurses := true, apart := false, narrowed := true }
def PrioPeeksUptoSaid : Prop := prioPeeksUptoRow.holds Try.pinned (OpenSpec.upto prioPeeksSpec)

/-- 'honeycomblaw3.PrioGreater', WHERE WHAT IT READS IS OF BULK AT MOST 1048576: true; the input reads as it did. -/
def prioGreaterUptoRow : OpenClaim := { program := "ytdhajfimhjbbiaa", sum := "e44664882300086745dfa43f2fe37000448cb7d31031f87a3b529d5877cae43f", func := "honeycomb/honeycomblaw3.PrioGreater", spec := "prioGreater", unfollowed := true, recurses := true, apart := false, narrowed := true }
def PrioGreaterUptoSaid : Prop := prioGreaterUptoRow.holds Try.pinned (OpenSpec.upto prioGreaterSpec)

/-- 'honeycomblaw3.PrioFalls', WHERE WHAT IT READS IS OF BULK AT MOST 1048576: true; the input reads as it did. -/
def prioFallsUptoRow : OpenClaim := { program := "ytdhajfimhjbbiaa", sum := "e44664882300086745dfa43f2fe37000448cb7d31031f87a3b529d5877cae43f", func := "honeycomb/honeycomblaw3.PrioFalls", spec := "prioFalls", unfollowed := true, recurses := true, apart := false, narrowed := true }
def PrioFallsUptoSaid : Prop := prioFallsUptoRow.holds Try.pinned (OpenSpec.upto prioFallsSpec)

/-- 'honeycomblaw3.PrioTies', WHERE WHAT IT READS IS OF BULK AT MOST 1048576: true; the input reads as it did. -/
def prioTiesUptoRow : OpenClaim := { program := "ytdhajfimhjbbiaa", sum := "e44664882300086745dfa43f2fe37000448cb7d31031f87a3b529d5877cae43f", func := "honeycomb/honeycomblaw3.PrioTies", spec := "prioTies", unfollowed := true, recurses := true, apart := false, narrowed := true }
def PrioTiesUptoSaid : Prop := prioTiesUptoRow.holds Try.pinned (OpenSpec.upto prioTiesSpec)

/-- 'honeycomblaw3.PrioSorted', WHERE WHAT IT READS IS OF BULK AT MOST 1048576: true; the input reads as it did. -/
def prioSortedUptoRow : OpenClaim := { program := "ytdhajfimhjbbiaa", sum := "e44664882300086745dfa43f2fe37000448cb7d31031f87a3b529d5877cae43f", func := "honeycomb/honeycomblaw3.PrioSorted", spec := "prioSorted", unfollowed := true, recurses := true, apart := false, narrowed := true }
def PrioSortedUptoSaid : Prop := prioSortedUptoRow.holds Try.pinned (OpenSpec.upto prioSortedSpec)

/-- 'honeycomblaw3.PrioDrops', WHERE WHAT IT READS IS OF BULK AT MOST 1048576: true; the input reads as it did. -/
def prioDropsUptoRow : OpenClaim := { program := "ytdhajfimhjbbiaa", sum := "e44664882300086745dfa43f2fe37000448cb7d31031f87a3b529d5877cae43f", func := "honeycomb/honeycomblaw3.PrioDrops", spec := "prioDrops", unfollowed := true, recurses := true, apart := false, narrowed := true }
def PrioDropsUptoSaid : Prop := prioDropsUptoRow.holds Try.pinned (OpenSpec.upto prioDropsSpec)

/-- 'honeycomblaw3.PrioPlays', WHERE WHAT IT READS IS OF BULK AT MOST 1048576: true; the input reads as it did. -/
def prioPlaysUptoRow : OpenClaim := { program := "ytdhajfimhjbbiaa", sum := "e44664882300086745dfa43f2fe37000448cb7d31031f87a3b529d5877cae43f", func := "honeycomb/honeycomblaw3.PrioPlays", spec := "prioPlays", unfollowed := true, recurses := true, apart := false, narrowed := true }
def PrioPlaysUptoSaid : Prop := prioPlaysUptoRow.holds Try.pinned (OpenSpec.upto prioPlaysSpec)

end Rows
end Go.Proofs.Ytdhajfimhjbbiaa
