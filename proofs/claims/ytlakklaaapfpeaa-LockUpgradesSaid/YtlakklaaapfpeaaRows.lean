/-
  No cell of these rows narrows 'for every input' (looked for: loops, veiled, ifaces, maps, wideKeys, modest, calm, conditions, laid).
  DERIVED. THE GIVEN ROWS OF THIS SEAT. 9 by the template 'for every input the law returns true; each argument reads behind the call as it read before'; 0 by the template 'total and deterministic' (their statements: YtlakklaaapfpeaaTotals.lean).
  GIVEN WITH THE SEED: the statements are not yours to turn. If you find one false, say at which input.
  Laid BY PROGRAM, IN A SANDBOX (cutbox-rows.mjs): the forced cells as the released guide's own fill.sh prints them over the translation 8aaf0d84702c5929… (all of the seat's roots in one cut). By AI agents, Wed Nov 11 2026. No macro, syntax, notation, axiom, sorry.
-/
import Derived.Test.YtlakklaaapfpeaaChecked
import GoSem.Claim
import GoSem.ClaimJoined
import GoSem.ClaimMapViews
import Derived.JoinedTies
import Derived.KernelRfl
namespace Go.Proofs.Ytlakklaaapfpeaa
/- THE CELL 'sum', in the pinned program and in every row, IS THE sha256 OF THE DUMP (.gsa) THAT YtlakklaaapfpeaaProg.lean LOADS. Nothing in Lean hashes anything: it is a label: what it is worth is what the hold of that sum in a sandbox is worth. -/
noncomputable def Try.pinned : Pinned := { name := "ytlakklaaapfpeaa", sum := "8aaf0d84702c59297b06c7a2adfdad8a1973e4bcf3f175709988822d1987646f", checked := Try.checked }
namespace Rows
def none {H : Type} : Left H := { results := [], args := [] }

/-- 'honeycomblaw16.LockAlone': WHATEVER THE INPUT: true; the input reads as it did. -/
def lockAloneSpec : ChangeSpec := { name := "lockAlone", fn := fun _ => fun
  | [d] => { results := [.lit (.bool true)], args := [d] }
  | _ => none }
def lockAloneRow : OpenClaim := { program := "ytlakklaaapfpeaa", sum := "8aaf0d84702c59297b06c7a2adfdad8a1973e4bcf3f175709988822d1987646f", func := "honeycomb/honeycomblaw16.LockAlone", spec := "lockAlone", inPlace := ["slices.overlaps[honeycomb/lock.want]"], unfollowed := true, recurses := true, apart := false }
def LockAloneSaid : Prop := lockAloneRow.holds Try.pinned (OpenSpec.ofChange lockAloneSpec)

/-- ITS FALSE NEIGHBOUR: 'it returns false'. Refute it at one input. -/
def lockAloneWrong : ChangeSpec := { name := "lockAlone", fn := fun _ => fun
  | [d] => { results := [.lit (.bool false)], args := [d] }
  | _ => none }
def LockAloneWrongFalsely : Prop := lockAloneRow.holds Try.pinned (OpenSpec.ofChange lockAloneWrong)

/-- 'honeycomblaw16.LockShared': WHATEVER THE INPUT: true; the input reads as it did. -/
def lockSharedSpec : ChangeSpec := { name := "lockShared", fn := fun _ => fun
  | [d1, d2] => { results := [.lit (.bool true)], args := [d1, d2] }
  | _ => none }
def lockSharedRow : OpenClaim := { program := "ytlakklaaapfpeaa", sum := "8aaf0d84702c59297b06c7a2adfdad8a1973e4bcf3f175709988822d1987646f", func := "honeycomb/honeycomblaw16.LockShared", spec := "lockShared", inPlace := ["slices.overlaps[honeycomb/lock.want]"], unfollowed := true, recurses := true, apart := false }
def LockSharedSaid : Prop := lockSharedRow.holds Try.pinned (OpenSpec.ofChange lockSharedSpec)

/-- ITS FALSE NEIGHBOUR: 'it returns false'. Refute it at one input. -/
def lockSharedWrong : ChangeSpec := { name := "lockShared", fn := fun _ => fun
  | [d1, d2] => { results := [.lit (.bool false)], args := [d1, d2] }
  | _ => none }
def LockSharedWrongFalsely : Prop := lockSharedRow.holds Try.pinned (OpenSpec.ofChange lockSharedWrong)

/-- 'honeycomblaw16.LockFifo': WHATEVER THE INPUT: true; the input reads as it did. -/
def lockFifoSpec : ChangeSpec := { name := "lockFifo", fn := fun _ => fun
  | [d1, d2] => { results := [.lit (.bool true)], args := [d1, d2] }
  | _ => none }
def lockFifoRow : OpenClaim := { program := "ytlakklaaapfpeaa", sum := "8aaf0d84702c59297b06c7a2adfdad8a1973e4bcf3f175709988822d1987646f", func := "honeycomb/honeycomblaw16.LockFifo", spec := "lockFifo", inPlace := ["slices.overlaps[honeycomb/lock.want]"], unfollowed := true, recurses := true, apart := false }
def LockFifoSaid : Prop := lockFifoRow.holds Try.pinned (OpenSpec.ofChange lockFifoSpec)

/-- ITS FALSE NEIGHBOUR: 'it returns false'. Refute it at one input. -/
def lockFifoWrong : ChangeSpec := { name := "lockFifo", fn := fun _ => fun
  | [d1, d2] => { results := [.lit (.bool false)], args := [d1, d2] }
  | _ => none }
def LockFifoWrongFalsely : Prop := lockFifoRow.holds Try.pinned (OpenSpec.ofChange lockFifoWrong)

/-- 'honeycomblaw16.LockUpgrades': WHATEVER THE INPUT: true; the input reads as it did. -/
def lockUpgradesSpec : ChangeSpec := { name := "lockUpgrades", fn := fun _ => fun
  | [d] => { results := [.lit (.bool true)], args := [d] }
  | _ => none }
def lockUpgradesRow : OpenClaim := { program := "ytlakklaaapfpeaa", sum := "8aaf0d84702c59297b06c7a2adfdad8a1973e4bcf3f175709988822d1987646f", func := "honeycomb/honeycomblaw16.LockUpgrades", spec := "lockUpgrades", inPlace := ["slices.overlaps[honeycomb/lock.want]"], unfollowed := true, recurses := true, apart := false }
def LockUpgradesSaid : Prop := lockUpgradesRow.holds Try.pinned (OpenSpec.ofChange lockUpgradesSpec)

/-- ITS FALSE NEIGHBOUR: 'it returns false'. Refute it at one input. -/
def lockUpgradesWrong : ChangeSpec := { name := "lockUpgrades", fn := fun _ => fun
  | [d] => { results := [.lit (.bool false)], args := [d] }
  | _ => none }
def LockUpgradesWrongFalsely : Prop := lockUpgradesRow.holds Try.pinned (OpenSpec.ofChange lockUpgradesWrong)

/-- 'honeycomblaw16.LockTold': WHATEVER THE INPUT: true; the input reads as it did. -/
def lockToldSpec : ChangeSpec := { name := "lockTold", fn := fun _ => fun
  | [d] => { results := [.lit (.bool true)], args := [d] }
  | _ => none }
def lockToldRow : OpenClaim := { program := "ytlakklaaapfpeaa", sum := "8aaf0d84702c59297b06c7a2adfdad8a1973e4bcf3f175709988822d1987646f", func := "honeycomb/honeycomblaw16.LockTold", spec := "lockTold", inPlace := ["slices.overlaps[honeycomb/lock.want]"], unfollowed := true, recurses := true, apart := false }
def LockToldSaid : Prop := lockToldRow.holds Try.pinned (OpenSpec.ofChange lockToldSpec)

/-- ITS FALSE NEIGHBOUR: 'it returns false'. Refute it at one input. -/
def lockToldWrong : ChangeSpec := { name := "lockTold", fn := fun _ => fun
  | [d] => { results := [.lit (.bool false)], args := [d] }
  | _ => none }
def LockToldWrongFalsely : Prop := lockToldRow.holds Try.pinned (OpenSpec.ofChange lockToldWrong)

/-- 'honeycomblaw16.LockKeys': WHATEVER THE INPUT: true; the input reads as it did. -/
def lockKeysSpec : ChangeSpec := { name := "lockKeys", fn := fun _ => fun
  | [d1, d2] => { results := [.lit (.bool true)], args := [d1, d2] }
  | _ => none }
def lockKeysRow : OpenClaim := { program := "ytlakklaaapfpeaa", sum := "8aaf0d84702c59297b06c7a2adfdad8a1973e4bcf3f175709988822d1987646f", func := "honeycomb/honeycomblaw16.LockKeys", spec := "lockKeys", inPlace := ["slices.overlaps[honeycomb/lock.want]"], unfollowed := true, recurses := true, apart := false }
def LockKeysSaid : Prop := lockKeysRow.holds Try.pinned (OpenSpec.ofChange lockKeysSpec)

/-- ITS FALSE NEIGHBOUR: 'it returns false'. Refute it at one input. -/
def lockKeysWrong : ChangeSpec := { name := "lockKeys", fn := fun _ => fun
  | [d1, d2] => { results := [.lit (.bool false)], args := [d1, d2] }
  | _ => none }
def LockKeysWrongFalsely : Prop := lockKeysRow.holds Try.pinned (OpenSpec.ofChange lockKeysWrong)

/-- 'honeycomblaw16.LockAgain': WHATEVER THE INPUT: true; the input reads as it did. -/
def lockAgainSpec : ChangeSpec := { name := "lockAgain", fn := fun _ => fun
  | [d1, d2] => { results := [.lit (.bool true)], args := [d1, d2] }
  | _ => none }
def lockAgainRow : OpenClaim := { program := "ytlakklaaapfpeaa", sum := "8aaf0d84702c59297b06c7a2adfdad8a1973e4bcf3f175709988822d1987646f", func := "honeycomb/honeycomblaw16.LockAgain", spec := "lockAgain", inPlace := ["slices.overlaps[honeycomb/lock.want]"], unfollowed := true, recurses := true, apart := false }
def LockAgainSaid : Prop := lockAgainRow.holds Try.pinned (OpenSpec.ofChange lockAgainSpec)

/-- ITS FALSE NEIGHBOUR: 'it returns false'. Refute it at one input. -/
def lockAgainWrong : ChangeSpec := { name := "lockAgain", fn := fun _ => fun
  | [d1, d2] => { results := [.lit (.bool false)], args := [d1, d2] }
  | _ => none }
def LockAgainWrongFalsely : Prop := lockAgainRow.holds Try.pinned (OpenSpec.ofChange lockAgainWrong)

/-- 'honeycomblaw16.LockModes': WHATEVER THE INPUT: true; the input reads as it did. -/
def lockModesSpec : ChangeSpec := { name := "lockModes", fn := fun _ => fun
  | [d1, d2] => { results := [.lit (.bool true)], args := [d1, d2] }
  | _ => none }
def lockModesRow : OpenClaim := { program := "ytlakklaaapfpeaa", sum := "8aaf0d84702c59297b06c7a2adfdad8a1973e4bcf3f175709988822d1987646f", func := "honeycomb/honeycomblaw16.LockModes", spec := "lockModes", inPlace := ["slices.overlaps[honeycomb/lock.want]"], unfollowed := true, recurses := true, apart := false }
def LockModesSaid : Prop := lockModesRow.holds Try.pinned (OpenSpec.ofChange lockModesSpec)

/-- ITS FALSE NEIGHBOUR: 'it returns false'. Refute it at one input. -/
def lockModesWrong : ChangeSpec := { name := "lockModes", fn := fun _ => fun
  | [d1, d2] => { results := [.lit (.bool false)], args := [d1, d2] }
  | _ => none }
def LockModesWrongFalsely : Prop := lockModesRow.holds Try.pinned (OpenSpec.ofChange lockModesWrong)

/-- 'honeycomblaw16.LockStops': WHATEVER THE INPUT: true; the input reads as it did. -/
def lockStopsSpec : ChangeSpec := { name := "lockStops", fn := fun _ => fun
  | [d1, d2, d3] => { results := [.lit (.bool true)], args := [d1, d2, d3] }
  | _ => none }
def lockStopsRow : OpenClaim := { program := "ytlakklaaapfpeaa", sum := "8aaf0d84702c59297b06c7a2adfdad8a1973e4bcf3f175709988822d1987646f", func := "honeycomb/honeycomblaw16.LockStops", spec := "lockStops", inPlace := ["slices.overlaps[honeycomb/lock.want]"], unfollowed := true, recurses := true, apart := false }
def LockStopsSaid : Prop := lockStopsRow.holds Try.pinned (OpenSpec.ofChange lockStopsSpec)

/-- ITS FALSE NEIGHBOUR: 'it returns false'. Refute it at one input. -/
def lockStopsWrong : ChangeSpec := { name := "lockStops", fn := fun _ => fun
  | [d1, d2, d3] => { results := [.lit (.bool false)], args := [d1, d2, d3] }
  | _ => none }
def LockStopsWrongFalsely : Prop := lockStopsRow.holds Try.pinned (OpenSpec.ofChange lockStopsWrong)

/- THE SECOND FORM. 'bulk': how many values and letters a reading holds, each counted each time it is reached (what is shared counts as often as it is met; a slice's spare places count too). A statement '..UptoSaid' is the law's where the arguments, and the package variables that the reading takes, are together of bulk at most 1048576: NARROWER than '..Said'. Prove '..Said' where nothing that the law and all that it calls make is longer than what came in: it says more and counts as full. Else prove '..UptoSaid'. A law counts once. -/
mutual
def uptoBulk {H : Type} : DataW H → Nat
  | .lit (.string bytes) => bytes.length + 1
  | .lit _ => 1
  | .nil => 1
  | .ptr d => uptoBulk d + 1
  | .slice elems spare => uptoBulkAll elems + uptoBulkAll spare + 1
  | .agg parts => uptoBulkAll parts + 1
  | .iface _ d => uptoBulk d + 1
  | .map entries => uptoBulkEntries entries + 1
  | .held _ => 1
def uptoBulkAll {H : Type} : List (DataW H) → Nat
  | [] => 0
  | d :: r => uptoBulk d + uptoBulkAll r
def uptoBulkEntries {H : Type} : List (Lit × DataW H) → Nat
  | [] => 0
  | x :: r => uptoBulkEntry x + uptoBulkEntries r
def uptoBulkEntry {H : Type} : Lit × DataW H → Nat
  | (.string bytes, d) => bytes.length + uptoBulk d + 1
  | (_, d) => uptoBulk d + 1
 end
def uptoSmall : (H : Type) → List (DataW H) → Bool := fun _ ds => decide (uptoBulkAll ds ≤ 1048576)
def OpenSpec.upto (s : _root_.Go.ChangeSpec) : _root_.Go.OpenSpec := { _root_.Go.OpenSpec.ofChange s with cond := some uptoSmall }

/-- 'honeycomblaw16.LockAlone', WHERE WHAT IT READS IS OF BULK AT MOST 1048576: true; the input reads as it did. -/
def lockAloneUptoRow : OpenClaim := { program := "ytlakklaaapfpeaa", sum := "8aaf0d84702c59297b06c7a2adfdad8a1973e4bcf3f175709988822d1987646f", func := "honeycomb/honeycomblaw16.LockAlone", spec := "lockAlone", inPlace := ["slices.overlaps[honeycomb/lock.want]"], unfollowed := true, recurses := true, apart := false, narrowed := true }
def LockAloneUptoSaid : Prop := lockAloneUptoRow.holds Try.pinned (OpenSpec.upto lockAloneSpec)

/-- 'honeycomblaw16.LockShared', WHERE WHAT IT READS IS OF BULK AT MOST 1048576: true; the input reads as it did. -/
def lockSharedUptoRow : OpenClaim := { program := "ytlakklaaapfpeaa", sum := "8aaf0d84702c59297b06c7a2adfdad8a1973e4bcf3f175709988822d1987646f", func := "honeycomb/honeycomblaw16.LockShared", spec := "lockShared", inPlace := ["slices.overlaps[honeycomb/lock.want]"], unfollowed := true, recurses := true, apart := false, narrowed := true }
def LockSharedUptoSaid : Prop := lockSharedUptoRow.holds Try.pinned (OpenSpec.upto lockSharedSpec)

/-- 'honeycomblaw16.LockFifo', WHERE WHAT IT READS IS OF BULK AT MOST 1048576: true; the input reads as it did. -/
def lockFifoUptoRow : OpenClaim := { program := "ytlakklaaapfpeaa", sum := "8aaf0d84702c59297b06c7a2adfdad8a1973e4bcf3f175709988822d1987646f", func := "honeycomb/honeycomblaw16.LockFifo", spec := "lockFifo", inPlace := ["slices.overlaps[honeycomb/lock.want]"], unfollowed := true, recurses := true, apart := false, narrowed := true }
def LockFifoUptoSaid : Prop := lockFifoUptoRow.holds Try.pinned (OpenSpec.upto lockFifoSpec)

/-- 'honeycomblaw16.LockUpgrades', WHERE WHAT IT READS IS OF BULK AT MOST 1048576: true; the input reads as it did. -/
def lockUpgradesUptoRow : OpenClaim := { program := "ytlakklaaapfpeaa", sum := "8aaf0d84702c59297b06c7a2adfdad8a1973e4bcf3f175709988822d1987646f", func := "honeycomb/honeycomblaw16.LockUpgrades", spec := "lockUpgrades", inPlace := ["slices.overlaps[honeycomb/lock.want]"], unfollowed := true, recurses := true, apart := false, narrowed := true }
def LockUpgradesUptoSaid : Prop := lockUpgradesUptoRow.holds Try.pinned (OpenSpec.upto lockUpgradesSpec)

/-- 'honeycomblaw16.LockTold', WHERE WHAT IT READS IS OF BULK AT MOST 1048576: true; the input reads as it did. -/
def lockToldUptoRow : OpenClaim := { program := "ytlakklaaapfpeaa", sum := "8aaf0d84702c59297b06c7a2adfdad8a1973e4bcf3f175709988822d1987646f", func := "honeycomb/honeycomblaw16.LockTold", spec := "lockTold", inPlace := ["slices.overlaps[honeycomb/lock.want]"], unfollowed := true, recurses := true, apart := false, narrowed := true }
def LockToldUptoSaid : Prop := lockToldUptoRow.holds Try.pinned (OpenSpec.upto lockToldSpec)

/-- 'honeycomblaw16.LockKeys', WHERE WHAT IT READS IS OF BULK AT MOST 1048576: true; the input reads as it did. -/
def lockKeysUptoRow : OpenClaim := { program := "ytlakklaaapfpeaa", sum := "8aaf0d84702c59297b06c7a2adfdad8a1973e4bcf3f175709988822d1987646f", func := "honeycomb/honeycomblaw16.LockKeys", spec := "lockKeys", inPlace := ["slices.overlaps[honeycomb/lock.want]"], unfollowed := true, recurses := true, apart := false, narrowed := true }
def LockKeysUptoSaid : Prop := lockKeysUptoRow.holds Try.pinned (OpenSpec.upto lockKeysSpec)

/-- 'honeycomblaw16.LockAgain', WHERE WHAT IT READS IS OF BULK AT MOST 1048576: true; the input reads as it did. -/
def lockAgainUptoRow : OpenClaim := { program := "ytlakklaaapfpeaa", sum := "8aaf0d84702c59297b06c7a2adfdad8a1973e4bcf3f175709988822d1987646f", func := "honeycomb/honeycomblaw16.LockAgain", spec := "lockAgain", inPlace := ["slices.overlaps[honeycomb/lock.want]"], unfollowed := true, recurses := true, apart := false, narrowed := true }
def LockAgainUptoSaid : Prop := lockAgainUptoRow.holds Try.pinned (OpenSpec.upto lockAgainSpec)

/-- 'honeycomblaw16.LockModes', WHERE WHAT IT READS IS OF BULK AT MOST 1048576: true; the input reads as it did. -/
def lockModesUptoRow : OpenClaim := { program := "ytlakklaaapfpeaa", sum := "8aaf0d84702c59297b06c7a2adfdad8a1973e4bcf3f175709988822d1987646f", func := "honeycomb/honeycomblaw16.LockModes", spec := "lockModes", inPlace := ["slices.overlaps[honeycomb/lock.want]"], unfollowed := true, recurses := true, apart := false, narrowed := true }
def LockModesUptoSaid : Prop := lockModesUptoRow.holds Try.pinned (OpenSpec.upto lockModesSpec)

/-- 'honeycomblaw16.LockStops', WHERE WHAT IT READS IS OF BULK AT MOST 1048576: true; the input reads as it did. -/
def lockStopsUptoRow : OpenClaim := { program := "ytlakklaaapfpeaa", sum := "8aaf0d84702c59297b06c7a2adfdad8a1973e4bcf3f175709988822d1987646f", func := "honeycomb/honeycomblaw16.LockStops", spec := "lockStops", inPlace := ["slices.overlaps[honeycomb/lock.want]"], unfollowed := true, recurses := true, apart := false, narrowed := true }
def LockStopsUptoSaid : Prop := lockStopsUptoRow.holds Try.pinned (OpenSpec.upto lockStopsSpec)

end Rows
end Go.Proofs.Ytlakklaaapfpeaa
