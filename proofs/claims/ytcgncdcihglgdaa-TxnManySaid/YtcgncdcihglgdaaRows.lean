/-
  No cell of these rows narrows 'for every input' (looked for: loops, veiled, ifaces, maps, wideKeys, modest, calm, conditions, laid).
  DERIVED. THE GIVEN ROWS OF THIS SEAT. 4 by the template 'for every input the law returns true; each argument reads behind the call as it read before'; 0 by the template 'total and deterministic' (their statements: YtcgncdcihglgdaaTotals.lean).
  GIVEN WITH THE SEED: the statements are not yours to turn. If you find one false, say at which input.
  Laid BY PROGRAM, IN A SANDBOX (cutbox-rows.mjs): the forced cells as the released guide's own fill.sh prints them over the translation e8416b40b3002bcc… (all of the seat's roots in one cut). By AI agents, Wed Nov 11 2026. No macro, syntax, notation, axiom, sorry.
-/
import Derived.Test.YtcgncdcihglgdaaChecked
import GoSem.Claim
import GoSem.ClaimJoined
import GoSem.ClaimMapViews
import Derived.JoinedTies
import Derived.KernelRfl
namespace Go.Proofs.Ytcgncdcihglgdaa
/- THE CELL 'sum', in the pinned program and in every row, IS THE sha256 OF THE DUMP (.gsa) THAT YtcgncdcihglgdaaProg.lean LOADS. Nothing in Lean hashes anything: it is a label: what it is worth is what the hold of that sum in a sandbox is worth. -/
noncomputable def Try.pinned : Pinned := { name := "ytcgncdcihglgdaa", sum := "e8416b40b3002bcc8278ea3b3c5e65f3a0db6c1508b95ef6a472486294f7e1b1", checked := Try.checked }
namespace Rows
def none {H : Type} : Left H := { results := [], args := [] }

/-- 'honeycomblaw20.TxnSaves': WHATEVER THE INPUT: true; the input reads as it did. -/
def txnSavesSpec : ChangeSpec := { name := "txnSaves", fn := fun _ => fun
  | [d1, d2] => { results := [.lit (.bool true)], args := [d1, d2] }
  | _ => none }
def txnSavesRow : OpenClaim := { program := "ytcgncdcihglgdaa", sum := "e8416b40b3002bcc8278ea3b3c5e65f3a0db6c1508b95ef6a472486294f7e1b1", func := "honeycomb/honeycomblaw20.TxnSaves", spec := "txnSaves", apart := false }
def TxnSavesSaid : Prop := txnSavesRow.holds Try.pinned (OpenSpec.ofChange txnSavesSpec)

/-- ITS FALSE NEIGHBOUR: 'it returns false'. Refute it at one input. -/
def txnSavesWrong : ChangeSpec := { name := "txnSaves", fn := fun _ => fun
  | [d1, d2] => { results := [.lit (.bool false)], args := [d1, d2] }
  | _ => none }
def TxnSavesWrongFalsely : Prop := txnSavesRow.holds Try.pinned (OpenSpec.ofChange txnSavesWrong)

/-- 'honeycomblaw20.TxnUndone': WHATEVER THE INPUT: true; the input reads as it did. -/
def txnUndoneSpec : ChangeSpec := { name := "txnUndone", fn := fun _ => fun
  | [d1, d2] => { results := [.lit (.bool true)], args := [d1, d2] }
  | _ => none }
def txnUndoneRow : OpenClaim := { program := "ytcgncdcihglgdaa", sum := "e8416b40b3002bcc8278ea3b3c5e65f3a0db6c1508b95ef6a472486294f7e1b1", func := "honeycomb/honeycomblaw20.TxnUndone", spec := "txnUndone", apart := false }
def TxnUndoneSaid : Prop := txnUndoneRow.holds Try.pinned (OpenSpec.ofChange txnUndoneSpec)

/-- ITS FALSE NEIGHBOUR: 'it returns false'. Refute it at one input. -/
def txnUndoneWrong : ChangeSpec := { name := "txnUndone", fn := fun _ => fun
  | [d1, d2] => { results := [.lit (.bool false)], args := [d1, d2] }
  | _ => none }
def TxnUndoneWrongFalsely : Prop := txnUndoneRow.holds Try.pinned (OpenSpec.ofChange txnUndoneWrong)

/-- 'honeycomblaw20.TxnOthers': WHATEVER THE INPUT: true; the input reads as it did. -/
def txnOthersSpec : ChangeSpec := { name := "txnOthers", fn := fun _ => fun
  | [d] => { results := [.lit (.bool true)], args := [d] }
  | _ => none }
def txnOthersRow : OpenClaim := { program := "ytcgncdcihglgdaa", sum := "e8416b40b3002bcc8278ea3b3c5e65f3a0db6c1508b95ef6a472486294f7e1b1", func := "honeycomb/honeycomblaw20.TxnOthers", spec := "txnOthers", apart := false }
def TxnOthersSaid : Prop := txnOthersRow.holds Try.pinned (OpenSpec.ofChange txnOthersSpec)

/-- ITS FALSE NEIGHBOUR: 'it returns false'. Refute it at one input. -/
def txnOthersWrong : ChangeSpec := { name := "txnOthers", fn := fun _ => fun
  | [d] => { results := [.lit (.bool false)], args := [d] }
  | _ => none }
def TxnOthersWrongFalsely : Prop := txnOthersRow.holds Try.pinned (OpenSpec.ofChange txnOthersWrong)

/-- 'honeycomblaw20.TxnMany': WHATEVER THE INPUT: true; the input reads as it did. -/
def txnManySpec : ChangeSpec := { name := "txnMany", fn := fun _ => fun
  | [d] => { results := [.lit (.bool true)], args := [d] }
  | _ => none }
def txnManyRow : OpenClaim := { program := "ytcgncdcihglgdaa", sum := "e8416b40b3002bcc8278ea3b3c5e65f3a0db6c1508b95ef6a472486294f7e1b1", func := "honeycomb/honeycomblaw20.TxnMany", spec := "txnMany", unfollowed := true, recurses := true, apart := false }
def TxnManySaid : Prop := txnManyRow.holds Try.pinned (OpenSpec.ofChange txnManySpec)

/-- ITS FALSE NEIGHBOUR: 'it returns false'. Refute it at one input. -/
def txnManyWrong : ChangeSpec := { name := "txnMany", fn := fun _ => fun
  | [d] => { results := [.lit (.bool false)], args := [d] }
  | _ => none }
def TxnManyWrongFalsely : Prop := txnManyRow.holds Try.pinned (OpenSpec.ofChange txnManyWrong)

/- THE SECOND FORM. 'bulk': how many values and letters a reading holds, each counted each time it is reached (what is shared counts as often as it is met; a slice's spare places count too). A statement '..UptoSaid' is the law's where the arguments, and the package variables that the reading takes, are together of bulk at most 1048576: NARROWER than '..Said'. Prove '..Said' where nothing that the law and all that it calls make is longer than what came in: it says more and counts as full. Else prove '..UptoSaid'. A law counts once. -/
mutual
def uptoBulk {H : Type} : DataW H → Nat
  | .lit (.string bytes) => bytes.length + 1
  | .lit _ => 1
  | .nil => 1
  | .ptr d => uptoBulk d + 1
  | .slice elems spare => uptoBulkAll elems + uptoBulkAll spare + 1
  | .agg parts => uptoBulkAll parts + 1
  | .iface _ d => uptoBulk d + 1
  | .map entries => uptoBulkEntries entries + 1
  | .held _ => 1
def uptoBulkAll {H : Type} : List (DataW H) → Nat
  | [] => 0
  | d :: r => uptoBulk d + uptoBulkAll r
def uptoBulkEntries {H : Type} : List (Lit × DataW H) → Nat
  | [] => 0
  | x :: r => uptoBulkEntry x + uptoBulkEntries r
def uptoBulkEntry {H : Type} : Lit × DataW H → Nat
  | (.string bytes, d) => bytes.length + uptoBulk d + 1
  | (_, d) => uptoBulk d + 1
 end
def uptoSmall : (H : Type) → List (DataW H) → Bool := fun _ ds => decide (uptoBulkAll ds ≤ 1048576)
def OpenSpec.upto (s : _root_.Go.ChangeSpec) : _root_.Go.OpenSpec := { _root_.Go.OpenSpec.ofChange s with cond := some uptoSmall }

/-- 'honeycomblaw20.TxnSaves', WHERE WHAT IT READS IS OF BULK AT MOST 1048576: true; the input reads as it did. -/
def txnSavesUptoRow : OpenClaim := { program := "ytcgncdcihglgdaa", sum := "e8416b40b3002bcc8278ea3b3c5e65f3a0db6c1508b95ef6a472486294f7e1b1", func := "honeycomb/honeycomblaw20.TxnSaves", spec := "txnSaves", apart := false, narrowed := true }
def TxnSavesUptoSaid : Prop := txnSavesUptoRow.holds Try.pinned (OpenSpec.upto txnSavesSpec)

/-- 'honeycomblaw20.TxnUndone', WHERE WHAT IT READS IS OF BULK AT MOST 1048576: true; the input reads as it did. -/
def txnUndoneUptoRow : OpenClaim := { program := "ytcgncdcihglgdaa", sum := "e8416b40b3002bcc8278ea3b3c5e65f3a0db6c1508b95ef6a472486294f7e1b1", func := "honeycomb/honeycomblaw20.TxnUndone", spec := "txnUndone", apart := false, narrowed := true }
def TxnUndoneUptoSaid : Prop := txnUndoneUptoRow.holds Try.pinned (OpenSpec.upto txnUndoneSpec)

/-- 'honeycomblaw20.TxnOthers', WHERE WHAT IT READS IS OF BULK AT MOST 1048576: true; the input reads as it did. -/
def txnOthersUptoRow : OpenClaim := { program := "ytcgncdcihglgdaa", sum := "e8416b40b3002bcc8278ea3b3c5e65f3a0db6c1508b95ef6a472486294f7e1b1", func := "honeycomb/honeycomblaw20.TxnOthers", spec := "txnOthers", apart := false, narrowed := true }
def TxnOthersUptoSaid : Prop := txnOthersUptoRow.holds Try.pinned (OpenSpec.upto txnOthersSpec)

/-- 'honeycomblaw20.TxnMany', WHERE WHAT IT READS IS OF BULK AT MOST 1048576: true; the input reads as it did. -/
def txnManyUptoRow : OpenClaim := { program := "ytcgncdcihglgdaa", sum := "e8416b40b3002bcc8278ea3b3c5e65f3a0db6c1508b95ef6a472486294f7e1b1", func := "honeycomb/honeycomblaw20.TxnMany", spec := "txnMany", unfollowed := true, recurses := true, apart := false, narrowed := true }
def TxnManyUptoSaid : Prop := txnManyUptoRow.holds Try.pinned (OpenSpec.upto txnManySpec)

end Rows
end Go.Proofs.Ytcgncdcihglgdaa
