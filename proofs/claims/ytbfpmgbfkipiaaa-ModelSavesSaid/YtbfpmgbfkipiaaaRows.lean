/-
  No cell of these rows narrows 'for every input' (looked for: loops, veiled, ifaces, maps, wideKeys, modest, calm, conditions, laid).
  DERIVED. THE GIVEN ROWS OF THIS SEAT. 5 by the template 'for every input the law returns true; each argument reads behind the call as it read before'; 0 by the template 'total and deterministic' (their statements: YtbfpmgbfkipiaaaTotals.lean).
  GIVEN WITH THE SEED: the statements are not yours to turn. If you find one false, say at which input.
  Laid BY PROGRAM, IN A SANDBOX (cutbox-rows.mjs): the forced cells as the released guide's own fill.sh prints them over the translation 553ef002913b9b42… (all of the seat's roots in one cut). By AI agents, Wed Nov 11 2026. No macro, syntax, notation, axiom, sorry.
-/
import Derived.Test.YtbfpmgbfkipiaaaChecked
import GoSem.Claim
import GoSem.ClaimJoined
import GoSem.ClaimMapViews
import Derived.JoinedTies
import Derived.KernelRfl
namespace Go.Proofs.Ytbfpmgbfkipiaaa
/- THE CELL 'sum', in the pinned program and in every row, IS THE sha256 OF THE DUMP (.gsa) THAT YtbfpmgbfkipiaaaProg.lean LOADS. Nothing in Lean hashes anything: it is a label: what it is worth is what the hold of that sum in a sandbox is worth. -/
noncomputable def Try.pinned : Pinned := { name := "ytbfpmgbfkipiaaa", sum := "553ef002913b9b42c91ba7282a44877d9cbf35e1803b0f63865ea62d46507412", checked := Try.checked }
namespace Rows
def none {H : Type} : Left H := { results := [], args := [] }

/-- 'honeycomblaw24.ModelApart': WHATEVER THE INPUT: true; the input reads as it did. -/
def modelApartSpec : ChangeSpec := { name := "modelApart", fn := fun _ => fun
  | [d1, d2, d3] => { results := [.lit (.bool true)], args := [d1, d2, d3] }
  | _ => none }
def modelApartRow : OpenClaim := { program := "ytbfpmgbfkipiaaa", sum := "553ef002913b9b42c91ba7282a44877d9cbf35e1803b0f63865ea62d46507412", func := "honeycomb/honeycomblaw24.ModelApart", spec := "modelApart", inPlace := ["internal/bytealg.abigen_runtime_cmpstring"], unfollowed := true, recurses := true, apart := false }
def ModelApartSaid : Prop := modelApartRow.holds Try.pinned (OpenSpec.ofChange modelApartSpec)

/-- ITS FALSE NEIGHBOUR: 'it returns false'. Refute it at one input. -/
def modelApartWrong : ChangeSpec := { name := "modelApart", fn := fun _ => fun
  | [d1, d2, d3] => { results := [.lit (.bool false)], args := [d1, d2, d3] }
  | _ => none }
def ModelApartWrongFalsely : Prop := modelApartRow.holds Try.pinned (OpenSpec.ofChange modelApartWrong)

/-- 'honeycomblaw24.ModelRises': WHATEVER THE INPUT: true; the input reads as it did. -/
def modelRisesSpec : ChangeSpec := { name := "modelRises", fn := fun _ => fun
  | [d] => { results := [.lit (.bool true)], args := [d] }
  | _ => none }
def modelRisesRow : OpenClaim := { program := "ytbfpmgbfkipiaaa", sum := "553ef002913b9b42c91ba7282a44877d9cbf35e1803b0f63865ea62d46507412", func := "honeycomb/honeycomblaw24.ModelRises", spec := "modelRises", inPlace := ["internal/bytealg.abigen_runtime_cmpstring"], unfollowed := true, recurses := true, apart := false }
def ModelRisesSaid : Prop := modelRisesRow.holds Try.pinned (OpenSpec.ofChange modelRisesSpec)

/-- ITS FALSE NEIGHBOUR: 'it returns false'. Refute it at one input. -/
def modelRisesWrong : ChangeSpec := { name := "modelRises", fn := fun _ => fun
  | [d] => { results := [.lit (.bool false)], args := [d] }
  | _ => none }
def ModelRisesWrongFalsely : Prop := modelRisesRow.holds Try.pinned (OpenSpec.ofChange modelRisesWrong)

/-- 'honeycomblaw24.ModelDels': WHATEVER THE INPUT: true; the input reads as it did. -/
def modelDelsSpec : ChangeSpec := { name := "modelDels", fn := fun _ => fun
  | [d1, d2, d3] => { results := [.lit (.bool true)], args := [d1, d2, d3] }
  | _ => none }
def modelDelsRow : OpenClaim := { program := "ytbfpmgbfkipiaaa", sum := "553ef002913b9b42c91ba7282a44877d9cbf35e1803b0f63865ea62d46507412", func := "honeycomb/honeycomblaw24.ModelDels", spec := "modelDels", inPlace := ["internal/bytealg.abigen_runtime_cmpstring"], unfollowed := true, recurses := true, apart := false }
def ModelDelsSaid : Prop := modelDelsRow.holds Try.pinned (OpenSpec.ofChange modelDelsSpec)

/-- ITS FALSE NEIGHBOUR: 'it returns false'. Refute it at one input. -/
def modelDelsWrong : ChangeSpec := { name := "modelDels", fn := fun _ => fun
  | [d1, d2, d3] => { results := [.lit (.bool false)], args := [d1, d2, d3] }
  | _ => none }
def ModelDelsWrongFalsely : Prop := modelDelsRow.holds Try.pinned (OpenSpec.ofChange modelDelsWrong)

/-- 'honeycomblaw24.ModelAborts': WHATEVER THE INPUT: true; the input reads as it did. -/
def modelAbortsSpec : ChangeSpec := { name := "modelAborts", fn := fun _ => fun
  | [d] => { results := [.lit (.bool true)], args := [d] }
  | _ => none }
def modelAbortsRow : OpenClaim := { program := "ytbfpmgbfkipiaaa", sum := "553ef002913b9b42c91ba7282a44877d9cbf35e1803b0f63865ea62d46507412", func := "honeycomb/honeycomblaw24.ModelAborts", spec := "modelAborts", inPlace := ["internal/bytealg.abigen_runtime_cmpstring"], unfollowed := true, recurses := true, apart := false }
def ModelAbortsSaid : Prop := modelAbortsRow.holds Try.pinned (OpenSpec.ofChange modelAbortsSpec)

/-- ITS FALSE NEIGHBOUR: 'it returns false'. Refute it at one input. -/
def modelAbortsWrong : ChangeSpec := { name := "modelAborts", fn := fun _ => fun
  | [d] => { results := [.lit (.bool false)], args := [d] }
  | _ => none }
def ModelAbortsWrongFalsely : Prop := modelAbortsRow.holds Try.pinned (OpenSpec.ofChange modelAbortsWrong)

/-- 'honeycomblaw24.ModelSaves': WHATEVER THE INPUT: true; the input reads as it did. -/
def modelSavesSpec : ChangeSpec := { name := "modelSaves", fn := fun _ => fun
  | [d1, d2] => { results := [.lit (.bool true)], args := [d1, d2] }
  | _ => none }
def modelSavesRow : OpenClaim := { program := "ytbfpmgbfkipiaaa", sum := "553ef002913b9b42c91ba7282a44877d9cbf35e1803b0f63865ea62d46507412", func := "honeycomb/honeycomblaw24.ModelSaves", spec := "modelSaves", inPlace := ["internal/bytealg.abigen_runtime_cmpstring"], unfollowed := true, recurses := true, apart := false }
def ModelSavesSaid : Prop := modelSavesRow.holds Try.pinned (OpenSpec.ofChange modelSavesSpec)

/-- ITS FALSE NEIGHBOUR: 'it returns false'. Refute it at one input. -/
def modelSavesWrong : ChangeSpec := { name := "modelSaves", fn := fun _ => fun
  | [d1, d2] => { results := [.lit (.bool false)], args := [d1, d2] }
  | _ => none }
def ModelSavesWrongFalsely : Prop := modelSavesRow.holds Try.pinned (OpenSpec.ofChange modelSavesWrong)

/- THE SECOND FORM. 'bulk': how many values and letters a reading holds, each counted each time it is reached (what is shared counts as often as it is met; a slice's spare places count too). A statement '..UptoSaid' is the law's where the arguments, and the package variables that the reading takes, are together of bulk at most 1048576: NARROWER than '..Said'. Prove '..Said' where nothing that the law and all that it calls make is longer than what came in: it says more and counts as full. Else prove '..UptoSaid'. A law counts once. -/
mutual
def uptoBulk {H : Type} : DataW H → Nat
  | .lit (.string bytes) => bytes.length + 1
  | .lit _ => 1
  | .nil => 1
  | .ptr d => uptoBulk d + 1
  | .slice elems spare => uptoBulkAll elems + uptoBulkAll spare + 1
  | .agg parts => uptoBulkAll parts + 1
  | .iface _ d => uptoBulk d + 1
  | .map entries => uptoBulkEntries entries + 1
  | .held _ => 1
def uptoBulkAll {H : Type} : List (DataW H) → Nat
  | [] => 0
  | d :: r => uptoBulk d + uptoBulkAll r
def uptoBulkEntries {H : Type} : List (Lit × DataW H) → Nat
  | [] => 0
  | x :: r => uptoBulkEntry x + uptoBulkEntries r
def uptoBulkEntry {H : Type} : Lit × DataW H → Nat
  | (.string bytes, d) => bytes.length + uptoBulk d + 1
  | (_, d) => uptoBulk d + 1
 end
def uptoSmall : (H : Type) → List (DataW H) → Bool := fun _ ds => decide (uptoBulkAll ds ≤ 1048576)
def OpenSpec.upto (s : _root_.Go.ChangeSpec) : _root_.Go.OpenSpec := { _root_.Go.OpenSpec.ofChange s with cond := some uptoSmall }

/-- 'honeycomblaw24.ModelApart', WHERE WHAT IT READS IS OF BULK AT MOST 1048576: true; the input reads as it did. -/
def modelApartUptoRow : OpenClaim := { program := "ytbfpmgbfkipiaaa", sum := "553ef002913b9b42c91ba7282a44877d9cbf35e1803b0f63865ea62d46507412", func := "honeycomb/honeycomblaw24.ModelApart", spec := "modelApart", inPlace := ["internal/bytealg.abigen_runtime_cmpstring"], unfollowed := true, recurses := true, apart := false, narrowed := true }
def ModelApartUptoSaid : Prop := modelApartUptoRow.holds Try.pinned (OpenSpec.upto modelApartSpec)

/-- 'honeycomblaw24.ModelRises', WHERE WHAT IT READS IS OF BULK AT MOST 1048576: true; the input reads as it did. -/
def modelRisesUptoRow : OpenClaim := { program := "ytbfpmgbfkipiaaa", sum := "553ef002913b9b42c91ba7282a44877d9cbf35e1803b0f63865ea62d46507412", func := "honeycomb/honeycomblaw24.ModelRises", spec := "modelRises", inPlace := ["internal/bytealg.abigen_runtime_cmpstring"], unfollowed := true, recurses := true, apart := false, narrowed := true }
def ModelRisesUptoSaid : Prop := modelRisesUptoRow.holds Try.pinned (OpenSpec.upto modelRisesSpec)

/-- 'honeycomblaw24.ModelDels', WHERE WHAT IT READS IS OF BULK AT MOST 1048576: true; the input reads as it did. -/
def modelDelsUptoRow : OpenClaim := { program := "ytbfpmgbfkipiaaa", sum := "553ef002913b9b42c91ba7282a44877d9cbf35e1803b0f63865ea62d46507412", func := "honeycomb/honeycomblaw24.ModelDels", spec := "modelDels", inPlace := ["internal/bytealg.abigen_runtime_cmpstring"], unfollowed := true, recurses := true, apart := false, narrowed := true }
def ModelDelsUptoSaid : Prop := modelDelsUptoRow.holds Try.pinned (OpenSpec.upto modelDelsSpec)

/-- 'honeycomblaw24.ModelAborts', WHERE WHAT IT READS IS OF BULK AT MOST 1048576: true; the input reads as it did. -/
def modelAbortsUptoRow : OpenClaim := { program := "ytbfpmgbfkipiaaa", sum := "553ef002913b9b42c91ba7282a44877d9cbf35e1803b0f63865ea62d46507412", func := "honeycomb/honeycomblaw24.ModelAborts", spec := "modelAborts", inPlace := ["internal/bytealg.abigen_runtime_cmpstring"], unfollowed := true, recurses := true, apart := false, narrowed := true }
def ModelAbortsUptoSaid : Prop := modelAbortsUptoRow.holds Try.pinned (OpenSpec.upto modelAbortsSpec)

/-- 'honeycomblaw24.ModelSaves', WHERE WHAT IT READS IS OF BULK AT MOST 1048576: true; the input reads as it did. -/
def modelSavesUptoRow : OpenClaim := { program := "ytbfpmgbfkipiaaa", sum := "553ef002913b9b42c91ba7282a44877d9cbf35e1803b0f63865ea62d46507412", func := "honeycomb/honeycomblaw24.ModelSaves", spec := "modelSaves", inPlace := ["internal/bytealg.abigen_runtime_cmpstring"], unfollowed := true, recurses := true, apart := false, narrowed := true }
def ModelSavesUptoSaid : Prop := modelSavesUptoRow.holds Try.pinned (OpenSpec.upto modelSavesSpec)

end Rows
end Go.Proofs.Ytbfpmgbfkipiaaa
