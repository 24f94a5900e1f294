/-
  No cell of these rows narrows 'for every input' (looked for: loops, veiled, ifaces, maps, wideKeys, modest, calm, conditions, laid).
  DERIVED. THE GIVEN ROWS OF THIS SEAT. 10 by the template 'for every input the law returns true; each argument reads behind the call as it read before'; 0 by the template 'total and deterministic' (their statements: YthebokkfhpeeiaaTotals.lean).
  GIVEN WITH THE SEED: the statements are not yours to turn. If you find one false, say at which input.
  Laid BY PROGRAM, IN A SANDBOX (cutbox-rows.mjs): the forced cells as the released guide's own fill.sh prints them over the translation 17ca581df7d4e02e… (all of the seat's roots in one cut). By AI agents, Wed Nov 11 2026. No macro, syntax, notation, axiom, sorry.
-/
import Derived.Test.YthebokkfhpeeiaaChecked
import GoSem.Claim
import GoSem.ClaimJoined
import GoSem.ClaimMapViews
import Derived.JoinedTies
import Derived.KernelRfl
namespace Go.Proofs.Ythebokkfhpeeiaa
/- THE CELL 'sum', in the pinned program and in every row, IS THE sha256 OF THE DUMP (.gsa) THAT YthebokkfhpeeiaaProg.lean LOADS. Nothing in Lean hashes anything: it is a label: what it is worth is what the hold of that sum in a sandbox is worth. -/
noncomputable def Try.pinned : Pinned := { name := "ythebokkfhpeeiaa", sum := "17ca581df7d4e02e3b468161adf8423205048a329765bdf677dbc2a8e6c8cb57", checked := Try.checked }
namespace Rows
def none {H : Type} : Left H := { results := [], args := [] }

/-- 'laws.FnIsEntailed': WHATEVER THE INPUT: true; the input reads as it did. -/
def fnIsEntailedSpec : ChangeSpec := { name := "fnIsEntailed", fn := fun _ => fun
  | [d] => { results := [.lit (.bool true)], args := [d] }
  | _ => none }
def fnIsEntailedRow : OpenClaim := { program := "ythebokkfhpeeiaa", sum := "17ca581df7d4e02e3b468161adf8423205048a329765bdf677dbc2a8e6c8cb57", func := "loop.example/constraintsolver/laws.FnIsEntailed", spec := "fnIsEntailed", unfollowed := true, recurses := true, apart := false }
def FnIsEntailedSaid : Prop := fnIsEntailedRow.holds Try.pinned (OpenSpec.ofChange fnIsEntailedSpec)

/-- ITS FALSE NEIGHBOUR: 'it returns false'. Refute it at one input. -/
def fnIsEntailedWrong : ChangeSpec := { name := "fnIsEntailed", fn := fun _ => fun
  | [d] => { results := [.lit (.bool false)], args := [d] }
  | _ => none }
def FnIsEntailedWrongFalsely : Prop := fnIsEntailedRow.holds Try.pinned (OpenSpec.ofChange fnIsEntailedWrong)

/-- 'laws.FnExactPropagate': WHATEVER THE INPUT: true; the input reads as it did. -/
def fnExactPropagateSpec : ChangeSpec := { name := "fnExactPropagate", fn := fun _ => fun
  | [d] => { results := [.lit (.bool true)], args := [d] }
  | _ => none }
def fnExactPropagateRow : OpenClaim := { program := "ythebokkfhpeeiaa", sum := "17ca581df7d4e02e3b468161adf8423205048a329765bdf677dbc2a8e6c8cb57", func := "loop.example/constraintsolver/laws.FnExactPropagate", spec := "fnExactPropagate", unfollowed := true, recurses := true, apart := false }
def FnExactPropagateSaid : Prop := fnExactPropagateRow.holds Try.pinned (OpenSpec.ofChange fnExactPropagateSpec)

/-- ITS FALSE NEIGHBOUR: 'it returns false'. Refute it at one input. -/
def fnExactPropagateWrong : ChangeSpec := { name := "fnExactPropagate", fn := fun _ => fun
  | [d] => { results := [.lit (.bool false)], args := [d] }
  | _ => none }
def FnExactPropagateWrongFalsely : Prop := fnExactPropagateRow.holds Try.pinned (OpenSpec.ofChange fnExactPropagateWrong)

/-- 'laws.FnExactCountSolutions': WHATEVER THE INPUT: true; the input reads as it did. -/
def fnExactCountSolutionsSpec : ChangeSpec := { name := "fnExactCountSolutions", fn := fun _ => fun
  | [d] => { results := [.lit (.bool true)], args := [d] }
  | _ => none }
def fnExactCountSolutionsRow : OpenClaim := { program := "ythebokkfhpeeiaa", sum := "17ca581df7d4e02e3b468161adf8423205048a329765bdf677dbc2a8e6c8cb57", func := "loop.example/constraintsolver/laws.FnExactCountSolutions", spec := "fnExactCountSolutions", unfollowed := true, recurses := true, apart := false }
def FnExactCountSolutionsSaid : Prop := fnExactCountSolutionsRow.holds Try.pinned (OpenSpec.ofChange fnExactCountSolutionsSpec)

/-- ITS FALSE NEIGHBOUR: 'it returns false'. Refute it at one input. -/
def fnExactCountSolutionsWrong : ChangeSpec := { name := "fnExactCountSolutions", fn := fun _ => fun
  | [d] => { results := [.lit (.bool false)], args := [d] }
  | _ => none }
def FnExactCountSolutionsWrongFalsely : Prop := fnExactCountSolutionsRow.holds Try.pinned (OpenSpec.ofChange fnExactCountSolutionsWrong)

/-- 'laws.FnNewStore': WHATEVER THE INPUT: true; the input reads as it did. -/
def fnNewStoreSpec : ChangeSpec := { name := "fnNewStore", fn := fun _ => fun
  | [d] => { results := [.lit (.bool true)], args := [d] }
  | _ => none }
def fnNewStoreRow : OpenClaim := { program := "ythebokkfhpeeiaa", sum := "17ca581df7d4e02e3b468161adf8423205048a329765bdf677dbc2a8e6c8cb57", func := "loop.example/constraintsolver/laws.FnNewStore", spec := "fnNewStore", unfollowed := true, recurses := true, apart := false }
def FnNewStoreSaid : Prop := fnNewStoreRow.holds Try.pinned (OpenSpec.ofChange fnNewStoreSpec)

/-- ITS FALSE NEIGHBOUR: 'it returns false'. Refute it at one input. -/
def fnNewStoreWrong : ChangeSpec := { name := "fnNewStore", fn := fun _ => fun
  | [d] => { results := [.lit (.bool false)], args := [d] }
  | _ => none }
def FnNewStoreWrongFalsely : Prop := fnNewStoreRow.holds Try.pinned (OpenSpec.ofChange fnNewStoreWrong)

/-- 'laws.FnExactIsVariableSymmetry': WHATEVER THE INPUT: true; the input reads as it did. -/
def fnExactIsVariableSymmetrySpec : ChangeSpec := { name := "fnExactIsVariableSymmetry", fn := fun _ => fun
  | [d1, d2, d3] => { results := [.lit (.bool true)], args := [d1, d2, d3] }
  | _ => none }
def fnExactIsVariableSymmetryRow : OpenClaim := { program := "ythebokkfhpeeiaa", sum := "17ca581df7d4e02e3b468161adf8423205048a329765bdf677dbc2a8e6c8cb57", func := "loop.example/constraintsolver/laws.FnExactIsVariableSymmetry", spec := "fnExactIsVariableSymmetry", unfollowed := true, recurses := true, apart := false }
def FnExactIsVariableSymmetrySaid : Prop := fnExactIsVariableSymmetryRow.holds Try.pinned (OpenSpec.ofChange fnExactIsVariableSymmetrySpec)

/-- ITS FALSE NEIGHBOUR: 'it returns false'. Refute it at one input. -/
def fnExactIsVariableSymmetryWrong : ChangeSpec := { name := "fnExactIsVariableSymmetry", fn := fun _ => fun
  | [d1, d2, d3] => { results := [.lit (.bool false)], args := [d1, d2, d3] }
  | _ => none }
def FnExactIsVariableSymmetryWrongFalsely : Prop := fnExactIsVariableSymmetryRow.holds Try.pinned (OpenSpec.ofChange fnExactIsVariableSymmetryWrong)

/-- 'laws.FnExactSolveAll': WHATEVER THE INPUT: true; the input reads as it did. -/
def fnExactSolveAllSpec : ChangeSpec := { name := "fnExactSolveAll", fn := fun _ => fun
  | [d1, d2] => { results := [.lit (.bool true)], args := [d1, d2] }
  | _ => none }
def fnExactSolveAllRow : OpenClaim := { program := "ythebokkfhpeeiaa", sum := "17ca581df7d4e02e3b468161adf8423205048a329765bdf677dbc2a8e6c8cb57", func := "loop.example/constraintsolver/laws.FnExactSolveAll", spec := "fnExactSolveAll", unfollowed := true, recurses := true, apart := false }
def FnExactSolveAllSaid : Prop := fnExactSolveAllRow.holds Try.pinned (OpenSpec.ofChange fnExactSolveAllSpec)

/-- ITS FALSE NEIGHBOUR: 'it returns false'. Refute it at one input. -/
def fnExactSolveAllWrong : ChangeSpec := { name := "fnExactSolveAll", fn := fun _ => fun
  | [d1, d2] => { results := [.lit (.bool false)], args := [d1, d2] }
  | _ => none }
def FnExactSolveAllWrongFalsely : Prop := fnExactSolveAllRow.holds Try.pinned (OpenSpec.ofChange fnExactSolveAllWrong)

/-- 'laws.FnExactIsValueSymmetry': WHATEVER THE INPUT: true; the input reads as it did. -/
def fnExactIsValueSymmetrySpec : ChangeSpec := { name := "fnExactIsValueSymmetry", fn := fun _ => fun
  | [d1, d2, d3] => { results := [.lit (.bool true)], args := [d1, d2, d3] }
  | _ => none }
def fnExactIsValueSymmetryRow : OpenClaim := { program := "ythebokkfhpeeiaa", sum := "17ca581df7d4e02e3b468161adf8423205048a329765bdf677dbc2a8e6c8cb57", func := "loop.example/constraintsolver/laws.FnExactIsValueSymmetry", spec := "fnExactIsValueSymmetry", unfollowed := true, recurses := true, apart := false }
def FnExactIsValueSymmetrySaid : Prop := fnExactIsValueSymmetryRow.holds Try.pinned (OpenSpec.ofChange fnExactIsValueSymmetrySpec)

/-- ITS FALSE NEIGHBOUR: 'it returns false'. Refute it at one input. -/
def fnExactIsValueSymmetryWrong : ChangeSpec := { name := "fnExactIsValueSymmetry", fn := fun _ => fun
  | [d1, d2, d3] => { results := [.lit (.bool false)], args := [d1, d2, d3] }
  | _ => none }
def FnExactIsValueSymmetryWrongFalsely : Prop := fnExactIsValueSymmetryRow.holds Try.pinned (OpenSpec.ofChange fnExactIsValueSymmetryWrong)

/-- 'laws.FnExactBackbone': WHATEVER THE INPUT: true; the input reads as it did. -/
def fnExactBackboneSpec : ChangeSpec := { name := "fnExactBackbone", fn := fun _ => fun
  | [d] => { results := [.lit (.bool true)], args := [d] }
  | _ => none }
def fnExactBackboneRow : OpenClaim := { program := "ythebokkfhpeeiaa", sum := "17ca581df7d4e02e3b468161adf8423205048a329765bdf677dbc2a8e6c8cb57", func := "loop.example/constraintsolver/laws.FnExactBackbone", spec := "fnExactBackbone", unfollowed := true, recurses := true, apart := false }
def FnExactBackboneSaid : Prop := fnExactBackboneRow.holds Try.pinned (OpenSpec.ofChange fnExactBackboneSpec)

/-- ITS FALSE NEIGHBOUR: 'it returns false'. Refute it at one input. -/
def fnExactBackboneWrong : ChangeSpec := { name := "fnExactBackbone", fn := fun _ => fun
  | [d] => { results := [.lit (.bool false)], args := [d] }
  | _ => none }
def FnExactBackboneWrongFalsely : Prop := fnExactBackboneRow.holds Try.pinned (OpenSpec.ofChange fnExactBackboneWrong)

/-- 'laws.FnExactNewStore': WHATEVER THE INPUT: true; the input reads as it did. -/
def fnExactNewStoreSpec : ChangeSpec := { name := "fnExactNewStore", fn := fun _ => fun
  | [d] => { results := [.lit (.bool true)], args := [d] }
  | _ => none }
def fnExactNewStoreRow : OpenClaim := { program := "ythebokkfhpeeiaa", sum := "17ca581df7d4e02e3b468161adf8423205048a329765bdf677dbc2a8e6c8cb57", func := "loop.example/constraintsolver/laws.FnExactNewStore", spec := "fnExactNewStore", unfollowed := true, recurses := true, apart := false }
def FnExactNewStoreSaid : Prop := fnExactNewStoreRow.holds Try.pinned (OpenSpec.ofChange fnExactNewStoreSpec)

/-- ITS FALSE NEIGHBOUR: 'it returns false'. Refute it at one input. -/
def fnExactNewStoreWrong : ChangeSpec := { name := "fnExactNewStore", fn := fun _ => fun
  | [d] => { results := [.lit (.bool false)], args := [d] }
  | _ => none }
def FnExactNewStoreWrongFalsely : Prop := fnExactNewStoreRow.holds Try.pinned (OpenSpec.ofChange fnExactNewStoreWrong)

/-- 'laws.FnExactNextSolution': WHATEVER THE INPUT: true; the input reads as it did. -/
def fnExactNextSolutionSpec : ChangeSpec := { name := "fnExactNextSolution", fn := fun _ => fun
  | [d1, d2] => { results := [.lit (.bool true)], args := [d1, d2] }
  | _ => none }
def fnExactNextSolutionRow : OpenClaim := { program := "ythebokkfhpeeiaa", sum := "17ca581df7d4e02e3b468161adf8423205048a329765bdf677dbc2a8e6c8cb57", func := "loop.example/constraintsolver/laws.FnExactNextSolution", spec := "fnExactNextSolution", unfollowed := true, recurses := true, apart := false }
def FnExactNextSolutionSaid : Prop := fnExactNextSolutionRow.holds Try.pinned (OpenSpec.ofChange fnExactNextSolutionSpec)

/-- ITS FALSE NEIGHBOUR: 'it returns false'. Refute it at one input. -/
def fnExactNextSolutionWrong : ChangeSpec := { name := "fnExactNextSolution", fn := fun _ => fun
  | [d1, d2] => { results := [.lit (.bool false)], args := [d1, d2] }
  | _ => none }
def FnExactNextSolutionWrongFalsely : Prop := fnExactNextSolutionRow.holds Try.pinned (OpenSpec.ofChange fnExactNextSolutionWrong)

/- THE SECOND FORM. 'bulk': how many values and letters a reading holds, each counted each time it is reached (what is shared counts as often as it is met; a slice's spare places count too). A statement '..UptoSaid' is the law's where the arguments, and the package variables that the reading takes, are together of bulk at most 1048576: NARROWER than '..Said'. Prove '..Said' where nothing that the law and all that it calls make is longer than what came in: it says more and counts as full. Else prove '..UptoSaid'. A law counts once. -/
mutual
def uptoBulk {H : Type} : DataW H → Nat
  | .lit (.string bytes) => bytes.length + 1
  | .lit _ => 1
  | .nil => 1
  | .ptr d => uptoBulk d + 1
  | .slice elems spare => uptoBulkAll elems + uptoBulkAll spare + 1
  | .agg parts => uptoBulkAll parts + 1
  | .iface _ d => uptoBulk d + 1
  | .map entries => uptoBulkEntries entries + 1
  | .held _ => 1
def uptoBulkAll {H : Type} : List (DataW H) → Nat
  | [] => 0
  | d :: r => uptoBulk d + uptoBulkAll r
def uptoBulkEntries {H : Type} : List (Lit × DataW H) → Nat
  | [] => 0
  | x :: r => uptoBulkEntry x + uptoBulkEntries r
def uptoBulkEntry {H : Type} : Lit × DataW H → Nat
  | (.string bytes, d) => bytes.length + uptoBulk d + 1
  | (_, d) => uptoBulk d + 1
 end
def uptoSmall : (H : Type) → List (DataW H) → Bool := fun _ ds => decide (uptoBulkAll ds ≤ 1048576)
def OpenSpec.upto (s : _root_.Go.ChangeSpec) : _root_.Go.OpenSpec := { _root_.Go.OpenSpec.ofChange s with cond := some uptoSmall }

/-- 'laws.FnIsEntailed', WHERE WHAT IT READS IS OF BULK AT MOST 1048576: true; the input reads as it did. -/
def fnIsEntailedUptoRow : OpenClaim := { program := "ythebokkfhpeeiaa", sum := "17ca581df7d4e02e3b468161adf8423205048a329765bdf677dbc2a8e6c8cb57", func := "loop.example/constraintsolver/laws.FnIsEntailed", spec := "fnIsEntailed", unfollowed := true, recurses := true, apart := false, narrowed := true }
def FnIsEntailedUptoSaid : Prop := fnIsEntailedUptoRow.holds Try.pinned (OpenSpec.upto fnIsEntailedSpec)

/-- 'laws.FnExactPropagate', WHERE WHAT IT READS IS OF BULK AT MOST 1048576: true; the input reads as it did. -/
def fnExactPropagateUptoRow : OpenClaim := { program := "ythebokkfhpeeiaa", sum := "17ca581df7d4e02e3b468161adf8423205048a329765bdf677dbc2a8e6c8cb57", func := "loop.example/constraintsolver/laws.FnExactPropagate", spec := "fnExactPropagate", unfollowed := true, recurses := true, apart := false, narrowed := true }
def FnExactPropagateUptoSaid : Prop := fnExactPropagateUptoRow.holds Try.pinned (OpenSpec.upto fnExactPropagateSpec)

/-- 'laws.FnExactCountSolutions', WHERE WHAT IT READS IS OF BULK AT MOST 1048576: true; the input reads as it did. -/
def fnExactCountSolutionsUptoRow : OpenClaim := { program := "ythebokkfhpeeiaa", sum := "17ca581df7d4e02e3b468161adf8423205048a329765bdf677dbc2a8e6c8cb57", func := "loop.example/constraintsolver/laws.FnExactCountSolutions", spec := "fnExactCountSolutions", unfollowed := true, recurses := true, apart := false, narrowed := true }
def FnExactCountSolutionsUptoSaid : Prop := fnExactCountSolutionsUptoRow.holds Try.pinned (OpenSpec.upto fnExactCountSolutionsSpec)

/-- 'laws.FnNewStore', WHERE WHAT IT READS IS OF BULK AT MOST 1048576: true; the input reads as it did. -/
def fnNewStoreUptoRow : OpenClaim := { program := "ythebokkfhpeeiaa", sum := "17ca581df7d4e02e3b468161adf8423205048a329765bdf677dbc2a8e6c8cb57", func := "loop.example/constraintsolver/laws.FnNewStore", spec := "fnNewStore", unfollowed := true, recurses := true, apart := false, narrowed := true }
def FnNewStoreUptoSaid : Prop := fnNewStoreUptoRow.holds Try.pinned (OpenSpec.upto fnNewStoreSpec)

/-- 'laws.FnExactIsVariableSymmetry', WHERE WHAT IT READS IS OF BULK AT MOST 1048576: true; the input reads as it did. -/
def fnExactIsVariableSymmetryUptoRow : OpenClaim := { program := "ythebokkfhpeeiaa", sum := "17ca581df7d4e02e3b468161adf8423205048a329765bdf677dbc2a8e6c8cb57", func := "loop.example/constraintsolver/laws.FnExactIsVariableSymmetry", spec := "fnExactIsVariableSymmetry", unfollowed := true, recurses := true, apart := false, narrowed := true }
def FnExactIsVariableSymmetryUptoSaid : Prop := fnExactIsVariableSymmetryUptoRow.holds Try.pinned (OpenSpec.upto fnExactIsVariableSymmetrySpec)

/-- 'laws.FnExactSolveAll', WHERE WHAT IT READS IS OF BULK AT MOST 1048576: true; the input reads as it did. -/
def fnExactSolveAllUptoRow : OpenClaim := { program := "ythebokkfhpeeiaa", sum := "17ca581df7d4e02e3b468161adf8423205048a329765bdf677dbc2a8e6c8cb57", func := "loop.example/constraintsolver/laws.FnExactSolveAll", spec := "fnExactSolveAll", unfollowed := true, recurses := true, apart := false, narrowed := true }
def FnExactSolveAllUptoSaid : Prop := fnExactSolveAllUptoRow.holds Try.pinned (OpenSpec.upto fnExactSolveAllSpec)

/-- 'laws.FnExactIsValueSymmetry', WHERE WHAT IT READS IS OF BULK AT MOST 1048576: true; the input reads as it did. -/
def fnExactIsValueSymmetryUptoRow : OpenClaim := { program := "ythebokkfhpeeiaa", sum := "17ca581df7d4e02e3b468161adf8423205048a329765bdf677dbc2a8e6c8cb57", func := "loop.example/constraintsolver/laws.FnExactIsValueSymmetry", spec := "fnExactIsValueSymmetry", unfollowed := true, recurses := true, apart := false, narrowed := true }
def FnExactIsValueSymmetryUptoSaid : Prop := fnExactIsValueSymmetryUptoRow.holds Try.pinned (OpenSpec.upto fnExactIsValueSymmetrySpec)

/-- 'laws.FnExactBackbone', WHERE WHAT IT READS IS OF BULK AT MOST 1048576: true; the input reads as it did. -/
def fnExactBackboneUptoRow : OpenClaim := { program := "ythebokkfhpeeiaa", sum := "17ca581df7d4e02e3b468161adf8423205048a329765bdf677dbc2a8e6c8cb57", func := "loop.example/constraintsolver/laws.FnExactBackbone", spec := "fnExactBackbone", unfollowed := true, recurses := true, apart := false, narrowed := true }
def FnExactBackboneUptoSaid : Prop := fnExactBackboneUptoRow.holds Try.pinned (OpenSpec.upto fnExactBackboneSpec)

/-- 'laws.FnExactNewStore', WHERE WHAT IT READS IS OF BULK AT MOST 1048576: true; the input reads as it did. -/
def fnExactNewStoreUptoRow : OpenClaim := { program := "ythebokkfhpeeiaa", sum := "17ca581df7d4e02e3b468161adf8423205048a329765bdf677dbc2a8e6c8cb57", func := "loop.example/constraintsolver/laws.FnExactNewStore", spec := "fnExactNewStore", unfollowed := true, recurses := true, apart := false, narrowed := true }
def FnExactNewStoreUptoSaid : Prop := fnExactNewStoreUptoRow.holds Try.pinned (OpenSpec.upto fnExactNewStoreSpec)

/-- 'laws.FnExactNextSolution', WHERE WHAT IT READS IS OF BULK AT MOST 1048576: true; the input reads as it did. -/
def fnExactNextSolutionUptoRow : OpenClaim := { program := "ythebokkfhpeeiaa", sum := "17ca581df7d4e02e3b468161adf8423205048a329765bdf677dbc2a8e6c8cb57", func := "loop.example/constraintsolver/laws.FnExactNextSolution", spec := "fnExactNextSolution", unfollowed := true, recurses := true, apart := false, narrowed := true }
def FnExactNextSolutionUptoSaid : Prop := fnExactNextSolutionUptoRow.holds Try.pinned (OpenSpec.upto fnExactNextSolutionSpec)

end Rows
end Go.Proofs.Ythebokkfhpeeiaa
