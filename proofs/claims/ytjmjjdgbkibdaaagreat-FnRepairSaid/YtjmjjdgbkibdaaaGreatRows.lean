/-
  No cell of these rows narrows 'for every input' (looked for: loops, veiled, ifaces, maps, wideKeys, modest, calm, conditions, laid).
  DERIVED. THE GIVEN ROWS OF THIS SEAT. 14 by the template 'for every input the law returns true; each argument reads behind the call as it read before'; 0 by the template 'total and deterministic' (their statements: YtjmjjdgbkibdaaaGreatTotals.lean).
  GIVEN WITH THE SEED: the statements are not yours to turn. If you find one false, say at which input.
  Laid BY PROGRAM, IN A SANDBOX (cutbox-rows.mjs): the forced cells as the released guide's own fill.sh prints them over the translation 89faafb9b8de0cf1… (all of the seat's roots in one cut). By AI agents, Wed Nov 11 2026. No macro, syntax, notation, axiom, sorry.
-/
import Derived.Test.YtjmjjdgbkibdaaaGreatChecked
import GoSem.Claim
import GoSem.ClaimJoined
import GoSem.ClaimMapViews
import Derived.JoinedTies
import Derived.KernelRfl
namespace Go.Proofs.YtjmjjdgbkibdaaaGreat
/- THE CELL 'sum', in the pinned program and in every row, IS THE sha256 OF THE DUMP (.gsa) THAT YtjmjjdgbkibdaaaGreatProg.lean LOADS. Nothing in Lean hashes anything: it is a label: what it is worth is what the hold of that sum in a sandbox is worth. -/
noncomputable def Tryz.pinned : Pinned := { name := "ytjmjjdgbkibdaaagreat", sum := "89faafb9b8de0cf11e1707a0259104969bad0c131c89f2dfcf44c70e22f1760a", checked := Tryz.checked }
namespace Rows
def none {H : Type} : Left H := { results := [], args := [] }

/-- 'laws.FnExactMinimize': WHATEVER THE INPUT: true; the input reads as it did. -/
def fnExactMinimizeSpec : ChangeSpec := { name := "fnExactMinimize", fn := fun _ => fun
  | [d1, d2] => { results := [.lit (.bool true)], args := [d1, d2] }
  | _ => none }
def fnExactMinimizeRow : OpenClaim := { program := "ytjmjjdgbkibdaaagreat", sum := "89faafb9b8de0cf11e1707a0259104969bad0c131c89f2dfcf44c70e22f1760a", func := "loop.example/constraintsolver/laws.FnExactMinimize", spec := "fnExactMinimize", unfollowed := true, recurses := true, apart := false }
def FnExactMinimizeSaid : Prop := fnExactMinimizeRow.holds Tryz.pinned (OpenSpec.ofChange fnExactMinimizeSpec)

/-- ITS FALSE NEIGHBOUR: 'it returns false'. Refute it at one input. -/
def fnExactMinimizeWrong : ChangeSpec := { name := "fnExactMinimize", fn := fun _ => fun
  | [d1, d2] => { results := [.lit (.bool false)], args := [d1, d2] }
  | _ => none }
def FnExactMinimizeWrongFalsely : Prop := fnExactMinimizeRow.holds Tryz.pinned (OpenSpec.ofChange fnExactMinimizeWrong)

/-- 'laws.FnExactRepair': WHATEVER THE INPUT: true; the input reads as it did. -/
def fnExactRepairSpec : ChangeSpec := { name := "fnExactRepair", fn := fun _ => fun
  | [d1, d2, d3] => { results := [.lit (.bool true)], args := [d1, d2, d3] }
  | _ => none }
def fnExactRepairRow : OpenClaim := { program := "ytjmjjdgbkibdaaagreat", sum := "89faafb9b8de0cf11e1707a0259104969bad0c131c89f2dfcf44c70e22f1760a", func := "loop.example/constraintsolver/laws.FnExactRepair", spec := "fnExactRepair", unfollowed := true, recurses := true, apart := false }
def FnExactRepairSaid : Prop := fnExactRepairRow.holds Tryz.pinned (OpenSpec.ofChange fnExactRepairSpec)

/-- ITS FALSE NEIGHBOUR: 'it returns false'. Refute it at one input. -/
def fnExactRepairWrong : ChangeSpec := { name := "fnExactRepair", fn := fun _ => fun
  | [d1, d2, d3] => { results := [.lit (.bool false)], args := [d1, d2, d3] }
  | _ => none }
def FnExactRepairWrongFalsely : Prop := fnExactRepairRow.holds Tryz.pinned (OpenSpec.ofChange fnExactRepairWrong)

/-- 'laws.FnExactCanonicalSolutions': WHATEVER THE INPUT: true; the input reads as it did. -/
def fnExactCanonicalSolutionsSpec : ChangeSpec := { name := "fnExactCanonicalSolutions", fn := fun _ => fun
  | [d] => { results := [.lit (.bool true)], args := [d] }
  | _ => none }
def fnExactCanonicalSolutionsRow : OpenClaim := { program := "ytjmjjdgbkibdaaagreat", sum := "89faafb9b8de0cf11e1707a0259104969bad0c131c89f2dfcf44c70e22f1760a", func := "loop.example/constraintsolver/laws.FnExactCanonicalSolutions", spec := "fnExactCanonicalSolutions", unfollowed := true, recurses := true, apart := false }
def FnExactCanonicalSolutionsSaid : Prop := fnExactCanonicalSolutionsRow.holds Tryz.pinned (OpenSpec.ofChange fnExactCanonicalSolutionsSpec)

/-- ITS FALSE NEIGHBOUR: 'it returns false'. Refute it at one input. -/
def fnExactCanonicalSolutionsWrong : ChangeSpec := { name := "fnExactCanonicalSolutions", fn := fun _ => fun
  | [d] => { results := [.lit (.bool false)], args := [d] }
  | _ => none }
def FnExactCanonicalSolutionsWrongFalsely : Prop := fnExactCanonicalSolutionsRow.holds Tryz.pinned (OpenSpec.ofChange fnExactCanonicalSolutionsWrong)

/-- 'laws.FnExactImprove': WHATEVER THE INPUT: true; the input reads as it did. -/
def fnExactImproveSpec : ChangeSpec := { name := "fnExactImprove", fn := fun _ => fun
  | [d1, d2, d3, d4] => { results := [.lit (.bool true)], args := [d1, d2, d3, d4] }
  | _ => none }
def fnExactImproveRow : OpenClaim := { program := "ytjmjjdgbkibdaaagreat", sum := "89faafb9b8de0cf11e1707a0259104969bad0c131c89f2dfcf44c70e22f1760a", func := "loop.example/constraintsolver/laws.FnExactImprove", spec := "fnExactImprove", unfollowed := true, recurses := true, apart := false }
def FnExactImproveSaid : Prop := fnExactImproveRow.holds Tryz.pinned (OpenSpec.ofChange fnExactImproveSpec)

/-- ITS FALSE NEIGHBOUR: 'it returns false'. Refute it at one input. -/
def fnExactImproveWrong : ChangeSpec := { name := "fnExactImprove", fn := fun _ => fun
  | [d1, d2, d3, d4] => { results := [.lit (.bool false)], args := [d1, d2, d3, d4] }
  | _ => none }
def FnExactImproveWrongFalsely : Prop := fnExactImproveRow.holds Tryz.pinned (OpenSpec.ofChange fnExactImproveWrong)

/-- 'laws.FnExactLocalSearch': WHATEVER THE INPUT: true; the input reads as it did. -/
def fnExactLocalSearchSpec : ChangeSpec := { name := "fnExactLocalSearch", fn := fun _ => fun
  | [d1, d2, d3] => { results := [.lit (.bool true)], args := [d1, d2, d3] }
  | _ => none }
def fnExactLocalSearchRow : OpenClaim := { program := "ytjmjjdgbkibdaaagreat", sum := "89faafb9b8de0cf11e1707a0259104969bad0c131c89f2dfcf44c70e22f1760a", func := "loop.example/constraintsolver/laws.FnExactLocalSearch", spec := "fnExactLocalSearch", unfollowed := true, recurses := true, apart := false }
def FnExactLocalSearchSaid : Prop := fnExactLocalSearchRow.holds Tryz.pinned (OpenSpec.ofChange fnExactLocalSearchSpec)

/-- ITS FALSE NEIGHBOUR: 'it returns false'. Refute it at one input. -/
def fnExactLocalSearchWrong : ChangeSpec := { name := "fnExactLocalSearch", fn := fun _ => fun
  | [d1, d2, d3] => { results := [.lit (.bool false)], args := [d1, d2, d3] }
  | _ => none }
def FnExactLocalSearchWrongFalsely : Prop := fnExactLocalSearchRow.holds Tryz.pinned (OpenSpec.ofChange fnExactLocalSearchWrong)

/-- 'laws.FnMinimizeCut': WHATEVER THE INPUT: true; the input reads as it did. -/
def fnMinimizeCutSpec : ChangeSpec := { name := "fnMinimizeCut", fn := fun _ => fun
  | [d] => { results := [.lit (.bool true)], args := [d] }
  | _ => none }
def fnMinimizeCutRow : OpenClaim := { program := "ytjmjjdgbkibdaaagreat", sum := "89faafb9b8de0cf11e1707a0259104969bad0c131c89f2dfcf44c70e22f1760a", func := "loop.example/constraintsolver/laws.FnMinimizeCut", spec := "fnMinimizeCut", unfollowed := true, recurses := true, apart := false }
def FnMinimizeCutSaid : Prop := fnMinimizeCutRow.holds Tryz.pinned (OpenSpec.ofChange fnMinimizeCutSpec)

/-- ITS FALSE NEIGHBOUR: 'it returns false'. Refute it at one input. -/
def fnMinimizeCutWrong : ChangeSpec := { name := "fnMinimizeCut", fn := fun _ => fun
  | [d] => { results := [.lit (.bool false)], args := [d] }
  | _ => none }
def FnMinimizeCutWrongFalsely : Prop := fnMinimizeCutRow.holds Tryz.pinned (OpenSpec.ofChange fnMinimizeCutWrong)

/-- 'laws.FnParetoFront': WHATEVER THE INPUT: true; the input reads as it did. -/
def fnParetoFrontSpec : ChangeSpec := { name := "fnParetoFront", fn := fun _ => fun
  | [d] => { results := [.lit (.bool true)], args := [d] }
  | _ => none }
def fnParetoFrontRow : OpenClaim := { program := "ytjmjjdgbkibdaaagreat", sum := "89faafb9b8de0cf11e1707a0259104969bad0c131c89f2dfcf44c70e22f1760a", func := "loop.example/constraintsolver/laws.FnParetoFront", spec := "fnParetoFront", unfollowed := true, recurses := true, apart := false }
def FnParetoFrontSaid : Prop := fnParetoFrontRow.holds Tryz.pinned (OpenSpec.ofChange fnParetoFrontSpec)

/-- ITS FALSE NEIGHBOUR: 'it returns false'. Refute it at one input. -/
def fnParetoFrontWrong : ChangeSpec := { name := "fnParetoFront", fn := fun _ => fun
  | [d] => { results := [.lit (.bool false)], args := [d] }
  | _ => none }
def FnParetoFrontWrongFalsely : Prop := fnParetoFrontRow.holds Tryz.pinned (OpenSpec.ofChange fnParetoFrontWrong)

/-- 'laws.FnRepair': WHATEVER THE INPUT: true; the input reads as it did. -/
def fnRepairSpec : ChangeSpec := { name := "fnRepair", fn := fun _ => fun
  | [d] => { results := [.lit (.bool true)], args := [d] }
  | _ => none }
def fnRepairRow : OpenClaim := { program := "ytjmjjdgbkibdaaagreat", sum := "89faafb9b8de0cf11e1707a0259104969bad0c131c89f2dfcf44c70e22f1760a", func := "loop.example/constraintsolver/laws.FnRepair", spec := "fnRepair", unfollowed := true, recurses := true, apart := false }
def FnRepairSaid : Prop := fnRepairRow.holds Tryz.pinned (OpenSpec.ofChange fnRepairSpec)

/-- ITS FALSE NEIGHBOUR: 'it returns false'. Refute it at one input. -/
def fnRepairWrong : ChangeSpec := { name := "fnRepair", fn := fun _ => fun
  | [d] => { results := [.lit (.bool false)], args := [d] }
  | _ => none }
def FnRepairWrongFalsely : Prop := fnRepairRow.holds Tryz.pinned (OpenSpec.ofChange fnRepairWrong)

/-- 'laws.FnNextSolution': WHATEVER THE INPUT: true; the input reads as it did. -/
def fnNextSolutionSpec : ChangeSpec := { name := "fnNextSolution", fn := fun _ => fun
  | [d] => { results := [.lit (.bool true)], args := [d] }
  | _ => none }
def fnNextSolutionRow : OpenClaim := { program := "ytjmjjdgbkibdaaagreat", sum := "89faafb9b8de0cf11e1707a0259104969bad0c131c89f2dfcf44c70e22f1760a", func := "loop.example/constraintsolver/laws.FnNextSolution", spec := "fnNextSolution", unfollowed := true, recurses := true, apart := false }
def FnNextSolutionSaid : Prop := fnNextSolutionRow.holds Tryz.pinned (OpenSpec.ofChange fnNextSolutionSpec)

/-- ITS FALSE NEIGHBOUR: 'it returns false'. Refute it at one input. -/
def fnNextSolutionWrong : ChangeSpec := { name := "fnNextSolution", fn := fun _ => fun
  | [d] => { results := [.lit (.bool false)], args := [d] }
  | _ => none }
def FnNextSolutionWrongFalsely : Prop := fnNextSolutionRow.holds Tryz.pinned (OpenSpec.ofChange fnNextSolutionWrong)

/-- 'laws.FnOrbits': WHATEVER THE INPUT: true; the input reads as it did. -/
def fnOrbitsSpec : ChangeSpec := { name := "fnOrbits", fn := fun _ => fun
  | [d] => { results := [.lit (.bool true)], args := [d] }
  | _ => none }
def fnOrbitsRow : OpenClaim := { program := "ytjmjjdgbkibdaaagreat", sum := "89faafb9b8de0cf11e1707a0259104969bad0c131c89f2dfcf44c70e22f1760a", func := "loop.example/constraintsolver/laws.FnOrbits", spec := "fnOrbits", unfollowed := true, recurses := true, apart := false }
def FnOrbitsSaid : Prop := fnOrbitsRow.holds Tryz.pinned (OpenSpec.ofChange fnOrbitsSpec)

/-- ITS FALSE NEIGHBOUR: 'it returns false'. Refute it at one input. -/
def fnOrbitsWrong : ChangeSpec := { name := "fnOrbits", fn := fun _ => fun
  | [d] => { results := [.lit (.bool false)], args := [d] }
  | _ => none }
def FnOrbitsWrongFalsely : Prop := fnOrbitsRow.holds Tryz.pinned (OpenSpec.ofChange fnOrbitsWrong)

/-- 'laws.FnExactSolveSoft': WHATEVER THE INPUT: true; the input reads as it did. -/
def fnExactSolveSoftSpec : ChangeSpec := { name := "fnExactSolveSoft", fn := fun _ => fun
  | [d1, d2] => { results := [.lit (.bool true)], args := [d1, d2] }
  | _ => none }
def fnExactSolveSoftRow : OpenClaim := { program := "ytjmjjdgbkibdaaagreat", sum := "89faafb9b8de0cf11e1707a0259104969bad0c131c89f2dfcf44c70e22f1760a", func := "loop.example/constraintsolver/laws.FnExactSolveSoft", spec := "fnExactSolveSoft", unfollowed := true, recurses := true, apart := false }
def FnExactSolveSoftSaid : Prop := fnExactSolveSoftRow.holds Tryz.pinned (OpenSpec.ofChange fnExactSolveSoftSpec)

/-- ITS FALSE NEIGHBOUR: 'it returns false'. Refute it at one input. -/
def fnExactSolveSoftWrong : ChangeSpec := { name := "fnExactSolveSoft", fn := fun _ => fun
  | [d1, d2] => { results := [.lit (.bool false)], args := [d1, d2] }
  | _ => none }
def FnExactSolveSoftWrongFalsely : Prop := fnExactSolveSoftRow.holds Tryz.pinned (OpenSpec.ofChange fnExactSolveSoftWrong)

/-- 'laws.FnExactHardest': WHATEVER THE INPUT: true; the input reads as it did. -/
def fnExactHardestSpec : ChangeSpec := { name := "fnExactHardest", fn := fun _ => fun
  | [d1, d2] => { results := [.lit (.bool true)], args := [d1, d2] }
  | _ => none }
def fnExactHardestRow : OpenClaim := { program := "ytjmjjdgbkibdaaagreat", sum := "89faafb9b8de0cf11e1707a0259104969bad0c131c89f2dfcf44c70e22f1760a", func := "loop.example/constraintsolver/laws.FnExactHardest", spec := "fnExactHardest", unfollowed := true, recurses := true, apart := false }
def FnExactHardestSaid : Prop := fnExactHardestRow.holds Tryz.pinned (OpenSpec.ofChange fnExactHardestSpec)

/-- ITS FALSE NEIGHBOUR: 'it returns false'. Refute it at one input. -/
def fnExactHardestWrong : ChangeSpec := { name := "fnExactHardest", fn := fun _ => fun
  | [d1, d2] => { results := [.lit (.bool false)], args := [d1, d2] }
  | _ => none }
def FnExactHardestWrongFalsely : Prop := fnExactHardestRow.holds Tryz.pinned (OpenSpec.ofChange fnExactHardestWrong)

/-- 'laws.FnCanonical': WHATEVER THE INPUT: true; the input reads as it did. -/
def fnCanonicalSpec : ChangeSpec := { name := "fnCanonical", fn := fun _ => fun
  | [d] => { results := [.lit (.bool true)], args := [d] }
  | _ => none }
def fnCanonicalRow : OpenClaim := { program := "ytjmjjdgbkibdaaagreat", sum := "89faafb9b8de0cf11e1707a0259104969bad0c131c89f2dfcf44c70e22f1760a", func := "loop.example/constraintsolver/laws.FnCanonical", spec := "fnCanonical", unfollowed := true, recurses := true, apart := false }
def FnCanonicalSaid : Prop := fnCanonicalRow.holds Tryz.pinned (OpenSpec.ofChange fnCanonicalSpec)

/-- ITS FALSE NEIGHBOUR: 'it returns false'. Refute it at one input. -/
def fnCanonicalWrong : ChangeSpec := { name := "fnCanonical", fn := fun _ => fun
  | [d] => { results := [.lit (.bool false)], args := [d] }
  | _ => none }
def FnCanonicalWrongFalsely : Prop := fnCanonicalRow.holds Tryz.pinned (OpenSpec.ofChange fnCanonicalWrong)

/-- 'laws.FnVariableSymmetry': WHATEVER THE INPUT: true; the input reads as it did. -/
def fnVariableSymmetrySpec : ChangeSpec := { name := "fnVariableSymmetry", fn := fun _ => fun
  | [d] => { results := [.lit (.bool true)], args := [d] }
  | _ => none }
def fnVariableSymmetryRow : OpenClaim := { program := "ytjmjjdgbkibdaaagreat", sum := "89faafb9b8de0cf11e1707a0259104969bad0c131c89f2dfcf44c70e22f1760a", func := "loop.example/constraintsolver/laws.FnVariableSymmetry", spec := "fnVariableSymmetry", unfollowed := true, recurses := true, apart := false }
def FnVariableSymmetrySaid : Prop := fnVariableSymmetryRow.holds Tryz.pinned (OpenSpec.ofChange fnVariableSymmetrySpec)

/-- ITS FALSE NEIGHBOUR: 'it returns false'. Refute it at one input. -/
def fnVariableSymmetryWrong : ChangeSpec := { name := "fnVariableSymmetry", fn := fun _ => fun
  | [d] => { results := [.lit (.bool false)], args := [d] }
  | _ => none }
def FnVariableSymmetryWrongFalsely : Prop := fnVariableSymmetryRow.holds Tryz.pinned (OpenSpec.ofChange fnVariableSymmetryWrong)

/- THE SECOND FORM. 'bulk': how many values and letters a reading holds, each counted each time it is reached (what is shared counts as often as it is met; a slice's spare places count too). A statement '..UptoSaid' is the law's where the arguments, and the package variables that the reading takes, are together of bulk at most 1048576: NARROWER than '..Said'. Prove '..Said' where nothing that the law and all that it calls make is longer than what came in: it says more and counts as full. Else prove '..UptoSaid'. A law counts once. -/
mutual
def uptoBulk {H : Type} : DataW H → Nat
  | .lit (.string bytes) => bytes.length + 1
  | .lit _ => 1
  | .nil => 1
  | .ptr d => uptoBulk d + 1
  | .slice elems spare => uptoBulkAll elems + uptoBulkAll spare + 1
  | .agg parts => uptoBulkAll parts + 1
  | .iface _ d => uptoBulk d + 1
  | .map entries => uptoBulkEntries entries + 1
  | .held _ => 1
def uptoBulkAll {H : Type} : List (DataW H) → Nat
  | [] => 0
  | d :: r => uptoBulk d + uptoBulkAll r
def uptoBulkEntries {H : Type} : List (Lit × DataW H) → Nat
  | [] => 0
  | x :: r => uptoBulkEntry x + uptoBulkEntries r
def uptoBulkEntry {H : Type} : Lit × DataW H → Nat
  | (.string bytes, d) => bytes.length + uptoBulk d + 1
  | (_, d) => uptoBulk d + 1
 end
def uptoSmall : (H : Type) → List (DataW H) → Bool := fun _ ds => decide (uptoBulkAll ds ≤ 1048576)
def OpenSpec.upto (s : _root_.Go.ChangeSpec) : _root_.Go.OpenSpec := { _root_.Go.OpenSpec.ofChange s with cond := some uptoSmall }

/-- 'laws.FnExactMinimize', WHERE WHAT IT READS IS OF BULK AT MOST 1048576: true; the input reads as it did. -/
def fnExactMinimizeUptoRow : OpenClaim := { program := "ytjmjjdgbkibdaaagreat", sum := "89faafb9b8de0cf11e1707a0259104969bad0c131c89f2dfcf44c70e22f1760a", func := "loop.example/constraintsolver/laws.FnExactMinimize", spec := "fnExactMinimize", unfollowed := true, recurses := true, apart := false, narrowed := true }
def FnExactMinimizeUptoSaid : Prop := fnExactMinimizeUptoRow.holds Tryz.pinned (OpenSpec.upto fnExactMinimizeSpec)

/-- 'laws.FnExactRepair', WHERE WHAT IT READS IS OF BULK AT MOST 1048576: true; the input reads as it did. -/
def fnExactRepairUptoRow : OpenClaim := { program := "ytjmjjdgbkibdaaagreat", sum := "89faafb9b8de0cf11e1707a0259104969bad0c131c89f2dfcf44c70e22f1760a", func := "loop.example/constraintsolver/laws.FnExactRepair", spec := "fnExactRepair", unfollowed := true, recurses := true, apart := false, narrowed := true }
def FnExactRepairUptoSaid : Prop := fnExactRepairUptoRow.holds Tryz.pinned (OpenSpec.upto fnExactRepairSpec)

/-- 'laws.FnExactCanonicalSolutions', WHERE WHAT IT READS IS OF BULK AT MOST 1048576: true; the input reads as it did. -/
def fnExactCanonicalSolutionsUptoRow : OpenClaim := { program := "ytjmjjdgbkibdaaagreat", sum := "89faafb9b8de0cf11e1707a0259104969bad0c131c89f2dfcf44c70e22f1760a", func := "loop.example/constraintsolver/laws.FnExactCanonicalSolutions", spec := "fnExactCanonicalSolutions", unfollowed := true, recurses := true, apart := false, narrowed := true }
def FnExactCanonicalSolutionsUptoSaid : Prop := fnExactCanonicalSolutionsUptoRow.holds Tryz.pinned (OpenSpec.upto fnExactCanonicalSolutionsSpec)

/-- 'laws.FnExactImprove', WHERE WHAT IT READS IS OF BULK AT MOST 1048576: true; the input reads as it did. -/
def fnExactImproveUptoRow : OpenClaim := { program := "ytjmjjdgbkibdaaagreat", sum := "89faafb9b8de0cf11e1707a0259104969bad0c131c89f2dfcf44c70e22f1760a", func := "loop.example/constraintsolver/laws.FnExactImprove", spec := "fnExactImprove", unfollowed := true, recurses := true, apart := false, narrowed := true }
def FnExactImproveUptoSaid : Prop := fnExactImproveUptoRow.holds Tryz.pinned (OpenSpec.upto fnExactImproveSpec)

/-- 'laws.FnExactLocalSearch', WHERE WHAT IT READS IS OF BULK AT MOST 1048576: true; the input reads as it did. -/
def fnExactLocalSearchUptoRow : OpenClaim := { program := "ytjmjjdgbkibdaaagreat", sum := "89faafb9b8de0cf11e1707a0259104969bad0c131c89f2dfcf44c70e22f1760a", func := "loop.example/constraintsolver/laws.FnExactLocalSearch", spec := "fnExactLocalSearch", unfollowed := true, recurses := true, apart := false, narrowed := true }
def FnExactLocalSearchUptoSaid : Prop := fnExactLocalSearchUptoRow.holds Tryz.pinned (OpenSpec.upto fnExactLocalSearchSpec)

/-- 'laws.FnMinimizeCut', WHERE WHAT IT READS IS OF BULK AT MOST 1048576: true; the input reads as it did. -/
def fnMinimizeCutUptoRow : OpenClaim := { program := "ytjmjjdgbkibdaaagreat", sum := "89faafb9b8de0cf11e1707a0259104969bad0c131c89f2dfcf44c70e22f1760a", func := "loop.example/constraintsolver/laws.FnMinimizeCut", spec := "fnMinimizeCut", unfollowed := true, recurses := true, apart := false, narrowed := true }
def FnMinimizeCutUptoSaid : Prop := fnMinimizeCutUptoRow.holds Tryz.pinned (OpenSpec.upto fnMinimizeCutSpec)

/-- 'laws.FnParetoFront', WHERE WHAT IT READS IS OF BULK AT MOST 1048576: true; the input reads as it did. -/
def fnParetoFrontUptoRow : OpenClaim := { program := "ytjmjjdgbkibdaaagreat", sum := "89faafb9b8de0cf11e1707a0259104969bad0c131c89f2dfcf44c70e22f1760a", func := "loop.example/constraintsolver/laws.FnParetoFront", spec := "fnParetoFront", unfollowed := true, recurses := true, apart := false, narrowed := true }
def FnParetoFrontUptoSaid : Prop := fnParetoFrontUptoRow.holds Tryz.pinned (OpenSpec.upto fnParetoFrontSpec)

/-- 'laws.FnRepair', WHERE WHAT IT READS IS OF BULK AT MOST 1048576: true; the input reads as it did. -/
def fnRepairUptoRow : OpenClaim := { program := "ytjmjjdgbkibdaaagreat", sum := "89faafb9b8de0cf11e1707a0259104969bad0c131c89f2dfcf44c70e22f1760a", func := "loop.example/constraintsolver/laws.FnRepair", spec := "fnRepair", unfollowed := true, recurses := true, apart := false, narrowed := true }
def FnRepairUptoSaid : Prop := fnRepairUptoRow.holds Tryz.pinned (OpenSpec.upto fnRepairSpec)

/-- 'laws.FnNextSolution', WHERE WHAT IT READS IS OF BULK AT MOST 1048576: true; the input reads as it did. -/
def fnNextSolutionUptoRow : OpenClaim := { program := "ytjmjjdgbkibdaaagreat", sum := "89faafb9b8de0cf11e1707a0259104969bad0c131c89f2dfcf44c70e22f1760a", func := "loop.example/constraintsolver/laws.FnNextSolution", spec := "fnNextSolution", unfollowed := true, recurses := true, apart := false, narrowed := true }
def FnNextSolutionUptoSaid : Prop := fnNextSolutionUptoRow.holds Tryz.pinned (OpenSpec.upto fnNextSolutionSpec)

/-- 'laws.FnOrbits', WHERE WHAT IT READS IS OF BULK AT MOST 1048576: true; the input reads as it did. -/
def fnOrbitsUptoRow : OpenClaim := { program := "ytjmjjdgbkibdaaagreat", sum := "89faafb9b8de0cf11e1707a0259104969bad0c131c89f2dfcf44c70e22f1760a", func := "loop.example/constraintsolver/laws.FnOrbits", spec := "fnOrbits", unfollowed := true, recurses := true, apart := false, narrowed := true }
def FnOrbitsUptoSaid : Prop := fnOrbitsUptoRow.holds Tryz.pinned (OpenSpec.upto fnOrbitsSpec)

/-- 'laws.FnExactSolveSoft', WHERE WHAT IT READS IS OF BULK AT MOST 1048576: true; the input reads as it did. -/
def fnExactSolveSoftUptoRow : OpenClaim := { program := "ytjmjjdgbkibdaaagreat", sum := "89faafb9b8de0cf11e1707a0259104969bad0c131c89f2dfcf44c70e22f1760a", func := "loop.example/constraintsolver/laws.FnExactSolveSoft", spec := "fnExactSolveSoft", unfollowed := true, recurses := true, apart := false, narrowed := true }
def FnExactSolveSoftUptoSaid : Prop := fnExactSolveSoftUptoRow.holds Tryz.pinned (OpenSpec.upto fnExactSolveSoftSpec)

/-- 'laws.FnExactHardest', WHERE WHAT IT READS IS OF BULK AT MOST 1048576: true; the input reads as it did. -/
def fnExactHardestUptoRow : OpenClaim := { program := "ytjmjjdgbkibdaaagreat", sum := "89faafb9b8de0cf11e1707a0259104969bad0c131c89f2dfcf44c70e22f1760a", func := "loop.example/constraintsolver/laws.FnExactHardest", spec := "fnExactHardest", unfollowed := true, recurses := true, apart := false, narrowed := true }
def FnExactHardestUptoSaid : Prop := fnExactHardestUptoRow.holds Tryz.pinned (OpenSpec.upto fnExactHardestSpec)

/-- 'laws.FnCanonical', WHERE WHAT IT READS IS OF BULK AT MOST 1048576: true; the input reads as it did. -/
def fnCanonicalUptoRow : OpenClaim := { program := "ytjmjjdgbkibdaaagreat", sum := "89faafb9b8de0cf11e1707a0259104969bad0c131c89f2dfcf44c70e22f1760a", func := "loop.example/constraintsolver/laws.FnCanonical", spec := "fnCanonical", unfollowed := true, recurses := true, apart := false, narrowed := true }
def FnCanonicalUptoSaid : Prop := fnCanonicalUptoRow.holds Tryz.pinned (OpenSpec.upto fnCanonicalSpec)

/-- 'laws.FnVariableSymmetry', WHERE WHAT IT READS IS OF BULK AT MOST 1048576: true; the input reads as it did. -/
def fnVariableSymmetryUptoRow : OpenClaim := { program := "ytjmjjdgbkibdaaagreat", sum := "89faafb9b8de0cf11e1707a0259104969bad0c131c89f2dfcf44c70e22f1760a", func := "loop.example/constraintsolver/laws.FnVariableSymmetry", spec := "fnVariableSymmetry", unfollowed := true, recurses := true, apart := false, narrowed := true }
def FnVariableSymmetryUptoSaid : Prop := fnVariableSymmetryUptoRow.holds Tryz.pinned (OpenSpec.upto fnVariableSymmetrySpec)

end Rows
end Go.Proofs.YtjmjjdgbkibdaaaGreat
