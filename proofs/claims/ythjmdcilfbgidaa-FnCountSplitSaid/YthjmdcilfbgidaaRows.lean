/-
  No cell of these rows narrows 'for every input' (looked for: loops, veiled, ifaces, maps, wideKeys, modest, calm, conditions, laid).
  DERIVED. THE GIVEN ROWS OF THIS SEAT. 8 by the template 'for every input the law returns true; each argument reads behind the call as it read before'; 0 by the template 'total and deterministic' (their statements: YthjmdcilfbgidaaTotals.lean).
  GIVEN WITH THE SEED: the statements are not yours to turn. If you find one false, say at which input.
  Laid BY PROGRAM, IN A SANDBOX (cutbox-rows.mjs): the forced cells as the released guide's own fill.sh prints them over the translation 18d0961ddc8f1c0e… (all of the seat's roots in one cut). By AI agents, Wed Nov 11 2026. No macro, syntax, notation, axiom, sorry.
-/
import Derived.Test.YthjmdcilfbgidaaChecked
import GoSem.Claim
import GoSem.ClaimJoined
import GoSem.ClaimMapViews
import Derived.JoinedTies
import Derived.KernelRfl
namespace Go.Proofs.Ythjmdcilfbgidaa
/- THE CELL 'sum', in the pinned program and in every row, IS THE sha256 OF THE DUMP (.gsa) THAT YthjmdcilfbgidaaProg.lean LOADS. Nothing in Lean hashes anything: it is a label: what it is worth is what the hold of that sum in a sandbox is worth. -/
noncomputable def Try.pinned : Pinned := { name := "ythjmdcilfbgidaa", sum := "18d0961ddc8f1c0e8cb5aef88570de1597d592b96fde0482fed1c3dff564fe01", checked := Try.checked }
namespace Rows
def none {H : Type} : Left H := { results := [], args := [] }

/-- 'laws.FnIsConsistent': WHATEVER THE INPUT: true; the input reads as it did. -/
def fnIsConsistentSpec : ChangeSpec := { name := "fnIsConsistent", fn := fun _ => fun
  | [d] => { results := [.lit (.bool true)], args := [d] }
  | _ => none }
def fnIsConsistentRow : OpenClaim := { program := "ythjmdcilfbgidaa", sum := "18d0961ddc8f1c0e8cb5aef88570de1597d592b96fde0482fed1c3dff564fe01", func := "loop.example/constraintsolver/laws.FnIsConsistent", spec := "fnIsConsistent", unfollowed := true, recurses := true, apart := false }
def FnIsConsistentSaid : Prop := fnIsConsistentRow.holds Try.pinned (OpenSpec.ofChange fnIsConsistentSpec)

/-- ITS FALSE NEIGHBOUR: 'it returns false'. Refute it at one input. -/
def fnIsConsistentWrong : ChangeSpec := { name := "fnIsConsistent", fn := fun _ => fun
  | [d] => { results := [.lit (.bool false)], args := [d] }
  | _ => none }
def FnIsConsistentWrongFalsely : Prop := fnIsConsistentRow.holds Try.pinned (OpenSpec.ofChange fnIsConsistentWrong)

/-- 'laws.FnPropagateFixpoint': WHATEVER THE INPUT: true; the input reads as it did. -/
def fnPropagateFixpointSpec : ChangeSpec := { name := "fnPropagateFixpoint", fn := fun _ => fun
  | [d] => { results := [.lit (.bool true)], args := [d] }
  | _ => none }
def fnPropagateFixpointRow : OpenClaim := { program := "ythjmdcilfbgidaa", sum := "18d0961ddc8f1c0e8cb5aef88570de1597d592b96fde0482fed1c3dff564fe01", func := "loop.example/constraintsolver/laws.FnPropagateFixpoint", spec := "fnPropagateFixpoint", unfollowed := true, recurses := true, apart := false }
def FnPropagateFixpointSaid : Prop := fnPropagateFixpointRow.holds Try.pinned (OpenSpec.ofChange fnPropagateFixpointSpec)

/-- ITS FALSE NEIGHBOUR: 'it returns false'. Refute it at one input. -/
def fnPropagateFixpointWrong : ChangeSpec := { name := "fnPropagateFixpoint", fn := fun _ => fun
  | [d] => { results := [.lit (.bool false)], args := [d] }
  | _ => none }
def FnPropagateFixpointWrongFalsely : Prop := fnPropagateFixpointRow.holds Try.pinned (OpenSpec.ofChange fnPropagateFixpointWrong)

/-- 'laws.FnIsEntailed': WHATEVER THE INPUT: true; the input reads as it did. -/
def fnIsEntailedSpec : ChangeSpec := { name := "fnIsEntailed", fn := fun _ => fun
  | [d] => { results := [.lit (.bool true)], args := [d] }
  | _ => none }
def fnIsEntailedRow : OpenClaim := { program := "ythjmdcilfbgidaa", sum := "18d0961ddc8f1c0e8cb5aef88570de1597d592b96fde0482fed1c3dff564fe01", func := "loop.example/constraintsolver/laws.FnIsEntailed", spec := "fnIsEntailed", unfollowed := true, recurses := true, apart := false }
def FnIsEntailedSaid : Prop := fnIsEntailedRow.holds Try.pinned (OpenSpec.ofChange fnIsEntailedSpec)

/-- ITS FALSE NEIGHBOUR: 'it returns false'. Refute it at one input. -/
def fnIsEntailedWrong : ChangeSpec := { name := "fnIsEntailed", fn := fun _ => fun
  | [d] => { results := [.lit (.bool false)], args := [d] }
  | _ => none }
def FnIsEntailedWrongFalsely : Prop := fnIsEntailedRow.holds Try.pinned (OpenSpec.ofChange fnIsEntailedWrong)

/-- 'laws.FnExactPropagate': WHATEVER THE INPUT: true; the input reads as it did. -/
def fnExactPropagateSpec : ChangeSpec := { name := "fnExactPropagate", fn := fun _ => fun
  | [d] => { results := [.lit (.bool true)], args := [d] }
  | _ => none }
def fnExactPropagateRow : OpenClaim := { program := "ythjmdcilfbgidaa", sum := "18d0961ddc8f1c0e8cb5aef88570de1597d592b96fde0482fed1c3dff564fe01", func := "loop.example/constraintsolver/laws.FnExactPropagate", spec := "fnExactPropagate", unfollowed := true, recurses := true, apart := false }
def FnExactPropagateSaid : Prop := fnExactPropagateRow.holds Try.pinned (OpenSpec.ofChange fnExactPropagateSpec)

/-- ITS FALSE NEIGHBOUR: 'it returns false'. Refute it at one input. -/
def fnExactPropagateWrong : ChangeSpec := { name := "fnExactPropagate", fn := fun _ => fun
  | [d] => { results := [.lit (.bool false)], args := [d] }
  | _ => none }
def FnExactPropagateWrongFalsely : Prop := fnExactPropagateRow.holds Try.pinned (OpenSpec.ofChange fnExactPropagateWrong)

/-- 'laws.FnPropagateSound': WHATEVER THE INPUT: true; the input reads as it did. -/
def fnPropagateSoundSpec : ChangeSpec := { name := "fnPropagateSound", fn := fun _ => fun
  | [d] => { results := [.lit (.bool true)], args := [d] }
  | _ => none }
def fnPropagateSoundRow : OpenClaim := { program := "ythjmdcilfbgidaa", sum := "18d0961ddc8f1c0e8cb5aef88570de1597d592b96fde0482fed1c3dff564fe01", func := "loop.example/constraintsolver/laws.FnPropagateSound", spec := "fnPropagateSound", unfollowed := true, recurses := true, apart := false }
def FnPropagateSoundSaid : Prop := fnPropagateSoundRow.holds Try.pinned (OpenSpec.ofChange fnPropagateSoundSpec)

/-- ITS FALSE NEIGHBOUR: 'it returns false'. Refute it at one input. -/
def fnPropagateSoundWrong : ChangeSpec := { name := "fnPropagateSound", fn := fun _ => fun
  | [d] => { results := [.lit (.bool false)], args := [d] }
  | _ => none }
def FnPropagateSoundWrongFalsely : Prop := fnPropagateSoundRow.holds Try.pinned (OpenSpec.ofChange fnPropagateSoundWrong)

/-- 'laws.FnExactCountSolutions': WHATEVER THE INPUT: true; the input reads as it did. -/
def fnExactCountSolutionsSpec : ChangeSpec := { name := "fnExactCountSolutions", fn := fun _ => fun
  | [d] => { results := [.lit (.bool true)], args := [d] }
  | _ => none }
def fnExactCountSolutionsRow : OpenClaim := { program := "ythjmdcilfbgidaa", sum := "18d0961ddc8f1c0e8cb5aef88570de1597d592b96fde0482fed1c3dff564fe01", func := "loop.example/constraintsolver/laws.FnExactCountSolutions", spec := "fnExactCountSolutions", unfollowed := true, recurses := true, apart := false }
def FnExactCountSolutionsSaid : Prop := fnExactCountSolutionsRow.holds Try.pinned (OpenSpec.ofChange fnExactCountSolutionsSpec)

/-- ITS FALSE NEIGHBOUR: 'it returns false'. Refute it at one input. -/
def fnExactCountSolutionsWrong : ChangeSpec := { name := "fnExactCountSolutions", fn := fun _ => fun
  | [d] => { results := [.lit (.bool false)], args := [d] }
  | _ => none }
def FnExactCountSolutionsWrongFalsely : Prop := fnExactCountSolutionsRow.holds Try.pinned (OpenSpec.ofChange fnExactCountSolutionsWrong)

/-- 'laws.FnCountSplit': WHATEVER THE INPUT: true; the input reads as it did. -/
def fnCountSplitSpec : ChangeSpec := { name := "fnCountSplit", fn := fun _ => fun
  | [d1, d2] => { results := [.lit (.bool true)], args := [d1, d2] }
  | _ => none }
def fnCountSplitRow : OpenClaim := { program := "ythjmdcilfbgidaa", sum := "18d0961ddc8f1c0e8cb5aef88570de1597d592b96fde0482fed1c3dff564fe01", func := "loop.example/constraintsolver/laws.FnCountSplit", spec := "fnCountSplit", unfollowed := true, recurses := true, apart := false }
def FnCountSplitSaid : Prop := fnCountSplitRow.holds Try.pinned (OpenSpec.ofChange fnCountSplitSpec)

/-- ITS FALSE NEIGHBOUR: 'it returns false'. Refute it at one input. -/
def fnCountSplitWrong : ChangeSpec := { name := "fnCountSplit", fn := fun _ => fun
  | [d1, d2] => { results := [.lit (.bool false)], args := [d1, d2] }
  | _ => none }
def FnCountSplitWrongFalsely : Prop := fnCountSplitRow.holds Try.pinned (OpenSpec.ofChange fnCountSplitWrong)

/-- 'laws.FnSolveAll': WHATEVER THE INPUT: true; the input reads as it did. -/
def fnSolveAllSpec : ChangeSpec := { name := "fnSolveAll", fn := fun _ => fun
  | [d] => { results := [.lit (.bool true)], args := [d] }
  | _ => none }
def fnSolveAllRow : OpenClaim := { program := "ythjmdcilfbgidaa", sum := "18d0961ddc8f1c0e8cb5aef88570de1597d592b96fde0482fed1c3dff564fe01", func := "loop.example/constraintsolver/laws.FnSolveAll", spec := "fnSolveAll", unfollowed := true, recurses := true, apart := false }
def FnSolveAllSaid : Prop := fnSolveAllRow.holds Try.pinned (OpenSpec.ofChange fnSolveAllSpec)

/-- ITS FALSE NEIGHBOUR: 'it returns false'. Refute it at one input. -/
def fnSolveAllWrong : ChangeSpec := { name := "fnSolveAll", fn := fun _ => fun
  | [d] => { results := [.lit (.bool false)], args := [d] }
  | _ => none }
def FnSolveAllWrongFalsely : Prop := fnSolveAllRow.holds Try.pinned (OpenSpec.ofChange fnSolveAllWrong)

/- THE SECOND FORM. 'bulk': how many values and letters a reading holds, each counted each time it is reached (what is shared counts as often as it is met; a slice's spare places count too). A statement '..UptoSaid' is the law's where the arguments, and the package variables that the reading takes, are together of bulk at most 1048576: NARROWER than '..Said'. Prove '..Said' where nothing that the law and all that it calls make is longer than what came in: it says more and counts as full. Else prove '..UptoSaid'. A law counts once. -/
mutual
def uptoBulk {H : Type} : DataW H → Nat
  | .lit (.string bytes) => bytes.length + 1
  | .lit _ => 1
  | .nil => 1
  | .ptr d => uptoBulk d + 1
  | .slice elems spare => uptoBulkAll elems + uptoBulkAll spare + 1
  | .agg parts => uptoBulkAll parts + 1
  | .iface _ d => uptoBulk d + 1
  | .map entries => uptoBulkEntries entries + 1
  | .held _ => 1
def uptoBulkAll {H : Type} : List (DataW H) → Nat
  | [] => 0
  | d :: r => uptoBulk d + uptoBulkAll r
def uptoBulkEntries {H : Type} : List (Lit × DataW H) → Nat
  | [] => 0
  | x :: r => uptoBulkEntry x + uptoBulkEntries r
def uptoBulkEntry {H : Type} : Lit × DataW H → Nat
  | (.string bytes, d) => bytes.length + uptoBulk d + 1
  | (_, d) => uptoBulk d + 1
 end
def uptoSmall : (H : Type) → List (DataW H) → Bool := fun _ ds => decide (uptoBulkAll ds ≤ 1048576)
def OpenSpec.upto (s : _root_.Go.ChangeSpec) : _root_.Go.OpenSpec := { _root_.Go.OpenSpec.ofChange s with cond := some uptoSmall }

/-- 'laws.FnIsConsistent', WHERE WHAT IT READS IS OF BULK AT MOST 1048576: true; the input reads as it did. -/
def fnIsConsistentUptoRow : OpenClaim := { program := "ythjmdcilfbgidaa", sum := "18d0961ddc8f1c0e8cb5aef88570de1597d592b96fde0482fed1c3dff564fe01", func := "loop.example/constraintsolver/laws.FnIsConsistent", spec := "fnIsConsistent", unfollowed := true, recurses := true, apart := false, narrowed := true }
def FnIsConsistentUptoSaid : Prop := fnIsConsistentUptoRow.holds Try.pinned (OpenSpec.upto fnIsConsistentSpec)

/-- 'laws.FnPropagateFixpoint', WHERE WHAT IT READS IS OF BULK AT MOST 1048576: true; the input reads as it did. -/
def fnPropagateFixpointUptoRow : OpenClaim := { program := "ythjmdcilfbgidaa", sum := "18d0961ddc8f1c0e8cb5aef88570de1597d592b96fde0482fed1c3dff564fe01", func := "loop.example/constraintsolver/laws.FnPropagateFixpoint", spec := "fnPropagateFixpoint", unfollowed := true, recurses := true, apart := false, narrowed := true }
def FnPropagateFixpointUptoSaid : Prop := fnPropagateFixpointUptoRow.holds Try.pinned (OpenSpec.upto fnPropagateFixpointSpec)

/-- 'laws.FnIsEntailed', WHERE WHAT IT READS IS OF BULK AT MOST 1048576: true; the input reads as it did. -/
def fnIsEntailedUptoRow : OpenClaim := { program := "ythjmdcilfbgidaa", sum := "18d0961ddc8f1c0e8cb5aef88570de1597d592b96fde0482fed1c3dff564fe01", func := "loop.example/constraintsolver/laws.FnIsEntailed", spec := "fnIsEntailed", unfollowed := true, recurses := true, apart := false, narrowed := true }
def FnIsEntailedUptoSaid : Prop := fnIsEntailedUptoRow.holds Try.pinned (OpenSpec.upto fnIsEntailedSpec)

/-- 'laws.FnExactPropagate', WHERE WHAT IT READS IS OF BULK AT MOST 1048576: true; the input reads as it did. -/
def fnExactPropagateUptoRow : OpenClaim := { program := "ythjmdcilfbgidaa", sum := "18d0961ddc8f1c0e8cb5aef88570de1597d592b96fde0482fed1c3dff564fe01", func := "loop.example/constraintsolver/laws.FnExactPropagate", spec := "fnExactPropagate", unfollowed := true, recurses := true, apart := false, narrowed := true }
def FnExactPropagateUptoSaid : Prop := fnExactPropagateUptoRow.holds Try.pinned (OpenSpec.upto fnExactPropagateSpec)

/-- 'laws.FnPropagateSound', WHERE WHAT IT READS IS OF BULK AT MOST 1048576: true; the input reads as it did. -/
def fnPropagateSoundUptoRow : OpenClaim := { program := "ythjmdcilfbgidaa", sum := "18d0961ddc8f1c0e8cb5aef88570de1597d592b96fde0482fed1c3dff564fe01", func := "loop.example/constraintsolver/laws.FnPropagateSound", spec := "fnPropagateSound", unfollowed := true, recurses := true, apart := false, narrowed := true }
def FnPropagateSoundUptoSaid : Prop := fnPropagateSoundUptoRow.holds Try.pinned (OpenSpec.upto fnPropagateSoundSpec)

/-- 'laws.FnExactCountSolutions', WHERE WHAT IT READS IS OF BULK AT MOST 1048576: true; the input reads as it did. -/
def fnExactCountSolutionsUptoRow : OpenClaim := { program := "ythjmdcilfbgidaa", sum := "18d0961ddc8f1c0e8cb5aef88570de1597d592b96fde0482fed1c3dff564fe01", func := "loop.example/constraintsolver/laws.FnExactCountSolutions", spec := "fnExactCountSolutions", unfollowed := true, recurses := true, apart := false, narrowed := true }
def FnExactCountSolutionsUptoSaid : Prop := fnExactCountSolutionsUptoRow.holds Try.pinned (OpenSpec.upto fnExactCountSolutionsSpec)

/-- 'laws.FnCountSplit', WHERE WHAT IT READS IS OF BULK AT MOST 1048576: true; the input reads as it did. -/
def fnCountSplitUptoRow : OpenClaim := { program := "ythjmdcilfbgidaa", sum := "18d0961ddc8f1c0e8cb5aef88570de1597d592b96fde0482fed1c3dff564fe01", func := "loop.example/constraintsolver/laws.FnCountSplit", spec := "fnCountSplit", unfollowed := true, recurses := true, apart := false, narrowed := true }
def FnCountSplitUptoSaid : Prop := fnCountSplitUptoRow.holds Try.pinned (OpenSpec.upto fnCountSplitSpec)

/-- 'laws.FnSolveAll', WHERE WHAT IT READS IS OF BULK AT MOST 1048576: true; the input reads as it did. -/
def fnSolveAllUptoRow : OpenClaim := { program := "ythjmdcilfbgidaa", sum := "18d0961ddc8f1c0e8cb5aef88570de1597d592b96fde0482fed1c3dff564fe01", func := "loop.example/constraintsolver/laws.FnSolveAll", spec := "fnSolveAll", unfollowed := true, recurses := true, apart := false, narrowed := true }
def FnSolveAllUptoSaid : Prop := fnSolveAllUptoRow.holds Try.pinned (OpenSpec.upto fnSolveAllSpec)

end Rows
end Go.Proofs.Ythjmdcilfbgidaa
