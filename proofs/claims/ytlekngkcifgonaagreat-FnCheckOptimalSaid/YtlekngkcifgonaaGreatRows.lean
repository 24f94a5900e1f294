/-
  No cell of these rows narrows 'for every input' (looked for: loops, veiled, ifaces, maps, wideKeys, modest, calm, conditions, laid).
  DERIVED. THE GIVEN ROWS OF THIS SEAT. 10 by the template 'for every input the law returns true; each argument reads behind the call as it read before'; 0 by the template 'total and deterministic' (their statements: YtlekngkcifgonaaGreatTotals.lean).
  GIVEN WITH THE SEED: the statements are not yours to turn. If you find one false, say at which input.
  Laid BY PROGRAM, IN A SANDBOX (cutbox-rows.mjs): the forced cells as the released guide's own fill.sh prints them over the translation 475166d569cfb032… (all of the seat's roots in one cut). By AI agents, Wed Nov 11 2026. No macro, syntax, notation, axiom, sorry.
-/
import Derived.Test.YtlekngkcifgonaaGreatChecked
import GoSem.Claim
import GoSem.ClaimJoined
import GoSem.ClaimMapViews
import Derived.JoinedTies
import Derived.KernelRfl
namespace Go.Proofs.YtlekngkcifgonaaGreat
/- THE CELL 'sum', in the pinned program and in every row, IS THE sha256 OF THE DUMP (.gsa) THAT YtlekngkcifgonaaGreatProg.lean LOADS. Nothing in Lean hashes anything: it is a label: what it is worth is what the hold of that sum in a sandbox is worth. -/
noncomputable def Tryz.pinned : Pinned := { name := "ytlekngkcifgonaagreat", sum := "475166d569cfb03214018d8fc43eb256e121070f69d9a44cf0c72474b9a66c0a", checked := Tryz.checked }
namespace Rows
def none {H : Type} : Left H := { results := [], args := [] }

/-- 'laws.FnProveOptimal': WHATEVER THE INPUT: true; the input reads as it did. -/
def fnProveOptimalSpec : ChangeSpec := { name := "fnProveOptimal", fn := fun _ => fun
  | [d] => { results := [.lit (.bool true)], args := [d] }
  | _ => none }
def fnProveOptimalRow : OpenClaim := { program := "ytlekngkcifgonaagreat", sum := "475166d569cfb03214018d8fc43eb256e121070f69d9a44cf0c72474b9a66c0a", func := "loop.example/constraintsolver/laws.FnProveOptimal", spec := "fnProveOptimal", unfollowed := true, recurses := true, plainKeys := false, apart := false }
def FnProveOptimalSaid : Prop := fnProveOptimalRow.holds Tryz.pinned (OpenSpec.ofChange fnProveOptimalSpec)

/-- ITS FALSE NEIGHBOUR: 'it returns false'. Refute it at one input. -/
def fnProveOptimalWrong : ChangeSpec := { name := "fnProveOptimal", fn := fun _ => fun
  | [d] => { results := [.lit (.bool false)], args := [d] }
  | _ => none }
def FnProveOptimalWrongFalsely : Prop := fnProveOptimalRow.holds Tryz.pinned (OpenSpec.ofChange fnProveOptimalWrong)

/-- 'laws.FnCheckOptimal': WHATEVER THE INPUT: true; the input reads as it did. -/
def fnCheckOptimalSpec : ChangeSpec := { name := "fnCheckOptimal", fn := fun _ => fun
  | [d] => { results := [.lit (.bool true)], args := [d] }
  | _ => none }
def fnCheckOptimalRow : OpenClaim := { program := "ytlekngkcifgonaagreat", sum := "475166d569cfb03214018d8fc43eb256e121070f69d9a44cf0c72474b9a66c0a", func := "loop.example/constraintsolver/laws.FnCheckOptimal", spec := "fnCheckOptimal", unfollowed := true, recurses := true, plainKeys := false, apart := false }
def FnCheckOptimalSaid : Prop := fnCheckOptimalRow.holds Tryz.pinned (OpenSpec.ofChange fnCheckOptimalSpec)

/-- ITS FALSE NEIGHBOUR: 'it returns false'. Refute it at one input. -/
def fnCheckOptimalWrong : ChangeSpec := { name := "fnCheckOptimal", fn := fun _ => fun
  | [d] => { results := [.lit (.bool false)], args := [d] }
  | _ => none }
def FnCheckOptimalWrongFalsely : Prop := fnCheckOptimalRow.holds Tryz.pinned (OpenSpec.ofChange fnCheckOptimalWrong)

/-- 'laws.FnDecideOrder': WHATEVER THE INPUT: true; the input reads as it did. -/
def fnDecideOrderSpec : ChangeSpec := { name := "fnDecideOrder", fn := fun _ => fun
  | [d1, d2] => { results := [.lit (.bool true)], args := [d1, d2] }
  | _ => none }
def fnDecideOrderRow : OpenClaim := { program := "ytlekngkcifgonaagreat", sum := "475166d569cfb03214018d8fc43eb256e121070f69d9a44cf0c72474b9a66c0a", func := "loop.example/constraintsolver/laws.FnDecideOrder", spec := "fnDecideOrder", unfollowed := true, recurses := true, plainKeys := false, apart := false }
def FnDecideOrderSaid : Prop := fnDecideOrderRow.holds Tryz.pinned (OpenSpec.ofChange fnDecideOrderSpec)

/-- ITS FALSE NEIGHBOUR: 'it returns false'. Refute it at one input. -/
def fnDecideOrderWrong : ChangeSpec := { name := "fnDecideOrder", fn := fun _ => fun
  | [d1, d2] => { results := [.lit (.bool false)], args := [d1, d2] }
  | _ => none }
def FnDecideOrderWrongFalsely : Prop := fnDecideOrderRow.holds Tryz.pinned (OpenSpec.ofChange fnDecideOrderWrong)

/-- 'laws.FnBuildDiagram': WHATEVER THE INPUT: true; the input reads as it did. -/
def fnBuildDiagramSpec : ChangeSpec := { name := "fnBuildDiagram", fn := fun _ => fun
  | [d] => { results := [.lit (.bool true)], args := [d] }
  | _ => none }
def fnBuildDiagramRow : OpenClaim := { program := "ytlekngkcifgonaagreat", sum := "475166d569cfb03214018d8fc43eb256e121070f69d9a44cf0c72474b9a66c0a", func := "loop.example/constraintsolver/laws.FnBuildDiagram", spec := "fnBuildDiagram", unfollowed := true, recurses := true, plainKeys := false, apart := false }
def FnBuildDiagramSaid : Prop := fnBuildDiagramRow.holds Tryz.pinned (OpenSpec.ofChange fnBuildDiagramSpec)

/-- ITS FALSE NEIGHBOUR: 'it returns false'. Refute it at one input. -/
def fnBuildDiagramWrong : ChangeSpec := { name := "fnBuildDiagram", fn := fun _ => fun
  | [d] => { results := [.lit (.bool false)], args := [d] }
  | _ => none }
def FnBuildDiagramWrongFalsely : Prop := fnBuildDiagramRow.holds Tryz.pinned (OpenSpec.ofChange fnBuildDiagramWrong)

/-- 'laws.FnDecide': WHATEVER THE INPUT: true; the input reads as it did. -/
def fnDecideSpec : ChangeSpec := { name := "fnDecide", fn := fun _ => fun
  | [d] => { results := [.lit (.bool true)], args := [d] }
  | _ => none }
def fnDecideRow : OpenClaim := { program := "ytlekngkcifgonaagreat", sum := "475166d569cfb03214018d8fc43eb256e121070f69d9a44cf0c72474b9a66c0a", func := "loop.example/constraintsolver/laws.FnDecide", spec := "fnDecide", unfollowed := true, recurses := true, plainKeys := false, apart := false }
def FnDecideSaid : Prop := fnDecideRow.holds Tryz.pinned (OpenSpec.ofChange fnDecideSpec)

/-- ITS FALSE NEIGHBOUR: 'it returns false'. Refute it at one input. -/
def fnDecideWrong : ChangeSpec := { name := "fnDecide", fn := fun _ => fun
  | [d] => { results := [.lit (.bool false)], args := [d] }
  | _ => none }
def FnDecideWrongFalsely : Prop := fnDecideRow.holds Tryz.pinned (OpenSpec.ofChange fnDecideWrong)

/-- 'laws.FnExactDecide': WHATEVER THE INPUT: true; the input reads as it did. -/
def fnExactDecideSpec : ChangeSpec := { name := "fnExactDecide", fn := fun _ => fun
  | [d1, d2] => { results := [.lit (.bool true)], args := [d1, d2] }
  | _ => none }
def fnExactDecideRow : OpenClaim := { program := "ytlekngkcifgonaagreat", sum := "475166d569cfb03214018d8fc43eb256e121070f69d9a44cf0c72474b9a66c0a", func := "loop.example/constraintsolver/laws.FnExactDecide", spec := "fnExactDecide", unfollowed := true, recurses := true, plainKeys := false, apart := false }
def FnExactDecideSaid : Prop := fnExactDecideRow.holds Tryz.pinned (OpenSpec.ofChange fnExactDecideSpec)

/-- ITS FALSE NEIGHBOUR: 'it returns false'. Refute it at one input. -/
def fnExactDecideWrong : ChangeSpec := { name := "fnExactDecide", fn := fun _ => fun
  | [d1, d2] => { results := [.lit (.bool false)], args := [d1, d2] }
  | _ => none }
def FnExactDecideWrongFalsely : Prop := fnExactDecideRow.holds Tryz.pinned (OpenSpec.ofChange fnExactDecideWrong)

/-- 'laws.FnExactProveInfeasible': WHATEVER THE INPUT: true; the input reads as it did. -/
def fnExactProveInfeasibleSpec : ChangeSpec := { name := "fnExactProveInfeasible", fn := fun _ => fun
  | [d] => { results := [.lit (.bool true)], args := [d] }
  | _ => none }
def fnExactProveInfeasibleRow : OpenClaim := { program := "ytlekngkcifgonaagreat", sum := "475166d569cfb03214018d8fc43eb256e121070f69d9a44cf0c72474b9a66c0a", func := "loop.example/constraintsolver/laws.FnExactProveInfeasible", spec := "fnExactProveInfeasible", unfollowed := true, recurses := true, plainKeys := false, apart := false }
def FnExactProveInfeasibleSaid : Prop := fnExactProveInfeasibleRow.holds Tryz.pinned (OpenSpec.ofChange fnExactProveInfeasibleSpec)

/-- ITS FALSE NEIGHBOUR: 'it returns false'. Refute it at one input. -/
def fnExactProveInfeasibleWrong : ChangeSpec := { name := "fnExactProveInfeasible", fn := fun _ => fun
  | [d] => { results := [.lit (.bool false)], args := [d] }
  | _ => none }
def FnExactProveInfeasibleWrongFalsely : Prop := fnExactProveInfeasibleRow.holds Tryz.pinned (OpenSpec.ofChange fnExactProveInfeasibleWrong)

/-- 'laws.FnProofSound': WHATEVER THE INPUT: true; the input reads as it did. -/
def fnProofSoundSpec : ChangeSpec := { name := "fnProofSound", fn := fun _ => fun
  | [d] => { results := [.lit (.bool true)], args := [d] }
  | _ => none }
def fnProofSoundRow : OpenClaim := { program := "ytlekngkcifgonaagreat", sum := "475166d569cfb03214018d8fc43eb256e121070f69d9a44cf0c72474b9a66c0a", func := "loop.example/constraintsolver/laws.FnProofSound", spec := "fnProofSound", unfollowed := true, recurses := true, plainKeys := false, apart := false }
def FnProofSoundSaid : Prop := fnProofSoundRow.holds Tryz.pinned (OpenSpec.ofChange fnProofSoundSpec)

/-- ITS FALSE NEIGHBOUR: 'it returns false'. Refute it at one input. -/
def fnProofSoundWrong : ChangeSpec := { name := "fnProofSound", fn := fun _ => fun
  | [d] => { results := [.lit (.bool false)], args := [d] }
  | _ => none }
def FnProofSoundWrongFalsely : Prop := fnProofSoundRow.holds Tryz.pinned (OpenSpec.ofChange fnProofSoundWrong)

/-- 'laws.FnExactProveOptimal': WHATEVER THE INPUT: true; the input reads as it did. -/
def fnExactProveOptimalSpec : ChangeSpec := { name := "fnExactProveOptimal", fn := fun _ => fun
  | [d1, d2, d3] => { results := [.lit (.bool true)], args := [d1, d2, d3] }
  | _ => none }
def fnExactProveOptimalRow : OpenClaim := { program := "ytlekngkcifgonaagreat", sum := "475166d569cfb03214018d8fc43eb256e121070f69d9a44cf0c72474b9a66c0a", func := "loop.example/constraintsolver/laws.FnExactProveOptimal", spec := "fnExactProveOptimal", unfollowed := true, recurses := true, plainKeys := false, apart := false }
def FnExactProveOptimalSaid : Prop := fnExactProveOptimalRow.holds Tryz.pinned (OpenSpec.ofChange fnExactProveOptimalSpec)

/-- ITS FALSE NEIGHBOUR: 'it returns false'. Refute it at one input. -/
def fnExactProveOptimalWrong : ChangeSpec := { name := "fnExactProveOptimal", fn := fun _ => fun
  | [d1, d2, d3] => { results := [.lit (.bool false)], args := [d1, d2, d3] }
  | _ => none }
def FnExactProveOptimalWrongFalsely : Prop := fnExactProveOptimalRow.holds Tryz.pinned (OpenSpec.ofChange fnExactProveOptimalWrong)

/-- 'laws.FnExactCheckOptimal': WHATEVER THE INPUT: true; the input reads as it did. -/
def fnExactCheckOptimalSpec : ChangeSpec := { name := "fnExactCheckOptimal", fn := fun _ => fun
  | [d1, d2, d3, d4] => { results := [.lit (.bool true)], args := [d1, d2, d3, d4] }
  | _ => none }
def fnExactCheckOptimalRow : OpenClaim := { program := "ytlekngkcifgonaagreat", sum := "475166d569cfb03214018d8fc43eb256e121070f69d9a44cf0c72474b9a66c0a", func := "loop.example/constraintsolver/laws.FnExactCheckOptimal", spec := "fnExactCheckOptimal", unfollowed := true, recurses := true, plainKeys := false, apart := false }
def FnExactCheckOptimalSaid : Prop := fnExactCheckOptimalRow.holds Tryz.pinned (OpenSpec.ofChange fnExactCheckOptimalSpec)

/-- ITS FALSE NEIGHBOUR: 'it returns false'. Refute it at one input. -/
def fnExactCheckOptimalWrong : ChangeSpec := { name := "fnExactCheckOptimal", fn := fun _ => fun
  | [d1, d2, d3, d4] => { results := [.lit (.bool false)], args := [d1, d2, d3, d4] }
  | _ => none }
def FnExactCheckOptimalWrongFalsely : Prop := fnExactCheckOptimalRow.holds Tryz.pinned (OpenSpec.ofChange fnExactCheckOptimalWrong)

/- THE SECOND FORM. 'bulk': how many values and letters a reading holds, each counted each time it is reached (what is shared counts as often as it is met; a slice's spare places count too). A statement '..UptoSaid' is the law's where the arguments, and the package variables that the reading takes, are together of bulk at most 1048576: NARROWER than '..Said'. Prove '..Said' where nothing that the law and all that it calls make is longer than what came in: it says more and counts as full. Else prove '..UptoSaid'. A law counts once. -/
mutual
def uptoBulk {H : Type} : DataW H → Nat
  | .lit (.string bytes) => bytes.length + 1
  | .lit _ => 1
  | .nil => 1
  | .ptr d => uptoBulk d + 1
  | .slice elems spare => uptoBulkAll elems + uptoBulkAll spare + 1
  | .agg parts => uptoBulkAll parts + 1
  | .iface _ d => uptoBulk d + 1
  | .map entries => uptoBulkEntries entries + 1
  | .held _ => 1
def uptoBulkAll {H : Type} : List (DataW H) → Nat
  | [] => 0
  | d :: r => uptoBulk d + uptoBulkAll r
def uptoBulkEntries {H : Type} : List (Lit × DataW H) → Nat
  | [] => 0
  | x :: r => uptoBulkEntry x + uptoBulkEntries r
def uptoBulkEntry {H : Type} : Lit × DataW H → Nat
  | (.string bytes, d) => bytes.length + uptoBulk d + 1
  | (_, d) => uptoBulk d + 1
 end
def uptoSmall : (H : Type) → List (DataW H) → Bool := fun _ ds => decide (uptoBulkAll ds ≤ 1048576)
def OpenSpec.upto (s : _root_.Go.ChangeSpec) : _root_.Go.OpenSpec := { _root_.Go.OpenSpec.ofChange s with cond := some uptoSmall }

/-- 'laws.FnProveOptimal', WHERE WHAT IT READS IS OF BULK AT MOST 1048576: true; the input reads as it did. -/
def fnProveOptimalUptoRow : OpenClaim := { program := "ytlekngkcifgonaagreat", sum := "475166d569cfb03214018d8fc43eb256e121070f69d9a44cf0c72474b9a66c0a", func := "loop.example/constraintsolver/laws.FnProveOptimal", spec := "fnProveOptimal", unfollowed := true, recurses := true, plainKeys := false, apart := false, narrowed := true }
def FnProveOptimalUptoSaid : Prop := fnProveOptimalUptoRow.holds Tryz.pinned (OpenSpec.upto fnProveOptimalSpec)

/-- 'laws.FnCheckOptimal', WHERE WHAT IT READS IS OF BULK AT MOST 1048576: true; the input reads as it did. -/
def fnCheckOptimalUptoRow : OpenClaim := { program := "ytlekngkcifgonaagreat", sum := "475166d569cfb03214018d8fc43eb256e121070f69d9a44cf0c72474b9a66c0a", func := "loop.example/constraintsolver/laws.FnCheckOptimal", spec := "fnCheckOptimal", unfollowed := true, recurses := true, plainKeys := false, apart := false, narrowed := true }
def FnCheckOptimalUptoSaid : Prop := fnCheckOptimalUptoRow.holds Tryz.pinned (OpenSpec.upto fnCheckOptimalSpec)

/-- 'laws.FnDecideOrder', WHERE WHAT IT READS IS OF BULK AT MOST 1048576: true; the input reads as it did. -/
def fnDecideOrderUptoRow : OpenClaim := { program := "ytlekngkcifgonaagreat", sum := "475166d569cfb03214018d8fc43eb256e121070f69d9a44cf0c72474b9a66c0a", func := "loop.example/constraintsolver/laws.FnDecideOrder", spec := "fnDecideOrder", unfollowed := true, recurses := true, plainKeys := false, apart := false, narrowed := true }
def FnDecideOrderUptoSaid : Prop := fnDecideOrderUptoRow.holds Tryz.pinned (OpenSpec.upto fnDecideOrderSpec)

/-- 'laws.FnBuildDiagram', WHERE WHAT IT READS IS OF BULK AT MOST 1048576: true; the input reads as it did. -/
def fnBuildDiagramUptoRow : OpenClaim := { program := "ytlekngkcifgonaagreat", sum := "475166d569cfb03214018d8fc43eb256e121070f69d9a44cf0c72474b9a66c0a", func := "loop.example/constraintsolver/laws.FnBuildDiagram", spec := "fnBuildDiagram", unfollowed := true, recurses := true, plainKeys := false, apart := false, narrowed := true }
def FnBuildDiagramUptoSaid : Prop := fnBuildDiagramUptoRow.holds Tryz.pinned (OpenSpec.upto fnBuildDiagramSpec)

/-- 'laws.FnDecide', WHERE WHAT IT READS IS OF BULK AT MOST 1048576: true; the input reads as it did. -/
def fnDecideUptoRow : OpenClaim := { program := "ytlekngkcifgonaagreat", sum := "475166d569cfb03214018d8fc43eb256e121070f69d9a44cf0c72474b9a66c0a", func := "loop.example/constraintsolver/laws.FnDecide", spec := "fnDecide", unfollowed := true, recurses := true, plainKeys := false, apart := false, narrowed := true }
def FnDecideUptoSaid : Prop := fnDecideUptoRow.holds Tryz.pinned (OpenSpec.upto fnDecideSpec)

/-- 'laws.FnExactDecide', WHERE WHAT IT READS IS OF BULK AT MOST 1048576: true; the input reads as it did. -/
def fnExactDecideUptoRow : OpenClaim := { program := "ytlekngkcifgonaagreat", sum := "475166d569cfb03214018d8fc43eb256e121070f69d9a44cf0c72474b9a66c0a", func := "loop.example/constraintsolver/laws.FnExactDecide", spec := "fnExactDecide", unfollowed := true, recurses := true, plainKeys := false, apart := false, narrowed := true }
def FnExactDecideUptoSaid : Prop := fnExactDecideUptoRow.holds Tryz.pinned (OpenSpec.upto fnExactDecideSpec)

/-- 'laws.FnExactProveInfeasible', WHERE WHAT IT READS IS OF BULK AT MOST 1048576: true; the input reads as it did. -/
def fnExactProveInfeasibleUptoRow : OpenClaim := { program := "ytlekngkcifgonaagreat", sum := "475166d569cfb03214018d8fc43eb256e121070f69d9a44cf0c72474b9a66c0a", func := "loop.example/constraintsolver/laws.FnExactProveInfeasible", spec := "fnExactProveInfeasible", unfollowed := true, recurses := true, plainKeys := false, apart := false, narrowed := true }
def FnExactProveInfeasibleUptoSaid : Prop := fnExactProveInfeasibleUptoRow.holds Tryz.pinned (OpenSpec.upto fnExactProveInfeasibleSpec)

/-- 'laws.FnProofSound', WHERE WHAT IT READS IS OF BULK AT MOST 1048576: true; the input reads as it did. -/
def fnProofSoundUptoRow : OpenClaim := { program := "ytlekngkcifgonaagreat", sum := "475166d569cfb03214018d8fc43eb256e121070f69d9a44cf0c72474b9a66c0a", func := "loop.example/constraintsolver/laws.FnProofSound", spec := "fnProofSound", unfollowed := true, recurses := true, plainKeys := false, apart := false, narrowed := true }
def FnProofSoundUptoSaid : Prop := fnProofSoundUptoRow.holds Tryz.pinned (OpenSpec.upto fnProofSoundSpec)

/-- 'laws.FnExactProveOptimal', WHERE WHAT IT READS IS OF BULK AT MOST 1048576: true; the input reads as it did. -/
def fnExactProveOptimalUptoRow : OpenClaim := { program := "ytlekngkcifgonaagreat", sum := "475166d569cfb03214018d8fc43eb256e121070f69d9a44cf0c72474b9a66c0a", func := "loop.example/constraintsolver/laws.FnExactProveOptimal", spec := "fnExactProveOptimal", unfollowed := true, recurses := true, plainKeys := false, apart := false, narrowed := true }
def FnExactProveOptimalUptoSaid : Prop := fnExactProveOptimalUptoRow.holds Tryz.pinned (OpenSpec.upto fnExactProveOptimalSpec)

/-- 'laws.FnExactCheckOptimal', WHERE WHAT IT READS IS OF BULK AT MOST 1048576: true; the input reads as it did. -/
def fnExactCheckOptimalUptoRow : OpenClaim := { program := "ytlekngkcifgonaagreat", sum := "475166d569cfb03214018d8fc43eb256e121070f69d9a44cf0c72474b9a66c0a", func := "loop.example/constraintsolver/laws.FnExactCheckOptimal", spec := "fnExactCheckOptimal", unfollowed := true, recurses := true, plainKeys := false, apart := false, narrowed := true }
def FnExactCheckOptimalUptoSaid : Prop := fnExactCheckOptimalUptoRow.holds Tryz.pinned (OpenSpec.upto fnExactCheckOptimalSpec)

end Rows
end Go.Proofs.YtlekngkcifgonaaGreat
