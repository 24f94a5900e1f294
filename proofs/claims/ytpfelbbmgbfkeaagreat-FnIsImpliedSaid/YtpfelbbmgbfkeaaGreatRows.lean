/-
  No cell of these rows narrows 'for every input' (looked for: loops, veiled, ifaces, maps, wideKeys, modest, calm, conditions, laid).
  DERIVED. THE GIVEN ROWS OF THIS SEAT. 8 by the template 'for every input the law returns true; each argument reads behind the call as it read before'; 0 by the template 'total and deterministic' (their statements: YtpfelbbmgbfkeaaGreatTotals.lean).
  GIVEN WITH THE SEED: the statements are not yours to turn. If you find one false, say at which input.
  Laid BY PROGRAM, IN A SANDBOX (cutbox-rows.mjs): the forced cells as the released guide's own fill.sh prints them over the translation fe5163499261d8c5… (all of the seat's roots in one cut). By AI agents, Wed Nov 11 2026. No macro, syntax, notation, axiom, sorry.
-/
import Derived.Test.YtpfelbbmgbfkeaaGreatChecked
import GoSem.Claim
import GoSem.ClaimJoined
import GoSem.ClaimMapViews
import Derived.JoinedTies
import Derived.KernelRfl
namespace Go.Proofs.YtpfelbbmgbfkeaaGreat
/- THE CELL 'sum', in the pinned program and in every row, IS THE sha256 OF THE DUMP (.gsa) THAT YtpfelbbmgbfkeaaGreatProg.lean LOADS. Nothing in Lean hashes anything: it is a label: what it is worth is what the hold of that sum in a sandbox is worth. -/
noncomputable def Tryz.pinned : Pinned := { name := "ytpfelbbmgbfkeaagreat", sum := "fe5163499261d8c5d3e64624950e63c764415d0f7c0e9e87db4a6bd634c7d5fd", checked := Tryz.checked }
namespace Rows
def none {H : Type} : Left H := { results := [], args := [] }

/-- 'laws.FnDecideOrder': WHATEVER THE INPUT: true; the input reads as it did. -/
def fnDecideOrderSpec : ChangeSpec := { name := "fnDecideOrder", fn := fun _ => fun
  | [d1, d2] => { results := [.lit (.bool true)], args := [d1, d2] }
  | _ => none }
def fnDecideOrderRow : OpenClaim := { program := "ytpfelbbmgbfkeaagreat", sum := "fe5163499261d8c5d3e64624950e63c764415d0f7c0e9e87db4a6bd634c7d5fd", func := "loop.example/constraintsolver/laws.FnDecideOrder", spec := "fnDecideOrder", unfollowed := true, recurses := true, apart := false }
def FnDecideOrderSaid : Prop := fnDecideOrderRow.holds Tryz.pinned (OpenSpec.ofChange fnDecideOrderSpec)

/-- ITS FALSE NEIGHBOUR: 'it returns false'. Refute it at one input. -/
def fnDecideOrderWrong : ChangeSpec := { name := "fnDecideOrder", fn := fun _ => fun
  | [d1, d2] => { results := [.lit (.bool false)], args := [d1, d2] }
  | _ => none }
def FnDecideOrderWrongFalsely : Prop := fnDecideOrderRow.holds Tryz.pinned (OpenSpec.ofChange fnDecideOrderWrong)

/-- 'laws.FnDecide': WHATEVER THE INPUT: true; the input reads as it did. -/
def fnDecideSpec : ChangeSpec := { name := "fnDecide", fn := fun _ => fun
  | [d] => { results := [.lit (.bool true)], args := [d] }
  | _ => none }
def fnDecideRow : OpenClaim := { program := "ytpfelbbmgbfkeaagreat", sum := "fe5163499261d8c5d3e64624950e63c764415d0f7c0e9e87db4a6bd634c7d5fd", func := "loop.example/constraintsolver/laws.FnDecide", spec := "fnDecide", unfollowed := true, recurses := true, apart := false }
def FnDecideSaid : Prop := fnDecideRow.holds Tryz.pinned (OpenSpec.ofChange fnDecideSpec)

/-- ITS FALSE NEIGHBOUR: 'it returns false'. Refute it at one input. -/
def fnDecideWrong : ChangeSpec := { name := "fnDecide", fn := fun _ => fun
  | [d] => { results := [.lit (.bool false)], args := [d] }
  | _ => none }
def FnDecideWrongFalsely : Prop := fnDecideRow.holds Tryz.pinned (OpenSpec.ofChange fnDecideWrong)

/-- 'laws.FnExactDecide': WHATEVER THE INPUT: true; the input reads as it did. -/
def fnExactDecideSpec : ChangeSpec := { name := "fnExactDecide", fn := fun _ => fun
  | [d1, d2] => { results := [.lit (.bool true)], args := [d1, d2] }
  | _ => none }
def fnExactDecideRow : OpenClaim := { program := "ytpfelbbmgbfkeaagreat", sum := "fe5163499261d8c5d3e64624950e63c764415d0f7c0e9e87db4a6bd634c7d5fd", func := "loop.example/constraintsolver/laws.FnExactDecide", spec := "fnExactDecide", unfollowed := true, recurses := true, apart := false }
def FnExactDecideSaid : Prop := fnExactDecideRow.holds Tryz.pinned (OpenSpec.ofChange fnExactDecideSpec)

/-- ITS FALSE NEIGHBOUR: 'it returns false'. Refute it at one input. -/
def fnExactDecideWrong : ChangeSpec := { name := "fnExactDecide", fn := fun _ => fun
  | [d1, d2] => { results := [.lit (.bool false)], args := [d1, d2] }
  | _ => none }
def FnExactDecideWrongFalsely : Prop := fnExactDecideRow.holds Tryz.pinned (OpenSpec.ofChange fnExactDecideWrong)

/-- 'laws.FnIsImplied': WHATEVER THE INPUT: true; the input reads as it did. -/
def fnIsImpliedSpec : ChangeSpec := { name := "fnIsImplied", fn := fun _ => fun
  | [d] => { results := [.lit (.bool true)], args := [d] }
  | _ => none }
def fnIsImpliedRow : OpenClaim := { program := "ytpfelbbmgbfkeaagreat", sum := "fe5163499261d8c5d3e64624950e63c764415d0f7c0e9e87db4a6bd634c7d5fd", func := "loop.example/constraintsolver/laws.FnIsImplied", spec := "fnIsImplied", unfollowed := true, recurses := true, apart := false }
def FnIsImpliedSaid : Prop := fnIsImpliedRow.holds Tryz.pinned (OpenSpec.ofChange fnIsImpliedSpec)

/-- ITS FALSE NEIGHBOUR: 'it returns false'. Refute it at one input. -/
def fnIsImpliedWrong : ChangeSpec := { name := "fnIsImplied", fn := fun _ => fun
  | [d] => { results := [.lit (.bool false)], args := [d] }
  | _ => none }
def FnIsImpliedWrongFalsely : Prop := fnIsImpliedRow.holds Tryz.pinned (OpenSpec.ofChange fnIsImpliedWrong)

/-- 'laws.FnExactIsImplied': WHATEVER THE INPUT: true; the input reads as it did. -/
def fnExactIsImpliedSpec : ChangeSpec := { name := "fnExactIsImplied", fn := fun _ => fun
  | [d1, d2, d3] => { results := [.lit (.bool true)], args := [d1, d2, d3] }
  | _ => none }
def fnExactIsImpliedRow : OpenClaim := { program := "ytpfelbbmgbfkeaagreat", sum := "fe5163499261d8c5d3e64624950e63c764415d0f7c0e9e87db4a6bd634c7d5fd", func := "loop.example/constraintsolver/laws.FnExactIsImplied", spec := "fnExactIsImplied", unfollowed := true, recurses := true, apart := false }
def FnExactIsImpliedSaid : Prop := fnExactIsImpliedRow.holds Tryz.pinned (OpenSpec.ofChange fnExactIsImpliedSpec)

/-- ITS FALSE NEIGHBOUR: 'it returns false'. Refute it at one input. -/
def fnExactIsImpliedWrong : ChangeSpec := { name := "fnExactIsImplied", fn := fun _ => fun
  | [d1, d2, d3] => { results := [.lit (.bool false)], args := [d1, d2, d3] }
  | _ => none }
def FnExactIsImpliedWrongFalsely : Prop := fnExactIsImpliedRow.holds Tryz.pinned (OpenSpec.ofChange fnExactIsImpliedWrong)

/-- 'laws.FnExactProveInfeasible': WHATEVER THE INPUT: true; the input reads as it did. -/
def fnExactProveInfeasibleSpec : ChangeSpec := { name := "fnExactProveInfeasible", fn := fun _ => fun
  | [d] => { results := [.lit (.bool true)], args := [d] }
  | _ => none }
def fnExactProveInfeasibleRow : OpenClaim := { program := "ytpfelbbmgbfkeaagreat", sum := "fe5163499261d8c5d3e64624950e63c764415d0f7c0e9e87db4a6bd634c7d5fd", func := "loop.example/constraintsolver/laws.FnExactProveInfeasible", spec := "fnExactProveInfeasible", unfollowed := true, recurses := true, apart := false }
def FnExactProveInfeasibleSaid : Prop := fnExactProveInfeasibleRow.holds Tryz.pinned (OpenSpec.ofChange fnExactProveInfeasibleSpec)

/-- ITS FALSE NEIGHBOUR: 'it returns false'. Refute it at one input. -/
def fnExactProveInfeasibleWrong : ChangeSpec := { name := "fnExactProveInfeasible", fn := fun _ => fun
  | [d] => { results := [.lit (.bool false)], args := [d] }
  | _ => none }
def FnExactProveInfeasibleWrongFalsely : Prop := fnExactProveInfeasibleRow.holds Tryz.pinned (OpenSpec.ofChange fnExactProveInfeasibleWrong)

/-- 'laws.FnExactCheckProof': WHATEVER THE INPUT: true; the input reads as it did. -/
def fnExactCheckProofSpec : ChangeSpec := { name := "fnExactCheckProof", fn := fun _ => fun
  | [d1, d2] => { results := [.lit (.bool true)], args := [d1, d2] }
  | _ => none }
def fnExactCheckProofRow : OpenClaim := { program := "ytpfelbbmgbfkeaagreat", sum := "fe5163499261d8c5d3e64624950e63c764415d0f7c0e9e87db4a6bd634c7d5fd", func := "loop.example/constraintsolver/laws.FnExactCheckProof", spec := "fnExactCheckProof", unfollowed := true, recurses := true, apart := false }
def FnExactCheckProofSaid : Prop := fnExactCheckProofRow.holds Tryz.pinned (OpenSpec.ofChange fnExactCheckProofSpec)

/-- ITS FALSE NEIGHBOUR: 'it returns false'. Refute it at one input. -/
def fnExactCheckProofWrong : ChangeSpec := { name := "fnExactCheckProof", fn := fun _ => fun
  | [d1, d2] => { results := [.lit (.bool false)], args := [d1, d2] }
  | _ => none }
def FnExactCheckProofWrongFalsely : Prop := fnExactCheckProofRow.holds Tryz.pinned (OpenSpec.ofChange fnExactCheckProofWrong)

/-- 'laws.FnProofSound': WHATEVER THE INPUT: true; the input reads as it did. -/
def fnProofSoundSpec : ChangeSpec := { name := "fnProofSound", fn := fun _ => fun
  | [d] => { results := [.lit (.bool true)], args := [d] }
  | _ => none }
def fnProofSoundRow : OpenClaim := { program := "ytpfelbbmgbfkeaagreat", sum := "fe5163499261d8c5d3e64624950e63c764415d0f7c0e9e87db4a6bd634c7d5fd", func := "loop.example/constraintsolver/laws.FnProofSound", spec := "fnProofSound", unfollowed := true, recurses := true, apart := false }
def FnProofSoundSaid : Prop := fnProofSoundRow.holds Tryz.pinned (OpenSpec.ofChange fnProofSoundSpec)

/-- ITS FALSE NEIGHBOUR: 'it returns false'. Refute it at one input. -/
def fnProofSoundWrong : ChangeSpec := { name := "fnProofSound", fn := fun _ => fun
  | [d] => { results := [.lit (.bool false)], args := [d] }
  | _ => none }
def FnProofSoundWrongFalsely : Prop := fnProofSoundRow.holds Tryz.pinned (OpenSpec.ofChange fnProofSoundWrong)

/- THE SECOND FORM. 'bulk': how many values and letters a reading holds, each counted each time it is reached (what is shared counts as often as it is met; a slice's spare places count too). A statement '..UptoSaid' is the law's where the arguments, and the package variables that the reading takes, are together of bulk at most 1048576: NARROWER than '..Said'. Prove '..Said' where nothing that the law and all that it calls make is longer than what came in: it says more and counts as full. Else prove '..UptoSaid'. A law counts once. -/
mutual
def uptoBulk {H : Type} : DataW H → Nat
  | .lit (.string bytes) => bytes.length + 1
  | .lit _ => 1
  | .nil => 1
  | .ptr d => uptoBulk d + 1
  | .slice elems spare => uptoBulkAll elems + uptoBulkAll spare + 1
  | .agg parts => uptoBulkAll parts + 1
  | .iface _ d => uptoBulk d + 1
  | .map entries => uptoBulkEntries entries + 1
  | .held _ => 1
def uptoBulkAll {H : Type} : List (DataW H) → Nat
  | [] => 0
  | d :: r => uptoBulk d + uptoBulkAll r
def uptoBulkEntries {H : Type} : List (Lit × DataW H) → Nat
  | [] => 0
  | x :: r => uptoBulkEntry x + uptoBulkEntries r
def uptoBulkEntry {H : Type} : Lit × DataW H → Nat
  | (.string bytes, d) => bytes.length + uptoBulk d + 1
  | (_, d) => uptoBulk d + 1
 end
def uptoSmall : (H : Type) → List (DataW H) → Bool := fun _ ds => decide (uptoBulkAll ds ≤ 1048576)
def OpenSpec.upto (s : _root_.Go.ChangeSpec) : _root_.Go.OpenSpec := { _root_.Go.OpenSpec.ofChange s with cond := some uptoSmall }

/-- 'laws.FnDecideOrder', WHERE WHAT IT READS IS OF BULK AT MOST 1048576: true; the input reads as it did. -/
def fnDecideOrderUptoRow : OpenClaim := { program := "ytpfelbbmgbfkeaagreat", sum := "fe5163499261d8c5d3e64624950e63c764415d0f7c0e9e87db4a6bd634c7d5fd", func := "loop.example/constraintsolver/laws.FnDecideOrder", spec := "fnDecideOrder", unfollowed := true, recurses := true, apart := false, narrowed := true }
def FnDecideOrderUptoSaid : Prop := fnDecideOrderUptoRow.holds Tryz.pinned (OpenSpec.upto fnDecideOrderSpec)

/-- 'laws.FnDecide', WHERE WHAT IT READS IS OF BULK AT MOST 1048576: true; the input reads as it did. -/
def fnDecideUptoRow : OpenClaim := { program := "ytpfelbbmgbfkeaagreat", sum := "fe5163499261d8c5d3e64624950e63c764415d0f7c0e9e87db4a6bd634c7d5fd", func := "loop.example/constraintsolver/laws.FnDecide", spec := "fnDecide", unfollowed := true, recurses := true, apart := false, narrowed := true }
def FnDecideUptoSaid : Prop := fnDecideUptoRow.holds Tryz.pinned (OpenSpec.upto fnDecideSpec)

/-- 'laws.FnExactDecide', WHERE WHAT IT READS IS OF BULK AT MOST 1048576: true; the input reads as it did. -/
def fnExactDecideUptoRow : OpenClaim := { program := "ytpfelbbmgbfkeaagreat", sum := "fe5163499261d8c5d3e64624950e63c764415d0f7c0e9e87db4a6bd634c7d5fd", func := "loop.example/constraintsolver/laws.FnExactDecide", spec := "fnExactDecide", unfollowed := true, recurses := true, apart := false, narrowed := true }
def FnExactDecideUptoSaid : Prop := fnExactDecideUptoRow.holds Tryz.pinned (OpenSpec.upto fnExactDecideSpec)

/-- 'laws.FnIsImplied', WHERE WHAT IT READS IS OF BULK AT MOST 1048576: true; the input reads as it did. -/
def fnIsImpliedUptoRow : OpenClaim := { program := "ytpfelbbmgbfkeaagreat", sum := "fe5163499261d8c5d3e64624950e63c764415d0f7c0e9e87db4a6bd634c7d5fd", func := "loop.example/constraintsolver/laws.FnIsImplied", spec := "fnIsImplied", unfollowed := true, recurses := true, apart := false, narrowed := true }
def FnIsImpliedUptoSaid : Prop := fnIsImpliedUptoRow.holds Tryz.pinned (OpenSpec.upto fnIsImpliedSpec)

/-- 'laws.FnExactIsImplied', WHERE WHAT IT READS IS OF BULK AT MOST 1048576: true; the input reads as it did. -/
def fnExactIsImpliedUptoRow : OpenClaim := { program := "ytpfelbbmgbfkeaagreat", sum := "fe5163499261d8c5d3e64624950e63c764415d0f7c0e9e87db4a6bd634c7d5fd", func := "loop.example/constraintsolver/laws.FnExactIsImplied", spec := "fnExactIsImplied", unfollowed := true, recurses := true, apart := false, narrowed := true }
def FnExactIsImpliedUptoSaid : Prop := fnExactIsImpliedUptoRow.holds Tryz.pinned (OpenSpec.upto fnExactIsImpliedSpec)

/-- 'laws.FnExactProveInfeasible', WHERE WHAT IT READS IS OF BULK AT MOST 1048576: true; the input reads as it did. -/
def fnExactProveInfeasibleUptoRow : OpenClaim := { program := "ytpfelbbmgbfkeaagreat", sum := "fe5163499261d8c5d3e64624950e63c764415d0f7c0e9e87db4a6bd634c7d5fd", func := "loop.example/constraintsolver/laws.FnExactProveInfeasible", spec := "fnExactProveInfeasible", unfollowed := true, recurses := true, apart := false, narrowed := true }
def FnExactProveInfeasibleUptoSaid : Prop := fnExactProveInfeasibleUptoRow.holds Tryz.pinned (OpenSpec.upto fnExactProveInfeasibleSpec)

/-- 'laws.FnExactCheckProof', WHERE WHAT IT READS IS OF BULK AT MOST 1048576: true; the input reads as it did. -/
def fnExactCheckProofUptoRow : OpenClaim := { program := "ytpfelbbmgbfkeaagreat", sum := "fe5163499261d8c5d3e64624950e63c764415d0f7c0e9e87db4a6bd634c7d5fd", func := "loop.example/constraintsolver/laws.FnExactCheckProof", spec := "fnExactCheckProof", unfollowed := true, recurses := true, apart := false, narrowed := true }
def FnExactCheckProofUptoSaid : Prop := fnExactCheckProofUptoRow.holds Tryz.pinned (OpenSpec.upto fnExactCheckProofSpec)

/-- 'laws.FnProofSound', WHERE WHAT IT READS IS OF BULK AT MOST 1048576: true; the input reads as it did. -/
def fnProofSoundUptoRow : OpenClaim := { program := "ytpfelbbmgbfkeaagreat", sum := "fe5163499261d8c5d3e64624950e63c764415d0f7c0e9e87db4a6bd634c7d5fd", func := "loop.example/constraintsolver/laws.FnProofSound", spec := "fnProofSound", unfollowed := true, recurses := true, apart := false, narrowed := true }
def FnProofSoundUptoSaid : Prop := fnProofSoundUptoRow.holds Tryz.pinned (OpenSpec.upto fnProofSoundSpec)

end Rows
end Go.Proofs.YtpfelbbmgbfkeaaGreat
