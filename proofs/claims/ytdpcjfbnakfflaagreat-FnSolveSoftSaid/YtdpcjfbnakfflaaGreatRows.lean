/-
  No cell of these rows narrows 'for every input' (looked for: loops, veiled, ifaces, maps, wideKeys, modest, calm, conditions, laid).
  DERIVED. THE GIVEN ROWS OF THIS SEAT. 12 by the template 'for every input the law returns true; each argument reads behind the call as it read before'; 0 by the template 'total and deterministic' (their statements: YtdpcjfbnakfflaaGreatTotals.lean).
  GIVEN WITH THE SEED: the statements are not yours to turn. If you find one false, say at which input.
  Laid BY PROGRAM, IN A SANDBOX (cutbox-rows.mjs): the forced cells as the released guide's own fill.sh prints them over the translation 887edc217b43bdce… (all of the seat's roots in one cut). By AI agents, Wed Nov 11 2026. No macro, syntax, notation, axiom, sorry.
-/
import Derived.Test.YtdpcjfbnakfflaaGreatChecked
import GoSem.Claim
import GoSem.ClaimJoined
import GoSem.ClaimMapViews
import Derived.JoinedTies
import Derived.KernelRfl
namespace Go.Proofs.YtdpcjfbnakfflaaGreat
/- THE CELL 'sum', in the pinned program and in every row, IS THE sha256 OF THE DUMP (.gsa) THAT YtdpcjfbnakfflaaGreatProg.lean LOADS. Nothing in Lean hashes anything: it is a label: what it is worth is what the hold of that sum in a sandbox is worth. -/
noncomputable def Tryz.pinned : Pinned := { name := "ytdpcjfbnakfflaagreat", sum := "887edc217b43bdce646349db81a3f4806223e17adf830d3e8371929338e5435f", checked := Tryz.checked }
namespace Rows
def none {H : Type} : Left H := { results := [], args := [] }

/-- 'laws.FnExactImprove': WHATEVER THE INPUT: true; the input reads as it did. -/
def fnExactImproveSpec : ChangeSpec := { name := "fnExactImprove", fn := fun _ => fun
  | [d1, d2, d3, d4] => { results := [.lit (.bool true)], args := [d1, d2, d3, d4] }
  | _ => none }
def fnExactImproveRow : OpenClaim := { program := "ytdpcjfbnakfflaagreat", sum := "887edc217b43bdce646349db81a3f4806223e17adf830d3e8371929338e5435f", func := "loop.example/constraintsolver/laws.FnExactImprove", spec := "fnExactImprove", unfollowed := true, recurses := true, apart := false }
def FnExactImproveSaid : Prop := fnExactImproveRow.holds Tryz.pinned (OpenSpec.ofChange fnExactImproveSpec)

/-- ITS FALSE NEIGHBOUR: 'it returns false'. Refute it at one input. -/
def fnExactImproveWrong : ChangeSpec := { name := "fnExactImprove", fn := fun _ => fun
  | [d1, d2, d3, d4] => { results := [.lit (.bool false)], args := [d1, d2, d3, d4] }
  | _ => none }
def FnExactImproveWrongFalsely : Prop := fnExactImproveRow.holds Tryz.pinned (OpenSpec.ofChange fnExactImproveWrong)

/-- 'laws.FnImprove': WHATEVER THE INPUT: true; the input reads as it did. -/
def fnImproveSpec : ChangeSpec := { name := "fnImprove", fn := fun _ => fun
  | [d] => { results := [.lit (.bool true)], args := [d] }
  | _ => none }
def fnImproveRow : OpenClaim := { program := "ytdpcjfbnakfflaagreat", sum := "887edc217b43bdce646349db81a3f4806223e17adf830d3e8371929338e5435f", func := "loop.example/constraintsolver/laws.FnImprove", spec := "fnImprove", unfollowed := true, recurses := true, apart := false }
def FnImproveSaid : Prop := fnImproveRow.holds Tryz.pinned (OpenSpec.ofChange fnImproveSpec)

/-- ITS FALSE NEIGHBOUR: 'it returns false'. Refute it at one input. -/
def fnImproveWrong : ChangeSpec := { name := "fnImprove", fn := fun _ => fun
  | [d] => { results := [.lit (.bool false)], args := [d] }
  | _ => none }
def FnImproveWrongFalsely : Prop := fnImproveRow.holds Tryz.pinned (OpenSpec.ofChange fnImproveWrong)

/-- 'laws.FnExactLocalSearch': WHATEVER THE INPUT: true; the input reads as it did. -/
def fnExactLocalSearchSpec : ChangeSpec := { name := "fnExactLocalSearch", fn := fun _ => fun
  | [d1, d2, d3] => { results := [.lit (.bool true)], args := [d1, d2, d3] }
  | _ => none }
def fnExactLocalSearchRow : OpenClaim := { program := "ytdpcjfbnakfflaagreat", sum := "887edc217b43bdce646349db81a3f4806223e17adf830d3e8371929338e5435f", func := "loop.example/constraintsolver/laws.FnExactLocalSearch", spec := "fnExactLocalSearch", unfollowed := true, recurses := true, apart := false }
def FnExactLocalSearchSaid : Prop := fnExactLocalSearchRow.holds Tryz.pinned (OpenSpec.ofChange fnExactLocalSearchSpec)

/-- ITS FALSE NEIGHBOUR: 'it returns false'. Refute it at one input. -/
def fnExactLocalSearchWrong : ChangeSpec := { name := "fnExactLocalSearch", fn := fun _ => fun
  | [d1, d2, d3] => { results := [.lit (.bool false)], args := [d1, d2, d3] }
  | _ => none }
def FnExactLocalSearchWrongFalsely : Prop := fnExactLocalSearchRow.holds Tryz.pinned (OpenSpec.ofChange fnExactLocalSearchWrong)

/-- 'laws.FnLocalSearch': WHATEVER THE INPUT: true; the input reads as it did. -/
def fnLocalSearchSpec : ChangeSpec := { name := "fnLocalSearch", fn := fun _ => fun
  | [d] => { results := [.lit (.bool true)], args := [d] }
  | _ => none }
def fnLocalSearchRow : OpenClaim := { program := "ytdpcjfbnakfflaagreat", sum := "887edc217b43bdce646349db81a3f4806223e17adf830d3e8371929338e5435f", func := "loop.example/constraintsolver/laws.FnLocalSearch", spec := "fnLocalSearch", unfollowed := true, recurses := true, apart := false }
def FnLocalSearchSaid : Prop := fnLocalSearchRow.holds Tryz.pinned (OpenSpec.ofChange fnLocalSearchSpec)

/-- ITS FALSE NEIGHBOUR: 'it returns false'. Refute it at one input. -/
def fnLocalSearchWrong : ChangeSpec := { name := "fnLocalSearch", fn := fun _ => fun
  | [d] => { results := [.lit (.bool false)], args := [d] }
  | _ => none }
def FnLocalSearchWrongFalsely : Prop := fnLocalSearchRow.holds Tryz.pinned (OpenSpec.ofChange fnLocalSearchWrong)

/-- 'laws.FnExactSolveSoft': WHATEVER THE INPUT: true; the input reads as it did. -/
def fnExactSolveSoftSpec : ChangeSpec := { name := "fnExactSolveSoft", fn := fun _ => fun
  | [d1, d2] => { results := [.lit (.bool true)], args := [d1, d2] }
  | _ => none }
def fnExactSolveSoftRow : OpenClaim := { program := "ytdpcjfbnakfflaagreat", sum := "887edc217b43bdce646349db81a3f4806223e17adf830d3e8371929338e5435f", func := "loop.example/constraintsolver/laws.FnExactSolveSoft", spec := "fnExactSolveSoft", unfollowed := true, recurses := true, apart := false }
def FnExactSolveSoftSaid : Prop := fnExactSolveSoftRow.holds Tryz.pinned (OpenSpec.ofChange fnExactSolveSoftSpec)

/-- ITS FALSE NEIGHBOUR: 'it returns false'. Refute it at one input. -/
def fnExactSolveSoftWrong : ChangeSpec := { name := "fnExactSolveSoft", fn := fun _ => fun
  | [d1, d2] => { results := [.lit (.bool false)], args := [d1, d2] }
  | _ => none }
def FnExactSolveSoftWrongFalsely : Prop := fnExactSolveSoftRow.holds Tryz.pinned (OpenSpec.ofChange fnExactSolveSoftWrong)

/-- 'laws.FnSolveSoft': WHATEVER THE INPUT: true; the input reads as it did. -/
def fnSolveSoftSpec : ChangeSpec := { name := "fnSolveSoft", fn := fun _ => fun
  | [d] => { results := [.lit (.bool true)], args := [d] }
  | _ => none }
def fnSolveSoftRow : OpenClaim := { program := "ytdpcjfbnakfflaagreat", sum := "887edc217b43bdce646349db81a3f4806223e17adf830d3e8371929338e5435f", func := "loop.example/constraintsolver/laws.FnSolveSoft", spec := "fnSolveSoft", unfollowed := true, recurses := true, apart := false }
def FnSolveSoftSaid : Prop := fnSolveSoftRow.holds Tryz.pinned (OpenSpec.ofChange fnSolveSoftSpec)

/-- ITS FALSE NEIGHBOUR: 'it returns false'. Refute it at one input. -/
def fnSolveSoftWrong : ChangeSpec := { name := "fnSolveSoft", fn := fun _ => fun
  | [d] => { results := [.lit (.bool false)], args := [d] }
  | _ => none }
def FnSolveSoftWrongFalsely : Prop := fnSolveSoftRow.holds Tryz.pinned (OpenSpec.ofChange fnSolveSoftWrong)

/-- 'laws.FnExactHardest': WHATEVER THE INPUT: true; the input reads as it did. -/
def fnExactHardestSpec : ChangeSpec := { name := "fnExactHardest", fn := fun _ => fun
  | [d1, d2] => { results := [.lit (.bool true)], args := [d1, d2] }
  | _ => none }
def fnExactHardestRow : OpenClaim := { program := "ytdpcjfbnakfflaagreat", sum := "887edc217b43bdce646349db81a3f4806223e17adf830d3e8371929338e5435f", func := "loop.example/constraintsolver/laws.FnExactHardest", spec := "fnExactHardest", unfollowed := true, recurses := true, apart := false }
def FnExactHardestSaid : Prop := fnExactHardestRow.holds Tryz.pinned (OpenSpec.ofChange fnExactHardestSpec)

/-- ITS FALSE NEIGHBOUR: 'it returns false'. Refute it at one input. -/
def fnExactHardestWrong : ChangeSpec := { name := "fnExactHardest", fn := fun _ => fun
  | [d1, d2] => { results := [.lit (.bool false)], args := [d1, d2] }
  | _ => none }
def FnExactHardestWrongFalsely : Prop := fnExactHardestRow.holds Tryz.pinned (OpenSpec.ofChange fnExactHardestWrong)

/-- 'laws.FnMinimizeCut': WHATEVER THE INPUT: true; the input reads as it did. -/
def fnMinimizeCutSpec : ChangeSpec := { name := "fnMinimizeCut", fn := fun _ => fun
  | [d] => { results := [.lit (.bool true)], args := [d] }
  | _ => none }
def fnMinimizeCutRow : OpenClaim := { program := "ytdpcjfbnakfflaagreat", sum := "887edc217b43bdce646349db81a3f4806223e17adf830d3e8371929338e5435f", func := "loop.example/constraintsolver/laws.FnMinimizeCut", spec := "fnMinimizeCut", unfollowed := true, recurses := true, apart := false }
def FnMinimizeCutSaid : Prop := fnMinimizeCutRow.holds Tryz.pinned (OpenSpec.ofChange fnMinimizeCutSpec)

/-- ITS FALSE NEIGHBOUR: 'it returns false'. Refute it at one input. -/
def fnMinimizeCutWrong : ChangeSpec := { name := "fnMinimizeCut", fn := fun _ => fun
  | [d] => { results := [.lit (.bool false)], args := [d] }
  | _ => none }
def FnMinimizeCutWrongFalsely : Prop := fnMinimizeCutRow.holds Tryz.pinned (OpenSpec.ofChange fnMinimizeCutWrong)

/-- 'laws.FnExactDecide': WHATEVER THE INPUT: true; the input reads as it did. -/
def fnExactDecideSpec : ChangeSpec := { name := "fnExactDecide", fn := fun _ => fun
  | [d1, d2] => { results := [.lit (.bool true)], args := [d1, d2] }
  | _ => none }
def fnExactDecideRow : OpenClaim := { program := "ytdpcjfbnakfflaagreat", sum := "887edc217b43bdce646349db81a3f4806223e17adf830d3e8371929338e5435f", func := "loop.example/constraintsolver/laws.FnExactDecide", spec := "fnExactDecide", unfollowed := true, recurses := true, apart := false }
def FnExactDecideSaid : Prop := fnExactDecideRow.holds Tryz.pinned (OpenSpec.ofChange fnExactDecideSpec)

/-- ITS FALSE NEIGHBOUR: 'it returns false'. Refute it at one input. -/
def fnExactDecideWrong : ChangeSpec := { name := "fnExactDecide", fn := fun _ => fun
  | [d1, d2] => { results := [.lit (.bool false)], args := [d1, d2] }
  | _ => none }
def FnExactDecideWrongFalsely : Prop := fnExactDecideRow.holds Tryz.pinned (OpenSpec.ofChange fnExactDecideWrong)

/-- 'laws.FnDecide': WHATEVER THE INPUT: true; the input reads as it did. -/
def fnDecideSpec : ChangeSpec := { name := "fnDecide", fn := fun _ => fun
  | [d] => { results := [.lit (.bool true)], args := [d] }
  | _ => none }
def fnDecideRow : OpenClaim := { program := "ytdpcjfbnakfflaagreat", sum := "887edc217b43bdce646349db81a3f4806223e17adf830d3e8371929338e5435f", func := "loop.example/constraintsolver/laws.FnDecide", spec := "fnDecide", unfollowed := true, recurses := true, apart := false }
def FnDecideSaid : Prop := fnDecideRow.holds Tryz.pinned (OpenSpec.ofChange fnDecideSpec)

/-- ITS FALSE NEIGHBOUR: 'it returns false'. Refute it at one input. -/
def fnDecideWrong : ChangeSpec := { name := "fnDecide", fn := fun _ => fun
  | [d] => { results := [.lit (.bool false)], args := [d] }
  | _ => none }
def FnDecideWrongFalsely : Prop := fnDecideRow.holds Tryz.pinned (OpenSpec.ofChange fnDecideWrong)

/-- 'laws.FnDecideOrder': WHATEVER THE INPUT: true; the input reads as it did. -/
def fnDecideOrderSpec : ChangeSpec := { name := "fnDecideOrder", fn := fun _ => fun
  | [d1, d2] => { results := [.lit (.bool true)], args := [d1, d2] }
  | _ => none }
def fnDecideOrderRow : OpenClaim := { program := "ytdpcjfbnakfflaagreat", sum := "887edc217b43bdce646349db81a3f4806223e17adf830d3e8371929338e5435f", func := "loop.example/constraintsolver/laws.FnDecideOrder", spec := "fnDecideOrder", unfollowed := true, recurses := true, apart := false }
def FnDecideOrderSaid : Prop := fnDecideOrderRow.holds Tryz.pinned (OpenSpec.ofChange fnDecideOrderSpec)

/-- ITS FALSE NEIGHBOUR: 'it returns false'. Refute it at one input. -/
def fnDecideOrderWrong : ChangeSpec := { name := "fnDecideOrder", fn := fun _ => fun
  | [d1, d2] => { results := [.lit (.bool false)], args := [d1, d2] }
  | _ => none }
def FnDecideOrderWrongFalsely : Prop := fnDecideOrderRow.holds Tryz.pinned (OpenSpec.ofChange fnDecideOrderWrong)

/-- 'laws.FnHardest': WHATEVER THE INPUT: true; the input reads as it did. -/
def fnHardestSpec : ChangeSpec := { name := "fnHardest", fn := fun _ => fun
  | [d] => { results := [.lit (.bool true)], args := [d] }
  | _ => none }
def fnHardestRow : OpenClaim := { program := "ytdpcjfbnakfflaagreat", sum := "887edc217b43bdce646349db81a3f4806223e17adf830d3e8371929338e5435f", func := "loop.example/constraintsolver/laws.FnHardest", spec := "fnHardest", unfollowed := true, recurses := true, apart := false }
def FnHardestSaid : Prop := fnHardestRow.holds Tryz.pinned (OpenSpec.ofChange fnHardestSpec)

/-- ITS FALSE NEIGHBOUR: 'it returns false'. Refute it at one input. -/
def fnHardestWrong : ChangeSpec := { name := "fnHardest", fn := fun _ => fun
  | [d] => { results := [.lit (.bool false)], args := [d] }
  | _ => none }
def FnHardestWrongFalsely : Prop := fnHardestRow.holds Tryz.pinned (OpenSpec.ofChange fnHardestWrong)

/- THE SECOND FORM. 'bulk': how many values and letters a reading holds, each counted each time it is reached (what is shared counts as often as it is met; a slice's spare places count too). A statement '..UptoSaid' is the law's where the arguments, and the package variables that the reading takes, are together of bulk at most 1048576: NARROWER than '..Said'. Prove '..Said' where nothing that the law and all that it calls make is longer than what came in: it says more and counts as full. Else prove '..UptoSaid'. A law counts once. -/
mutual
def uptoBulk {H : Type} : DataW H → Nat
  | .lit (.string bytes) => bytes.length + 1
  | .lit _ => 1
  | .nil => 1
  | .ptr d => uptoBulk d + 1
  | .slice elems spare => uptoBulkAll elems + uptoBulkAll spare + 1
  | .agg parts => uptoBulkAll parts + 1
  | .iface _ d => uptoBulk d + 1
  | .map entries => uptoBulkEntries entries + 1
  | .held _ => 1
def uptoBulkAll {H : Type} : List (DataW H) → Nat
  | [] => 0
  | d :: r => uptoBulk d + uptoBulkAll r
def uptoBulkEntries {H : Type} : List (Lit × DataW H) → Nat
  | [] => 0
  | x :: r => uptoBulkEntry x + uptoBulkEntries r
def uptoBulkEntry {H : Type} : Lit × DataW H → Nat
  | (.string bytes, d) => bytes.length + uptoBulk d + 1
  | (_, d) => uptoBulk d + 1
 end
def uptoSmall : (H : Type) → List (DataW H) → Bool := fun _ ds => decide (uptoBulkAll ds ≤ 1048576)
def OpenSpec.upto (s : _root_.Go.ChangeSpec) : _root_.Go.OpenSpec := { _root_.Go.OpenSpec.ofChange s with cond := some uptoSmall }

/-- 'laws.FnExactImprove', WHERE WHAT IT READS IS OF BULK AT MOST 1048576: true; the input reads as it did. -/
def fnExactImproveUptoRow : OpenClaim := { program := "ytdpcjfbnakfflaagreat", sum := "887edc217b43bdce646349db81a3f4806223e17adf830d3e8371929338e5435f", func := "loop.example/constraintsolver/laws.FnExactImprove", spec := "fnExactImprove", unfollowed := true, recurses := true, apart := false, narrowed := true }
def FnExactImproveUptoSaid : Prop := fnExactImproveUptoRow.holds Tryz.pinned (OpenSpec.upto fnExactImproveSpec)

/-- 'laws.FnImprove', WHERE WHAT IT READS IS OF BULK AT MOST 1048576: true; the input reads as it did. -/
def fnImproveUptoRow : OpenClaim := { program := "ytdpcjfbnakfflaagreat", sum := "887edc217b43bdce646349db81a3f4806223e17adf830d3e8371929338e5435f", func := "loop.example/constraintsolver/laws.FnImprove", spec := "fnImprove", unfollowed := true, recurses := true, apart := false, narrowed := true }
def FnImproveUptoSaid : Prop := fnImproveUptoRow.holds Tryz.pinned (OpenSpec.upto fnImproveSpec)

/-- 'laws.FnExactLocalSearch', WHERE WHAT IT READS IS OF BULK AT MOST 1048576: true; the input reads as it did. -/
def fnExactLocalSearchUptoRow : OpenClaim := { program := "ytdpcjfbnakfflaagreat", sum := "887edc217b43bdce646349db81a3f4806223e17adf830d3e8371929338e5435f", func := "loop.example/constraintsolver/laws.FnExactLocalSearch", spec := "fnExactLocalSearch", unfollowed := true, recurses := true, apart := false, narrowed := true }
def FnExactLocalSearchUptoSaid : Prop := fnExactLocalSearchUptoRow.holds Tryz.pinned (OpenSpec.upto fnExactLocalSearchSpec)

/-- 'laws.FnLocalSearch', WHERE WHAT IT READS IS OF BULK AT MOST 1048576: true; the input reads as it did. -/
def fnLocalSearchUptoRow : OpenClaim := { program := "ytdpcjfbnakfflaagreat", sum := "887edc217b43bdce646349db81a3f4806223e17adf830d3e8371929338e5435f", func := "loop.example/constraintsolver/laws.FnLocalSearch", spec := "fnLocalSearch", unfollowed := true, recurses := true, apart := false, narrowed := true }
def FnLocalSearchUptoSaid : Prop := fnLocalSearchUptoRow.holds Tryz.pinned (OpenSpec.upto fnLocalSearchSpec)

/-- 'laws.FnExactSolveSoft', WHERE WHAT IT READS IS OF BULK AT MOST 1048576: true; the input reads as it did. -/
def fnExactSolveSoftUptoRow : OpenClaim := { program := "ytdpcjfbnakfflaagreat", sum := "887edc217b43bdce646349db81a3f4806223e17adf830d3e8371929338e5435f", func := "loop.example/constraintsolver/laws.FnExactSolveSoft", spec := "fnExactSolveSoft", unfollowed := true, recurses := true, apart := false, narrowed := true }
def FnExactSolveSoftUptoSaid : Prop := fnExactSolveSoftUptoRow.holds Tryz.pinned (OpenSpec.upto fnExactSolveSoftSpec)

/-- 'laws.FnSolveSoft', WHERE WHAT IT READS IS OF BULK AT MOST 1048576: true; the input reads as it did. -/
def fnSolveSoftUptoRow : OpenClaim := { program := "ytdpcjfbnakfflaagreat", sum := "887edc217b43bdce646349db81a3f4806223e17adf830d3e8371929338e5435f", func := "loop.example/constraintsolver/laws.FnSolveSoft", spec := "fnSolveSoft", unfollowed := true, recurses := true, apart := false, narrowed := true }
def FnSolveSoftUptoSaid : Prop := fnSolveSoftUptoRow.holds Tryz.pinned (OpenSpec.upto fnSolveSoftSpec)

/-- 'laws.FnExactHardest', WHERE WHAT IT READS IS OF BULK AT MOST 1048576: true; the input reads as it did. -/
def fnExactHardestUptoRow : OpenClaim := { program := "ytdpcjfbnakfflaagreat", sum := "887edc217b43bdce646349db81a3f4806223e17adf830d3e8371929338e5435f", func := "loop.example/constraintsolver/laws.FnExactHardest", spec := "fnExactHardest", unfollowed := true, recurses := true, apart := false, narrowed := true }
def FnExactHardestUptoSaid : Prop := fnExactHardestUptoRow.holds Tryz.pinned (OpenSpec.upto fnExactHardestSpec)

/-- 'laws.FnMinimizeCut', WHERE WHAT IT READS IS OF BULK AT MOST 1048576: true; the input reads as it did. -/
def fnMinimizeCutUptoRow : OpenClaim := { program := "ytdpcjfbnakfflaagreat", sum := "887edc217b43bdce646349db81a3f4806223e17adf830d3e8371929338e5435f", func := "loop.example/constraintsolver/laws.FnMinimizeCut", spec := "fnMinimizeCut", unfollowed := true, recurses := true, apart := false, narrowed := true }
def FnMinimizeCutUptoSaid : Prop := fnMinimizeCutUptoRow.holds Tryz.pinned (OpenSpec.upto fnMinimizeCutSpec)

/-- 'laws.FnExactDecide', WHERE WHAT IT READS IS OF BULK AT MOST 1048576: true; the input reads as it did. -/
def fnExactDecideUptoRow : OpenClaim := { program := "ytdpcjfbnakfflaagreat", sum := "887edc217b43bdce646349db81a3f4806223e17adf830d3e8371929338e5435f", func := "loop.example/constraintsolver/laws.FnExactDecide", spec := "fnExactDecide", unfollowed := true, recurses := true, apart := false, narrowed := true }
def FnExactDecideUptoSaid : Prop := fnExactDecideUptoRow.holds Tryz.pinned (OpenSpec.upto fnExactDecideSpec)

/-- 'laws.FnDecide', WHERE WHAT IT READS IS OF BULK AT MOST 1048576: true; the input reads as it did. -/
def fnDecideUptoRow : OpenClaim := { program := "ytdpcjfbnakfflaagreat", sum := "887edc217b43bdce646349db81a3f4806223e17adf830d3e8371929338e5435f", func := "loop.example/constraintsolver/laws.FnDecide", spec := "fnDecide", unfollowed := true, recurses := true, apart := false, narrowed := true }
def FnDecideUptoSaid : Prop := fnDecideUptoRow.holds Tryz.pinned (OpenSpec.upto fnDecideSpec)

/-- 'laws.FnDecideOrder', WHERE WHAT IT READS IS OF BULK AT MOST 1048576: true; the input reads as it did. -/
def fnDecideOrderUptoRow : OpenClaim := { program := "ytdpcjfbnakfflaagreat", sum := "887edc217b43bdce646349db81a3f4806223e17adf830d3e8371929338e5435f", func := "loop.example/constraintsolver/laws.FnDecideOrder", spec := "fnDecideOrder", unfollowed := true, recurses := true, apart := false, narrowed := true }
def FnDecideOrderUptoSaid : Prop := fnDecideOrderUptoRow.holds Tryz.pinned (OpenSpec.upto fnDecideOrderSpec)

/-- 'laws.FnHardest', WHERE WHAT IT READS IS OF BULK AT MOST 1048576: true; the input reads as it did. -/
def fnHardestUptoRow : OpenClaim := { program := "ytdpcjfbnakfflaagreat", sum := "887edc217b43bdce646349db81a3f4806223e17adf830d3e8371929338e5435f", func := "loop.example/constraintsolver/laws.FnHardest", spec := "fnHardest", unfollowed := true, recurses := true, apart := false, narrowed := true }
def FnHardestUptoSaid : Prop := fnHardestUptoRow.holds Tryz.pinned (OpenSpec.upto fnHardestSpec)

end Rows
end Go.Proofs.YtdpcjfbnakfflaaGreat
