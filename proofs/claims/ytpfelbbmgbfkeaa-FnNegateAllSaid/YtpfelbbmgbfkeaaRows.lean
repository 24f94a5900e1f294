/-
  No cell of these rows narrows 'for every input' (looked for: loops, veiled, ifaces, maps, wideKeys, modest, calm, conditions, laid).
  DERIVED. THE GIVEN ROWS OF THIS SEAT. 3 by the template 'for every input the law returns true; each argument reads behind the call as it read before'; 0 by the template 'total and deterministic' (their statements: YtpfelbbmgbfkeaaTotals.lean).
  GIVEN WITH THE SEED: the statements are not yours to turn. If you find one false, say at which input.
  Laid BY PROGRAM, IN A SANDBOX (cutbox-rows.mjs): the forced cells as the released guide's own fill.sh prints them over the translation 7d3a3dcb2249b249… (all of the seat's roots in one cut). By AI agents, Wed Nov 11 2026. No macro, syntax, notation, axiom, sorry.
-/
import Derived.Test.YtpfelbbmgbfkeaaChecked
import GoSem.Claim
import GoSem.ClaimJoined
import GoSem.ClaimMapViews
import Derived.JoinedTies
import Derived.KernelRfl
namespace Go.Proofs.Ytpfelbbmgbfkeaa
/- THE CELL 'sum', in the pinned program and in every row, IS THE sha256 OF THE DUMP (.gsa) THAT YtpfelbbmgbfkeaaProg.lean LOADS. Nothing in Lean hashes anything: it is a label: what it is worth is what the hold of that sum in a sandbox is worth. -/
noncomputable def Try.pinned : Pinned := { name := "ytpfelbbmgbfkeaa", sum := "7d3a3dcb2249b249a7ffa274fc18446d43ad0b262a1fe73e838a7827929f89e4", checked := Try.checked }
namespace Rows
def none {H : Type} : Left H := { results := [], args := [] }

/-- 'laws.FnNegateAll': WHATEVER THE INPUT: true; the input reads as it did. -/
def fnNegateAllSpec : ChangeSpec := { name := "fnNegateAll", fn := fun _ => fun
  | [d1, d2] => { results := [.lit (.bool true)], args := [d1, d2] }
  | _ => none }
def fnNegateAllRow : OpenClaim := { program := "ytpfelbbmgbfkeaa", sum := "7d3a3dcb2249b249a7ffa274fc18446d43ad0b262a1fe73e838a7827929f89e4", func := "loop.example/constraintsolver/laws.FnNegateAll", spec := "fnNegateAll", unfollowed := true, recurses := true, apart := false }
def FnNegateAllSaid : Prop := fnNegateAllRow.holds Try.pinned (OpenSpec.ofChange fnNegateAllSpec)

/-- ITS FALSE NEIGHBOUR: 'it returns false'. Refute it at one input. -/
def fnNegateAllWrong : ChangeSpec := { name := "fnNegateAll", fn := fun _ => fun
  | [d1, d2] => { results := [.lit (.bool false)], args := [d1, d2] }
  | _ => none }
def FnNegateAllWrongFalsely : Prop := fnNegateAllRow.holds Try.pinned (OpenSpec.ofChange fnNegateAllWrong)

/-- 'laws.FnExactNegateAll': WHATEVER THE INPUT: true; the input reads as it did. -/
def fnExactNegateAllSpec : ChangeSpec := { name := "fnExactNegateAll", fn := fun _ => fun
  | [d1, d2] => { results := [.lit (.bool true)], args := [d1, d2] }
  | _ => none }
def fnExactNegateAllRow : OpenClaim := { program := "ytpfelbbmgbfkeaa", sum := "7d3a3dcb2249b249a7ffa274fc18446d43ad0b262a1fe73e838a7827929f89e4", func := "loop.example/constraintsolver/laws.FnExactNegateAll", spec := "fnExactNegateAll", unfollowed := true, recurses := true, apart := false }
def FnExactNegateAllSaid : Prop := fnExactNegateAllRow.holds Try.pinned (OpenSpec.ofChange fnExactNegateAllSpec)

/-- ITS FALSE NEIGHBOUR: 'it returns false'. Refute it at one input. -/
def fnExactNegateAllWrong : ChangeSpec := { name := "fnExactNegateAll", fn := fun _ => fun
  | [d1, d2] => { results := [.lit (.bool false)], args := [d1, d2] }
  | _ => none }
def FnExactNegateAllWrongFalsely : Prop := fnExactNegateAllRow.holds Try.pinned (OpenSpec.ofChange fnExactNegateAllWrong)

/-- 'laws.FnExactNewStore': WHATEVER THE INPUT: true; the input reads as it did. -/
def fnExactNewStoreSpec : ChangeSpec := { name := "fnExactNewStore", fn := fun _ => fun
  | [d] => { results := [.lit (.bool true)], args := [d] }
  | _ => none }
def fnExactNewStoreRow : OpenClaim := { program := "ytpfelbbmgbfkeaa", sum := "7d3a3dcb2249b249a7ffa274fc18446d43ad0b262a1fe73e838a7827929f89e4", func := "loop.example/constraintsolver/laws.FnExactNewStore", spec := "fnExactNewStore", unfollowed := true, recurses := true, apart := false }
def FnExactNewStoreSaid : Prop := fnExactNewStoreRow.holds Try.pinned (OpenSpec.ofChange fnExactNewStoreSpec)

/-- ITS FALSE NEIGHBOUR: 'it returns false'. Refute it at one input. -/
def fnExactNewStoreWrong : ChangeSpec := { name := "fnExactNewStore", fn := fun _ => fun
  | [d] => { results := [.lit (.bool false)], args := [d] }
  | _ => none }
def FnExactNewStoreWrongFalsely : Prop := fnExactNewStoreRow.holds Try.pinned (OpenSpec.ofChange fnExactNewStoreWrong)

/- THE SECOND FORM. 'bulk': how many values and letters a reading holds, each counted each time it is reached (what is shared counts as often as it is met; a slice's spare places count too). A statement '..UptoSaid' is the law's where the arguments, and the package variables that the reading takes, are together of bulk at most 1048576: NARROWER than '..Said'. Prove '..Said' where nothing that the law and all that it calls make is longer than what came in: it says more and counts as full. Else prove '..UptoSaid'. A law counts once. -/
mutual
def uptoBulk {H : Type} : DataW H → Nat
  | .lit (.string bytes) => bytes.length + 1
  | .lit _ => 1
  | .nil => 1
  | .ptr d => uptoBulk d + 1
  | .slice elems spare => uptoBulkAll elems + uptoBulkAll spare + 1
  | .agg parts => uptoBulkAll parts + 1
  | .iface _ d => uptoBulk d + 1
  | .map entries => uptoBulkEntries entries + 1
  | .held _ => 1
def uptoBulkAll {H : Type} : List (DataW H) → Nat
  | [] => 0
  | d :: r => uptoBulk d + uptoBulkAll r
def uptoBulkEntries {H : Type} : List (Lit × DataW H) → Nat
  | [] => 0
  | x :: r => uptoBulkEntry x + uptoBulkEntries r
def uptoBulkEntry {H : Type} : Lit × DataW H → Nat
  | (.string bytes, d) => bytes.length + uptoBulk d + 1
  | (_, d) => uptoBulk d + 1
 end
def uptoSmall : (H : Type) → List (DataW H) → Bool := fun _ ds => decide (uptoBulkAll ds ≤ 1048576)
def OpenSpec.upto (s : _root_.Go.ChangeSpec) : _root_.Go.OpenSpec := { _root_.Go.OpenSpec.ofChange s with cond := some uptoSmall }

/-- 'laws.FnNegateAll', WHERE WHAT IT READS IS OF BULK AT MOST 1048576: true; the input reads as it did. -/
def fnNegateAllUptoRow : OpenClaim := { program := "ytpfelbbmgbfkeaa", sum := "7d3a3dcb2249b249a7ffa274fc18446d43ad0b262a1fe73e838a7827929f89e4", func := "loop.example/constraintsolver/laws.FnNegateAll", spec := "fnNegateAll", unfollowed := true, recurses := true, apart := false, narrowed := true }
def FnNegateAllUptoSaid : Prop := fnNegateAllUptoRow.holds Try.pinned (OpenSpec.upto fnNegateAllSpec)

/-- 'laws.FnExactNegateAll', WHERE WHAT IT READS IS OF BULK AT MOST 1048576: true; the input reads as it did. -/
def fnExactNegateAllUptoRow : OpenClaim := { program := "ytpfelbbmgbfkeaa", sum := "7d3a3dcb2249b249a7ffa274fc18446d43ad0b262a1fe73e838a7827929f89e4", func := "loop.example/constraintsolver/laws.FnExactNegateAll", spec := "fnExactNegateAll", unfollowed := true, recurses := true, apart := false, narrowed := true }
def FnExactNegateAllUptoSaid : Prop := fnExactNegateAllUptoRow.holds Try.pinned (OpenSpec.upto fnExactNegateAllSpec)

/-- 'laws.FnExactNewStore', WHERE WHAT IT READS IS OF BULK AT MOST 1048576: true; the input reads as it did. -/
def fnExactNewStoreUptoRow : OpenClaim := { program := "ytpfelbbmgbfkeaa", sum := "7d3a3dcb2249b249a7ffa274fc18446d43ad0b262a1fe73e838a7827929f89e4", func := "loop.example/constraintsolver/laws.FnExactNewStore", spec := "fnExactNewStore", unfollowed := true, recurses := true, apart := false, narrowed := true }
def FnExactNewStoreUptoSaid : Prop := fnExactNewStoreUptoRow.holds Try.pinned (OpenSpec.upto fnExactNewStoreSpec)

end Rows
end Go.Proofs.Ytpfelbbmgbfkeaa
