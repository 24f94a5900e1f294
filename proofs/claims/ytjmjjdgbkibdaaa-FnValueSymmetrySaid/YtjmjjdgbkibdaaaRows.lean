/-
  No cell of these rows narrows 'for every input' (looked for: loops, veiled, ifaces, maps, wideKeys, modest, calm, conditions, laid).
  DERIVED. THE GIVEN ROWS OF THIS SEAT. 3 by the template 'for every input the law returns true; each argument reads behind the call as it read before'; 0 by the template 'total and deterministic' (their statements: YtjmjjdgbkibdaaaTotals.lean).
  GIVEN WITH THE SEED: the statements are not yours to turn. If you find one false, say at which input.
  Laid BY PROGRAM, IN A SANDBOX (cutbox-rows.mjs): the forced cells as the released guide's own fill.sh prints them over the translation bbc16ccca63a6427… (all of the seat's roots in one cut). By AI agents, Wed Nov 11 2026. No macro, syntax, notation, axiom, sorry.
-/
import Derived.Test.YtjmjjdgbkibdaaaChecked
import GoSem.Claim
import GoSem.ClaimJoined
import GoSem.ClaimMapViews
import Derived.JoinedTies
import Derived.KernelRfl
namespace Go.Proofs.Ytjmjjdgbkibdaaa
/- THE CELL 'sum', in the pinned program and in every row, IS THE sha256 OF THE DUMP (.gsa) THAT YtjmjjdgbkibdaaaProg.lean LOADS. Nothing in Lean hashes anything: it is a label: what it is worth is what the hold of that sum in a sandbox is worth. -/
noncomputable def Try.pinned : Pinned := { name := "ytjmjjdgbkibdaaa", sum := "bbc16ccca63a6427830fca521741536e8c0e873c8812b4639a0a77afeefd73d4", checked := Try.checked }
namespace Rows
def none {H : Type} : Left H := { results := [], args := [] }

/-- 'laws.FnExactParetoFront': WHATEVER THE INPUT: true; the input reads as it did. -/
def fnExactParetoFrontSpec : ChangeSpec := { name := "fnExactParetoFront", fn := fun _ => fun
  | [d1, d2, d3] => { results := [.lit (.bool true)], args := [d1, d2, d3] }
  | _ => none }
def fnExactParetoFrontRow : OpenClaim := { program := "ytjmjjdgbkibdaaa", sum := "bbc16ccca63a6427830fca521741536e8c0e873c8812b4639a0a77afeefd73d4", func := "loop.example/constraintsolver/laws.FnExactParetoFront", spec := "fnExactParetoFront", unfollowed := true, recurses := true, apart := false }
def FnExactParetoFrontSaid : Prop := fnExactParetoFrontRow.holds Try.pinned (OpenSpec.ofChange fnExactParetoFrontSpec)

/-- ITS FALSE NEIGHBOUR: 'it returns false'. Refute it at one input. -/
def fnExactParetoFrontWrong : ChangeSpec := { name := "fnExactParetoFront", fn := fun _ => fun
  | [d1, d2, d3] => { results := [.lit (.bool false)], args := [d1, d2, d3] }
  | _ => none }
def FnExactParetoFrontWrongFalsely : Prop := fnExactParetoFrontRow.holds Try.pinned (OpenSpec.ofChange fnExactParetoFrontWrong)

/-- 'laws.FnValueSymmetry': WHATEVER THE INPUT: true; the input reads as it did. -/
def fnValueSymmetrySpec : ChangeSpec := { name := "fnValueSymmetry", fn := fun _ => fun
  | [d] => { results := [.lit (.bool true)], args := [d] }
  | _ => none }
def fnValueSymmetryRow : OpenClaim := { program := "ytjmjjdgbkibdaaa", sum := "bbc16ccca63a6427830fca521741536e8c0e873c8812b4639a0a77afeefd73d4", func := "loop.example/constraintsolver/laws.FnValueSymmetry", spec := "fnValueSymmetry", unfollowed := true, recurses := true, apart := false }
def FnValueSymmetrySaid : Prop := fnValueSymmetryRow.holds Try.pinned (OpenSpec.ofChange fnValueSymmetrySpec)

/-- ITS FALSE NEIGHBOUR: 'it returns false'. Refute it at one input. -/
def fnValueSymmetryWrong : ChangeSpec := { name := "fnValueSymmetry", fn := fun _ => fun
  | [d] => { results := [.lit (.bool false)], args := [d] }
  | _ => none }
def FnValueSymmetryWrongFalsely : Prop := fnValueSymmetryRow.holds Try.pinned (OpenSpec.ofChange fnValueSymmetryWrong)

/-- 'laws.FnIsEntailed': WHATEVER THE INPUT: true; the input reads as it did. -/
def fnIsEntailedSpec : ChangeSpec := { name := "fnIsEntailed", fn := fun _ => fun
  | [d] => { results := [.lit (.bool true)], args := [d] }
  | _ => none }
def fnIsEntailedRow : OpenClaim := { program := "ytjmjjdgbkibdaaa", sum := "bbc16ccca63a6427830fca521741536e8c0e873c8812b4639a0a77afeefd73d4", func := "loop.example/constraintsolver/laws.FnIsEntailed", spec := "fnIsEntailed", unfollowed := true, recurses := true, apart := false }
def FnIsEntailedSaid : Prop := fnIsEntailedRow.holds Try.pinned (OpenSpec.ofChange fnIsEntailedSpec)

/-- ITS FALSE NEIGHBOUR: 'it returns false'. Refute it at one input. -/
def fnIsEntailedWrong : ChangeSpec := { name := "fnIsEntailed", fn := fun _ => fun
  | [d] => { results := [.lit (.bool false)], args := [d] }
  | _ => none }
def FnIsEntailedWrongFalsely : Prop := fnIsEntailedRow.holds Try.pinned (OpenSpec.ofChange fnIsEntailedWrong)

/- THE SECOND FORM. 'bulk': how many values and letters a reading holds, each counted each time it is reached (what is shared counts as often as it is met; a slice's spare places count too). A statement '..UptoSaid' is the law's where the arguments, and the package variables that the reading takes, are together of bulk at most 1048576: NARROWER than '..Said'. Prove '..Said' where nothing that the law and all that it calls make is longer than what came in: it says more and counts as full. Else prove '..UptoSaid'. A law counts once. -/
mutual
def uptoBulk {H : Type} : DataW H → Nat
  | .lit (.string bytes) => bytes.length + 1
  | .lit _ => 1
  | .nil => 1
  | .ptr d => uptoBulk d + 1
  | .slice elems spare => uptoBulkAll elems + uptoBulkAll spare + 1
  | .agg parts => uptoBulkAll parts + 1
  | .iface _ d => uptoBulk d + 1
  | .map entries => uptoBulkEntries entries + 1
  | .held _ => 1
def uptoBulkAll {H : Type} : List (DataW H) → Nat
  | [] => 0
  | d :: r => uptoBulk d + uptoBulkAll r
def uptoBulkEntries {H : Type} : List (Lit × DataW H) → Nat
  | [] => 0
  | x :: r => uptoBulkEntry x + uptoBulkEntries r
def uptoBulkEntry {H : Type} : Lit × DataW H → Nat
  | (.string bytes, d) => bytes.length + uptoBulk d + 1
  | (_, d) => uptoBulk d + 1
 end
def uptoSmall : (H : Type) → List (DataW H) → Bool := fun _ ds => decide (uptoBulkAll ds ≤ 1048576)
def OpenSpec.upto (s : _root_.Go.ChangeSpec) : _root_.Go.OpenSpec := { _root_.Go.OpenSpec.ofChange s with cond := some uptoSmall }

/-- 'laws.FnExactParetoFront', WHERE WHAT IT READS IS OF BULK AT MOST 1048576: true; the input reads as it did. -/
def fnExactParetoFrontUptoRow : OpenClaim := { program := "ytjmjjdgbkibdaaa", sum := "bbc16ccca63a6427830fca521741536e8c0e873c8812b4639a0a77afeefd73d4", func := "loop.example/constraintsolver/laws.FnExactParetoFront", spec := "fnExactParetoFront", unfollowed := true, recurses := true, apart := false, narrowed := true }
def FnExactParetoFrontUptoSaid : Prop := fnExactParetoFrontUptoRow.holds Try.pinned (OpenSpec.upto fnExactParetoFrontSpec)

/-- 'laws.FnValueSymmetry', WHERE WHAT IT READS IS OF BULK AT MOST 1048576: true; the input reads as it did. -/
def fnValueSymmetryUptoRow : OpenClaim := { program := "ytjmjjdgbkibdaaa", sum := "bbc16ccca63a6427830fca521741536e8c0e873c8812b4639a0a77afeefd73d4", func := "loop.example/constraintsolver/laws.FnValueSymmetry", spec := "fnValueSymmetry", unfollowed := true, recurses := true, apart := false, narrowed := true }
def FnValueSymmetryUptoSaid : Prop := fnValueSymmetryUptoRow.holds Try.pinned (OpenSpec.upto fnValueSymmetrySpec)

/-- 'laws.FnIsEntailed', WHERE WHAT IT READS IS OF BULK AT MOST 1048576: true; the input reads as it did. -/
def fnIsEntailedUptoRow : OpenClaim := { program := "ytjmjjdgbkibdaaa", sum := "bbc16ccca63a6427830fca521741536e8c0e873c8812b4639a0a77afeefd73d4", func := "loop.example/constraintsolver/laws.FnIsEntailed", spec := "fnIsEntailed", unfollowed := true, recurses := true, apart := false, narrowed := true }
def FnIsEntailedUptoSaid : Prop := fnIsEntailedUptoRow.holds Try.pinned (OpenSpec.upto fnIsEntailedSpec)

end Rows
end Go.Proofs.Ytjmjjdgbkibdaaa
