/-
  slices.DeleteFunc over rows of numbers, with whatever function.
  Plain laws of repair: solutions that agree with a plan, and the nearest of them. Walks of repair: distances, agreement, the nearest solution; the program's and the reference's. Walks of repair, second part: agreeing, Repair; the reference's.
  Plain laws of improvement: domains narrowed to a solution's values keep the solutions that agree with it. Plain laws of improvement: the first of the least, and local search by pairs of variables. Walks of the program's improvement.
-/
import Derived.Test.YtihkeihnpiddoaaGreatXSy1ToRe
import Derived.Lib.SliceRun
import Derived.Test.YtihkeihnpiddoaaGreatXSy4ToIsB
import Derived.Test.YtihkeihnpiddoaaGreatXNsP
set_option linter.unusedVariables false
set_option linter.unusedSimpArgs false
namespace Go.Proofs.YtihkeihnpiddoaaGreat
open Go.RowKit

/-! ### The places of what is kept -/
end Go.Proofs.YtihkeihnpiddoaaGreat

set_option linter.unusedVariables false
set_option linter.unusedSimpArgs false
namespace Go.Proofs.YtihkeihnpiddoaaGreat
open Go.RowKit

/-! ### Agreement -/
def agI (on : Nat → Bool) (old x : List Int) (n : Nat) : Bool := (List.range n).all fun i => !(on i && (x.getD i 0 != old.getD i 0))
def onL (fr : List Int) (i : Nat) : Bool := fr.contains (i : Int)
/-! ### The nearest solution -/
end Go.Proofs.YtihkeihnpiddoaaGreat

set_option linter.unusedVariables false
set_option linter.unusedSimpArgs false
namespace Go.Proofs.YtihkeihnpiddoaaGreat
open Go.RowKit





end Go.Proofs.YtihkeihnpiddoaaGreat

set_option linter.unusedVariables false
set_option linter.unusedSimpArgs false
namespace Go.Proofs.YtihkeihnpiddoaaGreat
open Go.RowKit





end Go.Proofs.YtihkeihnpiddoaaGreat

set_option linter.unusedVariables false
set_option linter.unusedSimpArgs false
namespace Go.Proofs.YtihkeihnpiddoaaGreat
open Go.RowKit

/-! ### The best one that agrees -/
def agrL (cs : List Con) (D : List Nat) (x fr : List Int) : List (List Int) := (sols cs D).filter fun y => agI (fun i => !onL fr i) x y y.length
end Go.Proofs.YtihkeihnpiddoaaGreat

set_option linter.unusedVariables false
set_option linter.unusedSimpArgs false
namespace Go.Proofs.YtihkeihnpiddoaaGreat
open Go.RowKit

/-! ### One step -/
def stp (cs : List Con) (D : List Nat) (o x fr : List Int) : List Int := (bestO (dot o) (agrL cs D x fr)).getD []
/-! ### The rank -/
/-! ### A round -/
def inn (cs : List Con) (D : List Nat) (o : List Int) (i : Nat) (x : List Int) : Nat → List Int
  | 0 => x
  | k + 1 => stp cs D o (inn cs D o i x k) [(i : Int), ((i + 1 + k : Nat) : Int)]
def outr (cs : List Con) (D : List Nat) (o x : List Int) : Nat → List Int
  | 0 => x
  | i + 1 => inn cs D o i (outr cs D o x i) (D.length - (i + 1))
def rnd (cs : List Con) (D : List Nat) (o x : List Int) : List Int := outr cs D o x D.length
def itr (cs : List Con) (D : List Nat) (o x : List Int) : Nat → List Int
  | 0 => x
  | k + 1 => rnd cs D o (itr cs D o x k)
open Classical in
/-- What local search ends in. -/
noncomputable def locL (cs : List Con) (D : List Nat) (o x : List Int) : List Int := if h : ∃ k, rnd cs D o (itr cs D o x k) = itr cs D o x k then itr cs D o x h.choose else []
end Go.Proofs.YtihkeihnpiddoaaGreat

set_option linter.unusedVariables false
set_option linter.unusedSimpArgs false
namespace Go.Proofs.YtihkeihnpiddoaaGreat
open Go.RowKit



end Go.Proofs.YtihkeihnpiddoaaGreat
