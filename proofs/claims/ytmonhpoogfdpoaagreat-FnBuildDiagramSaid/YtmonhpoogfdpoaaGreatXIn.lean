/-
  The program's first word, sign by sign, and the closed facts that read it: apart, since the kernel would otherwise hold too much at once.
-/
import Derived.Test.YtmonhpoogfdpoaaGreatRows
import Derived.WalkKit
import Derived.ProofKit
import Derived.JoinedOf
set_option linter.unusedVariables false
namespace Go.Proofs.YtmonhpoogfdpoaaGreat
open Go.RowKit

/-- The signs of the program's order of initialisation. -/
def iniSigns : List Char := List.map Char.ofNat [104, 97, 114, 110, 101, 115, 115, 32, 100, 53, 57, 97, 48, 53, 101, 55, 102, 51, 51, 49, 51, 97, 50, 57, 100, 48, 48, 48, 100, 56, 53, 98, 101, 53, 98, 100, 102, 56, 54, 102, 98, 48, 100, 51, 98, 51, 53, 49, 53, 102, 53, 98, 54, 50, 52, 102, 55, 55, 100, 56, 99, 101, 50, 98, 48, 51, 51, 49, 54, 56, 56, 55, 32, 99, 117, 116, 32, 97, 116, 32, 108, 111, 111, 112, 46, 101, 120, 97, 109, 112, 108, 101, 47, 99, 111, 110, 115, 116, 114, 97, 105, 110, 116, 115, 111, 108, 118, 101, 114, 47, 108, 97, 119, 115, 46, 70, 110, 66, 117, 105, 108, 100, 68, 105, 97, 103, 114, 97, 109]
/-- Its words, behind the first three. -/
def iniRest : List (List Char) := List.map (List.map Char.ofNat) [[97, 116], [108, 111, 111, 112, 46, 101, 120, 97, 109, 112, 108, 101, 47, 99, 111, 110, 115, 116, 114, 97, 105, 110, 116, 115, 111, 108, 118, 101, 114, 47, 108, 97, 119, 115, 46, 70, 110, 66, 117, 105, 108, 100, 68, 105, 97, 103, 114, 97, 109]]
theorem strip_cut (rest : List (List Char)) : stripLifts liftWords ("cut".toList :: rest) = ([], "cut".toList :: rest) := rfl
theorem enter_of {P : Program} {rest : List (List Char)} (h : behindMainWord (wordsSigns P.initOrder.toList) = "cut".toList :: rest) (h1 : P.laysLater = false) (h2 : P.bearsReflect = false) (h3 : P.doorFits [] = true) : P.mayEnter = true := by
  unfold Program.mayEnter
  rw [h]
  simp only [strip_cut, h1, h2, h3]
  rfl
theorem final_of {P : Program} {rest : List (List Char)} (h : behindMainWord (wordsSigns P.initOrder.toList) = "cut".toList :: rest) : P.liftsFinal = false := by
  unfold Program.liftsFinal Program.headLifts
  rw [h]
  simp only [strip_cut]
  rfl
theorem make_of {P : Program} {rest : List (List Char)} (h : behindMainWord (wordsSigns P.initOrder.toList) = "cut".toList :: rest) : P.make = some .cut := by
  unfold Program.make
  rw [h]
  rfl
set_option maxRecDepth 100000 in
theorem ini_eq : Tryz.checked.prog.initOrder = String.ofList iniSigns := by kernel_rfl
theorem ini : Tryz.checked.prog.initOrder.toList = iniSigns := by rw [ini_eq]; exact String.toList_ofList
set_option maxRecDepth 100000 in
theorem ini_words : behindMainWord (wordsSigns iniSigns) = "cut".toList :: iniRest := by kernel_rfl
theorem ini_read : behindMainWord (wordsSigns Tryz.checked.prog.initOrder.toList) = "cut".toList :: iniRest := by rw [ini]; exact ini_words
set_option maxRecDepth 100000 in
theorem ini_lays : Tryz.checked.prog.laysLater = false := by kernel_rfl
set_option maxRecDepth 100000 in
theorem ini_bears : Tryz.checked.prog.bearsReflect = false := by kernel_rfl
set_option maxRecDepth 100000 in
theorem ini_door : Tryz.checked.prog.doorFits [] = true := by kernel_rfl
theorem ini_enter : Tryz.checked.prog.mayEnter = true := enter_of ini_read ini_lays ini_bears ini_door
theorem ini_final : Tryz.checked.prog.liftsFinal = false := final_of ini_read
theorem ini_make : Tryz.checked.prog.make = some .cut := make_of ini_read
end Go.Proofs.YtmonhpoogfdpoaaGreat
