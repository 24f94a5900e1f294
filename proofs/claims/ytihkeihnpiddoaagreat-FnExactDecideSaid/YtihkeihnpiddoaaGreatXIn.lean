/-
  The program's first word, sign by sign, and the closed facts that read it: apart, since the kernel would otherwise hold too much at once.
-/
import Derived.Test.YtihkeihnpiddoaaGreatRows
import Derived.WalkKit
import Derived.ProofKit
import Derived.JoinedOf
set_option linter.unusedVariables false
namespace Go.Proofs.YtihkeihnpiddoaaGreat
open Go.RowKit

/-- The signs of the program's order of initialisation. -/
def iniSigns : List Char := List.map Char.ofNat [104, 97, 114, 110, 101, 115, 115, 32, 55, 52, 50, 49, 48, 56, 54, 55, 97, 55, 102, 100, 48, 50, 98, 101, 57, 97, 99, 54, 49, 49, 55, 98, 102, 55, 55, 49, 99, 102, 53, 50, 57, 99, 98, 102, 100, 57, 52, 51, 102, 101, 56, 53, 54, 50, 55, 101, 53, 98, 101, 98, 53, 102, 100, 51, 99, 49, 52, 49, 52, 56, 48, 57, 32, 99, 117, 116, 32, 97, 116, 32, 108, 111, 111, 112, 46, 101, 120, 97, 109, 112, 108, 101, 47, 99, 111, 110, 115, 116, 114, 97, 105, 110, 116, 115, 111, 108, 118, 101, 114, 47, 108, 97, 119, 115, 46, 70, 110, 68, 101, 99, 105, 100, 101, 79, 114, 100, 101, 114, 32, 108, 111, 111, 112, 46, 101, 120, 97, 109, 112, 108, 101, 47, 99, 111, 110, 115, 116, 114, 97, 105, 110, 116, 115, 111, 108, 118, 101, 114, 47, 108, 97, 119, 115, 46, 70, 110, 66, 117, 105, 108, 100, 68, 105, 97, 103, 114, 97, 109, 32, 108, 111, 111, 112, 46, 101, 120, 97, 109, 112, 108, 101, 47, 99, 111, 110, 115, 116, 114, 97, 105, 110, 116, 115, 111, 108, 118, 101, 114, 47, 108, 97, 119, 115, 46, 70, 110, 68, 101, 99, 105, 100, 101, 32, 108, 111, 111, 112, 46, 101, 120, 97, 109, 112, 108, 101, 47, 99, 111, 110, 115, 116, 114, 97, 105, 110, 116, 115, 111, 108, 118, 101, 114, 47, 108, 97, 119, 115, 46, 70, 110, 69, 120, 97, 99, 116, 68, 101, 99, 105, 100, 101]
/-- Its words, behind the first three. -/
def iniRest : List (List Char) := List.map (List.map Char.ofNat) [[97, 116], [108, 111, 111, 112, 46, 101, 120, 97, 109, 112, 108, 101, 47, 99, 111, 110, 115, 116, 114, 97, 105, 110, 116, 115, 111, 108, 118, 101, 114, 47, 108, 97, 119, 115, 46, 70, 110, 68, 101, 99, 105, 100, 101, 79, 114, 100, 101, 114], [108, 111, 111, 112, 46, 101, 120, 97, 109, 112, 108, 101, 47, 99, 111, 110, 115, 116, 114, 97, 105, 110, 116, 115, 111, 108, 118, 101, 114, 47, 108, 97, 119, 115, 46, 70, 110, 66, 117, 105, 108, 100, 68, 105, 97, 103, 114, 97, 109], [108, 111, 111, 112, 46, 101, 120, 97, 109, 112, 108, 101, 47, 99, 111, 110, 115, 116, 114, 97, 105, 110, 116, 115, 111, 108, 118, 101, 114, 47, 108, 97, 119, 115, 46, 70, 110, 68, 101, 99, 105, 100, 101], [108, 111, 111, 112, 46, 101, 120, 97, 109, 112, 108, 101, 47, 99, 111, 110, 115, 116, 114, 97, 105, 110, 116, 115, 111, 108, 118, 101, 114, 47, 108, 97, 119, 115, 46, 70, 110, 69, 120, 97, 99, 116, 68, 101, 99, 105, 100, 101]]
theorem strip_cut (rest : List (List Char)) : stripLifts liftWords ("cut".toList :: rest) = ([], "cut".toList :: rest) := rfl
theorem enter_of {P : Program} {rest : List (List Char)} (h : behindMainWord (wordsSigns P.initOrder.toList) = "cut".toList :: rest) (h1 : P.laysLater = false) (h2 : P.bearsReflect = false) (h3 : P.doorFits [] = true) : P.mayEnter = true := by
  unfold Program.mayEnter
  rw [h]
  simp only [strip_cut, h1, h2, h3]
  rfl
theorem final_of {P : Program} {rest : List (List Char)} (h : behindMainWord (wordsSigns P.initOrder.toList) = "cut".toList :: rest) : P.liftsFinal = false := by
  unfold Program.liftsFinal Program.headLifts
  rw [h]
  simp only [strip_cut]
  rfl
theorem make_of {P : Program} {rest : List (List Char)} (h : behindMainWord (wordsSigns P.initOrder.toList) = "cut".toList :: rest) : P.make = some .cut := by
  unfold Program.make
  rw [h]
  rfl
set_option maxRecDepth 100000 in
theorem ini_eq : Tryz.checked.prog.initOrder = String.ofList iniSigns := by kernel_rfl
theorem ini : Tryz.checked.prog.initOrder.toList = iniSigns := by rw [ini_eq]; exact String.toList_ofList
set_option maxRecDepth 100000 in
theorem ini_words : behindMainWord (wordsSigns iniSigns) = "cut".toList :: iniRest := by kernel_rfl
theorem ini_read : behindMainWord (wordsSigns Tryz.checked.prog.initOrder.toList) = "cut".toList :: iniRest := by rw [ini]; exact ini_words
set_option maxRecDepth 100000 in
theorem ini_lays : Tryz.checked.prog.laysLater = false := by kernel_rfl
set_option maxRecDepth 100000 in
theorem ini_bears : Tryz.checked.prog.bearsReflect = false := by kernel_rfl
set_option maxRecDepth 100000 in
theorem ini_door : Tryz.checked.prog.doorFits [] = true := by kernel_rfl
theorem ini_enter : Tryz.checked.prog.mayEnter = true := enter_of ini_read ini_lays ini_bears ini_door
theorem ini_final : Tryz.checked.prog.liftsFinal = false := final_of ini_read
theorem ini_make : Tryz.checked.prog.make = some .cut := make_of ini_read
end Go.Proofs.YtihkeihnpiddoaaGreat
