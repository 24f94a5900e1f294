/-
  The program's first word, sign by sign, and the closed facts that read it: apart, since the kernel would otherwise hold too much at once.
-/
import Derived.Test.YtjmjjdgbkibdaaaRows
import Derived.WalkKit
import Derived.ProofKit
import Derived.JoinedOf
set_option linter.unusedVariables false
namespace Go.Proofs.Ytjmjjdgbkibdaaa
open Go.RowKit

/-- The signs of the program's order of initialisation. -/
def iniSigns : List Char := List.map Char.ofNat [104, 97, 114, 110, 101, 115, 115, 32, 100, 101, 51, 53, 51, 51, 97, 55, 49, 101, 48, 50, 53, 99, 53, 102, 97, 101, 53, 51, 50, 52, 51, 53, 53, 53, 52, 100, 51, 98, 98, 98, 49, 54, 101, 53, 98, 99, 48, 97, 55, 48, 54, 51, 53, 54, 99, 53, 102, 97, 98, 99, 55, 53, 100, 56, 51, 55, 56, 57, 57, 48, 54, 57, 32, 99, 117, 116, 32, 97, 116, 32, 108, 111, 111, 112, 46, 101, 120, 97, 109, 112, 108, 101, 47, 99, 111, 110, 115, 116, 114, 97, 105, 110, 116, 115, 111, 108, 118, 101, 114, 47, 108, 97, 119, 115, 46, 70, 110, 69, 120, 97, 99, 116, 80, 97, 114, 101, 116, 111, 70, 114, 111, 110, 116, 32, 108, 111, 111, 112, 46, 101, 120, 97, 109, 112, 108, 101, 47, 99, 111, 110, 115, 116, 114, 97, 105, 110, 116, 115, 111, 108, 118, 101, 114, 47, 108, 97, 119, 115, 46, 70, 110, 86, 97, 108, 117, 101, 83, 121, 109, 109, 101, 116, 114, 121, 32, 108, 111, 111, 112, 46, 101, 120, 97, 109, 112, 108, 101, 47, 99, 111, 110, 115, 116, 114, 97, 105, 110, 116, 115, 111, 108, 118, 101, 114, 47, 108, 97, 119, 115, 46, 70, 110, 73, 115, 69, 110, 116, 97, 105, 108, 101, 100]
/-- Its words, behind the first three. -/
def iniRest : List (List Char) := List.map (List.map Char.ofNat) [[97, 116], [108, 111, 111, 112, 46, 101, 120, 97, 109, 112, 108, 101, 47, 99, 111, 110, 115, 116, 114, 97, 105, 110, 116, 115, 111, 108, 118, 101, 114, 47, 108, 97, 119, 115, 46, 70, 110, 69, 120, 97, 99, 116, 80, 97, 114, 101, 116, 111, 70, 114, 111, 110, 116], [108, 111, 111, 112, 46, 101, 120, 97, 109, 112, 108, 101, 47, 99, 111, 110, 115, 116, 114, 97, 105, 110, 116, 115, 111, 108, 118, 101, 114, 47, 108, 97, 119, 115, 46, 70, 110, 86, 97, 108, 117, 101, 83, 121, 109, 109, 101, 116, 114, 121], [108, 111, 111, 112, 46, 101, 120, 97, 109, 112, 108, 101, 47, 99, 111, 110, 115, 116, 114, 97, 105, 110, 116, 115, 111, 108, 118, 101, 114, 47, 108, 97, 119, 115, 46, 70, 110, 73, 115, 69, 110, 116, 97, 105, 108, 101, 100]]
theorem strip_cut (rest : List (List Char)) : stripLifts liftWords ("cut".toList :: rest) = ([], "cut".toList :: rest) := rfl
theorem enter_of {P : Program} {rest : List (List Char)} (h : behindMainWord (wordsSigns P.initOrder.toList) = "cut".toList :: rest) (h1 : P.laysLater = false) (h2 : P.bearsReflect = false) (h3 : P.doorFits [] = true) : P.mayEnter = true := by
  unfold Program.mayEnter
  rw [h]
  simp only [strip_cut, h1, h2, h3]
  rfl
theorem final_of {P : Program} {rest : List (List Char)} (h : behindMainWord (wordsSigns P.initOrder.toList) = "cut".toList :: rest) : P.liftsFinal = false := by
  unfold Program.liftsFinal Program.headLifts
  rw [h]
  simp only [strip_cut]
  rfl
theorem make_of {P : Program} {rest : List (List Char)} (h : behindMainWord (wordsSigns P.initOrder.toList) = "cut".toList :: rest) : P.make = some .cut := by
  unfold Program.make
  rw [h]
  rfl
set_option maxRecDepth 100000 in
theorem ini_eq : Try.checked.prog.initOrder = String.ofList iniSigns := by kernel_rfl
theorem ini : Try.checked.prog.initOrder.toList = iniSigns := by rw [ini_eq]; exact String.toList_ofList
set_option maxRecDepth 100000 in
theorem ini_words : behindMainWord (wordsSigns iniSigns) = "cut".toList :: iniRest := by kernel_rfl
theorem ini_read : behindMainWord (wordsSigns Try.checked.prog.initOrder.toList) = "cut".toList :: iniRest := by rw [ini]; exact ini_words
set_option maxRecDepth 100000 in
theorem ini_lays : Try.checked.prog.laysLater = false := by kernel_rfl
set_option maxRecDepth 100000 in
theorem ini_bears : Try.checked.prog.bearsReflect = false := by kernel_rfl
set_option maxRecDepth 100000 in
theorem ini_door : Try.checked.prog.doorFits [] = true := by kernel_rfl
theorem ini_enter : Try.checked.prog.mayEnter = true := enter_of ini_read ini_lays ini_bears ini_door
theorem ini_final : Try.checked.prog.liftsFinal = false := final_of ini_read
theorem ini_make : Try.checked.prog.make = some .cut := make_of ini_read
end Go.Proofs.Ytjmjjdgbkibdaaa
