/-
  Walks: whether a number is in a list (the reference's, the laws').
  Walks of the reference's improvement.
-/
import Derived.Test.YtihkeihnpiddoaaEM1
import Derived.Test.YtihkeihnpiddoaaEIm
import Derived.Test.YtihkeihnpiddoaaECpCt
set_option linter.unusedVariables false
set_option linter.unusedSimpArgs false
namespace Go.Proofs.Ytihkeihnpiddoaa
open Go.RowKit



end Go.Proofs.Ytihkeihnpiddoaa

set_option linter.unusedVariables false
set_option linter.unusedSimpArgs false
namespace Go.Proofs.Ytihkeihnpiddoaa
open Go.RowKit

theorem fits_rows {c : Con} (h : fitsB c = true) : c.rows.length ≤ 8 := by
  have z : eqI c.rows.length 0 = true → c.rows.length ≤ 8 := fun h => by
    have := eq_of_beq (show ((c.rows.length : Int) == 0) = true from h); omega
  unfold fitsB at h
  split at h
  · rw [Bool.and_eq_true] at h; exact z h.2
  split at h
  · rw [Bool.and_eq_true] at h; exact z h.2
  split at h
  · rw [Bool.and_eq_true] at h; exact z h.2
  split at h
  · rw [Bool.and_eq_true] at h; exact z h.2
  split at h
  · rw [Bool.and_eq_true] at h; exact (rowsIn_pos h.2).2
  split at h
  · rw [Bool.and_eq_true] at h; exact z h.2
  split at h
  · rw [Bool.and_eq_true] at h; exact z h.2
  split at h
  · rw [Bool.and_eq_true, Bool.and_eq_true, Bool.and_eq_true] at h; exact (rowsIn_pos h.1.1.1).2
  · cases h
theorem VM.rows {m : Mod} {D : List Nat} (h : VM m D) : ∀ c ∈ m.cons, c.rows.length ≤ 1000 := fun c hc => by
  have := fits_rows (h.cons c hc).fits; omega



end Go.Proofs.Ytihkeihnpiddoaa
