/-
  Walks of the program's enumeration of solutions.
  Walk of the reference's search for solutions.
-/
import Derived.Test.YtihkeihnpiddoaaEM4M5
import Derived.Deep.AppendLies
import Derived.Test.YtihkeihnpiddoaaEG1
set_option linter.unusedVariables false
namespace Go.Proofs.Ytihkeihnpiddoaa
open Go.RowKit
attribute [local go_sem] Oper.semAt_some

theorem word_mem {c : Con} {xs : List Int} (hc : VC c xs.length) {x : Int} (hx : x ∈ word c.vars xs) : x ∈ xs := by
  unfold word at hx
  obtain ⟨v, hv, rfl⟩ := List.mem_map.1 hx
  have hr := hc.rng v hv
  have hl : v.toNat < xs.length := by omega
  simp [List.getD_eq_getElem?_getD, hl]
theorem fit_word {c : Con} {xs : List Int} (hc : VC c xs.length) (hr : ∀ x ∈ xs, 0 ≤ x ∧ x ≤ 5) : Fit c (word c.vars xs) := by
  have hl : (word c.vars xs).length = c.vars.length := by simp [word]
  exact ⟨hc.fits, hl, by rw [hl]; exact hc.k.1, by rw [hl]; have := hc.k; have := hc.n4; omega, fun x hx => hr x (word_mem hc hx)⟩

theorem solB_any (cs : List Con) (xs : List Int) : solB cs xs = !anyG (fun c => !satB c (word c.vars xs)) cs := by
  unfold solB anyG
  rw [Bool.eq_iff_iff]
  simp [List.all_eq_true]

end Go.Proofs.Ytihkeihnpiddoaa

set_option linter.unusedVariables false
namespace Go.Proofs.Ytihkeihnpiddoaa
open Go.RowKit



end Go.Proofs.Ytihkeihnpiddoaa
