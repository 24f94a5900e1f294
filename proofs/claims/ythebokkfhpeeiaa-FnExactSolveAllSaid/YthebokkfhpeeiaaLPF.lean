/-
  Walks of laws.isSubset and FnPropagateFixpoint.
-/
import Derived.Test.YthebokkfhpeeiaaLIC
set_option linter.unusedVariables false
namespace Go.Proofs.Ythebokkfhpeeiaa
open Go.RowKit

theorem and_sub {D E : List Nat} (h : Sub D E) {i d e : Nat} (hd : D[i]? = some d) (he : E[i]? = some e) : d &&& e = d := by
  refine Nat.eq_of_testBit_eq fun n => ?_
  rw [Nat.testBit_and]
  cases hb : d.testBit n
  · rfl
  · have := h.2 i n (by simpa [List.getD_eq_getElem?_getD, hd] using hb)
    rw [List.getD_eq_getElem?_getD, he] at this
    simpa using this
theorem fix_bool {m : Mod} {D : List Nat} (h : VM m D) : ∃ fb : Bool, (∀ (i : Nat) d, (fix m.cons D)[i]? = some d → ((d : Int) == 0) = fb) ∧ isConsB ⟨ints (fix m.cons D), m.cons⟩ (fix m.cons D) = !fb := by
  have hl := fix_len h.cons
  have hv : VM ⟨ints (fix m.cons D), m.cons⟩ (fix m.cons D) := ⟨rfl, by rw [hl]; exact h.len, fix_below h.cons h.below, by rw [hl]; exact h.cons, h.many⟩
  rcases fix_end h.cons with e | ⟨h0, hs⟩
  · refine ⟨true, fun i d hd => ?_, ?_⟩
    · rw [e] at hd
      unfold zeros at hd
      have := List.eq_of_mem_replicate (List.mem_of_getElem? hd)
      subst this; rfl
    · have h0 : 0 ∈ fix m.cons D := by rw [e]; unfold zeros; rw [List.mem_replicate]; have := h.len; exact ⟨by omega, rfl⟩
      unfold isConsB
      simp [h0]
  · refine ⟨false, fun i d hd => ?_, ?_⟩
    · have : d ≠ 0 := fun e => h0 (e ▸ List.mem_of_getElem? hd)
      simp; omega
    · unfold isConsB
      have h1 : consB m.cons (fix m.cons D) = true := consB_iff.2 ((stepF_eq_iff (by rw [hl]; exact h.cons)).1 hs)
      rw [hv.valid]
      simp [h0, h1]
theorem VM.fixed {m : Mod} {D : List Nat} (h : VM m D) : VM ⟨ints (fix m.cons D), m.cons⟩ (fix m.cons D) := by
  have hl := fix_len h.cons
  exact ⟨rfl, by rw [hl]; exact h.len, fix_below h.cons h.below, by rw [hl]; exact h.cons, h.many⟩

end Go.Proofs.Ythebokkfhpeeiaa
