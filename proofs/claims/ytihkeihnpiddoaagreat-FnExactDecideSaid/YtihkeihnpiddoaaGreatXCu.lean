/-
  Plain laws of decisions: a valid store has current domains; what a decision makes of it. No program is mentioned.
-/
import Derived.Test.YtihkeihnpiddoaaGreatXDc
set_option linter.unusedVariables false
set_option linter.unusedSimpArgs false
namespace Go.Proofs.YtihkeihnpiddoaaGreat
open Go.RowKit

theorem cur_of {s : Sto} (h : validS s = true) : ∃ C, Cur s C := by
  have h' := h
  unfold validS at h'
  rw [Bool.and_eq_true, Bool.and_eq_true, inB_iff, List.all_eq_true] at h'
  obtain ⟨⟨hm, h12⟩, hrows⟩ := h'
  obtain ⟨D, hVM⟩ := validM_open hm
  have hrow : ∀ r ∈ s.lv, r.length = s.mod.doms.length ∧ (1 ≤ r.length ∧ r.length ≤ 4) ∧ ∀ x ∈ r, 0 ≤ x ∧ x ≤ 63 := by
    intro r hr
    have := hrows r hr
    unfold lvOk domsOk at this
    rw [Bool.and_eq_true, Bool.and_eq_true, inB_iff, allB_iff, decide_eq_true_eq] at this
    exact ⟨this.1, by omega, this.2.2⟩
  obtain ⟨r, hr⟩ : ∃ r, s.lv[s.lv.length - 1]? = some r := ⟨_, List.getElem?_eq_getElem (by omega)⟩
  obtain ⟨h1, h2, h3⟩ := hrow r (List.mem_of_getElem? hr)
  obtain ⟨C, rfl, hb⟩ := ints_below h3
  rw [ints_len] at h1 h2
  refine ⟨C, hr, h1, hb, ?_, h2, by omega, fun r hr => (hrow r hr).2.1⟩
  rw [h1, hVM.doms, ints_len]; exact hVM.cons
theorem cur_any (s : Sto) : ∃ C, validS s = true → Cur s C := by
  by_cases h : validS s = true
  · obtain ⟨C, hC⟩ := cur_of h; exact ⟨C, fun _ => hC⟩
  · exact ⟨[], fun h' => absurd h' h⟩
/-- The domains that a decision leads to. -/
def nxt (s : Sto) (l : Lit) (C : List Nat) : List Nat := fix s.mod.cons (andAt C l.var.toNat (litD l))
theorem nxt_len {s : Sto} {l : Lit} {C : List Nat} (h : Cur s C) : (nxt s l C).length = C.length := by
  unfold nxt; rw [fix_len (by rw [andAt_len]; exact h.cons), andAt_len]
end Go.Proofs.YtihkeihnpiddoaaGreat
