/-
  Plain laws of decisions: a valid store has current domains; what a decision makes of it. No program is mentioned.
-/
import Derived.Test.YtihkeihnpiddoaaGreatDDc
set_option linter.unusedVariables false
set_option linter.unusedSimpArgs false
namespace Go.Proofs.YtihkeihnpiddoaaGreat
open Go.RowKit

theorem cur_of {s : Sto} (h : validS s = true) : ∃ C, Cur s C := by
  have h' := h
  unfold validS at h'
  rw [Bool.and_eq_true, Bool.and_eq_true, inB_iff, List.all_eq_true] at h'
  obtain ⟨⟨hm, h12⟩, hrows⟩ := h'
  obtain ⟨D, hVM⟩ := validM_open hm
  have hrow : ∀ r ∈ s.lv, r.length = s.mod.doms.length ∧ (1 ≤ r.length ∧ r.length ≤ 4) ∧ ∀ x ∈ r, 0 ≤ x ∧ x ≤ 63 := by
    intro r hr
    have := hrows r hr
    unfold lvOk domsOk at this
    rw [Bool.and_eq_true, Bool.and_eq_true, inB_iff, allB_iff, decide_eq_true_eq] at this
    exact ⟨this.1, by omega, this.2.2⟩
  obtain ⟨r, hr⟩ : ∃ r, s.lv[s.lv.length - 1]? = some r := ⟨_, List.getElem?_eq_getElem (by omega)⟩
  obtain ⟨h1, h2, h3⟩ := hrow r (List.mem_of_getElem? hr)
  obtain ⟨C, rfl, hb⟩ := ints_below h3
  rw [ints_len] at h1 h2
  refine ⟨C, hr, h1, hb, ?_, h2, by omega, fun r hr => (hrow r hr).2.1⟩
  rw [h1, hVM.doms, ints_len]; exact hVM.cons
theorem cur_any (s : Sto) : ∃ C, validS s = true → Cur s C := by
  by_cases h : validS s = true
  · obtain ⟨C, hC⟩ := cur_of h; exact ⟨C, fun _ => hC⟩
  · exact ⟨[], fun h' => absurd h' h⟩
/-- The domains that a decision leads to. -/
def nxt (s : Sto) (l : Lit) (C : List Nat) : List Nat := fix s.mod.cons (andAt C l.var.toNat (litD l))
theorem decS_eq (s : Sto) (l : Lit) (C : List Nat) : decS s l C = ⟨s.mod, s.lv ++ [ints (nxt s l C)]⟩ := rfl
theorem nxt_len {s : Sto} {l : Lit} {C : List Nat} (h : Cur s C) : (nxt s l C).length = C.length := by
  unfold nxt; rw [fix_len (by rw [andAt_len]; exact h.cons), andAt_len]
theorem nxt_below {s : Sto} {l : Lit} {C : List Nat} (h : Cur s C) : Below64 (nxt s l C) :=
  fix_below (by rw [andAt_len]; exact h.cons) (andAt_below h.below _ _)
theorem decB_lv {s : Sto} {l : Lit} (h : decB s l = true) : validS s = true ∧ litOk s.mod.doms.length l = true ∧ s.lv.length ≠ 12 := by
  unfold decB at h
  rw [Bool.and_eq_true, Bool.and_eq_true] at h
  exact ⟨h.1, h.2.1, by simpa using h.2.2⟩
theorem decS_valid {s : Sto} {l : Lit} {C : List Nat} (h : decB s l = true) (hC : Cur s C) : validS (decS s l C) = true := by
  obtain ⟨hv, -, h12⟩ := decB_lv h
  have hv' := hv
  unfold validS at hv' ⊢
  rw [Bool.and_eq_true, Bool.and_eq_true, inB_iff, List.all_eq_true] at hv' ⊢
  obtain ⟨⟨hm, h1⟩, hr⟩ := hv'
  refine ⟨⟨hm, ?_⟩, fun r hr' => ?_⟩
  · show 1 ≤ (((s.lv ++ [ints (nxt s l C)]).length : Nat) : Int) ∧ (((s.lv ++ [ints (nxt s l C)]).length : Nat) : Int) ≤ 12
    rw [List.length_append, List.length_singleton]; omega
  · rcases List.mem_append.1 hr' with h' | h'
    · exact hr r h'
    · rw [List.mem_singleton.1 h']
      show lvOk s.mod.doms.length (ints (nxt s l C)) = true
      have hl := nxt_len (l := l) hC
      have hb := nxt_below (l := l) hC
      unfold lvOk domsOk
      rw [Bool.and_eq_true, Bool.and_eq_true, inB_iff, allB_iff, decide_eq_true_eq, ints_len, hl]
      refine ⟨hC.len, by have := hC.small; omega, fun x hx => ?_⟩
      obtain ⟨d, hd, rfl⟩ := ints_mem.1 hx
      have := hb d hd; omega
theorem decS_cur {s : Sto} {l : Lit} {C : List Nat} (h : decB s l = true) (hC : Cur s C) : Cur (decS s l C) (nxt s l C) := by
  obtain ⟨hv, -, h12⟩ := decB_lv h
  have hl := nxt_len (l := l) hC
  have hm := hC.many
  refine ⟨?_, by rw [hl]; exact hC.len, nxt_below hC, by rw [hl]; exact hC.cons, by rw [hl]; exact hC.small, ?_, fun r hr => ?_⟩
  · show (s.lv ++ [ints (nxt s l C)])[(s.lv ++ [ints (nxt s l C)]).length - 1]? = _
    rw [List.length_append, List.length_singleton, Nat.add_sub_cancel, List.getElem?_append_right (Nat.le_refl _), Nat.sub_self]; rfl
  · show 1 ≤ (s.lv ++ [ints (nxt s l C)]).length ∧ (s.lv ++ [ints (nxt s l C)]).length ≤ 12
    rw [List.length_append, List.length_singleton]; omega
  · rcases List.mem_append.1 hr with h' | h'
    · exact hC.rows r h'
    · rw [List.mem_singleton.1 h', ints_len]
      show 1 ≤ (nxt s l C).length ∧ (nxt s l C).length ≤ 4
      rw [hl]; exact hC.small
theorem decR_of {s : Sto} {l : Lit} {C : List Nat} (h : decB s l = true) : decR s l C = decS s l C := by
  unfold decR; rw [(decB_lv h).1, h]; rfl
theorem curO_of {s : Sto} {C : List Nat} (h : validS s = true) (hC : Cur s C) : curO s = some (ints C) := by
  unfold curO; rw [if_pos h]; exact hC.row
/-- Two decisions in either order lead to the same domains. -/
theorem nxt_two {s : Sto} {l k : Lit} {C : List Nat} (hC : Cur s C) : nxt (decS s l C) k (nxt s l C) = nxt (decS s k C) l (nxt s k C) := fix_two hC.cons _ _ _ _
theorem nxt_sub {s : Sto} {l : Lit} {C : List Nat} (hC : Cur s C) : Sub (nxt s l C) C :=
  (fix_sub (by rw [andAt_len]; exact hC.cons)).trans (andAt_sub _ _ _)
/-- Of the variable's values those alone are left that make the literal true. -/
theorem nxt_bit {s : Sto} {l : Lit} {C : List Nat} (hC : Cur s C) (hl : litOk s.mod.doms.length l = true) (v : Nat) (hv : v < 6) (h : ((nxt s l C).getD l.var.toNat 0).testBit v = true) : (((v : Int) == l.val) != l.neg) = true := by
  have h1 := (fix_sub (cs := s.mod.cons) (D := andAt C l.var.toNat (litD l)) (by rw [andAt_len]; exact hC.cons)).2 _ _ h
  have h2 := (andAt_bit.1 h1).2 rfl
  rwa [litD_bit l v (litOk_iff.1 hl).2 hv] at h2
end Go.Proofs.YtihkeihnpiddoaaGreat
