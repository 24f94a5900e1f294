/-
  Plain laws of canonical solutions: the exchanges that sort each orbit keep a solution, and end in a canonical one.
-/
import Derived.Test.YtjmjjdgbkibdaaaGreatOrP
import Derived.Test.YtjmjjdgbkibdaaaGreatCa
set_option linter.unusedVariables false
set_option linter.unusedSimpArgs false
namespace Go.Proofs.YtjmjjdgbkibdaaaGreat
open Go.RowKit

theorem badB_no {o x : List Int} {i j : Nat} : badB o x i j = false ↔ (o.getD i 0 = o.getD j 0 → x.getD j 0 ≤ x.getD i 0) := by
  unfold badB
  rw [Bool.and_eq_false_iff]
  constructor
  · rintro (h | h) e
    · rw [e] at h; simp at h
    · have := of_decide_eq_false h; omega
  · intro h
    by_cases e : o.getD i 0 = o.getD j 0
    · right; exact decide_eq_false (by have := h e; omega)
    · left; exact beq_eq_false_iff_ne.2 e
theorem badB_yes {o x : List Int} {i j : Nat} (h : badB o x i j = true) : o.getD i 0 = o.getD j 0 ∧ x.getD i 0 < x.getD j 0 := by
  unfold badB at h
  rw [Bool.and_eq_true] at h
  exact ⟨eq_of_beq h.1, of_decide_eq_true h.2⟩
theorem swapL_getD {i j : Nat} {x : List Int} (hi : i < x.length) (hj : j < x.length) (q : Nat) : (swapL i j x).getD q 0 = if q = j then x.getD i 0 else if q = i then x.getD j 0 else x.getD q 0 := by
  simp only [List.getD_eq_getElem?_getD, swapL_get hi hj]
  split
  · rfl
  · split <;> rfl
/-- Before index i all is in order; below j the values of i's orbit are at most that of i. -/
def SortI (o x : List Int) (i j : Nat) : Prop := (∀ p, p < i → ∀ q, q < p → badB o x p q = false) ∧ ∀ q, q < j → badB o x i q = false
theorem SortI.start (o x : List Int) : SortI o x 0 0 := ⟨fun p hp => by omega, fun q hq => by omega⟩
theorem SortI.next {o x : List Int} {i : Nat} (h : SortI o x i i) : SortI o x (i + 1) 0 := by
  refine ⟨fun p hp q hq => ?_, fun q hq => by omega⟩
  by_cases hpi : p < i
  · exact h.1 p hpi q hq
  · have : p = i := by omega
    subst this; exact h.2 q hq
theorem SortI.keep {o x : List Int} {i j : Nat} (h : SortI o x i j) (hb : badB o x i j = false) : SortI o x i (j + 1) := by
  refine ⟨h.1, fun q hq => ?_⟩
  by_cases hqj : q < j
  · exact h.2 q hqj
  · have : q = j := by omega
    subst this; exact hb
theorem SortI.swap {o x : List Int} {i j : Nat} (h : SortI o x i j) (hji : j < i) (hi : i < x.length) (hb : badB o x i j = true) : SortI o (swapL i j x) i (j + 1) := by
  obtain ⟨ho, hlt⟩ := badB_yes hb
  have hj : j < x.length := by omega
  refine ⟨fun p hp q hq => badB_no.2 fun e => ?_, fun q hq => badB_no.2 fun e => ?_⟩
  · rw [swapL_getD hi hj, swapL_getD hi hj]
    have h1 := badB_no.1 (h.1 p hp q hq) e
    rw [if_neg (show ¬ p = i by omega), if_neg (show ¬ q = i by omega)]
    by_cases hpj : p = j
    · subst hpj
      rw [if_pos rfl, if_neg (by omega)]
      exact badB_no.1 (h.2 q hq) (by rw [ho, e])
    · rw [if_neg hpj]
      by_cases hqj : q = j
      · subst hqj
        rw [if_pos rfl]; omega
      · rw [if_neg hqj]; exact h1
  · rw [swapL_getD hi hj, swapL_getD hi hj, if_neg (show ¬ i = j by omega), if_pos rfl, if_neg (show ¬ q = i by omega)]
    by_cases hqj : q = j
    · subst hqj; rw [if_pos rfl]; omega
    · rw [if_neg hqj]
      have := badB_no.1 (h.2 q (by omega)) e
      omega
theorem SortI.done {o x : List Int} (h : SortI o x x.length 0) : canB o x = true := canB_true h.1
theorem orbs_getD {cs : List Con} {D : List Nat} {n i : Nat} (h : i < n) : (orbs cs D n).getD i 0 = (orb cs D i : Int) := by
  rw [List.getD_eq_getElem?_getD, orbs_get h]; rfl
theorem swap_sol {cs : List Con} {D : List Nat} {i j : Nat} {x : List Int} (hi : i < D.length) (hj : j < D.length) (hx : x ∈ sols cs D) (hb : badB (orbs cs D D.length) x i j = true) : swapL i j x ∈ sols cs D := by
  have h := (badB_yes hb).1
  rw [orbs_getD hi, orbs_getD hj] at h
  have hp : presB cs D (swapL i j) = true := by rw [orb_eq_iff hi hj]; exact decide_eq_true (by omega)
  exact presB_iff.1 hp x hx
theorem mem_canO {m : Mod} {D : List Nat} {x : List Int} (hv : validM m = true) : x ∈ canO m D ↔ x ∈ sols m.cons D ∧ canB (orbs m.cons D D.length) x = true := by
  unfold canO; rw [hv, if_pos rfl, List.mem_filter]
theorem canO_sorted (m : Mod) (D : List Nat) : (canO m D).Pairwise fun x y => lexB x y = true := by
  unfold canO
  split
  · exact (sols_sorted m.cons D).filter _
  · exact List.Pairwise.nil
end Go.Proofs.YtjmjjdgbkibdaaaGreat
