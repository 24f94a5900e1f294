/-
  Walks of the canonical solutions: the program's and the reference's.
-/
import Derived.Test.YtjmjjdgbkibdaaaOr
import Derived.Test.YtjmjjdgbkibdaaaDf
set_option linter.unusedVariables false
set_option linter.unusedSimpArgs false
namespace Go.Proofs.Ytjmjjdgbkibdaaa
open Go.RowKit

/-! ### A list of values that lead elsewhere -/
def elV (S : List Nat) (w : World) (cs : List Value) (u : Value) : Prop := cs = [u]
theorem elV_ok : ElOk elV := ⟨fun h _ => h, fun h _ => h⟩
theorem OwnG.rowsV {B : Nat} {w : World} {e : TypeId} {v : Value} {us : List Value} {rows : List (List Int)} {S : List Nat} (h : OwnG 1 elV B w e v us) (hl : us.length = rows.length) (hr : ∀ (i : Nat) u r, us[i]? = some u → rows[i]? = some r → Nums S w .i64 u r) (hS : ∀ b ∈ S, b < B ∨ w.heap.size ≤ b) : RowsV S w v rows := by
  obtain ⟨ao, cap, rfl, h1, h2, h3⟩ := h.slice
  refine ⟨ao, cap, by rw [hl], ⟨by rw [← hl]; exact h1, h2, h3⟩, fun i r hi => ?_⟩
  obtain ⟨u, hu⟩ := get_some (xs := us) (k := i) (by have := (List.getElem?_eq_some_iff.1 hi).1; omega)
  obtain ⟨g, cap', cs, e1, hb, hlt, hlen, hc, hf, hel⟩ := h.cell hu
  cases e1
  have hcs := hel [] (by simp)
  unfold elV at hcs
  subst hcs
  exact ⟨g, 0, u, rfl, fun hm => by rcases hS g hm with h | h <;> omega, by have := hc 0 u rfl; simpa using this, hr i u r hu hi⟩

theorem OwnG.emptyL {α : Type} {size : Nat} {el : List Nat → World → List Value → α → Prop} {B : Nat} (w : World) (e : TypeId) (hB : B ≤ w.heap.size) : OwnG size el B (w.alloc (.cells #[] e)) e (.slice (some ⟨w.heap.size, 0, none⟩) 0 0) ([] : List α) :=
  ⟨[], rfl, by simp, ⟨by simp, .inr ⟨w.heap.size, 0, #[], rfl, hB, heap_alloc_new _ _, Nat.le_refl _, by simp [maxLen], by simp, by simp⟩⟩, by intro i cs x h; simp at h⟩

/-! ### Ascending in each orbit -/
def badB (o x : List Int) (i j : Nat) : Bool := (o.getD i 0 == o.getD j 0) && decide (x.getD i 0 < x.getD j 0)
def canB (o x : List Int) : Bool := (List.range x.length).all fun i => (List.range i).all fun j => !badB o x i j
theorem canB_true {o x : List Int} (h : ∀ i, i < x.length → ∀ j, j < i → badB o x i j = false) : canB o x = true := by
  unfold canB
  rw [List.all_eq_true]
  intro i hi
  rw [List.all_eq_true]
  intro j hj
  rw [h i (List.mem_range.1 hi) j (List.mem_range.1 hj)]; rfl
theorem canB_false {o x : List Int} {i j : Nat} (hi : i < x.length) (hj : j < i) (h : badB o x i j = true) : canB o x = false := by
  unfold canB
  rw [List.all_eq_false]
  refine ⟨i, List.mem_range.2 hi, ?_⟩
  rw [Bool.not_eq_true, List.all_eq_false]
  exact ⟨j, List.mem_range.2 hj, by rw [h]; simp⟩
theorem getD_at {xs : List Int} {i : Nat} {x : Int} (h : xs[i]? = some x) : xs.getD i 0 = x := by rw [List.getD_eq_getElem?_getD, h]; rfl
theorem badB_at {o x : List Int} {i j : Nat} {a b c d : Int} (h1 : o[i]? = some a) (h2 : o[j]? = some b) (h3 : x[i]? = some c) (h4 : x[j]? = some d) : badB o x i j = ((a == b) && decide (c < d)) := by
  unfold badB; rw [getD_at h1, getD_at h2, getD_at h3, getD_at h4]



/-! ### The canonical solutions -/
def canO (m : Mod) (D : List Nat) : List (List Int) := if validM m then (sols m.cons D).filter (fun x => canB (orbs m.cons D D.length) x) else []
theorem canO_len (m : Mod) (D : List Nat) (hD : validM m = true → VM m D) : mkR (canO m D) ≤ 1000000 := by
  unfold canO
  cases h : validM m
  · simp [mkR]
  · have hv := hD h
    simp only [if_true]
    have h1 := sols_length m.cons D hv.len.2
    have h2 : ((sols m.cons D).filter (fun x => canB (orbs m.cons D D.length) x)).length ≤ 1296 := Nat.le_trans (List.length_filter_le _ _) h1
    have hx : ∀ x ∈ (sols m.cons D).filter (fun x => canB (orbs m.cons D D.length) x), x.length ≤ 4 := fun x hx => by rw [tups_len (mem_sols.1 (List.mem_filter.1 hx).1).1]; exact hv.len.2
    revert hx h2
    generalize (sols m.cons D).filter (fun x => canB (orbs m.cons D D.length) x) = zs
    intro h2 hx
    have h3 : mkR zs ≤ 4 * zs.length := by
      clear h2
      induction zs with
      | nil => simp [mkR]
      | cons z r ih =>
        have h2 := hx z (by simp)
        have h3 := ih (fun x hx' => hx x (by simp [hx']))
        simp only [mkR, List.map_cons, List.sum_cons, List.length_cons] at h3 ⊢
        omega
    omega


end Go.Proofs.Ytjmjjdgbkibdaaa
