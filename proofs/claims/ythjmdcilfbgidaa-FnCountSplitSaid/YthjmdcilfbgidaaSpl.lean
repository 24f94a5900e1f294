/-
  Counting solutions by the values of one domain, in plain mathematics.
-/
import Derived.Test.YthjmdcilfbgidaaFP
set_option linter.unusedVariables false
namespace Go.Proofs.Ythjmdcilfbgidaa

theorem sum_map_add {α : Type} (l : List α) (f g : α → Nat) : (l.map fun a => f a + g a).sum = (l.map f).sum + (l.map g).sum := by
  induction l with
  | nil => rfl
  | cons a r ih => simp only [List.map_cons, List.sum_cons, ih]; omega
theorem sum_swap {α β : Type} (l : List α) (k : List β) (f : α → β → Nat) : (l.map fun a => (k.map fun b => f a b).sum).sum = (k.map fun b => (l.map fun a => f a b).sum).sum := by
  induction l with
  | nil =>
    induction k with
    | nil => rfl
    | cons b k ih => simpa using ih
  | cons a r ih => simp only [List.map_cons, List.sum_cons, ih, sum_map_add]
theorem filter_flatMap_len {α β : Type} (l : List α) (f : α → List β) (p : β → Bool) : ((l.flatMap f).filter p).length = (l.map fun a => ((f a).filter p).length).sum := by
  induction l with
  | nil => rfl
  | cons a r ih => simp only [List.flatMap_cons, List.filter_append, List.length_append, List.map_cons, List.sum_cons, ih]
theorem count_cons (e : Nat) (r : List Nat) (p : List Int → Bool) : ((tups (e :: r)).filter p).length = ((vals e).map fun a => ((tups r).filter fun t => p (a :: t)).length).sum := by
  rw [tups_cons, filter_flatMap_len]
  congr 1
  refine List.map_congr_left fun a _ => ?_
  rw [List.filter_map, List.length_map]; rfl
theorem count_split (D : List Nat) : ∀ (i d : Nat) (p : List Int → Bool), D[i]? = some d → ((tups D).filter p).length = ((vals d).map fun v => ((tups (D.set i (2 ^ v.toNat))).filter p).length).sum := by
  induction D with
  | nil => intro i d p h; simp at h
  | cons e r ih =>
    intro i d p h
    cases i with
    | zero =>
      simp at h; subst h
      rw [count_cons]
      congr 1
      refine List.map_congr_left fun v hv => ?_
      obtain ⟨n, rfl, h6, _⟩ := mem_vals.1 hv
      simp only [List.set_cons_zero, Int.toNat_natCast]
      rw [count_cons, vals_two_pow h6]; simp
    | succ i =>
      rw [count_cons]
      have h' : r[i]? = some d := by simpa using h
      have e1 : ∀ a, ((tups r).filter fun t => p (a :: t)).length = ((vals d).map fun v => ((tups (r.set i (2 ^ v.toNat))).filter fun t => p (a :: t)).length).sum := fun a => ih i d _ h'
      simp only [e1]
      rw [sum_swap]
      congr 1
      refine List.map_congr_left fun v _ => ?_
      rw [List.set_cons_succ, count_cons]
theorem sols_count_split (cs : List Con) (D : List Nat) (i d : Nat) (h : D[i]? = some d) : (sols cs D).length = ((vals d).map fun v => (sols cs (D.set i (2 ^ v.toNat))).length).sum := count_split D i d _ h
end Go.Proofs.Ythjmdcilfbgidaa
