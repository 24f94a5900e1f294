/-
  The lower bound of an objective over a fixpoint's domains, plainly; no solution is below it.
-/
import Derived.Test.YtilcicoekpmelaaGreatDoorPSy4ToSl
set_option linter.unusedVariables false
set_option linter.unusedSimpArgs false
namespace Go.Proofs.YtilcicoekpmelaaGreatDoor
open Go.RowKit

def lst (d : Nat) : Int := (vals d).headD 0
def mst (d : Nat) : Int := (vals d).getLastD 0
def lowS : List Int → List Nat → Int
  | a :: o, d :: D => (if a < 0 then a * mst d else a * lst d) + lowS o D
  | _, _ => 0
theorem lst_mst : ∀ d : Nat, d < 64 → (∀ x ∈ vals d, lst d ≤ x ∧ x ≤ mst d) ∧ (0 ≤ lst d ∧ lst d ≤ 5) ∧ 0 ≤ mst d ∧ mst d ≤ 5 := by decide +kernel
theorem lowS_nil (D : List Nat) : lowS [] D = 0 := by cases D <;> rfl
theorem lowS_succ : ∀ {o : List Int} {D : List Nat} {n : Nat} {a : Int} {d : Nat}, o[n]? = some a → D[n]? = some d → lowS (o.take (n + 1)) (D.take (n + 1)) = lowS (o.take n) (D.take n) + (if a < 0 then a * mst d else a * lst d)
  | [], _, _, _, _, h, _ => by simp at h
  | _ :: _, [], _, _, _, _, h => by simp at h
  | b :: o, e :: D, 0, a, d, h1, h2 => by
    simp at h1 h2; subst h1; subst h2
    simp [lowS]
  | b :: o, e :: D, n + 1, a, d, h1, h2 => by
    simp only [List.getElem?_cons_succ] at h1 h2
    have h := lowS_succ h1 h2
    simp only [List.take_succ_cons, lowS] at h ⊢
    omega
theorem lowS_le : ∀ {o x : List Int} {D : List Nat}, o.length = D.length → x.length = D.length → (∀ (i : Nat) (y : Int) (d : Nat), x[i]? = some y → D[i]? = some d → y ∈ vals d) → Below64 D → lowS o D ≤ dot o x
  | [], _, _, _, _, _, _ => by simp [lowS_nil, dot]
  | a :: o, x, [], h, _, _, _ => by simp at h
  | a :: o, [], d :: D, _, h, _, _ => by simp at h
  | a :: o, y :: x, d :: D, hl, hx, h, hb => by
    have hd : d < 64 := hb d (by simp)
    have hy : y ∈ vals d := h 0 y d rfl rfl
    have hr := lowS_le (o := o) (x := x) (D := D) (by simpa using hl) (by simpa using hx) (fun i y d h1 h2 => h (i + 1) y d (by simpa using h1) (by simpa using h2)) (fun e he => hb e (by simp [he]))
    have hm := (lst_mst d hd).1 y hy
    simp only [lowS, dot]
    split
    · have : a * mst d ≤ a * y := Int.mul_le_mul_of_nonpos_left (by omega) hm.2
      omega
    · have : a * lst d ≤ a * y := Int.mul_le_mul_of_nonneg_left hm.1 (by omega)
      omega
theorem lowS_sol {m : Mod} {D : List Nat} {o x : List Int} (hVM : VM m D) (ho : objB o m.doms.length = true) (hx : x ∈ sols m.cons D) : lowS o (fix m.cons D) ≤ dot o x := by
  have hDl : m.doms.length = D.length := by rw [hVM.doms, ints_len]
  rw [← sols_fix hVM.cons] at hx
  have h1 := mem_tups.1 (mem_sols.1 hx).1
  refine lowS_le (by rw [fix_len hVM.cons, ← hDl]; exact (obj_len ho).1) (by exact h1.1) (fun i y d hy hd => ?_) (fix_below hVM.cons hVM.below)
  obtain ⟨e, he, hm⟩ := h1.2 i y hy
  rw [hd] at he
  cases he
  exact hm
def lowO (m : Mod) (D : List Nat) (o : List Int) : Option Int :=
  if validM m && objB o m.doms.length then (if 0 ∈ fix m.cons D then none else some (lowS o (fix m.cons D))) else none
theorem lowO_no {m : Mod} {D : List Nat} {o : List Int} (h : (validM m && objB o m.doms.length) = false) : lowO m D o = none := by unfold lowO; rw [h]; rfl
theorem lowO_yes {m : Mod} {D : List Nat} {o : List Int} (h : (validM m && objB o m.doms.length) = true) : lowO m D o = if 0 ∈ fix m.cons D then none else some (lowS o (fix m.cons D)) := by unfold lowO; rw [h]; rfl
/-- Where the least solution is, the bound is there, and not above it. -/
theorem lowO_min {m : Mod} {D : List Nat} {o y : List Int} (hD : validM m = true → VM m D) (h : minO m D o = some y) : ∃ b, lowO m D o = some b ∧ b ≤ dot o y := by
  cases hv : (validM m && objB o m.doms.length)
  · rw [minO_no hv] at h; cases h
  rw [minO_yes hv] at h
  rw [lowO_yes hv]
  rw [Bool.and_eq_true] at hv
  have hVM := hD hv.1
  have hy := bestO_mem h
  have hn : 0 ∉ fix m.cons D := fun h0 => by
    have := sols_zero (cs := m.cons) h0
    rw [sols_fix hVM.cons] at this
    rw [this] at hy; cases hy
  rw [if_neg hn]
  exact ⟨_, rfl, lowS_sol hVM hv.2 hy⟩
/-- The sum in its loops stays small. -/
theorem lowS_small : ∀ {o : List Int} {D : List Nat}, (∀ a ∈ o, -9 ≤ a ∧ a ≤ 9) → Below64 D → ∀ n : Nat, -(45 * (n : Int)) ≤ lowS (o.take n) (D.take n) ∧ lowS (o.take n) (D.take n) ≤ 45 * (n : Int)
  | [], D, _, _, n => by simp [lowS_nil]; omega
  | a :: o, [], _, _, n => by cases n <;> simp [lowS]; omega
  | a :: o, d :: D, _, _, 0 => by simp [lowS]
  | a :: o, d :: D, ha, hb, n + 1 => by
    have hr := lowS_small (o := o) (D := D) (fun a h => ha a (by simp [h])) (fun e he => hb e (by simp [he])) n
    have h1 := ha a (by simp)
    have h2 := (lst_mst d (hb d (by simp))).2
    have key : ∀ v : Int, 0 ≤ v ∧ v ≤ 5 → -45 ≤ a * v ∧ a * v ≤ 45 := fun v hv => by
      have : v = 0 ∨ v = 1 ∨ v = 2 ∨ v = 3 ∨ v = 4 ∨ v = 5 := by omega
      rcases this with rfl | rfl | rfl | rfl | rfl | rfl <;> omega
    have k1 := key (lst d) h2.1
    have k2 := key (mst d) h2.2
    simp only [List.take_succ_cons, lowS]
    split <;> (push_cast; omega)
end Go.Proofs.YtilcicoekpmelaaGreatDoor
