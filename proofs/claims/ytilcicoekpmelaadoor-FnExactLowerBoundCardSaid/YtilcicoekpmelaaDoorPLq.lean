/-
  The lower bound of an objective over a fixpoint's domains, plainly; no solution is below it.
-/
import Derived.Test.YtilcicoekpmelaaDoorPSy4NsOb
set_option linter.unusedVariables false
set_option linter.unusedSimpArgs false
namespace Go.Proofs.YtilcicoekpmelaaDoor
open Go.RowKit

def lst (d : Nat) : Int := (vals d).headD 0
def mst (d : Nat) : Int := (vals d).getLastD 0
def lowS : List Int → List Nat → Int
  | a :: o, d :: D => (if a < 0 then a * mst d else a * lst d) + lowS o D
  | _, _ => 0
theorem lst_mst : ∀ d : Nat, d < 64 → (∀ x ∈ vals d, lst d ≤ x ∧ x ≤ mst d) ∧ (0 ≤ lst d ∧ lst d ≤ 5) ∧ 0 ≤ mst d ∧ mst d ≤ 5 := by decide +kernel
theorem lowS_nil (D : List Nat) : lowS [] D = 0 := by cases D <;> rfl
theorem lowS_succ : ∀ {o : List Int} {D : List Nat} {n : Nat} {a : Int} {d : Nat}, o[n]? = some a → D[n]? = some d → lowS (o.take (n + 1)) (D.take (n + 1)) = lowS (o.take n) (D.take n) + (if a < 0 then a * mst d else a * lst d)
  | [], _, _, _, _, h, _ => by simp at h
  | _ :: _, [], _, _, _, _, h => by simp at h
  | b :: o, e :: D, 0, a, d, h1, h2 => by
    simp at h1 h2; subst h1; subst h2
    simp [lowS]
  | b :: o, e :: D, n + 1, a, d, h1, h2 => by
    simp only [List.getElem?_cons_succ] at h1 h2
    have h := lowS_succ h1 h2
    simp only [List.take_succ_cons, lowS] at h ⊢
    omega
def lowO (m : Mod) (D : List Nat) (o : List Int) : Option Int :=
  if validM m && objB o m.doms.length then (if 0 ∈ fix m.cons D then none else some (lowS o (fix m.cons D))) else none
theorem lowO_no {m : Mod} {D : List Nat} {o : List Int} (h : (validM m && objB o m.doms.length) = false) : lowO m D o = none := by unfold lowO; rw [h]; rfl
theorem lowO_yes {m : Mod} {D : List Nat} {o : List Int} (h : (validM m && objB o m.doms.length) = true) : lowO m D o = if 0 ∈ fix m.cons D then none else some (lowS o (fix m.cons D)) := by unfold lowO; rw [h]; rfl
/-- The sum in its loops stays small. -/
theorem lowS_small : ∀ {o : List Int} {D : List Nat}, (∀ a ∈ o, -9 ≤ a ∧ a ≤ 9) → Below64 D → ∀ n : Nat, -(45 * (n : Int)) ≤ lowS (o.take n) (D.take n) ∧ lowS (o.take n) (D.take n) ≤ 45 * (n : Int)
  | [], D, _, _, n => by simp [lowS_nil]; omega
  | a :: o, [], _, _, n => by cases n <;> simp [lowS]; omega
  | a :: o, d :: D, _, _, 0 => by simp [lowS]
  | a :: o, d :: D, ha, hb, n + 1 => by
    have hr := lowS_small (o := o) (D := D) (fun a h => ha a (by simp [h])) (fun e he => hb e (by simp [he])) n
    have h1 := ha a (by simp)
    have h2 := (lst_mst d (hb d (by simp))).2
    have key : ∀ v : Int, 0 ≤ v ∧ v ≤ 5 → -45 ≤ a * v ∧ a * v ≤ 45 := fun v hv => by
      have : v = 0 ∨ v = 1 ∨ v = 2 ∨ v = 3 ∨ v = 4 ∨ v = 5 := by omega
      rcases this with rfl | rfl | rfl | rfl | rfl | rfl <;> omega
    have k1 := key (lst d) h2.1
    have k2 := key (mst d) h2.2
    simp only [List.take_succ_cons, lowS]
    split <;> (push_cast; omega)
end Go.Proofs.YtilcicoekpmelaaDoor
