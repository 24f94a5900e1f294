/-
  Plain laws of a linear constraint over all variables: which models it makes, which solutions it leaves.
-/
import Derived.Test.YtngpcoilgilmjaaGreatOb
set_option linter.unusedVariables false
set_option linter.unusedSimpArgs false
namespace Go.Proofs.YtngpcoilgilmjaaGreat
open Go.RowKit

def idL (n : Nat) : List Int := (List.range n).map fun i : Nat => (i : Int)
theorem idL_succ (n : Nat) : idL (n + 1) = idL n ++ [(n : Int)] := by simp [idL, List.range_succ]
theorem idL_len (n : Nat) : (idL n).length = n := by simp [idL]
theorem idL_mem {n : Nat} {v : Int} (h : v ∈ idL n) : 0 ≤ v ∧ v < n := by
  unfold idL at h
  obtain ⟨a, ha, rfl⟩ := List.mem_map.1 h
  have := List.mem_range.1 ha
  omega
theorem idL_nodup (n : Nat) : (idL n).Nodup := by
  unfold idL List.Nodup
  exact List.pairwise_map.2 ((List.nodup_range (n := n)).imp fun {a b} h e => h (by omega))
theorem word_idx (x : List Int) : word (idL x.length) x = x := by
  unfold word idL
  rw [List.map_map]
  refine List.ext_getElem? fun i => ?_
  rw [List.getElem?_map]
  by_cases h : i < x.length
  · rw [List.getElem?_range h, List.getElem?_eq_getElem h]
    simp [List.getD_eq_getElem?_getD, List.getElem?_eq_getElem h]
  · rw [List.getElem?_eq_none (by simp; omega), List.getElem?_eq_none (by omega)]; rfl
def linC (o : List Int) (n : Nat) (b : Int) : Con := ⟨1, idL n, o, b, []⟩
theorem linC_vc {o : List Int} {n : Nat} {b : Int} (ho : objB o n = true) (hn : 1 ≤ n ∧ n ≤ 4) (hb : -999 ≤ b ∧ b ≤ 999) : VC (linC o n b) n := by
  have h1 := obj_len ho
  refine ⟨hn, by show 1 ≤ (idL n).length ∧ (idL n).length ≤ n; rw [idL_len]; omega, fun v hv => idL_mem hv, idL_nodup n, ?_⟩
  rw [fitsB_1 rfl]
  unfold argsB eqI
  simp only [Bool.and_eq_true, beq_iff_eq]
  refine ⟨⟨⟨?_, allB_iff.2 h1.2⟩, inB_iff.2 hb⟩, by simp [linC]⟩
  show ((o.length : Nat) : Int) = ((idL n).length : Int)
  rw [idL_len, h1.1]
theorem linC_sat {o x : List Int} {b : Int} : satB (linC o x.length b) (word (linC o x.length b).vars x) = decide (dot o x ≤ b) := by
  show satB (linC o x.length b) (word (idL x.length) x) = _
  rw [word_idx]
  rfl
theorem sols_snoc (cs : List Con) (c : Con) (D : List Nat) : sols (cs ++ [c]) D = (sols cs D).filter fun x => satB c (word c.vars x) := by
  unfold sols
  rw [List.filter_filter]
  congr 1
  funext x
  unfold solB
  rw [List.all_append]
  simp [Bool.and_comm]
theorem sols_lin {cs : List Con} {D : List Nat} {o : List Int} {b : Int} : sols (cs ++ [linC o D.length b]) D = (sols cs D).filter fun x => decide (dot o x ≤ b) := by
  rw [sols_snoc]
  apply List.filter_congr
  intro x hx
  rw [← (solv hx).1]
  exact linC_sat
/-- A model with one more constraint. -/
theorem validM_snoc {m : Mod} {c : Con} : validM ⟨m.doms, m.cons ++ [c]⟩ = (validM m && decide (m.cons.length < 6) && validCon c m.doms.length) := by
  unfold validM
  simp only [List.length_append, List.length_singleton, List.all_append, List.all_cons, List.all_nil, Bool.and_true]
  have e1 : inB 0 6 ((m.cons.length + 1 : Nat) : Int) = (inB 0 6 (m.cons.length : Int) && decide (m.cons.length < 6)) := by
    rw [Bool.eq_iff_iff, Bool.and_eq_true, inB_iff, inB_iff, decide_eq_true_eq]
    omega
  rw [e1]
  cases domsOk m.doms <;> cases inB 0 6 (m.cons.length : Int) <;> cases decide (m.cons.length < 6) <;> cases (m.cons.all fun c => validCon c m.doms.length) <;> simp
theorem validM_lin {m : Mod} {D : List Nat} {o : List Int} {b : Int} (hVM : VM m D) (hv : validM m = true) (ho : objB o m.doms.length = true) (hb : -999 ≤ b ∧ b ≤ 999) : validM ⟨m.doms, m.cons ++ [linC o m.doms.length b]⟩ = decide (m.cons.length < 6) := by
  have h1 : m.doms.length = D.length := by rw [hVM.doms, ints_len]
  rw [validM_snoc, hv, validCon_iff.2 (linC_vc ho (by have := hVM.len; omega) hb)]
  simp
theorem dot_big {o x : List Int} (h9 : ∀ y ∈ o, -9 ≤ y ∧ y ≤ 9) (h5 : ∀ y ∈ x, 0 ≤ y ∧ y ≤ 5) : -(45 * (o.length : Int)) ≤ dot o x ∧ dot o x ≤ 45 * (o.length : Int) := by
  induction o generalizing x with
  | nil => cases x <;> simp [dot]
  | cons a o ih =>
    cases x with
    | nil => simp [dot]; omega
    | cons b x =>
      have h1 := ih (x := x) (fun y hy => h9 y (List.mem_cons_of_mem _ hy)) (fun y hy => h5 y (List.mem_cons_of_mem _ hy))
      have ha := h9 a (List.mem_cons_self ..); have hb := h5 b (List.mem_cons_self ..)
      have h2 : -45 ≤ a * b ∧ a * b ≤ 45 := by
        have l1 : -9 * b ≤ a * b := Int.mul_le_mul_of_nonneg_right ha.1 hb.1
        have l2 : a * b ≤ 9 * b := Int.mul_le_mul_of_nonneg_right ha.2 hb.1
        omega
      have e : dot (a :: o) (b :: x) = a * b + dot o x := by simp [dot]
      rw [e, List.length_cons]; push_cast; omega
/-- Nothing is better than the best; something is as good. -/
theorem cut_none {cs : List Con} {D : List Nat} {o y : List Int} (h : bestO (dot o) (sols cs D) = some y) : (sols (cs ++ [linC o D.length (dot o y - 1)]) D).length = 0 := by
  rw [sols_lin, List.length_eq_zero_iff, List.filter_eq_nil_iff]
  intro x hx
  have := bestO_least h x hx
  simp only [decide_eq_true_eq]; omega
theorem cut_some {cs : List Con} {D : List Nat} {o y : List Int} (h : bestO (dot o) (sols cs D) = some y) : 0 < (sols (cs ++ [linC o D.length (dot o y)]) D).length := by
  rw [sols_lin]
  exact List.length_pos_of_mem (List.mem_filter.2 ⟨bestO_mem h, by simp⟩)
end Go.Proofs.YtngpcoilgilmjaaGreat
