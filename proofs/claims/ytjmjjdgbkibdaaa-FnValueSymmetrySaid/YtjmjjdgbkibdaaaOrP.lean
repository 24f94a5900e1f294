/-
  Plain laws of the symmetries: exchanges compose; orbits are classes; a symmetric pair of values stands at the same variables.
-/
import Derived.Test.YtjmjjdgbkibdaaaOr
set_option linter.unusedVariables false
set_option linter.unusedSimpArgs false
namespace Go.Proofs.Ytjmjjdgbkibdaaa
open Go.RowKit

theorem swapL_get {i j : Nat} {x : List Int} (hi : i < x.length) (hj : j < x.length) (q : Nat) : (swapL i j x)[q]? = if q = j then x[i]? else if q = i then x[j]? else x[q]? := by
  unfold swapL
  have gi : x.getD i 0 = x[i] := by rw [List.getD_eq_getElem?_getD, List.getElem?_eq_getElem hi]; rfl
  have gj : x.getD j 0 = x[j] := by rw [List.getD_eq_getElem?_getD, List.getElem?_eq_getElem hj]; rfl
  rw [List.getElem?_set, List.getElem?_set]
  by_cases h1 : q = j
  · subst h1
    rw [if_pos rfl, if_pos (by rw [List.length_set]; exact hj), if_pos rfl, gi, List.getElem?_eq_getElem hi]
  · rw [if_neg (fun e => h1 e.symm), if_neg h1]
    by_cases h2 : q = i
    · subst h2
      rw [if_pos rfl, if_pos hi, if_pos rfl, gj, List.getElem?_eq_getElem hj]
    · rw [if_neg (fun e => h2 e.symm), if_neg h2]
theorem swapL_conj {i j k : Nat} {x : List Int} (hi : i < x.length) (hj : j < x.length) (hk : k < x.length) (hij : i ≠ j) (hjk : j ≠ k) (hik : i ≠ k) :
    swapL i j (swapL j k (swapL i j x)) = swapL i k x := by
  refine List.ext_getElem? fun q => ?_
  have l1 : (swapL i j x).length = x.length := swapL_len _ _ _
  have l2 : (swapL j k (swapL i j x)).length = x.length := by rw [swapL_len, l1]
  rw [swapL_get (by omega) (by omega), swapL_get hi hk]
  simp only [swapL_get (i := j) (j := k) (x := swapL i j x) (by omega) (by omega), swapL_get hi hj]
  by_cases h1 : q = i
  · subst h1; simp [hij, hik, hjk, Ne.symm hij, Ne.symm hik, Ne.symm hjk]
  · by_cases h2 : q = j
    · subst h2; simp [hij, hik, hjk, Ne.symm hij, Ne.symm hik, Ne.symm hjk]
    · by_cases h3 : q = k
      · subst h3; simp [hij, hik, hjk, Ne.symm hij, Ne.symm hik, Ne.symm hjk]
      · simp [h1, h2, h3]
theorem presB_iff {cs : List Con} {D : List Nat} {T : List Int → List Int} : presB cs D T = true ↔ ∀ x ∈ sols cs D, T x ∈ sols cs D := by
  unfold presB isB
  rw [List.all_eq_true]
  constructor
  · intro h x hx; exact of_decide_eq_true (h x hx)
  · intro h x hx; exact decide_eq_true (h x hx)
theorem sol_len {cs : List Con} {D : List Nat} {x : List Int} (h : x ∈ sols cs D) : x.length = D.length := tups_len (mem_sols.1 h).1
theorem presB_symm {cs : List Con} {D : List Nat} {i j : Nat} (hi : i < D.length) (hj : j < D.length) (h : presB cs D (swapL i j) = true) : presB cs D (swapL j i) = true := by
  rw [presB_iff] at h ⊢
  intro x hx
  have := h x hx
  have e : swapL j i x = swapL i j x := by
    have := sol_len hx
    refine List.ext_getElem? fun q => ?_
    rw [swapL_get (by omega) (by omega), swapL_get (by omega) (by omega)]
    by_cases h1 : q = i
    · subst h1
      by_cases h2 : q = j
      · subst h2; rfl
      · simp [h2]
    · by_cases h2 : q = j
      · subst h2; simp [h1]
      · simp [h1, h2]
  rw [e]; exact this
theorem presB_trans {cs : List Con} {D : List Nat} {i j k : Nat} (hi : i < D.length) (hj : j < D.length) (hk : k < D.length) (h1 : presB cs D (swapL i j) = true) (h2 : presB cs D (swapL j k) = true) : presB cs D (swapL i k) = true := by
  by_cases hij : i = j
  · subst hij; exact h2
  by_cases hjk : j = k
  · subst hjk; exact h1
  by_cases hik : i = k
  · subst hik; exact presB_self _ _ _
  rw [presB_iff] at h1 h2 ⊢
  intro x hx
  have := sol_len hx
  rw [← swapL_conj (x := x) (by omega) (by omega) (by omega) hij hjk hik]
  exact h1 _ (h2 _ (h1 _ hx))
theorem find_range_spec {p : Nat → Bool} {n : Nat} (hp : p n = true) : ∃ j, j ≤ n ∧ p j = true ∧ (∀ k, k < j → p k = false) ∧ ((List.range (n + 1)).find? p) = some j := by
  have h : ∃ j, p j = true := ⟨n, hp⟩
  have : ∀ m, m ≤ n → (∀ k, k < m → p k = false) → ∃ j, j ≤ n ∧ p j = true ∧ (∀ k, k < j → p k = false) := by
    intro m hm
    obtain ⟨d, hd⟩ : ∃ d, d = n - m := ⟨_, rfl⟩
    induction d generalizing m with
    | zero => intro h0; exact ⟨n, Nat.le_refl _, hp, fun k hk => h0 k (by omega)⟩
    | succ d ih =>
      intro h0
      cases hpm : p m
      · exact ih (m + 1) (by omega) (by omega) (fun k hk => by by_cases h : k < m; exact h0 k h; (have : k = m := by omega); rw [this, hpm])
      · exact ⟨m, hm, hpm, h0⟩
  obtain ⟨j, h1, h2, h3⟩ := this 0 (Nat.zero_le _) (fun k hk => by omega)
  exact ⟨j, h1, h2, h3, find_range (by omega) h3 h2⟩
theorem orb_spec (cs : List Con) (D : List Nat) (i : Nat) : orb cs D i ≤ i ∧ presB cs D (swapL (orb cs D i) i) = true ∧ ∀ k, k < orb cs D i → presB cs D (swapL k i) = false := by
  obtain ⟨j, h1, h2, h3, h4⟩ := find_range_spec (p := fun j => presB cs D (swapL j i)) (n := i) (presB_self cs D i)
  have : orb cs D i = j := by unfold orb; rw [h4]; rfl
  rw [this]; exact ⟨h1, h2, h3⟩
theorem orb_le {cs : List Con} {D : List Nat} {i j : Nat} (hi : i < D.length) (hj : j < D.length) (h : presB cs D (swapL i j) = true) : orb cs D i ≤ orb cs D j := by
  obtain ⟨h1, h2, h3⟩ := orb_spec cs D j
  obtain ⟨k1, k2, k3⟩ := orb_spec cs D i
  apply Nat.le_of_not_lt
  intro hlt
  have := k3 _ hlt
  have h4 := presB_trans (i := orb cs D j) (j := j) (k := i) (by omega) hj hi h2 (presB_symm hi hj h)
  rw [h4] at this; cases this
theorem orb_eq_iff {cs : List Con} {D : List Nat} {i j : Nat} (hi : i < D.length) (hj : j < D.length) : presB cs D (swapL i j) = decide (orb cs D i = orb cs D j) := by
  obtain ⟨h1, h2, h3⟩ := orb_spec cs D j
  obtain ⟨k1, k2, k3⟩ := orb_spec cs D i
  cases h : presB cs D (swapL i j)
  · symm
    rw [decide_eq_false_iff_not]
    intro e
    rw [e] at k2
    have := presB_trans (i := i) (j := orb cs D j) (k := j) hi (by omega) hj (presB_symm (by omega) hi k2) h2
    rw [this] at h; cases h
  · symm
    rw [decide_eq_true_iff]
    exact Nat.le_antisymm (orb_le hi hj h) (orb_le hj hi (presB_symm hi hj h))
theorem orb_orb {cs : List Con} {D : List Nat} {i : Nat} (hi : i < D.length) : orb cs D (orb cs D i) = orb cs D i := by
  obtain ⟨k1, k2, k3⟩ := orb_spec cs D i
  have h : presB cs D (swapL (orb cs D i) i) = decide (orb cs D (orb cs D i) = orb cs D i) := orb_eq_iff (by omega) hi
  rw [k2] at h
  exact of_decide_eq_true h.symm
theorem orbs_get {cs : List Con} {D : List Nat} {n i : Nat} (h : i < n) : (orbs cs D n)[i]? = some (orb cs D i : Int) := by
  unfold orbs; simp [h]

/-! ### Values -/
theorem valSw_comm (u v y : Int) : valSw u v y = valSw v u y := by
  unfold valSw
  by_cases h1 : y = u
  · subst h1
    by_cases h2 : y = v
    · subst h2; rfl
    · rw [if_pos rfl, if_neg h2, if_pos rfl]
  · by_cases h2 : y = v
    · subst h2; rw [if_neg h1, if_pos rfl, if_pos rfl]
    · rw [if_neg h1, if_neg h2, if_neg h2, if_neg h1]
theorem vsymB_comm (m : Mod) (D : List Nat) (u v : Int) : vsymB m D u v = vsymB m D v u := by
  unfold vsymB
  have : swapV u v = swapV v u := by
    funext x
    unfold swapV
    congr 1
    funext y
    exact valSw_comm u v y
  rw [this]
  cases validM m <;> cases inB 0 5 u <;> cases inB 0 5 v <;> rfl

/-! ### The law of IsVariableSymmetry, plainly -/
theorem swapL_comm {i j : Nat} {x : List Int} (hi : i < x.length) (hj : j < x.length) : swapL i j x = swapL j i x := by
  by_cases h : i = j
  · subst h; rfl
  · unfold swapL
    exact List.set_comm _ _ h
theorem presB_comm {cs : List Con} {D : List Nat} {i j : Nat} (hi : i < D.length) (hj : j < D.length) : presB cs D (swapL i j) = presB cs D (swapL j i) := by
  unfold presB
  rw [Bool.eq_iff_iff, List.all_eq_true, List.all_eq_true]
  constructor
  · intro h x hx
    have := h x hx
    rwa [swapL_comm (by rw [tups_len (mem_sols.1 hx).1]; exact hi) (by rw [tups_len (mem_sols.1 hx).1]; exact hj)] at this
  · intro h x hx
    have := h x hx
    rwa [swapL_comm (by rw [tups_len (mem_sols.1 hx).1]; exact hj) (by rw [tups_len (mem_sols.1 hx).1]; exact hi)] at this
theorem symB_out {m : Mod} {D : List Nat} {i j : Int} (h : ¬ (validM m = true ∧ (0 ≤ i ∧ i < m.doms.length) ∧ 0 ≤ j ∧ j < m.doms.length)) : symB m D i j = false := by
  unfold symB
  rw [Bool.and_eq_false_iff]
  left
  cases hv : validM m
  · rfl
  · cases ha : allB 0 ((m.doms.length : Int) - 1) [i, j]
    · rfl
    · have h1 := allB_iff.1 ha
      have hi := h1 i (by simp); have hj := h1 j (by simp)
      exact absurd ⟨hv, ⟨hi.1, by omega⟩, hj.1, by omega⟩ h
theorem symB_in {m : Mod} {D : List Nat} {i j : Nat} (hv : validM m = true) (hi : i < m.doms.length) (hj : j < m.doms.length) : symB m D i j = presB m.cons D (swapL i j) := by
  unfold symB
  have : allB 0 ((m.doms.length : Int) - 1) [(i : Int), (j : Int)] = true := allB_iff.2 (by intro x hx; simp at hx; rcases hx with rfl | rfl <;> omega)
  rw [hv, this]; simp
end Go.Proofs.Ytjmjjdgbkibdaaa
