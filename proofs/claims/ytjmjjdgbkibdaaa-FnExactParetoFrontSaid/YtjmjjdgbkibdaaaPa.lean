/-
  The Pareto front, plainly: what no other one beats; it covers all, and none of it covers another of it.
-/
import Derived.Test.YtjmjjdgbkibdaaaBs
import Derived.Test.YtjmjjdgbkibdaaaDf
set_option linter.unusedVariables false
set_option linter.unusedSimpArgs false
namespace Go.Proofs.Ytjmjjdgbkibdaaa
open Go.RowKit

/-- The one at k beats the one at i. -/
def beatB (a b : List Int → Int) (zs : List (List Int)) (i k : Nat) : Bool :=
  (decide (a (zs.getD k []) ≤ a (zs.getD i [])) && decide (b (zs.getD k []) ≤ b (zs.getD i []))) && ((decide (a (zs.getD k []) < a (zs.getD i [])) || decide (b (zs.getD k []) < b (zs.getD i []))) || decide (k < i))
theorem beatB_iff {a b : List Int → Int} {zs : List (List Int)} {i k : Nat} : beatB a b zs i k = true ↔ (a (zs.getD k []) ≤ a (zs.getD i []) ∧ b (zs.getD k []) ≤ b (zs.getD i [])) ∧ (a (zs.getD k []) < a (zs.getD i []) ∨ b (zs.getD k []) < b (zs.getD i []) ∨ k < i) := by
  unfold beatB
  simp only [Bool.and_eq_true, Bool.or_eq_true, decide_eq_true_iff, or_assoc]
def beatenB (a b : List Int → Int) (zs : List (List Int)) (i n : Nat) : Bool := (List.range n).any (beatB a b zs i)
theorem beatenB_succ (a b : List Int → Int) (zs : List (List Int)) (i n : Nat) : beatenB a b zs i (n + 1) = (beatenB a b zs i n || beatB a b zs i n) := by
  unfold beatenB; rw [List.range_succ, List.any_append]; simp
theorem beatenB_zero (a b : List Int → Int) (zs : List (List Int)) (i : Nat) : beatenB a b zs i 0 = false := rfl
def frontI (a b : List Int → Int) (zs : List (List Int)) (n : Nat) : List Nat := (List.range n).filter fun i => !beatenB a b zs i zs.length
def frontL (a b : List Int → Int) (zs : List (List Int)) (n : Nat) : List (List Int) := (frontI a b zs n).map fun i => zs.getD i []
theorem frontL_zero (a b : List Int → Int) (zs : List (List Int)) : frontL a b zs 0 = [] := rfl
theorem frontL_succ {a b : List Int → Int} {zs : List (List Int)} {n : Nat} {x : List Int} (h : zs[n]? = some x) : frontL a b zs (n + 1) = frontL a b zs n ++ if beatenB a b zs n zs.length then [] else [x] := by
  unfold frontL frontI
  rw [List.range_succ, List.filter_append, List.map_append]
  congr 1
  cases hb : beatenB a b zs n zs.length <;> simp [hb, h]
theorem frontL_len (a b : List Int → Int) (zs : List (List Int)) (n : Nat) : (frontL a b zs n).length ≤ n := by
  unfold frontL frontI
  rw [List.length_map]
  exact Nat.le_trans (List.length_filter_le _ _) (by rw [List.length_range]; exact Nat.le_refl _)
theorem mem_frontI {a b : List Int → Int} {zs : List (List Int)} {n i : Nat} : i ∈ frontI a b zs n ↔ i < n ∧ ∀ k, k < zs.length → beatB a b zs i k = false := by
  unfold frontI beatenB
  rw [List.mem_filter, List.mem_range, Bool.not_eq_true', List.any_eq_false]
  constructor
  · rintro ⟨h1, h2⟩; exact ⟨h1, fun k hk => by simpa using h2 k (List.mem_range.2 hk)⟩
  · rintro ⟨h1, h2⟩; exact ⟨h1, fun k hk => by simpa using h2 k (List.mem_range.1 hk)⟩
theorem mem_frontL {a b : List Int → Int} {zs : List (List Int)} {x : List Int} : x ∈ frontL a b zs zs.length → x ∈ zs := by
  unfold frontL
  intro h
  obtain ⟨i, hi, rfl⟩ := List.mem_map.1 h
  have hl := (mem_frontI.1 hi).1
  rw [List.getD_eq_getElem?_getD, List.getElem?_eq_getElem hl]
  exact List.getElem_mem hl
theorem first_min (f : Nat → Int) (P : Nat → Bool) : ∀ n, (∃ i, i < n ∧ P i = true) → ∃ i, i < n ∧ P i = true ∧ ∀ j, j < n → P j = true → f i ≤ f j ∧ (f j = f i → i ≤ j)
  | 0, h => by obtain ⟨i, hi, _⟩ := h; omega
  | n + 1, h => by
    by_cases hn : ∃ i, i < n ∧ P i = true
    · obtain ⟨i, h1, h2, h3⟩ := first_min f P n hn
      by_cases hp : P n = true ∧ f n < f i
      · refine ⟨n, by omega, hp.1, fun j hj hpj => ?_⟩
        by_cases hjn : j < n
        · have := h3 j hjn hpj; exact ⟨by omega, fun e => by omega⟩
        · have : j = n := by omega
          subst this; exact ⟨Int.le_refl _, fun _ => Nat.le_refl _⟩
      · refine ⟨i, by omega, h2, fun j hj hpj => ?_⟩
        by_cases hjn : j < n
        · exact h3 j hjn hpj
        · have : j = n := by omega
          subst this
          have : ¬ f j < f i := fun hlt => hp ⟨hpj, hlt⟩
          exact ⟨by omega, fun _ => by omega⟩
    · obtain ⟨i, hi, hpi⟩ := h
      have : i = n := by
        by_cases h : i < n
        · exact absurd ⟨i, h, hpi⟩ hn
        · omega
      subst this
      refine ⟨i, by omega, hpi, fun j hj hpj => ?_⟩
      by_cases hjn : j < i
      · exact absurd ⟨j, hjn, hpj⟩ hn
      · have : j = i := by omega
        subst this; exact ⟨Int.le_refl _, fun _ => Nat.le_refl _⟩
/-- Everything is covered by something of the front. -/
theorem front_cover {a b : List Int → Int} {zs : List (List Int)} {t : Nat} (ht : t < zs.length) : ∃ s ∈ frontI a b zs zs.length, a (zs.getD s []) ≤ a (zs.getD t []) ∧ b (zs.getD s []) ≤ b (zs.getD t []) := by
  obtain ⟨s, h1, h2, h3⟩ := first_min (fun i => a (zs.getD i []) + b (zs.getD i [])) (fun i => decide (a (zs.getD i []) ≤ a (zs.getD t [])) && decide (b (zs.getD i []) ≤ b (zs.getD t []))) zs.length ⟨t, ht, by simp⟩
  simp only [Bool.and_eq_true, decide_eq_true_iff] at h2 h3
  refine ⟨s, mem_frontI.2 ⟨h1, fun k hk => ?_⟩, h2⟩
  rw [← Bool.not_eq_true, beatB_iff]
  rintro ⟨⟨k1, k2⟩, k3⟩
  obtain ⟨h4, h5⟩ := h3 k hk ⟨by omega, by omega⟩
  rcases k3 with k3 | k3 | k3
  · omega
  · omega
  · have := h5 (by omega); omega
/-- Nothing of the front covers another one of it. -/
theorem front_apart {a b : List Int → Int} {zs : List (List Int)} {i k : Nat} (hi : i ∈ frontI a b zs zs.length) (hk : k ∈ frontI a b zs zs.length) (hne : i ≠ k) : ¬ (a (zs.getD i []) ≤ a (zs.getD k []) ∧ b (zs.getD i []) ≤ b (zs.getD k [])) := by
  obtain ⟨i1, i2⟩ := mem_frontI.1 hi
  obtain ⟨k1, k2⟩ := mem_frontI.1 hk
  rintro ⟨h1, h2⟩
  have h3 := k2 i i1
  have h4 := i2 k k1
  rw [← Bool.not_eq_true, beatB_iff] at h3 h4
  by_cases hlt : i < k
  · exact h3 ⟨⟨h1, h2⟩, .inr (.inr hlt)⟩
  · by_cases h5 : a (zs.getD i []) < a (zs.getD k [])
    · exact h3 ⟨⟨h1, h2⟩, .inl h5⟩
    · by_cases h6 : b (zs.getD i []) < b (zs.getD k [])
      · exact h3 ⟨⟨h1, h2⟩, .inr (.inl h6)⟩
      · exact h4 ⟨⟨by omega, by omega⟩, .inr (.inr (by omega))⟩
theorem frontI_sorted (a b : List Int → Int) (zs : List (List Int)) (n : Nat) : (frontI a b zs n).Pairwise (· < ·) := List.Pairwise.filter _ List.pairwise_lt_range
theorem frontL_sorted {a b : List Int → Int} {zs : List (List Int)} (hs : zs.Pairwise fun x y => lexB x y = true) : (frontL a b zs zs.length).Pairwise fun x y => lexB x y = true := by
  unfold frontL
  rw [List.pairwise_map]
  refine List.Pairwise.imp_of_mem (fun {i k} hi hk hik => ?_) (frontI_sorted a b zs zs.length)
  have h1 := (mem_frontI.1 hi).1
  have h2 := (mem_frontI.1 hk).1
  have := List.pairwise_iff_getElem.1 hs i k h1 h2 hik
  rw [List.getD_eq_getElem?_getD, List.getD_eq_getElem?_getD, List.getElem?_eq_getElem h1, List.getElem?_eq_getElem h2]
  exact this
theorem frontL_get {a b : List Int → Int} {zs : List (List Int)} {n k : Nat} {x : List Int} (h : (frontL a b zs n)[k]? = some x) : ∃ i, (frontI a b zs n)[k]? = some i ∧ zs.getD i [] = x := by
  unfold frontL at h
  rw [List.getElem?_map] at h
  obtain ⟨i, h1, h2⟩ := Option.map_eq_some_iff.1 h
  exact ⟨i, h1, h2⟩
theorem front_no {a b : List Int → Int} {zs : List (List Int)} {k i : Nat} {x y : List Int} (hk : (frontL a b zs zs.length)[k]? = some x) (hi : (frontL a b zs zs.length)[i]? = some y) (hne : i ≠ k) : ¬ (a y ≤ a x ∧ b y ≤ b x) := by
  obtain ⟨p, hp, rfl⟩ := frontL_get hk
  obtain ⟨q, hq, rfl⟩ := frontL_get hi
  refine front_apart (List.mem_of_getElem? hq) (List.mem_of_getElem? hp) fun e => ?_
  subst e
  obtain ⟨h1, h2⟩ := List.getElem?_eq_some_iff.1 hp
  obtain ⟨h3, h4⟩ := List.getElem?_eq_some_iff.1 hq
  have hs := frontI_sorted a b zs zs.length
  rcases Nat.lt_or_ge i k with h | h
  · have := List.pairwise_iff_getElem.1 hs i k h3 h1 h; omega
  · have := List.pairwise_iff_getElem.1 hs k i h1 h3 (by omega); omega
theorem front_covers {a b : List Int → Int} {zs : List (List Int)} {x : List Int} (hx : x ∈ zs) : ∃ y ∈ frontL a b zs zs.length, a y ≤ a x ∧ b y ≤ b x := by
  obtain ⟨t, ht⟩ := List.mem_iff_getElem?.1 hx
  have hl := (List.getElem?_eq_some_iff.1 ht).1
  obtain ⟨s, hs, h1, h2⟩ := front_cover (a := a) (b := b) hl
  rw [getD_of ht] at h1 h2
  exact ⟨_, List.mem_map.2 ⟨s, hs, rfl⟩, h1, h2⟩
end Go.Proofs.Ytjmjjdgbkibdaaa
