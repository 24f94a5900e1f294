/-
  The state of the program's making of a diagram, and what a diagram tells, in plain mathematics. No program is mentioned.
-/
import Derived.Test.YtmonhpoogfdpoaaGreatXBd
set_option linter.unusedVariables false
namespace Go.Proofs.YtmonhpoogfdpoaaGreat

theorem vs6_mem {v : Int} (hv : v ∈ vs6) : ∃ j : Nat, j < 6 ∧ v = (j : Int) := by
  simp only [vs6, List.mem_cons, List.not_mem_nil, or_false] at hv
  rcases hv with rfl | rfl | rfl | rfl | rfl | rfl
  · exact ⟨0, by omega, rfl⟩
  · exact ⟨1, by omega, rfl⟩
  · exact ⟨2, by omega, rfl⟩
  · exact ⟨3, by omega, rfl⟩
  · exact ⟨4, by omega, rfl⟩
  · exact ⟨5, by omega, rfl⟩
theorem vs6_get {j : Nat} (hj : j < 6) : vs6[j]? = some (j : Int) := by
  rw [show vs6 = (List.range 6).map (fun n : Nat => (n : Int)) from rfl, List.getElem?_map, List.getElem?_range hj]; rfl
/-- The sets of layer i, or the end's. -/
def lay (D : List (List SS)) (i : Nat) : List SS := (D[i]?).getD [[[]]]
def ClosedS (nx : List SS) (S : SS) : Prop := ∀ v ∈ vs6, sufs S v = [] ∨ sufs S v ∈ nx
theorem ClosedS.pre {nx nx' : List SS} {S : SS} (h : ClosedS nx S) (hp : nx <+: nx') : ClosedS nx' S := fun v hv => (h v hv).imp id fun h => hp.subset h
theorem rowP_pre {nx nx' : List SS} {S : SS} (h : ClosedS nx S) (hp : nx <+: nx') : rowP nx' S = rowP nx S :=
  List.map_congr_left fun v hv => ixL_pre hp (h v hv)
theorem rowP_inj {n : Nat} {nx : List SS} {S S' : SS} (hS : Good (n + 1) S) (hS' : Good (n + 1) S') (h : ClosedS nx S) (h' : ClosedS nx S') (e : rowP nx S = rowP nx S') : S = S' := by
  refine good_inj hS hS' fun v hv => ?_
  refine ixL_inj (h v hv) (h' v hv) ?_
  simp only [rowP, vs6, List.map_cons, List.map_nil, List.cons.injEq, and_true] at e
  obtain ⟨e0, e1, e2, e3, e4, e5⟩ := e
  simp only [vs6, List.mem_cons, List.not_mem_nil, or_false] at hv
  rcases hv with rfl | rfl | rfl | rfl | rfl | rfl <;> assumption
/-- What the maker keeps. -/
structure OkD (n : Nat) (D : List (List SS)) : Prop where
  len : D.length = n
  nodup : ∀ (i : Nat) L, D[i]? = some L → L.Nodup
  el : ∀ (i : Nat) L S, D[i]? = some L → S ∈ L → S ≠ [] ∧ Good (n - i) S ∧ ClosedS (lay D (i + 1)) S
theorem OkD.nil (n : Nat) : OkD n (List.replicate n []) :=
  ⟨by simp, fun i L h => by rw [List.getElem?_replicate] at h; split at h <;> simp_all, fun i L S h hS => by rw [List.getElem?_replicate] at h; split at h <;> simp_all⟩
def GrD (D D' : List (List SS)) : Prop := D.length = D'.length ∧ ∀ i, lay D i <+: lay D' i
theorem GrD.refl (D : List (List SS)) : GrD D D := ⟨rfl, fun _ => List.prefix_refl _⟩
theorem GrD.trans {A B C : List (List SS)} (h : GrD A B) (h' : GrD B C) : GrD A C := ⟨h.1.trans h'.1, fun i => (h.2 i).trans (h'.2 i)⟩
theorem lay_set (D : List (List SS)) (i : Nat) (L : List SS) (hi : i < D.length) (j : Nat) : lay (D.set i L) j = if j = i then L else lay D j := by
  unfold lay
  rw [List.getElem?_set]
  by_cases e : i = j
  · subst e; rw [if_pos rfl, if_pos hi, if_pos rfl]; rfl
  · rw [if_neg e, if_neg (fun h => e h.symm)]
theorem lay_of {D : List (List SS)} {i : Nat} {L : List SS} (h : D[i]? = some L) : lay D i = L := by unfold lay; rw [h]; rfl
theorem lay_end {D : List (List SS)} {i : Nat} (h : D.length ≤ i) : lay D i = [[[]]] := by unfold lay; rw [List.getElem?_eq_none h]; rfl
theorem OkD.add {n : Nat} {D : List (List SS)} (h : OkD n D) {i : Nat} {L : List SS} {S : SS} (hi : D[i]? = some L) (h0 : S ≠ []) (hg : Good (n - i) S) (hc : ClosedS (lay D (i + 1)) S) (hn : S ∉ L) :
    OkD n (D.set i (L ++ [S])) ∧ GrD D (D.set i (L ++ [S])) := by
  have hlt := (List.getElem?_eq_some_iff.1 hi).1
  have hgr : GrD D (D.set i (L ++ [S])) := ⟨by simp, fun j => by
    rw [lay_set _ _ _ hlt]
    split
    · rename_i e; subst e; rw [lay_of hi]; exact List.prefix_append _ _
    · exact List.prefix_refl _⟩
  have hl : (L ++ [S]).Nodup := by
    rw [List.nodup_append]
    refine ⟨h.nodup i L hi, by simp, fun a ha b hb e => ?_⟩
    have : b = S := by simpa using hb
    exact hn (by rw [← this, ← e]; exact ha)
  refine ⟨⟨by rw [List.length_set, h.len], fun j M hj => ?_, fun j M T hj hT => ?_⟩, hgr⟩
  · rw [List.getElem?_set] at hj
    split at hj
    · cases hj; exact hl
    · exact h.nodup j M hj
  · have key : T ≠ [] ∧ Good (n - j) T ∧ ClosedS (lay D (j + 1)) T := by
      rw [List.getElem?_set] at hj
      split at hj
      · rename_i e; subst e
        cases hj
        rcases List.mem_append.1 hT with hT | hT
        · exact h.el i L T hi hT
        · obtain rfl := List.mem_singleton.1 hT; exact ⟨h0, hg, hc⟩
      · exact h.el j M T hj hT
    exact ⟨key.1, key.2.1, key.2.2.pre (hgr.2 _)⟩

/-! ### What the diagram of a set tells -/
/-- The layers of the sets. -/
def layS (S0 : SS) : Nat → List SS
  | 0 => [S0]
  | i + 1 => nextL (layS S0 i) []
theorem dgm_len : ∀ (n : Nat) (layer : List SS), (dgm n layer).length = n
  | 0, _ => rfl
  | n + 1, layer => by rw [dgm, List.length_cons, dgm_len n]
theorem dgm_get : ∀ (n i : Nat) (S0 : SS) (k : Nat), i < n → (dgm n (layS S0 k))[i]? = some ((layS S0 (k + i)).map (rowP (layS S0 (k + i + 1))))
  | n + 1, 0, S0, k, _ => by rw [dgm]; rfl
  | n + 1, i + 1, S0, k, h => by
    rw [dgm, List.getElem?_cons_succ]
    have := dgm_get n i S0 (k + 1) (by omega)
    rw [show k + (i + 1) = k + 1 + i by omega]
    exact this
/-- A layer of sets of completions of length n. -/
structure LayOk (n : Nat) (layer : List SS) : Prop where
  nodup : layer.Nodup
  ne : layer ≠ []
  el : ∀ S ∈ layer, S ≠ [] ∧ Good n S
theorem LayOk.next {n : Nat} {layer : List SS} (h : LayOk (n + 1) layer) : LayOk n (nextL layer []) := by
  refine ⟨nextL_nodup _ _ List.nodup_nil, ?_, fun S hS => ?_⟩
  · obtain ⟨S, hS⟩ := List.exists_mem_of_ne_nil _ h.ne
    obtain ⟨v, hv, h0⟩ := good_ne (h.el S hS).2 (h.el S hS).1
    exact List.ne_nil_of_mem (nextL_mem layer [] S v hS hv h0)
  · rcases nextL_src layer [] S hS with h' | ⟨T, hT, v, hv, rfl, h0⟩
    · simp at h'
    · exact ⟨h0, (h.el T hT).2.2 v hv⟩
theorem LayOk.closed {n : Nat} {layer : List SS} (h : LayOk (n + 1) layer) {S : SS} (hS : S ∈ layer) : ClosedS (nextL layer []) S := fun v hv => by
  by_cases h0 : sufs S v = []
  · exact .inl h0
  · exact .inr (nextL_mem layer [] S v hS hv h0)
theorem layS_ok {n : Nat} {S0 : SS} (h : Good n S0) (h0 : S0 ≠ []) : ∀ i, i ≤ n → LayOk (n - i) (layS S0 i)
  | 0, _ => ⟨by simp [layS], by simp [layS], fun S hS => by obtain rfl := List.mem_singleton.1 hS; exact ⟨h0, h⟩⟩
  | i + 1, hi => by
    have ih := layS_ok h h0 i (by omega)
    rw [show n - i = (n - (i + 1)) + 1 by omega] at ih
    exact ih.next
theorem layOk_end {layer : List SS} (h : LayOk 0 layer) : layer = [[[]]] := by
  have hall : ∀ S ∈ layer, S = [[]] := fun S hS => ((h.el S hS).2).resolve_left (h.el S hS).1
  cases layer with
  | nil => exact absurd rfl h.ne
  | cons S r =>
    have h1 := hall S (by simp)
    subst h1
    cases r with
    | nil => rfl
    | cons T r =>
      have h2 := hall T (by simp)
      subst h2
      have := (List.nodup_cons.1 h.nodup).1
      simp at this
theorem layS_len {S0 : SS} : ∀ i, (layS S0 i).length ≤ 6 ^ i
  | 0 => by simp [layS]
  | i + 1 => by
    have h1 := nextL_len (layS S0 i) []
    have h2 := layS_len (S0 := S0) i
    rw [layS, Nat.pow_succ]
    simp only [List.length_nil, Nat.zero_add] at h1
    omega
/-- A diagram as the program's check wants it. -/
structure ValD (d : List (List (List Int))) : Prop where
  len : 1 ≤ d.length ∧ d.length ≤ 4
  one : ∀ L, d[0]? = some L → L.length = 1
  lay : ∀ (i : Nat) L, d[i]? = some L → (1 ≤ L.length ∧ L.length ≤ 216) ∧ ∀ r ∈ L, r.length = 6 ∧ ∀ x ∈ r, -1 ≤ x ∧ x < ((d[i + 1]?).map List.length).getD 1
theorem dgm_val {n : Nat} {S0 : SS} (h : Good n S0) (h0 : S0 ≠ []) (hn : 1 ≤ n ∧ n ≤ 4) : ValD (dgm n [S0]) := by
  have hget := fun i hi => dgm_get n i S0 0 hi
  simp only [Nat.zero_add, layS] at hget
  have hlen := dgm_len n [S0]
  refine ⟨by omega, fun L hL => ?_, fun i L hL => ?_⟩
  · rw [hget 0 (by omega)] at hL
    cases hL; simp [layS]
  · have hi : i < n := by have := (List.getElem?_eq_some_iff.1 hL).1; omega
    rw [hget i hi] at hL
    cases hL
    have ho := layS_ok h h0 i (by omega)
    rw [show n - i = (n - (i + 1)) + 1 by omega] at ho
    have h6 := layS_len (S0 := S0) i
    have hp : 6 ^ i ≤ 6 ^ 3 := Nat.pow_le_pow_right (by decide) (by omega)
    have hne := List.length_pos_iff.2 ho.ne
    refine ⟨by rw [List.length_map]; omega, fun r hr => ?_⟩
    obtain ⟨S, hS, rfl⟩ := List.mem_map.1 hr
    refine ⟨rfl, fun x hx => ?_⟩
    obtain ⟨v, hv, rfl⟩ := List.mem_map.1 hx
    have hc := ho.closed hS v hv
    have e : ((dgm n [S0])[i + 1]?.map List.length).getD 1 = (nextL (layS S0 i) []).length := by
      by_cases hi2 : i + 1 < n
      · rw [hget _ hi2]; simp [layS]
      · rw [List.getElem?_eq_none (by omega)]
        have := ho.next
        rw [show n - (i + 1) = 0 by omega] at this
        rw [layOk_end this]; rfl
    rw [e]
    exact ⟨ixL_ge _ _, ixL_lt hc⟩
end Go.Proofs.YtmonhpoogfdpoaaGreat
