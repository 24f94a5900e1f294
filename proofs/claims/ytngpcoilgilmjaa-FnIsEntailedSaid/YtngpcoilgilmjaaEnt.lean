/-
  The plain law of entailment: all tuples of a constraint's domains satisfy it exactly if it strikes no assignment.
-/
import Derived.Test.YtngpcoilgilmjaaFP
set_option linter.unusedVariables false
namespace Go.Proofs.Ytngpcoilgilmjaa
open Go.RowKit

def entB (c : Con) (D : List Nat) : Bool := (tups (wordN c.vars D)).all (satB c)
def bitOf (d : Nat) : Nat := ((List.range 6).find? fun n => d.testBit n).getD 0
theorem bitOf_ok : ∀ d, d < 64 → d ≠ 0 → bitOf d < 6 ∧ d.testBit (bitOf d) = true := by decide
theorem tup_nat {D : List Nat} {t : List Int} (h : t ∈ tups D) : ∃ T : List Nat, t = ints T := by
  refine ⟨t.map Int.toNat, ?_⟩
  unfold ints
  rw [List.map_map]
  symm
  have : t.map ((fun n : Nat => (n : Int)) ∘ Int.toNat) = t.map id := List.map_congr_left fun x hx => by
    have := tups_val h x hx
    simp only [Function.comp, id]; omega
  rw [this, List.map_id]
theorem extend {c : Con} {D : List Nat} (hc : VC c D.length) (hb : Below64 D) (h0 : 0 ∉ D) {t : List Int} (ht : t ∈ tups (wordN c.vars D)) : ∃ x, In x D ∧ word c.vars x = t := by
  obtain ⟨T, rfl⟩ := tup_nat ht
  have hTl : T.length = c.vars.length := by have := tups_len ht; rwa [ints_len, wordN_len] at this
  have hlen : (setAll c.vars T (D.map bitOf)).length = D.length := by rw [setAll_len, List.length_map]
  refine ⟨ints (setAll c.vars T (D.map bitOf)), In.of (by rw [ints_len, hlen]) fun i hi => ?_, ?_⟩
  · rcases var_cases c i with h | ⟨k, v, hv, rfl⟩
    · obtain ⟨d, hd⟩ : ∃ d, D[i]? = some d := ⟨_, List.getElem?_eq_getElem hi⟩
      have hdm := List.mem_of_getElem? hd
      obtain ⟨h1, h2⟩ := bitOf_ok d (hb d hdm) (fun e => h0 (e ▸ hdm))
      refine ⟨bitOf d, ?_, h1, ?_⟩
      · rw [ints_get, setAll_other _ _ _ _ h, List.getElem?_map, hd]; rfl
      · rw [List.getD_eq_getElem?_getD, hd]; exact h2
    · have hk := (List.getElem?_eq_some_iff.1 hv).1
      obtain ⟨s, hs⟩ : ∃ s, T[k]? = some s := ⟨_, List.getElem?_eq_getElem (by omega)⟩
      obtain ⟨_, hall⟩ := mem_tups.1 ht
      obtain ⟨d, hd, hvd⟩ := hall k (s : Int) (by rw [ints_get, hs]; rfl)
      rw [wordN_get _ _ _ _ hv] at hd
      simp only [Option.some.injEq] at hd
      subst hd
      obtain ⟨n, e, hn, hbit⟩ := mem_vals.1 hvd
      have : n = s := by omega
      subst this
      refine ⟨n, ?_, hn, hbit⟩
      rw [ints_get, setAll_at _ _ _ _ _ _ hv hs hc.nd (by rw [List.length_map]; exact hc.rng)]; rfl
  · refine List.ext_getElem? fun k => ?_
    unfold word
    rw [List.getElem?_map, ints_get]
    by_cases hk : k < c.vars.length
    · obtain ⟨v, hv⟩ : ∃ v, c.vars[k]? = some v := ⟨_, List.getElem?_eq_getElem hk⟩
      obtain ⟨s, hs⟩ : ∃ s, T[k]? = some s := ⟨_, List.getElem?_eq_getElem (by omega)⟩
      rw [hv, hs]
      simp only [Option.map_some]
      rw [List.getD_eq_getElem?_getD, ints_get, setAll_at _ _ _ _ _ _ hv hs hc.nd (by rw [List.length_map]; exact hc.rng)]; rfl
    · rw [List.getElem?_eq_none (by omega), List.getElem?_eq_none (by omega)]; rfl
theorem sols_none (D : List Nat) : sols [] D = tups D := by
  unfold sols
  rw [List.filter_eq_self]
  intro x _
  simp [solB]
theorem ent_count {c : Con} {D : List Nat} (hc : VC c D.length) (hb : Below64 D) (h0 : 0 ∉ D) : entB c D = decide ((sols [c] D).length = (sols [] D).length) := by
  rw [sols_none]
  have e : sols [c] D = (tups D).filter fun x => satB c (word c.vars x) := by
    unfold sols
    congr 1
    funext x
    simp [solB]
  rw [e, Bool.eq_iff_iff, decide_eq_true_iff, List.length_filter_eq_length_iff]
  unfold entB
  rw [List.all_eq_true]
  constructor
  · intro h x hx
    exact h _ (In.word hx hc)
  · intro h t ht
    obtain ⟨x, hx, rfl⟩ := extend hc hb h0 ht
    exact h x hx
theorem heap2' (w : World) (a b : Obj) : ((w.alloc a).alloc b).heap[w.heap.size]? = some a ∧ ((w.alloc a).alloc b).heap[w.heap.size + 1]? = some b := by
  refine ⟨(heap_alloc_old _ _ (by simp)).trans (heap_alloc_new _ _), ?_⟩
  have := heap_alloc_new (w.alloc a) b
  rwa [World.size_alloc] at this
end Go.Proofs.Ytngpcoilgilmjaa
