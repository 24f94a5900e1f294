/-
  Lists whose elements lead to memory, beside blocks that neither the list nor its elements touch.
  Walks of the generators hardModel, DrawSolve, DrawCountSolutions.
  Walk of the generator hardModel.
  Walks of the generators DrawSolve and DrawCountSolutions.
  Walks of the generators of models: smallModel, evenModel.
  Walks of the generators of the laws of symmetry.
-/
import Derived.Test.YtmonhpoogfdpoaaGreatDoorPFP
import Derived.Test.YtmonhpoogfdpoaaGreatDoorPG8
set_option linter.unusedVariables false
namespace Go.Proofs.YtmonhpoogfdpoaaGreatDoor
open Go.RowKit

/-- As OwnG; what its elements lead to lies in none of the blocks X. -/
def OwnGX {α : Type} (X : Nat → Prop) (size : Nat) (el : List Nat → World → List Value → α → Prop) (B : Nat) (w : World) (e : TypeId) (v : Value) (xs : List α) : Prop :=
  ∃ css : List (List Value), css.length = xs.length ∧ (∀ cs ∈ css, cs.length = size ∧ ∀ u ∈ cs, u.oneCell' = true) ∧ w.ownsRow B e size v xs.length css.flatten ∧ (∀ b, v.ownBlock = some b → ¬ X b) ∧
    ∀ (i : Nat) cs x, css[i]? = some cs → xs[i]? = some x → ∀ S : List Nat, (∀ b ∈ S, X b ∨ w.heap.size ≤ b ∨ v.ownBlock = some b) → el S w cs x
theorem OwnGX.g {α : Type} {X : Nat → Prop} {size : Nat} {el : List Nat → World → List Value → α → Prop} {B : Nat} {w : World} {e : TypeId} {v : Value} {xs : List α} (h : OwnGX X size el B w e v xs) (hX : ∀ b, b < B → X b) : OwnG size el B w e v xs := by
  obtain ⟨css, h1, h2, h3, _, h4⟩ := h
  exact ⟨css, h1, h2, h3, fun i cs x hi hx S hS => h4 i cs x hi hx S fun b hb => (hS b hb).imp (hX b) id⟩
theorem OwnGX.gr {α : Type} {X : Nat → Prop} {size : Nat} {el : List Nat → World → List Value → α → Prop} (ok : ElOk el) {S : List Nat} {B : Nat} {w w' : World} {e : TypeId} {v : Value} {xs : List α} (h : OwnGX X size el B w e v xs) (hg : Gr S w w') (hS : ∀ b ∈ S, X b) : OwnGX X size el B w' e v xs := by
  obtain ⟨css, h1, h2, h3, h5, h4⟩ := h
  refine ⟨css, h1, h2, ?_, h5, fun i cs x hi hx S0 hS0 => ?_⟩
  · refine ⟨h3.1, ?_⟩
    rcases h3.2 with h | ⟨g, cap, cur, e1, hb, hgg, rest⟩
    · exact .inl h
    · exact .inr ⟨g, cap, cur, e1, hb, hg.obj hgg (fun hm => h5 g (by rw [e1]; rfl) (hS g hm)), rest⟩
  · have := h4 i cs x hi hx (S ++ S0) (by
      intro b hb
      rcases List.mem_append.1 hb with hb | hb
      · exact .inl (hS b hb)
      · rcases hS0 b hb with h | h | h
        · exact .inl h
        · exact .inr (.inl (Nat.le_trans hg.size h))
        · exact .inr (.inr h))
    exact ok.sub (ok.gr this (hg.sub (fun k _ hk => by simp [hk]))) (fun b _ hb => by simp [hb])
theorem OwnGX.slice {α : Type} {X : Nat → Prop} {size : Nat} {el : List Nat → World → List Value → α → Prop} {B : Nat} {w : World} {e : TypeId} {v : Value} {xs : List α} (h : OwnGX X size el B w e v xs) : ∃ ao cap, v = .slice ao xs.length cap ∧ xs.length ≤ cap ∧ cap ≤ 9223372036854775807 := by
  obtain ⟨css, h1, h2, h3, h4⟩ := h
  rcases h3.2 with ⟨e1, h5⟩ | ⟨g, cap, cur, e1, _, _, h6, h7, _⟩
  · exact ⟨none, 0, by rw [e1, h5], by omega, by omega⟩
  · exact ⟨_, _, e1, h6, by simp only [maxLen] at h7; omega⟩
theorem OwnGX.own {α : Type} {X : Nat → Prop} {size : Nat} {el : List Nat → World → List Value → α → Prop} {B : Nat} {w : World} {e : TypeId} {v : Value} {xs : List α} (h : OwnGX X size el B w e v xs) {b : Nat} (hb : v.ownBlock = some b) : ¬ X b ∧ B ≤ b ∧ b < w.heap.size :=
  let ⟨_, _, _, h3, h5, _⟩ := h; ⟨h5 b hb, ownsRow_ownBlock h3 hb⟩

/-- An append in a region that draws, and where the new list lies. -/
theorem step_appGX {α : Type} {P : Program} {w : World} {ops : Array Oper} {o : Oper} {a : Act} {K : Act → World → Prop} {Q : Exit → Act → World → Prop} {E : Prop} (hgd : o.guard = none) (s x : Operand) (t : TypeId)
    (ho : o.op = .call { callee := .builtin .append, args := #[s, x], argTypes := #[t, t] }) (size : Nat) (el : List Nat → World → List Value → α → Prop) (ok : ElOk el) (B : Nat) (e : TypeId) (z : Value) (bytes : Nat)
    (hinfo : (P.info? e).map (fun i => (i.zero, i.size, i.bytes)) = some (some z, size, bytes)) (hzs : z.cells.size = size) (hsz : 0 < size) (hby : bytes ≤ 100)
    (ht : P.underlying t = some (.slice e)) (v : Value) (xs : List α) (hs : a.eval s = v) (X : Nat → Prop) (hX : ∀ b, X b → b < w.heap.size) (hown : OwnGX X size el B w e v xs) (g c : Nat) (y : α) (cs : List Value) (hx : a.eval x = .slice (some ⟨g, 0, none⟩) 1 c)
    (hl : cs.length = size) (h1 : ∀ u ∈ cs, u.oneCell' = true) (hn : ∀ j u, cs[j]? = some u → w.cell? ⟨g, j, none⟩ = some u) (hel : ∀ S : List Nat, (∀ b ∈ S, X b ∨ w.heap.size ≤ b ∨ v.ownBlock = some b) → el S w cs y)
    (hlen : xs.length ≤ 10000000) (hB : B ≤ w.heap.size)
    (h : ∀ g' c' w', OwnGX X size el B w' e (.slice (some ⟨g', 0, none⟩) (xs.length + 1) c') (xs ++ [y]) → Gr v.ownBlock.toList w w' → (v.ownBlock = some g' ∨ w.heap.size ≤ g') → g' < w'.heap.size → K (a.put o.dst (.slice (some ⟨g', 0, none⟩) (xs.length + 1) c')) w') : if Region.wanted o (yielded ops a.tmps) = true then Oper.wp P o a w K Q else E := by
  obtain ⟨css, k1, k2, k3, k5, k4⟩ := hown
  obtain ⟨i0, hi, hz0, hz1, hz2⟩ := info_parts hinfo
  have hbb : (xs.length + 1) * bytes ≤ (xs.length + 1) * 100 := Nat.mul_le_mul_left _ hby
  refine step_append_lies w hgd s x t ho B e i0 z size bytes ht hi hz0 hz1 hz2 hzs hsz v xs.length css.flatten hs k3 ⟨g, 0, none⟩ 1 c cs hx (by rw [hl]; simp) ?_ h1 (by omega) (by simp only [maxLen]; omega) (by omega) hB w.heap.size rfl ?_
  · intro j u hj
    have : (⟨g, 0, none⟩ : Addr).add j = ⟨g, j, none⟩ := by unfold Addr.add; split <;> simp_all
    rw [this]; exact hn j u hj
  · intro g' cap' w' hown' hgrow hwhere hlt
    have hgr : Gr v.ownBlock.toList w w' := ⟨hgrow.os, hgrow.tape, hgrow.output, hgrow.size, fun k hk hs => hgrow.block k hk (fun e => hs (by rw [← e]; simp))⟩
    refine h _ _ _ ⟨css ++ [cs], by simp [k1], ?_, ?_, ?_, ?_⟩ hgr (hwhere.imp id (fun e => by omega)) hlt
    · intro c hc
      rcases List.mem_append.1 hc with hc | hc
      · exact k2 c hc
      · simp at hc; subst hc; exact ⟨hl, h1⟩
    · rw [List.flatten_append]; simpa using hown'
    · intro b hb hXb
      simp [Value.ownBlock] at hb; subst hb
      rcases hwhere with h | h
      · exact k5 _ h hXb
      · have := hX _ hXb; omega
    · have hcond : ∀ S : List Nat, (∀ b ∈ S, X b ∨ w'.heap.size ≤ b ∨ (Value.slice (some ⟨g', 0, none⟩) (xs.length + 1) cap').ownBlock = some b) → ∀ b ∈ v.ownBlock.toList ++ S, X b ∨ w.heap.size ≤ b ∨ v.ownBlock = some b := by
        intro S hS b hb
        rcases List.mem_append.1 hb with hb | hb
        · exact .inr (.inr (by simpa using hb))
        · rcases hS b hb with h | h | h
          · exact .inl h
          · exact .inr (.inl (Nat.le_trans hgr.size h))
          · simp [Value.ownBlock] at h
            subst h
            rcases hwhere with h | h
            · exact .inr (.inr h)
            · exact .inr (.inl (by omega))
      intro i c' x' hc hx' S hS
      have fin : ∀ c'' x'', el (v.ownBlock.toList ++ S) w c'' x'' → el S w' c'' x'' := fun c'' x'' h0 =>
        ok.sub (ok.gr h0 (hgr.sub (fun k _ hk => by simp at hk ⊢; exact .inl hk))) (fun b _ hb => by simp [hb])
      by_cases hlt : i < xs.length
      · rw [List.getElem?_append_left (by omega)] at hc
        rw [List.getElem?_append_left hlt] at hx'
        exact fin _ _ (k4 i c' x' hc hx' _ (hcond S hS))
      · have hi' : i = xs.length := by
          have := (List.getElem?_eq_some_iff.1 hx').1
          simp at this; omega
        subst hi'
        rw [List.getElem?_append_right (by omega), k1, Nat.sub_self] at hc
        rw [List.getElem?_append_right (by omega), Nat.sub_self] at hx'
        simp at hc hx'
        subst hc hx'
        exact fin _ _ (hel _ (hcond S hS))

end Go.Proofs.YtmonhpoogfdpoaaGreatDoor

set_option linter.unusedVariables false
namespace Go.Proofs.YtmonhpoogfdpoaaGreatDoor
open Go.RowKit

end Go.Proofs.YtmonhpoogfdpoaaGreatDoor

set_option linter.unusedVariables false
namespace Go.Proofs.YtmonhpoogfdpoaaGreatDoor
open Go.RowKit

end Go.Proofs.YtmonhpoogfdpoaaGreatDoor

set_option linter.unusedVariables false
namespace Go.Proofs.YtmonhpoogfdpoaaGreatDoor
open Go.RowKit

end Go.Proofs.YtmonhpoogfdpoaaGreatDoor

set_option linter.unusedVariables false
set_option linter.unusedSimpArgs false
namespace Go.Proofs.YtmonhpoogfdpoaaGreatDoor
open Go.RowKit



end Go.Proofs.YtmonhpoogfdpoaaGreatDoor

set_option linter.unusedVariables false
set_option linter.unusedSimpArgs false
namespace Go.Proofs.YtmonhpoogfdpoaaGreatDoor
open Go.RowKit





end Go.Proofs.YtmonhpoogfdpoaaGreatDoor
