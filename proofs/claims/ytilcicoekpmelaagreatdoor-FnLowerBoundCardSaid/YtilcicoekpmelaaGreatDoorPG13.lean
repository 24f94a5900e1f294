/-
  Lists whose elements lead to memory, beside blocks that neither the list nor its elements touch.
  Walks of the generators hardModel, DrawSolve, DrawCountSolutions.
  Walk of the generator hardModel.
  Walks of the generators DrawSolve and DrawCountSolutions.
  Walks of the generators of models: smallModel, evenModel.
  Walks of the generators of the laws of symmetry.
-/
import Derived.Test.YtilcicoekpmelaaGreatDoorPFP
import Derived.Test.YtilcicoekpmelaaGreatDoorPG8
set_option linter.unusedVariables false
namespace Go.Proofs.YtilcicoekpmelaaGreatDoor
open Go.RowKit

/-- As OwnG; what its elements lead to lies in none of the blocks X. -/
def OwnGX {α : Type} (X : Nat → Prop) (size : Nat) (el : List Nat → World → List Value → α → Prop) (B : Nat) (w : World) (e : TypeId) (v : Value) (xs : List α) : Prop :=
  ∃ css : List (List Value), css.length = xs.length ∧ (∀ cs ∈ css, cs.length = size ∧ ∀ u ∈ cs, u.oneCell' = true) ∧ w.ownsRow B e size v xs.length css.flatten ∧ (∀ b, v.ownBlock = some b → ¬ X b) ∧
    ∀ (i : Nat) cs x, css[i]? = some cs → xs[i]? = some x → ∀ S : List Nat, (∀ b ∈ S, X b ∨ w.heap.size ≤ b ∨ v.ownBlock = some b) → el S w cs x
theorem OwnGX.g {α : Type} {X : Nat → Prop} {size : Nat} {el : List Nat → World → List Value → α → Prop} {B : Nat} {w : World} {e : TypeId} {v : Value} {xs : List α} (h : OwnGX X size el B w e v xs) (hX : ∀ b, b < B → X b) : OwnG size el B w e v xs := by
  obtain ⟨css, h1, h2, h3, _, h4⟩ := h
  exact ⟨css, h1, h2, h3, fun i cs x hi hx S hS => h4 i cs x hi hx S fun b hb => (hS b hb).imp (hX b) id⟩
theorem OwnGX.gr {α : Type} {X : Nat → Prop} {size : Nat} {el : List Nat → World → List Value → α → Prop} (ok : ElOk el) {S : List Nat} {B : Nat} {w w' : World} {e : TypeId} {v : Value} {xs : List α} (h : OwnGX X size el B w e v xs) (hg : Gr S w w') (hS : ∀ b ∈ S, X b) : OwnGX X size el B w' e v xs := by
  obtain ⟨css, h1, h2, h3, h5, h4⟩ := h
  refine ⟨css, h1, h2, ?_, h5, fun i cs x hi hx S0 hS0 => ?_⟩
  · refine ⟨h3.1, ?_⟩
    rcases h3.2 with h | ⟨g, cap, cur, e1, hb, hgg, rest⟩
    · exact .inl h
    · exact .inr ⟨g, cap, cur, e1, hb, hg.obj hgg (fun hm => h5 g (by rw [e1]; rfl) (hS g hm)), rest⟩
  · have := h4 i cs x hi hx (S ++ S0) (by
      intro b hb
      rcases List.mem_append.1 hb with hb | hb
      · exact .inl (hS b hb)
      · rcases hS0 b hb with h | h | h
        · exact .inl h
        · exact .inr (.inl (Nat.le_trans hg.size h))
        · exact .inr (.inr h))
    exact ok.sub (ok.gr this (hg.sub (fun k _ hk => by simp [hk]))) (fun b _ hb => by simp [hb])
theorem OwnGX.slice {α : Type} {X : Nat → Prop} {size : Nat} {el : List Nat → World → List Value → α → Prop} {B : Nat} {w : World} {e : TypeId} {v : Value} {xs : List α} (h : OwnGX X size el B w e v xs) : ∃ ao cap, v = .slice ao xs.length cap ∧ xs.length ≤ cap ∧ cap ≤ 9223372036854775807 := by
  obtain ⟨css, h1, h2, h3, h4⟩ := h
  rcases h3.2 with ⟨e1, h5⟩ | ⟨g, cap, cur, e1, _, _, h6, h7, _⟩
  · exact ⟨none, 0, by rw [e1, h5], by omega, by omega⟩
  · exact ⟨_, _, e1, h6, by simp only [maxLen] at h7; omega⟩
theorem OwnGX.own {α : Type} {X : Nat → Prop} {size : Nat} {el : List Nat → World → List Value → α → Prop} {B : Nat} {w : World} {e : TypeId} {v : Value} {xs : List α} (h : OwnGX X size el B w e v xs) {b : Nat} (hb : v.ownBlock = some b) : ¬ X b ∧ B ≤ b ∧ b < w.heap.size :=
  let ⟨_, _, _, h3, h5, _⟩ := h; ⟨h5 b hb, ownsRow_ownBlock h3 hb⟩

end Go.Proofs.YtilcicoekpmelaaGreatDoor

set_option linter.unusedVariables false
namespace Go.Proofs.YtilcicoekpmelaaGreatDoor
open Go.RowKit

end Go.Proofs.YtilcicoekpmelaaGreatDoor

set_option linter.unusedVariables false
namespace Go.Proofs.YtilcicoekpmelaaGreatDoor
open Go.RowKit

/-- What a generator of models leaves, with up to eight constraints. -/
def ModPostH (Pr : Con → Prop) (B R : Nat) (bs : List Int) (q : Nat) (w : World) (e : Ending) (w' : World) : Prop :=
  ∃ (m : Mod) (M : Nat) (ao : Option Addr) (ac : Nat) (co : Option Addr) (cc : Nat), e = .returned (.agg #[.slice ao m.doms.length ac, .slice co m.cons.length cc]) ∧
    Own B w' 3 (.slice ao m.doms.length ac) m.doms ∧ (∀ b, (Value.slice ao m.doms.length ac).ownBlock = some b → b < M) ∧ (B ≤ M ∧ M ≤ w'.heap.size) ∧
    OwnG 5 elCon M w' 48 (.slice co m.cons.length cc) m.cons ∧ (1 ≤ m.doms.length ∧ m.doms.length ≤ 4) ∧ m.cons.length ≤ 8 ∧ (∀ c ∈ m.cons, Pr c) ∧ Rd w' R bs q ∧ Gr [R] w w'
theorem ModPost.h {Pr : Con → Prop} {B R : Nat} {bs : List Int} {q : Nat} {w : World} {e : Ending} {w' : World} (h : ModPost Pr B R bs q w e w') : ModPostH Pr B R bs q w e w' := by
  obtain ⟨m, M, ao, ac, co, cc, h1, h2, h3, h4, h5, h6, h7, h8⟩ := h
  exact ⟨m, M, ao, ac, co, cc, h1, h2, h3, h4, h5, h6, by omega, h8⟩

end Go.Proofs.YtilcicoekpmelaaGreatDoor

set_option linter.unusedVariables false
namespace Go.Proofs.YtilcicoekpmelaaGreatDoor
open Go.RowKit

theorem ModV.two {S : List Nat} {w : World} {v : Value} {m : Mod} (h : ModV S w v m) : ∃ a n b c k d, v = .agg #[.slice a n b, .slice c k d] := by
  obtain ⟨dv, cv, rfl, ⟨ao, ac, rfl, _⟩, ⟨co, cc, rfl, _⟩⟩ := h
  exact ⟨_, _, _, _, _, _, rfl⟩
end Go.Proofs.YtilcicoekpmelaaGreatDoor

set_option linter.unusedVariables false
set_option linter.unusedSimpArgs false
namespace Go.Proofs.YtilcicoekpmelaaGreatDoor
open Go.RowKit



end Go.Proofs.YtilcicoekpmelaaGreatDoor

set_option linter.unusedVariables false
set_option linter.unusedSimpArgs false
namespace Go.Proofs.YtilcicoekpmelaaGreatDoor
open Go.RowKit





end Go.Proofs.YtilcicoekpmelaaGreatDoor
