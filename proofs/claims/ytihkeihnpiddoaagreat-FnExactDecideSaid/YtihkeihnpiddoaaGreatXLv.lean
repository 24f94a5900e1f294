/-
  Rows that lie each in a block of its own, in an own list; a store whose levels lie so.
-/
import Derived.Test.YtihkeihnpiddoaaGreatXSv
import Derived.Test.YtihkeihnpiddoaaGreatXG13
set_option linter.unusedVariables false
set_option linter.unusedSimpArgs false
namespace Go.Proofs.YtihkeihnpiddoaaGreat
open Go.RowKit

def elRowO (S : List Nat) (w : World) (cs : List Value) (x : List Int × Nat) : Prop :=
  ∃ c, cs = [.slice (some ⟨x.2, 0, none⟩) x.1.length c] ∧ Own 0 w 3 (.slice (some ⟨x.2, 0, none⟩) x.1.length c) x.1 ∧ x.2 ∉ S
theorem Own.lt {B : Nat} {w : World} {e : TypeId} {g n cap : Nat} {xs : List Int} (h : Own B w e (.slice (some ⟨g, 0, none⟩) n cap) xs) : B ≤ g ∧ g < w.heap.size := by
  obtain ⟨h1, h2⟩ := h
  rcases h2 with ⟨h3, _⟩ | ⟨g', cap', cur, e1, hb, hgg, _⟩
  · cases h3
  · cases e1; exact ⟨hb, lt_of_block hgg⟩
theorem elRowO_ok : ElOk elRowO :=
  ⟨fun ⟨c, e, h, hn⟩ hg => ⟨c, e, h.keep hg hn, hn⟩, fun ⟨c, e, h, hn⟩ hs => ⟨c, e, h, fun hm => hn (hs _ h.lt.2 hm)⟩⟩
theorem Own.numsS {S : List Nat} {B : Nat} {w : World} {e : TypeId} {g n cap : Nat} {xs : List Int} (h : Own B w e (.slice (some ⟨g, 0, none⟩) n cap) xs) (hS : g ∉ S) : Nums S w .i64 (.slice (some ⟨g, 0, none⟩) n cap) xs := by
  obtain ⟨ao, cap', e, hl, hc⟩ := h.nums (S := []) (by simp)
  cases e
  exact ⟨_, _, rfl, hl, fun i x hi => ⟨g, 0, rfl, hS, by rw [Nat.zero_add]; exact (h.at hi).1⟩⟩
theorem OwnG.mapEl {α β : Type} {size : Nat} {el : List Nat → World → List Value → α → Prop} {el' : List Nat → World → List Value → β → Prop} {B : Nat} {w : World} {e : TypeId} {v : Value} {xs : List α} (h : OwnG size el B w e v xs) (f : α → β)
    (hf : ∀ S cs x, el S w cs x → el' S w cs (f x)) : OwnG size el' B w e v (xs.map f) := by
  obtain ⟨css, h1, h2, h3, h4⟩ := h
  refine ⟨css, by rw [List.length_map]; exact h1, h2, by rw [List.length_map]; exact h3, fun i cs y hi hy S hS => ?_⟩
  rw [List.getElem?_map] at hy
  obtain ⟨x, hx, rfl⟩ := Option.map_eq_some_iff.1 hy
  exact hf _ _ _ (h4 i cs x hi hx S hS)
theorem elRowO.row {S : List Nat} {w : World} {cs : List Value} {x : List Int × Nat} (h : elRowO S w cs x) : elRow S w cs x.1 := by
  obtain ⟨c, e, h, hn⟩ := h
  exact ⟨_, e, h.numsS hn⟩

theorem OwnG.rowsO {B : Nat} {w : World} {e : TypeId} {v : Value} {xs : List (List Int × Nat)} (h : OwnG 1 elRowO B w e v xs) {S : List Nat} (hS : ∀ b ∈ S, b < B ∨ w.heap.size ≤ b) : RowsV S w v (xs.map Prod.fst) :=
  (h.mapEl (el' := elRow) Prod.fst (fun _ _ _ h => h.row)).rows hS
end Go.Proofs.YtihkeihnpiddoaaGreat
