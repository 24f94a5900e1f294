/-
  Rows that lie each in a block of its own, in an own list; a store whose levels lie so.
-/
import Derived.Test.YtihkeihnpiddoaaGreatDSv
import Derived.Test.YtihkeihnpiddoaaGreatDG13
set_option linter.unusedVariables false
set_option linter.unusedSimpArgs false
namespace Go.Proofs.YtihkeihnpiddoaaGreat
open Go.RowKit

def elRowO (S : List Nat) (w : World) (cs : List Value) (x : List Int × Nat) : Prop :=
  ∃ c, cs = [.slice (some ⟨x.2, 0, none⟩) x.1.length c] ∧ Own 0 w 3 (.slice (some ⟨x.2, 0, none⟩) x.1.length c) x.1 ∧ x.2 ∉ S
theorem Own.lt {B : Nat} {w : World} {e : TypeId} {g n cap : Nat} {xs : List Int} (h : Own B w e (.slice (some ⟨g, 0, none⟩) n cap) xs) : B ≤ g ∧ g < w.heap.size := by
  obtain ⟨h1, h2⟩ := h
  rcases h2 with ⟨h3, _⟩ | ⟨g', cap', cur, e1, hb, hgg, _⟩
  · cases h3
  · cases e1; exact ⟨hb, lt_of_block hgg⟩
theorem elRowO_ok : ElOk elRowO :=
  ⟨fun ⟨c, e, h, hn⟩ hg => ⟨c, e, h.keep hg hn, hn⟩, fun ⟨c, e, h, hn⟩ hs => ⟨c, e, h, fun hm => hn (hs _ h.lt.2 hm)⟩⟩
theorem Own.numsS {S : List Nat} {B : Nat} {w : World} {e : TypeId} {g n cap : Nat} {xs : List Int} (h : Own B w e (.slice (some ⟨g, 0, none⟩) n cap) xs) (hS : g ∉ S) : Nums S w .i64 (.slice (some ⟨g, 0, none⟩) n cap) xs := by
  obtain ⟨ao, cap', e, hl, hc⟩ := h.nums (S := []) (by simp)
  cases e
  exact ⟨_, _, rfl, hl, fun i x hi => ⟨g, 0, rfl, hS, by rw [Nat.zero_add]; exact (h.at hi).1⟩⟩
theorem OwnG.mapEl {α β : Type} {size : Nat} {el : List Nat → World → List Value → α → Prop} {el' : List Nat → World → List Value → β → Prop} {B : Nat} {w : World} {e : TypeId} {v : Value} {xs : List α} (h : OwnG size el B w e v xs) (f : α → β)
    (hf : ∀ S cs x, el S w cs x → el' S w cs (f x)) : OwnG size el' B w e v (xs.map f) := by
  obtain ⟨css, h1, h2, h3, h4⟩ := h
  refine ⟨css, by rw [List.length_map]; exact h1, h2, by rw [List.length_map]; exact h3, fun i cs y hi hy S hS => ?_⟩
  rw [List.getElem?_map] at hy
  obtain ⟨x, hx, rfl⟩ := Option.map_eq_some_iff.1 hy
  exact hf _ _ _ (h4 i cs x hi hx S hS)
theorem elRowO.row {S : List Nat} {w : World} {cs : List Value} {x : List Int × Nat} (h : elRowO S w cs x) : elRow S w cs x.1 := by
  obtain ⟨c, e, h, hn⟩ := h
  exact ⟨_, e, h.numsS hn⟩

theorem OwnG.rowsO {B : Nat} {w : World} {e : TypeId} {v : Value} {xs : List (List Int × Nat)} (h : OwnG 1 elRowO B w e v xs) {S : List Nat} (hS : ∀ b ∈ S, b < B ∨ w.heap.size ≤ b) : RowsV S w v (xs.map Prod.fst) :=
  (h.mapEl (el' := elRow) Prod.fst (fun _ _ _ h => h.row)).rows hS
/-- A store whose levels lie each in a block of its own; all its blocks lie between B and E. -/
def StoE (B E : Nat) (w : World) (v : Value) (s : Sto) : Prop :=
  ∃ (M : Nat → Prop) (dv cv : Value) (lo : Option Addr) (lc : Nat) (xs : List (List Int × Nat)), v = .agg #[dv, cv, .slice lo xs.length lc] ∧ ModM M w (.agg #[dv, cv]) s.mod ∧
    (∀ b, M b → (B ≤ b ∧ b < E) ∧ (Value.slice lo xs.length lc).ownBlock ≠ some b ∧ b ∉ xs.map Prod.snd) ∧ xs.map Prod.fst = s.lv ∧ (xs.map Prod.snd).Nodup ∧ (∀ g ∈ xs.map Prod.snd, B ≤ g ∧ g < E) ∧
    OwnGX (fun b => b < B ∨ E ≤ b) 1 elRowO B w 23 (.slice lo xs.length lc) xs
theorem OwnG.ofG' {α : Type} {size : Nat} {el : List Nat → World → List Value → α → Prop} {B : Nat} {w : World} {e : TypeId} {v : Value} {xs : List α} (h : OwnG size el B w e v xs) : OwnGX (fun b => b < B ∨ w.heap.size ≤ b) size el B w e v xs := OwnGX.ofG h (fun _ h => h)
theorem StoE.gr {B E : Nat} {S : List Nat} {w w' : World} {v : Value} {s : Sto} (h : StoE B E w v s) (hg : Gr S w w') (hS : ∀ b ∈ S, b < B ∨ E ≤ b) : StoE B E w' v s := by
  obtain ⟨M, dv, cv, lo, lc, xs, e, h1, h2, h3, h4, h5, h6⟩ := h
  exact ⟨M, dv, cv, lo, lc, xs, e, h1.gr' hg (fun b hb hm => by have := (h2 b hm).1; have := hS b hb; omega) (fun _ _ h => h), h2, h3, h4, h5, h6.gr elRowO_ok hg hS⟩
theorem OwnGX.rowsO {X : Nat → Prop} {B : Nat} {w : World} {e : TypeId} {v : Value} {xs : List (List Int × Nat)} (h : OwnGX X 1 elRowO B w e v xs) (S : List Nat) (hS : ∀ b ∈ S, X b ∨ w.heap.size ≤ b) : RowsV S w v (xs.map Prod.fst) := by
  obtain ⟨ao, cap, e1, h1, h2⟩ := h.slice
  obtain ⟨css, k1, k2, k3, k5, k4⟩ := h
  refine ⟨ao, cap, by rw [List.length_map]; exact e1, ⟨by rw [List.length_map]; exact h1, h2, fun h0 => ?_⟩, fun i r hi => ?_⟩
  · subst h0
    rcases k3.2 with ⟨e2, h3⟩ | ⟨g, cap', cur, e2, _⟩
    · rw [e1] at e2; simp only [Value.slice.injEq] at e2; exact e2.2.2
    · rw [e1] at e2; simp at e2
  · rw [List.getElem?_map] at hi
    obtain ⟨x, hx, rfl⟩ := Option.map_eq_some_iff.1 hi
    have hil := (List.getElem?_eq_some_iff.1 hx).1
    obtain ⟨cs, hcs⟩ := get_some (xs := css) (k := i) (by omega)
    rcases k3.2 with ⟨e2, h3⟩ | ⟨g, cap', cur, e2, hb, hg, h6, h7, h8, h9⟩
    · omega
    · have hob : v.ownBlock = some g := by rw [e2]; rfl
      rw [e1] at e2; simp only [Value.slice.injEq] at e2
      obtain ⟨rfl, -, rfl⟩ := e2
      obtain ⟨c, rfl, ho, hn⟩ := k4 i cs x hcs hx S (fun b hb => (hS b hb).imp id .inl)
      refine ⟨g, 0, _, rfl, fun hm => ?_, ?_, ho.numsS hn⟩
      · rcases hS g hm with h | h
        · exact k5 g hob h
        · have := lt_of_block hg; omega
      · have e3 := flatten_get (fun c hc => (k2 c hc).1) hcs (j := 0) (by omega)
        rw [Nat.mul_one, Nat.add_zero, ← h9, List.getElem?_take] at e3
        split at e3
        · rw [Nat.zero_add]; simp only [World.cell?, hg]; simpa using e3
        · cases e3
theorem StoE.sto {B E : Nat} {w : World} {v : Value} {s : Sto} (h : StoE B E w v s) (S : List Nat) (hS : ∀ b ∈ S, b < B ∨ E ≤ b) : StoV S w v s := by
  obtain ⟨M, dv, cv, lo, lc, xs, rfl, h1, h2, h3, h4, h5, h6⟩ := h
  exact StoV.mk (h1.mod fun b hb hm => by have := (h2 b hm).1; have := hS b hb; omega) (by rw [← h3]; exact h6.rowsO S (fun b hb => .inl (hS b hb)))
/-- An element of such a list: its cell. -/
theorem OwnGX.at {α : Type} {X : Nat → Prop} {size : Nat} {el : List Nat → World → List Value → α → Prop} {B : Nat} {w : World} {e : TypeId} {v : Value} {xs : List α} (h : OwnGX X size el B w e v xs) {i : Nat} {x : α} (hi : xs[i]? = some x) :
    ∃ g cap cs, v = .slice (some ⟨g, 0, none⟩) xs.length cap ∧ (B ≤ g ∧ g < w.heap.size ∧ ¬ X g) ∧ cs.length = size ∧ (∀ j u, cs[j]? = some u → w.cell? ⟨g, i * size + j, none⟩ = some u) ∧ (∀ j, w.frozen? ⟨g, j, none⟩ = false) ∧
      ∀ S : List Nat, (∀ b ∈ S, X b ∨ w.heap.size ≤ b ∨ b = g) → el S w cs x := by
  obtain ⟨css, h1, h2, h3, h5, h4⟩ := h
  have hil := (List.getElem?_eq_some_iff.1 hi).1
  obtain ⟨cs, hcs⟩ := get_some (xs := css) (k := i) (by omega)
  have hlen := (h2 cs (List.mem_of_getElem? hcs)).1
  rcases h3.2 with ⟨e1, h5⟩ | ⟨g, cap, cur, e1, hb, hg, h6, h7, h8, h9⟩
  · omega
  · subst e1
    refine ⟨g, cap, cs, rfl, ⟨hb, lt_of_block hg, h5 g rfl⟩, hlen, fun j u hj => ?_, fun j => by simp [World.frozen?, hg], fun S hS => h4 i cs x hcs hi S fun b hb => ?_⟩
    · have hjl := (List.getElem?_eq_some_iff.1 hj).1
      have e2 := flatten_get (fun c hc => (h2 c hc).1) hcs (j := j) (by omega)
      rw [← h9, hj, List.getElem?_take] at e2
      split at e2
      · simp only [World.cell?, hg]; simpa using e2
      · cases e2
    · rcases hS b hb with h | h | h
      · exact .inl h
      · exact .inr (.inl h)
      · exact .inr (.inr (by rw [h]; rfl))
end Go.Proofs.YtihkeihnpiddoaaGreat
