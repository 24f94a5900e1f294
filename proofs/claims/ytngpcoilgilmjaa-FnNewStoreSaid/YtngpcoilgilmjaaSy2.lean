/-
  Walks of the exchange of variables: the program's.
-/
import Derived.Test.YtngpcoilgilmjaaSy1
import Derived.Test.YtngpcoilgilmjaaSk
import Derived.StillTailTactics
import Derived.Test.YtngpcoilgilmjaaEG
set_option linter.unusedVariables false
namespace Go.Proofs.Ytngpcoilgilmjaa
open Go.RowKit

def presB (cs : List Con) (D : List Nat) (T : List Int → List Int) : Bool := (sols cs D).all fun x => isB cs D (T x)
def swapL (i j : Nat) (x : List Int) : List Int := (x.set i (x.getD j 0)).set j (x.getD i 0)
theorem swapL_len (i j : Nat) (x : List Int) : (swapL i j x).length = x.length := by simp [swapL]
theorem swapL_mem {i j : Nat} {x : List Int} (hi : i < x.length) (hj : j < x.length) {y : Int} (h : y ∈ swapL i j x) : y ∈ x := by
  unfold swapL at h
  have hgi : x.getD i 0 ∈ x := by rw [List.getD_eq_getElem?_getD, List.getElem?_eq_getElem hi]; exact List.getElem_mem hi
  have hgj : x.getD j 0 ∈ x := by rw [List.getD_eq_getElem?_getD, List.getElem?_eq_getElem hj]; exact List.getElem_mem hj
  rcases List.mem_or_eq_of_mem_set h with h | rfl
  · rcases List.mem_or_eq_of_mem_set h with h | rfl
    · exact h
    · exact hgj
  · exact hgi

/-- A list of numbers in a block of its own, none of it frozen. -/
def InB (b : Nat) (W : World) (v : Value) (x : List Int) : Prop := NumsM (fun k => k = b) W v x

theorem RowsD.at {B : Nat} {w : World} {ao : Option Addr} {n cap : Nat} {rows : List (List Int)} (h : RowsD B w (.slice ao n cap) rows) :
    ∃ gs : List Nat, gs.Nodup ∧ gs.length = rows.length ∧ (∀ b ∈ gs, B ≤ b ∧ b < w.heap.size) ∧ ∀ (i : Nat) r, rows[i]? = some r → ∃ g b c, ao = some ⟨g, 0, none⟩ ∧ gs[i]? = some b ∧ (B ≤ g ∧ g < w.heap.size) ∧ (B ≤ b ∧ b < w.heap.size) ∧ g ∉ gs ∧
      w.cell? ⟨g, i, none⟩ = some (.slice (some ⟨b, 0, none⟩) r.length c) ∧ (∀ j, w.frozen? ⟨g, j, none⟩ = false) ∧ InB b w (.slice (some ⟨b, 0, none⟩) r.length c) r := by
  obtain ⟨ao', cap', e, hl, gs, h1, h2, h3⟩ := h
  simp only [Value.slice.injEq] at e
  obtain ⟨rfl, _, _⟩ := e
  refine ⟨gs, h1, h2, fun b hb => ?_, fun i r hi => ?_⟩
  · obtain ⟨i, hi⟩ := List.mem_iff_getElem?.1 hb
    obtain ⟨r, hr⟩ := get_some (xs := rows) (k := i) (by have := (List.getElem?_eq_some_iff.1 hi).1; omega)
    obtain ⟨g, b', c, _, e2, _, hbb, _⟩ := h3 i r hr
    rw [hi] at e2; cases e2; exact hbb
  · obtain ⟨g, b, c, e1, e2, k1, k2, k3, k4, k5, k6, k7, k8⟩ := h3 i r hi
    exact ⟨g, b, c, e1, e2, k1, k2, k3, k4, k6, _, _, rfl, ⟨k5.1, k5.2, by simp⟩, fun j y hy => ⟨b, 0, rfl, rfl, by rw [Nat.zero_add]; exact k8 j y hy, by rw [Nat.zero_add]; exact k7 j⟩⟩

end Go.Proofs.Ytngpcoilgilmjaa
