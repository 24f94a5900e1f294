/-
  Walks of the checks of a solution, for whatever assignment: the program's and the reference's.
  Walks of the program's CountSolutions, SolveAll, DomainHas.
  Walks of the exchange of variables: the program's.
  Walk of FnExactCountSolutions.
  Rows that lie each in a block of its own: marks upon them; SolveAll's result.
-/
import Derived.Test.YtilcicoekpmelaaDoorPSiSf
import Derived.Test.YtilcicoekpmelaaDoorPEO
import Derived.Deep.RegionHeld3
import Derived.Test.YtilcicoekpmelaaDoorPSj
import Derived.StillTailTactics
import Derived.Test.YtilcicoekpmelaaDoorPEG
import Derived.Deep.RegionLaw
set_option linter.unusedVariables false
namespace Go.Proofs.YtilcicoekpmelaaDoor
open Go.RowKit

end Go.Proofs.YtilcicoekpmelaaDoor

set_option linter.unusedVariables false
namespace Go.Proofs.YtilcicoekpmelaaDoor
open Go.RowKit

theorem RowsV.take {S : List Nat} {w : World} {ao : Option Addr} {n cap : Nat} {rows : List (List Int)} (h : RowsV S w (.slice ao n cap) rows) (k : Nat) (hk : k ≤ rows.length) : RowsV S w (.slice ao k cap) (rows.take k) := by
  obtain ⟨ao', cap', e, ⟨h1, h2, h3⟩, hc⟩ := h
  cases e
  refine ⟨ao, cap, by rw [List.length_take, Nat.min_eq_left hk], ⟨by rw [List.length_take]; omega, h2, h3⟩, fun i r hi => ?_⟩
  rw [List.getElem?_take] at hi
  split at hi
  · exact hc i r hi
  · cases hi

end Go.Proofs.YtilcicoekpmelaaDoor

set_option linter.unusedVariables false
namespace Go.Proofs.YtilcicoekpmelaaDoor
open Go.RowKit

/-- A list of numbers in a block of its own, none of it frozen. -/
def InB (b : Nat) (W : World) (v : Value) (x : List Int) : Prop := NumsM (fun k => k = b) W v x

theorem RowsD.at {B : Nat} {w : World} {ao : Option Addr} {n cap : Nat} {rows : List (List Int)} (h : RowsD B w (.slice ao n cap) rows) :
    ∃ gs : List Nat, gs.Nodup ∧ gs.length = rows.length ∧ (∀ b ∈ gs, B ≤ b ∧ b < w.heap.size) ∧ ∀ (i : Nat) r, rows[i]? = some r → ∃ g b c, ao = some ⟨g, 0, none⟩ ∧ gs[i]? = some b ∧ (B ≤ g ∧ g < w.heap.size) ∧ (B ≤ b ∧ b < w.heap.size) ∧ g ∉ gs ∧
      w.cell? ⟨g, i, none⟩ = some (.slice (some ⟨b, 0, none⟩) r.length c) ∧ (∀ j, w.frozen? ⟨g, j, none⟩ = false) ∧ InB b w (.slice (some ⟨b, 0, none⟩) r.length c) r := by
  obtain ⟨ao', cap', e, hl, gs, h1, h2, h3⟩ := h
  simp only [Value.slice.injEq] at e
  obtain ⟨rfl, _, _⟩ := e
  refine ⟨gs, h1, h2, fun b hb => ?_, fun i r hi => ?_⟩
  · obtain ⟨i, hi⟩ := List.mem_iff_getElem?.1 hb
    obtain ⟨r, hr⟩ := get_some (xs := rows) (k := i) (by have := (List.getElem?_eq_some_iff.1 hi).1; omega)
    obtain ⟨g, b', c, _, e2, _, hbb, _⟩ := h3 i r hr
    rw [hi] at e2; cases e2; exact hbb
  · obtain ⟨g, b, c, e1, e2, k1, k2, k3, k4, k5, k6, k7, k8⟩ := h3 i r hi
    exact ⟨g, b, c, e1, e2, k1, k2, k3, k4, k6, _, _, rfl, ⟨k5.1, k5.2, by simp⟩, fun j y hy => ⟨b, 0, rfl, rfl, by rw [Nat.zero_add]; exact k8 j y hy, by rw [Nat.zero_add]; exact k7 j⟩⟩

end Go.Proofs.YtilcicoekpmelaaDoor

set_option linter.unusedVariables false
namespace Go.Proofs.YtilcicoekpmelaaDoor
open Go.RowKit

theorem ModV.slices {S : List Nat} {w : World} {v : Value} {m : Mod} (h : ModV S w v m) : ∃ a b c d, v = .agg #[.slice a m.doms.length b, .slice c m.cons.length d] := by
  obtain ⟨dv, cv, rfl, ⟨a, b, rfl, _⟩, ⟨c, d, rfl, _⟩⟩ := h; exact ⟨a, b, c, d, rfl⟩
theorem openVM (m : Mod) : ∃ D, validM m = true → VM m D := by
  by_cases h : validM m = true
  · obtain ⟨D, h⟩ := validM_open h; exact ⟨D, fun _ => h⟩
  · exact ⟨[], fun h' => absurd h' h⟩
theorem New.mod {B : Nat} {w : World} {v : Value} {m : Mod} (h : ModM (New B w) w v m) : ModV [] w v m := h.mod (by simp)

end Go.Proofs.YtilcicoekpmelaaDoor

set_option linter.unusedVariables false
namespace Go.Proofs.YtilcicoekpmelaaDoor
open Go.RowKit

/-- Rows, each in a block of its own, between B and E. -/
def RowsE (B E : Nat) (w : World) (v : Value) (rows : List (List Int)) : Prop :=
  ∃ ao cap, v = .slice ao rows.length cap ∧ (rows.length ≤ cap ∧ cap ≤ 9223372036854775807 ∧ (ao = none → cap = 0)) ∧ ∃ gs : List Nat, gs.Nodup ∧ gs.length = rows.length ∧
    ∀ (i : Nat) r, rows[i]? = some r → ∃ g b c, ao = some ⟨g, 0, none⟩ ∧ gs[i]? = some b ∧ (B ≤ g ∧ g < E) ∧ (B ≤ b ∧ b < E) ∧ g ∉ gs ∧ w.cell? ⟨g, i, none⟩ = some (.slice (some ⟨b, 0, none⟩) r.length c) ∧
      (∀ j, w.frozen? ⟨g, j, none⟩ = false) ∧ InB b w (.slice (some ⟨b, 0, none⟩) r.length c) r
theorem RowsD.e {B : Nat} {w : World} {v : Value} {rows : List (List Int)} (h : RowsD B w v rows) : RowsE B w.heap.size w v rows := by
  obtain ⟨ao, cap, rfl, hl, _⟩ := id h
  obtain ⟨gs, h1, h2, _, h3⟩ := h.at
  exact ⟨ao, cap, rfl, hl, gs, h1, h2, h3⟩
theorem RowsE.nil (B E : Nat) (w : World) : RowsE B E w (.slice none 0 0) [] := ⟨none, 0, rfl, by simp, [], by simp, rfl, by simp⟩
theorem RowsE.keep {B E : Nat} {S : List Nat} {w w' : World} {v : Value} {rows : List (List Int)} (h : RowsE B E w v rows) (hg : Gr S w w') (hS : ∀ b ∈ S, b < B ∨ E ≤ b) : RowsE B E w' v rows := by
  obtain ⟨ao, cap, e, hl, gs, h1, h2, h3⟩ := h
  refine ⟨ao, cap, e, hl, gs, h1, h2, fun i r hi => ?_⟩
  obtain ⟨g, b, c, e1, e2, k1, k2, k3, k4, k5, k6⟩ := h3 i r hi
  have hgS : g ∉ S := fun hm => by have := hS g hm; omega
  have hlt := World.block_lt_of_cell? w _ k4
  exact ⟨g, b, c, e1, e2, k1, k2, k3, hg.cell k4 hgS, fun j => (hg.frozen (a := ⟨g, j, none⟩) hlt hgS).trans (k5 j), k6.gr' hg (fun q hq e => by have := hS q hq; omega) (fun _ _ h => h)⟩
theorem RowsE.imp {B E B' E' : Nat} {w : World} {v : Value} {rows : List (List Int)} (h : RowsE B E w v rows) (hB : B' ≤ B) (hE : E ≤ E') : RowsE B' E' w v rows := by
  obtain ⟨ao, cap, e, hl, gs, h1, h2, h3⟩ := h
  refine ⟨ao, cap, e, hl, gs, h1, h2, fun i r hi => ?_⟩
  obtain ⟨g, b, c, e1, e2, k1, k2, r⟩ := h3 i r hi
  exact ⟨g, b, c, e1, e2, by omega, by omega, r⟩
theorem RowsE.rows {B E : Nat} {S : List Nat} {w : World} {v : Value} {rows : List (List Int)} (h : RowsE B E w v rows) (hS : ∀ b ∈ S, b < B ∨ E ≤ b) : RowsV S w v rows := by
  obtain ⟨ao, cap, e, hl, gs, h1, h2, h3⟩ := h
  refine ⟨ao, cap, e, hl, fun i r hi => ?_⟩
  obtain ⟨g, b, c, e1, e2, k1, k2, k3, k4, k5, k6⟩ := h3 i r hi
  exact ⟨g, 0, _, e1, fun hm => by have := hS g hm; omega, by rw [Nat.zero_add]; exact k4, k6.nums fun q hq e => by have := hS q hq; omega⟩
theorem RowsE.row {B E : Nat} {w : World} {ao : Option Addr} {n cap : Nat} {rows : List (List Int)} (h : RowsE B E w (.slice ao n cap) rows) {i : Nat} {r : List Int} (hi : rows[i]? = some r) :
    ∃ g b c, ao = some ⟨g, 0, none⟩ ∧ (B ≤ b ∧ b < E) ∧ w.cell? ⟨g, i, none⟩ = some (.slice (some ⟨b, 0, none⟩) r.length c) ∧ InB b w (.slice (some ⟨b, 0, none⟩) r.length c) r ∧
      ∀ (w' : World) (r' : List Int), r'.length = r.length → Gr [b] w w' → InB b w' (.slice (some ⟨b, 0, none⟩) r.length c) r' → RowsE B E w' (.slice ao n cap) (rows.set i r') := by
  obtain ⟨ao', cap', e, hl, gs, h1, h2, h3⟩ := h
  simp only [Value.slice.injEq] at e
  obtain ⟨rfl, rfl, rfl⟩ := e
  obtain ⟨g, b, c, e1, e2, k1, k2, k3, k4, k5, k6⟩ := h3 i r hi
  have hil := (List.getElem?_eq_some_iff.1 hi).1
  refine ⟨g, b, c, e1, k2, k4, k6, fun w' r' hr hg hin => ⟨_, _, by rw [List.length_set], by rw [List.length_set]; exact hl, gs, h1, by rw [List.length_set]; exact h2, fun j s hj => ?_⟩⟩
  have hgb : g ∉ [b] := by simp; intro e; subst e; exact k3 (List.mem_of_getElem? e2)
  have hlt := World.block_lt_of_cell? w _ k4
  by_cases hij : i = j
  · subst hij
    rw [List.getElem?_set_self hil] at hj
    cases hj
    exact ⟨g, b, c, e1, e2, k1, k2, k3, by rw [hr]; exact hg.cell k4 hgb, fun q => (hg.frozen (a := ⟨g, q, none⟩) hlt hgb).trans (k5 q), by rw [hr]; exact hin⟩
  · rw [List.getElem?_set_ne hij] at hj
    obtain ⟨g', b', c', f1, f2, m1, m2, m3, m4, m5, m6⟩ := h3 j s hj
    have : g' = g := by rw [e1] at f1; simp at f1; exact f1.symm
    subst this
    have hbb : b' ≠ b := fun e => hij (by
      subst e
      have a1 := List.getElem?_eq_some_iff.1 e2
      have a2 := List.getElem?_eq_some_iff.1 f2
      exact (List.getElem_inj h1).1 (a1.2.trans a2.2.symm))
    exact ⟨g', b', c', e1, f2, k1, m2, k3, hg.cell m4 hgb, fun q => (hg.frozen (a := ⟨g', q, none⟩) hlt hgb).trans (m5 q), m6.gr' hg (fun q hq e => by simp at hq; exact hbb (e.symm.trans hq)) (fun _ _ h => h)⟩
theorem RowsE.take {B E : Nat} {w : World} {ao : Option Addr} {n cap : Nat} {rows : List (List Int)} (h : RowsE B E w (.slice ao n cap) rows) (k : Nat) (hk : k ≤ rows.length) : RowsE B E w (.slice ao k cap) (rows.take k) := by
  obtain ⟨ao', cap', e, hl, gs, h1, h2, h3⟩ := h
  simp only [Value.slice.injEq] at e
  obtain ⟨rfl, rfl, rfl⟩ := e
  refine ⟨_, _, by rw [List.length_take, Nat.min_eq_left hk], ⟨by rw [List.length_take]; omega, hl.2.1, hl.2.2⟩, gs.take k, h1.sublist (List.take_sublist _ _), by rw [List.length_take, List.length_take, h2], fun i r hi => ?_⟩
  rw [List.getElem?_take] at hi
  split at hi
  · rename_i hik
    obtain ⟨g, b, c, e1, e2, k1, k2, k3, r⟩ := h3 i r hi
    exact ⟨g, b, c, e1, by rw [List.getElem?_take, if_pos hik]; exact e2, k1, k2, fun hm => k3 (List.mem_of_mem_take hm), r⟩
  · cases hi
theorem RowsE.apart {M : Nat → Prop} {B E : Nat} {w w' : World} {v : Value} {rows : List (List Int)} (h : RowsE B E w v rows) (k : Mk M w w') (hd : ∀ b, B ≤ b → b < E → ¬ M b) : RowsE B E w' v rows := by
  obtain ⟨ao, cap, e, hl, gs, h1, h2, h3⟩ := h
  refine ⟨ao, cap, e, hl, gs, h1, h2, fun i r hi => ?_⟩
  obtain ⟨g, b, c, e1, e2, k1, k2, k3, k4, k5, k6⟩ := h3 i r hi
  have hlt := World.block_lt_of_cell? w _ k4
  exact ⟨g, b, c, e1, e2, k1, k2, k3, (World.cell?_of_block (k.block g hlt (hd g k1.1 k1.2))).trans k4, fun j => (k.frozen ⟨g, j, none⟩ hlt).trans (k5 j), k6.apart k fun q hq => by subst hq; exact hd _ k2.1 k2.2⟩

end Go.Proofs.YtilcicoekpmelaaDoor
