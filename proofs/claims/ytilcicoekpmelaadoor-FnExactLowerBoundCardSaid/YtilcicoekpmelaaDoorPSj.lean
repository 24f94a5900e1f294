/-
  Walk of the program's list of solutions.
-/
import Derived.Test.YtilcicoekpmelaaDoorPSiSf
import Derived.Test.YtilcicoekpmelaaDoorPG1
import Derived.Deep.AppendLies
set_option linter.unusedVariables false
namespace Go.Proofs.YtilcicoekpmelaaDoor
open Go.RowKit
attribute [local go_sem] Oper.semAt_some

/-- The rows lie each in a block of its own, none of them frozen. -/
def RowB (ms : List Nat) (W : World) (fv : Value) (css : List (List Value)) : Prop :=
  ∃ gs : List Nat, gs.Nodup ∧ gs.length = css.length ∧ (∀ g ∈ gs, g ∈ ms ∧ g < W.heap.size ∧ fv.ownBlock ≠ some g ∧ ∀ j, W.frozen? ⟨g, j, none⟩ = false) ∧
    ∀ (i : Nat) g, gs[i]? = some g → ∃ n c, css[i]? = some [.slice (some ⟨g, 0, none⟩) n c]
theorem RowB.gr {ms T : List Nat} {W W' : World} {fv : Value} {css : List (List Value)} (h : RowB ms W fv css) (hg : Gr T W W') (hT : ∀ t ∈ T, t ∉ ms) : RowB ms W' fv css := by
  obtain ⟨gs, h1, h2, h3, h4⟩ := h
  refine ⟨gs, h1, h2, fun g hgm => ?_, h4⟩
  obtain ⟨k1, k2, k3, k4⟩ := h3 g hgm
  exact ⟨k1, Nat.lt_of_lt_of_le k2 hg.size, k3, fun j => (hg.frozen k2 (fun hm => hT g hm k1)).trans (k4 j)⟩
theorem OwnC.frozen {B g n cap : Nat} {w : World} {e : TypeId} {xs : List Int} (h : OwnC B w e (.slice (some ⟨g, 0, none⟩) n cap) xs) (j : Nat) : w.frozen? ⟨g, j, none⟩ = false := by
  rcases h with ⟨h1, _⟩ | ⟨g', cap', cur, e1, h2, h3, _⟩
  · cases h1
  · cases e1; simp [World.frozen?, h3]

/-- A list of rows under construction: its own block, and its rows' in blocks ms, apart from the list's. -/
def OutV (g1 : Nat) (ms : List Nat) (W : World) (fv : Value) (xss : List (List Int)) : Prop :=
  ∃ css : List (List Value), css.length = xss.length ∧ (∀ cs ∈ css, cs.length = 1 ∧ ∀ u ∈ cs, u.oneCell' = true) ∧ W.ownsRow g1 22 1 fv xss.length css.flatten ∧
    (∀ b, fv.ownBlock = some b → b = g1 ∨ b ∈ ms) ∧
    (∀ (i : Nat) cs x, css[i]? = some cs → xss[i]? = some x → ∀ S : List Nat, (∀ b ∈ S, b ∉ ms ∨ fv.ownBlock = some b) → elRow S W cs x) ∧ RowB ms W fv css
theorem ownsRow_keep {T : List Nat} {B e size n : Nat} {w w' : World} {v : Value} {xs : List Value} (h : w.ownsRow B e size v n xs) (hg : Gr T w w') (hT : ∀ b, v.ownBlock = some b → b ∉ T) : w'.ownsRow B e size v n xs := by
  refine ⟨h.1, ?_⟩
  rcases h.2 with h | ⟨g, cap, cur, e1, hb, hgg, rest⟩
  · exact .inl h
  · exact .inr ⟨g, cap, cur, e1, hb, hg.obj hgg (hT g (by rw [e1]; rfl)), rest⟩
theorem OutV.keep {g1 : Nat} {ms T : List Nat} {W W' : World} {fv : Value} {xss : List (List Int)} (h : OutV g1 ms W fv xss) (hg : Gr T W W') (hT : ∀ t ∈ T, t ∉ ms ∧ t ≠ g1) : OutV g1 ms W' fv xss := by
  obtain ⟨css, h1, h2, h3, h4, h5, h6⟩ := h
  refine ⟨css, h1, h2, ownsRow_keep h3 hg fun b hb hm => ?_, h4, fun i cs x hi hx S hS => ?_, h6.gr hg fun t ht => (hT t ht).1⟩
  · rcases h4 b hb with h | h
    · exact (hT b hm).2 h
    · exact (hT b hm).1 h
  · have := h5 i cs x hi hx (T ++ S) (by
      intro b hb
      rcases List.mem_append.1 hb with hb | hb
      · exact .inl (hT b hb).1
      · exact hS b hb)
    exact elRow_ok.sub (elRow_ok.gr this (hg.sub (fun k _ hk => by simp [hk]))) (fun b _ hb => by simp [hb])
theorem OutV.slice {g1 : Nat} {ms : List Nat} {W : World} {fv : Value} {xss : List (List Int)} (h : OutV g1 ms W fv xss) : ∃ ao cap, fv = .slice ao xss.length cap ∧ xss.length ≤ cap ∧ cap ≤ 9223372036854775807 := by
  obtain ⟨css, h1, h2, h3, h4⟩ := h
  rcases h3.2 with ⟨e1, h5⟩ | ⟨g, cap, cur, e1, _, _, h6, h7, _⟩
  · exact ⟨none, 0, by rw [e1, h5], by omega, by omega⟩
  · exact ⟨_, _, e1, h6, by simp only [maxLen] at h7; omega⟩
theorem OutV.g {g1 : Nat} {ms : List Nat} {W : World} {fv : Value} {xss : List (List Int)} (h : OutV g1 ms W fv xss) {B : Nat} (hB : B ≤ g1) (hms : ∀ m ∈ ms, B ≤ m ∧ m < W.heap.size) : OwnG 1 elRow B W 22 fv xss := by
  obtain ⟨css, h1, h2, h3, h4, h5, h6⟩ := h
  refine ⟨css, h1, h2, ⟨h3.1, ?_⟩, fun i cs x hi hx S hS => h5 i cs x hi hx S fun b hb => ?_⟩
  · rcases h3.2 with h | ⟨g, cap, cur, e1, hb, r⟩
    · exact .inl h
    · exact .inr ⟨g, cap, cur, e1, by omega, r⟩
  · rcases hS b hb with h | h | h
    · exact .inl fun hm => by have := hms b hm; omega
    · exact .inl fun hm => by have := hms b hm; omega
    · exact .inr h
theorem OutV.lt {g1 : Nat} {ms : List Nat} {W : World} {fv : Value} {xss : List (List Int)} (h : OutV g1 ms W fv xss) {b : Nat} (hb : fv.ownBlock = some b) : g1 ≤ b ∧ b < W.heap.size :=
  let ⟨_, _, _, h3, _⟩ := h; ownsRow_ownBlock h3 hb

/-- Rows, each in a block of its own. -/
def RowsD (B : Nat) (w : World) (v : Value) (rows : List (List Int)) : Prop :=
  ∃ ao cap, v = .slice ao rows.length cap ∧ (rows.length ≤ cap ∧ cap ≤ 9223372036854775807 ∧ (ao = none → cap = 0)) ∧ ∃ gs : List Nat, gs.Nodup ∧ gs.length = rows.length ∧
    ∀ (i : Nat) r, rows[i]? = some r → ∃ g b c, ao = some ⟨g, 0, none⟩ ∧ gs[i]? = some b ∧ (B ≤ g ∧ g < w.heap.size) ∧ (B ≤ b ∧ b < w.heap.size) ∧ g ∉ gs ∧ w.cell? ⟨g, i, none⟩ = some (.slice (some ⟨b, 0, none⟩) r.length c) ∧
      (r.length ≤ c ∧ c ≤ 9223372036854775807) ∧ (∀ j, w.frozen? ⟨g, j, none⟩ = false) ∧ (∀ j, w.frozen? ⟨b, j, none⟩ = false) ∧ ∀ (j : Nat) y, r[j]? = some y → w.cell? ⟨b, j, none⟩ = some (.int .i64 y)
theorem OutV.d {g1 : Nat} {ms : List Nat} {W : World} {fv : Value} {xss : List (List Int)} (h : OutV g1 ms W fv xss) {B : Nat} (hB : B ≤ g1) (hms : ∀ m ∈ ms, B ≤ m ∧ m < W.heap.size) : RowsD B W fv xss := by
  have hG := h.g hB hms
  obtain ⟨ao, cap, rfl, hl⟩ := hG.slice
  obtain ⟨css, h1, h2, h3, h4, h5, gs, j1, j2, j3, j4⟩ := h
  refine ⟨ao, cap, rfl, hl, gs, j1, by omega, fun i r hi => ?_⟩
  have hil := (List.getElem?_eq_some_iff.1 hi).1
  obtain ⟨b, hb⟩ := get_some (xs := gs) (k := i) (by omega)
  obtain ⟨n, c, hcs⟩ := j4 i b hb
  have hbm := j3 b (List.mem_of_getElem? hb)
  obtain ⟨u, e1, hn⟩ := h5 i _ r hcs hi [] (by simp)
  cases e1
  obtain ⟨ao', c', e2, hl2, hc2⟩ := hn
  cases e2
  rcases h3.2 with ⟨e1, h5⟩ | ⟨g, cap', cur, e1, hgB, hg, h6, h7, h8, h9⟩
  · simp only [Value.slice.injEq] at e1; omega
  · cases e1
    refine ⟨g, b, c, rfl, hb, ⟨by omega, lt_of_block hg⟩, ⟨(hms b hbm.1).1, hbm.2.1⟩, fun hm => (j3 g hm).2.2.1 rfl, ?_, ⟨hl2.1, hl2.2.1⟩, fun j => by simp [World.frozen?, hg], hbm.2.2.2, fun j y hy => ?_⟩
    · have e3 := flatten_get (fun cs hc => (h2 cs hc).1) hcs (j := 0) (by omega)
      rw [← h9, List.getElem?_take] at e3
      simp only [Nat.mul_one, Nat.add_zero, if_pos hil] at e3
      simp only [World.cell?, hg]; simpa using e3
    · obtain ⟨b', o', e4, _, hcell⟩ := hc2 j y hy
      cases e4
      simpa using hcell
theorem OutV.drop {g1 gr n c : Nat} {ms : List Nat} {W : World} {xss : List (List Int)} (h : OutV g1 (ms ++ [gr, g1]) W (.slice (some ⟨g1, 0, none⟩) n c) xss) : OutV g1 (ms ++ [gr]) W (.slice (some ⟨g1, 0, none⟩) n c) xss := by
  obtain ⟨css, h1, h2, h3, h4, h5, gs, j1, j2, j3, j4⟩ := h
  refine ⟨css, h1, h2, h3, fun b hb => by simp [Value.ownBlock] at hb; exact .inl hb.symm, fun i cs x hi hx S hS => h5 i cs x hi hx S fun b hb => ?_, gs, j1, j2, fun g hgm => ?_, j4⟩
  rotate_left
  · obtain ⟨k1, k2, k3, k4⟩ := j3 g hgm
    have hne : g ≠ g1 := fun e => k3 (by rw [e]; rfl)
    refine ⟨?_, k2, k3, k4⟩
    simp at k1 ⊢
    rcases k1 with h | h | h
    · exact .inl h
    · exact .inr h
    · exact absurd h hne
  rcases hS b hb with h | h
  · by_cases hbg : b = g1
    · exact .inr (by rw [hbg]; rfl)
    · exact .inl (by simp at h ⊢; exact ⟨h.1, h.2, hbg⟩)
  · exact .inr h
theorem OwnC.ne {B g n cap : Nat} {w : World} {e : TypeId} {xs : List Int} (h : OwnC B w e (.slice (some ⟨g, 0, none⟩) n cap) xs) {S : List Nat} (hS : g ∉ S) : Nums S w .i64 (.slice (some ⟨g, 0, none⟩) n cap) xs := by
  obtain ⟨ao, c', e1, hb, _⟩ := h.nums' (S := []) (by simp)
  cases e1
  exact ⟨_, _, rfl, hb, fun i x hi => ⟨g, 0, rfl, hS, by rw [Nat.zero_add]; exact (h.at hi).1⟩⟩

end Go.Proofs.YtilcicoekpmelaaDoor
