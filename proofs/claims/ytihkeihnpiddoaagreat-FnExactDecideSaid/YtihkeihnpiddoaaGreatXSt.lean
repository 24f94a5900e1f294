/-
  Stores as plain data; how they are read in memory; walks of the laws' comparisons of stores, and of new stores, of the program's and of the reference's.
-/
import Derived.Test.YtihkeihnpiddoaaGreatXCq
import Derived.Test.YtihkeihnpiddoaaGreatXSy4ToIsB
import Derived.Test.YtihkeihnpiddoaaGreatXLtStP
import Derived.Test.YtihkeihnpiddoaaGreatXSy1ToRe
set_option linter.unusedVariables false
set_option linter.unusedSimpArgs false
namespace Go.Proofs.YtihkeihnpiddoaaGreat
open Go.RowKit

structure Sto where
  mod : Mod
  lv : List (List Int)
def StoV (S : List Nat) (w : World) (v : Value) (s : Sto) : Prop :=
  ∃ dv cv lv, v = .agg #[dv, cv, lv] ∧ Nums S w .i64 dv s.mod.doms ∧ ConsV S w cv s.mod.cons ∧ RowsV S w lv s.lv
theorem StoV.gr {S : List Nat} {w w' : World} {v : Value} {s : Sto} (h : StoV S w v s) (hg : Gr S w w') : StoV S w' v s :=
  let ⟨dv, cv, lv, e, h1, h2, h3⟩ := h; ⟨dv, cv, lv, e, h1.gr hg, h2.gr hg, h3.gr hg⟩
theorem StoV.sub {S S' : List Nat} {w : World} {v : Value} {s : Sto} (h : StoV S w v s) (hs : ∀ b, b < w.heap.size → b ∈ S' → b ∈ S) : StoV S' w v s :=
  let ⟨dv, cv, lv, e, h1, h2, h3⟩ := h; ⟨dv, cv, lv, e, h1.sub hs, h2.sub hs, h3.sub hs⟩
theorem RowsV.slice {S : List Nat} {w : World} {v : Value} {rows : List (List Int)} (h : RowsV S w v rows) : ∃ a b, v = .slice a rows.length b := by
  obtain ⟨ao, cap, e, -, -⟩ := h; exact ⟨ao, cap, e⟩
theorem StoV.open {S : List Nat} {w : World} {v : Value} {s : Sto} (h : StoV S w v s) :
    ∃ xo xc co cc lo lc, v = .agg #[.slice xo s.mod.doms.length xc, .slice co s.mod.cons.length cc, .slice lo s.lv.length lc] ∧
      ModV S w (.agg #[.slice xo s.mod.doms.length xc, .slice co s.mod.cons.length cc]) s.mod ∧ RowsV S w (.slice lo s.lv.length lc) s.lv := by
  obtain ⟨dv, cv, lv, rfl, h1, h2, h3⟩ := h
  obtain ⟨xo, xc, rfl, -, -⟩ := id h1
  obtain ⟨co, cc, rfl, -, -⟩ := id h2
  obtain ⟨lo, lc, rfl⟩ := h3.slice
  exact ⟨xo, xc, co, cc, lo, lc, rfl, ⟨_, _, rfl, h1, h2⟩, h3⟩
theorem StoV.mk {S : List Nat} {w : World} {dv cv lv : Value} {s : Sto} (h : ModV S w (.agg #[dv, cv]) s.mod) (hl : RowsV S w lv s.lv) : StoV S w (.agg #[dv, cv, lv]) s := by
  obtain ⟨h1, h2⟩ := h.parts
  exact ⟨_, _, _, rfl, h1, h2, hl⟩
def zeroSto : Sto := ⟨⟨[], []⟩, []⟩
theorem StoV.zero (S : List Nat) (w : World) : StoV S w (.agg #[.slice none 0 0, .slice none 0 0, .slice none 0 0]) zeroSto :=
  ⟨_, _, _, rfl, ⟨none, 0, rfl, by simp [zeroSto], fun i x h => by simp [zeroSto] at h⟩, ⟨none, 0, rfl, by simp [zeroSto], fun i x h => by simp [zeroSto] at h⟩, ⟨none, 0, rfl, by simp [zeroSto], fun i x h => by simp [zeroSto] at h⟩⟩
/-- A store of moderate size. -/
structure Sto.Small (s : Sto) : Prop where
  mod : s.mod.Small
  lv : s.lv.length ≤ 2000000
  row : ∀ r ∈ s.lv, r.length ≤ 2000000

/-! ### The laws' comparisons -/






/-! ### New stores -/
theorem set3 {w : World} {r : Nat} {t : TypeId} {z0 z1 z2 : Value} (x0 x1 x2 : Value) (h : w.heap[r]? = some (.cells #[z0, z1, z2] t (0, 0))) :
    (((w.setCell ⟨r, 0, none⟩ x0).setCell ⟨r, 1, none⟩ x1).setCell ⟨r, 2, none⟩ x2).heap[r]? = some (.cells #[x0, x1, x2] t (0, 0)) ∧ Gr [r] w (((w.setCell ⟨r, 0, none⟩ x0).setCell ⟨r, 1, none⟩ x1).setCell ⟨r, 2, none⟩ x2) := by
  have h3 := block_cells (cur' := #[]) (block_cells (cur' := #[]) (block_cells (cur' := #[]) h 0 x0) 1 x1) 2 x2
  exact ⟨by simpa using h3, (((Gr.refl _ _).setCell _ _ (.inl (by simp))).setCell _ _ (.inl (by simp))).setCell _ _ (.inl (by simp))⟩
theorem rows_le {c : Con} {n : Nat} (h : VC c n) : c.rows.length ≤ 1000 := by
  have hf := h.fits
  by_cases h0 : 1 ≤ c.kind ∧ c.kind ≤ 9
  · have : c.kind = 1 ∨ c.kind = 2 ∨ (c.kind = 3 ∨ c.kind = 9) ∨ c.kind = 4 ∨ c.kind = 5 ∨ c.kind = 6 ∨ c.kind = 7 ∨ c.kind = 8 := by omega
    rcases this with h | h | h | h | h | h | h | h
    · rw [fitsB_1 h] at hf; simp only [Bool.and_eq_true, beq_iff_eq] at hf; omega
    · rw [fitsB_2 h] at hf; simp only [Bool.and_eq_true, beq_iff_eq] at hf; omega
    · rw [fitsB_3 h] at hf; simp only [Bool.and_eq_true, beq_iff_eq] at hf; omega
    · rw [fitsB_4 h] at hf; simp only [Bool.and_eq_true, beq_iff_eq] at hf; omega
    · rw [fitsB_5 h, Bool.and_eq_true] at hf; have := rowsIn_pos hf.2; omega
    · rw [fitsB_6 h] at hf; simp only [Bool.and_eq_true, beq_iff_eq] at hf; omega
    · rw [fitsB_7 h] at hf; simp only [Bool.and_eq_true, beq_iff_eq] at hf; omega
    · rw [fitsB_8 h, Bool.and_eq_true, Bool.and_eq_true, Bool.and_eq_true] at hf; have := rowsIn_pos hf.1.1.1; omega
  · rw [fitsB_0 h0] at hf; cases hf


end Go.Proofs.YtihkeihnpiddoaaGreat
