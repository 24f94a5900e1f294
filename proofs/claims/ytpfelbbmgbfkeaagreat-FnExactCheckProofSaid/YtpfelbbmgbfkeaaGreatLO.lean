/-
  How lists of literals that came in as an argument are read.
-/
import Derived.Test.YtpfelbbmgbfkeaaGreatLE
import Derived.Test.YtpfelbbmgbfkeaaGreatEO
import Derived.Lib.SmallJoins
import Derived.Deep.Slices
import Derived.ChangeArms
set_option linter.unusedVariables false
set_option linter.unusedSimpArgs false
namespace Go.Proofs.YtpfelbbmgbfkeaaGreat
open Go.RowKit Go.ChangeShapes Go.WideShapes

theorem list3 {α : Type} {l : List α} (h : l.length = 3) : ∃ a b c, l = [a, b, c] := by
  match l, h with
  | [a, b, c], _ => exact ⟨a, b, c, rfl⟩
section
variable {H : Type} {enc : TypeId × Value → H} {W : World} {held : Bool}
theorem cellsL3 : Tryz.prog.cellsOf 49 = 3 := by kernel_rfl
theorem cellsL1 : Tryz.prog.cellsOf 3 = 1 := by kernel_rfl
theorem cellsLb : Tryz.prog.cellsOf 4 = 1 := by kernel_rfl
set_option maxRecDepth 100000
theorem open_lit {fuel : Nat} {cs : List Value} {x : DataW H × List MemPlace} (h : DataW.trod enc Tryz.prog W 0 (fun _ => true) held fuel 49 cs = some x) : ∃ l, cs = litC l := by
  obtain ⟨xs, n, _, _, hl, hlen, hf⟩ := DataW.trod_struct Tryz.underlying49 h
  rw [cellsL3] at hl
  obtain ⟨c0, c1, c2, rfl⟩ := list3 hl
  obtain ⟨x0, x1, x2, rfl⟩ := list3 (hlen.trans rfl)
  have f0 := hf 0 _ rfl
  have f1 := hf 1 _ rfl
  have f2 := hf 2 _ rfl
  simp only [List.getElem?_cons_zero, List.getElem?_cons_succ, cellsL1, cellsLb, List.drop_zero, List.drop_succ_cons, List.take_succ_cons, List.take_zero] at f0 f1 f2
  obtain ⟨a, ha, _, _⟩ := DataW.trod_int Tryz.underlying3 f0
  obtain ⟨b, hb, _, _⟩ := DataW.trod_int Tryz.underlying3 f1
  obtain ⟨c, hc, _⟩ := DataW.trod_bool Tryz.underlying4 f2
  cases ha; cases hb; cases hc
  exact ⟨⟨a, b, c⟩, rfl⟩
theorem open_lits {fuel : Nat} {u : Value} {x : DataW H × List MemPlace} (h : DataW.trod enc Tryz.prog W 0 (fun _ => true) held fuel 65 [u] = some x) : ∃ ls, LitsV [] W u ls := by
  rcases Go.Deep.open_slice Tryz.underlying65 h with ⟨hcs, _⟩ | ⟨a, len, cap, m, n, D, Pl, hcs, _, hl, hm, hmm, _, hx⟩
  · cases hcs
    exact ⟨[], none, 0, rfl, by simp, fun i x hi => by simp at hi⟩
  · cases hcs
    simp only [if_true] at hmm
    have hmm' := hmm.symm
    subst hmm'
    obtain ⟨f, hf⟩ := Go.Deep.choose_lt (n := len) (p := fun i (y : List Value × Lit) => W.cells? 0 (a.add (i * 3)) 3 = some y.1 ∧ y.1 = litC y.2) (fun i hi => by
      obtain ⟨cs', h1, h2⟩ := hx i (by omega)
      rw [cellsL3] at h1
      obtain ⟨c, hc⟩ := open_lit h2
      exact ⟨(cs', c), h1, hc⟩)
    refine ⟨(List.range len).map fun i => (f i).2, some a, cap, by simp, ⟨by simpa using hl, by simpa [maxLen] using hm, by simp⟩, fun i r hi => ?_⟩
    have hil : i < len := by have := (List.getElem?_eq_some_iff.1 hi).1; simpa using this
    have hr : r = (f i).2 := by
      rw [List.getElem?_map, List.getElem?_range hil] at hi
      simpa using hi.symm
    subst hr
    obtain ⟨hc, e⟩ := hf i hil
    obtain ⟨_, _, hcell⟩ := World.cells?_some hc
    rw [e] at hcell
    have hs : a.spot = none := by
      obtain ⟨hc', e'⟩ := hf 0 (by omega)
      obtain ⟨_, _, hcell'⟩ := World.cells?_some hc'
      rw [e'] at hcell'
      have := spot_none ((hcell' 0 (by omega)).trans rfl)
      simpa [Addr.add] using this
    have ha := addr_plain hs
    rw [ha] at hcell
    have each : ∀ j, j < 3 → W.cell? ⟨a.block, a.off + i * 3 + j, none⟩ = (litC (f i).2)[j]? := fun j hj => by
      have := hcell j hj
      rwa [addr_add, addr_add] at this
    exact ⟨a.block, a.off, by rw [← ha], by simp, (by have := each 0 (by omega); rw [Nat.add_zero] at this; exact this), each 1 (by omega), each 2 (by omega)⟩
end
end Go.Proofs.YtpfelbbmgbfkeaaGreat
