/-
  How soft constraints that came in as an argument are read.
-/
import Derived.Test.YtngpcoilgilmjaaGreatSE
import Derived.Test.YtngpcoilgilmjaaGreatEO
import Derived.Lib.SmallJoins
import Derived.Deep.Slices
import Derived.ChangeArms
set_option linter.unusedVariables false
set_option linter.unusedSimpArgs false
namespace Go.Proofs.YtngpcoilgilmjaaGreat
open Go.RowKit Go.ChangeShapes Go.WideShapes

theorem list6 {α : Type} {l : List α} (h : l.length = 6) : ∃ a b c d e f, l = [a, b, c, d, e, f] := by
  match l, h with
  | [a, b, c, d, e, f], _ => exact ⟨a, b, c, d, e, f, rfl⟩
theorem list2 {α : Type} {l : List α} (h : l.length = 2) : ∃ a b, l = [a, b] := by
  match l, h with
  | [a, b], _ => exact ⟨a, b, rfl⟩
section
variable {H : Type} {enc : TypeId × Value → H} {W : World} {held : Bool}
theorem cells6 : Tryz.prog.cellsOf 98 = 6 := by kernel_rfl
theorem cells5' : Tryz.prog.cellsOf 96 = 5 := by kernel_rfl
theorem cells1' : Tryz.prog.cellsOf 3 = 1 := by kernel_rfl
def SftL (W : World) (cs : List Value) (s : Sft) : Prop := ∃ vv av rv, cs = [.int .i64 s.con.kind, vv, av, .int .i64 s.con.bound, rv, .int .i64 s.wt] ∧ Nums [] W .i64 vv s.con.vars ∧ Nums [] W .i64 av s.con.args ∧ RowsV [] W rv s.con.rows
set_option maxRecDepth 100000
theorem open_soft {fuel : Nat} {cs : List Value} {x : DataW H × List MemPlace} (h : DataW.trod enc Tryz.prog W 0 (fun _ => true) held fuel 98 cs = some x) : ∃ s, SftL W cs s := by
  obtain ⟨xs, n, _, _, hl, hlen, hf⟩ := DataW.trod_struct Tryz.underlying98 h
  rw [cells6] at hl
  obtain ⟨c0, c1, c2, c3, c4, c5, rfl⟩ := list6 hl
  obtain ⟨x0, x1, rfl⟩ := list2 (hlen.trans rfl)
  have f0 := hf 0 _ rfl
  have f1 := hf 1 _ rfl
  simp only [List.getElem?_cons_zero, List.getElem?_cons_succ, cells5', cells1', List.drop_zero, List.drop_succ_cons, List.take_succ_cons, List.take_zero] at f0 f1
  obtain ⟨c, vv, av, rv, e, n1, n2, n3⟩ := open_con f0
  obtain ⟨b, hb, _, _⟩ := DataW.trod_int Tryz.underlying3 f1
  cases hb
  cases e
  exact ⟨⟨c, b⟩, c1, c2, c4, rfl, n1, n2, n3⟩
theorem open_softs {fuel : Nat} {u : Value} {x : DataW H × List MemPlace} (h : DataW.trod enc Tryz.prog W 0 (fun _ => true) held fuel 46 [u] = some x) : ∃ ss, SftsV [] W u ss := by
  rcases Go.Deep.open_slice Tryz.underlying46 h with ⟨hcs, _⟩ | ⟨a, len, cap, m, n, D, Pl, hcs, _, hl, hm, hmm, _, hx⟩
  · cases hcs
    exact ⟨[], none, 0, rfl, by simp, fun i x hi => by simp at hi⟩
  · cases hcs
    simp only [if_true] at hmm
    have hmm' := hmm.symm
    subst hmm'
    obtain ⟨f, hf⟩ := Go.Deep.choose_lt (n := len) (p := fun i (y : List Value × Sft) => W.cells? 0 (a.add (i * 6)) 6 = some y.1 ∧ SftL W y.1 y.2) (fun i hi => by
      obtain ⟨cs', h1, h2⟩ := hx i (by omega)
      rw [cells6] at h1
      obtain ⟨c, hc⟩ := open_soft h2
      exact ⟨(cs', c), h1, hc⟩)
    refine ⟨(List.range len).map fun i => (f i).2, some a, cap, by simp, ⟨by simpa using hl, by simpa [maxLen] using hm, by simp⟩, fun i r hi => ?_⟩
    have hil : i < len := by have := (List.getElem?_eq_some_iff.1 hi).1; simpa using this
    have hr : r = (f i).2 := by
      rw [List.getElem?_map, List.getElem?_range hil] at hi
      simpa using hi.symm
    subst hr
    obtain ⟨hc, vv, av, rv, e, n1, n2, n3⟩ := hf i hil
    obtain ⟨_, _, hcell⟩ := World.cells?_some hc
    rw [e] at hcell
    have hs : a.spot = none := by
      obtain ⟨hc', vv', av', rv', e', _⟩ := hf 0 (by omega)
      obtain ⟨_, _, hcell'⟩ := World.cells?_some hc'
      rw [e'] at hcell'
      have := spot_none ((hcell' 0 (by omega)).trans rfl)
      simpa [Addr.add] using this
    have ha := addr_plain hs
    rw [ha] at hcell
    have each : ∀ j, j < 6 → W.cell? ⟨a.block, a.off + i * 6 + j, none⟩ = [Value.int .i64 (f i).2.con.kind, vv, av, .int .i64 (f i).2.con.bound, rv, .int .i64 (f i).2.wt][j]? := fun j hj => by
      have := hcell j hj
      rwa [addr_add, addr_add] at this
    exact ⟨a.block, a.off, vv, av, rv, by rw [← ha], by simp, ⟨by simpa using each 0 (by omega), each 1 (by omega), each 2 (by omega), each 3 (by omega), each 4 (by omega), each 5 (by omega)⟩, n1, n2, n3⟩
end
end Go.Proofs.YtngpcoilgilmjaaGreat
