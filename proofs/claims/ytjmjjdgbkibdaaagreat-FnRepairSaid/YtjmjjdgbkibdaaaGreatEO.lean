/-
  How a model and a constraint that came in as arguments are read.
-/
import Derived.Test.YtjmjjdgbkibdaaaGreatEM
import Derived.Test.YtjmjjdgbkibdaaaGreatA
import Derived.Test.YtjmjjdgbkibdaaaGreatOpen
import Derived.Deep.Slices
import Derived.ChangeArms
set_option linter.unusedVariables false
namespace Go.Proofs.YtjmjjdgbkibdaaaGreat
open Go.RowKit Go.ChangeShapes Go.WideShapes

theorem list5 {α : Type} {l : List α} (h : l.length = 5) : ∃ a b c d e, l = [a, b, c, d, e] := by
  match l, h with
  | [a, b, c, d, e], _ => exact ⟨a, b, c, d, e, rfl⟩
instance : Inhabited Con := ⟨⟨0, [], [], 0, []⟩⟩
theorem addr_plain {a : Addr} (h : a.spot = none) : a = ⟨a.block, a.off, none⟩ := by cases a; simp_all
section
variable {H : Type} {enc : TypeId × Value → H} {W : World} {held : Bool}

theorem open_nums {fuel : Nat} {u : Value} {x : DataW H × List MemPlace} (h : DataW.trod enc Tryz.prog W 0 (fun _ => true) held fuel 22 [u] = some x) : ∃ xs, Nums [] W .i64 u xs := by
  rcases open_ints Tryz.underlying22 Tryz.underlying3 (by kernel_rfl) h with ⟨hcs, _⟩ | ⟨a, l, c, zs, hcs, _, hl, hm, hz, _, hcell, hwz⟩
  · cases hcs
    exact ⟨[], none, 0, rfl, by simp, fun i x hi => by simp at hi⟩
  · cases hcs
    obtain ⟨xs, rfl, hb, hc, _⟩ := row_open (k := .i64) (w := W) (ao := some a) (len := l) (cap := c) (zs := zs) (.inr ⟨_, rfl, hl, hm, by simpa using hz, hcell, hwz⟩)
    exact ⟨xs, some a, c, rfl, hb, hc⟩

theorem open_rows {fuel : Nat} {u : Value} {x : DataW H × List MemPlace} (h : DataW.trod enc Tryz.prog W 0 (fun _ => true) held fuel 41 [u] = some x) : ∃ rows, RowsV [] W u rows := by
  rcases Go.Deep.open_slice1 Tryz.underlying41 (by kernel_rfl) h with ⟨hcs, _⟩ | ⟨a, len, cap, m, n, V, D, Pl, hcs, _, hl, hm, hmm, _, hx⟩
  · cases hcs
    exact ⟨[], none, 0, rfl, by simp, fun i x hi => by simp at hi⟩
  · cases hcs
    simp only [if_true] at hmm
    have hmm' := hmm.symm
    subst hmm'
    obtain ⟨f, hf⟩ := Go.Deep.choose_lt (n := len) (p := fun i r => Nums [] W .i64 (V i) r) (fun i hi => open_nums (hx i (by omega)).2)
    refine ⟨(List.range len).map f, some a, cap, by simp, ⟨by simpa using hl, by simpa [maxLen] using hm, by simp⟩, fun i r hi => ?_⟩
    have hil : i < len := by have := (List.getElem?_eq_some_iff.1 hi).1; simpa using this
    have hr : r = f i := by
      rw [List.getElem?_map, List.getElem?_range hil] at hi
      simpa using hi.symm
    subst hr
    have h1 := (hx i (by omega)).1
    have h0 := spot_none (hx 0 (by omega)).1
    simp [Addr.add] at h0
    rw [addr_plain h0, addr_add] at h1
    exact ⟨a.block, a.off, V i, by rw [← addr_plain h0], by simp, h1, hf i hil⟩

theorem cells1 : Tryz.prog.cellsOf 3 = 1 := by kernel_rfl
theorem cells2 : Tryz.prog.cellsOf 22 = 1 := by kernel_rfl
theorem cells3 : Tryz.prog.cellsOf 41 = 1 := by kernel_rfl
theorem cells5 : Tryz.prog.cellsOf 115 = 5 := by kernel_rfl

set_option maxRecDepth 100000
def ConL (W : World) (cs : List Value) (c : Con) : Prop := ∃ vv av rv, cs = [.int .i64 c.kind, vv, av, .int .i64 c.bound, rv] ∧ Nums [] W .i64 vv c.vars ∧ Nums [] W .i64 av c.args ∧ RowsV [] W rv c.rows
theorem open_con {fuel : Nat} {cs : List Value} {x : DataW H × List MemPlace} (h : DataW.trod enc Tryz.prog W 0 (fun _ => true) held fuel 115 cs = some x) : ∃ c, ConL W cs c := by
  obtain ⟨xs, n, _, _, hl, hlen, hf⟩ := DataW.trod_struct Tryz.underlying115 h
  rw [cells5] at hl
  obtain ⟨c0, c1, c2, c3, c4, rfl⟩ := list5 hl
  obtain ⟨x0, x1, x2, x3, x4, rfl⟩ := list5 (hlen.trans rfl)
  have f0 := hf 0 _ rfl
  have f1 := hf 1 _ rfl
  have f2 := hf 2 _ rfl
  have f3 := hf 3 _ rfl
  have f4 := hf 4 _ rfl
  simp only [List.getElem?_cons_zero, List.getElem?_cons_succ] at f0 f1 f2 f3 f4
  obtain ⟨k, hk, _, _⟩ := DataW.trod_int Tryz.underlying3 f0
  obtain ⟨b, hb, _, _⟩ := DataW.trod_int Tryz.underlying3 f3
  cases hk; cases hb
  obtain ⟨vs, hv⟩ := open_nums f1
  obtain ⟨ars, ha⟩ := open_nums f2
  obtain ⟨rs, hr⟩ := open_rows f4
  exact ⟨⟨k, vs, ars, b, rs⟩, c1, c2, c4, rfl, hv, ha, hr⟩

theorem open_conss {fuel : Nat} {u : Value} {x : DataW H × List MemPlace} (h : DataW.trod enc Tryz.prog W 0 (fun _ => true) held fuel 23 [u] = some x) : ∃ cs, ConsV [] W u cs := by
  rcases Go.Deep.open_slice Tryz.underlying23 h with ⟨hcs, _⟩ | ⟨a, len, cap, m, n, D, Pl, hcs, _, hl, hm, hmm, _, hx⟩
  · cases hcs
    exact ⟨[], none, 0, rfl, by simp, fun i x hi => by simp at hi⟩
  · cases hcs
    simp only [if_true] at hmm
    have hmm' := hmm.symm
    subst hmm'
    obtain ⟨f, hf⟩ := Go.Deep.choose_lt (n := len) (p := fun i (y : List Value × Con) => W.cells? 0 (a.add (i * 5)) 5 = some y.1 ∧ ConL W y.1 y.2) (fun i hi => by
      obtain ⟨cs', h1, h2⟩ := hx i (by omega)
      rw [cells5] at h1
      obtain ⟨c, hc⟩ := open_con h2
      exact ⟨(cs', c), h1, hc⟩)
    refine ⟨(List.range len).map fun i => (f i).2, some a, cap, by simp, ⟨by simpa using hl, by simpa [maxLen] using hm, by simp⟩, fun i r hi => ?_⟩
    have hil : i < len := by have := (List.getElem?_eq_some_iff.1 hi).1; simpa using this
    have hr : r = (f i).2 := by
      rw [List.getElem?_map, List.getElem?_range hil] at hi
      simpa using hi.symm
    subst hr
    obtain ⟨hc, vv, av, rv, e, n1, n2, n3⟩ := hf i hil
    obtain ⟨_, _, hcell⟩ := World.cells?_some hc
    rw [e] at hcell
    have hs : a.spot = none := by
      obtain ⟨hc', vv', av', rv', e', _⟩ := hf 0 (by omega)
      obtain ⟨_, _, hcell'⟩ := World.cells?_some hc'
      rw [e'] at hcell'
      have := spot_none ((hcell' 0 (by omega)).trans rfl)
      simpa [Addr.add] using this
    have ha := addr_plain hs
    rw [ha] at hcell
    have each : ∀ j, j < 5 → W.cell? ⟨a.block, a.off + i * 5 + j, none⟩ = [Value.int .i64 (f i).2.kind, vv, av, .int .i64 (f i).2.bound, rv][j]? := fun j hj => by
      have := hcell j hj
      rwa [addr_add, addr_add] at this
    exact ⟨a.block, a.off, vv, av, rv, by rw [← ha], by simp, ⟨by simpa using each 0 (by omega), each 1 (by omega), each 2 (by omega), each 3 (by omega), each 4 (by omega)⟩, n1, n2, n3⟩

theorem open_modelv {r : Reach} {b0 : Nat} {v : Value} {d : DataW H} {p : List MemPlace} (hv : Value.okWide Tryz.prog W r b0 25 v) (h : DataW.Trod enc Tryz.prog W 0 (fun _ => true) held 25 v d p) : ∃ m, ModV [] W v m := by
  obtain ⟨v0, v1, y0, y1, n, rfl, _, _, h0, h1⟩ := Go.Joins.open_agg2 Tryz.underlying25 (by kernel_rfl) (by kernel_rfl) hv h
  obtain ⟨ds, hd⟩ := open_nums h0
  obtain ⟨cs, hc⟩ := open_conss h1
  exact ⟨⟨ds, cs⟩, v0, v1, rfl, hd, hc⟩
end
end Go.Proofs.YtjmjjdgbkibdaaaGreat
