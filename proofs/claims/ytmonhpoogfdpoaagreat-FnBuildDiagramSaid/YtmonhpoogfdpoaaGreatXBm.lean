/-
  Maps whose keys are the six edges of a node: look-up and insertion.
-/
import Derived.Test.YtmonhpoogfdpoaaGreatXBe
import Derived.Test.YtmonhpoogfdpoaaGreatRows
import Derived.Laws.EntriesVeiled
import Derived.Maps.Keyed
import Derived.DeepKeys5
set_option linter.unusedVariables false
set_option linter.unusedSimpArgs false
namespace Go.Proofs.YtmonhpoogfdpoaaGreat
open Go.RowKit

def keyE (r : List Int) : Value := .agg (r.map (Value.int .i64)).toArray
def esOf (rows : List (List Int)) : List MapEntry := rows.zipIdx.map fun e => ⟨keyE e.1, .int .i64 (e.2 : Int), e.2⟩
/-- Six small numbers. -/
def Key6 (r : List Int) : Prop := r.length = 6 ∧ ∀ x ∈ r, -1 ≤ x ∧ x ≤ 1000000
theorem keyE_inj {a b : List Int} (h : keyE a = keyE b) : a = b := by
  unfold keyE at h
  simp only [Value.agg.injEq] at h
  have h2 : a.map (Value.int .i64) = b.map (Value.int .i64) := by simpa using h
  have h3 := congrArg (List.map intOf) h2
  simpa [List.map_map, Function.comp_def, intOf] using h3
theorem lits1 (d : Nat) (x : Int) (h : -1 ≤ x ∧ x ≤ 1000000) : Tryz.prog.keyLits (d + 1) 3 [.int .i64 x] = some [.int .i64 x] := by
  have hu := Tryz.underlying3
  have hw : (Lit.int .i64 x).wf = true := by
    have e1 : IntKind.i64.min = -9223372036854775808 := by rfl
    have e2 : IntKind.i64.max = 9223372036854775807 := by rfl
    simp [Lit.wf, e1, e2]
    omega
  simp [Program.keyLits, hu, hw]
theorem cellsI : Tryz.prog.cellsOf 3 = 1 := by kernel_rfl
theorem cellsEd : Tryz.prog.cellsOf 74 = 6 := by kernel_rfl
theorem lits6 (d : Nat) (r : List Int) (h : Key6 r) : ∃ L, Tryz.prog.keyLits (d + 2) 74 (r.map (Value.int .i64)) = some L := by
  obtain ⟨hl, hb⟩ := h
  match r, hl, hb with
  | [a, b, c, e, f, g], _, hb =>
    have hu := Tryz.underlying74
    have h1 := fun x hx => lits1 d x (hb x hx)
    have ha := h1 a (by simp); have hb' := h1 b (by simp); have hc := h1 c (by simp); have he := h1 e (by simp); have hf := h1 f (by simp); have hg := h1 g (by simp)
    refine ⟨[.int .i64 a, .int .i64 b, .int .i64 c, .int .i64 e, .int .i64 f, .int .i64 g], ?_⟩
    unfold Program.keyLits
    rw [hu]
    simp [cellsI, cellsEd, List.range_succ, ha, hb', hc, he, hf, hg]
theorem typesBig : 1 ≤ Tryz.prog.types.size := of_decide_eq_true (by kernel_rfl)
theorem keyLit {r : List Int} (h : Key6 r) : ∃ l, keyOf Tryz.prog 74 (keyE r) = some l := by
  have hu := Tryz.underlying74
  obtain ⟨d, hd⟩ : ∃ d, Tryz.prog.types.size + 1 = d + 2 := ⟨Tryz.prog.types.size - 1, by have := typesBig; omega⟩
  obtain ⟨L, hL⟩ := lits6 d r h
  have hk : Tryz.prog.keyType 74 = true := by kernel_rfl
  have hf : (keyE r).formed Tryz.prog 74 = true := by simp [keyE, Value.formed, hu, cellsEd, h.1]
  have hc : (keyE r).cells.toList = r.map (Value.int .i64) := by simp [keyE, Value.cells]
  refine ⟨.string (keyBytes L), ?_⟩
  unfold keyOf
  rw [hu]
  simp only [hk, hf, Bool.and_self, if_true]
  rw [hc, hd, hL]
  rfl
theorem keyLaw : WideMaps.KeyLaw Tryz.prog 74 :=
  deep_law_gate (by kernel_rfl) (of_decide_eq_true (by kernel_rfl)) (of_decide_eq_true (by kernel_rfl)) (by kernel_rfl) (by rw [Tryz.underlying74])
theorem esOf_lit {rows : List (List Int)} (h : ∀ r ∈ rows, Key6 r) : ∀ e ∈ esOf rows, ∃ l, keyOf Tryz.prog 74 e.key = some l := by
  intro e he
  unfold esOf at he
  obtain ⟨⟨r, k⟩, hr, rfl⟩ := List.mem_map.1 he
  exact keyLit (h r (List.mem_of_getElem? ((List.mem_zipIdx_iff_getElem?).1 hr)))
theorem esOf_get (rows : List (List Int)) (j : Nat) : (esOf rows)[j]? = (rows[j]?).map fun r => ⟨keyE r, .int .i64 (j : Int), j⟩ := by
  unfold esOf
  rw [List.getElem?_map, List.getElem?_zipIdx]
  cases rows[j]? <;> simp
theorem esOf_snoc (rows : List (List Int)) (r : List Int) : esOf (rows ++ [r]) = esOf rows ++ [⟨keyE r, .int .i64 (rows.length : Int), rows.length⟩] := by
  unfold esOf
  rw [List.zipIdx_append]
  simp
theorem lookup6 (w : World) (m : Nat) (rows : List (List Int)) (key : List Int) (hb : w.heap[m]? = some (.map (esOf rows).toArray rows.length)) (hr : ∀ r ∈ rows, Key6 r) (hk : Key6 key) (hn : rows.Nodup) :
    (Instr.lookup 53 (.map (some m)) (keyE key) true).run Tryz.prog w = .ok (.tuple #[.int .i64 (if key ∈ rows then (rows.idxOf key : Int) else 0), .bool (decide (key ∈ rows))]) w := by
  have ht := Tryz.underlying53
  have hz := Tryz.zeroValue3 w
  obtain ⟨l, hl⟩ := keyLit hk
  have hc := fun em => keyLaw.check w em hl
  rcases keyLaw.find w hl (esOf rows) (esOf_lit hr) with ⟨h1, h2⟩ | ⟨j, e, h1, h2, h3⟩
  · have hni : key ∉ rows := fun hm => by
      obtain ⟨j, hj⟩ := List.mem_iff_getElem?.1 hm
      have := esOf_get rows j
      rw [hj] at this
      exact h2 _ (List.mem_of_getElem? this) rfl
    rw [if_neg hni, decide_eq_false hni]
    simp [Instr.lookup, run_underlying ht, MapKept.run_getObj_map hb, hc, h1, Result.andThen, hz]
  · rw [esOf_get] at h2
    obtain ⟨r, hj, rfl⟩ := Option.map_eq_some_iff.1 h2
    have er := keyE_inj h3
    subst er
    have hm := List.mem_of_getElem? hj
    have hi : rows.idxOf r = j := by
      obtain ⟨hlt, e⟩ := List.getElem?_eq_some_iff.1 hj
      rw [← e, List.Nodup.idxOf_getElem hn j hlt]
    rw [if_pos hm, decide_eq_true hm, hi]
    simp [Instr.lookup, run_underlying ht, MapKept.run_getObj_map hb, hc, h1, Result.andThen, hz]
theorem insert6 (w : World) (m : Nat) (rows : List (List Int)) (key : List Int) (hb : w.heap[m]? = some (.map (esOf rows).toArray rows.length)) (hr : ∀ r ∈ rows, Key6 r) (hk : Key6 key) (hn : key ∉ rows) (hl : rows.length ≤ 1000000) :
    (Instr.mapUpdate 53 (.map (some m)) (keyE key) (.int .i64 (rows.length : Int))).run Tryz.prog w = .ok () { w with heap := w.heap.setIfInBounds m (.map (esOf (rows ++ [key])).toArray (rows ++ [key]).length) } := by
  have ht := Tryz.underlying53
  obtain ⟨l, hkl⟩ := keyLit hk
  have hc := keyLaw.check w false hkl
  rcases keyLaw.find w hkl (esOf rows) (esOf_lit hr) with ⟨h1, h2⟩ | ⟨j, e, h1, h2, h3⟩
  · simp [Instr.mapUpdate, run_underlying ht, MapKept.run_getObj_map hb, hc, h1, MapKept.run_setObj_map _ hb, Result.andThen, maxLen, esOf_snoc]
  · rw [esOf_get] at h2
    obtain ⟨r, hj, rfl⟩ := Option.map_eq_some_iff.1 h2
    exact absurd (keyE_inj h3 ▸ List.mem_of_getElem? hj) hn
end Go.Proofs.YtmonhpoogfdpoaaGreat
