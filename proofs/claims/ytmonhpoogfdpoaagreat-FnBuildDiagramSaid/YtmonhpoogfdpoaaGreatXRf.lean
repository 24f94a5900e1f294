/-
  Walks of the program's DiagramCount and DiagramDomains.
-/
import Derived.Test.YtmonhpoogfdpoaaGreatXRd
import Derived.Test.YtmonhpoogfdpoaaGreatXBm
set_option linter.unusedVariables false
set_option linter.unusedSimpArgs false
namespace Go.Proofs.YtmonhpoogfdpoaaGreat
open Go.RowKit

theorem DiagramCount_c (d : List (List (List Int))) (dv : Value) (p : Nat) (w : World) (hx : DgV [] w dv d) (hd : ValD d) (hp : ((pathsP d).headD [])[0]? = some p) :
    Calls Tryz.prog 12 #[dv] w fun e w' => e = .returned (.int .i64 (p : Int)) ∧ Gr [] w w' := by
  have Hx := hid hx; have HD := hid hd; have Hp := hid hp
  have hlen := hd.len
  obtain ⟨do', dc, rfl, ⟨h1, h2, -⟩, -⟩ := hx
  clear hd hp
  go_enter Tryz.func12, Tryz.ntmps12
  go_wp2_with fail
  have hcall := ValidDiagram_c d _ _ Hx.out HD.out
  (with_reducible refine hcall.mono ?_)
  clear hcall
  rintro e w1 ⟨rfl, hg1⟩
  have Hg1 := hid hg1
  clear hg1
  go_wp2_with fail
  have hcall := pathsRows_c d _ _ (Hx.out.gr Hg1.out) HD.out
  (with_reducible refine hcall.mono ?_)
  clear hcall
  rintro e w2 ⟨v, rfl, hr, hg2⟩
  have hlp := pathsP_len d
  have h0 : ((pathsP d).map ints)[0]? = some (ints ((pathsP d).headD [])) := by
    cases hq : pathsP d with
    | nil => rw [hq] at hlp; simp at hlp
    | cons a r => simp
  obtain ⟨vo, vc, rfl, ⟨hv1, hv2, -⟩, -⟩ := id hr
  obtain ⟨b, o, uo, uc, rfl, -, hc, ⟨hu1, hu2⟩, hn⟩ := hr.at3 h0
  have h00 : (ints ((pathsP d).headD []))[0]? = some (p : Int) := by rw [ints_get, Hp.out]; rfl
  obtain ⟨b2, o2, rfl, -, hc2⟩ := hn.at h00
  have hul : 0 < (ints ((pathsP d).headD [])).length := (List.getElem?_eq_some_iff.1 h00).1
  have hvl : 0 < ((pathsP d).map ints).length := by rw [List.length_map, hlp]; omega
  obtain ⟨ul, hule⟩ : ∃ ul, ul = (ints ((pathsP d).headD [])).length := ⟨_, rfl⟩
  obtain ⟨vl, hvle⟩ : ∃ vl, vl = ((pathsP d).map ints).length := ⟨_, rfl⟩
  rw [← hule] at hc hu1 hul
  rw [← hvle] at hv1 hvl ⊢
  rw [Nat.add_zero] at hc hc2
  have Hg2 := hid (Hg1.out.trans hg2)
  clear hr hn h0 h00 hlp hule hvle hg2
  go_wp2_with fail
  go_ret
  exact ⟨rfl, Hg2.out⟩

/-! ### Maps from a number to a Boolean -/
def esI (xs : List Int) : List MapEntry := xs.zipIdx.map fun e => ⟨.int .i64 e.1, .bool true, e.2⟩
def SmI (x : Int) : Prop := -1 ≤ x ∧ x ≤ 1000000
theorem kI : Go.Maps.Keyed Tryz.prog 3 := Go.Maps.int_keyed Tryz.underlying3
theorem keyLitI {x : Int} (h : SmI x) : keyOf Tryz.prog 3 (.int .i64 x) = some (.int .i64 x) :=
  Go.Maps.keyOf_int_mk Tryz.underlying3 (by
    have e1 : IntKind.i64.min = -9223372036854775808 := by rfl
    have e2 : IntKind.i64.max = 9223372036854775807 := by rfl
    have := h
    unfold SmI at this
    simp [Lit.wf, e1, e2]
    omega)
theorem esI_lit {xs : List Int} (h : ∀ x ∈ xs, SmI x) : ∀ e ∈ esI xs, ∃ l, keyOf Tryz.prog 3 e.key = some l := by
  intro e he
  unfold esI at he
  obtain ⟨⟨r, k⟩, hr, rfl⟩ := List.mem_map.1 he
  exact ⟨_, keyLitI (h r (List.mem_of_getElem? ((List.mem_zipIdx_iff_getElem?).1 hr)))⟩
theorem esI_get (xs : List Int) (j : Nat) : (esI xs)[j]? = (xs[j]?).map fun r => ⟨.int .i64 r, .bool true, j⟩ := by
  unfold esI
  rw [List.getElem?_map, List.getElem?_zipIdx]
  cases xs[j]? <;> simp
theorem esI_snoc (xs : List Int) (r : Int) : esI (xs ++ [r]) = esI xs ++ [⟨.int .i64 r, .bool true, xs.length⟩] := by
  unfold esI
  rw [List.zipIdx_append]
  simp
theorem lookupI (w : World) (m : Nat) (xs : List Int) (x : Int) (hb : w.heap[m]? = some (.map (esI xs).toArray xs.length)) (hr : ∀ x ∈ xs, SmI x) (hk : SmI x) :
    (Instr.lookup 61 (.map (some m)) (.int .i64 x) false).run Tryz.prog w = .ok (.bool (decide (x ∈ xs))) w := by
  have ht := Tryz.underlying61
  have hz := Tryz.zeroValue4 w
  have hl := keyLitI hk
  have hc := fun em => kI.check w em hl
  rcases kI.find w hl (esI xs) (esI_lit hr) with ⟨h1, h2⟩ | ⟨j, e, h1, h2, h3⟩
  · have hni : x ∉ xs := fun hm => by
      obtain ⟨j, hj⟩ := List.mem_iff_getElem?.1 hm
      have := esI_get xs j
      rw [hj] at this
      exact h2 _ (List.mem_of_getElem? this) rfl
    rw [decide_eq_false hni]
    simp [Instr.lookup, run_underlying ht, MapKept.run_getObj_map hb, hc, h1, Result.andThen, hz]
  · rw [esI_get] at h2
    obtain ⟨r, hj, rfl⟩ := Option.map_eq_some_iff.1 h2
    have er : r = x := by simpa using h3
    subst er
    rw [decide_eq_true (List.mem_of_getElem? hj)]
    simp [Instr.lookup, run_underlying ht, MapKept.run_getObj_map hb, hc, h1, Result.andThen, hz]
theorem storeI (w : World) (m : Nat) (xs : List Int) (x : Int) (hb : w.heap[m]? = some (.map (esI xs).toArray xs.length)) (hr : ∀ x ∈ xs, SmI x) (hk : SmI x) (hl : xs.length ≤ 1000000) :
    (Instr.mapUpdate 61 (.map (some m)) (.int .i64 x) (.bool true)).run Tryz.prog w = .ok () { w with heap := w.heap.setIfInBounds m (.map (esI (insI xs x)).toArray (insI xs x).length) } := by
  have ht := Tryz.underlying61
  have hkl := keyLitI hk
  have hc := kI.check w false hkl
  rcases kI.find w hkl (esI xs) (esI_lit hr) with ⟨h1, h2⟩ | ⟨j, e, h1, h2, h3⟩
  · have hni : x ∉ xs := fun hm => by
      obtain ⟨j, hj⟩ := List.mem_iff_getElem?.1 hm
      have := esI_get xs j
      rw [hj] at this
      exact h2 _ (List.mem_of_getElem? this) rfl
    have hi : insI xs x = xs ++ [x] := by unfold insI; rw [if_neg hni]
    rw [hi]
    simp [Instr.mapUpdate, run_underlying ht, MapKept.run_getObj_map hb, hc, h1, MapKept.run_setObj_map _ hb, Result.andThen, maxLen, esI_snoc]
  · rw [esI_get] at h2
    obtain ⟨r, hj, rfl⟩ := Option.map_eq_some_iff.1 h2
    have er : r = x := by simpa using h3
    subst er
    have hi : insI xs r = xs := by unfold insI; rw [if_pos (List.mem_of_getElem? hj)]
    rw [hi]
    simp [Instr.mapUpdate, run_underlying ht, MapKept.run_getObj_map hb, hc, h1, MapKept.run_setObj_map _ hb, Result.andThen, maxLen]
    have hs : (Instr.keyThatStays (.int .i64 r) (.int .i64 r)).run Tryz.prog w = .ok (.int .i64 r) w := kI.stays w hkl
    have hm : (esI xs).modify j (fun e => { key := .int .i64 r, val := Value.bool true, born := e.born }) = esI xs := by
      refine List.ext_getElem? fun i => ?_
      rw [List.getElem?_modify]
      by_cases hij : j = i
      · subst hij
        rw [esI_get, hj]; simp
      · simp only [if_neg hij]; cases (esI xs)[i]? <;> rfl
    have hg : (Option.map (fun x : MapEntry => x.key) (esI xs)[j]?).getD (Value.int IntKind.i64 r) = .int .i64 r := by rw [esI_get, hj]; rfl
    rw [hg, hs]
    simp only [hm]
    simp [MapKept.run_setObj_map _ hb]
end Go.Proofs.YtmonhpoogfdpoaaGreat
