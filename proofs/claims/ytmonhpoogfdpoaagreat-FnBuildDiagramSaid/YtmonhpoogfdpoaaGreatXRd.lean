/-
  Walk of the program's paths.
-/
import Derived.Test.YtmonhpoogfdpoaaGreatXRc
import Derived.Test.YtmonhpoogfdpoaaGreatXRz
set_option linter.unusedVariables false
set_option linter.unusedSimpArgs false
namespace Go.Proofs.YtmonhpoogfdpoaaGreat
open Go.RowKit
attribute [local go_sem] Oper.semAt_some

theorem Backward_c (ao : Option Addr) (n c : Nat) (w : World) :
    Calls Tryz.prog 58 #[.slice ao n c] w fun e w' => e = .returned (.func (.func 85) #[] #[.pointer (some ⟨w.heap.size, 0, none⟩)]) ∧ w' = w.alloc (.cells #[.slice ao n c] 29) := by
  go_enter Tryz.func58, Tryz.ntmps58
  go_wp2_with fail
  go_ret
  exact ⟨rfl, rfl⟩
theorem made1_get (v : Value) {n i : Nat} (h : i < n) : (madeCells #[v] n)[i]? = some v := by
  simp [madeCells, h, Nat.mod_one]
/-- The rows of ways from layer m on. -/
def waysP (d : List (List (List Int))) (j : Nat) : List Nat := (pathsP (d.drop j)).headD []
/-- The program's table of ways: the rows from m on are there. -/
def PtV (g b0 n m : Nat) (d : List (List (List Int))) (ms : List Nat) (W : World) : Prop :=
  ∃ vs : List Value, vs.length = n + 1 ∧ W.heap[g]? = some (.cells vs.toArray 23 (0, 0)) ∧
    ∀ j, m ≤ j → j ≤ n → ∃ b, vs[j]? = some (.slice (some ⟨b, 0, none⟩) (waysP d j).length (waysP d j).length) ∧ (b ∈ ms ∨ b = b0) ∧ b ≠ g ∧ W.heap[b]? = some (.cells (((ints (waysP d j)).map (Value.int .i64)).toArray) 3 (0, 0))
theorem PtV.mv {g b0 n m : Nat} {d : List (List (List Int))} {ms T : List Nat} {W W' : World} (h : PtV g b0 n m d ms W) (hg : Gr T W W') (hT : ∀ t ∈ T, t ≠ g ∧ t ∉ ms ∧ t ≠ b0) : PtV g b0 n m d ms W' := by
  obtain ⟨vs, k1, k2, k3⟩ := h
  refine ⟨vs, k1, hg.obj k2 (fun hm => (hT _ hm).1 rfl), fun j hj hjn => ?_⟩
  obtain ⟨b, e1, e2, e3, e4⟩ := k3 j hj hjn
  refine ⟨b, e1, e2, e3, hg.obj e4 (fun hm => ?_)⟩
  rcases e2 with e2 | e2
  · exact (hT b hm).2.1 e2
  · exact (hT b hm).2.2 e2
theorem waysP_get {d : List (List (List Int))} {j : Nat} (hj : j ≤ d.length) : (pathsP d)[j]? = some (waysP d j) := by
  have h1 := pathsP_drop d j hj
  have h2 : (pathsP d).drop j ≠ [] := by
    intro e
    have := congrArg List.length e
    rw [List.length_drop, pathsP_len] at this
    simp at this; omega
  unfold waysP
  rw [← h1]
  cases hq : (pathsP d).drop j with
  | nil => exact absurd hq h2
  | cons a r =>
    have := List.getElem?_drop (xs := pathsP d) (i := j) (j := 0)
    rw [hq] at this
    simpa using this.symm
theorem waysP_len {d : List (List (List Int))} {j : Nat} (hj : j ≤ d.length) : (waysP d j).length = ((d[j]?).map List.length).getD 1 := by
  unfold waysP
  by_cases h : j < d.length
  · rw [List.drop_eq_getElem_cons h, pathsP, List.getElem?_eq_getElem h]
    simp
  · rw [List.getElem?_eq_none (by omega), List.drop_of_length_le (by omega)]; rfl
theorem waysP_le {d : List (List (List Int))} (hd : ValD d) (j : Nat) : ∀ x ∈ waysP d j, x ≤ 6 ^ 4 := by
  intro x hx
  have h1 := pathsP_le (d.drop j) (fun L hL r hr => by
    obtain ⟨i, hi⟩ := List.mem_iff_getElem?.1 (List.mem_of_mem_drop hL)
    exact ((hd.lay i L hi).2 r hr).1) x hx
  have h2 : 6 ^ (d.drop j).length ≤ 6 ^ 4 := Nat.pow_le_pow_right (by decide) (by have := hd.len; rw [List.length_drop]; omega)
  omega
theorem PtV.rows {g b0 : Nat} {d : List (List (List Int))} {ms : List Nat} {W : World} (h : PtV g b0 d.length 0 d ms W) (hd : d.length ≤ 4) (hl : ∀ j, j ≤ d.length → (waysP d j).length ≤ 1000) : RowsV [] W (.slice (some ⟨g, 0, none⟩) (d.length + 1) (d.length + 1)) ((pathsP d).map ints) := by
  obtain ⟨vs, k1, k2, k3⟩ := h
  refine ⟨some ⟨g, 0, none⟩, d.length + 1, by rw [List.length_map, pathsP_len], by rw [List.length_map, pathsP_len]; simp; omega, fun i r hi => ?_⟩
  have hil := (List.getElem?_eq_some_iff.1 hi).1
  rw [List.length_map, pathsP_len] at hil
  obtain ⟨b, e1, e2, e3, e4⟩ := k3 i (by omega) (by omega)
  rw [List.getElem?_map, waysP_get (by omega)] at hi
  simp at hi
  subst hi
  have := hl i (by omega)
  refine ⟨g, 0, .slice (some ⟨b, 0, none⟩) (waysP d i).length (waysP d i).length, rfl, by simp, by simp [World.cell?, k2, e1], ?_⟩
  refine ⟨some ⟨b, 0, none⟩, _, by rw [ints_len], by rw [ints_len]; simp; omega, fun k x hk => ⟨b, 0, rfl, by simp, ?_⟩⟩
  simp [World.cell?, e4, hk]

/-- The row of ways while it is being filled: up to k done, y at k. -/
def wsC (P : List Nat) (L : List (List Int)) (k : Nat) (y : Nat) : Array Value :=
  ((List.range L.length).map fun j => Value.int .i64 (if j < k then (waysR P (L.getD j []) : Int) else if j = k then (y : Int) else 0)).toArray
theorem wsC_get {P : List Nat} {L : List (List Int)} {k y : Nat} (hk : k < L.length) : (wsC P L k y)[k]? = some (.int .i64 (y : Int)) := by simp [wsC, hk]
theorem wsC_set {P : List Nat} {L : List (List Int)} {k y y' : Nat} : (wsC P L k y).setIfInBounds k (.int .i64 (y' : Int)) = wsC P L k y' := by
  refine Array.ext_getElem? fun j => ?_
  rw [Array.getElem?_setIfInBounds]
  unfold wsC
  by_cases hj : k = j
  · subst hj
    rw [if_pos rfl]
    by_cases hl : k < L.length <;> simp [hl]
  · rw [if_neg hj]
    have hj' : ¬ j = k := fun e => hj e.symm
    by_cases hl : j < L.length <;> simp [hl, hj']
theorem wsC_next {P : List Nat} {L : List (List Int)} {k : Nat} {row : List Int} (h : L[k]? = some row) : wsC P L k (waysR P row) = wsC P L (k + 1) 0 := by
  refine Array.ext_getElem? fun j => ?_
  unfold wsC
  by_cases hl : j < L.length
  · simp only [List.getElem?_toArray, List.getElem?_map, List.getElem?_range hl, Option.map_some]
    congr 2
    by_cases h1 : j < k
    · rw [if_pos h1, if_pos (by omega)]
    · by_cases h2 : j = k
      · subst h2
        rw [if_neg h1, if_pos rfl, if_pos (by omega)]
        simp [List.getD_eq_getElem?_getD, h]
      · rw [if_neg h1, if_neg h2, if_neg (by omega)]
        split <;> rfl
  · simp [hl]
theorem wsC_zero (P : List Nat) (L : List (List Int)) : madeCells #[Value.int .i64 0] L.length = wsC P L 0 0 := by
  refine Array.ext_getElem? fun j => ?_
  by_cases hl : j < L.length
  · rw [made1_get _ hl]
    simp [wsC, hl]
  · simp [wsC, madeCells, hl]
theorem wsC_end (P : List Nat) (L : List (List Int)) (y : Nat) : wsC P L L.length y = ((ints (L.map (waysR P))).map (Value.int .i64)).toArray := by
  refine Array.ext_getElem? fun j => ?_
  by_cases hl : j < L.length
  · simp [wsC, ints, hl, List.getD_eq_getElem?_getD]
  · simp [wsC, ints, hl]
theorem waysR_snoc {P : List Nat} {row : List Int} {t : Nat} {to : Int} (h : row[t]? = some to) : waysR P (row.take (t + 1)) = waysR P (row.take t) + (if 0 ≤ to then P.getD to.toNat 0 else 0) := by
  unfold waysR
  rw [List.take_add_one, h, List.map_append, List.sum_append]
  simp

set_option maxRecDepth 100000 in
set_option maxHeartbeats 2000000 in
theorem paths_c (d : List (List (List Int))) (dv : Value) (w : World) (hx : DgV [] w dv d) (hd : ValD d) :
    Calls Tryz.prog 27 #[dv] w fun e w' => ∃ (g b0 : Nat) (ms : List Nat), e = .returned (.slice (some ⟨g, 0, none⟩) (d.length + 1) (d.length + 1)) ∧ PtV g b0 d.length 0 d ms w' ∧ Gr [] w w' := by
  have Hx := hid hx; have HD := hid hd
  have hlen := hd.len
  obtain ⟨do', dc, rfl, ⟨h1, h2, -⟩, -⟩ := hx
  have hmk := fun W => run_make_row' (P := Tryz.prog) 24 23 (.slice none 0 0) 24 Tryz.underlying24 infoRw rfl .i64 .i64 (d.length + 1) (by omega) (by omega) W
  have e1 : ((d.length + 1 : Nat) : Int) = (d.length : Int) + 1 := rfl
  rw [e1] at hmk
  have hmc := made1_get (.slice none 0 0) (n := d.length + 1) (i := d.length) (by omega)
  clear hd e1
  refine (callsIn_wide (n := 0)).1 ?_
  refine callsIn_of_wp_marks Tryz.func27 rfl trivial ?_ rfl
  simp only [Tryz.ntmps27, List.size_toArray, List.length_cons, List.length_nil, Nat.reduceAdd, Nat.reduceSub, Array.replicate_succ, Array.replicate_zero, List.push_toArray, List.append_toArray, List.nil_append, List.cons_append]
  gi_wp2_with fail
  obtain ⟨cs0, hcs0⟩ : ∃ cs0, cs0 = (madeCells #[Value.slice none 0 0] (d.length + 1)).setIfInBounds d.length (.slice (some ⟨w.heap.size + 1 + 1, 0, none⟩) 1 1) := ⟨_, rfl⟩
  rw [← hcs0]
  obtain ⟨wA, hwA⟩ : ∃ wA, wA = ((w.alloc (.cells cs0 23)).alloc (.cells #[.slice (some ⟨w.heap.size, 0, none⟩) (d.length + 1) (d.length + 1)] 24)).alloc (.cells #[.int .i64 1] 3) := ⟨_, rfl⟩
  rw [← hwA]
  have hgA : Gr [] w wA := by rw [hwA]; exact (((Gr.refl _ _).alloc _).alloc _).alloc _
  have hsA : wA.heap.size = w.heap.size + 3 := by rw [hwA]; simp
  have hAg : wA.heap[w.heap.size]? = some (.cells cs0 23 (0, 0)) := by rw [hwA]; exact (((Gr.refl [] _).alloc _).alloc _).obj (heap_alloc_new w _) (by simp)
  have hAb : wA.heap[w.heap.size + 1]? = some (.cells #[.slice (some ⟨w.heap.size, 0, none⟩) (d.length + 1) (d.length + 1)] 24 (0, 0)) := by
    rw [hwA]
    have := heap_alloc_new (w.alloc (.cells cs0 23)) (.cells #[.slice (some ⟨w.heap.size, 0, none⟩) (d.length + 1) (d.length + 1)] 24)
    rw [World.size_alloc] at this
    exact ((Gr.refl [] _).alloc _).obj this (by simp)
  have hA0 : wA.heap[w.heap.size + 2]? = some (.cells #[.int .i64 1] 3 (0, 0)) := by
    rw [hwA]
    have := heap_alloc_new ((w.alloc (.cells cs0 23)).alloc (.cells #[.slice (some ⟨w.heap.size, 0, none⟩) (d.length + 1) (d.length + 1)] 24)) (.cells #[.int .i64 1] 3)
    rwa [World.size_alloc, World.size_alloc] at this
  clear hwA
  refine ⟨trivial, rfl, (callsIn_wide.2 (Backward_c do' d.length dc wA)).mono ?_⟩
  rintro e wT ⟨rfl, hwT⟩
  dsimp only
  have hgT : Gr [] wA wT := by rw [hwT]; exact (Gr.refl _ _).alloc _
  have hsT : wT.heap.size = w.heap.size + 4 := by rw [hwT, World.size_alloc, hsA]
  have hTd : wT.heap[wA.heap.size]? = some (.cells #[.slice do' d.length dc] 29 (0, 0)) := by rw [hwT]; exact heap_alloc_new _ _
  rw [hsA] at hTd ⊢
  clear hwT
  have hit := backward_iter [w.heap.size] wT (w.heap.size + 3) _ d hTd ((Hx.out.sub (S' := [w.heap.size]) (fun b hb hm => by simp at hm; omega)).gr (hgA.trans hgT).any) (by simp) (by intro s hs; simp at hs; omega) (by omega)
  have Hit := hid hit; have HgT := hid (hgA.trans hgT)
  have HTg := hid (hgT.obj hAg (by simp)); have HTb := hid (hgT.obj hAb (by simp)); have HT0 := hid (hgT.obj hA0 (by simp))
  clear hit hgA hgT hAg hAb hA0 hTd hmc hmk
  gi_wp2_with fail
  refine' wp_rangeIterN [w.heap.size] rfl (fun _ _ => by kernel_rfl) (backN d d.length) rdB Hit.out ?hS ?hrd ?hrs
    (fun pre ms W => ∃ m, m ≤ d.length ∧ backN d d.length = pre ++ backN d m ∧ PtV w.heap.size (w.heap.size + 2) d.length m d ms W ∧ Gr [w.heap.size] wT W ∧ ∀ b ∈ ms, w.heap.size + 4 + 2 ≤ b ∧ b < W.heap.size)
    (fun _ _ _ _ => False) ?hI (fun _ _ _ _ _ _ h _ _ => h) ?hms ?h0 _ (fun _ _ _ _ h => h.elim) ?hassign ?hbody ?hdone (fun _ _ _ _ _ _ h => h.elim)
  case hassign =>
    intro l v v2 W K hK
    gi_wp2_with fail
    exact hK
  case hS => intro s hs; simp at hs; omega
  case hrd => rintro A W W' v v2 x _ ⟨h0, h⟩ hg; exact ⟨h0, h.gr hg⟩
  case hrs => rintro A B W v v2 x ⟨h0, h⟩ hb; exact ⟨h0, h.sub fun b _ hm => hb b hm⟩
  case hI =>
    rintro pre ms W W' T ⟨m, h1, h2, ⟨vs, k1, k2, k3⟩, h4, h5⟩ hg hT
    have ho : ∀ (b : Nat) (o : Obj), b < w.heap.size + 4 → W.heap[b]? = some o → W'.heap[b]? = some o := fun b o hb h => hg.obj h (fun hm => by have := (hT b hm).1; omega)
    refine ⟨m, h1, h2, ⟨vs, k1, ho _ _ (by omega) k2, fun j hj hjn => ?_⟩, h4.step hg (fun i hi => .inr (hT i hi).1), fun b hb => ⟨(h5 b hb).1, Nat.lt_of_lt_of_le (h5 b hb).2 hg.size⟩⟩
    obtain ⟨b, e1, e2, e3, e4⟩ := k3 j hj hjn
    refine ⟨b, e1, e2, e3, hg.obj e4 (fun hm => ?_)⟩
    rcases e2 with e2 | e2
    · exact (hT b hm).2 e2
    · have := (hT b hm).1; omega
  case hms => rintro pre ms W ⟨m, _, _, _, _, h5⟩ b hb; rw [hsT]; exact h5 b hb
  case h0 =>
    refine ⟨d.length, Nat.le_refl _, rfl, ⟨cs0.toList, by rw [hcs0]; simp [madeCells], by simpa using HTg.out, fun j hj hjn => ?_⟩, Gr.refl _ _, by simp⟩
    have : j = d.length := by omega
    subst this
    have hw : waysP d d.length = [1] := by unfold waysP; rw [List.drop_length]; rfl
    rw [hw]
    refine ⟨w.heap.size + 2, ?_, .inr rfl, by omega, HT0.out⟩
    rw [hcs0]
    simp [madeCells]
  case hdone =>
    rintro D ms W ⟨m, h1, h2, h3, h4, h5⟩ hD hDs hDm
    have hm0 : m = 0 := by
      cases m with
      | zero => rfl
      | succ m => have := congrArg List.length h2; simp [backN] at this
    subst hm0
    have H3 := hid h3; have H4 := hid h4
    have hfb := fld (h4.obj HTb.out (by simp))
    have HD0 := hid hD; have HD1 := hid hDs; have HDm := hid hDm
    clear h2 h3 h4 h5 hD hDm hDs
    gi_wp2_with fail
    refine ⟨by simp, .inl ⟨_, _, rfl, run_takeDeferred HD0.out, ?_⟩⟩
    refine ⟨_, results_tmp rfl _ _ _, ?_⟩
    have hD1 := HD1.out
    refine ⟨_, _, ms, rfl, H3.out.mv (Gr.putObj W D _) (fun t ht => ?_), ((HgT.out.step H4.out (fun i hi => .inr (by simp at hi; omega))).step (Gr.putObj W D _) (fun i hi => .inr (by simp at hi; subst hi; omega)))⟩
    simp at ht; subst ht
    exact ⟨by omega, HDm.out, by omega⟩
  case hbody =>
    rintro l pre rest x v v2 ms W hxs hsW ⟨m, h1, h2, h3, h4, h5⟩ ⟨rfl, hr⟩
    have hbk : backN d m = x :: rest := List.append_cancel_left (h2.symm.trans hxs)
    cases m with
    | zero => cases hbk
    | succ m =>
    rw [backN] at hbk
    simp only [List.cons.injEq] at hbk
    obtain ⟨rfl, rfl⟩ := hbk
    obtain ⟨L, hL⟩ := get_some (xs := d) (k := m) (by omega)
    have hgd : d.getD m [] = L := by simp [List.getD_eq_getElem?_getD, hL]
    simp only [hgd] at hr hxs ⊢
    obtain ⟨lo, lc, rfl, ⟨hl1, hl2, -⟩, -⟩ := id hr
    have hlay := HD.out.lay m L hL
    obtain ⟨vs, k1, k2, k3⟩ := h3
    have hmk2 := fun W => run_make_row' (P := Tryz.prog) 23 3 (.int .i64 0) 8 Tryz.underlying23 infoI rfl .i64 .i64 L.length (by omega) (by omega) W
    obtain ⟨u0, hu0⟩ := get_some (xs := vs) (k := m) (by omega)
    have hfb := fld (h4.obj HTb.out (by simp))
    have hfg := fld k2
    have hfgF := fldF k2
    have hu0' : vs.toArray[m]? = some u0 := by simpa using hu0
    have HL := hid hL; have Hr := hid hr; have Hxs := hid hxs; have Hlay := hid hlay; have Hk2 := hid k2; have Hk3 := hid k3; have H4 := hid h4; have H5 := hid h5; have H2 := hid h2
    clear hL hr hxs hlay k2 k3 h2 h4 h5 hu0 hgd
    have hW1 := (Gr.refl [] W).alloc (.cells (madeCells #[.int .i64 0] L.length) 3)
    have hfgA := fld (hW1.obj Hk2.out (by simp))
    have hfgB := fldF (hW1.obj Hk2.out (by simp))
    have hfbA := fld (hW1.obj (H4.out.obj HTb.out (by simp)) (by simp))
    gi_wp2_with fail
    refine' (fun (H : Hid (∀ n : Nat, n = n → _)) => ?main) (hid fun _ _ => ?proof)
    case main =>
      gi_region
      all_goals exact H.out 0 (by simp)
    clear hW1 hfgA hfgB hfbA hfg hfgF
    have hg2 : Gr [w.heap.size] W ((W.alloc (.cells (madeCells #[.int .i64 0] L.length) 3)).setCell ⟨w.heap.size, m, none⟩ (.slice (some ⟨W.heap.size, 0, none⟩) L.length L.length)).drew := (((Gr.refl _ _).alloc _).setCell _ _ (.inl (by simp))).drew
    have hwg : ((W.alloc (.cells (madeCells #[.int .i64 0] L.length) 3)).setCell ⟨w.heap.size, m, none⟩ (.slice (some ⟨W.heap.size, 0, none⟩) L.length L.length)).drew.heap[w.heap.size]? = some (.cells (vs.toArray.setIfInBounds m (.slice (some ⟨W.heap.size, 0, none⟩) L.length L.length)) 23 (0, 0)) :=
      cells_sto (((Gr.refl [] W).alloc (.cells (madeCells #[.int .i64 0] L.length) 3)).obj Hk2.out (by simp)) m _
    have hwn : ((W.alloc (.cells (madeCells #[.int .i64 0] L.length) 3)).setCell ⟨w.heap.size, m, none⟩ (.slice (some ⟨W.heap.size, 0, none⟩) L.length L.length)).drew.heap[W.heap.size]? = some (.cells (madeCells #[.int .i64 0] L.length) 3 (0, 0)) :=
      (((Gr.refl [w.heap.size] (W.alloc (.cells (madeCells #[.int .i64 0] L.length) 3))).setCell ⟨w.heap.size, m, none⟩ _ (.inl (by simp))).drew).obj (heap_alloc_new W _) (by simp; omega)
    obtain ⟨v2, hv2e⟩ : ∃ v2, v2 = vs.toArray.setIfInBounds m (.slice (some ⟨W.heap.size, 0, none⟩) L.length L.length) := ⟨_, rfl⟩
    rw [← hv2e] at hwg
    have HV2 := hid hv2e
    clear hv2e
    obtain ⟨W2, hW2⟩ : ∃ W2, W2 = ((W.alloc (.cells (madeCells #[.int .i64 0] L.length) 3)).setCell ⟨w.heap.size, m, none⟩ (.slice (some ⟨W.heap.size, 0, none⟩) L.length L.length)).drew := ⟨_, rfl⟩
    rw [← hW2] at hg2 hwg hwn ⊢
    have hs2 : W2.heap.size = W.heap.size + 1 := by rw [hW2]; simp
    clear hW2
    have Hg2 := hid hg2; have Hwg := hid hwg; have Hwn := hid hwn
    have hfb2 := fld (hg2.obj (H4.out.obj HTb.out (by simp)) (by simp))
    clear hg2 hwg hwn hfb hu0'
    gi_wp2_with fail
    obtain ⟨P, hP⟩ : ∃ P, P = waysP d (m + 1) := ⟨_, rfl⟩
    have HP := hid hP
    clear hP
    gi_loopw [31] (fun u wr => ∃ k : Nat, k ≤ L.length ∧ u = .int .i64 k ∧ wr.heap[W.heap.size]? = some (.cells (wsC P L k 0) 3 (0, 0)) ∧ Gr [W.heap.size] W2 wr) (fun u _ => L.length - (intOf u).toNat)
    case atStart => exact ⟨0, by omega, rfl, by rw [← wsC_zero]; exact Hwn.out, Gr.refl _ _⟩
    case round =>
      obtain ⟨k, hk, rfl, hrow, hgr⟩ := hrel
      have Hrow := hid hrow; have Hgr := hid hgr
      clear hrow hgr
      by_cases hlt : k < L.length
      · obtain ⟨row, hrw⟩ := get_some hlt
        have hlr := (Hr.out.mv (L' := [W.heap.size]) Hg2.out (fun t ht => .inl (List.mem_append.2 (.inl ht))) (fun b hb => .inr (by simp at hb; omega)))
        obtain ⟨b1, o1, ro, rc, rfl, hb1, hcell0, ⟨hr1, hr2⟩, hnum⟩ := hlr.at3 hrw
        have hcell1 := Hgr.out.cell hcell0 hb1
        clear hcell0
        have Hrw := hid hrw; have Hnum := hid hnum
        clear hrw hlr hnum
        obtain ⟨b2, e1, e2, e3, e4⟩ := Hk3.out (m + 1) (Nat.le_refl _) h1
        rw [← HP.out] at e1 e4
        have He4 := hid e4; have He3 := hid e3
        have hb2 : b2 ≠ W.heap.size := by
          rcases e2 with e2 | e2
          · have := (H5.out b2 e2).2; omega
          · omega
        have hPl : (P.length : Int) = (((d[m + 1]?).map List.length).getD 1 : Nat) := by rw [HP.out, waysP_len h1]
        have hP6 : ∀ x ∈ P, x ≤ 6 ^ 4 := by rw [HP.out]; exact waysP_le HD.out (m + 1)
        have HPl := hid hPl; have HP6 := hid hP6
        have hv1 : v2[m]? = some (.slice (some ⟨W.heap.size, 0, none⟩) L.length L.length) := by
          rw [HV2.out, Array.getElem?_setIfInBounds_self_of_lt (by simp; omega)]
        have hv2 : v2[m + 1]? = some (.slice (some ⟨b2, 0, none⟩) P.length P.length) := by
          rw [HV2.out, Array.getElem?_setIfInBounds_ne (by omega)]; simpa using e1
        clear e1 e2 e3 e4 hPl hP6
        gi_wp2_with fail
        gi_loopw [38] (fun u wq => ∃ t : Nat, t ≤ row.length ∧ u = .int .i64 t ∧ wq.heap[W.heap.size]? = some (.cells (wsC P L k (waysR P (row.take t))) 3 (0, 0)) ∧ Gr [W.heap.size] W2 wq) (fun u _ => row.length - (intOf u).toNat)
        case atStart => exact ⟨0, by omega, rfl, by simpa [waysR] using Hrow.out, Hgr.out⟩
        case round =>
          obtain ⟨wq, rfl⟩ : ∃ wq, wq = wr := ⟨_, rfl⟩
          obtain ⟨t, ht, rfl, hrow2, hgr2⟩ := hrel
          by_cases hlt2 : t < row.length
          · obtain ⟨to, hto⟩ := get_some hlt2
            obtain ⟨b3, o3, rfl, hb3, hcell3⟩ := (Hnum.out.gr hgr2).at hto
            have hwn := waysR_snoc (P := P) hto
            have hto1 := (Hlay.out.2 row (List.mem_of_getElem? Hrw.out)).2 to (List.mem_of_getElem? hto)
            by_cases hneg : to < 0
            · rw [if_neg (by omega), Nat.add_zero] at hwn
              have hn1 : to = -1 := by omega
              subst hn1
              have Hwn2 := hid hwn; have Hrow2 := hid hrow2; have Hgr2 := hid hgr2
              clear hwn hto hrow2 hgr2 hto1
              gi_wp2_with fail
              refine ⟨⟨t + 1, by omega, by go_num, ?_, Hgr2.out⟩, by simp [intOf]; omega⟩
              rw [Hwn2.out]; exact Hrow2.out
            · rw [if_pos (by omega)] at hwn
              obtain ⟨tn, rfl⟩ := Int.eq_ofNat_of_zero_le (show 0 ≤ to by omega)
              rw [Int.toNat_natCast] at hwn
              have htn : tn < P.length := by have := HPl.out; omega
              obtain ⟨p, hp⟩ := get_some htn
              have hpd : P.getD tn 0 = p := by simp [List.getD_eq_getElem?_getD, hp]
              rw [hpd] at hwn
              have hp6 := HP6.out p (List.mem_of_getElem? hp)
              have hw6 : waysR P (row.take t) ≤ 10000 := by
                have h1 := waysR_le HP6.out (row.take t)
                have h2 := (Hlay.out.2 row (List.mem_of_getElem? Hrw.out)).1
                have h3 : (row.take t).length ≤ 6 := by rw [List.length_take]; omega
                have h4 : (row.take t).length * 6 ^ 4 ≤ 6 * 6 ^ 4 := Nat.mul_le_mul_right _ h3
                omega
              have hpc : (List.map (Value.int .i64) (ints P)).toArray[tn]? = some (.int .i64 (p : Int)) := by simp [ints, hp]
              have Fbb := hid (hgr2.obj (Hg2.out.obj (H4.out.obj HTb.out (by simp)) (by simp)) (by simp; omega))
              have Fgg := hid (hgr2.obj Hwg.out (by simp; omega))
              have F22 := hid (hgr2.obj (Hg2.out.obj He4.out (by simp; exact He3.out)) (by simp; exact hb2))
              have fbq := fld (hgr2.obj (Hg2.out.obj (H4.out.obj HTb.out (by simp)) (by simp)) (by simp; omega))
              have fgq := fld (hgr2.obj Hwg.out (by simp; omega))
              have f2q := fld (hgr2.obj (Hg2.out.obj He4.out (by simp; exact He3.out)) (by simp; exact hb2))
              have fnq := fld hrow2
              have fnF := fldF hrow2
              obtain ⟨y, hy⟩ : ∃ y, y = waysR P (row.take t) := ⟨_, rfl⟩
              rw [← hy] at hwn hw6 fnq hrow2
              have hwk := wsC_get (P := P) (L := L) (k := k) (y := y) hlt
              have Hwn2 := hid hwn; have Hrow2 := hid hrow2; have Hgr2 := hid hgr2
              clear hwn hto hrow2 hgr2 hto1 hy hp hpd hcell1 hfb2
              gi_wp2_with fail
              have q1 : (m : Int) < (d.length : Int) + 1 := by omega
              have q2 : IntKind.i64.wrap ((m : Int) + 1) = (m : Int) + 1 := by rw [IntKind.wrap_i64]; omega
              have q3 : ((m : Int) + 1).toNat = m + 1 := by omega
              have q4 : (m : Int) + 1 < (d.length : Int) + 1 := by omega
              have q5 : (0 : Int) ≤ (m : Int) + 1 := by omega
              have q6 : (k : Int) < (L.length : Int) := by omega
              have q7 : (tn : Int) < (P.length : Int) := by omega
              have q8 : IntKind.i64.wrap ((y : Int) + (p : Int)) = ((y + p : Nat) : Int) := by rw [IntKind.wrap_i64]; omega
              have hpc0 : (List.map (Value.int .i64) (ints P))[tn]? = some (.int .i64 (p : Int)) := by simpa using hpc
              --?14 start
              refine wpIn_region_round (S := (fun W => (∀ j, W.cell? ⟨w.heap.size + 1, j, none⟩ = #[Value.slice (some ⟨w.heap.size, 0, none⟩) (d.length + 1) (d.length + 1)][j]?) ∧ (∀ j, W.cell? ⟨w.heap.size, j, none⟩ = v2[j]?) ∧ (∀ j, W.cell? ⟨b2, j, none⟩ = (List.map (Value.int .i64) (ints P)).toArray[j]?))) (by kernel_rfl) (by kernel_rfl) ?_ (fun hHeld => ?_)
              · exact ⟨fbq, fgq, f2q⟩
              refine wpAnyH_take (i := 0) (v := ?_) rfl (by kernel_rfl) (by kernel_rfl) (by kernel_rfl) (fun _ _ _ h => by cases h.1) (Or.inl ⟨by rfl, ?_⟩) (by assumption) ?_
              rotate_left
              · intro Wx hSw; (try dsimp only at hSw); go_simp; (try with_reducible rfl)
              try simp only [Act.put, List.setIfInBounds_toArray, List.set_cons_zero, List.set_cons_succ, List.getElem_toArray, List.getElem_cons_zero, List.getElem_cons_succ]
              refine wpAnyH_take (i := 1) (v := ?_) rfl (by kernel_rfl) (by kernel_rfl) (by kernel_rfl) (fun _ _ _ h => by cases h.1) (Or.inl ⟨by rfl, ?_⟩) (by assumption) ?_
              rotate_left
              · intro Wx hSw; (try dsimp only at hSw); go_simp; (try with_reducible rfl)
              try simp only [Act.put, List.setIfInBounds_toArray, List.set_cons_zero, List.set_cons_succ, List.getElem_toArray, List.getElem_cons_zero, List.getElem_cons_succ]
              refine wpAnyH_take (i := 2) (v := ?_) rfl (by kernel_rfl) (by kernel_rfl) (by kernel_rfl) (fun _ _ _ h => by cases h.1) (Or.inl ⟨by rfl, ?_⟩) (by assumption) ?_
              rotate_left
              · intro Wx hSw; (try dsimp only at hSw); go_simp; (try with_reducible rfl)
              try simp only [Act.put, List.setIfInBounds_toArray, List.set_cons_zero, List.set_cons_succ, List.getElem_toArray, List.getElem_cons_zero, List.getElem_cons_succ]
              refine wpAnyH_take (i := 3) (v := ?_) rfl (by kernel_rfl) (by kernel_rfl) (by kernel_rfl) (fun _ _ _ h => by cases h.1) (Or.inl ⟨by rfl, ?_⟩) (by assumption) ?_
              rotate_left
              · intro Wx hSw; (try dsimp only at hSw); go_simp; (try with_reducible rfl)
              try simp only [Act.put, List.setIfInBounds_toArray, List.set_cons_zero, List.set_cons_succ, List.getElem_toArray, List.getElem_cons_zero, List.getElem_cons_succ]
              refine wpAnyH_take (i := 4) (v := ?_) rfl (by kernel_rfl) (by kernel_rfl) (by kernel_rfl) (fun _ _ _ h => by cases h.1) (Or.inl ⟨by rfl, ?_⟩) (by assumption) ?_
              rotate_left
              · intro Wx hSw; (try dsimp only at hSw); go_simp; (try with_reducible rfl)
              try simp only [Act.put, List.setIfInBounds_toArray, List.set_cons_zero, List.set_cons_succ, List.getElem_toArray, List.getElem_cons_zero, List.getElem_cons_succ]
              refine wpAnyH_take (i := 5) (v := ?_) rfl (by kernel_rfl) (by kernel_rfl) (by kernel_rfl) (fun _ _ _ h => by cases h.1) (Or.inl ⟨by rfl, ?_⟩) (by assumption) ?_
              rotate_left
              · intro Wx hSw; (try dsimp only at hSw); go_simp; (try with_reducible rfl)
              try simp only [Act.put, List.setIfInBounds_toArray, List.set_cons_zero, List.set_cons_succ, List.getElem_toArray, List.getElem_cons_zero, List.getElem_cons_succ]
              refine wpAnyH_take (i := 7) (v := ?_) rfl (by kernel_rfl) (by kernel_rfl) (by kernel_rfl) (fun _ _ _ h => by cases h.1) (Or.inl ⟨by rfl, ?_⟩) (by assumption) ?_
              rotate_left
              · intro Wx hSw; (try dsimp only at hSw); go_simp; (try with_reducible rfl)
              try simp only [Act.put, List.setIfInBounds_toArray, List.set_cons_zero, List.set_cons_succ, List.getElem_toArray, List.getElem_cons_zero, List.getElem_cons_succ]
              refine wpAnyH_take (i := 8) (v := ?_) rfl (by kernel_rfl) (by kernel_rfl) (by kernel_rfl) (fun _ _ _ h => by cases h.1) (Or.inl ⟨by rfl, ?_⟩) (by assumption) ?_
              rotate_left
              · intro Wx hSw; (try dsimp only at hSw); go_simp; (try with_reducible rfl)
              try simp only [Act.put, List.setIfInBounds_toArray, List.set_cons_zero, List.set_cons_succ, List.getElem_toArray, List.getElem_cons_zero, List.getElem_cons_succ]
              refine wpAnyH_take (i := 9) (v := ?_) rfl (by kernel_rfl) (by kernel_rfl) (by kernel_rfl) (fun _ _ _ h => by cases h.1) (Or.inl ⟨by rfl, ?_⟩) (by assumption) ?_
              rotate_left
              · intro Wx hSw; (try dsimp only at hSw); go_simp; (try with_reducible rfl)
              try simp only [Act.put, List.setIfInBounds_toArray, List.set_cons_zero, List.set_cons_succ, List.getElem_toArray, List.getElem_cons_zero, List.getElem_cons_succ]
              refine wpAnyH_take (i := 10) (v := ?_) rfl (by kernel_rfl) (by kernel_rfl) (by kernel_rfl) (fun _ _ _ h => by cases h.1) (Or.inl ⟨by rfl, ?_⟩) (by assumption) ?_
              rotate_left
              · intro Wx hSw; (try dsimp only at hSw); go_simp; (try with_reducible rfl)
              try simp only [Act.put, List.setIfInBounds_toArray, List.set_cons_zero, List.set_cons_succ, List.getElem_toArray, List.getElem_cons_zero, List.getElem_cons_succ]
              refine wpAnyH_take (i := 11) (v := ?_) rfl (by kernel_rfl) (by kernel_rfl) (by kernel_rfl) (fun _ _ _ h => by cases h.1) (Or.inl ⟨by rfl, ?_⟩) (by assumption) ?_
              rotate_left
              · intro Wx hSw; (try dsimp only at hSw); go_simp; (try with_reducible rfl)
              try simp only [Act.put, List.setIfInBounds_toArray, List.set_cons_zero, List.set_cons_succ, List.getElem_toArray, List.getElem_cons_zero, List.getElem_cons_succ]
              refine wpAnyH_take (i := 12) (v := ?_) rfl (by kernel_rfl) (by kernel_rfl) (by kernel_rfl) (fun _ _ _ h => by cases h.1) (Or.inl ⟨by rfl, ?_⟩) (by assumption) ?_
              rotate_left
              · intro Wx hSw; (try dsimp only at hSw); go_simp; (try with_reducible rfl)
              try simp only [Act.put, List.setIfInBounds_toArray, List.set_cons_zero, List.set_cons_succ, List.getElem_toArray, List.getElem_cons_zero, List.getElem_cons_succ]
              refine wpAnyH_take (i := 13) (v := ?_) rfl (by kernel_rfl) (by kernel_rfl) (by kernel_rfl) (fun _ _ _ h => by cases h.1) (Or.inl ⟨by rfl, ?_⟩) (by assumption) ?_
              rotate_left
              · intro Wx hSw; (try dsimp only at hSw); go_simp; (try with_reducible rfl)
              try simp only [Act.put, List.setIfInBounds_toArray, List.set_cons_zero, List.set_cons_succ, List.getElem_toArray, List.getElem_cons_zero, List.getElem_cons_succ]
              refine wpAnyH_take (i := 14) (v := ?_) rfl (by kernel_rfl) (by kernel_rfl) (by kernel_rfl) (fun _ _ _ h => by cases h.1) (Or.inl ⟨by rfl, ?_⟩) (by assumption) ?_
              rotate_left
              · intro Wx hSw; (try dsimp only at hSw); go_simp; (try with_reducible rfl)
              try simp only [Act.put, List.setIfInBounds_toArray, List.set_cons_zero, List.set_cons_succ, List.getElem_toArray, List.getElem_cons_zero, List.getElem_cons_succ]
              refine wpAnyH_ready (rs := [6]) (by kernel_rfl) (by simp) ?_
              refine AllReadyH.cons rfl (fun Kx hKx => ?_) AllReadyH.nil
              go_simp
              refine hKx.out _ _ ?_ (fun hHeld => ?_)
              · (try dsimp only); (exact ⟨fbq, fgq, f2q⟩)
              clear hKx Kx
              try simp only [Act.put, List.setIfInBounds_toArray, List.set_cons_zero, List.set_cons_succ, List.getElem_toArray, List.getElem_cons_zero, List.getElem_cons_succ]
              refine wpAnyH_take (i := 15) (v := ?_) rfl (by kernel_rfl) (by kernel_rfl) (by kernel_rfl) (fun _ _ _ h => by cases h.1) (Or.inl ⟨by rfl, ?_⟩) (by assumption) ?_
              rotate_left
              · intro Wx hSw; (try dsimp only at hSw); go_simp; (try with_reducible rfl)
              try simp only [Act.put, List.setIfInBounds_toArray, List.set_cons_zero, List.set_cons_succ, List.getElem_toArray, List.getElem_cons_zero, List.getElem_cons_succ]
              refine wpAnyH_take (i := 16) (v := ?_) rfl (by kernel_rfl) (by kernel_rfl) (by kernel_rfl) (fun _ _ _ h => by cases h.1) (Or.inl ⟨by rfl, ?_⟩) (by assumption) ?_
              rotate_left
              · intro Wx hSw; (try dsimp only at hSw); go_simp; (try with_reducible rfl)
              try simp only [Act.put, List.setIfInBounds_toArray, List.set_cons_zero, List.set_cons_succ, List.getElem_toArray, List.getElem_cons_zero, List.getElem_cons_succ]
              refine wpAnyH_ready (rs := [17]) (by kernel_rfl) (by simp) ?_
              refine AllReadyH.cons rfl (fun Kx hKx => ?_) AllReadyH.nil
              go_simp
              refine hKx.out _ _ ?_ (fun hHeld => ?_)
              · (try dsimp only); (have hst := ((Gr.refl [W.heap.size] wq).setCell ⟨W.heap.size, k, none⟩ (.int .i64 ((y + p : Nat) : Int)) (.inl (by simp))).drew; exact ⟨fld (hst.obj Fbb.out (by simp; omega)), fld (hst.obj Fgg.out (by simp; omega)), fld (hst.obj F22.out (by simp; exact hb2))⟩)
              clear hKx Kx
              try simp only [Act.put, List.setIfInBounds_toArray, List.set_cons_zero, List.set_cons_succ, List.getElem_toArray, List.getElem_cons_zero, List.getElem_cons_succ]
              refine wpAnyH_done (by kernel_rfl) ?_ _
              refine ⟨rfl, ?_⟩
              clear hHeld fbq fgq f2q fnq fnF q1 q2 q3 q4 q5 q6 q7 q8 hpc0 hpc hv1 hv2 hwk
              gi_wp2_with fail
              refine ⟨⟨t + 1, by omega, by go_num, ?_, (Hgr2.out.setCell _ _ (.inl (by simp))).drew⟩, by simp [intOf]; omega⟩
              rw [Hwn2.out, ← wsC_set]
              exact cells_sto Hrow2.out k _
              --?14 end
          · have hte : t = row.length := by omega
            subst hte
            have Hrow2 := hid hrow2; have Hgr2 := hid hgr2
            clear hrow2 hgr2
            gi_wp2_with fail
            refine ⟨⟨k + 1, by omega, by go_num, ?_, Hgr2.out⟩, by simp [intOf]; omega⟩
            have := Hrow2.out
            rw [List.take_length, wsC_next Hrw.out] at this
            exact this
      · have hke : k = L.length := by omega
        subst hke
        have hrow := Hrow.out
        rw [wsC_end] at hrow
        have hwm : waysP d m = L.map (waysR P) := by
          rw [HP.out]
          unfold waysP
          have : d.drop m = L :: d.drop (m + 1) := by
            have h1 := (List.getElem?_eq_some_iff.1 HL.out).1
            rw [List.drop_eq_getElem_cons h1]
            congr 1
            exact (List.getElem?_eq_some_iff.1 HL.out).2
          rw [this, pathsP]; rfl
        have hgw : Gr ([w.heap.size] ++ ms) W wr := (Hg2.out.sub (fun k _ h => by simp at h ⊢; exact .inl h)).step Hgr.out (fun i hi => .inr (by simp at hi; omega))
        have hs4 := Hgr.out.size
        gi_wp2_with fail
        refine ⟨W.heap.size :: ms, ⟨m, by omega, by rw [Hxs.out]; simp, ⟨vs.set m (.slice (some ⟨W.heap.size, 0, none⟩) L.length L.length), by rw [List.length_set]; exact k1, ?_, fun j hj hjn => ?_⟩, (H4.out.trans Hg2.out).step Hgr.out (fun i hi => .inr (by have := H4.out.size; simp at hi; omega)), fun b hb => ?_⟩, hgw, fun b hb => ?_⟩
        · have := Hgr.out.obj Hwg.out (by simp; omega)
          rw [this, HV2.out]; simp
        · by_cases hjm : j = m
          · subst hjm
            rw [hwm, List.length_map]
            refine ⟨W.heap.size, ?_, .inl (by simp), by omega, hrow⟩
            rw [List.getElem?_set_self (by omega)]
          · obtain ⟨b, e1, e2, e3, e4⟩ := Hk3.out j (by omega) hjn
            refine ⟨b, ?_, ?_, e3, ?_⟩
            · rw [List.getElem?_set_ne (by omega)]; exact e1
            · exact e2.imp (fun h => by simp [h]) id
            · refine Hgr.out.obj (Hg2.out.obj e4 (by simp; exact e3)) (fun hm => ?_)
              have := lt_of_block e4
              simp at hm; omega
        · rcases List.mem_cons.1 hb with rfl | hb
          · omega
          · have := H5.out b hb; omega
        · rcases List.mem_cons.1 hb with rfl | hb
          · exact .inr (Nat.le_refl _)
          · exact .inl hb
theorem pathsRows_c (d : List (List (List Int))) (dv : Value) (w : World) (hx : DgV [] w dv d) (hd : ValD d) :
    Calls Tryz.prog 27 #[dv] w fun e w' => ∃ v, e = .returned v ∧ RowsV [] w' v ((pathsP d).map ints) ∧ Gr [] w w' := by
  refine (paths_c d dv w hx hd).mono ?_
  rintro e w' ⟨g, b0, ms, rfl, h, hg⟩
  refine ⟨_, rfl, h.rows hd.len.2 fun j hj => ?_, hg⟩
  rw [waysP_len hj]
  by_cases hl : j < d.length
  · obtain ⟨L, hL⟩ := get_some hl
    rw [hL]
    have := (hd.lay j L hL).1
    simp; omega
  · rw [List.getElem?_eq_none (by omega)]; simp
end Go.Proofs.YtmonhpoogfdpoaaGreat
