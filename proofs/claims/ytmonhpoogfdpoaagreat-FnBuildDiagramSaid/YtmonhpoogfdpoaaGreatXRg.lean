/-
  Walk of the program's DiagramDomains.
-/
import Derived.Test.YtmonhpoogfdpoaaGreatXRf
set_option linter.unusedVariables false
set_option linter.unusedSimpArgs false
namespace Go.Proofs.YtmonhpoogfdpoaaGreat
open Go.RowKit

/-- The list of domains while it is being filled: those done, then y. -/
def fillC (n : Nat) (dn : List Nat) (y : Nat) : Array Value :=
  ((List.range n).map fun j => Value.int .i64 (if j < dn.length then (dn.getD j 0 : Int) else if j = dn.length then (y : Int) else 0)).toArray
theorem fillC_get {n : Nat} {dn : List Nat} {i y : Nat} (hi : dn.length = i) (hn : i < n) : (fillC n dn y)[i]? = some (.int .i64 (y : Int)) := by
  subst hi; simp [fillC, hn]
theorem fillC_set {n : Nat} {dn : List Nat} {i y y' : Nat} (hi : dn.length = i) : (fillC n dn y).setIfInBounds i (.int .i64 (y' : Int)) = fillC n dn y' := by
  subst hi
  refine Array.ext_getElem? fun j => ?_
  rw [Array.getElem?_setIfInBounds]
  unfold fillC
  by_cases hj : dn.length = j
  · subst hj
    rw [if_pos rfl]
    by_cases hl : dn.length < n <;> simp [hl]
  · rw [if_neg hj]
    have hj' : ¬ j = dn.length := fun e => hj e.symm
    by_cases hl : j < n <;> simp [hl, hj']
theorem fillC_next (n : Nat) (dn : List Nat) (y : Nat) : fillC n dn y = fillC n (dn ++ [y]) 0 := by
  refine Array.ext_getElem? fun j => ?_
  unfold fillC
  by_cases hl : j < n
  · simp only [List.getElem?_toArray, List.getElem?_map, List.getElem?_range hl, Option.map_some]
    congr 2
    rw [List.length_append, List.length_singleton]
    by_cases h1 : j < dn.length
    · rw [if_pos h1, if_pos (by omega)]
      simp [List.getD_eq_getElem?_getD, List.getElem?_append_left h1]
    · by_cases h2 : j = dn.length
      · subst h2
        rw [if_neg h1, if_pos rfl, if_pos (by omega)]
        simp [List.getD_eq_getElem?_getD]
      · rw [if_neg h1, if_neg h2, if_neg (by omega)]
        split <;> rfl
  · simp [hl]
theorem fillC_zero (n : Nat) : madeCells #[Value.int .i64 0] n = fillC n [] 0 := by
  refine Array.ext_getElem? fun j => ?_
  by_cases hl : j < n
  · rw [made1_get _ hl]
    simp [fillC, hl]
  · simp [fillC, madeCells, hl]
theorem fillC_end {n : Nat} {dn : List Nat} (y : Nat) (h : dn.length = n) : fillC n dn y = ((ints dn).map (Value.int .i64)).toArray := by
  subst h
  refine Array.ext_getElem? fun j => ?_
  by_cases hl : j < dn.length
  · simp [fillC, ints, hl, List.getD_eq_getElem?_getD]
  · simp [fillC, ints, hl]
theorem insI_len (xs : List Int) (x : Int) : (insI xs x).length ≤ xs.length + 1 := by unfold insI; split <;> simp
/-- What a step keeps. -/
structure EOk (k : Nat) (st : Nat × List Int) : Prop where
  lt : st.1 < 64
  len : st.2.length ≤ k
  sm : ∀ x ∈ st.2, SmI x
theorem EOk.step {met : List Int} {P : List Nat} {k n t : Nat} {st : Nat × List Int} {to : Int} (h : EOk n st) (ht : t < 6) (hs : SmI to) : EOk (n + 1) (stepE met P k st (to, t)) := by
  unfold stepE
  split
  · refine ⟨?_, ?_, fun x hx => ?_⟩
    · exact Nat.or_lt_two_pow (n := 6) h.lt (Nat.pow_lt_pow_right (by decide) ht)
    · have := insI_len st.2 to; have := h.len; simp only; omega
    · rcases mem_insI.1 hx with hx | rfl
      · exact h.sm x hx
      · exact hs
  · exact ⟨h.lt, by have := h.len; omega, h.sm⟩
theorem EOk.row {met : List Int} {P : List Nat} {k n : Nat} {st : Nat × List Int} {row : List Int} (h : EOk n st) (h6 : row.length ≤ 6) (hs : ∀ x ∈ row, SmI x) : ∀ t, t ≤ row.length → EOk (n + t) (rowE met P k (row.take t) st)
  | 0, _ => by simpa [rowE] using h
  | t + 1, ht => by
    obtain ⟨to, hto⟩ := get_some (xs := row) (k := t) (by omega)
    rw [rowE_snoc hto]
    exact (EOk.row h h6 hs t (by omega)).step (by omega) (hs to (List.mem_of_getElem? hto))
theorem EOk.lay {met : List Int} {P : List Nat} {layer : List (List Int)} (h : ∀ r ∈ layer, r.length = 6 ∧ ∀ x ∈ r, SmI x) : ∀ k, k ≤ layer.length → EOk (6 * k) (layE met P (layer.take k))
  | 0, _ => by refine ⟨?_, ?_, ?_⟩ <;> simp [layE]
  | k + 1, hk => by
    obtain ⟨row, hr⟩ := get_some (xs := layer) (k := k) (by omega)
    rw [layE_snoc hr]
    have h6 := h row (List.mem_of_getElem? hr)
    have := (EOk.lay (met := met) (P := P) h k (by omega)).row (met := met) (P := P) (k := k) (row := row) (by omega) h6.2 row.length (Nat.le_refl _)
    rw [List.take_length, h6.1] at this
    exact this
theorem storeP (w : World) (m : Nat) (xs : List Int) (x : Int) (hb : w.heap[m]? = some (.map (esI xs).toArray xs.length)) (hr : ∀ x ∈ xs, SmI x) (hk : SmI x) (hl : xs.length ≤ 1000000) :
    (Instr.mapUpdate 61 (.map (some m)) (.int .i64 x) (.bool true)).run Tryz.prog w = .ok () (w.putObj m (.map (esI (insI xs x)).toArray (insI xs x).length)) := storeI w m xs x hb hr hk hl

structure DdI (d : List (List (List Int))) (g : Nat) (w2 : World) (i b : Nat) (dn : List Nat) (xs : List Int) (wr : World) : Prop where
  gr : Gr [] w2 wr
  out : wr.heap[g]? = some (.cells (fillC d.length dn 0) 3 (0, 0))
  map : wr.heap[b]? = some (.map (esI xs).toArray xs.length)
  dl : dn.length = i
  sm : ∀ x ∈ xs, SmI x
  len : xs.length ≤ 2000
  nb : g < b
  sem : domsP d [0] = dn ++ domsP (d.drop i) xs
/-- Inside a layer. -/
structure Dd2 (n g b2 : Nat) (dn : List Nat) (st : Nat × List Int) (wr wz : World) : Prop where
  gr : Gr [g, b2] wr wz
  out : wz.heap[g]? = some (.cells (fillC n dn st.1) 3 (0, 0))
  map : wz.heap[b2]? = some (.map (esI st.2).toArray st.2.length)

set_option maxRecDepth 100000 in
set_option maxHeartbeats 4000000 in
theorem DiagramDomains_c (d : List (List (List Int))) (dv : Value) (w : World) (hx : DgV [] w dv d) (hd : ValD d) :
    Calls Tryz.prog 10 #[dv] w fun e w' => ∃ v, e = .returned v ∧ Nums [] w' .i64 v (ints (domsP d [0])) ∧ Gr [] w w' := by
  have Hx := hid hx; have HD := hid hd
  have hlen := hd.len
  obtain ⟨do', dc, rfl, ⟨h1, h2, -⟩, -⟩ := hx
  clear hd
  go_enter Tryz.func10, Tryz.ntmps10
  go_wp2_with fail
  have hcall := ValidDiagram_c d _ _ Hx.out HD.out
  (with_reducible refine hcall.mono ?_)
  clear hcall
  rintro e w1 ⟨rfl, hg1⟩
  have Hg1 := hid hg1
  clear hg1
  go_wp2_with fail
  have hcall := pathsRows_c d _ _ (Hx.out.gr Hg1.out) HD.out
  (with_reducible refine hcall.mono ?_)
  clear hcall
  rintro e w2 ⟨v, rfl, hr, hg2⟩
  have hlp := pathsP_len d
  obtain ⟨po, pc, rfl, ⟨hv1, hv2, -⟩, -⟩ := id hr
  have hvl : ((pathsP d).map ints).length = d.length + 1 := by rw [List.length_map, hlp]
  rw [hvl] at hv1 hr ⊢
  have Hr := hid hr
  have Hg2 := hid (Hg1.out.trans hg2)
  have hmk := fun W => run_make_row' (P := Tryz.prog) 23 3 (.int .i64 0) 8 Tryz.underlying23 infoI rfl .i64 .i64 d.length (by omega) (by omega) W
  have hmm := @run_makeMap Tryz.prog
  clear hr hvl hlp hg2
  have hA := ((Gr.refl [] w2).alloc (.cells (madeCells #[.int .i64 0] d.length) 3))
  have hnb := heap_alloc_new (w2.alloc (.cells (madeCells #[.int .i64 0] d.length) 3)) (.map #[] 0)
  rw [World.size_alloc] at hnb
  have hst := storeP _ _ [] 0 (show _ = some (Obj.map (esI []).toArray ([] : List Int).length) from hnb) (by simp) (by unfold SmI; omega) (by simp)
  have hI0 : DdI d w2.heap.size w2 0 (w2.heap.size + 1) [] [0] (((w2.alloc (.cells (madeCells #[.int .i64 0] d.length) 3)).alloc (.map #[] 0)).putObj (w2.heap.size + 1) (.map (esI (insI [] 0)).toArray (insI [] 0).length)) := by
    have hg3 : Gr [w2.heap.size + 1] ((w2.alloc (.cells (madeCells #[.int .i64 0] d.length) 3)).alloc (.map #[] 0)) (((w2.alloc (.cells (madeCells #[.int .i64 0] d.length) 3)).alloc (.map #[] 0)).putObj (w2.heap.size + 1) (.map (esI (insI [] 0)).toArray (insI [] 0).length)) := Gr.putObj _ _ _
    refine ⟨(hA.alloc _).step hg3 (fun i hi => .inr (by simp at hi; omega)), hg3.obj (((Gr.refl [] _).alloc _).obj ((heap_alloc_new w2 _).trans (by rw [fillC_zero])) (by simp)) (by simp), ?_, rfl, by unfold SmI; simp, by simp, by omega, rfl⟩
    exact World.putObj_heap_same (by simp)
  have HI0 := hid hI0
  clear hnb hA hI0
  go_wp2_with fail
  go_loopw [5, 25] (fun met u wr => ∃ (i b : Nat) (dn : List Nat) (xs : List Int), i ≤ d.length ∧ met = .map (some b) ∧ u = .int .i64 i ∧ DdI d w2.heap.size w2 i b dn xs wr) (fun _ u _ => d.length - (intOf u).toNat)
  case atStart => exact ⟨0, _, [], [0], by omega, rfl, rfl, HI0.out⟩
  case round =>
    obtain ⟨wv, rfl⟩ : ∃ wv, wv = wr := ⟨_, rfl⟩
    obtain ⟨i, b, dn, xs, hi, rfl, rfl, hI⟩ := hrel
    have HI := hid hI
    clear hI hst
    by_cases hlt : i < d.length
    · obtain ⟨L, hL⟩ := get_some hlt
      have hlay := HD.out.lay i L hL
      have hd2 := (Hx.out.gr Hg2.out).at3 hL
      obtain ⟨bd, od, lo, lc, rfl, -, hcell0, ⟨hl1, hl2⟩, hLv⟩ := hd2
      have hcellL := HI.out.gr.cell hcell0 (by simp)
      have HLv := hid hLv
      clear hcell0 hLv
      have hsm : ∀ r ∈ L, r.length = 6 ∧ ∀ x ∈ r, SmI x := fun r hr => by
        obtain ⟨k1, k2⟩ := hlay.2 r hr
        refine ⟨k1, fun x hx => ?_⟩
        have h3 := k2 x hx
        have h4 : ((d[i + 1]?).map List.length).getD 1 ≤ 216 := by
          cases hq : d[i + 1]? with
          | none => simp
          | some N => have := (HD.out.lay _ N hq).1; simp; omega
        unfold SmI; omega
      have Hsm := hid hsm
      clear hsm
      have HL := hid hL; have Hlay := hid hlay
      obtain ⟨P, hP⟩ : ∃ P, P = waysP d (i + 1) := ⟨_, rfl⟩
      have HP := hid hP
      have hPm : ((pathsP d).map ints)[i + 1]? = some (ints P) := by rw [List.getElem?_map, waysP_get (by omega), ← hP]; rfl
      obtain ⟨bm, om, mo, mc, rfl, -, hcellM0, ⟨hm1, hm2⟩, hMn⟩ := Hr.out.at3 hPm
      rw [ints_len] at hcellM0 hm1 hMn
      have HMn := hid hMn; have HcM := hid hcellM0
      clear hMn hcellM0 hPm
      have hJ0 : Dd2 d.length w2.heap.size wv.heap.size dn (layE xs P (L.take 0)) (wv.alloc (.map #[] 0)) (wv.alloc (.map #[] 0)) :=
        ⟨Gr.refl _ _, ((Gr.refl [] wv).alloc _).obj HI.out.out (by simp), heap_alloc_new wv _⟩
      have HJ0 := hid hJ0
      have hgv : ∀ wz, Gr [w2.heap.size, wv.heap.size] (wv.alloc (.map #[] 0)) wz → Gr [] w2 wz := fun wz h => (HI.out.gr.alloc _).step h (fun i hi => .inr (by
        have := HI.out.gr.size
        simp at hi; omega))
      have Hgv := hid hgv
      clear hL hlay hP hJ0 hgv
      go_wp2_with fail
      clear hcellL
      go_loopw [33] (fun u wz => ∃ k : Nat, k ≤ L.length ∧ u = .int .i64 k ∧ Dd2 d.length w2.heap.size wv.heap.size dn (layE xs P (L.take k)) (wv.alloc (.map #[] 0)) wz) (fun u _ => L.length - (intOf u).toNat)
      case atStart => exact ⟨0, by omega, rfl, HJ0.out⟩
      case round =>
        obtain ⟨wz, rfl⟩ : ∃ wz, wz = wr := ⟨_, rfl⟩
        obtain ⟨k, hk, rfl, hJ⟩ := hrel
        have HJ := hid hJ
        have hgz := Hgv.out _ hJ.gr
        have Hgz := hid hgz
        clear hJ
        by_cases hkl : k < L.length
        · obtain ⟨row, hrw⟩ := get_some hkl
          obtain ⟨b1, o1, ro, rc, rfl, -, hcell0, ⟨hr1, hr2⟩, hnum⟩ := HLv.out.at3 hrw
          have hcell1 := hgz.cell hcell0 (by simp)
          have Hnum := hid hnum; have Hrw := hid hrw
          clear hcell0 hnum hrw hgz
          go_wp2_with fail
          clear hcell1
          have h6 := Hlay.out.2 row (List.mem_of_getElem? Hrw.out)
          have H6 := hid h6
          clear h6
          go_loopw [40] (fun u ww => ∃ t : Nat, t ≤ row.length ∧ u = .int .i64 t ∧ Dd2 d.length w2.heap.size wv.heap.size dn (rowE xs P k (row.take t) (layE xs P (L.take k))) (wv.alloc (.map #[] 0)) ww) (fun u _ => row.length - (intOf u).toNat)
          case atStart => exact ⟨0, by omega, rfl, by rw [List.take_zero]; exact HJ.out⟩
          case round =>
            obtain ⟨ww, rfl⟩ : ∃ ww, ww = wr := ⟨_, rfl⟩
            obtain ⟨t, ht, rfl, hK⟩ := hrel
            have HK := hid hK
            have hgw := Hgv.out _ hK.gr
            clear hK
            by_cases htl : t < row.length
            · obtain ⟨to, hto⟩ := get_some htl
              obtain ⟨b3, o3, rfl, -, hcell3⟩ := (Hnum.out.gr hgw).at hto
              have hsnoc := rowE_snoc (met := xs) (P := P) (k := k) hto (layE xs P (L.take k))
              have hto1 := H6.out.2 to (List.mem_of_getElem? hto)
              have hmb := HK.out.gr.obj (((Gr.refl [] wv).alloc (.map #[] 0)).obj HI.out.map (by simp)) (by have := HI.out.nb; have := (Array.getElem?_eq_some_iff.1 HI.out.map).1; simp; omega)
              have hlk := lookupI ww b xs (k : Int) hmb HI.out.sm (by unfold SmI; have := Hlay.out.1; omega)
              have hcM := hgw.cell HcM.out (by simp)
              obtain ⟨st, hst⟩ : ∃ st, st = rowE xs P k (row.take t) (layE xs P (L.take k)) := ⟨_, rfl⟩
              rw [← hst] at HK hsnoc
              have Hst := hid hst; have Hsn := hid hsnoc; have Hgw := hid hgw; have Hto := hid hto
              clear hst hsnoc hgw hto hmb
              by_cases hkx : (k : Int) ∈ xs
              · rw [decide_eq_true hkx] at hlk
                by_cases hneg : to < 0
                · have hn1 : to = -1 := by omega
                  subst hn1
                  have hs : stepE xs P k st (-1, t) = st := by unfold stepE hitE; simp
                  have Hs := hid hs
                  clear hs hkx
                  go_wp2_with fail
                  refine ⟨⟨t + 1, by omega, by go_num, by rw [Hsn.out, Hs.out]; exact HK.out⟩, by simp [intOf]; omega⟩
                · obtain ⟨tn, rfl⟩ := Int.eq_ofNat_of_zero_le (show 0 ≤ to by omega)
                  have htn : tn < P.length := by have := HP.out ▸ waysP_len (d := d) (j := i + 1) (by omega); omega
                  obtain ⟨pv, hp⟩ := get_some htn
                  obtain ⟨b4, o4, rfl, -, hcell4⟩ := (HMn.out.gr Hgw.out).at (i := tn) (x := (pv : Int)) (by rw [ints_get, hp]; rfl)
                  have hpd : P.getD tn 0 = pv := by simp [List.getD_eq_getElem?_getD, hp]
                  by_cases hp0 : 0 < pv
                  · have hs : stepE xs P k st ((tn : Int), t) = (st.1 ||| 2 ^ t, insI st.2 (tn : Int)) := by
                      unfold stepE hitE
                      rw [Int.toNat_natCast, hpd, decide_eq_true hkx, decide_eq_true (show (0 : Int) ≤ (tn : Int) by omega), decide_eq_true hp0]; rfl
                    have Hs := hid hs
                    have fo := fld HK.out.out
                    have foF := fldF HK.out.out
                    have fgt := fillC_get (n := d.length) (y := st.1) HI.out.dl hlt
                    clear hs hkx hp hpd
                    go_wp2_with fail
                    go_region
                    have hE : EOk (6 * k + t) st := by
                      rw [Hst.out]
                      exact (EOk.lay Hsm.out k hk).row (by rw [H6.out.1]; exact Nat.le_refl _) (Hsm.out row (List.mem_of_getElem? Hrw.out)).2 t ht
                    have ht6 : t < 6 := by have := H6.out.1; omega
                    rw [Nat.min_eq_left (show t ≤ 64 by omega), or_shl hE.lt ht6]
                    have hg9 : Gr [w2.heap.size, wv.heap.size] ww (ww.setCell ⟨w2.heap.size, i, none⟩ (.int .i64 ((st.1 ||| 2 ^ t : Nat) : Int))).drew := ((Gr.refl _ _).setCell _ _ (.inl (by simp))).drew
                    have hg9b : Gr [w2.heap.size] ww (ww.setCell ⟨w2.heap.size, i, none⟩ (.int .i64 ((st.1 ||| 2 ^ t : Nat) : Int))).drew := ((Gr.refl _ _).setCell _ _ (.inl (by simp))).drew
                    have ho9 : (ww.setCell ⟨w2.heap.size, i, none⟩ (.int .i64 ((st.1 ||| 2 ^ t : Nat) : Int))).drew.heap[w2.heap.size]? = some (.cells (fillC d.length dn (st.1 ||| 2 ^ t)) 3 (0, 0)) := by
                      have := cells_sto HK.out.out i (.int .i64 ((st.1 ||| 2 ^ t : Nat) : Int))
                      rw [fillC_set HI.out.dl] at this
                      exact this
                    have hvs : w2.heap.size < wv.heap.size := by
                      have h1 := HI.out.nb; have h2 := (Array.getElem?_eq_some_iff.1 HI.out.map).1; omega
                    have hm9 := hg9b.obj HK.out.map (by simp; omega)
                    obtain ⟨W9, hW9⟩ : ∃ W9, W9 = (ww.setCell ⟨w2.heap.size, i, none⟩ (.int .i64 ((st.1 ||| 2 ^ t : Nat) : Int))).drew := ⟨_, rfl⟩
                    rw [← hW9] at hg9 ho9 hm9 ⊢
                    have hst9 := storeP W9 _ st.2 (tn : Int) hm9 hE.sm (by have := (Hsm.out row (List.mem_of_getElem? Hrw.out)).2 (tn : Int) (List.mem_of_getElem? Hto.out); exact this) (by have := hE.len; have := Hlay.out.1; omega)
                    have Hg9 := hid hg9; have Ho9 := hid ho9; have Hm9 := hid hm9
                    clear hW9 hg9 hg9b ho9 hm9 hE fo foF fgt hlk hcell3 hcM
                    go_wp2_with fail
                    refine ⟨⟨t + 1, by omega, by go_num, ?_⟩, by simp [intOf]; omega⟩
                    rw [Hsn.out, Hs.out]
                    have hgp : Gr [wv.heap.size] W9 (W9.putObj wv.heap.size (.map (esI (insI st.2 (tn : Int))).toArray (insI st.2 (tn : Int)).length)) := Gr.putObj _ _ _
                    exact ⟨(HK.out.gr.trans Hg9.out).trans (hgp.sub (fun k _ h => by simp at h ⊢; exact .inr h)), hgp.obj Ho9.out (by simp; omega), World.putObj_heap_same (Array.getElem?_eq_some_iff.1 Hm9.out).1⟩
                  · have hpz : pv = 0 := by omega
                    subst hpz
                    have hs : stepE xs P k st ((tn : Int), t) = st := by
                      unfold stepE hitE
                      rw [Int.toNat_natCast, hpd]; simp
                    have Hs := hid hs
                    clear hs hkx hp hpd hp0
                    go_wp2_with fail
                    refine ⟨⟨t + 1, by omega, by go_num, by rw [Hsn.out, Hs.out]; exact HK.out⟩, by simp [intOf]; omega⟩
              · rw [decide_eq_false hkx] at hlk
                have hs : stepE xs P k st (to, t) = st := by unfold stepE hitE; rw [decide_eq_false hkx]; rfl
                have Hs := hid hs
                clear hs hkx
                go_wp2_with fail
                refine ⟨⟨t + 1, by omega, by go_num, by rw [Hsn.out, Hs.out]; exact HK.out⟩, by simp [intOf]; omega⟩
            · have hte : t = row.length := by omega
              subst hte
              have hk2 := HK.out
              rw [List.take_length, ← layE_snoc Hrw.out] at hk2
              have HK2 := hid hk2
              clear hk2 hgw
              go_wp2_with fail
              exact ⟨⟨k + 1, by omega, by go_num, HK2.out⟩, by simp [intOf]; omega⟩
        · have hke : k = L.length := by omega
          subst hke
          have hj := HJ.out
          rw [List.take_length] at hj
          have hE := EOk.lay (met := xs) (P := P) Hsm.out L.length (Nat.le_refl _)
          rw [List.take_length] at hE
          obtain ⟨st, hst⟩ : ∃ st, st = layE xs P L := ⟨_, rfl⟩
          have hsem := HI.out.sem
          have hdr : d.drop i = L :: d.drop (i + 1) := by
            have h1 := (List.getElem?_eq_some_iff.1 HL.out).1
            rw [List.drop_eq_getElem_cons h1]
            congr 1
            exact (List.getElem?_eq_some_iff.1 HL.out).2
          have hPw : (pathsP (d.drop (i + 1))).headD [] = P := by rw [HP.out]; rfl
          rw [hdr, domsP, hPw, ← hst] at hsem
          rw [← hst] at hj hE
          have hvs : w2.heap.size < wv.heap.size := by
            have h1 := HI.out.nb; have h2 := (Array.getElem?_eq_some_iff.1 HI.out.map).1; omega
          have hnew : DdI d w2.heap.size w2 (i + 1) wv.heap.size (dn ++ [st.1]) st.2 wz :=
            ⟨hgz, by rw [← fillC_next]; exact hj.out, hj.map, by rw [List.length_append, HI.out.dl]; rfl, hE.sm, by have := hE.len; have := Hlay.out.1; omega, hvs, by rw [hsem]; simp⟩
          have Hnew := hid hnew
          clear hj hE hst hsem hdr hPw hvs hnew hgz
          go_wp2_with fail
          exact ⟨⟨i + 1, _, _, _, by omega, rfl, by go_num, Hnew.out⟩, by simp [intOf]; omega⟩
    · have hie : i = d.length := by omega
      subst hie
      have hI2 := HI.out
      have hsem := hI2.sem
      rw [List.drop_length, domsP, List.append_nil] at hsem
      have hout := hI2.out
      rw [fillC_end 0 hI2.dl] at hout
      have Hsem := hid hsem; have Hout := hid hout
      have hdl := hI2.dl
      clear hsem hout hI2
      go_wp2_with fail
      go_ret
      refine ⟨.slice (some ⟨w2.heap.size, 0, none⟩) d.length d.length, rfl, ?_, Hg2.out.trans HI.out.gr⟩
      rw [Hsem.out]
      refine ⟨some ⟨w2.heap.size, 0, none⟩, d.length, by rw [ints_len, hdl], by rw [ints_len, hdl]; simp; omega, fun j x hj => ⟨w2.heap.size, 0, rfl, by simp, ?_⟩⟩
      simp [World.cell?, Hout.out, hj]
end Go.Proofs.YtmonhpoogfdpoaaGreat
