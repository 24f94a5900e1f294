/-
  Walks of LowerBound: the program's and the reference's.
-/
import Derived.Test.YtilcicoekpmelaaDoorPLq
import Derived.Test.YtilcicoekpmelaaDoorPLt2
import Derived.Test.YtilcicoekpmelaaDoorPM4M5
import Derived.Test.YtilcicoekpmelaaDoorPEO
set_option linter.unusedVariables false
set_option linter.unusedSimpArgs false
namespace Go.Proofs.YtilcicoekpmelaaDoor
open Go.RowKit

theorem tz_lst : ∀ d : Nat, d < 64 → d ≠ 0 → (tzN d : Int) = lst d ∧ ((Nat.log2 d : Nat) : Int) = mst d := by decide +kernel
theorem vals_ends : ∀ d : Nat, d < 64 → d ≠ 0 → 1 ≤ (vals d).length ∧ (vals d)[0]? = some (lst d) ∧ (vals d)[(vals d).length - 1]? = some (mst d) := by decide +kernel
theorem mul45 {a v : Int} (ha : -9 ≤ a ∧ a ≤ 9) (hv : 0 ≤ v ∧ v ≤ 5) : -45 ≤ a * v ∧ a * v ≤ 45 := by
  have : v = 0 ∨ v = 1 ∨ v = 2 ∨ v = 3 ∨ v = 4 ∨ v = 5 := by omega
  rcases this with rfl | rfl | rfl | rfl | rfl | rfl <;> omega


set_option maxRecDepth 100000 in
theorem lowest_c (d : List Nat) (o : List Int) (dv ov : Value) (w : World) (hdv : Nums [] w .i64 dv (ints d)) (ho : Nums [] w .i64 ov o) (hl : o.length = d.length) (hb : Below64 d) (h0 : 0 ∉ d) (hs : ∀ a ∈ o, -9 ≤ a ∧ a ≤ 9) (h4 : d.length ≤ 4) (hT : Tab w) :
    Calls Tryd.prog 36 #[dv, ov] w fun e w' => e = .returned (.int .i64 (lowS o d)) ∧ Gr [] w w' := by
  have Hb := hid hb; have H0 := hid h0; have Hs := hid hs; have HT := hid hT; have Hdv := hid hdv; have Ho := hid ho; have Hl := hid hl
  obtain ⟨ao, cap, rfl, ⟨hla, hlb, -⟩, -⟩ := hdv
  obtain ⟨bo, cap', rfl, ⟨hlc, hcm, -⟩, -⟩ := ho
  have hil : (ints d).length = d.length := ints_len d
  have Hil := hid hil
  have hol4 : o.length ≤ 4 := by omega
  clear hb h0 hs hT hl hil
  go_enter Tryd.func36, Tryd.ntmps36
  go_wp2_with fail
  go_loopw [5, 10] (fun s i wr => ∃ (n : Nat) (t : Int), n ≤ o.length ∧ i = .int .i64 n ∧ s = .int .i64 t ∧ t = lowS (o.take n) (d.take n) ∧ Gr [] w wr) (fun _ i _ => o.length - (intOf i).toNat)
  case atStart => exact ⟨0, 0, Nat.zero_le _, rfl, rfl, by simp [lowS], Gr.refl _ _⟩
  case round =>
    obtain ⟨n, t, hn, rfl, rfl, ht, hg⟩ := hrel
    by_cases hlt : n < o.length
    · obtain ⟨a, ha⟩ := get_some hlt
      obtain ⟨e, he⟩ := get_some (xs := d) (k := n) (by have := Hl.out; omega)
      have hei : (ints d)[n]? = some (e : Int) := by rw [ints_get, he]; rfl
      obtain ⟨b1, o1, e1, -, hc1⟩ := (Ho.out.gr hg).at ha
      subst e1
      obtain ⟨b2, o2, e2, -, hc2⟩ := (Hdv.out.gr hg).at hei
      subst e2
      have hnx : n < (ints d).length := by have := Hil.out; have := Hl.out; omega
      have hsm := lowS_small Hs.out Hb.out n
      rw [← ht] at hsm
      have he64 : e < 64 := Hb.out e (List.mem_of_getElem? he)
      have he0 : e ≠ 0 := fun h => H0.out (h ▸ List.mem_of_getElem? he)
      have hlk := tz_lst e he64 he0
      have hbd := (lst_mst e he64).2
      have hsu := lowS_succ ha he
      rw [← ht] at hsu
      have ha9 := Hs.out a (List.mem_of_getElem? ha)
      have HM := hid (most_c e he64 he0)
      have HL := hid (fun wx (h : Gr [] wr wx) => least_c e he64 he0 wx ((HT.out.gr hg).gr h))
      obtain ⟨M, hM⟩ : ∃ M, M = mst e := ⟨_, rfl⟩
      obtain ⟨L, hL⟩ : ∃ L, L = lst e := ⟨_, rfl⟩
      rw [hlk.2] at HM
      rw [hlk.1] at HL
      rw [← hM] at HM hsu hbd
      rw [← hL] at HL hsu hbd
      have hmM := mul45 ha9 hbd.2
      have hmL := mul45 ha9 hbd.1
      obtain ⟨pM, hpM⟩ : ∃ p, p = a * M := ⟨_, rfl⟩
      obtain ⟨pL, hpL⟩ : ∃ p, p = a * L := ⟨_, rfl⟩
      have hpM' := hpM.symm; have hpL' := hpL.symm
      rw [← hpM, ← hpL] at hsu
      rw [← hpM] at hmM
      rw [← hpL] at hmL
      have Hsu := hid hsu; have Hg := hid hg
      clear ha he hei hlk hsu ht hM hL hpM hpL hg
      by_cases hneg : a < 0
      · have hdn : decide (a < 0) = true := decide_eq_true hneg
        have hsu := Hsu.out
        rw [if_pos hneg] at hsu
        have HS := hid hsu
        clear hsu Hsu hpL'
        go_wp2_with (go_at_call 54; refine (HM.out _).mono ?_; rintro e' w2 ⟨rfl, hg2⟩)
        exact ⟨⟨n + 1, t + pM, by omega, by go_num, rfl, HS.out.symm, Hg.out.trans hg2⟩, by simp [intOf]; omega⟩
      · have hdn : decide (a < 0) = false := decide_eq_false hneg
        have hsu := Hsu.out
        rw [if_neg hneg] at hsu
        have HS := hid hsu
        clear hsu Hsu hpM'
        go_wp2_with (go_at_call 55; refine (HL.out _ (Gr.refl _ _)).mono ?_; rintro e' w2 ⟨rfl, hg2⟩)
        exact ⟨⟨n + 1, t + pL, by omega, by go_num, rfl, HS.out.symm, Hg.out.trans hg2⟩, by simp [intOf]; omega⟩
    · go_wp2_with fail
      go_ret
      refine ⟨ret_int ?_, hg⟩
      rw [ht, List.take_of_length_le (by omega), List.take_of_length_le (by have := Hl.out; omega)]


set_option maxRecDepth 100000 in
theorem boundBy_c (d : List Nat) (o : List Int) (dv ov : Value) (w : World) (hdv : Nums [] w .i64 dv (ints d)) (ho : Nums [] w .i64 ov o) (hl : o.length = d.length) (hb : Below64 d) (hs : ∀ a ∈ o, -9 ≤ a ∧ a ≤ 9) (h4 : d.length ≤ 4) (hT : Tab w) :
    Calls Tryd.prog 20 #[dv, ov] w fun e w' => e = .returned (.tuple #[.int .i64 (if 0 ∈ d then 0 else lowS o d), .bool (decide (0 ∉ d))]) ∧ Gr [] w w' := by
  have Hb := hid hb; have Hs := hid hs; have HT := hid hT; have Hdv := hid hdv; have Ho := hid ho
  obtain ⟨ao, cap, rfl, ⟨hla, hlb, -⟩, -⟩ := hdv
  obtain ⟨bo, cap', rfl, ⟨hlc, hcm, -⟩, -⟩ := ho
  have hm : memB 0 (ints d) = decide (0 ∈ d) := by
    unfold memB
    rw [decide_eq_decide, ints_mem]
    exact ⟨fun ⟨e, h1, h2⟩ => by have : e = 0 := by omega
                                 exact this ▸ h1, fun h => ⟨0, h, rfl⟩⟩
  have Hm := hid hm; have Hl := hid hl
  clear hb hs hT hm hl
  go_enter Tryd.func20, Tryd.ntmps20
  go_wp2_with fail
  have hcall := containsInt_c (ints d) 0 _ w Hdv.out
  (with_reducible refine hcall.mono ?_)
  clear hcall
  rw [Hm.out]
  rintro e w1 ⟨rfl, hg1⟩
  by_cases h0 : 0 ∈ d
  · have hd0 : decide (0 ∈ d) = true := decide_eq_true h0
    rw [hd0]
    go_wp2_with fail
    go_ret2
    exact ⟨by first | rfl | (simp [h0]; done), hg1⟩
  · have hd0 : decide (0 ∈ d) = false := decide_eq_false h0
    rw [hd0]
    have H0 := hid h0
    clear h0 hd0
    go_wp2_with fail
    have hcall := lowest_c d o _ _ w1 (Hdv.out.gr hg1) (Ho.out.gr hg1) Hl.out Hb.out H0.out Hs.out h4 (HT.out.gr hg1)
    (with_reducible refine hcall.mono ?_)
    clear hcall
    rintro e w2 ⟨rfl, hg2⟩
    go_wp2_with fail
    go_ret2
    have h0 := H0.out
    exact ⟨by first | rfl | (simp [h0]; done), hg1.trans hg2⟩


set_option maxRecDepth 100000 in
theorem LowerBound_c (m : Mod) (D : List Nat) (o : List Int) (mv ov : Value) (w : World) (hv : ModV [] w mv m) (hD : validM m = true → VM m D) (ho : Nums [] w .i64 ov o) (hT : Tab w) :
    Calls Tryd.prog 8 #[mv, ov] w fun e w' => e = .returned (.tuple #[.int .i64 ((lowO m D o).getD 0), .bool (lowO m D o).isSome]) ∧ Gr [] w w' := by
  have Hv := hid hv; have HD := hid hD; have Ho := hid ho; have HT := hid hT
  have Hdm := hid hv
  obtain ⟨xo, xc, co, cc, rfl⟩ := hv.slices
  obtain ⟨oo, oc, rfl, -, -⟩ := ho
  have hg0 : Gr [] w (w.alloc (.cells #[.slice xo m.doms.length xc, .slice co m.cons.length cc] 31)) := (Gr.refl _ _).alloc _
  have hb0 : (w.alloc (.cells #[.slice xo m.doms.length xc, .slice co m.cons.length cc] 31)).heap[w.heap.size]? = some (.cells #[.slice xo m.doms.length xc, .slice co m.cons.length cc] 31 (0, 0)) := heap_alloc_new _ _
  have fl0 := fld hb0
  have Hg0 := hid hg0; have Hb0 := hid hb0
  clear hv hg0 hb0 hD hT
  go_enter Tryd.func8, Tryd.ntmps8
  go_wp2_with fail
  have hcall := objectiveOk_c m o _ _ _ (Hv.out.gr Hg0.out) (Ho.out.gr Hg0.out)
  (with_reducible refine hcall.mono ?_)
  clear hcall
  rintro e w1 ⟨rfl, hg1⟩
  have Hg1 := hid (Hg0.out.trans hg1)
  have fl1 := fld (hg1.obj Hb0.out (by simp))
  clear fl0 hg1
  cases hok : (validM m && objB o m.doms.length)
  · have Hn := hid (lowO_no (D := D) hok)
    clear hok
    go_wp2_with fail
    go_ret2
    rw [Hn.out]
    exact ⟨rfl, Hg1.out⟩
  have Hy := hid (lowO_yes (D := D) hok)
  rw [Bool.and_eq_true] at hok
  have HVM := hid (HD.out hok.1); have Hob := hid (obj_len hok.2)
  have HDL : Hid (m.doms.length = D.length) := hid (by rw [HVM.out.doms, ints_len])
  have HX : Hid (Nums [] w .i64 (.slice xo m.doms.length xc) (ints D)) := hid (by
    have h := Hv.out
    obtain ⟨a, b, h1, h2, -⟩ := h
    simp only [Value.agg.injEq, Array.mk.injEq, List.cons.injEq, and_true] at h1
    obtain ⟨rfl, rfl⟩ := h1
    rw [HVM.out.doms] at h2 ⊢
    exact h2)
  clear hok
  go_wp2_with fail
  have hcall := propagate_c m D _ _ w1 (Hv.out.gr Hg1.out) (HX.out.gr Hg1.out) HVM.out.cons HVM.out.below (by have := HVM.out.len; omega)
  (with_reducible refine hcall.mono ?_)
  clear hcall
  rintro e w2 ⟨v2, rfl, hown2, hg2⟩
  have Hn2 : Hid (Nums [] w2 .i64 v2 (ints (fix m.cons D))) := hid ((OwnC.numsM hown2).nums (by simp))
  obtain ⟨ao, ac, rfl, -, -⟩ := id Hn2.out
  have Hg2 := hid (Hg1.out.trans hg2)
  clear hown2 hg2 fl1
  go_wp2_with fail
  have hcall := boundBy_c (fix m.cons D) o _ _ w2 Hn2.out (Ho.out.gr Hg2.out) (by rw [fix_len HVM.out.cons, ← HDL.out]; exact Hob.out.1) (fix_below HVM.out.cons HVM.out.below) Hob.out.2 (by rw [fix_len HVM.out.cons]; have := HVM.out.len; omega) (HT.out.gr Hg2.out)
  (with_reducible refine hcall.mono ?_)
  clear hcall
  rintro e w3 ⟨rfl, hg3⟩
  obtain ⟨BD, hBD⟩ : ∃ BD : Int, BD = if 0 ∈ fix m.cons D then 0 else lowS o (fix m.cons D) := ⟨_, rfl⟩
  obtain ⟨BK, hBK⟩ : ∃ BK : Bool, BK = decide (0 ∉ fix m.cons D) := ⟨_, rfl⟩
  rw [← hBD, ← hBK]
  have HBD := hid hBD; have HBK := hid hBK
  clear hBD hBK
  go_wp2_with fail
  go_ret2
  rw [Hy.out]
  refine ⟨?_, Hg2.out.trans hg3⟩
  rw [HBD.out, HBK.out]
  by_cases h0 : 0 ∈ fix m.cons D
  · rw [if_pos h0, if_pos h0, show decide (0 ∉ fix m.cons D) = false from decide_eq_false (fun h => h h0)]
    rfl
  · rw [if_neg h0, if_neg h0, show decide (0 ∉ fix m.cons D) = true from decide_eq_true h0]
    rfl


set_option maxRecDepth 100000 in
set_option maxHeartbeats 2000000 in
theorem specLowerBound_c (m : Mod) (D : List Nat) (o : List Int) (mv ov : Value) (w : World) (hv : ModV [] w mv m) (hD : validM m = true → VM m D) (hs : m.Small) (ho : Nums [] w .i64 ov o) :
    Calls Tryd.prog 5 #[mv, ov] w fun e w' => e = .returned (.tuple #[.int .i64 ((lowO m D o).getD 0), .bool (lowO m D o).isSome]) ∧ Gr [] w w' := by
  have Hv := hid hv; have HD := hid hD; have Ho := hid ho; have Hs := hid hs
  obtain ⟨xo, xc, co, cc, rfl⟩ := hv.slices
  obtain ⟨oo, oc, rfl, ⟨hlc, hcm, -⟩, -⟩ := ho
  have hg0 : Gr [] w (w.alloc (.cells #[.slice xo m.doms.length xc, .slice co m.cons.length cc] 31)) := (Gr.refl _ _).alloc _
  have hb0 : (w.alloc (.cells #[.slice xo m.doms.length xc, .slice co m.cons.length cc] 31)).heap[w.heap.size]? = some (.cells #[.slice xo m.doms.length xc, .slice co m.cons.length cc] 31 (0, 0)) := heap_alloc_new _ _
  have fl0 := fld hb0
  have Hg0 := hid hg0; have Hb0 := hid hb0
  clear hv hg0 hb0 hD hs
  go_enter Tryd.func5, Tryd.ntmps5
  go_wp2_with fail
  have hcall := specValidModel_c m _ _ (Hv.out.gr Hg0.out) Hs.out
  (with_reducible refine hcall.mono ?_)
  clear hcall
  rintro e w1 ⟨rfl, hg1⟩
  have fl1 := fld (hg1.obj Hb0.out (by simp))
  have Hb1 := hid (hg1.obj Hb0.out (by simp))
  have Hg1 := hid (Hg0.out.trans hg1)
  clear fl0 hg1
  cases hval : validM m
  · have Hn := hid (lowO_no (D := D) (o := o) (show (validM m && objB o m.doms.length) = false by rw [hval]; rfl)); clear hval
    go_wp2_with fail
    go_ret2
    rw [Hn.out]
    exact ⟨rfl, Hg1.out⟩
  have HVM := hid (HD.out hval)
  have Hval := hid hval
  clear hval
  go_wp2_with fail
  have hcall := validObjective_c m o _ _ w1 (Hv.out.gr Hg1.out) (Ho.out.gr Hg1.out)
  (with_reducible refine hcall.mono ?_)
  clear hcall
  rintro e w2 ⟨rfl, hg2⟩
  have fl2 := fld (hg2.obj Hb1.out (by simp))
  have Hg2 := hid (Hg1.out.trans hg2)
  clear fl1 hg2
  cases hob : objB o m.doms.length
  · have Hn := hid (lowO_no (D := D) (o := o) (show (validM m && objB o m.doms.length) = false by rw [hob]; simp)); clear hob
    go_wp2_with fail
    go_ret2
    rw [Hn.out]
    exact ⟨rfl, Hg2.out⟩
  have Hy := hid (lowO_yes (D := D) (show (validM m && objB o m.doms.length) = true by rw [Hval.out, hob]; rfl))
  have Hob := hid (obj_len hob)
  have HDL : Hid (m.doms.length = D.length) := hid (by rw [HVM.out.doms, ints_len])
  have HX : Hid (Nums [] w .i64 (.slice xo m.doms.length xc) (ints D)) := hid (by
    have h := Hv.out
    obtain ⟨a, b, h1, h2, -⟩ := h
    simp only [Value.agg.injEq, Array.mk.injEq, List.cons.injEq, and_true] at h1
    obtain ⟨rfl, rfl⟩ := h1
    rw [HVM.out.doms] at h2 ⊢
    exact h2)
  clear hob
  go_wp2_with fail
  have hcall := specFixpoint_c m D _ _ w2 (Hv.out.gr Hg2.out) (HX.out.gr Hg2.out) HVM.out.cons HVM.out.below (by have := HVM.out.len; omega)
  (with_reducible refine hcall.mono ?_)
  clear hcall
  rintro e w3 ⟨v3, rfl, hown3, hg3⟩
  obtain ⟨d, hd⟩ : ∃ d, d = fix m.cons D := ⟨_, rfl⟩
  rw [← hd] at hown3 Hy
  have Hb : Hid (Below64 d) := hid (by rw [hd]; exact fix_below HVM.out.cons HVM.out.below)
  have Hl : Hid (o.length = d.length) := hid (by rw [hd, fix_len HVM.out.cons, ← HDL.out]; exact Hob.out.1)
  have hil : (ints d).length = d.length := ints_len d
  have hol4 : o.length ≤ 4 := by have h1 := Hob.out.1; have h2 := HDL.out; have := HVM.out.len; omega
  have Hn3 := hid (hown3.nums (S := []) (by simp))
  obtain ⟨ao, ac, rfl, ⟨ha1, ha2, -⟩, -⟩ := id Hn3.out
  have Hg3 := hid (Hg2.out.trans hg3)
  have hm : memB 0 (ints d) = decide (0 ∈ d) := by
    unfold memB
    rw [decide_eq_decide, ints_mem]
    exact ⟨fun ⟨e, h1, h2⟩ => by have : e = 0 := by omega
                                 exact this ▸ h1, fun h => ⟨0, h, rfl⟩⟩
  have Hm := hid hm
  have hdo : (d.length : Int) = o.length := by have := Hl.out; omega
  have Hil := hid hil
  clear hown3 hg3 hd hm fl2 hdo hil
  go_wp2_with fail
  have hcall := hasEmpty_c (ints d) _ w3 Hn3.out
  (with_reducible refine hcall.mono ?_)
  clear hcall
  rw [Hm.out]
  rintro e w4 ⟨rfl, rfl⟩
  by_cases h0 : 0 ∈ d
  · have hd0 : decide (0 ∈ d) = true := decide_eq_true h0
    rw [hd0]
    have hy := Hy.out
    rw [if_pos h0] at hy
    have HY := hid hy
    clear hy Hy
    go_wp2_with fail
    go_ret2
    rw [HY.out]
    exact ⟨rfl, Hg3.out⟩
  have hd0 : decide (0 ∈ d) = false := decide_eq_false h0
  rw [hd0]
  have hy := Hy.out
  rw [if_neg h0] at hy
  have HY := hid hy
  have H0 := hid h0
  clear hy Hy h0 hd0
  go_wp2_with fail
  go_loopw [7, 8] (fun s i wr => ∃ (n : Nat) (t : Int), n ≤ (ints d).length ∧ i = .int .i64 n ∧ s = .int .i64 t ∧ t = lowS (o.take n) (d.take n) ∧ Gr [] w3 wr) (fun _ i _ => (ints d).length - (intOf i).toNat)
  case atStart => exact ⟨0, 0, Nat.zero_le _, rfl, rfl, by simp [lowS], Gr.refl _ _⟩
  case round =>
    obtain ⟨n, t, hn, rfl, rfl, ht, hg⟩ := hrel
    by_cases hlt : n < (ints d).length
    · obtain ⟨a, ha⟩ := get_some (xs := o) (k := n) (by have := Hl.out; have := Hil.out; omega)
      obtain ⟨e, he⟩ := get_some (xs := d) (k := n) (by have := Hil.out; omega)
      have hei : (ints d)[n]? = some (e : Int) := by rw [ints_get, he]; rfl
      obtain ⟨b2, o2, e2, -, hc2⟩ := (Hn3.out.gr hg).at hei
      subst e2
      have hnx : n < o.length := by have := Hil.out; have := Hl.out; omega
      have hsm := lowS_small Hob.out.2 Hb.out n
      rw [← ht] at hsm
      have he64 : e < 64 := Hb.out e (List.mem_of_getElem? he)
      have he0 : e ≠ 0 := fun h => H0.out (h ▸ List.mem_of_getElem? he)
      have hbd := (lst_mst e he64).2
      have hsu := lowS_succ ha he
      rw [← ht] at hsu
      have ha9 := Hob.out.2 a (List.mem_of_getElem? ha)
      have hends := vals_ends e he64 he0
      have hvl := vals_length e
      obtain ⟨M, hM⟩ : ∃ M, M = mst e := ⟨_, rfl⟩
      obtain ⟨L, hL⟩ : ∃ L, L = lst e := ⟨_, rfl⟩
      obtain ⟨zs, hzs⟩ : ∃ zs, zs = vals e := ⟨_, rfl⟩
      rw [← hM] at hsu hbd hends
      rw [← hL] at hsu hbd hends
      rw [← hzs] at hends hvl
      have hmM := mul45 ha9 hbd.2
      have hmL := mul45 ha9 hbd.1
      obtain ⟨pM, hpM⟩ : ∃ p, p = a * M := ⟨_, rfl⟩
      obtain ⟨pL, hpL⟩ : ∃ p, p = a * L := ⟨_, rfl⟩
      have hpM' := hpM.symm; have hpL' := hpL.symm
      rw [← hpM, ← hpL] at hsu
      rw [← hpM] at hmM
      rw [← hpL] at hmL
      obtain ⟨kz, hkz⟩ : ∃ kz, zs.length = kz + 1 := ⟨zs.length - 1, by have := hends.1; omega⟩
      have hz0 := hends.2.1
      have hz1 := hends.2.2
      rw [hkz, Nat.add_sub_cancel] at hz1
      have hki : (zs.length : Int) - 1 = (kz : Int) := by omega
      have hkl : kz < zs.length := by omega
      have h0l : 0 < zs.length := by omega
      have hk6 : kz ≤ 5 := by omega
      have HZ0 := hid hz0; have HZ1 := hid hz1; have Hzs := hid hzs; have Ha := hid ha
      have Hsu := hid hsu; have Hg := hid hg
      clear ha he hei hsu ht hM hL hpM hpL hg hends hz0 hz1 hzs hkz hvl
      go_wp2_with fail
      have hcall := domainValues_c e he64 wr
      (with_reducible refine hcall.mono ?_)
      clear hcall
      rw [← Hzs.out]
      rintro e' w5 ⟨v5, rfl, hown5, hg5⟩
      have hn5 := hown5.nums (S := []) (by simp)
      obtain ⟨zo, zc, rfl, ⟨hz1', hz2', -⟩, -⟩ := id hn5
      obtain ⟨b3, o3, e3, -, hc3⟩ := hn5.at HZ0.out
      subst e3
      obtain ⟨b4, o4, e4, -, hc4⟩ := hn5.at HZ1.out
      obtain ⟨rfl, rfl⟩ : b4 = b3 ∧ o4 = o3 := by simpa [eq_comm] using e4
      obtain ⟨b1, o1, e1, -, hc1⟩ := (Ho.out.gr ((Hg3.out.trans Hg.out).trans hg5)).at Ha.out
      subst e1
      have Hg5 := hid (Hg.out.trans hg5)
      simp only [Nat.add_zero] at hc3
      clear hn5 hown5 hg5 e4 hc2
      by_cases hneg : a < 0
      · have hdn : decide (a < 0) = true := decide_eq_true hneg
        have hsu := Hsu.out
        rw [if_pos hneg] at hsu
        have HS := hid hsu
        clear hsu Hsu hpL'
        go_wp2_with fail
        exact ⟨⟨n + 1, t + pM, by omega, by go_num, rfl, HS.out.symm, Hg5.out⟩, by simp [intOf]; omega⟩
      · have hdn : decide (a < 0) = false := decide_eq_false hneg
        have hsu := Hsu.out
        rw [if_neg hneg] at hsu
        have HS := hid hsu
        clear hsu Hsu hpM'
        go_wp2_with fail
        exact ⟨⟨n + 1, t + pL, by omega, by go_num, rfl, HS.out.symm, Hg5.out⟩, by simp [intOf]; omega⟩
    · go_wp2_with fail
      go_ret2
      rw [HY.out]
      refine ⟨?_, Hg3.out.trans hg⟩
      have h1 := Hl.out; have h2 := Hil.out
      rw [ht, List.take_of_length_le (by omega), List.take_of_length_le (by omega)]
      rfl

end Go.Proofs.YtilcicoekpmelaaDoor
