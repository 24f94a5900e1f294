/-
  Walks of the reference's soft constraints.
-/
import Derived.Test.YtngpcoilgilmjaaGreatSo
import Derived.Test.YtngpcoilgilmjaaGreatSy1
import Derived.Test.YtngpcoilgilmjaaGreatOb
set_option linter.unusedVariables false
set_option linter.unusedSimpArgs false
namespace Go.Proofs.YtngpcoilgilmjaaGreat
open Go.RowKit

structure SftsSmall (ss : List Sft) : Prop where
  len : ss.length ≤ 2000000
  con : ∀ s ∈ ss, s.con.Small
theorem softB_S {ss : List Sft} {n : Nat} (h : 1 ≤ n ∧ n ≤ 4) : softB ss n = (ss.all (softOneS n) && decide ((ss.length : Int) ≤ 4)) := by
  unfold softB
  rw [Bool.and_comm]
  congr 1
  congr 1
  funext s
  unfold softOne softOneS validCon
  rw [show inB 1 4 (n : Int) = true from inB_iff.2 (by omega)]
  rfl


set_option maxRecDepth 100000 in
set_option maxHeartbeats 1000000 in
theorem validSoft_c (ss : List Sft) (n : Nat) (sv : Value) (w : World) (hv : SftsV [] w sv ss) (hs : SftsSmall ss) (hn : 1 ≤ n ∧ n ≤ 4) :
    Calls Tryz.prog 52 #[sv, .int .i64 n] w fun e w' => e = .returned (.bool (softB ss n)) ∧ Gr [] w w' := by
  have Hv := hid hv; have Hs := hid hs
  obtain ⟨so, sc, rfl, hs1, hs2⟩ := hv.slice
  have HB := hid (softB_S (ss := ss) hn)
  clear hv hs
  go_enter Tryz.func52, Tryz.ntmps52
  go_wp2_with fail
  go_loopw [5] (fun i wr => ∃ k : Nat, k ≤ ss.length ∧ i = .int .i64 k ∧ (∀ s ∈ ss.take k, softOneS n s = true) ∧ Gr [] w wr) (fun i _ => ss.length - (intOf i).toNat)
  case atStart => exact ⟨0, Nat.zero_le _, rfl, by simp, Gr.refl _ _⟩
  case round =>
    obtain ⟨k, hk, rfl, hall, hg⟩ := hrel
    have Hall := hid hall; have Hg := hid hg
    clear hall
    by_cases hlt : k < ss.length
    · obtain ⟨s, hx⟩ := get_some hlt
      have hsm := Hs.out.con s (List.mem_of_getElem? hx)
      obtain ⟨b, o, vo, vc, xo, xc, ro, rc, rfl, -, ⟨h0, h1, h2, h3, h4, h5⟩, hcon⟩ := (Hv.out.gr hg).at hx
      have Hx := hid hx; have Hcon := hid hcon; have Hsm := hid hsm
      clear hx hcon hsm hg
      cases hw : inB 1 9 s.wt
      · have Hw := hid hw
        go_wp2_with (go_at_call 115; refine (inRange_c _ _ _ _).mono ?_; rintro e w' ⟨rfl, rfl⟩)
        go_ret
        refine ⟨ret_bool ?_, Hg.out⟩
        rw [HB.out]
        symm
        rw [Bool.and_eq_false_iff]
        left
        rw [List.all_eq_false]
        exact ⟨s, List.mem_of_getElem? Hx.out, by unfold softOneS; rw [Hw.out]; simp⟩
      · have Hw := hid hw
        go_wp2_with (go_at_call 115; refine (inRange_c _ _ _ _).mono ?_; rintro e w' ⟨rfl, rfl⟩)
        have hcall := specValidConstraint_c s.con n _ _ Hcon.out Hsm.out.vars (by omega)
        (with_reducible refine hcall.mono ?_)
        clear hcall
        rintro e w2 ⟨rfl, hg2⟩
        have Hg2 := hid (Hg.out.trans hg2)
        clear hg2
        cases hc : validConS s.con n
        · have Hc := hid hc
          clear hc
          go_wp2_with fail
          go_ret
          refine ⟨ret_bool ?_, Hg2.out⟩
          rw [HB.out]
          symm
          rw [Bool.and_eq_false_iff]
          left
          rw [List.all_eq_false]
          exact ⟨s, List.mem_of_getElem? Hx.out, by unfold softOneS; rw [Hc.out]; simp⟩
        · have Hc := hid hc
          clear hc
          go_wp2_with fail
          refine ⟨⟨k + 1, by omega, by go_num, ?_, Hg2.out⟩, by simp [intOf]; omega⟩
          intro t ht
          rw [List.take_add_one, Hx.out] at ht
          rcases List.mem_append.1 ht with h | h
          · exact Hall.out t h
          · simp at h; subst h; unfold softOneS; rw [Hw.out, Hc.out]; rfl
    · have hall' : ss.all (softOneS n) = true := by
        rw [List.all_eq_true]
        have := Hall.out
        rwa [List.take_of_length_le (by omega)] at this
      have Ha := hid hall'
      clear hg hall'
      go_wp2_with fail
      go_ret
      exact ⟨ret_bool (by rw [HB.out, Ha.out]; simp), Hg.out⟩


set_option maxRecDepth 100000 in
set_option maxHeartbeats 2000000 in
theorem specSoftCost_c (ss : List Sft) (x : List Int) (sv xv : Value) (w : World) (hv : SftsV [] w sv ss) (hx : Nums [] w .i64 xv x) (hw : ∀ s ∈ ss, (1 ≤ s.wt ∧ s.wt ≤ 9) ∧ VC s.con x.length) (hl : ss.length ≤ 4) (hr : ∀ y ∈ x, 0 ≤ y ∧ y ≤ 5) :
    Calls Tryz.prog 72 #[sv, xv] w fun e w' => e = .returned (.int .i64 (costN ss x)) ∧ Gr [] w w' := by
  have Hv := hid hv; have Hx := hid hx; have Hw := hid hw; have Hr := hid hr
  obtain ⟨so, sc, rfl, hs1, hs2⟩ := hv.slice
  obtain ⟨xo, xc, rfl, -, -⟩ := hx
  clear hv hw hr
  go_enter Tryz.func72, Tryz.ntmps72
  go_wp2_with fail
  go_loopw [5, 6] (fun s i wr => ∃ n : Nat, n ≤ ss.length ∧ i = .int .i64 n ∧ s = .int .i64 (costN (ss.take n) x) ∧ Gr [] w wr) (fun _ i _ => ss.length - (intOf i).toNat)
  case atStart => exact ⟨0, Nat.zero_le _, rfl, by simp [costN], Gr.refl _ _⟩
  case round =>
    obtain ⟨n, hn, rfl, rfl, hg⟩ := hrel
    have Hg := hid hg
    have hbd := costN_bd (ss := ss.take n) (fun s hs => (Hw.out s (List.mem_of_mem_take hs)).1) x
    rw [List.length_take] at hbd
    obtain ⟨A, hA⟩ : ∃ A, A = costN (ss.take n) x := ⟨_, rfl⟩
    rw [← hA] at hbd ⊢
    have HA := hid hA
    have hA1 : 0 ≤ A ∧ A ≤ 100 := by omega
    clear hA hbd
    by_cases hlt : n < ss.length
    · obtain ⟨s, hs⟩ := get_some hlt
      obtain ⟨b, o, vo, vc, xo', xc', ro, rc, rfl, -, ⟨h0, h1, h2, h3, h4, h5⟩, hcon⟩ := (Hv.out.gr hg).at hs
      have hwt := (Hw.out s (List.mem_of_getElem? hs)).1
      have HVC := hid (Hw.out s (List.mem_of_getElem? hs)).2
      have HS := hid (costN_succ hs x)
      have Hcon := hid hcon; have HXq := hid (Hx.out.gr hg)
      have H5 := hid h5
      have HT : Hid (∀ w', Gr [] wr w' → (w'.cell? ⟨b, o + n * 6, none⟩ = some (.int .i64 s.con.kind) ∧ w'.cell? ⟨b, o + n * 6 + 1, none⟩ = some (.slice vo s.con.vars.length vc) ∧ w'.cell? ⟨b, o + n * 6 + 2, none⟩ = some (.slice xo' s.con.args.length xc') ∧ w'.cell? ⟨b, o + n * 6 + 3, none⟩ = some (.int .i64 s.con.bound) ∧ w'.cell? ⟨b, o + n * 6 + 4, none⟩ = some (.slice ro s.con.rows.length rc)) ∧ Gr [] wr w') :=
        hid fun w' h => ⟨⟨h.cell h0 (by simp), h.cell h1 (by simp), h.cell h2 (by simp), h.cell h3 (by simp), h.cell h4 (by simp)⟩, h⟩
      clear hs hcon hg
      go_wp2_with fail
      go_region_held3 (fun w' => (w'.cell? ⟨b, o + n * 6, none⟩ = some (.int .i64 s.con.kind) ∧ w'.cell? ⟨b, o + n * 6 + 1, none⟩ = some (.slice vo s.con.vars.length vc) ∧ w'.cell? ⟨b, o + n * 6 + 2, none⟩ = some (.slice xo' s.con.args.length xc') ∧ w'.cell? ⟨b, o + n * 6 + 3, none⟩ = some (.int .i64 s.con.bound) ∧ w'.cell? ⟨b, o + n * 6 + 4, none⟩ = some (.slice ro s.con.rows.length rc)) ∧ Gr [] wr w')
        (first | exact HT.out _ ((Gr.refl [] _).drew) | (go_split_ands; exact HT.out _ (Gr.trans (by assumption) hg3)) | (go_split_ands; exact HT.out _ (Gr.trans (by assumption) hg2)))
        (first
          | (go_at_call 55; go_split_ands; refine (project_c s.con x _ _ _ (Hcon.out.gr (by assumption)) (HXq.out.gr (by assumption)) (by have := HVC.out.k; have := HVC.out.n4; omega) HVC.out.rng).mono ?_; rintro e w2 ⟨v2, rfl, hown2, hg2⟩)
          | (go_at_call 54; go_split_ands; refine (satisfies_c s.con (word s.con.vars x) _ _ _ (Hcon.out.gr (by assumption)) (hown2.nums (by simp)) (fit_word HVC.out Hr.out)).mono ?_; rintro e w3 ⟨rfl, hg3⟩))
      all_goals
        have hg23 : Gr [] wr w3 := ((Gr.refl [] wr).drew.trans hg2).trans hg3
        have Hg23 := hid (Hg.out.trans hg23)
        have c5 := hg23.cell H5.out (by simp)
        rw [show satB s.con (word s.con.vars x) = metB s x from rfl]
        clear hg23
        cases hm : metB s x
        · have Hm := hid hm
          go_wp2_with fail
          exact ⟨⟨n + 1, by omega, by go_num, by rw [HS.out, ← HA.out, Hm.out]; go_num, Hg23.out⟩, by simp [intOf]; omega⟩
        · have Hm := hid hm
          go_wp2_with fail
          exact ⟨⟨n + 1, by omega, by go_num, by rw [HS.out, ← HA.out, Hm.out]; simp, Hg23.out⟩, by simp [intOf]; omega⟩
    · have hne : ss.take n = ss := List.take_of_length_le (by omega)
      rw [hne] at HA
      clear hg
      go_wp2_with fail
      go_ret
      exact ⟨ret_int HA.out, Hg.out⟩


set_option maxRecDepth 100000 in
set_option maxHeartbeats 4000000 in
theorem specSolveSoft_c (m : Mod) (ss : List Sft) (mv sv : Value) (w : World) (hv : ModV [] w mv m) (hs : m.Small) (hsv : SftsV [] w sv ss) (hss : SftsSmall ss) (D : List Nat) (hD : validM m = true → VM m D) :
    Calls Tryz.prog 28 #[mv, sv] w fun e w' => ∃ v', e = .returned (.tuple #[v', .bool (softO m D ss).isSome]) ∧ Nums [] w' .i64 v' ((softO m D ss).getD []) ∧ Gr [] w w' := by
  have Hv := hid hv; have HD := hid hD; have Hs := hid hs; have Hsv := hid hsv; have Hss := hid hss
  obtain ⟨xo, xc, co, cc, rfl⟩ := hv.slices
  obtain ⟨so, sc, rfl, hs1, hs2⟩ := hsv.slice
  have hg0 : Gr [] w (w.alloc (.cells #[.slice xo m.doms.length xc, .slice co m.cons.length cc] 26)) := (Gr.refl _ _).alloc _
  have hb0 : (w.alloc (.cells #[.slice xo m.doms.length xc, .slice co m.cons.length cc] 26)).heap[w.heap.size]? = some (.cells #[.slice xo m.doms.length xc, .slice co m.cons.length cc] 26 (0, 0)) := heap_alloc_new _ _
  have fl0 := fld hb0
  have Hg0 := hid hg0; have Hb0 := hid hb0
  clear hv hg0 hb0 hD hs hsv hss
  go_enter Tryz.func28, Tryz.ntmps28
  go_wp2_with fail
  have hcall := specValidModel_c m _ _ (Hv.out.gr Hg0.out) Hs.out
  (with_reducible refine hcall.mono ?_)
  clear hcall
  rintro e w1 ⟨rfl, hg1⟩
  have Hb1 := hid (hg1.obj Hb0.out (by simp))
  have fl1 := fld Hb1.out
  have Hg1 := hid (Hg0.out.trans hg1)
  clear fl0 hg1
  cases hvo : validM m
  · have Hno := hid (softO_no (D := D) (ss := ss) (m := m) (by rw [hvo]; rfl)); clear hvo
    go_wp2_with fail
    go_ret2
    rw [Hno.out]
    exact ⟨_, rfl, (Own.nil 0 _ 3).nums (by simp), Hg1.out⟩
  have HVM := hid (HD.out hvo); have Hval := hid hvo
  have HDL : Hid (m.doms.length = D.length) := hid (by rw [HVM.out.doms, ints_len])
  clear hvo
  go_wp2_with fail
  have hcall := validSoft_c ss m.doms.length _ w1 (Hsv.out.gr Hg1.out) Hss.out (by have := HVM.out.len; have := HDL.out; omega)
  (with_reducible refine hcall.mono ?_)
  clear hcall
  rintro e w2 ⟨rfl, hg2⟩
  have fl2 := fld (hg2.obj Hb1.out (by simp))
  have Hg2 := hid (Hg1.out.trans hg2)
  clear fl1 hg2
  cases hso : softB ss m.doms.length
  · have Hno := hid (softO_no (D := D) (ss := ss) (m := m) (by rw [hso]; simp)); clear hso
    go_wp2_with fail
    go_ret2
    rw [Hno.out]
    exact ⟨_, rfl, (Own.nil 0 _ 3).nums (by simp), Hg2.out⟩
  have Hyes := hid (softO_yes (D := D) (ss := ss) (m := m) (by rw [Hval.out, hso]; rfl))
  have HSB := hid (softB_iff.1 hso)
  clear hso
  go_wp2_with fail
  have hcall := solve_c m D 4096 _ w2 (Hv.out.gr Hg2.out) HVM.out (by omega) (by omega)
  rw [show ((4096 : Nat) : Int) = 4096 from rfl] at hcall
  (with_reducible refine hcall.mono ?_)
  clear hcall
  rintro e w3 ⟨v3, nd, rfl, hown3, hg3⟩
  rw [all_sols m D HVM.out] at hown3
  obtain ⟨zs, hz⟩ : ∃ zs, zs = sols m.cons D := ⟨_, rfl⟩
  rw [← hz] at hown3
  have Hz := hid hz
  have Hl := hid (hown3.rows (S := []) (by simp))
  obtain ⟨ro, rc, rfl, hr1, hr2, -⟩ := hown3.slice
  have Hg3 := hid (Hg2.out.trans hg3)
  have Hsz : Hid (∀ x ∈ zs, (∀ s ∈ ss, (1 ≤ s.wt ∧ s.wt ≤ 9) ∧ VC s.con x.length) ∧ ∀ y ∈ x, 0 ≤ y ∧ y ≤ 5) := hid (by
    intro x hx
    rw [hz] at hx
    have h1 := solv hx
    refine ⟨fun s hs => ?_, h1.2⟩
    rw [h1.1, ← HDL.out]
    exact HSB.out.2 s hs)
  have hss4 : ss.length ≤ 4 := HSB.out.1
  clear hown3 hz hg3 fl2
  go_wp2_with fail
  go_loopw [8, 9] (fun b i wr => ∃ n : Nat, n ≤ zs.length ∧ i = .int .i64 n ∧ Gr [] w3 wr ∧ ((bestO (costN ss) (zs.take n) = none ∧ b = .int .i64 (-1)) ∨ ∃ (q : Nat) (y : List Int), bestO (costN ss) (zs.take n) = some y ∧ b = .int .i64 q ∧ q < n ∧ zs[q]? = some y)) (fun _ i _ => zs.length - (intOf i).toNat)
  case atStart => exact ⟨0, Nat.zero_le _, rfl, Gr.refl _ _, .inl ⟨by rw [List.take_zero]; rfl, rfl⟩⟩
  case round =>
    obtain ⟨n, hn, rfl, hg, hcase⟩ := hrel
    have Hg := hid hg; clear hg
    by_cases hlt : n < zs.length
    · obtain ⟨x, hx⟩ := get_some hlt
      have hxm := List.mem_of_getElem? hx
      obtain ⟨b1, o1, u1, e1, hc1, hn1⟩ := (Hl.out.gr Hg.out).at0 hx
      subst e1
      have HS := hid (bestO_succ (cost := costN ss) hx)
      have Hn1 := hid hn1; have Hx := hid hx; have Hxm := hid hxm
      clear hx hn1 hxm
      rcases hcase with ⟨hb, rfl⟩ | ⟨q, y, hb, rfl, hqn, hy⟩
      · have Hb := hid hb; clear hb hc1
        go_wp2_with fail
        refine wp_region_gr [] _ (by kernel_rfl) (by kernel_rfl) (Gr.refl _ _) ?_
        repeat (go_big_quiet_step (fail))
        refine wpQuiet_nil ?_
        rintro w7 ⟨n7, hw7⟩
        have hg7 : Gr [] wr w7 := hw7 ▸ n7.gr
        clear hw7 n7
        go_wp2_with fail
        exact ⟨⟨n + 1, by omega, by go_num, Hg.out.trans hg7, .inr ⟨n, x, by rw [HS.out, Hb.out]; rfl, rfl, by omega, Hx.out⟩⟩, by simp [intOf]; omega⟩
      · obtain ⟨b2, o2, u2, e2, hc2, hn2⟩ := (Hl.out.gr Hg.out).at0 hy
        obtain ⟨rfl, rfl⟩ : b2 = b1 ∧ o2 = o1 := by simpa [eq_comm] using e2
        have hym := List.mem_of_getElem? hy
        have Hb := hid hb; have Hn2 := hid hn2; have Hy := hid hy; have Hym := hid hym
        have hq0 : decide ((q : Int) < 0) = false := decide_eq_false (by omega)
        have hm1 : ∀ k : GrW [] wr, k.val.cell? ⟨b2, o2 + n, none⟩ = some u1 := fun k => k.gr.cell hc1 (by simp)
        have hm2 : ∀ k : GrW [] wr, k.val.cell? ⟨b2, o2 + q, none⟩ = some u2 := fun k => k.gr.cell hc2 (by simp)
        have hql : q < zs.length := by omega
        clear hb hn2 hy hym hc1 hc2 e2
        have Hor := hid (Hsv.out.gr (Hg3.out.trans Hg.out))
        have Hsx := hid (Hsz.out x Hxm.out); have Hsy := hid (Hsz.out y Hym.out)
        go_wp2_with fail
        refine wp_region_gr [] _ (by kernel_rfl) (by kernel_rfl) (Gr.refl _ _) ?_
        repeat (go_big_quiet_step ((first | (go_at_call 72; with_reducible exact Calls.gr_of (specSoftCost_c ss x _ u1 _ (Hor.out.gr (GrW.gr _)) (Hn1.out.gr (GrW.gr _)) Hsx.out.1 hss4 Hsx.out.2)) | (go_at_call 72; with_reducible exact Calls.gr_of (specSoftCost_c ss y _ u2 _ (Hor.out.gr (GrW.gr _)) (Hn2.out.gr (GrW.gr _)) Hsy.out.1 hss4 Hsy.out.2)))))
        refine wpQuiet_nil ?_
        rintro w7 ⟨n7, hw7⟩
        have hg7 : Gr [] wr w7 := hw7 ▸ n7.gr
        clear hw7 n7 hm1 hm2
        by_cases hc : costN ss x < costN ss y
        · have hs : bestO (costN ss) (zs.take (n + 1)) = some x := by rw [HS.out, Hb.out]; unfold bstep; simp only; rw [if_pos hc]
          have Hs := hid hs
          have hcd : decide (costN ss x < costN ss y) = true := decide_eq_true hc
          clear hs
          go_wp2_with fail
          exact ⟨⟨n + 1, by omega, by go_num, Hg.out.trans hg7, .inr ⟨n, x, Hs.out, rfl, by omega, Hx.out⟩⟩, by simp [intOf]; omega⟩
        · have hs : bestO (costN ss) (zs.take (n + 1)) = some y := by rw [HS.out, Hb.out]; unfold bstep; simp only; rw [if_neg hc]
          have Hs := hid hs
          have hcd : decide (costN ss x < costN ss y) = false := decide_eq_false hc
          clear hs
          go_wp2_with fail
          exact ⟨⟨n + 1, by omega, by go_num, Hg.out.trans hg7, .inr ⟨q, y, Hs.out, rfl, by omega, Hy.out⟩⟩, by simp [intOf]; omega⟩
    · have hnz : zs.take n = zs := List.take_of_length_le (by omega)
      rw [hnz] at hcase
      rcases hcase with ⟨hb, rfl⟩ | ⟨q, y, hb, rfl, hqn, hy⟩
      · have Hb := hid hb
        clear hb hnz
        go_wp2_with fail
        go_ret2
        rw [Hyes.out, ← Hz.out, Hb.out]
        exact ⟨_, rfl, (Own.nil 0 _ 3).nums (by simp), Hg3.out.trans Hg.out⟩
      · obtain ⟨b2, o2, u2, e2, hc2, hn2⟩ := (Hl.out.gr Hg.out).at0 hy
        subst e2
        have Hb := hid hb; have Hn2 := hid hn2
        have hql : q < zs.length := by omega
        clear hb hnz hn2 hy
        go_wp2_with fail
        go_ret2
        rw [Hyes.out, ← Hz.out, Hb.out]
        exact ⟨_, rfl, Hn2.out, Hg3.out.trans Hg.out⟩

end Go.Proofs.YtngpcoilgilmjaaGreat
