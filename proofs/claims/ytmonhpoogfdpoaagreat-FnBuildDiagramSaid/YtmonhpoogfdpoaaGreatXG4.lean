/-
  Walk of the generator of constraints.
-/
import Derived.Test.YtmonhpoogfdpoaaGreatXG1
set_option linter.unusedVariables false
namespace Go.Proofs.YtmonhpoogfdpoaaGreat
open Go.RowKit

set_option maxRecDepth 100000 in
set_option maxHeartbeats 8000000 in
theorem randomConstraint_v (R : Nat) (bs : List Int) (q n : Nat) (w : World) (hr : Rd w R bs q) (hq : q ≤ 10000000) (hn1 : 1 ≤ n) (hn4 : n ≤ 4) :
    Calls Tryz.prog 68 #[.pointer (some ⟨R, 0, none⟩), .int .i64 n] w (ConPostV n w.heap.size R bs (q + 200) w) := by
  have hRlt := hr.lt
  have Hr := hid hr; clear hr
  have hg0 : Gr [] w (w.alloc (.cells #[.int .i64 0, .slice none 0 0, .slice none 0 0, .int .i64 0, .slice none 0 0] 26)) := (Gr.refl _ _).alloc _
  have hb0 : (w.alloc (.cells #[.int .i64 0, .slice none 0 0, .slice none 0 0, .int .i64 0, .slice none 0 0] 26)).heap[w.heap.size]? = some (.cells #[.int .i64 0, .slice none 0 0, .slice none 0 0, .int .i64 0, .slice none 0 0] 26 (0, 0)) := heap_alloc_new _ _
  have Hg0 := hid hg0; have Hb0 := hid hb0; clear hg0 hb0
  go_enter Tryz.func68, Tryz.ntmps68
  go_wp2_with fail
  have hcall := pick_c R bs q n _ (Hr.out.gr Hg0.out) (by omega) (by omega)
  (with_reducible refine hcall.mono ?_)
  clear hcall
  rintro e w1 ⟨⟨r1, rfl, hr10, hr1n⟩, hrd1, hg1⟩
  obtain ⟨r1, rfl⟩ := Int.eq_ofNat_of_zero_le hr10
  have hr1 : r1 < n := by omega
  go_wp2_with fail
  have hcall := pick_c R bs (q + 1) 9 _ hrd1 (by omega) (by omega)
  (with_reducible refine hcall.mono ?_)
  clear hcall
  rintro e w2 ⟨⟨r2, rfl, hr20, hr29⟩, hrd2, hg2⟩
  go_wp2_with fail
  have hk1 : ((1 : Int) + (r1 : Int)) = ((1 + r1 : Nat) : Int) := by omega
  rw [hk1]
  clear hk1
  have hcall := someVars_c R bs (q + 1 + 1) n (1 + r1) _ hrd2 (by omega) (by omega) (by omega)
  (with_reducible refine hcall.mono ?_)
  clear hcall
  rintro e w3 ⟨v3, vars, rfl, hown3, ⟨hvl, hvs1, hvs2⟩, hrd3, hg3⟩
  have hvl2 : vars.length = 1 + r1 := by have : vars.length = min (1 + r1) n := hvl
                                         omega
  have HVS : Hid (VSok vars n) := hid ⟨hvs1, hvs2, by omega⟩
  clear hvs1 hvs2
  have hg03 : Gr [R] w w3 := ((Hg0.out.any.trans hg1).trans hg2).trans hg3
  have hfr3 : FrI (w.heap.size + 1) w3.heap.size w3 v3 vars := (hown3.fr).mono (by have := (hg1.trans hg2).size; simp at this; omega) (Nat.le_refl _)
  obtain ⟨vo, vc, rfl⟩ : ∃ vo vc, v3 = .slice vo vars.length vc := by
    rcases hown3 with ⟨h, h2⟩ | ⟨g, cap, cur, h, _⟩
    · subst h2; exact ⟨_, _, h⟩
    · exact ⟨_, _, h⟩
  have hrb3 := ((hg1.trans hg2).trans hg3).obj Hb0.out (by simp; omega)
  have Hg03 := hid hg03; have Hfr3 := hid hfr3; have Hrb3 := hid hrb3; have Hvl := hid hvl2
  have hs3 := hg03.size
  have hw3 : w.heap.size < w3.heap.size := lt_of_block hrb3
  have hv4 : vars.length ≤ 4 := by omega
  have hv1 : 1 ≤ vars.length := by omega
  clear hg1 hg2 hg3 hown3 hvl hvl2 hg03 hfr3 hrb3 hrd1 hrd2
  have h9 : r2 = 0 ∨ r2 = 1 ∨ r2 = 2 ∨ r2 = 3 ∨ r2 = 4 ∨ r2 = 5 ∨ r2 = 6 ∨ r2 = 7 ∨ r2 = 8 := by omega
  have Hrd3 := hid hrd3; clear hrd3
  cases hn2 : decide ((n : Int) < 2)
  · have hn2' : (2 : Int) ≤ (n : Int) := by simpa using hn2
    rcases h9 with rfl | rfl | rfl | rfl | rfl | rfl | rfl | rfl | rfl
    · go_wp2_with fail
      have hg4 : Gr [] w3 (w3.alloc (.cells #[.int .i64 1, .slice vo vars.length vc, .slice none 0 0, .int .i64 0, .slice none 0 0] 26)) := (Gr.refl _ _).alloc _
      have hb4 : (w3.alloc (.cells #[.int .i64 1, .slice vo vars.length vc, .slice none 0 0, .int .i64 0, .slice none 0 0] 26)).heap[w3.heap.size]? = some (.cells #[.int .i64 1, .slice vo vars.length vc, .slice none 0 0, .int .i64 0, .slice none 0 0] 26 (0, 0)) := heap_alloc_new _ _
      have hr4 := hg4.obj Hrb3.out (by simp)
      have hf4 := hid (Hfr3.out.gr hg4 (by simp))
      have hrd4 := hid (Hrd3.out.gr hg4)
      have hgw4 := hid (Hg03.out.trans hg4.any)
      have hb4' := hid hb4; have hr4' := hid hr4
      have HRB : Hid (∀ W, Gr [R, w3.heap.size] w3 W → W.heap[w.heap.size]? = some (.cells #[.int .i64 0, .slice none 0 0, .slice none 0 0, .int .i64 0, .slice none 0 0] 26 (0, 0))) := hid fun W h => h.obj Hrb3.out (by simp; omega)
      clear hr4 hr4'
      obtain ⟨W4, hW4⟩ : ∃ W4, W4 = w3.alloc (.cells #[.int .i64 1, .slice vo vars.length vc, .slice none 0 0, .int .i64 0, .slice none 0 0] 26) := ⟨_, rfl⟩
      rw [← hW4] at hg4 hb4 hb4' hf4 hrd4 hgw4
      have hs4 : W4.heap.size = w3.heap.size + 1 := by rw [hW4]; simp
      have HL4 : Hid (Gr [R, w3.heap.size] w3 W4) := hid (hg4.any)
      have ff4 := fldF hb4
      have fl4 := fld hb4
      clear hb4 hg4
      rw [← hW4]
      clear hW4
      go_loopw [7] (fun i wr => ∃ (m : Nat) (args : List Int) (av : Value), m ≤ vars.length ∧ i = .int .i64 m ∧ args.length = m ∧ (∀ a ∈ args, (-9 : Int) ≤ a ∧ a ≤ 9) ∧ wr.heap[w3.heap.size]? = some (.cells #[.int .i64 1, .slice vo vars.length vc, av, .int .i64 0, .slice none 0 0] 26 (0, 0)) ∧ Own (w3.heap.size + 1) wr 3 av args ∧ Rd wr R bs (q + 1 + 1 + n + m) ∧ FrI (w.heap.size + 1) w3.heap.size wr (.slice vo vars.length vc) vars ∧ Gr [R, w3.heap.size] w3 wr) (fun i _ => vars.length - (intOf i).toNat)
      case atStart => exact ⟨0, [], _, by omega, rfl, rfl, by simp, hb4'.out, Own.nil _ _ _, hrd4.out, hf4.out, HL4.out⟩
      case round =>
        obtain ⟨m, args, av, hm, rfl, hal, harg, hb, hown, hrd, hfv, hL⟩ := hrel
        have Harg := hid harg; clear harg
        have flr := fld hb
        have ffr := fldF hb
        have hltr := lt_of_block hb
        have hsr := hL.size
        obtain ⟨xo, xc, rfl⟩ := hown.c.form
        have Hal := hid hal; have Hb := hid hb; have Hown := hid hown; have Hrd := hid hrd; have Hfv := hid hfv; have HL := hid hL
        clear hal hb hown hrd hfv hL
        by_cases hlt : m < vars.length
        · go_wp2_with fail
          go_region_law (first
            | (go_simp; go_at_call 67; refine (one_c R bs (q + 1 + 1 + n + m) _ [1, 1, -1, 2, -3, 0] _ ((Hrd.out.drew).gr ((Gr.refl _ _).alloc _)) (nums_new _ _ _ (by simp <;> omega)) (by omega) (by simp) (by simp)).mono ?_; rintro e w6 ⟨⟨r6, rfl, hr6⟩, hrd6, hg6⟩; have HS6 := hid (Gr.trans (a := wr) ((Gr.refl [R] _).drew.alloc _) hg6); have HR6 : Hid ((-9 : Int) ≤ r6 ∧ r6 ≤ 9) := hid (by simp at hr6; omega); clear hr6; have HSC6 : Hid (Gr [R] wr w6) := HS6; have Hrd6 := hid hrd6; have Hb6 := hid (HSC6.out.obj Hb.out (by simp <;> omega)); have fl6 := fld Hb6.out; have ff6 := fldF Hb6.out; have hlt6 := lt_of_block Hb6.out; have hs6 := HSC6.out.size; clear hrd6 hg6)
            | (refine step_app1 rfl _ _ 23 rfl (w3.heap.size + 1) 3 infoInt Tryz.underlying23 (.slice xo args.length xc) args rfl ((Hown.out.gr HSC6.out (by simp <;> omega)).alloc _) w6.heap.size 1 r6 rfl (cell_new _ _ _) (by have := Hal.out; omega) (by simp <;> omega) ?_; intro g7 c7 w7 hown7 hbl7; have HA7 := hid (And.intro hown7 hbl7); have fl7 := fld ((hbl7.block w3.heap.size (by omega)).trans ((((Gr.refl [] w6).alloc (.cells #[.int .i64 r6] 3)).obj Hb6.out (by simp)))); have ff7 := fldF ((hbl7.block w3.heap.size (by omega)).trans ((((Gr.refl [] w6).alloc (.cells #[.int .i64 r6] 3)).obj Hb6.out (by simp)))); clear hown7 hbl7))
          all_goals
            go_wp2_with fail
            obtain ⟨e1, e2, e3, e4, e5⟩ := app_end (fi := 2) (nv := .slice (some ⟨g7, 0, none⟩) (args.length + 1) c7) HL.out HSC6.out HA7.out.2 (show R < w.heap.size + 1 by omega) (by omega) Hb6.out Hrd6.out Hfv.out
            exact ⟨⟨m + 1, args ++ [r6], _, by omega, by go_num, by simp [Hal.out], (fun a ha => (List.mem_append.1 ha).elim (Harg.out a) fun h => by have h9 := HR6.out; rw [List.mem_singleton.1 h]; exact h9), e1, HA7.out.1.gr e2 (by simp), e3.le (by omega), e4, e5⟩, by simp [intOf]; omega⟩
        · have hme : m = vars.length := by omega
          have Hme := hid hme; clear hme
          go_wp2_with fail
          (with_reducible refine (pick_c R bs (q + 1 + 1 + n + m) 14 _ ?_ (by omega) (by omega)).mono ?_)
          · exact Hrd.out.grS (S := [w3.heap.size]) (by (repeat (first | exact (Gr.refl [w3.heap.size] wr) | refine Gr.alloc ?_ _ | refine Gr.drew ?_ | refine Gr.setCell ?_ _ _ (.inl (by simp))))) (by simp <;> omega)
          rintro e w5 ⟨⟨r5, rfl, hr50, hr5n⟩, hrdw5, hgw5⟩
          have HSw5 : Gr [R, w3.heap.size] wr w5 := Gr.trans (b := _) (by (repeat (first | exact (Gr.refl [R, w3.heap.size] wr) | refine Gr.alloc ?_ _ | refine Gr.drew ?_ | refine Gr.setCell ?_ _ _ (.inl (by simp))))) (hgw5.sub (by intro k _ h; simp at h ⊢; omega))
          have HL5 : Hid (Gr [R, w3.heap.size] w3 w5) := hid (HL.out.trans HSw5)
          have hfv5 := hid (Hfv.out.gr HSw5 (by simp <;> omega))
          have hb5 := hgw5.obj Hb.out (by simp <;> omega)
          have hfa5 := hid ((Hown.out.c.fr).gr hgw5 (by simp <;> omega))
          have hs5 := hgw5.size
          have hal100 : args.length ≤ 100 := by have := Hal.out; omega
          clear hgw5 HSw5 flr ffr
          have Hb5 := hid hb5
          have fl5 := fld hb5
          have ff5 := fldF hb5
          have hlt5 := lt_of_block hb5
          clear hb5
          go_wp2_with ((with_reducible show wpList _ _ _ (⟨none, Op.store _ (Operand.tmp 4) (Operand.tmp 141), _, _, _, none⟩ :: _) _ _); refine wp_storeT 26 4 141 w.heap.size #[.int .i64 1, .slice vo vars.length vc, .slice xo args.length xc, .int .i64 (r5 - 4), .slice none 0 0] 26 #[.int .i64 0, .slice none 0 0, .slice none 0 0, .int .i64 0, .slice none 0 0] (HRB.out _ ?_) ⟨sizeC, rfl, rfl, rfl, one5 _ _ _ _ _ _ _ _ _ _ _⟩ ?_; (repeat (first | exact HL5.out | refine Gr.alloc ?_ _ | refine Gr.drew ?_ | refine Gr.setCell ?_ _ _ (.inl (by simp)))); intro wE hbE hgE)
          have flE := fld hbE
          refine bodyPost_ret (v := .agg #[.int .i64 1, .slice vo vars.length vc, .slice xo args.length xc, .int .i64 (r5 - 4), .slice none 0 0]) ?_ rfl ?_
          · simp [results, Tryz.results68, go_sem, flE]
          · have hE : Gr [w3.heap.size, w.heap.size] w5 wE := Gr.trans (b := _) (by (repeat (first | exact (Gr.refl [w3.heap.size, w.heap.size] w5) | refine Gr.alloc ?_ _ | refine Gr.drew ?_ | refine Gr.setCell ?_ _ _ (.inl (by simp))))) (hgE.sub (by intro k _ h; simp at h ⊢; omega))
            have hE3 : Gr [R, w3.heap.size, w.heap.size] w3 wE := (Gr.sub HL5.out (by intro k _ h; simp at h ⊢; omega)).trans (hE.sub (by intro k _ h; simp at h ⊢; omega))
            have hsE := hE.size
            have hsL := HL5.out.size
            have hrE := hrdw5.grS hE (by simp; omega)
            have hgwE : Gr [R] w wE := (Hg03.out.step HL5.out (fun i hi => by simp at hi; rcases hi with h | h; exact .inl (by simp [h]); exact .inr (by omega))).step hE (fun i hi => .inr (by simp at hi; omega))
            exact conPostV_mk (args := args) (rows := []) (hfv5.out.gr hE (by simp <;> omega)) (hfa5.out.gr hE (by simp <;> omega)) (FrR.nil w3.heap.size w3.heap.size wE) (by omega) (by omega) ⟨by simp <;> omega, by simp <;> omega, by simp, by simp⟩ hv1 (hrE.le (by omega)) hgwE (vc_mk HVS.out hn4 hv1 (fitsRd1 (by have := Hal.out; have := Hme.out; omega) Harg.out (by omega)))
    · go_wp2_with fail
      have hg4 : Gr [] w3 (w3.alloc (.cells #[.int .i64 2, .slice vo vars.length vc, .slice none 0 0, .int .i64 0, .slice none 0 0] 26)) := (Gr.refl _ _).alloc _
      have hb4 : (w3.alloc (.cells #[.int .i64 2, .slice vo vars.length vc, .slice none 0 0, .int .i64 0, .slice none 0 0] 26)).heap[w3.heap.size]? = some (.cells #[.int .i64 2, .slice vo vars.length vc, .slice none 0 0, .int .i64 0, .slice none 0 0] 26 (0, 0)) := heap_alloc_new _ _
      have hr4 := hg4.obj Hrb3.out (by simp)
      have hf4 := hid (Hfr3.out.gr hg4 (by simp))
      have hrd4 := hid (Hrd3.out.gr hg4)
      have hgw4 := hid (Hg03.out.trans hg4.any)
      have hb4' := hid hb4; have hr4' := hid hr4
      have HRB : Hid (∀ W, Gr [R, w3.heap.size] w3 W → W.heap[w.heap.size]? = some (.cells #[.int .i64 0, .slice none 0 0, .slice none 0 0, .int .i64 0, .slice none 0 0] 26 (0, 0))) := hid fun W h => h.obj Hrb3.out (by simp; omega)
      clear hr4 hr4'
      obtain ⟨W4, hW4⟩ : ∃ W4, W4 = w3.alloc (.cells #[.int .i64 2, .slice vo vars.length vc, .slice none 0 0, .int .i64 0, .slice none 0 0] 26) := ⟨_, rfl⟩
      rw [← hW4] at hg4 hb4 hb4' hf4 hrd4 hgw4
      have hs4 : W4.heap.size = w3.heap.size + 1 := by rw [hW4]; simp
      have HL4 : Hid (Gr [R, w3.heap.size] w3 W4) := hid (hg4.any)
      have ff4 := fldF hb4
      have fl4 := fld hb4
      clear hb4 hg4
      rw [← hW4]
      clear hW4
      (with_reducible refine (someVars2_c R bs (q + 1 + 1 + n) n _ hrd4.out (by omega) (by omega)).mono ?_)
      rintro e w5 ⟨v5, vars5, rfl, hown5, ⟨hvl5, hvs5a, hvs5b⟩, hrd5, hg5⟩
      have hvl5' : vars5.length = 2 := (by have h : vars5.length = min 2 n := hvl5; omega)
      have HVS5 : Hid (VSok vars5 n) := hid ⟨hvs5a, hvs5b, by omega⟩
      clear hvs5a hvs5b
      obtain ⟨vo5, vc5, rfl⟩ := hown5.form
      have hfv5 := hid hown5.fr
      have hs5 := hg5.size
      have HSw5 : Gr [R, w3.heap.size] W4 w5 := Gr.trans (b := _) (by (repeat (first | exact (Gr.refl [R, w3.heap.size] W4) | refine Gr.alloc ?_ _ | refine Gr.drew ?_ | refine Gr.setCell ?_ _ _ (.inl (by simp))))) (hg5.sub (by intro k _ h; simp at h ⊢; omega))
      have HL5 : Hid (Gr [R, w3.heap.size] w3 w5) := hid (HL4.out.trans HSw5)
      have hb5 := hg5.obj hb4'.out (by simp <;> omega)
      have Hb5 := hid hb5; have Hown5 := hid hown5; have Hvl5 := hid hvl5'
      have hv52 : vars5.length ≤ 4 := by omega
      have hv51 : 1 ≤ vars5.length := by omega
      clear hown5 hvl5 hvl5' hg5 HSw5 fl4 ff4
      have fl5 := fld hb5
      have ff5 := fldF hb5
      have hlt5 := lt_of_block hb5
      clear hb5
      go_wp2_with fail
      (with_reducible refine (pick_c R bs (q + 1 + 1 + n + n) 5 _ ?_ (by omega) (by omega)).mono ?_)
      · exact hrd5.grS (S := [w3.heap.size]) (by (repeat (first | exact (Gr.refl [w3.heap.size] w5) | refine Gr.alloc ?_ _ | refine Gr.drew ?_ | refine Gr.setCell ?_ _ _ (.inl (by simp))))) (by simp <;> omega)
      rintro e w6 ⟨⟨r6, rfl, hr60, hr6n⟩, hrdw6, hgw6⟩
      have HSw6 : Gr [R, w3.heap.size] w5 w6 := Gr.trans (b := _) (by (repeat (first | exact (Gr.refl [R, w3.heap.size] w5) | refine Gr.alloc ?_ _ | refine Gr.drew ?_ | refine Gr.setCell ?_ _ _ (.inl (by simp))))) (hgw6.sub (by intro k _ h; simp at h ⊢; omega))
      have HL6 : Hid (Gr [R, w3.heap.size] w3 w6) := hid (HL5.out.trans HSw6)
      have hfv6 := hid (hfv5.out.gr HSw6 (by simp <;> omega))
      have hb6 : w6.heap[w3.heap.size]? = some (.cells #[.int .i64 2, .slice vo5 vars5.length vc5, .slice none 0 0, .int .i64 0, .slice none 0 0] 26 (0, 0)) := hgw6.obj (cells_set Hb5.out 1 _) (by simp <;> omega)
      have hs6 := hgw6.size
      simp at hs6
      have Hb6 := hid hb6
      clear fl5 ff5 hgw6 HSw6
      have fl6 := fld hb6
      have ff6 := fldF hb6
      have hlt6 := lt_of_block hb6
      clear hb6
      go_wp2_with ((with_reducible show wpList _ _ _ (⟨none, Op.store _ (Operand.tmp 4) (Operand.tmp 141), _, _, _, none⟩ :: _) _ _); refine wp_storeT 26 4 141 w.heap.size #[.int .i64 2, .slice vo5 vars5.length vc5, .slice (some ⟨w6.heap.size, 0, none⟩) 1 1, .int .i64 0, .slice none 0 0] 26 #[.int .i64 0, .slice none 0 0, .slice none 0 0, .int .i64 0, .slice none 0 0] (HRB.out _ ?_) ⟨sizeC, rfl, rfl, rfl, one5 _ _ _ _ _ _ _ _ _ _ _⟩ ?_; (repeat (first | exact HL6.out | refine Gr.alloc ?_ _ | refine Gr.drew ?_ | refine Gr.setCell ?_ _ _ (.inl (by simp)))); intro wE hbE hgE)
      have flE := fld hbE
      refine bodyPost_ret (v := .agg #[.int .i64 2, .slice vo5 vars5.length vc5, .slice (some ⟨w6.heap.size, 0, none⟩) 1 1, .int .i64 0, .slice none 0 0]) ?_ rfl ?_
      · simp [results, Tryz.results68, go_sem, flE]
      · have hE : Gr [w3.heap.size, w.heap.size] w6 wE := Gr.trans (b := _) (by (repeat (first | exact (Gr.refl [w3.heap.size, w.heap.size] w6) | refine Gr.alloc ?_ _ | refine Gr.drew ?_ | refine Gr.setCell ?_ _ _ (.inl (by simp))))) (hgE.sub (by intro k _ h; simp at h ⊢; omega))
        have hE3 : Gr [R, w3.heap.size, w.heap.size] w3 wE := (Gr.sub HL6.out (by intro k _ h; simp at h ⊢; omega)).trans (hE.sub (by intro k _ h; simp at h ⊢; omega))
        have hsE := hE.size
        have hsL := HL6.out.size
        have hrE := hrdw6.grS hE (by simp; omega)
        have hgwE : Gr [R] w wE := (Hg03.out.step HL6.out (fun i hi => by simp at hi; rcases hi with h | h; exact .inl (by simp [h]); exact .inr (by omega))).step hE (fun i hi => .inr (by simp at hi; omega))
        have hA : wE.heap[w6.heap.size]? = some (.cells #[.int .i64 (r6 - 2)] 3 (0, 0)) := hgE.obj (alloc_at _ _ _ (by simp)) (by simp <;> omega)
        have hltE := lt_of_block hA
        exact conPostV_mk (args := [r6 - 2]) (rows := []) (hfv6.out.gr hE (by simp <;> omega)) (frI_new (xs := [r6 - 2]) hA (by simp)) (FrR.nil w3.heap.size w3.heap.size wE) (by omega) (by omega) ⟨by simp <;> omega, by simp, by simp, by simp⟩ hv51 (hrE.le (by omega)) hgwE (vc_mk HVS5.out hn4 hv51 (fits2 Hvl5.out (by omega)))
    · have hg4 : Gr [] w3 (w3.alloc (.cells #[.int .i64 3, .slice vo vars.length vc, .slice none 0 0, .int .i64 0, .slice none 0 0] 26)) := (Gr.refl _ _).alloc _
      have hb4 : (w3.alloc (.cells #[.int .i64 3, .slice vo vars.length vc, .slice none 0 0, .int .i64 0, .slice none 0 0] 26)).heap[w3.heap.size]? = some (.cells #[.int .i64 3, .slice vo vars.length vc, .slice none 0 0, .int .i64 0, .slice none 0 0] 26 (0, 0)) := heap_alloc_new _ _
      have hr4 := hg4.obj Hrb3.out (by simp)
      have hf4 := hid (Hfr3.out.gr hg4 (by simp))
      have hrd4 := hid (Hrd3.out.gr hg4)
      have hgw4 := hid (Hg03.out.trans hg4.any)
      have hb4' := hid hb4; have hr4' := hid hr4
      have HRB : Hid (∀ W, Gr [R, w3.heap.size] w3 W → W.heap[w.heap.size]? = some (.cells #[.int .i64 0, .slice none 0 0, .slice none 0 0, .int .i64 0, .slice none 0 0] 26 (0, 0))) := hid fun W h => h.obj Hrb3.out (by simp; omega)
      clear hr4 hr4'
      have HL : Hid (Gr [R, w3.heap.size] w3 (w3.alloc (.cells #[.int .i64 3, .slice vo vars.length vc, .slice none 0 0, .int .i64 0, .slice none 0 0] 26))) := hid (Gr.alloc (Gr.refl _ _) _)
      clear hb4 hg4
      go_wp2_with ((with_reducible show wpList _ _ _ (⟨none, Op.store _ (Operand.tmp 4) (Operand.tmp 141), _, _, _, none⟩ :: _) _ _); refine wp_storeT 26 4 141 w.heap.size #[.int .i64 3, .slice vo vars.length vc, .slice none 0 0, .int .i64 0, .slice none 0 0] 26 #[.int .i64 0, .slice none 0 0, .slice none 0 0, .int .i64 0, .slice none 0 0] (HRB.out _ ?_) ⟨sizeC, rfl, rfl, rfl, one5 _ _ _ _ _ _ _ _ _ _ _⟩ ?_; (repeat (first | exact HL.out | refine Gr.alloc ?_ _ | refine Gr.drew ?_ | refine Gr.setCell ?_ _ _ (.inl (by simp)))); intro wE hbE hgE)
      have flE := fld hbE
      refine bodyPost_ret (v := .agg #[.int .i64 3, .slice vo vars.length vc, .slice none 0 0, .int .i64 0, .slice none 0 0]) ?_ rfl ?_
      · simp [results, Tryz.results68, go_sem, flE]
      · have hE : Gr [w3.heap.size, w.heap.size] (w3.alloc (.cells #[.int .i64 3, .slice vo vars.length vc, .slice none 0 0, .int .i64 0, .slice none 0 0] 26)) wE := Gr.trans (b := _) (by (repeat (first | exact (Gr.refl [w3.heap.size, w.heap.size] (w3.alloc (.cells #[.int .i64 3, .slice vo vars.length vc, .slice none 0 0, .int .i64 0, .slice none 0 0] 26))) | refine Gr.alloc ?_ _ | refine Gr.drew ?_ | refine Gr.setCell ?_ _ _ (.inl (by simp))))) (hgE.sub (by intro k _ h; simp at h ⊢; omega))
        have hE3 : Gr [R, w3.heap.size, w.heap.size] w3 wE := (Gr.sub HL.out (by intro k _ h; simp at h ⊢; omega)).trans (hE.sub (by intro k _ h; simp at h ⊢; omega))
        have hsE := hE.size
        have hsL := HL.out.size
        have hrE := hrd4.out.grS hE (by simp; omega)
        have hgwE : Gr [R] w wE := (Hg03.out.step HL.out (fun i hi => by simp at hi; rcases hi with h | h; exact .inl (by simp [h]); exact .inr (by omega))).step hE (fun i hi => .inr (by simp at hi; omega))
        exact conPostV_mk (args := []) (rows := []) (Hfr3.out.gr hE3 (by simp; omega)) (FrI.nil w3.heap.size w3.heap.size wE) (FrR.nil w3.heap.size w3.heap.size wE) (by omega) (by simp at hsE; omega) ⟨by simp; omega, by simp, by simp, by simp⟩ hv1 (hrE.le (by omega)) hgwE (vc_mk HVS.out hn4 hv1 (fits3 (by decide)))
    · go_wp2_with fail
      have hg4 : Gr [] w3 (w3.alloc (.cells #[.int .i64 4, .slice vo vars.length vc, .slice none 0 0, .int .i64 0, .slice none 0 0] 26)) := (Gr.refl _ _).alloc _
      have hb4 : (w3.alloc (.cells #[.int .i64 4, .slice vo vars.length vc, .slice none 0 0, .int .i64 0, .slice none 0 0] 26)).heap[w3.heap.size]? = some (.cells #[.int .i64 4, .slice vo vars.length vc, .slice none 0 0, .int .i64 0, .slice none 0 0] 26 (0, 0)) := heap_alloc_new _ _
      have hr4 := hg4.obj Hrb3.out (by simp)
      have hf4 := hid (Hfr3.out.gr hg4 (by simp))
      have hrd4 := hid (Hrd3.out.gr hg4)
      have hgw4 := hid (Hg03.out.trans hg4.any)
      have hb4' := hid hb4; have hr4' := hid hr4
      have HRB : Hid (∀ W, Gr [R, w3.heap.size] w3 W → W.heap[w.heap.size]? = some (.cells #[.int .i64 0, .slice none 0 0, .slice none 0 0, .int .i64 0, .slice none 0 0] 26 (0, 0))) := hid fun W h => h.obj Hrb3.out (by simp; omega)
      clear hr4 hr4'
      obtain ⟨W4, hW4⟩ : ∃ W4, W4 = w3.alloc (.cells #[.int .i64 4, .slice vo vars.length vc, .slice none 0 0, .int .i64 0, .slice none 0 0] 26) := ⟨_, rfl⟩
      rw [← hW4] at hg4 hb4 hb4' hf4 hrd4 hgw4
      have hs4 : W4.heap.size = w3.heap.size + 1 := by rw [hW4]; simp
      have HL4 : Hid (Gr [R, w3.heap.size] w3 W4) := hid (hg4.any)
      have ff4 := fldF hb4
      have fl4 := fld hb4
      clear hb4 hg4
      rw [← hW4]
      clear hW4
      (with_reducible refine (someVars2_c R bs (q + 1 + 1 + n) n _ hrd4.out (by omega) (by omega)).mono ?_)
      rintro e w5 ⟨v5, vars5, rfl, hown5, ⟨hvl5, hvs5a, hvs5b⟩, hrd5, hg5⟩
      have hvl5' : vars5.length = 2 := (by have h : vars5.length = min 2 n := hvl5; omega)
      have HVS5 : Hid (VSok vars5 n) := hid ⟨hvs5a, hvs5b, by omega⟩
      clear hvs5a hvs5b
      obtain ⟨vo5, vc5, rfl⟩ := hown5.form
      have hfv5 := hid hown5.fr
      have hs5 := hg5.size
      have HSw5 : Gr [R, w3.heap.size] W4 w5 := Gr.trans (b := _) (by (repeat (first | exact (Gr.refl [R, w3.heap.size] W4) | refine Gr.alloc ?_ _ | refine Gr.drew ?_ | refine Gr.setCell ?_ _ _ (.inl (by simp))))) (hg5.sub (by intro k _ h; simp at h ⊢; omega))
      have HL5 : Hid (Gr [R, w3.heap.size] w3 w5) := hid (HL4.out.trans HSw5)
      have hb5 := hg5.obj hb4'.out (by simp <;> omega)
      have hv52 : vars5.length ≤ 4 := by omega
      have hv51 : 1 ≤ vars5.length := by omega
      have HVL5 := hid hvl5'
      clear hown5 hvl5 hvl5' hg5 HSw5 fl4 ff4
      have Hb5 := hid hb5
      have fl5 := fld hb5
      have ff5 := fldF hb5
      have hlt5 := lt_of_block hb5
      clear hb5
      go_wp2_with fail
      (with_reducible refine (pick_c R bs (q + 1 + 1 + n + n) 6 _ ?_ (by omega) (by omega)).mono ?_)
      · exact hrd5.grS (S := [w3.heap.size]) (by (repeat (first | exact (Gr.refl [w3.heap.size] w5) | refine Gr.alloc ?_ _ | refine Gr.drew ?_ | refine Gr.setCell ?_ _ _ (.inl (by simp))))) (by simp <;> omega)
      rintro e w6 ⟨⟨r6, rfl, hr60, hr6n⟩, hrdw6, hgw6⟩
      have HSw6 : Gr [R, w3.heap.size] w5 w6 := Gr.trans (b := _) (by (repeat (first | exact (Gr.refl [R, w3.heap.size] w5) | refine Gr.alloc ?_ _ | refine Gr.drew ?_ | refine Gr.setCell ?_ _ _ (.inl (by simp))))) (hgw6.sub (by intro k _ h; simp at h ⊢; omega))
      have HL6 : Hid (Gr [R, w3.heap.size] w3 w6) := hid (HL5.out.trans HSw6)
      have hfv6 := hid (hfv5.out.gr HSw6 (by simp <;> omega))
      have hb6 : w6.heap[w3.heap.size]? = some (.cells #[.int .i64 4, .slice vo5 vars5.length vc5, .slice none 0 0, .int .i64 0, .slice none 0 0] 26 (0, 0)) := hgw6.obj (cells_set Hb5.out 1 _) (by simp <;> omega)
      have hs6 := hgw6.size
      simp at hs6
      obtain ⟨r6, rfl⟩ := Int.eq_ofNat_of_zero_le hr60
      have hk6 : ((1 : Int) + (r6 : Int)) = ((1 + r6 : Nat) : Int) := by omega
      clear fl5 ff5 hgw6 HSw6
      have Hb6 := hid hb6
      have fl6 := fld hb6
      have ff6 := fldF hb6
      have hlt6 := lt_of_block hb6
      clear hb6
      have Hk6 := hid hk6; clear hk6
      go_wp2_with fail
      rw [Hk6.out]
      (with_reducible refine (randomRow_c R bs (q + 1 + 1 + n + n + 1) (1 + r6) _ hrdw6 (by omega) (by omega)).mono ?_)
      rintro e w7 ⟨v7, xs7, rfl, hown7, ⟨hl7, hx7⟩, hrd7, hg7⟩
      obtain ⟨xo7, xc7, rfl⟩ := hown7.c.form
      have hfa7 := hid hown7.c.fr
      have HSw7 : Gr [R, w3.heap.size] w6 w7 := Gr.trans (b := _) (by (repeat (first | exact (Gr.refl [R, w3.heap.size] w6) | refine Gr.alloc ?_ _ | refine Gr.drew ?_ | refine Gr.setCell ?_ _ _ (.inl (by simp))))) (hg7.sub (by intro k _ h; simp at h ⊢; omega))
      have HL7 : Hid (Gr [R, w3.heap.size] w3 w7) := hid (HL6.out.trans HSw7)
      have hfv7 := hid (hfv6.out.gr HSw7 (by simp <;> omega))
      have hb7 := hg7.obj Hb6.out (by simp <;> omega)
      have hs7 := hg7.size
      have hx74 : xs7.length ≤ 100 := by omega
      have HX7 := hid (And.intro hl7 hx7)
      clear hown7 hl7 hx7 hg7 HSw7 fl6 ff6
      have Hb7 := hid hb7
      have fl7 := fld hb7
      have ff7 := fldF hb7
      have hlt7 := lt_of_block hb7
      clear hb7
      go_wp2_with ((with_reducible show wpList _ _ _ (⟨none, Op.store _ (Operand.tmp 4) (Operand.tmp 141), _, _, _, none⟩ :: _) _ _); refine wp_storeT 26 4 141 w.heap.size #[.int .i64 4, .slice vo5 vars5.length vc5, .slice xo7 xs7.length xc7, .int .i64 0, .slice none 0 0] 26 #[.int .i64 0, .slice none 0 0, .slice none 0 0, .int .i64 0, .slice none 0 0] (HRB.out _ ?_) ⟨sizeC, rfl, rfl, rfl, one5 _ _ _ _ _ _ _ _ _ _ _⟩ ?_; (repeat (first | exact HL7.out | refine Gr.alloc ?_ _ | refine Gr.drew ?_ | refine Gr.setCell ?_ _ _ (.inl (by simp)))); intro wE hbE hgE)
      have flE := fld hbE
      refine bodyPost_ret (v := .agg #[.int .i64 4, .slice vo5 vars5.length vc5, .slice xo7 xs7.length xc7, .int .i64 0, .slice none 0 0]) ?_ rfl ?_
      · simp [results, Tryz.results68, go_sem, flE]
      · have hE : Gr [w3.heap.size, w.heap.size] w7 wE := Gr.trans (b := _) (by (repeat (first | exact (Gr.refl [w3.heap.size, w.heap.size] w7) | refine Gr.alloc ?_ _ | refine Gr.drew ?_ | refine Gr.setCell ?_ _ _ (.inl (by simp))))) (hgE.sub (by intro k _ h; simp at h ⊢; omega))
        have hE3 : Gr [R, w3.heap.size, w.heap.size] w3 wE := (Gr.sub HL7.out (by intro k _ h; simp at h ⊢; omega)).trans (hE.sub (by intro k _ h; simp at h ⊢; omega))
        have hsE := hE.size
        have hsL := HL7.out.size
        have hrE := hrd7.grS hE (by simp; omega)
        have hgwE : Gr [R] w wE := (Hg03.out.step HL7.out (fun i hi => by simp at hi; rcases hi with h | h; exact .inl (by simp [h]); exact .inr (by omega))).step hE (fun i hi => .inr (by simp at hi; omega))
        exact conPostV_mk (args := xs7) (rows := []) (hfv7.out.gr hE (by simp <;> omega)) (hfa7.out.gr hE (by simp <;> omega)) (FrR.nil w3.heap.size w3.heap.size wE) (by omega) (by omega) ⟨by simp <;> omega, by simp <;> omega, by simp, by simp⟩ hv51 (hrE.le (by omega)) hgwE (vc_mk HVS5.out hn4 hv51 (fits4 HVL5.out (by have := HX7.out.1; omega) HX7.out.2))
    · go_wp2_with fail
      have hg4 : Gr [] w3 (w3.alloc (.cells #[.int .i64 5, .slice vo vars.length vc, .slice none 0 0, .int .i64 0, .slice none 0 0] 26)) := (Gr.refl _ _).alloc _
      have hb4 : (w3.alloc (.cells #[.int .i64 5, .slice vo vars.length vc, .slice none 0 0, .int .i64 0, .slice none 0 0] 26)).heap[w3.heap.size]? = some (.cells #[.int .i64 5, .slice vo vars.length vc, .slice none 0 0, .int .i64 0, .slice none 0 0] 26 (0, 0)) := heap_alloc_new _ _
      have hr4 := hg4.obj Hrb3.out (by simp)
      have hf4 := hid (Hfr3.out.gr hg4 (by simp))
      have hrd4 := hid (Hrd3.out.gr hg4)
      have hgw4 := hid (Hg03.out.trans hg4.any)
      have hb4' := hid hb4; have hr4' := hid hr4
      have HRB : Hid (∀ W, Gr [R, w3.heap.size] w3 W → W.heap[w.heap.size]? = some (.cells #[.int .i64 0, .slice none 0 0, .slice none 0 0, .int .i64 0, .slice none 0 0] 26 (0, 0))) := hid fun W h => h.obj Hrb3.out (by simp; omega)
      clear hr4 hr4'
      obtain ⟨W4, hW4⟩ : ∃ W4, W4 = w3.alloc (.cells #[.int .i64 5, .slice vo vars.length vc, .slice none 0 0, .int .i64 0, .slice none 0 0] 26) := ⟨_, rfl⟩
      rw [← hW4] at hg4 hb4 hb4' hf4 hrd4 hgw4
      have hs4 : W4.heap.size = w3.heap.size + 1 := by rw [hW4]; simp
      have HL4 : Hid (Gr [R, w3.heap.size] w3 W4) := hid (hg4.any)
      have ff4 := fldF hb4
      have fl4 := fld hb4
      clear hb4 hg4
      rw [← hW4]
      clear hW4
      (with_reducible refine (pick_c R bs (q + 1 + 1 + n) 6 _ ?_ (by omega) (by omega)).mono ?_)
      · exact hrd4.out.grS (S := [w3.heap.size]) (by (repeat (first | exact (Gr.refl [w3.heap.size] W4) | refine Gr.alloc ?_ _ | refine Gr.drew ?_ | refine Gr.setCell ?_ _ _ (.inl (by simp))))) (by simp <;> omega)
      rintro e w5 ⟨⟨r5, rfl, hr50, hr5n⟩, hrdw5, hgw5⟩
      have HSw5 : Gr [R, w3.heap.size] W4 w5 := Gr.trans (b := _) (by (repeat (first | exact (Gr.refl [R, w3.heap.size] W4) | refine Gr.alloc ?_ _ | refine Gr.drew ?_ | refine Gr.setCell ?_ _ _ (.inl (by simp))))) (hgw5.sub (by intro k _ h; simp at h ⊢; omega))
      have HL5 : Hid (Gr [R, w3.heap.size] w3 w5) := hid (HL4.out.trans HSw5)
      have hfv5 := hid (hf4.out.gr HSw5 (by simp <;> omega))
      have hb5 := hgw5.obj hb4'.out (by simp <;> omega)
      have hs5 := hgw5.size
      obtain ⟨r5, rfl⟩ := Int.eq_ofNat_of_zero_le hr50
      have Hk5 : Hid (((1 : Int) + (r5 : Int)) = ((1 + r5 : Nat) : Int)) := hid (by omega)
      have hr56 : r5 < 6 := by omega
      clear hgw5 HSw5 fl4 ff4
      have Hb5 := hid hb5
      have fl5 := fld hb5
      have ff5 := fldF hb5
      have hlt5 := lt_of_block hb5
      clear hb5
      go_wp2_with fail
      rw [Hk5.out]
      clear fl5 ff5
      go_loopw [8] (fun i wr => ∃ (m : Nat) (rows : List (List Int)) (rv : Value), m ≤ 1 + r5 ∧ i = .int .i64 m ∧ rows.length + m = 1 + r5 ∧ wr.heap[w3.heap.size]? = some (.cells #[.int .i64 5, .slice vo vars.length vc, .slice none 0 0, .int .i64 0, rv] 26 (0, 0)) ∧ OwnG 1 elRow (w3.heap.size + 1) wr 23 rv rows ∧ (∀ r ∈ rows, r.length = vars.length ∧ ∀ x ∈ r, 0 ≤ x ∧ x ≤ 5) ∧ Rd wr R bs (q + 1 + 1 + n + 1 + 4 * rows.length) ∧ FrI (w.heap.size + 1) w3.heap.size wr (.slice vo vars.length vc) vars ∧ Gr [R, w3.heap.size] w3 wr) (fun i _ => (intOf i).toNat)
      case atStart => exact ⟨1 + r5, [], _, by omega, rfl, by simp, Hb5.out, OwnG.nil _ _ _, by simp, hrdw5, hfv5.out, HL5.out⟩
      case round =>
        obtain ⟨m, rows, rv, hm, rfl, hal, hb, hown, hrl, hrd, hfv, hL⟩ := hrel
        have flr := fld hb
        have ffr := fldF hb
        have hltr := lt_of_block hb
        have hsr := hL.size
        obtain ⟨ro, rc, rfl, _, _, _⟩ := hown.slice
        have Hal := hid hal; have Hb := hid hb; have Hown := hid hown; have Hrd := hid hrd; have Hfv := hid hfv; have HL := hid hL; have Hrl := hid hrl
        have hrl8 : rows.length ≤ 8 := by omega
        clear hal hb hown hrd hfv hL hrl
        by_cases hlt : 0 < m
        · go_wp2_with fail
          go_region_law (first
            | (go_simp; go_at_call 93; refine (randomRow_c R bs (q + 1 + 1 + n + 1 + 4 * rows.length) vars.length _ (Hrd.out.drew) (by omega) (by omega)).mono ?_; rintro e w6 ⟨v6, xs6, rfl, hown6, ⟨hl6, hx6⟩, hrd6, hg6⟩; have HS6 := hid (Gr.trans (a := wr) ((Gr.refl [R] _).drew) hg6); obtain ⟨xo6, xc6, rfl⟩ := hown6.c.form; have Hown6 := hid hown6; have hl64 : xs6.length ≤ 4 := (by omega); have HX6 := hid (And.intro hl6 hx6); clear hl6 hx6 hown6; have HSC6 : Hid (Gr [R] wr w6) := HS6; have Hrd6 := hid hrd6; have Hb6 := hid (HSC6.out.obj Hb.out (by simp <;> omega)); have fl6 := fld Hb6.out; have ff6 := fldF Hb6.out; have hlt6 := lt_of_block Hb6.out; have hs6 := HSC6.out.size; clear hrd6 hg6)
            | (refine step_appG rfl _ _ 24 rfl 1 elRow elRow_ok (w3.heap.size + 1) 23 (.slice none 0 0) 24 infoR rfl (by omega) (by omega) Tryz.underlying24 (.slice ro rows.length rc) rows rfl ((Hown.out.gr elRow_ok HSC6.out (by simp <;> omega)).gr elRow_ok ((Gr.refl [] _).alloc _) (by simp)) w6.heap.size 1 xs6 [.slice xo6 xs6.length xc6] rfl rfl (by simp [Value.oneCell']) (fun j u hj => by rw [fld (heap_alloc_new w6 (.cells #[.slice xo6 xs6.length xc6] 23))]; simpa using hj) (fun S hS => rowEl (Hown6.out.c.gr ((Gr.refl [] _).alloc _) (by simp)) (fun b hb => by rcases hS b hb with h | h | h; exact .inl (by simp; omega); exact .inr h; exact .inl (by have := (Hown.out.ownB h).2; simp; omega))) (by omega) (by simp <;> omega) ?_; intro g7 c7 w7 hown7 hg7; have hbl7 := OwnG.below ((Hown.out.gr elRow_ok HSC6.out (by simp <;> omega)).gr elRow_ok ((Gr.refl [] _).alloc _) (by simp)) hg7 (by simp <;> omega); have HA7 := hid (And.intro hown7 hbl7); have fl7 := fld ((hbl7.block w3.heap.size (by omega)).trans ((((Gr.refl [] w6).alloc (.cells #[.slice xo6 xs6.length xc6] 23)).obj Hb6.out (by simp)))); have ff7 := fldF ((hbl7.block w3.heap.size (by omega)).trans ((((Gr.refl [] w6).alloc (.cells #[.slice xo6 xs6.length xc6] 23)).obj Hb6.out (by simp)))); clear hown7 hbl7 hg7))
          all_goals
            go_wp2_with fail
            refine ⟨⟨_, _, _, _, _, _, _, _, _, _, _, _, _, ?_, rfl⟩, ?_⟩
            · obtain ⟨e1, e2, e3, e4, e5⟩ := app_end (fi := 4) (nv := .slice (some ⟨g7, 0, none⟩) (rows.length + 1) c7) HL.out HSC6.out HA7.out.2 (show R < w.heap.size + 1 by omega) (by omega) Hb6.out Hrd6.out Hfv.out
              refine ⟨m - 1, rows ++ [xs6], _, by omega, by go_num, by rw [List.length_append, List.length_singleton]; have := Hal.out; omega, e1, HA7.out.1.gr elRow_ok e2 (by simp), fun r hr => ?_, e3.le (by rw [List.length_append, List.length_singleton]; omega), e4, e5⟩
              rcases List.mem_append.1 hr with h | h
              · exact Hrl.out r h
              · rw [List.mem_singleton.1 h]; exact HX6.out
            · simp [intOf]; omega
        · have hme : m = 0 := by omega
          subst hme
          have hrl1 : 1 ≤ rows.length := by have := Hal.out; omega
          have hfr := hid (OwnG.fr Hown.out)
          go_wp2_with ((with_reducible show wpList _ _ _ (⟨none, Op.store _ (Operand.tmp 4) (Operand.tmp 141), _, _, _, none⟩ :: _) _ _); refine wp_storeT 26 4 141 w.heap.size #[.int .i64 5, .slice vo vars.length vc, .slice none 0 0, .int .i64 0, .slice ro rows.length rc] 26 #[.int .i64 0, .slice none 0 0, .slice none 0 0, .int .i64 0, .slice none 0 0] (HRB.out _ ?_) ⟨sizeC, rfl, rfl, rfl, one5 _ _ _ _ _ _ _ _ _ _ _⟩ ?_; (repeat (first | exact HL.out | refine Gr.alloc ?_ _ | refine Gr.drew ?_ | refine Gr.setCell ?_ _ _ (.inl (by simp)))); intro wE hbE hgE)
          have flE := fld hbE
          refine bodyPost_ret (v := .agg #[.int .i64 5, .slice vo vars.length vc, .slice none 0 0, .int .i64 0, .slice ro rows.length rc]) ?_ rfl ?_
          · simp [results, Tryz.results68, go_sem, flE]
          · have hE : Gr [w3.heap.size, w.heap.size] wr wE := Gr.trans (b := _) (by (repeat (first | exact (Gr.refl [w3.heap.size, w.heap.size] wr) | refine Gr.alloc ?_ _ | refine Gr.drew ?_ | refine Gr.setCell ?_ _ _ (.inl (by simp))))) (hgE.sub (by intro k _ h; simp at h ⊢; omega))
            have hE3 : Gr [R, w3.heap.size, w.heap.size] w3 wE := (Gr.sub HL.out (by intro k _ h; simp at h ⊢; omega)).trans (hE.sub (by intro k _ h; simp at h ⊢; omega))
            have hsE := hE.size
            have hsL := HL.out.size
            have hrE := Hrd.out.grS hE (by simp; omega)
            have hgwE : Gr [R] w wE := (Hg03.out.step HL.out (fun i hi => by simp at hi; rcases hi with h | h; exact .inl (by simp [h]); exact .inr (by omega))).step hE (fun i hi => .inr (by simp at hi; omega))
            exact conPostV_mk (args := []) (rows := rows) (Hfv.out.gr hE (by simp <;> omega)) (FrI.nil w3.heap.size w3.heap.size wE) (hfr.out.gr hE (by simp <;> omega)) (by omega) (by omega) ⟨by simp <;> omega, by simp, by simp <;> omega, fun r hr => by have := (Hrl.out r hr).1; omega⟩ hv1 (hrE.le (by omega)) hgwE (vc_mk HVS.out hn4 hv1 (fits5 (by omega) Hrl.out))
    · go_wp2_with fail
      have hg4 : Gr [] w3 (w3.alloc (.cells #[.int .i64 6, .slice vo vars.length vc, .slice none 0 0, .int .i64 0, .slice none 0 0] 26)) := (Gr.refl _ _).alloc _
      have hb4 : (w3.alloc (.cells #[.int .i64 6, .slice vo vars.length vc, .slice none 0 0, .int .i64 0, .slice none 0 0] 26)).heap[w3.heap.size]? = some (.cells #[.int .i64 6, .slice vo vars.length vc, .slice none 0 0, .int .i64 0, .slice none 0 0] 26 (0, 0)) := heap_alloc_new _ _
      have hr4 := hg4.obj Hrb3.out (by simp)
      have hf4 := hid (Hfr3.out.gr hg4 (by simp))
      have hrd4 := hid (Hrd3.out.gr hg4)
      have hgw4 := hid (Hg03.out.trans hg4.any)
      have hb4' := hid hb4; have hr4' := hid hr4
      have HRB : Hid (∀ W, Gr [R, w3.heap.size] w3 W → W.heap[w.heap.size]? = some (.cells #[.int .i64 0, .slice none 0 0, .slice none 0 0, .int .i64 0, .slice none 0 0] 26 (0, 0))) := hid fun W h => h.obj Hrb3.out (by simp; omega)
      clear hr4 hr4'
      obtain ⟨W4, hW4⟩ : ∃ W4, W4 = w3.alloc (.cells #[.int .i64 6, .slice vo vars.length vc, .slice none 0 0, .int .i64 0, .slice none 0 0] 26) := ⟨_, rfl⟩
      rw [← hW4] at hg4 hb4 hb4' hf4 hrd4 hgw4
      have hs4 : W4.heap.size = w3.heap.size + 1 := by rw [hW4]; simp
      have HL4 : Hid (Gr [R, w3.heap.size] w3 W4) := hid (hg4.any)
      have ff4 := fldF hb4
      have fl4 := fld hb4
      clear hb4 hg4
      rw [← hW4]
      clear hW4
      (with_reducible refine (pick_c R bs (q + 1 + 1 + n) 6 _ ?_ (by omega) (by omega)).mono ?_)
      · exact hrd4.out.grS (S := [w3.heap.size]) (by (repeat (first | exact (Gr.refl [w3.heap.size] W4) | refine Gr.alloc ?_ _ | refine Gr.drew ?_ | refine Gr.setCell ?_ _ _ (.inl (by simp))))) (by simp <;> omega)
      rintro e w5 ⟨⟨r5, rfl, hr50, hr5n⟩, hrdw5, hgw5⟩
      have HSw5 : Gr [R, w3.heap.size] W4 w5 := Gr.trans (b := _) (by (repeat (first | exact (Gr.refl [R, w3.heap.size] W4) | refine Gr.alloc ?_ _ | refine Gr.drew ?_ | refine Gr.setCell ?_ _ _ (.inl (by simp))))) (hgw5.sub (by intro k _ h; simp at h ⊢; omega))
      have HL5 : Hid (Gr [R, w3.heap.size] w3 w5) := hid (HL4.out.trans HSw5)
      have hfv5 := hid (hf4.out.gr HSw5 (by simp <;> omega))
      have hb5 := hgw5.obj hb4'.out (by simp <;> omega)
      have hs5 := hgw5.size
      clear hgw5 HSw5 fl4 ff4
      have Hb5 := hid hb5
      have fl5 := fld hb5
      have ff5 := fldF hb5
      have hlt5 := lt_of_block hb5
      clear hb5
      go_wp2_with fail
      (with_reducible refine (pick_c R bs (q + 1 + 1 + n + 1) 4 _ ?_ (by omega) (by omega)).mono ?_)
      · exact hrdw5.grS (S := [w3.heap.size]) (by (repeat (first | exact (Gr.refl [w3.heap.size] w5) | refine Gr.alloc ?_ _ | refine Gr.drew ?_ | refine Gr.setCell ?_ _ _ (.inl (by simp))))) (by simp <;> omega)
      rintro e w6 ⟨⟨r6, rfl, hr60, hr6n⟩, hrdw6, hgw6⟩
      have HSw6 : Gr [R, w3.heap.size] w5 w6 := Gr.trans (b := _) (by (repeat (first | exact (Gr.refl [R, w3.heap.size] w5) | refine Gr.alloc ?_ _ | refine Gr.drew ?_ | refine Gr.setCell ?_ _ _ (.inl (by simp))))) (hgw6.sub (by intro k _ h; simp at h ⊢; omega))
      have HL6 : Hid (Gr [R, w3.heap.size] w3 w6) := hid (HL5.out.trans HSw6)
      have hfv6 := hid (hfv5.out.gr HSw6 (by simp <;> omega))
      have hb6 : w6.heap[w3.heap.size]? = some (.cells #[.int .i64 6, .slice vo vars.length vc, .slice (some ⟨w5.heap.size, 0, none⟩) 1 1, .int .i64 0, .slice none 0 0] 26 (0, 0)) := hgw6.obj (((Gr.refl [] _).alloc _).obj (cells_set Hb5.out 2 _) (by simp)) (by simp <;> omega)
      have hA6 : w6.heap[w5.heap.size]? = some (.cells #[.int .i64 r5] 3 (0, 0)) := hgw6.obj (alloc_at _ _ _ (by simp)) (by simp <;> omega)
      have HA6 := hid hA6
      have hltA := lt_of_block hA6
      have hs6 := hgw6.size
      simp at hs6
      clear fl5 ff5 hgw6 HSw6 hA6
      have Hb6 := hid hb6
      have fl6 := fld hb6
      have ff6 := fldF hb6
      have hlt6 := lt_of_block hb6
      clear hb6
      go_wp2_with ((with_reducible show wpList _ _ _ (⟨none, Op.store _ (Operand.tmp 4) (Operand.tmp 141), _, _, _, none⟩ :: _) _ _); refine wp_storeT 26 4 141 w.heap.size #[.int .i64 6, .slice vo vars.length vc, .slice (some ⟨w5.heap.size, 0, none⟩) 1 1, .int .i64 r6, .slice none 0 0] 26 #[.int .i64 0, .slice none 0 0, .slice none 0 0, .int .i64 0, .slice none 0 0] (HRB.out _ ?_) ⟨sizeC, rfl, rfl, rfl, one5 _ _ _ _ _ _ _ _ _ _ _⟩ ?_; (repeat (first | exact HL6.out | refine Gr.alloc ?_ _ | refine Gr.drew ?_ | refine Gr.setCell ?_ _ _ (.inl (by simp)))); intro wE hbE hgE)
      have flE := fld hbE
      refine bodyPost_ret (v := .agg #[.int .i64 6, .slice vo vars.length vc, .slice (some ⟨w5.heap.size, 0, none⟩) 1 1, .int .i64 r6, .slice none 0 0]) ?_ rfl ?_
      · simp [results, Tryz.results68, go_sem, flE]
      · have hE : Gr [w3.heap.size, w.heap.size] w6 wE := Gr.trans (b := _) (by (repeat (first | exact (Gr.refl [w3.heap.size, w.heap.size] w6) | refine Gr.alloc ?_ _ | refine Gr.drew ?_ | refine Gr.setCell ?_ _ _ (.inl (by simp))))) (hgE.sub (by intro k _ h; simp at h ⊢; omega))
        have hE3 : Gr [R, w3.heap.size, w.heap.size] w3 wE := (Gr.sub HL6.out (by intro k _ h; simp at h ⊢; omega)).trans (hE.sub (by intro k _ h; simp at h ⊢; omega))
        have hsE := hE.size
        have hsL := HL6.out.size
        have hrE := hrdw6.grS hE (by simp; omega)
        have hgwE : Gr [R] w wE := (Hg03.out.step HL6.out (fun i hi => by simp at hi; rcases hi with h | h; exact .inl (by simp [h]); exact .inr (by omega))).step hE (fun i hi => .inr (by simp at hi; omega))
        have hA : wE.heap[w5.heap.size]? = some (.cells #[.int .i64 r5] 3 (0, 0)) := hE.obj HA6.out (by simp <;> omega)
        exact conPostV_mk (args := [r5]) (rows := []) (hfv6.out.gr hE (by simp <;> omega)) (frI_new (xs := [r5]) hA (by simp)) (FrR.nil w3.heap.size w3.heap.size wE) (by omega) (by omega) ⟨by simp <;> omega, by simp, by simp, by simp⟩ hv1 (hrE.le (by omega)) hgwE (vc_mk HVS.out hn4 hv1 (fits6 (by omega) (by omega)))
    · go_wp2_with fail
      have hg4 : Gr [] w3 (w3.alloc (.cells #[.int .i64 7, .slice vo vars.length vc, .slice none 0 0, .int .i64 0, .slice none 0 0] 26)) := (Gr.refl _ _).alloc _
      have hb4 : (w3.alloc (.cells #[.int .i64 7, .slice vo vars.length vc, .slice none 0 0, .int .i64 0, .slice none 0 0] 26)).heap[w3.heap.size]? = some (.cells #[.int .i64 7, .slice vo vars.length vc, .slice none 0 0, .int .i64 0, .slice none 0 0] 26 (0, 0)) := heap_alloc_new _ _
      have hr4 := hg4.obj Hrb3.out (by simp)
      have hf4 := hid (Hfr3.out.gr hg4 (by simp))
      have hrd4 := hid (Hrd3.out.gr hg4)
      have hgw4 := hid (Hg03.out.trans hg4.any)
      have hb4' := hid hb4; have hr4' := hid hr4
      have HRB : Hid (∀ W, Gr [R, w3.heap.size] w3 W → W.heap[w.heap.size]? = some (.cells #[.int .i64 0, .slice none 0 0, .slice none 0 0, .int .i64 0, .slice none 0 0] 26 (0, 0))) := hid fun W h => h.obj Hrb3.out (by simp; omega)
      clear hr4 hr4'
      obtain ⟨W4, hW4⟩ : ∃ W4, W4 = w3.alloc (.cells #[.int .i64 7, .slice vo vars.length vc, .slice none 0 0, .int .i64 0, .slice none 0 0] 26) := ⟨_, rfl⟩
      rw [← hW4] at hg4 hb4 hb4' hf4 hrd4 hgw4
      have hs4 : W4.heap.size = w3.heap.size + 1 := by rw [hW4]; simp
      have HL4 : Hid (Gr [R, w3.heap.size] w3 W4) := hid (hg4.any)
      have ff4 := fldF hb4
      have fl4 := fld hb4
      clear hb4 hg4
      rw [← hW4]
      clear hW4
      go_loopw [9] (fun i wr => ∃ (m : Nat) (args : List Int) (av : Value), m ≤ 2 * vars.length ∧ i = .int .i64 m ∧ args.length = m ∧ (∀ a ∈ args, (0 : Int) ≤ a ∧ a ≤ 9) ∧ wr.heap[w3.heap.size]? = some (.cells #[.int .i64 7, .slice vo vars.length vc, av, .int .i64 0, .slice none 0 0] 26 (0, 0)) ∧ Own (w3.heap.size + 1) wr 3 av args ∧ Rd wr R bs (q + 1 + 1 + n + m) ∧ FrI (w.heap.size + 1) w3.heap.size wr (.slice vo vars.length vc) vars ∧ Gr [R, w3.heap.size] w3 wr) (fun i _ => 2 * vars.length - (intOf i).toNat)
      case atStart => exact ⟨0, [], _, by omega, rfl, rfl, by simp, hb4'.out, Own.nil _ _ _, hrd4.out, hf4.out, HL4.out⟩
      case round =>
        obtain ⟨m, args, av, hm, rfl, hal, harg, hb, hown, hrd, hfv, hL⟩ := hrel
        have Harg := hid harg; clear harg
        have flr := fld hb
        have ffr := fldF hb
        have hltr := lt_of_block hb
        have hsr := hL.size
        obtain ⟨xo, xc, rfl⟩ := hown.c.form
        have Hal := hid hal; have Hb := hid hb; have Hown := hid hown; have Hrd := hid hrd; have Hfv := hid hfv; have HL := hid hL
        clear hal hb hown hrd hfv hL
        by_cases hlt : m < 2 * vars.length
        · go_wp2_with fail
          go_region_law (first
            | (go_simp; go_at_call 34; refine (pick_c R bs (q + 1 + 1 + n + m) 4 _ (Hrd.out.drew) (by omega) (by omega)).mono ?_; rintro e w6 ⟨⟨r6, rfl, hr60, hr6n⟩, hrd6, hg6⟩; have HS6 := hid (Gr.trans (a := wr) ((Gr.refl [R] _).drew) hg6); have HR6 : Hid ((0 : Int) ≤ r6 ∧ r6 ≤ 9) := hid (by omega); clear hr60 hr6n; have HSC6 : Hid (Gr [R] wr w6) := HS6; have Hrd6 := hid hrd6; have Hb6 := hid (HSC6.out.obj Hb.out (by simp <;> omega)); have fl6 := fld Hb6.out; have ff6 := fldF Hb6.out; have hlt6 := lt_of_block Hb6.out; have hs6 := HSC6.out.size; clear hrd6 hg6)
            | (refine step_app1 rfl _ _ 23 rfl (w3.heap.size + 1) 3 infoInt Tryz.underlying23 (.slice xo args.length xc) args rfl ((Hown.out.gr HSC6.out (by simp <;> omega)).alloc _) w6.heap.size 1 r6 rfl (cell_new _ _ _) (by have := Hal.out; omega) (by simp <;> omega) ?_; intro g7 c7 w7 hown7 hbl7; have HA7 := hid (And.intro hown7 hbl7); have fl7 := fld ((hbl7.block w3.heap.size (by omega)).trans ((((Gr.refl [] w6).alloc (.cells #[.int .i64 r6] 3)).obj Hb6.out (by simp)))); have ff7 := fldF ((hbl7.block w3.heap.size (by omega)).trans ((((Gr.refl [] w6).alloc (.cells #[.int .i64 r6] 3)).obj Hb6.out (by simp)))); clear hown7 hbl7))
          all_goals
            go_wp2_with fail
            obtain ⟨e1, e2, e3, e4, e5⟩ := app_end (fi := 2) (nv := .slice (some ⟨g7, 0, none⟩) (args.length + 1) c7) HL.out HSC6.out HA7.out.2 (show R < w.heap.size + 1 by omega) (by omega) Hb6.out Hrd6.out Hfv.out
            exact ⟨⟨m + 1, args ++ [r6], _, by omega, by go_num, by simp [Hal.out], (fun a ha => (List.mem_append.1 ha).elim (Harg.out a) fun h => by have h9 := HR6.out; rw [List.mem_singleton.1 h]; exact h9), e1, HA7.out.1.gr e2 (by simp), e3.le (by omega), e4, e5⟩, by simp [intOf]; omega⟩
        · have hme : m = 2 * vars.length := by omega
          have Hme := hid hme; clear hme
          go_wp2_with fail
          (with_reducible refine (pick_c R bs (q + 1 + 1 + n + m) 4 _ ?_ (by omega) (by omega)).mono ?_)
          · exact Hrd.out.grS (S := [w3.heap.size]) (by (repeat (first | exact (Gr.refl [w3.heap.size] wr) | refine Gr.alloc ?_ _ | refine Gr.drew ?_ | refine Gr.setCell ?_ _ _ (.inl (by simp))))) (by simp <;> omega)
          rintro e w5 ⟨⟨r5, rfl, hr50, hr5n⟩, hrdw5, hgw5⟩
          have HSw5 : Gr [R, w3.heap.size] wr w5 := Gr.trans (b := _) (by (repeat (first | exact (Gr.refl [R, w3.heap.size] wr) | refine Gr.alloc ?_ _ | refine Gr.drew ?_ | refine Gr.setCell ?_ _ _ (.inl (by simp))))) (hgw5.sub (by intro k _ h; simp at h ⊢; omega))
          have HL5 : Hid (Gr [R, w3.heap.size] w3 w5) := hid (HL.out.trans HSw5)
          have hfv5 := hid (Hfv.out.gr HSw5 (by simp <;> omega))
          have hb5 := hgw5.obj Hb.out (by simp <;> omega)
          have hfa5 := hid ((Hown.out.c.fr).gr hgw5 (by simp <;> omega))
          have hs5 := hgw5.size
          have hal100 : args.length ≤ 100 := by have := Hal.out; omega
          clear hgw5 HSw5 flr ffr
          have Hb5 := hid hb5
          have fl5 := fld hb5
          have ff5 := fldF hb5
          have hlt5 := lt_of_block hb5
          clear hb5
          go_wp2_with ((with_reducible show wpList _ _ _ (⟨none, Op.store _ (Operand.tmp 4) (Operand.tmp 141), _, _, _, none⟩ :: _) _ _); refine wp_storeT 26 4 141 w.heap.size #[.int .i64 7, .slice vo vars.length vc, .slice xo args.length xc, .int .i64 (1 + r5), .slice none 0 0] 26 #[.int .i64 0, .slice none 0 0, .slice none 0 0, .int .i64 0, .slice none 0 0] (HRB.out _ ?_) ⟨sizeC, rfl, rfl, rfl, one5 _ _ _ _ _ _ _ _ _ _ _⟩ ?_; (repeat (first | exact HL5.out | refine Gr.alloc ?_ _ | refine Gr.drew ?_ | refine Gr.setCell ?_ _ _ (.inl (by simp)))); intro wE hbE hgE)
          have flE := fld hbE
          refine bodyPost_ret (v := .agg #[.int .i64 7, .slice vo vars.length vc, .slice xo args.length xc, .int .i64 (1 + r5), .slice none 0 0]) ?_ rfl ?_
          · simp [results, Tryz.results68, go_sem, flE]
          · have hE : Gr [w3.heap.size, w.heap.size] w5 wE := Gr.trans (b := _) (by (repeat (first | exact (Gr.refl [w3.heap.size, w.heap.size] w5) | refine Gr.alloc ?_ _ | refine Gr.drew ?_ | refine Gr.setCell ?_ _ _ (.inl (by simp))))) (hgE.sub (by intro k _ h; simp at h ⊢; omega))
            have hE3 : Gr [R, w3.heap.size, w.heap.size] w3 wE := (Gr.sub HL5.out (by intro k _ h; simp at h ⊢; omega)).trans (hE.sub (by intro k _ h; simp at h ⊢; omega))
            have hsE := hE.size
            have hsL := HL5.out.size
            have hrE := hrdw5.grS hE (by simp; omega)
            have hgwE : Gr [R] w wE := (Hg03.out.step HL5.out (fun i hi => by simp at hi; rcases hi with h | h; exact .inl (by simp [h]); exact .inr (by omega))).step hE (fun i hi => .inr (by simp at hi; omega))
            exact conPostV_mk (args := args) (rows := []) (hfv5.out.gr hE (by simp <;> omega)) (hfa5.out.gr hE (by simp <;> omega)) (FrR.nil w3.heap.size w3.heap.size wE) (by omega) (by omega) ⟨by simp <;> omega, by simp <;> omega, by simp, by simp⟩ hv1 (hrE.le (by omega)) hgwE (vc_mk HVS.out hn4 hv1 (fits7 (by have := Hal.out; have := Hme.out; omega) Harg.out (by omega)))
    · go_wp2_with fail
      have hg4 : Gr [] w3 (w3.alloc (.cells #[.int .i64 8, .slice vo vars.length vc, .slice none 0 0, .int .i64 0, .slice none 0 0] 26)) := (Gr.refl _ _).alloc _
      have hb4 : (w3.alloc (.cells #[.int .i64 8, .slice vo vars.length vc, .slice none 0 0, .int .i64 0, .slice none 0 0] 26)).heap[w3.heap.size]? = some (.cells #[.int .i64 8, .slice vo vars.length vc, .slice none 0 0, .int .i64 0, .slice none 0 0] 26 (0, 0)) := heap_alloc_new _ _
      have hr4 := hg4.obj Hrb3.out (by simp)
      have hf4 := hid (Hfr3.out.gr hg4 (by simp))
      have hrd4 := hid (Hrd3.out.gr hg4)
      have hgw4 := hid (Hg03.out.trans hg4.any)
      have hb4' := hid hb4; have hr4' := hid hr4
      have HRB : Hid (∀ W, Gr [R, w3.heap.size] w3 W → W.heap[w.heap.size]? = some (.cells #[.int .i64 0, .slice none 0 0, .slice none 0 0, .int .i64 0, .slice none 0 0] 26 (0, 0))) := hid fun W h => h.obj Hrb3.out (by simp; omega)
      clear hr4 hr4'
      obtain ⟨W4, hW4⟩ : ∃ W4, W4 = w3.alloc (.cells #[.int .i64 8, .slice vo vars.length vc, .slice none 0 0, .int .i64 0, .slice none 0 0] 26) := ⟨_, rfl⟩
      rw [← hW4] at hg4 hb4 hb4' hf4 hrd4 hgw4
      have hs4 : W4.heap.size = w3.heap.size + 1 := by rw [hW4]; simp
      have HL4 : Hid (Gr [R, w3.heap.size] w3 W4) := hid (hg4.any)
      have ff4 := fldF hb4
      have fl4 := fld hb4
      clear hb4 hg4
      rw [← hW4]
      clear hW4
      (with_reducible refine (pick_c R bs (q + 1 + 1 + n) 3 _ ?_ (by omega) (by omega)).mono ?_)
      · exact hrd4.out.grS (S := [w3.heap.size]) (by (repeat (first | exact (Gr.refl [w3.heap.size] W4) | refine Gr.alloc ?_ _ | refine Gr.drew ?_ | refine Gr.setCell ?_ _ _ (.inl (by simp))))) (by simp <;> omega)
      rintro e w5 ⟨⟨r5, rfl, hr50, hr5n⟩, hrdw5, hgw5⟩
      have HSw5 : Gr [R, w3.heap.size] W4 w5 := Gr.trans (b := _) (by (repeat (first | exact (Gr.refl [R, w3.heap.size] W4) | refine Gr.alloc ?_ _ | refine Gr.drew ?_ | refine Gr.setCell ?_ _ _ (.inl (by simp))))) (hgw5.sub (by intro k _ h; simp at h ⊢; omega))
      have HL5 : Hid (Gr [R, w3.heap.size] w3 w5) := hid (HL4.out.trans HSw5)
      have hfv5 := hid (hf4.out.gr HSw5 (by simp <;> omega))
      have hb5 := hgw5.obj hb4'.out (by simp <;> omega)
      have hs5 := hgw5.size
      obtain ⟨r5, rfl⟩ := Int.eq_ofNat_of_zero_le hr50
      have Hk5 : Hid (((1 : Int) + (r5 : Int)) = ((1 + r5 : Nat) : Int)) := hid (by omega)
      clear hgw5 HSw5 fl4 ff4
      have Hb5 := hid hb5
      have fl5 := fld hb5
      have ff5 := fldF hb5
      have hlt5 := lt_of_block hb5
      clear hb5
      go_wp2_with fail
      rw [Hk5.out]
      (with_reducible refine (randomAutomaton_c R bs (q + 1 + 1 + n + 1) (1 + r5) _ hrdw5 (by omega) (by omega)).mono ?_)
      rintro e w6 ⟨v6, rows6, rfl, hown6, ⟨hl6, hr6⟩, hrd6, hg6⟩
      obtain ⟨ro6, rc6, rfl, hrc6, hrc62, _⟩ := hown6.slice
      have hfr6 := hid hown6.fr
      have HSw6 : Gr [R, w3.heap.size] w5 w6 := Gr.trans (b := _) (by (repeat (first | exact (Gr.refl [R, w3.heap.size] w5) | refine Gr.alloc ?_ _ | refine Gr.drew ?_ | refine Gr.setCell ?_ _ _ (.inl (by simp))))) (hg6.sub (by intro k _ h; simp at h ⊢; omega))
      have HL6 : Hid (Gr [R, w3.heap.size] w3 w6) := hid (HL5.out.trans HSw6)
      have hfv6 := hid (hfv5.out.gr HSw6 (by simp <;> omega))
      have hb6 := hg6.obj Hb5.out (by simp <;> omega)
      have hs6 := hg6.size
      have hrl1 : 1 ≤ rows6.length := by omega
      have hrl2 : rows6.length ≤ 100 := by omega
      have Hr6 := hid hr6; have HRL6 := hid hl6
      clear hown6 hl6 hr6 hg6 HSw6 fl5 ff5
      have Hb6 := hid hb6
      have fl6 := fld hb6
      have ff6 := fldF hb6
      have hlt6 := lt_of_block hb6
      clear hb6
      go_wp2_with ((with_reducible show wpList _ _ _ (⟨none, Op.store _ (Operand.tmp 4) (Operand.tmp 141), _, _, _, none⟩ :: _) _ _); refine wp_storeT 26 4 141 w.heap.size #[.int .i64 8, .slice vo vars.length vc, .slice (some ⟨w6.heap.size, 0, none⟩) 1 1, .int .i64 0, .slice ro6 rows6.length rc6] 26 #[.int .i64 0, .slice none 0 0, .slice none 0 0, .int .i64 0, .slice none 0 0] (HRB.out _ ?_) ⟨sizeC, rfl, rfl, rfl, one5 _ _ _ _ _ _ _ _ _ _ _⟩ ?_; (repeat (first | exact HL6.out | refine Gr.alloc ?_ _ | refine Gr.drew ?_ | refine Gr.setCell ?_ _ _ (.inl (by simp)))); intro wE hbE hgE)
      have flE := fld hbE
      refine bodyPost_ret (v := .agg #[.int .i64 8, .slice vo vars.length vc, .slice (some ⟨w6.heap.size, 0, none⟩) 1 1, .int .i64 0, .slice ro6 rows6.length rc6]) ?_ rfl ?_
      · simp [results, Tryz.results68, go_sem, flE]
      · have hE : Gr [w3.heap.size, w.heap.size] w6 wE := Gr.trans (b := _) (by (repeat (first | exact (Gr.refl [w3.heap.size, w.heap.size] w6) | refine Gr.alloc ?_ _ | refine Gr.drew ?_ | refine Gr.setCell ?_ _ _ (.inl (by simp))))) (hgE.sub (by intro k _ h; simp at h ⊢; omega))
        have hE3 : Gr [R, w3.heap.size, w.heap.size] w3 wE := (Gr.sub HL6.out (by intro k _ h; simp at h ⊢; omega)).trans (hE.sub (by intro k _ h; simp at h ⊢; omega))
        have hsE := hE.size
        have hsL := HL6.out.size
        have hrE := hrd6.grS hE (by simp; omega)
        have hgwE : Gr [R] w wE := (Hg03.out.step HL6.out (fun i hi => by simp at hi; rcases hi with h | h; exact .inl (by simp [h]); exact .inr (by omega))).step hE (fun i hi => .inr (by simp at hi; omega))
        have hA : wE.heap[w6.heap.size]? = some (.cells #[.int .i64 ((rows6.length : Int) - 1)] 3 (0, 0)) := hgE.obj (alloc_at _ _ _ (by simp)) (by simp <;> omega)
        have hltE := lt_of_block hA
        exact conPostV_mk (args := [(rows6.length : Int) - 1]) (rows := rows6) (hfv6.out.gr hE (by simp <;> omega)) (frI_new (xs := [(rows6.length : Int) - 1]) hA (by simp)) (hfr6.out.gr hE (by simp <;> omega)) (by omega) (by omega) ⟨by simp <;> omega, by simp, by simp <;> omega, fun r hr => by have := (Hr6.out r hr).1; omega⟩ hv1 (hrE.le (by omega)) hgwE (vc_mk HVS.out hn4 hv1 (fits8 (by have := HRL6.out; omega) (fun r hr => ⟨(Hr6.out r hr).1, fun x hx => by have := (Hr6.out r hr).2 x hx; have := HRL6.out; omega⟩)))
    · have hg4 : Gr [] w3 (w3.alloc (.cells #[.int .i64 9, .slice vo vars.length vc, .slice none 0 0, .int .i64 0, .slice none 0 0] 26)) := (Gr.refl _ _).alloc _
      have hb4 : (w3.alloc (.cells #[.int .i64 9, .slice vo vars.length vc, .slice none 0 0, .int .i64 0, .slice none 0 0] 26)).heap[w3.heap.size]? = some (.cells #[.int .i64 9, .slice vo vars.length vc, .slice none 0 0, .int .i64 0, .slice none 0 0] 26 (0, 0)) := heap_alloc_new _ _
      have hr4 := hg4.obj Hrb3.out (by simp)
      have hf4 := hid (Hfr3.out.gr hg4 (by simp))
      have hrd4 := hid (Hrd3.out.gr hg4)
      have hgw4 := hid (Hg03.out.trans hg4.any)
      have hb4' := hid hb4; have hr4' := hid hr4
      have HRB : Hid (∀ W, Gr [R, w3.heap.size] w3 W → W.heap[w.heap.size]? = some (.cells #[.int .i64 0, .slice none 0 0, .slice none 0 0, .int .i64 0, .slice none 0 0] 26 (0, 0))) := hid fun W h => h.obj Hrb3.out (by simp; omega)
      clear hr4 hr4'
      have HL : Hid (Gr [R, w3.heap.size] w3 (w3.alloc (.cells #[.int .i64 9, .slice vo vars.length vc, .slice none 0 0, .int .i64 0, .slice none 0 0] 26))) := hid (Gr.alloc (Gr.refl _ _) _)
      clear hb4 hg4
      go_wp2_with ((with_reducible show wpList _ _ _ (⟨none, Op.store _ (Operand.tmp 4) (Operand.tmp 141), _, _, _, none⟩ :: _) _ _); refine wp_storeT 26 4 141 w.heap.size #[.int .i64 9, .slice vo vars.length vc, .slice none 0 0, .int .i64 0, .slice none 0 0] 26 #[.int .i64 0, .slice none 0 0, .slice none 0 0, .int .i64 0, .slice none 0 0] (HRB.out _ ?_) ⟨sizeC, rfl, rfl, rfl, one5 _ _ _ _ _ _ _ _ _ _ _⟩ ?_; (repeat (first | exact HL.out | refine Gr.alloc ?_ _ | refine Gr.drew ?_ | refine Gr.setCell ?_ _ _ (.inl (by simp)))); intro wE hbE hgE)
      have flE := fld hbE
      refine bodyPost_ret (v := .agg #[.int .i64 9, .slice vo vars.length vc, .slice none 0 0, .int .i64 0, .slice none 0 0]) ?_ rfl ?_
      · simp [results, Tryz.results68, go_sem, flE]
      · have hE : Gr [w3.heap.size, w.heap.size] (w3.alloc (.cells #[.int .i64 9, .slice vo vars.length vc, .slice none 0 0, .int .i64 0, .slice none 0 0] 26)) wE := Gr.trans (b := _) (by (repeat (first | exact (Gr.refl [w3.heap.size, w.heap.size] (w3.alloc (.cells #[.int .i64 9, .slice vo vars.length vc, .slice none 0 0, .int .i64 0, .slice none 0 0] 26))) | refine Gr.alloc ?_ _ | refine Gr.drew ?_ | refine Gr.setCell ?_ _ _ (.inl (by simp))))) (hgE.sub (by intro k _ h; simp at h ⊢; omega))
        have hE3 : Gr [R, w3.heap.size, w.heap.size] w3 wE := (Gr.sub HL.out (by intro k _ h; simp at h ⊢; omega)).trans (hE.sub (by intro k _ h; simp at h ⊢; omega))
        have hsE := hE.size
        have hsL := HL.out.size
        have hrE := hrd4.out.grS hE (by simp; omega)
        have hgwE : Gr [R] w wE := (Hg03.out.step HL.out (fun i hi => by simp at hi; rcases hi with h | h; exact .inl (by simp [h]); exact .inr (by omega))).step hE (fun i hi => .inr (by simp at hi; omega))
        exact conPostV_mk (args := []) (rows := []) (Hfr3.out.gr hE3 (by simp; omega)) (FrI.nil w3.heap.size w3.heap.size wE) (FrR.nil w3.heap.size w3.heap.size wE) (by omega) (by simp at hsE; omega) ⟨by simp; omega, by simp, by simp, by simp⟩ hv1 (hrE.le (by omega)) hgwE (vc_mk HVS.out hn4 hv1 (fits3 (by decide)))
  · have hn2' : (n : Int) < 2 := by simpa using hn2
    rcases h9 with rfl | rfl | rfl | rfl | rfl | rfl | rfl | rfl | rfl
    · go_wp2_with fail
      have hg4 : Gr [] w3 (w3.alloc (.cells #[.int .i64 1, .slice vo vars.length vc, .slice none 0 0, .int .i64 0, .slice none 0 0] 26)) := (Gr.refl _ _).alloc _
      have hb4 : (w3.alloc (.cells #[.int .i64 1, .slice vo vars.length vc, .slice none 0 0, .int .i64 0, .slice none 0 0] 26)).heap[w3.heap.size]? = some (.cells #[.int .i64 1, .slice vo vars.length vc, .slice none 0 0, .int .i64 0, .slice none 0 0] 26 (0, 0)) := heap_alloc_new _ _
      have hr4 := hg4.obj Hrb3.out (by simp)
      have hf4 := hid (Hfr3.out.gr hg4 (by simp))
      have hrd4 := hid (Hrd3.out.gr hg4)
      have hgw4 := hid (Hg03.out.trans hg4.any)
      have hb4' := hid hb4; have hr4' := hid hr4
      have HRB : Hid (∀ W, Gr [R, w3.heap.size] w3 W → W.heap[w.heap.size]? = some (.cells #[.int .i64 0, .slice none 0 0, .slice none 0 0, .int .i64 0, .slice none 0 0] 26 (0, 0))) := hid fun W h => h.obj Hrb3.out (by simp; omega)
      clear hr4 hr4'
      obtain ⟨W4, hW4⟩ : ∃ W4, W4 = w3.alloc (.cells #[.int .i64 1, .slice vo vars.length vc, .slice none 0 0, .int .i64 0, .slice none 0 0] 26) := ⟨_, rfl⟩
      rw [← hW4] at hg4 hb4 hb4' hf4 hrd4 hgw4
      have hs4 : W4.heap.size = w3.heap.size + 1 := by rw [hW4]; simp
      have HL4 : Hid (Gr [R, w3.heap.size] w3 W4) := hid (hg4.any)
      have ff4 := fldF hb4
      have fl4 := fld hb4
      clear hb4 hg4
      rw [← hW4]
      clear hW4
      go_loopw [7] (fun i wr => ∃ (m : Nat) (args : List Int) (av : Value), m ≤ vars.length ∧ i = .int .i64 m ∧ args.length = m ∧ (∀ a ∈ args, (-9 : Int) ≤ a ∧ a ≤ 9) ∧ wr.heap[w3.heap.size]? = some (.cells #[.int .i64 1, .slice vo vars.length vc, av, .int .i64 0, .slice none 0 0] 26 (0, 0)) ∧ Own (w3.heap.size + 1) wr 3 av args ∧ Rd wr R bs (q + 1 + 1 + n + m) ∧ FrI (w.heap.size + 1) w3.heap.size wr (.slice vo vars.length vc) vars ∧ Gr [R, w3.heap.size] w3 wr) (fun i _ => vars.length - (intOf i).toNat)
      case atStart => exact ⟨0, [], _, by omega, rfl, rfl, by simp, hb4'.out, Own.nil _ _ _, hrd4.out, hf4.out, HL4.out⟩
      case round =>
        obtain ⟨m, args, av, hm, rfl, hal, harg, hb, hown, hrd, hfv, hL⟩ := hrel
        have Harg := hid harg; clear harg
        have flr := fld hb
        have ffr := fldF hb
        have hltr := lt_of_block hb
        have hsr := hL.size
        obtain ⟨xo, xc, rfl⟩ := hown.c.form
        have Hal := hid hal; have Hb := hid hb; have Hown := hid hown; have Hrd := hid hrd; have Hfv := hid hfv; have HL := hid hL
        clear hal hb hown hrd hfv hL
        by_cases hlt : m < vars.length
        · go_wp2_with fail
          go_region_law (first
            | (go_simp; go_at_call 67; refine (one_c R bs (q + 1 + 1 + n + m) _ [1, 1, -1, 2, -3, 0] _ ((Hrd.out.drew).gr ((Gr.refl _ _).alloc _)) (nums_new _ _ _ (by simp <;> omega)) (by omega) (by simp) (by simp)).mono ?_; rintro e w6 ⟨⟨r6, rfl, hr6⟩, hrd6, hg6⟩; have HS6 := hid (Gr.trans (a := wr) ((Gr.refl [R] _).drew.alloc _) hg6); have HR6 : Hid ((-9 : Int) ≤ r6 ∧ r6 ≤ 9) := hid (by simp at hr6; omega); clear hr6; have HSC6 : Hid (Gr [R] wr w6) := HS6; have Hrd6 := hid hrd6; have Hb6 := hid (HSC6.out.obj Hb.out (by simp <;> omega)); have fl6 := fld Hb6.out; have ff6 := fldF Hb6.out; have hlt6 := lt_of_block Hb6.out; have hs6 := HSC6.out.size; clear hrd6 hg6)
            | (refine step_app1 rfl _ _ 23 rfl (w3.heap.size + 1) 3 infoInt Tryz.underlying23 (.slice xo args.length xc) args rfl ((Hown.out.gr HSC6.out (by simp <;> omega)).alloc _) w6.heap.size 1 r6 rfl (cell_new _ _ _) (by have := Hal.out; omega) (by simp <;> omega) ?_; intro g7 c7 w7 hown7 hbl7; have HA7 := hid (And.intro hown7 hbl7); have fl7 := fld ((hbl7.block w3.heap.size (by omega)).trans ((((Gr.refl [] w6).alloc (.cells #[.int .i64 r6] 3)).obj Hb6.out (by simp)))); have ff7 := fldF ((hbl7.block w3.heap.size (by omega)).trans ((((Gr.refl [] w6).alloc (.cells #[.int .i64 r6] 3)).obj Hb6.out (by simp)))); clear hown7 hbl7))
          all_goals
            go_wp2_with fail
            obtain ⟨e1, e2, e3, e4, e5⟩ := app_end (fi := 2) (nv := .slice (some ⟨g7, 0, none⟩) (args.length + 1) c7) HL.out HSC6.out HA7.out.2 (show R < w.heap.size + 1 by omega) (by omega) Hb6.out Hrd6.out Hfv.out
            exact ⟨⟨m + 1, args ++ [r6], _, by omega, by go_num, by simp [Hal.out], (fun a ha => (List.mem_append.1 ha).elim (Harg.out a) fun h => by have h9 := HR6.out; rw [List.mem_singleton.1 h]; exact h9), e1, HA7.out.1.gr e2 (by simp), e3.le (by omega), e4, e5⟩, by simp [intOf]; omega⟩
        · have hme : m = vars.length := by omega
          have Hme := hid hme; clear hme
          go_wp2_with fail
          (with_reducible refine (pick_c R bs (q + 1 + 1 + n + m) 14 _ ?_ (by omega) (by omega)).mono ?_)
          · exact Hrd.out.grS (S := [w3.heap.size]) (by (repeat (first | exact (Gr.refl [w3.heap.size] wr) | refine Gr.alloc ?_ _ | refine Gr.drew ?_ | refine Gr.setCell ?_ _ _ (.inl (by simp))))) (by simp <;> omega)
          rintro e w5 ⟨⟨r5, rfl, hr50, hr5n⟩, hrdw5, hgw5⟩
          have HSw5 : Gr [R, w3.heap.size] wr w5 := Gr.trans (b := _) (by (repeat (first | exact (Gr.refl [R, w3.heap.size] wr) | refine Gr.alloc ?_ _ | refine Gr.drew ?_ | refine Gr.setCell ?_ _ _ (.inl (by simp))))) (hgw5.sub (by intro k _ h; simp at h ⊢; omega))
          have HL5 : Hid (Gr [R, w3.heap.size] w3 w5) := hid (HL.out.trans HSw5)
          have hfv5 := hid (Hfv.out.gr HSw5 (by simp <;> omega))
          have hb5 := hgw5.obj Hb.out (by simp <;> omega)
          have hfa5 := hid ((Hown.out.c.fr).gr hgw5 (by simp <;> omega))
          have hs5 := hgw5.size
          have hal100 : args.length ≤ 100 := by have := Hal.out; omega
          clear hgw5 HSw5 flr ffr
          have Hb5 := hid hb5
          have fl5 := fld hb5
          have ff5 := fldF hb5
          have hlt5 := lt_of_block hb5
          clear hb5
          go_wp2_with ((with_reducible show wpList _ _ _ (⟨none, Op.store _ (Operand.tmp 4) (Operand.tmp 141), _, _, _, none⟩ :: _) _ _); refine wp_storeT 26 4 141 w.heap.size #[.int .i64 1, .slice vo vars.length vc, .slice xo args.length xc, .int .i64 (r5 - 4), .slice none 0 0] 26 #[.int .i64 0, .slice none 0 0, .slice none 0 0, .int .i64 0, .slice none 0 0] (HRB.out _ ?_) ⟨sizeC, rfl, rfl, rfl, one5 _ _ _ _ _ _ _ _ _ _ _⟩ ?_; (repeat (first | exact HL5.out | refine Gr.alloc ?_ _ | refine Gr.drew ?_ | refine Gr.setCell ?_ _ _ (.inl (by simp)))); intro wE hbE hgE)
          have flE := fld hbE
          refine bodyPost_ret (v := .agg #[.int .i64 1, .slice vo vars.length vc, .slice xo args.length xc, .int .i64 (r5 - 4), .slice none 0 0]) ?_ rfl ?_
          · simp [results, Tryz.results68, go_sem, flE]
          · have hE : Gr [w3.heap.size, w.heap.size] w5 wE := Gr.trans (b := _) (by (repeat (first | exact (Gr.refl [w3.heap.size, w.heap.size] w5) | refine Gr.alloc ?_ _ | refine Gr.drew ?_ | refine Gr.setCell ?_ _ _ (.inl (by simp))))) (hgE.sub (by intro k _ h; simp at h ⊢; omega))
            have hE3 : Gr [R, w3.heap.size, w.heap.size] w3 wE := (Gr.sub HL5.out (by intro k _ h; simp at h ⊢; omega)).trans (hE.sub (by intro k _ h; simp at h ⊢; omega))
            have hsE := hE.size
            have hsL := HL5.out.size
            have hrE := hrdw5.grS hE (by simp; omega)
            have hgwE : Gr [R] w wE := (Hg03.out.step HL5.out (fun i hi => by simp at hi; rcases hi with h | h; exact .inl (by simp [h]); exact .inr (by omega))).step hE (fun i hi => .inr (by simp at hi; omega))
            exact conPostV_mk (args := args) (rows := []) (hfv5.out.gr hE (by simp <;> omega)) (hfa5.out.gr hE (by simp <;> omega)) (FrR.nil w3.heap.size w3.heap.size wE) (by omega) (by omega) ⟨by simp <;> omega, by simp <;> omega, by simp, by simp⟩ hv1 (hrE.le (by omega)) hgwE (vc_mk HVS.out hn4 hv1 (fitsRd1 (by have := Hal.out; have := Hme.out; omega) Harg.out (by omega)))
    · go_wp2_with fail
      have hg4 : Gr [] w3 (w3.alloc (.cells #[.int .i64 5, .slice vo vars.length vc, .slice none 0 0, .int .i64 0, .slice none 0 0] 26)) := (Gr.refl _ _).alloc _
      have hb4 : (w3.alloc (.cells #[.int .i64 5, .slice vo vars.length vc, .slice none 0 0, .int .i64 0, .slice none 0 0] 26)).heap[w3.heap.size]? = some (.cells #[.int .i64 5, .slice vo vars.length vc, .slice none 0 0, .int .i64 0, .slice none 0 0] 26 (0, 0)) := heap_alloc_new _ _
      have hr4 := hg4.obj Hrb3.out (by simp)
      have hf4 := hid (Hfr3.out.gr hg4 (by simp))
      have hrd4 := hid (Hrd3.out.gr hg4)
      have hgw4 := hid (Hg03.out.trans hg4.any)
      have hb4' := hid hb4; have hr4' := hid hr4
      have HRB : Hid (∀ W, Gr [R, w3.heap.size] w3 W → W.heap[w.heap.size]? = some (.cells #[.int .i64 0, .slice none 0 0, .slice none 0 0, .int .i64 0, .slice none 0 0] 26 (0, 0))) := hid fun W h => h.obj Hrb3.out (by simp; omega)
      clear hr4 hr4'
      obtain ⟨W4, hW4⟩ : ∃ W4, W4 = w3.alloc (.cells #[.int .i64 5, .slice vo vars.length vc, .slice none 0 0, .int .i64 0, .slice none 0 0] 26) := ⟨_, rfl⟩
      rw [← hW4] at hg4 hb4 hb4' hf4 hrd4 hgw4
      have hs4 : W4.heap.size = w3.heap.size + 1 := by rw [hW4]; simp
      have HL4 : Hid (Gr [R, w3.heap.size] w3 W4) := hid (hg4.any)
      have ff4 := fldF hb4
      have fl4 := fld hb4
      clear hb4 hg4
      rw [← hW4]
      clear hW4
      (with_reducible refine (pick_c R bs (q + 1 + 1 + n) 6 _ ?_ (by omega) (by omega)).mono ?_)
      · exact hrd4.out.grS (S := [w3.heap.size]) (by (repeat (first | exact (Gr.refl [w3.heap.size] W4) | refine Gr.alloc ?_ _ | refine Gr.drew ?_ | refine Gr.setCell ?_ _ _ (.inl (by simp))))) (by simp <;> omega)
      rintro e w5 ⟨⟨r5, rfl, hr50, hr5n⟩, hrdw5, hgw5⟩
      have HSw5 : Gr [R, w3.heap.size] W4 w5 := Gr.trans (b := _) (by (repeat (first | exact (Gr.refl [R, w3.heap.size] W4) | refine Gr.alloc ?_ _ | refine Gr.drew ?_ | refine Gr.setCell ?_ _ _ (.inl (by simp))))) (hgw5.sub (by intro k _ h; simp at h ⊢; omega))
      have HL5 : Hid (Gr [R, w3.heap.size] w3 w5) := hid (HL4.out.trans HSw5)
      have hfv5 := hid (hf4.out.gr HSw5 (by simp <;> omega))
      have hb5 := hgw5.obj hb4'.out (by simp <;> omega)
      have hs5 := hgw5.size
      obtain ⟨r5, rfl⟩ := Int.eq_ofNat_of_zero_le hr50
      have Hk5 : Hid (((1 : Int) + (r5 : Int)) = ((1 + r5 : Nat) : Int)) := hid (by omega)
      have hr56 : r5 < 6 := by omega
      clear hgw5 HSw5 fl4 ff4
      have Hb5 := hid hb5
      have fl5 := fld hb5
      have ff5 := fldF hb5
      have hlt5 := lt_of_block hb5
      clear hb5
      go_wp2_with fail
      rw [Hk5.out]
      clear fl5 ff5
      go_loopw [8] (fun i wr => ∃ (m : Nat) (rows : List (List Int)) (rv : Value), m ≤ 1 + r5 ∧ i = .int .i64 m ∧ rows.length + m = 1 + r5 ∧ wr.heap[w3.heap.size]? = some (.cells #[.int .i64 5, .slice vo vars.length vc, .slice none 0 0, .int .i64 0, rv] 26 (0, 0)) ∧ OwnG 1 elRow (w3.heap.size + 1) wr 23 rv rows ∧ (∀ r ∈ rows, r.length = vars.length ∧ ∀ x ∈ r, 0 ≤ x ∧ x ≤ 5) ∧ Rd wr R bs (q + 1 + 1 + n + 1 + 4 * rows.length) ∧ FrI (w.heap.size + 1) w3.heap.size wr (.slice vo vars.length vc) vars ∧ Gr [R, w3.heap.size] w3 wr) (fun i _ => (intOf i).toNat)
      case atStart => exact ⟨1 + r5, [], _, by omega, rfl, by simp, Hb5.out, OwnG.nil _ _ _, by simp, hrdw5, hfv5.out, HL5.out⟩
      case round =>
        obtain ⟨m, rows, rv, hm, rfl, hal, hb, hown, hrl, hrd, hfv, hL⟩ := hrel
        have flr := fld hb
        have ffr := fldF hb
        have hltr := lt_of_block hb
        have hsr := hL.size
        obtain ⟨ro, rc, rfl, _, _, _⟩ := hown.slice
        have Hal := hid hal; have Hb := hid hb; have Hown := hid hown; have Hrd := hid hrd; have Hfv := hid hfv; have HL := hid hL; have Hrl := hid hrl
        have hrl8 : rows.length ≤ 8 := by omega
        clear hal hb hown hrd hfv hL hrl
        by_cases hlt : 0 < m
        · go_wp2_with fail
          go_region_law (first
            | (go_simp; go_at_call 93; refine (randomRow_c R bs (q + 1 + 1 + n + 1 + 4 * rows.length) vars.length _ (Hrd.out.drew) (by omega) (by omega)).mono ?_; rintro e w6 ⟨v6, xs6, rfl, hown6, ⟨hl6, hx6⟩, hrd6, hg6⟩; have HS6 := hid (Gr.trans (a := wr) ((Gr.refl [R] _).drew) hg6); obtain ⟨xo6, xc6, rfl⟩ := hown6.c.form; have Hown6 := hid hown6; have hl64 : xs6.length ≤ 4 := (by omega); have HX6 := hid (And.intro hl6 hx6); clear hl6 hx6 hown6; have HSC6 : Hid (Gr [R] wr w6) := HS6; have Hrd6 := hid hrd6; have Hb6 := hid (HSC6.out.obj Hb.out (by simp <;> omega)); have fl6 := fld Hb6.out; have ff6 := fldF Hb6.out; have hlt6 := lt_of_block Hb6.out; have hs6 := HSC6.out.size; clear hrd6 hg6)
            | (refine step_appG rfl _ _ 24 rfl 1 elRow elRow_ok (w3.heap.size + 1) 23 (.slice none 0 0) 24 infoR rfl (by omega) (by omega) Tryz.underlying24 (.slice ro rows.length rc) rows rfl ((Hown.out.gr elRow_ok HSC6.out (by simp <;> omega)).gr elRow_ok ((Gr.refl [] _).alloc _) (by simp)) w6.heap.size 1 xs6 [.slice xo6 xs6.length xc6] rfl rfl (by simp [Value.oneCell']) (fun j u hj => by rw [fld (heap_alloc_new w6 (.cells #[.slice xo6 xs6.length xc6] 23))]; simpa using hj) (fun S hS => rowEl (Hown6.out.c.gr ((Gr.refl [] _).alloc _) (by simp)) (fun b hb => by rcases hS b hb with h | h | h; exact .inl (by simp; omega); exact .inr h; exact .inl (by have := (Hown.out.ownB h).2; simp; omega))) (by omega) (by simp <;> omega) ?_; intro g7 c7 w7 hown7 hg7; have hbl7 := OwnG.below ((Hown.out.gr elRow_ok HSC6.out (by simp <;> omega)).gr elRow_ok ((Gr.refl [] _).alloc _) (by simp)) hg7 (by simp <;> omega); have HA7 := hid (And.intro hown7 hbl7); have fl7 := fld ((hbl7.block w3.heap.size (by omega)).trans ((((Gr.refl [] w6).alloc (.cells #[.slice xo6 xs6.length xc6] 23)).obj Hb6.out (by simp)))); have ff7 := fldF ((hbl7.block w3.heap.size (by omega)).trans ((((Gr.refl [] w6).alloc (.cells #[.slice xo6 xs6.length xc6] 23)).obj Hb6.out (by simp)))); clear hown7 hbl7 hg7))
          all_goals
            go_wp2_with fail
            refine ⟨⟨_, _, _, _, _, _, _, _, _, _, _, _, _, ?_, rfl⟩, ?_⟩
            · obtain ⟨e1, e2, e3, e4, e5⟩ := app_end (fi := 4) (nv := .slice (some ⟨g7, 0, none⟩) (rows.length + 1) c7) HL.out HSC6.out HA7.out.2 (show R < w.heap.size + 1 by omega) (by omega) Hb6.out Hrd6.out Hfv.out
              refine ⟨m - 1, rows ++ [xs6], _, by omega, by go_num, by rw [List.length_append, List.length_singleton]; have := Hal.out; omega, e1, HA7.out.1.gr elRow_ok e2 (by simp), fun r hr => ?_, e3.le (by rw [List.length_append, List.length_singleton]; omega), e4, e5⟩
              rcases List.mem_append.1 hr with h | h
              · exact Hrl.out r h
              · rw [List.mem_singleton.1 h]; exact HX6.out
            · simp [intOf]; omega
        · have hme : m = 0 := by omega
          subst hme
          have hrl1 : 1 ≤ rows.length := by have := Hal.out; omega
          have hfr := hid (OwnG.fr Hown.out)
          go_wp2_with ((with_reducible show wpList _ _ _ (⟨none, Op.store _ (Operand.tmp 4) (Operand.tmp 141), _, _, _, none⟩ :: _) _ _); refine wp_storeT 26 4 141 w.heap.size #[.int .i64 5, .slice vo vars.length vc, .slice none 0 0, .int .i64 0, .slice ro rows.length rc] 26 #[.int .i64 0, .slice none 0 0, .slice none 0 0, .int .i64 0, .slice none 0 0] (HRB.out _ ?_) ⟨sizeC, rfl, rfl, rfl, one5 _ _ _ _ _ _ _ _ _ _ _⟩ ?_; (repeat (first | exact HL.out | refine Gr.alloc ?_ _ | refine Gr.drew ?_ | refine Gr.setCell ?_ _ _ (.inl (by simp)))); intro wE hbE hgE)
          have flE := fld hbE
          refine bodyPost_ret (v := .agg #[.int .i64 5, .slice vo vars.length vc, .slice none 0 0, .int .i64 0, .slice ro rows.length rc]) ?_ rfl ?_
          · simp [results, Tryz.results68, go_sem, flE]
          · have hE : Gr [w3.heap.size, w.heap.size] wr wE := Gr.trans (b := _) (by (repeat (first | exact (Gr.refl [w3.heap.size, w.heap.size] wr) | refine Gr.alloc ?_ _ | refine Gr.drew ?_ | refine Gr.setCell ?_ _ _ (.inl (by simp))))) (hgE.sub (by intro k _ h; simp at h ⊢; omega))
            have hE3 : Gr [R, w3.heap.size, w.heap.size] w3 wE := (Gr.sub HL.out (by intro k _ h; simp at h ⊢; omega)).trans (hE.sub (by intro k _ h; simp at h ⊢; omega))
            have hsE := hE.size
            have hsL := HL.out.size
            have hrE := Hrd.out.grS hE (by simp; omega)
            have hgwE : Gr [R] w wE := (Hg03.out.step HL.out (fun i hi => by simp at hi; rcases hi with h | h; exact .inl (by simp [h]); exact .inr (by omega))).step hE (fun i hi => .inr (by simp at hi; omega))
            exact conPostV_mk (args := []) (rows := rows) (Hfv.out.gr hE (by simp <;> omega)) (FrI.nil w3.heap.size w3.heap.size wE) (hfr.out.gr hE (by simp <;> omega)) (by omega) (by omega) ⟨by simp <;> omega, by simp, by simp <;> omega, fun r hr => by have := (Hrl.out r hr).1; omega⟩ hv1 (hrE.le (by omega)) hgwE (vc_mk HVS.out hn4 hv1 (fits5 (by omega) Hrl.out))
    · have hg4 : Gr [] w3 (w3.alloc (.cells #[.int .i64 3, .slice vo vars.length vc, .slice none 0 0, .int .i64 0, .slice none 0 0] 26)) := (Gr.refl _ _).alloc _
      have hb4 : (w3.alloc (.cells #[.int .i64 3, .slice vo vars.length vc, .slice none 0 0, .int .i64 0, .slice none 0 0] 26)).heap[w3.heap.size]? = some (.cells #[.int .i64 3, .slice vo vars.length vc, .slice none 0 0, .int .i64 0, .slice none 0 0] 26 (0, 0)) := heap_alloc_new _ _
      have hr4 := hg4.obj Hrb3.out (by simp)
      have hf4 := hid (Hfr3.out.gr hg4 (by simp))
      have hrd4 := hid (Hrd3.out.gr hg4)
      have hgw4 := hid (Hg03.out.trans hg4.any)
      have hb4' := hid hb4; have hr4' := hid hr4
      have HRB : Hid (∀ W, Gr [R, w3.heap.size] w3 W → W.heap[w.heap.size]? = some (.cells #[.int .i64 0, .slice none 0 0, .slice none 0 0, .int .i64 0, .slice none 0 0] 26 (0, 0))) := hid fun W h => h.obj Hrb3.out (by simp; omega)
      clear hr4 hr4'
      have HL : Hid (Gr [R, w3.heap.size] w3 (w3.alloc (.cells #[.int .i64 3, .slice vo vars.length vc, .slice none 0 0, .int .i64 0, .slice none 0 0] 26))) := hid (Gr.alloc (Gr.refl _ _) _)
      clear hb4 hg4
      go_wp2_with ((with_reducible show wpList _ _ _ (⟨none, Op.store _ (Operand.tmp 4) (Operand.tmp 141), _, _, _, none⟩ :: _) _ _); refine wp_storeT 26 4 141 w.heap.size #[.int .i64 3, .slice vo vars.length vc, .slice none 0 0, .int .i64 0, .slice none 0 0] 26 #[.int .i64 0, .slice none 0 0, .slice none 0 0, .int .i64 0, .slice none 0 0] (HRB.out _ ?_) ⟨sizeC, rfl, rfl, rfl, one5 _ _ _ _ _ _ _ _ _ _ _⟩ ?_; (repeat (first | exact HL.out | refine Gr.alloc ?_ _ | refine Gr.drew ?_ | refine Gr.setCell ?_ _ _ (.inl (by simp)))); intro wE hbE hgE)
      have flE := fld hbE
      refine bodyPost_ret (v := .agg #[.int .i64 3, .slice vo vars.length vc, .slice none 0 0, .int .i64 0, .slice none 0 0]) ?_ rfl ?_
      · simp [results, Tryz.results68, go_sem, flE]
      · have hE : Gr [w3.heap.size, w.heap.size] (w3.alloc (.cells #[.int .i64 3, .slice vo vars.length vc, .slice none 0 0, .int .i64 0, .slice none 0 0] 26)) wE := Gr.trans (b := _) (by (repeat (first | exact (Gr.refl [w3.heap.size, w.heap.size] (w3.alloc (.cells #[.int .i64 3, .slice vo vars.length vc, .slice none 0 0, .int .i64 0, .slice none 0 0] 26))) | refine Gr.alloc ?_ _ | refine Gr.drew ?_ | refine Gr.setCell ?_ _ _ (.inl (by simp))))) (hgE.sub (by intro k _ h; simp at h ⊢; omega))
        have hE3 : Gr [R, w3.heap.size, w.heap.size] w3 wE := (Gr.sub HL.out (by intro k _ h; simp at h ⊢; omega)).trans (hE.sub (by intro k _ h; simp at h ⊢; omega))
        have hsE := hE.size
        have hsL := HL.out.size
        have hrE := hrd4.out.grS hE (by simp; omega)
        have hgwE : Gr [R] w wE := (Hg03.out.step HL.out (fun i hi => by simp at hi; rcases hi with h | h; exact .inl (by simp [h]); exact .inr (by omega))).step hE (fun i hi => .inr (by simp at hi; omega))
        exact conPostV_mk (args := []) (rows := []) (Hfr3.out.gr hE3 (by simp; omega)) (FrI.nil w3.heap.size w3.heap.size wE) (FrR.nil w3.heap.size w3.heap.size wE) (by omega) (by simp at hsE; omega) ⟨by simp; omega, by simp, by simp, by simp⟩ hv1 (hrE.le (by omega)) hgwE (vc_mk HVS.out hn4 hv1 (fits3 (by decide)))
    · go_wp2_with fail
      have hg4 : Gr [] w3 (w3.alloc (.cells #[.int .i64 5, .slice vo vars.length vc, .slice none 0 0, .int .i64 0, .slice none 0 0] 26)) := (Gr.refl _ _).alloc _
      have hb4 : (w3.alloc (.cells #[.int .i64 5, .slice vo vars.length vc, .slice none 0 0, .int .i64 0, .slice none 0 0] 26)).heap[w3.heap.size]? = some (.cells #[.int .i64 5, .slice vo vars.length vc, .slice none 0 0, .int .i64 0, .slice none 0 0] 26 (0, 0)) := heap_alloc_new _ _
      have hr4 := hg4.obj Hrb3.out (by simp)
      have hf4 := hid (Hfr3.out.gr hg4 (by simp))
      have hrd4 := hid (Hrd3.out.gr hg4)
      have hgw4 := hid (Hg03.out.trans hg4.any)
      have hb4' := hid hb4; have hr4' := hid hr4
      have HRB : Hid (∀ W, Gr [R, w3.heap.size] w3 W → W.heap[w.heap.size]? = some (.cells #[.int .i64 0, .slice none 0 0, .slice none 0 0, .int .i64 0, .slice none 0 0] 26 (0, 0))) := hid fun W h => h.obj Hrb3.out (by simp; omega)
      clear hr4 hr4'
      obtain ⟨W4, hW4⟩ : ∃ W4, W4 = w3.alloc (.cells #[.int .i64 5, .slice vo vars.length vc, .slice none 0 0, .int .i64 0, .slice none 0 0] 26) := ⟨_, rfl⟩
      rw [← hW4] at hg4 hb4 hb4' hf4 hrd4 hgw4
      have hs4 : W4.heap.size = w3.heap.size + 1 := by rw [hW4]; simp
      have HL4 : Hid (Gr [R, w3.heap.size] w3 W4) := hid (hg4.any)
      have ff4 := fldF hb4
      have fl4 := fld hb4
      clear hb4 hg4
      rw [← hW4]
      clear hW4
      (with_reducible refine (pick_c R bs (q + 1 + 1 + n) 6 _ ?_ (by omega) (by omega)).mono ?_)
      · exact hrd4.out.grS (S := [w3.heap.size]) (by (repeat (first | exact (Gr.refl [w3.heap.size] W4) | refine Gr.alloc ?_ _ | refine Gr.drew ?_ | refine Gr.setCell ?_ _ _ (.inl (by simp))))) (by simp <;> omega)
      rintro e w5 ⟨⟨r5, rfl, hr50, hr5n⟩, hrdw5, hgw5⟩
      have HSw5 : Gr [R, w3.heap.size] W4 w5 := Gr.trans (b := _) (by (repeat (first | exact (Gr.refl [R, w3.heap.size] W4) | refine Gr.alloc ?_ _ | refine Gr.drew ?_ | refine Gr.setCell ?_ _ _ (.inl (by simp))))) (hgw5.sub (by intro k _ h; simp at h ⊢; omega))
      have HL5 : Hid (Gr [R, w3.heap.size] w3 w5) := hid (HL4.out.trans HSw5)
      have hfv5 := hid (hf4.out.gr HSw5 (by simp <;> omega))
      have hb5 := hgw5.obj hb4'.out (by simp <;> omega)
      have hs5 := hgw5.size
      obtain ⟨r5, rfl⟩ := Int.eq_ofNat_of_zero_le hr50
      have Hk5 : Hid (((1 : Int) + (r5 : Int)) = ((1 + r5 : Nat) : Int)) := hid (by omega)
      have hr56 : r5 < 6 := by omega
      clear hgw5 HSw5 fl4 ff4
      have Hb5 := hid hb5
      have fl5 := fld hb5
      have ff5 := fldF hb5
      have hlt5 := lt_of_block hb5
      clear hb5
      go_wp2_with fail
      rw [Hk5.out]
      clear fl5 ff5
      go_loopw [8] (fun i wr => ∃ (m : Nat) (rows : List (List Int)) (rv : Value), m ≤ 1 + r5 ∧ i = .int .i64 m ∧ rows.length + m = 1 + r5 ∧ wr.heap[w3.heap.size]? = some (.cells #[.int .i64 5, .slice vo vars.length vc, .slice none 0 0, .int .i64 0, rv] 26 (0, 0)) ∧ OwnG 1 elRow (w3.heap.size + 1) wr 23 rv rows ∧ (∀ r ∈ rows, r.length = vars.length ∧ ∀ x ∈ r, 0 ≤ x ∧ x ≤ 5) ∧ Rd wr R bs (q + 1 + 1 + n + 1 + 4 * rows.length) ∧ FrI (w.heap.size + 1) w3.heap.size wr (.slice vo vars.length vc) vars ∧ Gr [R, w3.heap.size] w3 wr) (fun i _ => (intOf i).toNat)
      case atStart => exact ⟨1 + r5, [], _, by omega, rfl, by simp, Hb5.out, OwnG.nil _ _ _, by simp, hrdw5, hfv5.out, HL5.out⟩
      case round =>
        obtain ⟨m, rows, rv, hm, rfl, hal, hb, hown, hrl, hrd, hfv, hL⟩ := hrel
        have flr := fld hb
        have ffr := fldF hb
        have hltr := lt_of_block hb
        have hsr := hL.size
        obtain ⟨ro, rc, rfl, _, _, _⟩ := hown.slice
        have Hal := hid hal; have Hb := hid hb; have Hown := hid hown; have Hrd := hid hrd; have Hfv := hid hfv; have HL := hid hL; have Hrl := hid hrl
        have hrl8 : rows.length ≤ 8 := by omega
        clear hal hb hown hrd hfv hL hrl
        by_cases hlt : 0 < m
        · go_wp2_with fail
          go_region_law (first
            | (go_simp; go_at_call 93; refine (randomRow_c R bs (q + 1 + 1 + n + 1 + 4 * rows.length) vars.length _ (Hrd.out.drew) (by omega) (by omega)).mono ?_; rintro e w6 ⟨v6, xs6, rfl, hown6, ⟨hl6, hx6⟩, hrd6, hg6⟩; have HS6 := hid (Gr.trans (a := wr) ((Gr.refl [R] _).drew) hg6); obtain ⟨xo6, xc6, rfl⟩ := hown6.c.form; have Hown6 := hid hown6; have hl64 : xs6.length ≤ 4 := (by omega); have HX6 := hid (And.intro hl6 hx6); clear hl6 hx6 hown6; have HSC6 : Hid (Gr [R] wr w6) := HS6; have Hrd6 := hid hrd6; have Hb6 := hid (HSC6.out.obj Hb.out (by simp <;> omega)); have fl6 := fld Hb6.out; have ff6 := fldF Hb6.out; have hlt6 := lt_of_block Hb6.out; have hs6 := HSC6.out.size; clear hrd6 hg6)
            | (refine step_appG rfl _ _ 24 rfl 1 elRow elRow_ok (w3.heap.size + 1) 23 (.slice none 0 0) 24 infoR rfl (by omega) (by omega) Tryz.underlying24 (.slice ro rows.length rc) rows rfl ((Hown.out.gr elRow_ok HSC6.out (by simp <;> omega)).gr elRow_ok ((Gr.refl [] _).alloc _) (by simp)) w6.heap.size 1 xs6 [.slice xo6 xs6.length xc6] rfl rfl (by simp [Value.oneCell']) (fun j u hj => by rw [fld (heap_alloc_new w6 (.cells #[.slice xo6 xs6.length xc6] 23))]; simpa using hj) (fun S hS => rowEl (Hown6.out.c.gr ((Gr.refl [] _).alloc _) (by simp)) (fun b hb => by rcases hS b hb with h | h | h; exact .inl (by simp; omega); exact .inr h; exact .inl (by have := (Hown.out.ownB h).2; simp; omega))) (by omega) (by simp <;> omega) ?_; intro g7 c7 w7 hown7 hg7; have hbl7 := OwnG.below ((Hown.out.gr elRow_ok HSC6.out (by simp <;> omega)).gr elRow_ok ((Gr.refl [] _).alloc _) (by simp)) hg7 (by simp <;> omega); have HA7 := hid (And.intro hown7 hbl7); have fl7 := fld ((hbl7.block w3.heap.size (by omega)).trans ((((Gr.refl [] w6).alloc (.cells #[.slice xo6 xs6.length xc6] 23)).obj Hb6.out (by simp)))); have ff7 := fldF ((hbl7.block w3.heap.size (by omega)).trans ((((Gr.refl [] w6).alloc (.cells #[.slice xo6 xs6.length xc6] 23)).obj Hb6.out (by simp)))); clear hown7 hbl7 hg7))
          all_goals
            go_wp2_with fail
            refine ⟨⟨_, _, _, _, _, _, _, _, _, _, _, _, _, ?_, rfl⟩, ?_⟩
            · obtain ⟨e1, e2, e3, e4, e5⟩ := app_end (fi := 4) (nv := .slice (some ⟨g7, 0, none⟩) (rows.length + 1) c7) HL.out HSC6.out HA7.out.2 (show R < w.heap.size + 1 by omega) (by omega) Hb6.out Hrd6.out Hfv.out
              refine ⟨m - 1, rows ++ [xs6], _, by omega, by go_num, by rw [List.length_append, List.length_singleton]; have := Hal.out; omega, e1, HA7.out.1.gr elRow_ok e2 (by simp), fun r hr => ?_, e3.le (by rw [List.length_append, List.length_singleton]; omega), e4, e5⟩
              rcases List.mem_append.1 hr with h | h
              · exact Hrl.out r h
              · rw [List.mem_singleton.1 h]; exact HX6.out
            · simp [intOf]; omega
        · have hme : m = 0 := by omega
          subst hme
          have hrl1 : 1 ≤ rows.length := by have := Hal.out; omega
          have hfr := hid (OwnG.fr Hown.out)
          go_wp2_with ((with_reducible show wpList _ _ _ (⟨none, Op.store _ (Operand.tmp 4) (Operand.tmp 141), _, _, _, none⟩ :: _) _ _); refine wp_storeT 26 4 141 w.heap.size #[.int .i64 5, .slice vo vars.length vc, .slice none 0 0, .int .i64 0, .slice ro rows.length rc] 26 #[.int .i64 0, .slice none 0 0, .slice none 0 0, .int .i64 0, .slice none 0 0] (HRB.out _ ?_) ⟨sizeC, rfl, rfl, rfl, one5 _ _ _ _ _ _ _ _ _ _ _⟩ ?_; (repeat (first | exact HL.out | refine Gr.alloc ?_ _ | refine Gr.drew ?_ | refine Gr.setCell ?_ _ _ (.inl (by simp)))); intro wE hbE hgE)
          have flE := fld hbE
          refine bodyPost_ret (v := .agg #[.int .i64 5, .slice vo vars.length vc, .slice none 0 0, .int .i64 0, .slice ro rows.length rc]) ?_ rfl ?_
          · simp [results, Tryz.results68, go_sem, flE]
          · have hE : Gr [w3.heap.size, w.heap.size] wr wE := Gr.trans (b := _) (by (repeat (first | exact (Gr.refl [w3.heap.size, w.heap.size] wr) | refine Gr.alloc ?_ _ | refine Gr.drew ?_ | refine Gr.setCell ?_ _ _ (.inl (by simp))))) (hgE.sub (by intro k _ h; simp at h ⊢; omega))
            have hE3 : Gr [R, w3.heap.size, w.heap.size] w3 wE := (Gr.sub HL.out (by intro k _ h; simp at h ⊢; omega)).trans (hE.sub (by intro k _ h; simp at h ⊢; omega))
            have hsE := hE.size
            have hsL := HL.out.size
            have hrE := Hrd.out.grS hE (by simp; omega)
            have hgwE : Gr [R] w wE := (Hg03.out.step HL.out (fun i hi => by simp at hi; rcases hi with h | h; exact .inl (by simp [h]); exact .inr (by omega))).step hE (fun i hi => .inr (by simp at hi; omega))
            exact conPostV_mk (args := []) (rows := rows) (Hfv.out.gr hE (by simp <;> omega)) (FrI.nil w3.heap.size w3.heap.size wE) (hfr.out.gr hE (by simp <;> omega)) (by omega) (by omega) ⟨by simp <;> omega, by simp, by simp <;> omega, fun r hr => by have := (Hrl.out r hr).1; omega⟩ hv1 (hrE.le (by omega)) hgwE (vc_mk HVS.out hn4 hv1 (fits5 (by omega) Hrl.out))
    · go_wp2_with fail
      have hg4 : Gr [] w3 (w3.alloc (.cells #[.int .i64 5, .slice vo vars.length vc, .slice none 0 0, .int .i64 0, .slice none 0 0] 26)) := (Gr.refl _ _).alloc _
      have hb4 : (w3.alloc (.cells #[.int .i64 5, .slice vo vars.length vc, .slice none 0 0, .int .i64 0, .slice none 0 0] 26)).heap[w3.heap.size]? = some (.cells #[.int .i64 5, .slice vo vars.length vc, .slice none 0 0, .int .i64 0, .slice none 0 0] 26 (0, 0)) := heap_alloc_new _ _
      have hr4 := hg4.obj Hrb3.out (by simp)
      have hf4 := hid (Hfr3.out.gr hg4 (by simp))
      have hrd4 := hid (Hrd3.out.gr hg4)
      have hgw4 := hid (Hg03.out.trans hg4.any)
      have hb4' := hid hb4; have hr4' := hid hr4
      have HRB : Hid (∀ W, Gr [R, w3.heap.size] w3 W → W.heap[w.heap.size]? = some (.cells #[.int .i64 0, .slice none 0 0, .slice none 0 0, .int .i64 0, .slice none 0 0] 26 (0, 0))) := hid fun W h => h.obj Hrb3.out (by simp; omega)
      clear hr4 hr4'
      obtain ⟨W4, hW4⟩ : ∃ W4, W4 = w3.alloc (.cells #[.int .i64 5, .slice vo vars.length vc, .slice none 0 0, .int .i64 0, .slice none 0 0] 26) := ⟨_, rfl⟩
      rw [← hW4] at hg4 hb4 hb4' hf4 hrd4 hgw4
      have hs4 : W4.heap.size = w3.heap.size + 1 := by rw [hW4]; simp
      have HL4 : Hid (Gr [R, w3.heap.size] w3 W4) := hid (hg4.any)
      have ff4 := fldF hb4
      have fl4 := fld hb4
      clear hb4 hg4
      rw [← hW4]
      clear hW4
      (with_reducible refine (pick_c R bs (q + 1 + 1 + n) 6 _ ?_ (by omega) (by omega)).mono ?_)
      · exact hrd4.out.grS (S := [w3.heap.size]) (by (repeat (first | exact (Gr.refl [w3.heap.size] W4) | refine Gr.alloc ?_ _ | refine Gr.drew ?_ | refine Gr.setCell ?_ _ _ (.inl (by simp))))) (by simp <;> omega)
      rintro e w5 ⟨⟨r5, rfl, hr50, hr5n⟩, hrdw5, hgw5⟩
      have HSw5 : Gr [R, w3.heap.size] W4 w5 := Gr.trans (b := _) (by (repeat (first | exact (Gr.refl [R, w3.heap.size] W4) | refine Gr.alloc ?_ _ | refine Gr.drew ?_ | refine Gr.setCell ?_ _ _ (.inl (by simp))))) (hgw5.sub (by intro k _ h; simp at h ⊢; omega))
      have HL5 : Hid (Gr [R, w3.heap.size] w3 w5) := hid (HL4.out.trans HSw5)
      have hfv5 := hid (hf4.out.gr HSw5 (by simp <;> omega))
      have hb5 := hgw5.obj hb4'.out (by simp <;> omega)
      have hs5 := hgw5.size
      obtain ⟨r5, rfl⟩ := Int.eq_ofNat_of_zero_le hr50
      have Hk5 : Hid (((1 : Int) + (r5 : Int)) = ((1 + r5 : Nat) : Int)) := hid (by omega)
      have hr56 : r5 < 6 := by omega
      clear hgw5 HSw5 fl4 ff4
      have Hb5 := hid hb5
      have fl5 := fld hb5
      have ff5 := fldF hb5
      have hlt5 := lt_of_block hb5
      clear hb5
      go_wp2_with fail
      rw [Hk5.out]
      clear fl5 ff5
      go_loopw [8] (fun i wr => ∃ (m : Nat) (rows : List (List Int)) (rv : Value), m ≤ 1 + r5 ∧ i = .int .i64 m ∧ rows.length + m = 1 + r5 ∧ wr.heap[w3.heap.size]? = some (.cells #[.int .i64 5, .slice vo vars.length vc, .slice none 0 0, .int .i64 0, rv] 26 (0, 0)) ∧ OwnG 1 elRow (w3.heap.size + 1) wr 23 rv rows ∧ (∀ r ∈ rows, r.length = vars.length ∧ ∀ x ∈ r, 0 ≤ x ∧ x ≤ 5) ∧ Rd wr R bs (q + 1 + 1 + n + 1 + 4 * rows.length) ∧ FrI (w.heap.size + 1) w3.heap.size wr (.slice vo vars.length vc) vars ∧ Gr [R, w3.heap.size] w3 wr) (fun i _ => (intOf i).toNat)
      case atStart => exact ⟨1 + r5, [], _, by omega, rfl, by simp, Hb5.out, OwnG.nil _ _ _, by simp, hrdw5, hfv5.out, HL5.out⟩
      case round =>
        obtain ⟨m, rows, rv, hm, rfl, hal, hb, hown, hrl, hrd, hfv, hL⟩ := hrel
        have flr := fld hb
        have ffr := fldF hb
        have hltr := lt_of_block hb
        have hsr := hL.size
        obtain ⟨ro, rc, rfl, _, _, _⟩ := hown.slice
        have Hal := hid hal; have Hb := hid hb; have Hown := hid hown; have Hrd := hid hrd; have Hfv := hid hfv; have HL := hid hL; have Hrl := hid hrl
        have hrl8 : rows.length ≤ 8 := by omega
        clear hal hb hown hrd hfv hL hrl
        by_cases hlt : 0 < m
        · go_wp2_with fail
          go_region_law (first
            | (go_simp; go_at_call 93; refine (randomRow_c R bs (q + 1 + 1 + n + 1 + 4 * rows.length) vars.length _ (Hrd.out.drew) (by omega) (by omega)).mono ?_; rintro e w6 ⟨v6, xs6, rfl, hown6, ⟨hl6, hx6⟩, hrd6, hg6⟩; have HS6 := hid (Gr.trans (a := wr) ((Gr.refl [R] _).drew) hg6); obtain ⟨xo6, xc6, rfl⟩ := hown6.c.form; have Hown6 := hid hown6; have hl64 : xs6.length ≤ 4 := (by omega); have HX6 := hid (And.intro hl6 hx6); clear hl6 hx6 hown6; have HSC6 : Hid (Gr [R] wr w6) := HS6; have Hrd6 := hid hrd6; have Hb6 := hid (HSC6.out.obj Hb.out (by simp <;> omega)); have fl6 := fld Hb6.out; have ff6 := fldF Hb6.out; have hlt6 := lt_of_block Hb6.out; have hs6 := HSC6.out.size; clear hrd6 hg6)
            | (refine step_appG rfl _ _ 24 rfl 1 elRow elRow_ok (w3.heap.size + 1) 23 (.slice none 0 0) 24 infoR rfl (by omega) (by omega) Tryz.underlying24 (.slice ro rows.length rc) rows rfl ((Hown.out.gr elRow_ok HSC6.out (by simp <;> omega)).gr elRow_ok ((Gr.refl [] _).alloc _) (by simp)) w6.heap.size 1 xs6 [.slice xo6 xs6.length xc6] rfl rfl (by simp [Value.oneCell']) (fun j u hj => by rw [fld (heap_alloc_new w6 (.cells #[.slice xo6 xs6.length xc6] 23))]; simpa using hj) (fun S hS => rowEl (Hown6.out.c.gr ((Gr.refl [] _).alloc _) (by simp)) (fun b hb => by rcases hS b hb with h | h | h; exact .inl (by simp; omega); exact .inr h; exact .inl (by have := (Hown.out.ownB h).2; simp; omega))) (by omega) (by simp <;> omega) ?_; intro g7 c7 w7 hown7 hg7; have hbl7 := OwnG.below ((Hown.out.gr elRow_ok HSC6.out (by simp <;> omega)).gr elRow_ok ((Gr.refl [] _).alloc _) (by simp)) hg7 (by simp <;> omega); have HA7 := hid (And.intro hown7 hbl7); have fl7 := fld ((hbl7.block w3.heap.size (by omega)).trans ((((Gr.refl [] w6).alloc (.cells #[.slice xo6 xs6.length xc6] 23)).obj Hb6.out (by simp)))); have ff7 := fldF ((hbl7.block w3.heap.size (by omega)).trans ((((Gr.refl [] w6).alloc (.cells #[.slice xo6 xs6.length xc6] 23)).obj Hb6.out (by simp)))); clear hown7 hbl7 hg7))
          all_goals
            go_wp2_with fail
            refine ⟨⟨_, _, _, _, _, _, _, _, _, _, _, _, _, ?_, rfl⟩, ?_⟩
            · obtain ⟨e1, e2, e3, e4, e5⟩ := app_end (fi := 4) (nv := .slice (some ⟨g7, 0, none⟩) (rows.length + 1) c7) HL.out HSC6.out HA7.out.2 (show R < w.heap.size + 1 by omega) (by omega) Hb6.out Hrd6.out Hfv.out
              refine ⟨m - 1, rows ++ [xs6], _, by omega, by go_num, by rw [List.length_append, List.length_singleton]; have := Hal.out; omega, e1, HA7.out.1.gr elRow_ok e2 (by simp), fun r hr => ?_, e3.le (by rw [List.length_append, List.length_singleton]; omega), e4, e5⟩
              rcases List.mem_append.1 hr with h | h
              · exact Hrl.out r h
              · rw [List.mem_singleton.1 h]; exact HX6.out
            · simp [intOf]; omega
        · have hme : m = 0 := by omega
          subst hme
          have hrl1 : 1 ≤ rows.length := by have := Hal.out; omega
          have hfr := hid (OwnG.fr Hown.out)
          go_wp2_with ((with_reducible show wpList _ _ _ (⟨none, Op.store _ (Operand.tmp 4) (Operand.tmp 141), _, _, _, none⟩ :: _) _ _); refine wp_storeT 26 4 141 w.heap.size #[.int .i64 5, .slice vo vars.length vc, .slice none 0 0, .int .i64 0, .slice ro rows.length rc] 26 #[.int .i64 0, .slice none 0 0, .slice none 0 0, .int .i64 0, .slice none 0 0] (HRB.out _ ?_) ⟨sizeC, rfl, rfl, rfl, one5 _ _ _ _ _ _ _ _ _ _ _⟩ ?_; (repeat (first | exact HL.out | refine Gr.alloc ?_ _ | refine Gr.drew ?_ | refine Gr.setCell ?_ _ _ (.inl (by simp)))); intro wE hbE hgE)
          have flE := fld hbE
          refine bodyPost_ret (v := .agg #[.int .i64 5, .slice vo vars.length vc, .slice none 0 0, .int .i64 0, .slice ro rows.length rc]) ?_ rfl ?_
          · simp [results, Tryz.results68, go_sem, flE]
          · have hE : Gr [w3.heap.size, w.heap.size] wr wE := Gr.trans (b := _) (by (repeat (first | exact (Gr.refl [w3.heap.size, w.heap.size] wr) | refine Gr.alloc ?_ _ | refine Gr.drew ?_ | refine Gr.setCell ?_ _ _ (.inl (by simp))))) (hgE.sub (by intro k _ h; simp at h ⊢; omega))
            have hE3 : Gr [R, w3.heap.size, w.heap.size] w3 wE := (Gr.sub HL.out (by intro k _ h; simp at h ⊢; omega)).trans (hE.sub (by intro k _ h; simp at h ⊢; omega))
            have hsE := hE.size
            have hsL := HL.out.size
            have hrE := Hrd.out.grS hE (by simp; omega)
            have hgwE : Gr [R] w wE := (Hg03.out.step HL.out (fun i hi => by simp at hi; rcases hi with h | h; exact .inl (by simp [h]); exact .inr (by omega))).step hE (fun i hi => .inr (by simp at hi; omega))
            exact conPostV_mk (args := []) (rows := rows) (Hfv.out.gr hE (by simp <;> omega)) (FrI.nil w3.heap.size w3.heap.size wE) (hfr.out.gr hE (by simp <;> omega)) (by omega) (by omega) ⟨by simp <;> omega, by simp, by simp <;> omega, fun r hr => by have := (Hrl.out r hr).1; omega⟩ hv1 (hrE.le (by omega)) hgwE (vc_mk HVS.out hn4 hv1 (fits5 (by omega) Hrl.out))
    · go_wp2_with fail
      have hg4 : Gr [] w3 (w3.alloc (.cells #[.int .i64 6, .slice vo vars.length vc, .slice none 0 0, .int .i64 0, .slice none 0 0] 26)) := (Gr.refl _ _).alloc _
      have hb4 : (w3.alloc (.cells #[.int .i64 6, .slice vo vars.length vc, .slice none 0 0, .int .i64 0, .slice none 0 0] 26)).heap[w3.heap.size]? = some (.cells #[.int .i64 6, .slice vo vars.length vc, .slice none 0 0, .int .i64 0, .slice none 0 0] 26 (0, 0)) := heap_alloc_new _ _
      have hr4 := hg4.obj Hrb3.out (by simp)
      have hf4 := hid (Hfr3.out.gr hg4 (by simp))
      have hrd4 := hid (Hrd3.out.gr hg4)
      have hgw4 := hid (Hg03.out.trans hg4.any)
      have hb4' := hid hb4; have hr4' := hid hr4
      have HRB : Hid (∀ W, Gr [R, w3.heap.size] w3 W → W.heap[w.heap.size]? = some (.cells #[.int .i64 0, .slice none 0 0, .slice none 0 0, .int .i64 0, .slice none 0 0] 26 (0, 0))) := hid fun W h => h.obj Hrb3.out (by simp; omega)
      clear hr4 hr4'
      obtain ⟨W4, hW4⟩ : ∃ W4, W4 = w3.alloc (.cells #[.int .i64 6, .slice vo vars.length vc, .slice none 0 0, .int .i64 0, .slice none 0 0] 26) := ⟨_, rfl⟩
      rw [← hW4] at hg4 hb4 hb4' hf4 hrd4 hgw4
      have hs4 : W4.heap.size = w3.heap.size + 1 := by rw [hW4]; simp
      have HL4 : Hid (Gr [R, w3.heap.size] w3 W4) := hid (hg4.any)
      have ff4 := fldF hb4
      have fl4 := fld hb4
      clear hb4 hg4
      rw [← hW4]
      clear hW4
      (with_reducible refine (pick_c R bs (q + 1 + 1 + n) 6 _ ?_ (by omega) (by omega)).mono ?_)
      · exact hrd4.out.grS (S := [w3.heap.size]) (by (repeat (first | exact (Gr.refl [w3.heap.size] W4) | refine Gr.alloc ?_ _ | refine Gr.drew ?_ | refine Gr.setCell ?_ _ _ (.inl (by simp))))) (by simp <;> omega)
      rintro e w5 ⟨⟨r5, rfl, hr50, hr5n⟩, hrdw5, hgw5⟩
      have HSw5 : Gr [R, w3.heap.size] W4 w5 := Gr.trans (b := _) (by (repeat (first | exact (Gr.refl [R, w3.heap.size] W4) | refine Gr.alloc ?_ _ | refine Gr.drew ?_ | refine Gr.setCell ?_ _ _ (.inl (by simp))))) (hgw5.sub (by intro k _ h; simp at h ⊢; omega))
      have HL5 : Hid (Gr [R, w3.heap.size] w3 w5) := hid (HL4.out.trans HSw5)
      have hfv5 := hid (hf4.out.gr HSw5 (by simp <;> omega))
      have hb5 := hgw5.obj hb4'.out (by simp <;> omega)
      have hs5 := hgw5.size
      clear hgw5 HSw5 fl4 ff4
      have Hb5 := hid hb5
      have fl5 := fld hb5
      have ff5 := fldF hb5
      have hlt5 := lt_of_block hb5
      clear hb5
      go_wp2_with fail
      (with_reducible refine (pick_c R bs (q + 1 + 1 + n + 1) 4 _ ?_ (by omega) (by omega)).mono ?_)
      · exact hrdw5.grS (S := [w3.heap.size]) (by (repeat (first | exact (Gr.refl [w3.heap.size] w5) | refine Gr.alloc ?_ _ | refine Gr.drew ?_ | refine Gr.setCell ?_ _ _ (.inl (by simp))))) (by simp <;> omega)
      rintro e w6 ⟨⟨r6, rfl, hr60, hr6n⟩, hrdw6, hgw6⟩
      have HSw6 : Gr [R, w3.heap.size] w5 w6 := Gr.trans (b := _) (by (repeat (first | exact (Gr.refl [R, w3.heap.size] w5) | refine Gr.alloc ?_ _ | refine Gr.drew ?_ | refine Gr.setCell ?_ _ _ (.inl (by simp))))) (hgw6.sub (by intro k _ h; simp at h ⊢; omega))
      have HL6 : Hid (Gr [R, w3.heap.size] w3 w6) := hid (HL5.out.trans HSw6)
      have hfv6 := hid (hfv5.out.gr HSw6 (by simp <;> omega))
      have hb6 : w6.heap[w3.heap.size]? = some (.cells #[.int .i64 6, .slice vo vars.length vc, .slice (some ⟨w5.heap.size, 0, none⟩) 1 1, .int .i64 0, .slice none 0 0] 26 (0, 0)) := hgw6.obj (((Gr.refl [] _).alloc _).obj (cells_set Hb5.out 2 _) (by simp)) (by simp <;> omega)
      have hA6 : w6.heap[w5.heap.size]? = some (.cells #[.int .i64 r5] 3 (0, 0)) := hgw6.obj (alloc_at _ _ _ (by simp)) (by simp <;> omega)
      have HA6 := hid hA6
      have hltA := lt_of_block hA6
      have hs6 := hgw6.size
      simp at hs6
      clear fl5 ff5 hgw6 HSw6 hA6
      have Hb6 := hid hb6
      have fl6 := fld hb6
      have ff6 := fldF hb6
      have hlt6 := lt_of_block hb6
      clear hb6
      go_wp2_with ((with_reducible show wpList _ _ _ (⟨none, Op.store _ (Operand.tmp 4) (Operand.tmp 141), _, _, _, none⟩ :: _) _ _); refine wp_storeT 26 4 141 w.heap.size #[.int .i64 6, .slice vo vars.length vc, .slice (some ⟨w5.heap.size, 0, none⟩) 1 1, .int .i64 r6, .slice none 0 0] 26 #[.int .i64 0, .slice none 0 0, .slice none 0 0, .int .i64 0, .slice none 0 0] (HRB.out _ ?_) ⟨sizeC, rfl, rfl, rfl, one5 _ _ _ _ _ _ _ _ _ _ _⟩ ?_; (repeat (first | exact HL6.out | refine Gr.alloc ?_ _ | refine Gr.drew ?_ | refine Gr.setCell ?_ _ _ (.inl (by simp)))); intro wE hbE hgE)
      have flE := fld hbE
      refine bodyPost_ret (v := .agg #[.int .i64 6, .slice vo vars.length vc, .slice (some ⟨w5.heap.size, 0, none⟩) 1 1, .int .i64 r6, .slice none 0 0]) ?_ rfl ?_
      · simp [results, Tryz.results68, go_sem, flE]
      · have hE : Gr [w3.heap.size, w.heap.size] w6 wE := Gr.trans (b := _) (by (repeat (first | exact (Gr.refl [w3.heap.size, w.heap.size] w6) | refine Gr.alloc ?_ _ | refine Gr.drew ?_ | refine Gr.setCell ?_ _ _ (.inl (by simp))))) (hgE.sub (by intro k _ h; simp at h ⊢; omega))
        have hE3 : Gr [R, w3.heap.size, w.heap.size] w3 wE := (Gr.sub HL6.out (by intro k _ h; simp at h ⊢; omega)).trans (hE.sub (by intro k _ h; simp at h ⊢; omega))
        have hsE := hE.size
        have hsL := HL6.out.size
        have hrE := hrdw6.grS hE (by simp; omega)
        have hgwE : Gr [R] w wE := (Hg03.out.step HL6.out (fun i hi => by simp at hi; rcases hi with h | h; exact .inl (by simp [h]); exact .inr (by omega))).step hE (fun i hi => .inr (by simp at hi; omega))
        have hA : wE.heap[w5.heap.size]? = some (.cells #[.int .i64 r5] 3 (0, 0)) := hE.obj HA6.out (by simp <;> omega)
        exact conPostV_mk (args := [r5]) (rows := []) (hfv6.out.gr hE (by simp <;> omega)) (frI_new (xs := [r5]) hA (by simp)) (FrR.nil w3.heap.size w3.heap.size wE) (by omega) (by omega) ⟨by simp <;> omega, by simp, by simp, by simp⟩ hv1 (hrE.le (by omega)) hgwE (vc_mk HVS.out hn4 hv1 (fits6 (by omega) (by omega)))
    · go_wp2_with fail
      have hg4 : Gr [] w3 (w3.alloc (.cells #[.int .i64 7, .slice vo vars.length vc, .slice none 0 0, .int .i64 0, .slice none 0 0] 26)) := (Gr.refl _ _).alloc _
      have hb4 : (w3.alloc (.cells #[.int .i64 7, .slice vo vars.length vc, .slice none 0 0, .int .i64 0, .slice none 0 0] 26)).heap[w3.heap.size]? = some (.cells #[.int .i64 7, .slice vo vars.length vc, .slice none 0 0, .int .i64 0, .slice none 0 0] 26 (0, 0)) := heap_alloc_new _ _
      have hr4 := hg4.obj Hrb3.out (by simp)
      have hf4 := hid (Hfr3.out.gr hg4 (by simp))
      have hrd4 := hid (Hrd3.out.gr hg4)
      have hgw4 := hid (Hg03.out.trans hg4.any)
      have hb4' := hid hb4; have hr4' := hid hr4
      have HRB : Hid (∀ W, Gr [R, w3.heap.size] w3 W → W.heap[w.heap.size]? = some (.cells #[.int .i64 0, .slice none 0 0, .slice none 0 0, .int .i64 0, .slice none 0 0] 26 (0, 0))) := hid fun W h => h.obj Hrb3.out (by simp; omega)
      clear hr4 hr4'
      obtain ⟨W4, hW4⟩ : ∃ W4, W4 = w3.alloc (.cells #[.int .i64 7, .slice vo vars.length vc, .slice none 0 0, .int .i64 0, .slice none 0 0] 26) := ⟨_, rfl⟩
      rw [← hW4] at hg4 hb4 hb4' hf4 hrd4 hgw4
      have hs4 : W4.heap.size = w3.heap.size + 1 := by rw [hW4]; simp
      have HL4 : Hid (Gr [R, w3.heap.size] w3 W4) := hid (hg4.any)
      have ff4 := fldF hb4
      have fl4 := fld hb4
      clear hb4 hg4
      rw [← hW4]
      clear hW4
      go_loopw [9] (fun i wr => ∃ (m : Nat) (args : List Int) (av : Value), m ≤ 2 * vars.length ∧ i = .int .i64 m ∧ args.length = m ∧ (∀ a ∈ args, (0 : Int) ≤ a ∧ a ≤ 9) ∧ wr.heap[w3.heap.size]? = some (.cells #[.int .i64 7, .slice vo vars.length vc, av, .int .i64 0, .slice none 0 0] 26 (0, 0)) ∧ Own (w3.heap.size + 1) wr 3 av args ∧ Rd wr R bs (q + 1 + 1 + n + m) ∧ FrI (w.heap.size + 1) w3.heap.size wr (.slice vo vars.length vc) vars ∧ Gr [R, w3.heap.size] w3 wr) (fun i _ => 2 * vars.length - (intOf i).toNat)
      case atStart => exact ⟨0, [], _, by omega, rfl, rfl, by simp, hb4'.out, Own.nil _ _ _, hrd4.out, hf4.out, HL4.out⟩
      case round =>
        obtain ⟨m, args, av, hm, rfl, hal, harg, hb, hown, hrd, hfv, hL⟩ := hrel
        have Harg := hid harg; clear harg
        have flr := fld hb
        have ffr := fldF hb
        have hltr := lt_of_block hb
        have hsr := hL.size
        obtain ⟨xo, xc, rfl⟩ := hown.c.form
        have Hal := hid hal; have Hb := hid hb; have Hown := hid hown; have Hrd := hid hrd; have Hfv := hid hfv; have HL := hid hL
        clear hal hb hown hrd hfv hL
        by_cases hlt : m < 2 * vars.length
        · go_wp2_with fail
          go_region_law (first
            | (go_simp; go_at_call 34; refine (pick_c R bs (q + 1 + 1 + n + m) 4 _ (Hrd.out.drew) (by omega) (by omega)).mono ?_; rintro e w6 ⟨⟨r6, rfl, hr60, hr6n⟩, hrd6, hg6⟩; have HS6 := hid (Gr.trans (a := wr) ((Gr.refl [R] _).drew) hg6); have HR6 : Hid ((0 : Int) ≤ r6 ∧ r6 ≤ 9) := hid (by omega); clear hr60 hr6n; have HSC6 : Hid (Gr [R] wr w6) := HS6; have Hrd6 := hid hrd6; have Hb6 := hid (HSC6.out.obj Hb.out (by simp <;> omega)); have fl6 := fld Hb6.out; have ff6 := fldF Hb6.out; have hlt6 := lt_of_block Hb6.out; have hs6 := HSC6.out.size; clear hrd6 hg6)
            | (refine step_app1 rfl _ _ 23 rfl (w3.heap.size + 1) 3 infoInt Tryz.underlying23 (.slice xo args.length xc) args rfl ((Hown.out.gr HSC6.out (by simp <;> omega)).alloc _) w6.heap.size 1 r6 rfl (cell_new _ _ _) (by have := Hal.out; omega) (by simp <;> omega) ?_; intro g7 c7 w7 hown7 hbl7; have HA7 := hid (And.intro hown7 hbl7); have fl7 := fld ((hbl7.block w3.heap.size (by omega)).trans ((((Gr.refl [] w6).alloc (.cells #[.int .i64 r6] 3)).obj Hb6.out (by simp)))); have ff7 := fldF ((hbl7.block w3.heap.size (by omega)).trans ((((Gr.refl [] w6).alloc (.cells #[.int .i64 r6] 3)).obj Hb6.out (by simp)))); clear hown7 hbl7))
          all_goals
            go_wp2_with fail
            obtain ⟨e1, e2, e3, e4, e5⟩ := app_end (fi := 2) (nv := .slice (some ⟨g7, 0, none⟩) (args.length + 1) c7) HL.out HSC6.out HA7.out.2 (show R < w.heap.size + 1 by omega) (by omega) Hb6.out Hrd6.out Hfv.out
            exact ⟨⟨m + 1, args ++ [r6], _, by omega, by go_num, by simp [Hal.out], (fun a ha => (List.mem_append.1 ha).elim (Harg.out a) fun h => by have h9 := HR6.out; rw [List.mem_singleton.1 h]; exact h9), e1, HA7.out.1.gr e2 (by simp), e3.le (by omega), e4, e5⟩, by simp [intOf]; omega⟩
        · have hme : m = 2 * vars.length := by omega
          have Hme := hid hme; clear hme
          go_wp2_with fail
          (with_reducible refine (pick_c R bs (q + 1 + 1 + n + m) 4 _ ?_ (by omega) (by omega)).mono ?_)
          · exact Hrd.out.grS (S := [w3.heap.size]) (by (repeat (first | exact (Gr.refl [w3.heap.size] wr) | refine Gr.alloc ?_ _ | refine Gr.drew ?_ | refine Gr.setCell ?_ _ _ (.inl (by simp))))) (by simp <;> omega)
          rintro e w5 ⟨⟨r5, rfl, hr50, hr5n⟩, hrdw5, hgw5⟩
          have HSw5 : Gr [R, w3.heap.size] wr w5 := Gr.trans (b := _) (by (repeat (first | exact (Gr.refl [R, w3.heap.size] wr) | refine Gr.alloc ?_ _ | refine Gr.drew ?_ | refine Gr.setCell ?_ _ _ (.inl (by simp))))) (hgw5.sub (by intro k _ h; simp at h ⊢; omega))
          have HL5 : Hid (Gr [R, w3.heap.size] w3 w5) := hid (HL.out.trans HSw5)
          have hfv5 := hid (Hfv.out.gr HSw5 (by simp <;> omega))
          have hb5 := hgw5.obj Hb.out (by simp <;> omega)
          have hfa5 := hid ((Hown.out.c.fr).gr hgw5 (by simp <;> omega))
          have hs5 := hgw5.size
          have hal100 : args.length ≤ 100 := by have := Hal.out; omega
          clear hgw5 HSw5 flr ffr
          have Hb5 := hid hb5
          have fl5 := fld hb5
          have ff5 := fldF hb5
          have hlt5 := lt_of_block hb5
          clear hb5
          go_wp2_with ((with_reducible show wpList _ _ _ (⟨none, Op.store _ (Operand.tmp 4) (Operand.tmp 141), _, _, _, none⟩ :: _) _ _); refine wp_storeT 26 4 141 w.heap.size #[.int .i64 7, .slice vo vars.length vc, .slice xo args.length xc, .int .i64 (1 + r5), .slice none 0 0] 26 #[.int .i64 0, .slice none 0 0, .slice none 0 0, .int .i64 0, .slice none 0 0] (HRB.out _ ?_) ⟨sizeC, rfl, rfl, rfl, one5 _ _ _ _ _ _ _ _ _ _ _⟩ ?_; (repeat (first | exact HL5.out | refine Gr.alloc ?_ _ | refine Gr.drew ?_ | refine Gr.setCell ?_ _ _ (.inl (by simp)))); intro wE hbE hgE)
          have flE := fld hbE
          refine bodyPost_ret (v := .agg #[.int .i64 7, .slice vo vars.length vc, .slice xo args.length xc, .int .i64 (1 + r5), .slice none 0 0]) ?_ rfl ?_
          · simp [results, Tryz.results68, go_sem, flE]
          · have hE : Gr [w3.heap.size, w.heap.size] w5 wE := Gr.trans (b := _) (by (repeat (first | exact (Gr.refl [w3.heap.size, w.heap.size] w5) | refine Gr.alloc ?_ _ | refine Gr.drew ?_ | refine Gr.setCell ?_ _ _ (.inl (by simp))))) (hgE.sub (by intro k _ h; simp at h ⊢; omega))
            have hE3 : Gr [R, w3.heap.size, w.heap.size] w3 wE := (Gr.sub HL5.out (by intro k _ h; simp at h ⊢; omega)).trans (hE.sub (by intro k _ h; simp at h ⊢; omega))
            have hsE := hE.size
            have hsL := HL5.out.size
            have hrE := hrdw5.grS hE (by simp; omega)
            have hgwE : Gr [R] w wE := (Hg03.out.step HL5.out (fun i hi => by simp at hi; rcases hi with h | h; exact .inl (by simp [h]); exact .inr (by omega))).step hE (fun i hi => .inr (by simp at hi; omega))
            exact conPostV_mk (args := args) (rows := []) (hfv5.out.gr hE (by simp <;> omega)) (hfa5.out.gr hE (by simp <;> omega)) (FrR.nil w3.heap.size w3.heap.size wE) (by omega) (by omega) ⟨by simp <;> omega, by simp <;> omega, by simp, by simp⟩ hv1 (hrE.le (by omega)) hgwE (vc_mk HVS.out hn4 hv1 (fits7 (by have := Hal.out; have := Hme.out; omega) Harg.out (by omega)))
    · go_wp2_with fail
      have hg4 : Gr [] w3 (w3.alloc (.cells #[.int .i64 8, .slice vo vars.length vc, .slice none 0 0, .int .i64 0, .slice none 0 0] 26)) := (Gr.refl _ _).alloc _
      have hb4 : (w3.alloc (.cells #[.int .i64 8, .slice vo vars.length vc, .slice none 0 0, .int .i64 0, .slice none 0 0] 26)).heap[w3.heap.size]? = some (.cells #[.int .i64 8, .slice vo vars.length vc, .slice none 0 0, .int .i64 0, .slice none 0 0] 26 (0, 0)) := heap_alloc_new _ _
      have hr4 := hg4.obj Hrb3.out (by simp)
      have hf4 := hid (Hfr3.out.gr hg4 (by simp))
      have hrd4 := hid (Hrd3.out.gr hg4)
      have hgw4 := hid (Hg03.out.trans hg4.any)
      have hb4' := hid hb4; have hr4' := hid hr4
      have HRB : Hid (∀ W, Gr [R, w3.heap.size] w3 W → W.heap[w.heap.size]? = some (.cells #[.int .i64 0, .slice none 0 0, .slice none 0 0, .int .i64 0, .slice none 0 0] 26 (0, 0))) := hid fun W h => h.obj Hrb3.out (by simp; omega)
      clear hr4 hr4'
      obtain ⟨W4, hW4⟩ : ∃ W4, W4 = w3.alloc (.cells #[.int .i64 8, .slice vo vars.length vc, .slice none 0 0, .int .i64 0, .slice none 0 0] 26) := ⟨_, rfl⟩
      rw [← hW4] at hg4 hb4 hb4' hf4 hrd4 hgw4
      have hs4 : W4.heap.size = w3.heap.size + 1 := by rw [hW4]; simp
      have HL4 : Hid (Gr [R, w3.heap.size] w3 W4) := hid (hg4.any)
      have ff4 := fldF hb4
      have fl4 := fld hb4
      clear hb4 hg4
      rw [← hW4]
      clear hW4
      (with_reducible refine (pick_c R bs (q + 1 + 1 + n) 3 _ ?_ (by omega) (by omega)).mono ?_)
      · exact hrd4.out.grS (S := [w3.heap.size]) (by (repeat (first | exact (Gr.refl [w3.heap.size] W4) | refine Gr.alloc ?_ _ | refine Gr.drew ?_ | refine Gr.setCell ?_ _ _ (.inl (by simp))))) (by simp <;> omega)
      rintro e w5 ⟨⟨r5, rfl, hr50, hr5n⟩, hrdw5, hgw5⟩
      have HSw5 : Gr [R, w3.heap.size] W4 w5 := Gr.trans (b := _) (by (repeat (first | exact (Gr.refl [R, w3.heap.size] W4) | refine Gr.alloc ?_ _ | refine Gr.drew ?_ | refine Gr.setCell ?_ _ _ (.inl (by simp))))) (hgw5.sub (by intro k _ h; simp at h ⊢; omega))
      have HL5 : Hid (Gr [R, w3.heap.size] w3 w5) := hid (HL4.out.trans HSw5)
      have hfv5 := hid (hf4.out.gr HSw5 (by simp <;> omega))
      have hb5 := hgw5.obj hb4'.out (by simp <;> omega)
      have hs5 := hgw5.size
      obtain ⟨r5, rfl⟩ := Int.eq_ofNat_of_zero_le hr50
      have Hk5 : Hid (((1 : Int) + (r5 : Int)) = ((1 + r5 : Nat) : Int)) := hid (by omega)
      clear hgw5 HSw5 fl4 ff4
      have Hb5 := hid hb5
      have fl5 := fld hb5
      have ff5 := fldF hb5
      have hlt5 := lt_of_block hb5
      clear hb5
      go_wp2_with fail
      rw [Hk5.out]
      (with_reducible refine (randomAutomaton_c R bs (q + 1 + 1 + n + 1) (1 + r5) _ hrdw5 (by omega) (by omega)).mono ?_)
      rintro e w6 ⟨v6, rows6, rfl, hown6, ⟨hl6, hr6⟩, hrd6, hg6⟩
      obtain ⟨ro6, rc6, rfl, hrc6, hrc62, _⟩ := hown6.slice
      have hfr6 := hid hown6.fr
      have HSw6 : Gr [R, w3.heap.size] w5 w6 := Gr.trans (b := _) (by (repeat (first | exact (Gr.refl [R, w3.heap.size] w5) | refine Gr.alloc ?_ _ | refine Gr.drew ?_ | refine Gr.setCell ?_ _ _ (.inl (by simp))))) (hg6.sub (by intro k _ h; simp at h ⊢; omega))
      have HL6 : Hid (Gr [R, w3.heap.size] w3 w6) := hid (HL5.out.trans HSw6)
      have hfv6 := hid (hfv5.out.gr HSw6 (by simp <;> omega))
      have hb6 := hg6.obj Hb5.out (by simp <;> omega)
      have hs6 := hg6.size
      have hrl1 : 1 ≤ rows6.length := by omega
      have hrl2 : rows6.length ≤ 100 := by omega
      have Hr6 := hid hr6; have HRL6 := hid hl6
      clear hown6 hl6 hr6 hg6 HSw6 fl5 ff5
      have Hb6 := hid hb6
      have fl6 := fld hb6
      have ff6 := fldF hb6
      have hlt6 := lt_of_block hb6
      clear hb6
      go_wp2_with ((with_reducible show wpList _ _ _ (⟨none, Op.store _ (Operand.tmp 4) (Operand.tmp 141), _, _, _, none⟩ :: _) _ _); refine wp_storeT 26 4 141 w.heap.size #[.int .i64 8, .slice vo vars.length vc, .slice (some ⟨w6.heap.size, 0, none⟩) 1 1, .int .i64 0, .slice ro6 rows6.length rc6] 26 #[.int .i64 0, .slice none 0 0, .slice none 0 0, .int .i64 0, .slice none 0 0] (HRB.out _ ?_) ⟨sizeC, rfl, rfl, rfl, one5 _ _ _ _ _ _ _ _ _ _ _⟩ ?_; (repeat (first | exact HL6.out | refine Gr.alloc ?_ _ | refine Gr.drew ?_ | refine Gr.setCell ?_ _ _ (.inl (by simp)))); intro wE hbE hgE)
      have flE := fld hbE
      refine bodyPost_ret (v := .agg #[.int .i64 8, .slice vo vars.length vc, .slice (some ⟨w6.heap.size, 0, none⟩) 1 1, .int .i64 0, .slice ro6 rows6.length rc6]) ?_ rfl ?_
      · simp [results, Tryz.results68, go_sem, flE]
      · have hE : Gr [w3.heap.size, w.heap.size] w6 wE := Gr.trans (b := _) (by (repeat (first | exact (Gr.refl [w3.heap.size, w.heap.size] w6) | refine Gr.alloc ?_ _ | refine Gr.drew ?_ | refine Gr.setCell ?_ _ _ (.inl (by simp))))) (hgE.sub (by intro k _ h; simp at h ⊢; omega))
        have hE3 : Gr [R, w3.heap.size, w.heap.size] w3 wE := (Gr.sub HL6.out (by intro k _ h; simp at h ⊢; omega)).trans (hE.sub (by intro k _ h; simp at h ⊢; omega))
        have hsE := hE.size
        have hsL := HL6.out.size
        have hrE := hrd6.grS hE (by simp; omega)
        have hgwE : Gr [R] w wE := (Hg03.out.step HL6.out (fun i hi => by simp at hi; rcases hi with h | h; exact .inl (by simp [h]); exact .inr (by omega))).step hE (fun i hi => .inr (by simp at hi; omega))
        have hA : wE.heap[w6.heap.size]? = some (.cells #[.int .i64 ((rows6.length : Int) - 1)] 3 (0, 0)) := hgE.obj (alloc_at _ _ _ (by simp)) (by simp <;> omega)
        have hltE := lt_of_block hA
        exact conPostV_mk (args := [(rows6.length : Int) - 1]) (rows := rows6) (hfv6.out.gr hE (by simp <;> omega)) (frI_new (xs := [(rows6.length : Int) - 1]) hA (by simp)) (hfr6.out.gr hE (by simp <;> omega)) (by omega) (by omega) ⟨by simp <;> omega, by simp, by simp <;> omega, fun r hr => by have := (Hr6.out r hr).1; omega⟩ hv1 (hrE.le (by omega)) hgwE (vc_mk HVS.out hn4 hv1 (fits8 (by have := HRL6.out; omega) (fun r hr => ⟨(Hr6.out r hr).1, fun x hx => by have := (Hr6.out r hr).2 x hx; have := HRL6.out; omega⟩)))
    · have hg4 : Gr [] w3 (w3.alloc (.cells #[.int .i64 9, .slice vo vars.length vc, .slice none 0 0, .int .i64 0, .slice none 0 0] 26)) := (Gr.refl _ _).alloc _
      have hb4 : (w3.alloc (.cells #[.int .i64 9, .slice vo vars.length vc, .slice none 0 0, .int .i64 0, .slice none 0 0] 26)).heap[w3.heap.size]? = some (.cells #[.int .i64 9, .slice vo vars.length vc, .slice none 0 0, .int .i64 0, .slice none 0 0] 26 (0, 0)) := heap_alloc_new _ _
      have hr4 := hg4.obj Hrb3.out (by simp)
      have hf4 := hid (Hfr3.out.gr hg4 (by simp))
      have hrd4 := hid (Hrd3.out.gr hg4)
      have hgw4 := hid (Hg03.out.trans hg4.any)
      have hb4' := hid hb4; have hr4' := hid hr4
      have HRB : Hid (∀ W, Gr [R, w3.heap.size] w3 W → W.heap[w.heap.size]? = some (.cells #[.int .i64 0, .slice none 0 0, .slice none 0 0, .int .i64 0, .slice none 0 0] 26 (0, 0))) := hid fun W h => h.obj Hrb3.out (by simp; omega)
      clear hr4 hr4'
      have HL : Hid (Gr [R, w3.heap.size] w3 (w3.alloc (.cells #[.int .i64 9, .slice vo vars.length vc, .slice none 0 0, .int .i64 0, .slice none 0 0] 26))) := hid (Gr.alloc (Gr.refl _ _) _)
      clear hb4 hg4
      go_wp2_with ((with_reducible show wpList _ _ _ (⟨none, Op.store _ (Operand.tmp 4) (Operand.tmp 141), _, _, _, none⟩ :: _) _ _); refine wp_storeT 26 4 141 w.heap.size #[.int .i64 9, .slice vo vars.length vc, .slice none 0 0, .int .i64 0, .slice none 0 0] 26 #[.int .i64 0, .slice none 0 0, .slice none 0 0, .int .i64 0, .slice none 0 0] (HRB.out _ ?_) ⟨sizeC, rfl, rfl, rfl, one5 _ _ _ _ _ _ _ _ _ _ _⟩ ?_; (repeat (first | exact HL.out | refine Gr.alloc ?_ _ | refine Gr.drew ?_ | refine Gr.setCell ?_ _ _ (.inl (by simp)))); intro wE hbE hgE)
      have flE := fld hbE
      refine bodyPost_ret (v := .agg #[.int .i64 9, .slice vo vars.length vc, .slice none 0 0, .int .i64 0, .slice none 0 0]) ?_ rfl ?_
      · simp [results, Tryz.results68, go_sem, flE]
      · have hE : Gr [w3.heap.size, w.heap.size] (w3.alloc (.cells #[.int .i64 9, .slice vo vars.length vc, .slice none 0 0, .int .i64 0, .slice none 0 0] 26)) wE := Gr.trans (b := _) (by (repeat (first | exact (Gr.refl [w3.heap.size, w.heap.size] (w3.alloc (.cells #[.int .i64 9, .slice vo vars.length vc, .slice none 0 0, .int .i64 0, .slice none 0 0] 26))) | refine Gr.alloc ?_ _ | refine Gr.drew ?_ | refine Gr.setCell ?_ _ _ (.inl (by simp))))) (hgE.sub (by intro k _ h; simp at h ⊢; omega))
        have hE3 : Gr [R, w3.heap.size, w.heap.size] w3 wE := (Gr.sub HL.out (by intro k _ h; simp at h ⊢; omega)).trans (hE.sub (by intro k _ h; simp at h ⊢; omega))
        have hsE := hE.size
        have hsL := HL.out.size
        have hrE := hrd4.out.grS hE (by simp; omega)
        have hgwE : Gr [R] w wE := (Hg03.out.step HL.out (fun i hi => by simp at hi; rcases hi with h | h; exact .inl (by simp [h]); exact .inr (by omega))).step hE (fun i hi => .inr (by simp at hi; omega))
        exact conPostV_mk (args := []) (rows := []) (Hfr3.out.gr hE3 (by simp; omega)) (FrI.nil w3.heap.size w3.heap.size wE) (FrR.nil w3.heap.size w3.heap.size wE) (by omega) (by simp at hsE; omega) ⟨by simp; omega, by simp, by simp, by simp⟩ hv1 (hrE.le (by omega)) hgwE (vc_mk HVS.out hn4 hv1 (fits3 (by decide)))

theorem randomConstraint_c (R : Nat) (bs : List Int) (q n : Nat) (w : World) (hr : Rd w R bs q) (hq : q ≤ 10000000) (hn1 : 1 ≤ n) (hn4 : n ≤ 4) :
    Calls Tryz.prog 68 #[.pointer (some ⟨R, 0, none⟩), .int .i64 n] w (ConPost w.heap.size R bs (q + 200) w) :=
  (randomConstraint_v R bs q n w hr hq hn1 hn4).mono fun _ _ h => h.c
end Go.Proofs.YtmonhpoogfdpoaaGreat
