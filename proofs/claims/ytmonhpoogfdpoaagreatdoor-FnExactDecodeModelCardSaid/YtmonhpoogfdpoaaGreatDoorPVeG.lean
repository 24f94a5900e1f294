/-
  The walk of the reference's check of a constraint: kinds 8.
  Walks: the reference's check of a constraint, of domains, of a model.
-/
import Derived.Test.YtmonhpoogfdpoaaGreatDoorPCF
import Derived.Test.YtmonhpoogfdpoaaGreatDoorPVaVb
import Derived.Test.YtmonhpoogfdpoaaGreatDoorPVcVd
set_option linter.unusedVariables false
namespace Go.Proofs.YtmonhpoogfdpoaaGreatDoor
open Go.RowKit

set_option maxRecDepth 100000 in
set_option maxHeartbeats 1600000 in
set_option linter.unusedSimpArgs false in
theorem vc8_c (c : Con) (n : Int) (v : Value) (w : World) (hv : ConV [] w v c) (hk : c.kind = 8) (hkl : c.vars.length ≤ 2000000) (hn : 0 ≤ n ∧ n ≤ 1000000000) :
    Calls Tryz.prog 64 #[v, .int .i64 n] w fun e w' => e = .returned (.bool (validConS c n)) ∧ Gr [] w w' := by
  obtain ⟨vv, av, rv, rfl, hvv, hav, hrv⟩ := hv
  have hg0 : Gr [] w (w.alloc (.cells #[.int .i64 c.kind, vv, av, .int .i64 c.bound, rv] 49)) := (Gr.refl _ _).alloc _
  have hb0 : (w.alloc (.cells #[.int .i64 c.kind, vv, av, .int .i64 c.bound, rv] 49)).heap[w.heap.size]? = some (.cells #[.int .i64 c.kind, vv, av, .int .i64 c.bound, rv] 49 (0, 0)) := heap_alloc_new _ _
  have Hvv := hid (hvv.gr hg0); have Hav := hid (hav.gr hg0); have Hrv := hid (hrv.gr hg0)
  obtain ⟨vo, vc, rfl, ⟨hv1, hv2, _⟩, hvc⟩ := hvv
  obtain ⟨ao, ac, rfl, ⟨ha1, ha2, _⟩, hac⟩ := hav
  obtain ⟨ro, rc, rfl, ⟨hr1, hr2, _⟩, hrc⟩ := hrv
  clear hvc hac hrc
  have hfl := fld hb0
  have Hb0 := hid hb0; clear hb0
  have t1 : (c.kind == 1) = false := by rw [hk]; rfl
  have t2 : (c.kind == 2) = false := by rw [hk]; rfl
  have t3 : (c.kind == 3) = false := by rw [hk]; rfl
  have t9 : (c.kind == 9) = false := by rw [hk]; rfl
  have t4 : (c.kind == 4) = false := by rw [hk]; rfl
  have t5 : (c.kind == 5) = false := by rw [hk]; rfl
  have t6 : (c.kind == 6) = false := by rw [hk]; rfl
  have t7 : (c.kind == 7) = false := by rw [hk]; rfl
  have t8 : (c.kind == 8) = true := by rw [hk]; rfl
  have Hk := hid hk; clear hk
  cases d0 : (c.bound == 0)
  all_goals go_enter Tryz.func64, Tryz.ntmps64
  all_goals go_wp2_with fail
  all_goals
    first
    | (go_at_call 65
       refine (inRange_c _ _ _ _).mono ?_
       rintro e w1 ⟨rfl, rfl⟩
       cases h1 : inB 1 n c.vars.length
       all_goals go_wp2_with fail
       all_goals
         first
         | (go_at_call 97
            refine (allInRange_c c.vars 0 (n - 1) _ _ Hvv.out).mono ?_
            rintro e w2 ⟨rfl, hg2⟩; have hfl2 := fld (Gr.obj ((Gr.refl [] _).trans hg2) Hb0.out (by simp))
            cases h2 : allB 0 (n - 1) c.vars
            all_goals go_wp2_with fail
            all_goals
              first
              | (go_at_call 98
                 refine (specDistinct_c c.vars _ _ (Hvv.out.gr hg2)).mono ?_
                 rintro e w3 ⟨rfl, hg3⟩; have hfl3 := fld (Gr.obj (((Gr.refl [] _).trans hg2).trans hg3) Hb0.out (by simp))
                 cases h3 : distinctB c.vars
                 all_goals go_wp2_with fail
                 all_goals
                   first
                   | (go_at_call 99
                      refine (validRows_c c.rows 6 (-1) ((c.rows.length : Int) - 1) _ _ ((Hrv.out.gr hg2).gr hg3)).mono ?_
                      rintro e w4 ⟨rfl, hg4⟩; have hfl4 := fld (Gr.obj ((((Gr.refl [] _).trans hg2).trans hg3).trans hg4) Hb0.out (by simp))
                      cases h4 : rowsInB c.rows 6 (-1) ((c.rows.length : Int) - 1)
                      all_goals go_wp2_with fail
                      all_goals
                        first
                        | (go_at_call 97
                           refine (allInRange_c c.args 0 ((c.rows.length : Int) - 1) _ _ (((Hav.out.gr hg2).gr hg3).gr hg4)).mono ?_
                           rintro e w5 ⟨rfl, hg5⟩; have hfl5 := fld (Gr.obj (((((Gr.refl [] _).trans hg2).trans hg3).trans hg4).trans hg5) Hb0.out (by simp))
                           cases h5 : allB 0 ((c.rows.length : Int) - 1) c.args
                           all_goals go_wp2_with fail
                           all_goals
                             first
                             | (go_at_call 98
                                refine (specDistinct_c c.args _ _ ((((Hav.out.gr hg2).gr hg3).gr hg4).gr hg5)).mono ?_
                                rintro e w6 ⟨rfl, hg6⟩; have hfl6 := fld (Gr.obj ((((((Gr.refl [] _).trans hg2).trans hg3).trans hg4).trans hg5).trans hg6) Hb0.out (by simp))
                                cases h6 : distinctB c.args
                                all_goals go_wp2_with fail
                                all_goals
                                  (go_ret; exact ⟨ret_bool (by first | rfl | (simp only [validConS, fitsB_8 Hk.out, argsB, eqI, d0, h1, h2, h3, h4, h5, h6, Bool.and_true, Bool.true_and, Bool.false_and, Bool.and_false]; done) | (simp [validConS, fitsB_8 Hk.out, argsB, eqI, d0, h1, h2, h3, h4, h5, h6]; done)), (((((hg0.trans hg2).trans hg3).trans hg4).trans hg5).trans hg6)⟩))
                             | (go_ret; exact ⟨ret_bool (by first | rfl | (simp only [validConS, fitsB_8 Hk.out, argsB, eqI, d0, h1, h2, h3, h4, h5, Bool.and_true, Bool.true_and, Bool.false_and, Bool.and_false]; done) | (simp [validConS, fitsB_8 Hk.out, argsB, eqI, d0, h1, h2, h3, h4, h5]; done)), ((((hg0.trans hg2).trans hg3).trans hg4).trans hg5)⟩))
                        | (go_ret; exact ⟨ret_bool (by first | rfl | (simp only [validConS, fitsB_8 Hk.out, argsB, eqI, d0, h1, h2, h3, h4, Bool.and_true, Bool.true_and, Bool.false_and, Bool.and_false]; done) | (simp [validConS, fitsB_8 Hk.out, argsB, eqI, d0, h1, h2, h3, h4]; done)), (((hg0.trans hg2).trans hg3).trans hg4)⟩))
                   | (go_ret; exact ⟨ret_bool (by first | rfl | (simp only [validConS, fitsB_8 Hk.out, argsB, eqI, d0, h1, h2, h3, Bool.and_true, Bool.true_and, Bool.false_and, Bool.and_false]; done) | (simp [validConS, fitsB_8 Hk.out, argsB, eqI, d0, h1, h2, h3]; done)), ((hg0.trans hg2).trans hg3)⟩))
              | (go_ret; exact ⟨ret_bool (by first | rfl | (simp only [validConS, fitsB_8 Hk.out, argsB, eqI, d0, h1, h2, Bool.and_true, Bool.true_and, Bool.false_and, Bool.and_false]; done) | (simp [validConS, fitsB_8 Hk.out, argsB, eqI, d0, h1, h2]; done)), (hg0.trans hg2)⟩))
         | (go_ret; exact ⟨ret_bool (by first | rfl | (simp only [validConS, fitsB_8 Hk.out, argsB, eqI, d0, h1, Bool.and_true, Bool.true_and, Bool.false_and, Bool.and_false]; done) | (simp [validConS, fitsB_8 Hk.out, argsB, eqI, d0, h1]; done)), hg0⟩))
    | (go_ret; exact ⟨ret_bool (by first | rfl | (simp only [validConS, fitsB_8 Hk.out, argsB, eqI, d0, Bool.and_true, Bool.true_and, Bool.false_and, Bool.and_false]; done) | (simp [validConS, fitsB_8 Hk.out, argsB, eqI, d0]; done)), hg0⟩)
end Go.Proofs.YtmonhpoogfdpoaaGreatDoor

set_option linter.unusedVariables false
namespace Go.Proofs.YtmonhpoogfdpoaaGreatDoor
open Go.RowKit

set_option maxRecDepth 100000 in
set_option maxHeartbeats 800000 in
theorem vc0_c (c : Con) (n : Int) (v : Value) (w : World) (hv : ConV [] w v c) (hk : ¬ (1 ≤ c.kind ∧ c.kind ≤ 9)) (hn : 0 ≤ n ∧ n ≤ 1000000000) :
    Calls Tryz.prog 64 #[v, .int .i64 n] w fun e w' => e = .returned (.bool (validConS c n)) ∧ Gr [] w w' := by
  obtain ⟨vv, av, rv, rfl, hvv, hav, hrv⟩ := hv
  have hg0 : Gr [] w (w.alloc (.cells #[.int .i64 c.kind, vv, av, .int .i64 c.bound, rv] 49)) := (Gr.refl _ _).alloc _
  have hb0 : (w.alloc (.cells #[.int .i64 c.kind, vv, av, .int .i64 c.bound, rv] 49)).heap[w.heap.size]? = some (.cells #[.int .i64 c.kind, vv, av, .int .i64 c.bound, rv] 49 (0, 0)) := heap_alloc_new _ _
  have Hvv := hid (hvv.gr hg0)
  obtain ⟨vo, vc, rfl, ⟨hv1, hv2, _⟩, hvc⟩ := hvv
  clear hvc hav hrv
  have hfl := fld hb0
  have Hb0 := hid hb0; clear hb0
  have t1 : (c.kind == 1) = false := by rw [beq_eq_false_iff_ne]; omega
  have t2 : (c.kind == 2) = false := by rw [beq_eq_false_iff_ne]; omega
  have t3 : (c.kind == 3) = false := by rw [beq_eq_false_iff_ne]; omega
  have t4 : (c.kind == 4) = false := by rw [beq_eq_false_iff_ne]; omega
  have t5 : (c.kind == 5) = false := by rw [beq_eq_false_iff_ne]; omega
  have t6 : (c.kind == 6) = false := by rw [beq_eq_false_iff_ne]; omega
  have t7 : (c.kind == 7) = false := by rw [beq_eq_false_iff_ne]; omega
  have t8 : (c.kind == 8) = false := by rw [beq_eq_false_iff_ne]; omega
  have t9 : (c.kind == 9) = false := by rw [beq_eq_false_iff_ne]; omega
  have hF : validConS c n = false := by simp [validConS, fitsB_0 hk]
  have HF := hid hF; clear hF hk
  go_enter Tryz.func64, Tryz.ntmps64
  go_wp2_with fail
  refine (inRange_c _ _ _ _).mono ?_
  rintro e w1 ⟨rfl, rfl⟩
  cases h1 : inB 1 n c.vars.length
  · go_wp2_with fail
    go_ret
    exact ⟨ret_bool HF.out.symm, hg0⟩
  go_wp2_with fail
  refine (allInRange_c c.vars 0 (n - 1) _ _ Hvv.out).mono ?_
  rintro e w2 ⟨rfl, hg2⟩
  have hfl2 := fld (hg2.obj Hb0.out (by simp))
  cases h3 : allB 0 (n - 1) c.vars
  · go_wp2_with fail
    go_ret
    exact ⟨ret_bool HF.out.symm, hg0.trans hg2⟩
  go_wp2_with fail
  refine (specDistinct_c c.vars _ _ (Hvv.out.gr hg2)).mono ?_
  rintro e w3 ⟨rfl, hg3⟩
  have hfl3 := fld ((hg2.trans hg3).obj Hb0.out (by simp))
  cases h4 : distinctB c.vars
  · go_wp2_with fail
    go_ret
    exact ⟨ret_bool HF.out.symm, (hg0.trans hg2).trans hg3⟩
  go_wp2_with fail
  go_ret
  exact ⟨ret_bool HF.out.symm, (hg0.trans hg2).trans hg3⟩

theorem specValidConstraint_c (c : Con) (n : Int) (v : Value) (w : World) (hv : ConV [] w v c) (hkl : c.vars.length ≤ 2000000) (hn : 0 ≤ n ∧ n ≤ 1000000000) :
    Calls Tryz.prog 64 #[v, .int .i64 n] w fun e w' => e = .returned (.bool (validConS c n)) ∧ Gr [] w w' := by
  by_cases h0 : 1 ≤ c.kind ∧ c.kind ≤ 9
  · have : c.kind = 1 ∨ c.kind = 2 ∨ c.kind = 3 ∨ c.kind = 4 ∨ c.kind = 5 ∨ c.kind = 6 ∨ c.kind = 7 ∨ c.kind = 8 ∨ c.kind = 9 := by omega
    rcases this with h | h | h | h | h | h | h | h | h
    · exact vc1_c c n v w hv h hkl hn
    · exact vc2_c c n v w hv h hkl hn
    · exact vc3_c c n v w hv h hkl hn
    · exact vc4_c c n v w hv h hkl hn
    · exact vc5_c c n v w hv h hkl hn
    · exact vc6_c c n v w hv h hkl hn
    · exact vc7_c c n v w hv h hkl hn
    · exact vc8_c c n v w hv h hkl hn
    · exact vc9_c c n v w hv h hkl hn
  · exact vc0_c c n v w hv h0 hn

set_option maxHeartbeats 800000 in
theorem specValidModel_c (m : Mod) (v : Value) (w : World) (hv : ModV [] w v m) (hs : m.Small) :
    Calls Tryz.prog 29 #[v] w fun e w' => e = .returned (.bool (validM m)) ∧ Gr [] w w' := by
  obtain ⟨dv, cv, rfl, hd, hc⟩ := hv
  have hg0 : Gr [] w (w.alloc (.cells #[dv, cv] 27)) := (Gr.refl _ _).alloc _
  have hb0 : (w.alloc (.cells #[dv, cv] 27)).heap[w.heap.size]? = some (.cells #[dv, cv] 27 (0, 0)) := heap_alloc_new _ _
  have hdl := hs.doms; have hcl := hs.cons; have Hcon := hid hs.con
  have Hd := hid (hd.gr hg0); have Hc := hid (hc.gr hg0)
  obtain ⟨xo, xc, rfl, ⟨hd1, hd2, _⟩, hdc⟩ := hd
  obtain ⟨ao, ac, rfl, ⟨hc1, hc2, _⟩, hcc⟩ := hc
  have Hdc := hid (hdc.gr hg0); have Hcc := hid (hcc.gr hg0)
  clear hcc hdc
  have hfl := fld hb0
  have Hb0 := hid hb0; clear hb0
  go_enter Tryz.func29, Tryz.ntmps29
  go_wp2_with fail
  go_loop [3] (fun i => ∃ n : Nat, n ≤ m.doms.length ∧ i = .int .i64 n ∧ allB 0 63 (m.doms.drop n) = allB 0 63 m.doms) (fun i => m.doms.length - (intOf i).toNat)
  case atStart => exact ⟨0, Nat.zero_le _, rfl, rfl⟩
  case round =>
    obtain ⟨n, hn, rfl, hall⟩ := hrel
    have Hall := hid hall; clear hall
    by_cases hlt : n < m.doms.length
    · obtain ⟨x, hx⟩ := get_some hlt
      obtain ⟨b, o, rfl, _, hcell⟩ := Hdc.out n x hx
      have HX := hid (drop_cons hx); clear hx
      go_wp2_with fail
      refine (validDomain_c x _).mono ?_
      rintro e w1 ⟨rfl, rfl⟩
      cases hb : inB 0 63 x
      all_goals go_wp2_with fail
      · go_ret
        have hf : allB 0 63 m.doms = false := by have := Hall.out; rw [HX.out] at this; rw [← this]; simp [allB, hb]
        exact ⟨ret_bool (by simp [validM, domsOk, hf]), hg0⟩
      · refine ⟨⟨n + 1, by omega, by go_num, ?_⟩, by simp [intOf]; omega⟩
        have := Hall.out; rw [HX.out] at this; rw [← this]; simp [allB, hb]
    · have hf : allB 0 63 m.doms = true := by have := Hall.out; rw [drop_end (by omega)] at this; rw [← this]; rfl
      have HF := hid hf; clear hf
      go_wp2_with fail
      go_loopw [4] (fun i wr => ∃ k : Nat, k ≤ m.cons.length ∧ i = .int .i64 k ∧ (∀ (j : Nat) c, j < k → m.cons[j]? = some c → (!validConS c m.doms.length) = false) ∧ Gr [] (w.alloc (.cells #[.slice xo m.doms.length xc, .slice ao m.cons.length ac] 27)) wr) (fun i _ => m.cons.length - (intOf i).toNat)
      case atStart => exact ⟨0, Nat.zero_le _, rfl, by intro j x hj; omega, Gr.refl _ _⟩
      case round =>
        obtain ⟨k, hk, rfl, hp, hg⟩ := hrel
        have HP := hid hp; clear hp
        have hflr := fld (hg.obj Hb0.out (by simp))
        by_cases hkl : k < m.cons.length
        · obtain ⟨c, hx⟩ := get_some hkl
          obtain ⟨b, o, vv, av, rv, rfl, hs', ⟨h0, h1, h2, h3, h4⟩, hvv, hav, hrv⟩ := (Hcc.out.gr hg) k c hx
          have HX := hid hx; clear hx
          have hcon : ConV [] wr (.agg #[.int .i64 c.kind, vv, av, .int .i64 c.bound, rv]) c := ⟨vv, av, rv, rfl, hvv, hav, hrv⟩
          have Hcv := hid hcon; clear hcon hvv hav hrv
          have f0 : ∀ n : GrW [] wr, n.val.cell? ⟨b, o + k * 5, none⟩ = some (.int .i64 c.kind) := fun n => n.gr.cell h0 (by simp)
          have f1 : ∀ n : GrW [] wr, n.val.cell? ⟨b, o + k * 5 + 1, none⟩ = some vv := fun n => n.gr.cell h1 (by simp)
          have f2 : ∀ n : GrW [] wr, n.val.cell? ⟨b, o + k * 5 + 2, none⟩ = some av := fun n => n.gr.cell h2 (by simp)
          have f3 : ∀ n : GrW [] wr, n.val.cell? ⟨b, o + k * 5 + 3, none⟩ = some (.int .i64 c.bound) := fun n => n.gr.cell h3 (by simp)
          have f4 : ∀ n : GrW [] wr, n.val.cell? ⟨b, o + k * 5 + 4, none⟩ = some rv := fun n => n.gr.cell h4 (by simp)
          have f5 : ∀ n : GrW [] wr, ∀ i, n.val.cell? ⟨w.heap.size, i, none⟩ = #[Value.slice xo m.doms.length xc, Value.slice (some ⟨b, o, none⟩) m.cons.length ac][i]? := fun n => fld ((hg.trans n.gr).obj Hb0.out (by simp))
          clear h0 h1 h2 h3 h4
          have hsm := (Hcon.out c (List.mem_of_getElem? HX.out)).vars
          go_wp2_with fail
          refine wp_region_gr [] wr (by kernel_rfl) (by kernel_rfl) (Gr.refl _ _) ?_
          repeat (go_big_quiet_step ((go_at_call 64; exact Calls.gr_of (specValidConstraint_c c _ _ _ (Hcv.out.gr (GrW.gr _)) hsm (by omega)))))
          refine wpQuiet_nil ?_
          rintro w6 ⟨n6, hw6⟩
          have hg6 : Gr [] wr w6 := hw6 ▸ n6.gr
          clear hw6 n6
          cases hb : validConS c m.doms.length
          all_goals go_wp2_with fail
          · go_ret
            refine ⟨ret_bool ?_, (hg0.trans hg).trans hg6⟩
            have : (m.cons.all fun c => validCon c m.doms.length) = false := by
              rw [List.all_eq_false]
              exact ⟨c, List.mem_of_getElem? HX.out, by simp [validCon, hb]⟩
            simp [validM, this]
          · exact ⟨⟨k + 1, by omega, by go_num, below_snoc HP.out HX.out (by simp [hb]), hg.trans hg6⟩, by simp [intOf]; omega⟩
        · have hall2 : ∀ c ∈ m.cons, validConS c m.doms.length = true := by
            intro c hc
            obtain ⟨j, hj, rfl⟩ := List.mem_iff_getElem.1 hc
            have := HP.out j _ (by omega) (List.getElem?_eq_getElem hj)
            simpa using this
          have HA := hid hall2; clear hall2
          go_wp2_with fail
          refine (inRange_c _ _ _ _).mono ?_
          rintro e w1 ⟨rfl, rfl⟩
          have hflr' := fld (hg.obj Hb0.out (by simp))
          cases hb : inB 1 4 m.doms.length
          · go_wp2_with fail
            go_ret
            exact ⟨ret_bool (by simp [validM, domsOk, hb]), hg0.trans hg⟩
          · have hfin : validM m = decide ((m.cons.length : Int) ≤ 6) := by
              have h1 : (m.cons.all fun c => validCon c m.doms.length) = true := by
                rw [List.all_eq_true]; intro c hc; simp [validCon, hb, HA.out c hc]
              have h2 : inB 0 6 m.cons.length = decide ((m.cons.length : Int) ≤ 6) := by
                unfold inB; have : (0 : Int) ≤ m.cons.length := by omega
                simp [this]
              simp [validM, domsOk, hb, HF.out, h1, h2]
            have Hfin := hid hfin; clear hfin
            go_wp2_with fail
            go_ret
            exact ⟨ret_bool Hfin.out.symm, hg0.trans hg⟩
end Go.Proofs.YtmonhpoogfdpoaaGreatDoor
