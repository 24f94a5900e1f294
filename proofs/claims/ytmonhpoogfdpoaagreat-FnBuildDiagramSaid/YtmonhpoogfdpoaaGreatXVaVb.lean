/-
  The walk of the reference's check of a constraint: kinds 1, 3, 9.
  The walk of the reference's check of a constraint: kinds 2.
-/
import Derived.Test.YtmonhpoogfdpoaaGreatXCF
set_option linter.unusedVariables false
namespace Go.Proofs.YtmonhpoogfdpoaaGreat
open Go.RowKit

set_option maxRecDepth 100000 in
set_option maxHeartbeats 1600000 in
set_option linter.unusedSimpArgs false in
theorem vc1_c (c : Con) (n : Int) (v : Value) (w : World) (hv : ConV [] w v c) (hk : c.kind = 1) (hkl : c.vars.length ≤ 2000000) (hn : 0 ≤ n ∧ n ≤ 1000000000) :
    Calls Tryz.prog 23 #[v, .int .i64 n] w fun e w' => e = .returned (.bool (validConS c n)) ∧ Gr [] w w' := by
  obtain ⟨vv, av, rv, rfl, hvv, hav, hrv⟩ := hv
  have hg0 : Gr [] w (w.alloc (.cells #[.int .i64 c.kind, vv, av, .int .i64 c.bound, rv] 26)) := (Gr.refl _ _).alloc _
  have hb0 : (w.alloc (.cells #[.int .i64 c.kind, vv, av, .int .i64 c.bound, rv] 26)).heap[w.heap.size]? = some (.cells #[.int .i64 c.kind, vv, av, .int .i64 c.bound, rv] 26 (0, 0)) := heap_alloc_new _ _
  have Hvv := hid (hvv.gr hg0); have Hav := hid (hav.gr hg0); have Hrv := hid (hrv.gr hg0)
  obtain ⟨vo, vc, rfl, ⟨hv1, hv2, _⟩, hvc⟩ := hvv
  obtain ⟨ao, ac, rfl, ⟨ha1, ha2, _⟩, hac⟩ := hav
  obtain ⟨ro, rc, rfl, ⟨hr1, hr2, _⟩, hrc⟩ := hrv
  clear hvc hac hrc
  have hfl := fld hb0
  have Hb0 := hid hb0; clear hb0
  have t1 : (c.kind == 1) = true := by rw [hk]; rfl
  have Hk := hid hk; clear hk
  cases d0 : ((c.args.length : Int) == (c.vars.length : Int)) <;> cases d1 : ((c.rows.length : Int) == 0)
  all_goals go_enter Tryz.func23, Tryz.ntmps23
  all_goals go_wp2_with fail
  all_goals
    first
    | (go_at_call 49
       refine (inRange_c _ _ _ _).mono ?_
       rintro e w1 ⟨rfl, rfl⟩
       cases h1 : inB 1 n c.vars.length
       all_goals go_wp2_with fail
       all_goals
         first
         | (go_at_call 50
            refine (allInRange_c c.vars 0 (n - 1) _ _ Hvv.out).mono ?_
            rintro e w2 ⟨rfl, hg2⟩; have hfl2 := fld (Gr.obj ((Gr.refl [] _).trans hg2) Hb0.out (by simp))
            cases h2 : allB 0 (n - 1) c.vars
            all_goals go_wp2_with fail
            all_goals
              first
              | (go_at_call 51
                 refine (specDistinct_c c.vars _ _ (Hvv.out.gr hg2)).mono ?_
                 rintro e w3 ⟨rfl, hg3⟩; have hfl3 := fld (Gr.obj (((Gr.refl [] _).trans hg2).trans hg3) Hb0.out (by simp))
                 cases h3 : distinctB c.vars
                 all_goals go_wp2_with fail
                 all_goals
                   first
                   | (go_at_call 50
                      refine (allInRange_c c.args (-9) 9 _ _ ((Hav.out.gr hg2).gr hg3)).mono ?_
                      rintro e w4 ⟨rfl, hg4⟩; have hfl4 := fld (Gr.obj ((((Gr.refl [] _).trans hg2).trans hg3).trans hg4) Hb0.out (by simp))
                      cases h4 : allB (-9) 9 c.args
                      all_goals go_wp2_with fail
                      all_goals
                        first
                        | (go_at_call 49
                           refine (inRange_c _ _ _ _).mono ?_
                           rintro e w5 ⟨rfl, rfl⟩
                           cases h5 : inB (-999) 999 c.bound
                           all_goals go_wp2_with fail
                           all_goals
                             (go_ret; exact ⟨ret_bool (by first | rfl | (simp only [validConS, fitsB_1 Hk.out, argsB, eqI, d0, d1, h1, h2, h3, h4, h5, Bool.and_true, Bool.true_and, Bool.false_and, Bool.and_false]; done) | (simp [validConS, fitsB_1 Hk.out, argsB, eqI, d0, d1, h1, h2, h3, h4, h5]; done)), (((hg0.trans hg2).trans hg3).trans hg4)⟩))
                        | (go_ret; exact ⟨ret_bool (by first | rfl | (simp only [validConS, fitsB_1 Hk.out, argsB, eqI, d0, d1, h1, h2, h3, h4, Bool.and_true, Bool.true_and, Bool.false_and, Bool.and_false]; done) | (simp [validConS, fitsB_1 Hk.out, argsB, eqI, d0, d1, h1, h2, h3, h4]; done)), (((hg0.trans hg2).trans hg3).trans hg4)⟩))
                   | (go_ret; exact ⟨ret_bool (by first | rfl | (simp only [validConS, fitsB_1 Hk.out, argsB, eqI, d0, d1, h1, h2, h3, Bool.and_true, Bool.true_and, Bool.false_and, Bool.and_false]; done) | (simp [validConS, fitsB_1 Hk.out, argsB, eqI, d0, d1, h1, h2, h3]; done)), ((hg0.trans hg2).trans hg3)⟩))
              | (go_ret; exact ⟨ret_bool (by first | rfl | (simp only [validConS, fitsB_1 Hk.out, argsB, eqI, d0, d1, h1, h2, Bool.and_true, Bool.true_and, Bool.false_and, Bool.and_false]; done) | (simp [validConS, fitsB_1 Hk.out, argsB, eqI, d0, d1, h1, h2]; done)), (hg0.trans hg2)⟩))
         | (go_ret; exact ⟨ret_bool (by first | rfl | (simp only [validConS, fitsB_1 Hk.out, argsB, eqI, d0, d1, h1, Bool.and_true, Bool.true_and, Bool.false_and, Bool.and_false]; done) | (simp [validConS, fitsB_1 Hk.out, argsB, eqI, d0, d1, h1]; done)), hg0⟩))
    | (go_ret; exact ⟨ret_bool (by first | rfl | (simp only [validConS, fitsB_1 Hk.out, argsB, eqI, d0, d1, Bool.and_true, Bool.true_and, Bool.false_and, Bool.and_false]; done) | (simp [validConS, fitsB_1 Hk.out, argsB, eqI, d0, d1]; done)), hg0⟩)
set_option maxRecDepth 100000 in
set_option maxHeartbeats 1600000 in
set_option linter.unusedSimpArgs false in
theorem vc3_c (c : Con) (n : Int) (v : Value) (w : World) (hv : ConV [] w v c) (hk : c.kind = 3) (hkl : c.vars.length ≤ 2000000) (hn : 0 ≤ n ∧ n ≤ 1000000000) :
    Calls Tryz.prog 23 #[v, .int .i64 n] w fun e w' => e = .returned (.bool (validConS c n)) ∧ Gr [] w w' := by
  obtain ⟨vv, av, rv, rfl, hvv, hav, hrv⟩ := hv
  have hg0 : Gr [] w (w.alloc (.cells #[.int .i64 c.kind, vv, av, .int .i64 c.bound, rv] 26)) := (Gr.refl _ _).alloc _
  have hb0 : (w.alloc (.cells #[.int .i64 c.kind, vv, av, .int .i64 c.bound, rv] 26)).heap[w.heap.size]? = some (.cells #[.int .i64 c.kind, vv, av, .int .i64 c.bound, rv] 26 (0, 0)) := heap_alloc_new _ _
  have Hvv := hid (hvv.gr hg0); have Hav := hid (hav.gr hg0); have Hrv := hid (hrv.gr hg0)
  obtain ⟨vo, vc, rfl, ⟨hv1, hv2, _⟩, hvc⟩ := hvv
  obtain ⟨ao, ac, rfl, ⟨ha1, ha2, _⟩, hac⟩ := hav
  obtain ⟨ro, rc, rfl, ⟨hr1, hr2, _⟩, hrc⟩ := hrv
  clear hvc hac hrc
  have hfl := fld hb0
  have Hb0 := hid hb0; clear hb0
  have t1 : (c.kind == 1) = false := by rw [hk]; rfl
  have t2 : (c.kind == 2) = false := by rw [hk]; rfl
  have t3 : (c.kind == 3) = true := by rw [hk]; rfl
  have Hk := hid hk; clear hk
  cases d0 : ((c.args.length : Int) == 0) <;> cases d1 : (c.bound == 0) <;> cases d2 : ((c.rows.length : Int) == 0)
  all_goals go_enter Tryz.func23, Tryz.ntmps23
  all_goals go_wp2_with fail
  all_goals
    first
    | (go_at_call 49
       refine (inRange_c _ _ _ _).mono ?_
       rintro e w1 ⟨rfl, rfl⟩
       cases h1 : inB 1 n c.vars.length
       all_goals go_wp2_with fail
       all_goals
         first
         | (go_at_call 50
            refine (allInRange_c c.vars 0 (n - 1) _ _ Hvv.out).mono ?_
            rintro e w2 ⟨rfl, hg2⟩; have hfl2 := fld (Gr.obj ((Gr.refl [] _).trans hg2) Hb0.out (by simp))
            cases h2 : allB 0 (n - 1) c.vars
            all_goals go_wp2_with fail
            all_goals
              first
              | (go_at_call 51
                 refine (specDistinct_c c.vars _ _ (Hvv.out.gr hg2)).mono ?_
                 rintro e w3 ⟨rfl, hg3⟩; have hfl3 := fld (Gr.obj (((Gr.refl [] _).trans hg2).trans hg3) Hb0.out (by simp))
                 cases h3 : distinctB c.vars
                 all_goals go_wp2_with fail
                 all_goals
                   (go_ret; exact ⟨ret_bool (by first | rfl | (simp only [validConS, fitsB_3 (Or.inl Hk.out), argsB, eqI, d0, d1, d2, h1, h2, h3, Bool.and_true, Bool.true_and, Bool.false_and, Bool.and_false]; done) | (simp [validConS, fitsB_3 (Or.inl Hk.out), argsB, eqI, d0, d1, d2, h1, h2, h3]; done)), ((hg0.trans hg2).trans hg3)⟩))
              | (go_ret; exact ⟨ret_bool (by first | rfl | (simp only [validConS, fitsB_3 (Or.inl Hk.out), argsB, eqI, d0, d1, d2, h1, h2, Bool.and_true, Bool.true_and, Bool.false_and, Bool.and_false]; done) | (simp [validConS, fitsB_3 (Or.inl Hk.out), argsB, eqI, d0, d1, d2, h1, h2]; done)), (hg0.trans hg2)⟩))
         | (go_ret; exact ⟨ret_bool (by first | rfl | (simp only [validConS, fitsB_3 (Or.inl Hk.out), argsB, eqI, d0, d1, d2, h1, Bool.and_true, Bool.true_and, Bool.false_and, Bool.and_false]; done) | (simp [validConS, fitsB_3 (Or.inl Hk.out), argsB, eqI, d0, d1, d2, h1]; done)), hg0⟩))
    | (go_ret; exact ⟨ret_bool (by first | rfl | (simp only [validConS, fitsB_3 (Or.inl Hk.out), argsB, eqI, d0, d1, d2, Bool.and_true, Bool.true_and, Bool.false_and, Bool.and_false]; done) | (simp [validConS, fitsB_3 (Or.inl Hk.out), argsB, eqI, d0, d1, d2]; done)), hg0⟩)
set_option maxRecDepth 100000 in
set_option maxHeartbeats 1600000 in
set_option linter.unusedSimpArgs false in
theorem vc9_c (c : Con) (n : Int) (v : Value) (w : World) (hv : ConV [] w v c) (hk : c.kind = 9) (hkl : c.vars.length ≤ 2000000) (hn : 0 ≤ n ∧ n ≤ 1000000000) :
    Calls Tryz.prog 23 #[v, .int .i64 n] w fun e w' => e = .returned (.bool (validConS c n)) ∧ Gr [] w w' := by
  obtain ⟨vv, av, rv, rfl, hvv, hav, hrv⟩ := hv
  have hg0 : Gr [] w (w.alloc (.cells #[.int .i64 c.kind, vv, av, .int .i64 c.bound, rv] 26)) := (Gr.refl _ _).alloc _
  have hb0 : (w.alloc (.cells #[.int .i64 c.kind, vv, av, .int .i64 c.bound, rv] 26)).heap[w.heap.size]? = some (.cells #[.int .i64 c.kind, vv, av, .int .i64 c.bound, rv] 26 (0, 0)) := heap_alloc_new _ _
  have Hvv := hid (hvv.gr hg0); have Hav := hid (hav.gr hg0); have Hrv := hid (hrv.gr hg0)
  obtain ⟨vo, vc, rfl, ⟨hv1, hv2, _⟩, hvc⟩ := hvv
  obtain ⟨ao, ac, rfl, ⟨ha1, ha2, _⟩, hac⟩ := hav
  obtain ⟨ro, rc, rfl, ⟨hr1, hr2, _⟩, hrc⟩ := hrv
  clear hvc hac hrc
  have hfl := fld hb0
  have Hb0 := hid hb0; clear hb0
  have t1 : (c.kind == 1) = false := by rw [hk]; rfl
  have t2 : (c.kind == 2) = false := by rw [hk]; rfl
  have t3 : (c.kind == 3) = false := by rw [hk]; rfl
  have t9 : (c.kind == 9) = true := by rw [hk]; rfl
  have Hk := hid hk; clear hk
  cases d0 : ((c.args.length : Int) == 0) <;> cases d1 : (c.bound == 0) <;> cases d2 : ((c.rows.length : Int) == 0)
  all_goals go_enter Tryz.func23, Tryz.ntmps23
  all_goals go_wp2_with fail
  all_goals
    first
    | (go_at_call 49
       refine (inRange_c _ _ _ _).mono ?_
       rintro e w1 ⟨rfl, rfl⟩
       cases h1 : inB 1 n c.vars.length
       all_goals go_wp2_with fail
       all_goals
         first
         | (go_at_call 50
            refine (allInRange_c c.vars 0 (n - 1) _ _ Hvv.out).mono ?_
            rintro e w2 ⟨rfl, hg2⟩; have hfl2 := fld (Gr.obj ((Gr.refl [] _).trans hg2) Hb0.out (by simp))
            cases h2 : allB 0 (n - 1) c.vars
            all_goals go_wp2_with fail
            all_goals
              first
              | (go_at_call 51
                 refine (specDistinct_c c.vars _ _ (Hvv.out.gr hg2)).mono ?_
                 rintro e w3 ⟨rfl, hg3⟩; have hfl3 := fld (Gr.obj (((Gr.refl [] _).trans hg2).trans hg3) Hb0.out (by simp))
                 cases h3 : distinctB c.vars
                 all_goals go_wp2_with fail
                 all_goals
                   (go_ret; exact ⟨ret_bool (by first | rfl | (simp only [validConS, fitsB_3 (Or.inr Hk.out), argsB, eqI, d0, d1, d2, h1, h2, h3, Bool.and_true, Bool.true_and, Bool.false_and, Bool.and_false]; done) | (simp [validConS, fitsB_3 (Or.inr Hk.out), argsB, eqI, d0, d1, d2, h1, h2, h3]; done)), ((hg0.trans hg2).trans hg3)⟩))
              | (go_ret; exact ⟨ret_bool (by first | rfl | (simp only [validConS, fitsB_3 (Or.inr Hk.out), argsB, eqI, d0, d1, d2, h1, h2, Bool.and_true, Bool.true_and, Bool.false_and, Bool.and_false]; done) | (simp [validConS, fitsB_3 (Or.inr Hk.out), argsB, eqI, d0, d1, d2, h1, h2]; done)), (hg0.trans hg2)⟩))
         | (go_ret; exact ⟨ret_bool (by first | rfl | (simp only [validConS, fitsB_3 (Or.inr Hk.out), argsB, eqI, d0, d1, d2, h1, Bool.and_true, Bool.true_and, Bool.false_and, Bool.and_false]; done) | (simp [validConS, fitsB_3 (Or.inr Hk.out), argsB, eqI, d0, d1, d2, h1]; done)), hg0⟩))
    | (go_ret; exact ⟨ret_bool (by first | rfl | (simp only [validConS, fitsB_3 (Or.inr Hk.out), argsB, eqI, d0, d1, d2, Bool.and_true, Bool.true_and, Bool.false_and, Bool.and_false]; done) | (simp [validConS, fitsB_3 (Or.inr Hk.out), argsB, eqI, d0, d1, d2]; done)), hg0⟩)
end Go.Proofs.YtmonhpoogfdpoaaGreat

set_option linter.unusedVariables false
namespace Go.Proofs.YtmonhpoogfdpoaaGreat
open Go.RowKit

set_option maxRecDepth 100000 in
set_option maxHeartbeats 1600000 in
set_option linter.unusedSimpArgs false in
theorem vc2_c (c : Con) (n : Int) (v : Value) (w : World) (hv : ConV [] w v c) (hk : c.kind = 2) (hkl : c.vars.length ≤ 2000000) (hn : 0 ≤ n ∧ n ≤ 1000000000) :
    Calls Tryz.prog 23 #[v, .int .i64 n] w fun e w' => e = .returned (.bool (validConS c n)) ∧ Gr [] w w' := by
  obtain ⟨vv, av, rv, rfl, hvv, hav, hrv⟩ := hv
  have hg0 : Gr [] w (w.alloc (.cells #[.int .i64 c.kind, vv, av, .int .i64 c.bound, rv] 26)) := (Gr.refl _ _).alloc _
  have hb0 : (w.alloc (.cells #[.int .i64 c.kind, vv, av, .int .i64 c.bound, rv] 26)).heap[w.heap.size]? = some (.cells #[.int .i64 c.kind, vv, av, .int .i64 c.bound, rv] 26 (0, 0)) := heap_alloc_new _ _
  have Hvv := hid (hvv.gr hg0); have Hav := hid (hav.gr hg0); have Hrv := hid (hrv.gr hg0)
  obtain ⟨vo, vc, rfl, ⟨hv1, hv2, _⟩, hvc⟩ := hvv
  obtain ⟨ao, ac, rfl, ⟨ha1, ha2, _⟩, hac⟩ := hav
  obtain ⟨ro, rc, rfl, ⟨hr1, hr2, _⟩, hrc⟩ := hrv
  clear hvc hac hrc
  have hfl := fld hb0
  have Hb0 := hid hb0; clear hb0
  have t1 : (c.kind == 1) = false := by rw [hk]; rfl
  have t2 : (c.kind == 2) = true := by rw [hk]; rfl
  have Hk := hid hk; clear hk
  cases d0 : ((c.vars.length : Int) == 2) <;> cases d1 : ((c.args.length : Int) == 1) <;> cases d2 : (c.bound == 0) <;> cases d3 : ((c.rows.length : Int) == 0)
  all_goals go_enter Tryz.func23, Tryz.ntmps23
  all_goals go_wp2_with fail
  all_goals
    first
    | (go_at_call 49
       refine (inRange_c _ _ _ _).mono ?_
       rintro e w1 ⟨rfl, rfl⟩
       cases h1 : inB 1 n c.vars.length
       all_goals go_wp2_with fail
       all_goals
         first
         | (go_at_call 50
            refine (allInRange_c c.vars 0 (n - 1) _ _ Hvv.out).mono ?_
            rintro e w2 ⟨rfl, hg2⟩; have hfl2 := fld (Gr.obj ((Gr.refl [] _).trans hg2) Hb0.out (by simp))
            cases h2 : allB 0 (n - 1) c.vars
            all_goals go_wp2_with fail
            all_goals
              first
              | (go_at_call 51
                 refine (specDistinct_c c.vars _ _ (Hvv.out.gr hg2)).mono ?_
                 rintro e w3 ⟨rfl, hg3⟩; have hfl3 := fld (Gr.obj (((Gr.refl [] _).trans hg2).trans hg3) Hb0.out (by simp))
                 cases h3 : distinctB c.vars
                 all_goals go_wp2_with fail
                 all_goals
                   first
                   | (go_at_call 50
                      refine (allInRange_c c.args (-9) 9 _ _ ((Hav.out.gr hg2).gr hg3)).mono ?_
                      rintro e w4 ⟨rfl, hg4⟩; have hfl4 := fld (Gr.obj ((((Gr.refl [] _).trans hg2).trans hg3).trans hg4) Hb0.out (by simp))
                      cases h4 : allB (-9) 9 c.args
                      all_goals go_wp2_with fail
                      all_goals
                        (go_ret; exact ⟨ret_bool (by first | rfl | (simp only [validConS, fitsB_2 Hk.out, argsB, eqI, d0, d1, d2, d3, h1, h2, h3, h4, Bool.and_true, Bool.true_and, Bool.false_and, Bool.and_false]; done) | (simp [validConS, fitsB_2 Hk.out, argsB, eqI, d0, d1, d2, d3, h1, h2, h3, h4]; done)), (((hg0.trans hg2).trans hg3).trans hg4)⟩))
                   | (go_ret; exact ⟨ret_bool (by first | rfl | (simp only [validConS, fitsB_2 Hk.out, argsB, eqI, d0, d1, d2, d3, h1, h2, h3, Bool.and_true, Bool.true_and, Bool.false_and, Bool.and_false]; done) | (simp [validConS, fitsB_2 Hk.out, argsB, eqI, d0, d1, d2, d3, h1, h2, h3]; done)), ((hg0.trans hg2).trans hg3)⟩))
              | (go_ret; exact ⟨ret_bool (by first | rfl | (simp only [validConS, fitsB_2 Hk.out, argsB, eqI, d0, d1, d2, d3, h1, h2, Bool.and_true, Bool.true_and, Bool.false_and, Bool.and_false]; done) | (simp [validConS, fitsB_2 Hk.out, argsB, eqI, d0, d1, d2, d3, h1, h2]; done)), (hg0.trans hg2)⟩))
         | (go_ret; exact ⟨ret_bool (by first | rfl | (simp only [validConS, fitsB_2 Hk.out, argsB, eqI, d0, d1, d2, d3, h1, Bool.and_true, Bool.true_and, Bool.false_and, Bool.and_false]; done) | (simp [validConS, fitsB_2 Hk.out, argsB, eqI, d0, d1, d2, d3, h1]; done)), hg0⟩))
    | (go_ret; exact ⟨ret_bool (by first | rfl | (simp only [validConS, fitsB_2 Hk.out, argsB, eqI, d0, d1, d2, d3, Bool.and_true, Bool.true_and, Bool.false_and, Bool.and_false]; done) | (simp [validConS, fitsB_2 Hk.out, argsB, eqI, d0, d1, d2, d3]; done)), hg0⟩)
end Go.Proofs.YtmonhpoogfdpoaaGreat
