/-
  The walk of the check of a constraint's numbers, a theorem for each kind.
  The walk of the check of a constraint's numbers, the last kind.
  Walks of the checks of constraints and models: the rest of the program's, and the reference's small ones.
  Walks: ValidModel, and the reference's small checks.
-/
import Derived.Test.YtmonhpoogfdpoaaGreatXA
set_option linter.unusedVariables false
namespace Go.Proofs.YtmonhpoogfdpoaaGreat
open Go.RowKit

set_option maxRecDepth 100000 in
set_option maxHeartbeats 800000 in
set_option linter.unusedSimpArgs false in
theorem fits1_c (c : Con) (v : Value) (w : World) (hv : ConV [] w v c) (hk : c.kind = 1) (hkl : c.vars.length ≤ 2000000) :
    Calls Tryz.prog 39 #[v] w fun e w' => e = .returned (.bool (fitsB c)) ∧ Gr [] w w' := by
  obtain ⟨vv, av, rv, rfl, hvv, hav, hrv⟩ := hv
  have hg0 : Gr [] w (w.alloc (.cells #[.int .i64 c.kind, vv, av, .int .i64 c.bound, rv] 26)) := (Gr.refl _ _).alloc _
  have hb0 : (w.alloc (.cells #[.int .i64 c.kind, vv, av, .int .i64 c.bound, rv] 26)).heap[w.heap.size]? = some (.cells #[.int .i64 c.kind, vv, av, .int .i64 c.bound, rv] 26 (0, 0)) := heap_alloc_new _ _
  have Hav := hid (hav.gr hg0); have Hrv := hid (hrv.gr hg0)
  obtain ⟨vo, vc, rfl, ⟨hv1, hv2, _⟩, hvc⟩ := hvv
  obtain ⟨ao, ac, rfl, ⟨ha1, ha2, _⟩, hac⟩ := hav
  obtain ⟨ro, rc, rfl, ⟨hr1, hr2, _⟩, hrc⟩ := hrv
  clear hvc hac hrc
  have hfl := fld hb0
  have Hb0 := hid hb0; clear hb0
  have t1 : (c.kind == 1) = true := by rw [hk]; rfl
  have Hk := hid hk; clear hk
  all_goals go_enter Tryz.func39, Tryz.ntmps39
  all_goals go_wp2_with fail
  all_goals go_quiet (fail)
  all_goals go_wp2_with fail
  all_goals
    first
    | (go_at_call 70
       refine (fitsLit_c c _ _ _ (c.vars.length : Int) (-9) 9 _ _ (Gr.obj ((Gr.refl [] _).drewN _) Hb0.out (by simp)) (Hav.out.gr ((Gr.refl _ _).drewN _))).mono ?_
       rintro e w1 ⟨rfl, hg1⟩; have hfl1 := fld (Gr.obj (((Gr.refl [] _).drewN _).trans hg1) Hb0.out (by simp))
       cases h1 : argsB c (c.vars.length : Int) (-9) 9
       all_goals go_wp2_with fail
       all_goals
         first
         | (go_at_call 28
            refine (within_c _ _ _ _).mono ?_
            rintro e w2 ⟨rfl, rfl⟩
            cases h2 : inB (-999) 999 c.bound
            all_goals go_wp2_with fail
            all_goals
              (go_ret; exact ⟨ret_bool (by first | rfl | (simp only [fitsB_1 Hk.out, h1, h2, Bool.and_true, Bool.true_and, Bool.false_and, Bool.and_false]; done) | (simp [fitsB_1 Hk.out, h1, h2]; done)), ((hg0.drewN _).trans hg1)⟩))
         | (go_ret; exact ⟨ret_bool (by first | rfl | (simp only [fitsB_1 Hk.out, h1, Bool.and_true, Bool.true_and, Bool.false_and, Bool.and_false]; done) | (simp [fitsB_1 Hk.out, h1]; done)), ((hg0.drewN _).trans hg1)⟩))
    | (go_ret; exact ⟨ret_bool (by first | rfl | (simp only [fitsB_1 Hk.out, Bool.and_true, Bool.true_and, Bool.false_and, Bool.and_false]; done) | (simp [fitsB_1 Hk.out]; done)), (hg0.drewN _)⟩)
set_option maxRecDepth 100000 in
set_option maxHeartbeats 800000 in
set_option linter.unusedSimpArgs false in
theorem fits2_c (c : Con) (v : Value) (w : World) (hv : ConV [] w v c) (hk : c.kind = 2) (hkl : c.vars.length ≤ 2000000) :
    Calls Tryz.prog 39 #[v] w fun e w' => e = .returned (.bool (fitsB c)) ∧ Gr [] w w' := by
  obtain ⟨vv, av, rv, rfl, hvv, hav, hrv⟩ := hv
  have hg0 : Gr [] w (w.alloc (.cells #[.int .i64 c.kind, vv, av, .int .i64 c.bound, rv] 26)) := (Gr.refl _ _).alloc _
  have hb0 : (w.alloc (.cells #[.int .i64 c.kind, vv, av, .int .i64 c.bound, rv] 26)).heap[w.heap.size]? = some (.cells #[.int .i64 c.kind, vv, av, .int .i64 c.bound, rv] 26 (0, 0)) := heap_alloc_new _ _
  have Hav := hid (hav.gr hg0); have Hrv := hid (hrv.gr hg0)
  obtain ⟨vo, vc, rfl, ⟨hv1, hv2, _⟩, hvc⟩ := hvv
  obtain ⟨ao, ac, rfl, ⟨ha1, ha2, _⟩, hac⟩ := hav
  obtain ⟨ro, rc, rfl, ⟨hr1, hr2, _⟩, hrc⟩ := hrv
  clear hvc hac hrc
  have hfl := fld hb0
  have Hb0 := hid hb0; clear hb0
  have t1 : (c.kind == 1) = false := by rw [hk]; rfl
  have t2 : (c.kind == 2) = true := by rw [hk]; rfl
  have Hk := hid hk; clear hk
  cases d0 : ((c.vars.length : Int) == 2) <;> cases d1 : (c.bound == 0)
  all_goals go_enter Tryz.func39, Tryz.ntmps39
  all_goals go_wp2_with fail
  all_goals go_quiet (fail)
  all_goals go_wp2_with fail
  all_goals
    first
    | (go_at_call 70
       refine (fitsLit_c c _ _ _ 1 (-9) 9 _ _ (Gr.obj ((Gr.refl [] _).drewN _) Hb0.out (by simp)) (Hav.out.gr ((Gr.refl _ _).drewN _))).mono ?_
       rintro e w1 ⟨rfl, hg1⟩; have hfl1 := fld (Gr.obj (((Gr.refl [] _).drewN _).trans hg1) Hb0.out (by simp))
       cases h1 : argsB c 1 (-9) 9
       all_goals go_wp2_with fail
       all_goals
         (go_ret; exact ⟨ret_bool (by first | rfl | (simp only [fitsB_2 Hk.out, d0, d1, h1, Bool.and_true, Bool.true_and, Bool.false_and, Bool.and_false]; done) | (simp [fitsB_2 Hk.out, d0, d1, h1]; done)), ((hg0.drewN _).trans hg1)⟩))
    | (go_ret; exact ⟨ret_bool (by first | rfl | (simp only [fitsB_2 Hk.out, d0, d1, Bool.and_true, Bool.true_and, Bool.false_and, Bool.and_false]; done) | (simp [fitsB_2 Hk.out, d0, d1]; done)), (hg0.drewN _)⟩)
set_option maxRecDepth 100000 in
set_option maxHeartbeats 800000 in
set_option linter.unusedSimpArgs false in
theorem fits3_c (c : Con) (v : Value) (w : World) (hv : ConV [] w v c) (hk : c.kind = 3) (hkl : c.vars.length ≤ 2000000) :
    Calls Tryz.prog 39 #[v] w fun e w' => e = .returned (.bool (fitsB c)) ∧ Gr [] w w' := by
  obtain ⟨vv, av, rv, rfl, hvv, hav, hrv⟩ := hv
  have hg0 : Gr [] w (w.alloc (.cells #[.int .i64 c.kind, vv, av, .int .i64 c.bound, rv] 26)) := (Gr.refl _ _).alloc _
  have hb0 : (w.alloc (.cells #[.int .i64 c.kind, vv, av, .int .i64 c.bound, rv] 26)).heap[w.heap.size]? = some (.cells #[.int .i64 c.kind, vv, av, .int .i64 c.bound, rv] 26 (0, 0)) := heap_alloc_new _ _
  have Hav := hid (hav.gr hg0); have Hrv := hid (hrv.gr hg0)
  obtain ⟨vo, vc, rfl, ⟨hv1, hv2, _⟩, hvc⟩ := hvv
  obtain ⟨ao, ac, rfl, ⟨ha1, ha2, _⟩, hac⟩ := hav
  obtain ⟨ro, rc, rfl, ⟨hr1, hr2, _⟩, hrc⟩ := hrv
  clear hvc hac hrc
  have hfl := fld hb0
  have Hb0 := hid hb0; clear hb0
  have t1 : (c.kind == 1) = false := by rw [hk]; rfl
  have t2 : (c.kind == 2) = false := by rw [hk]; rfl
  have t3 : (c.kind == 3) = true := by rw [hk]; rfl
  have Hk := hid hk; clear hk
  cases d0 : ((c.args.length : Int) == 0) <;> cases d1 : (c.bound == 0)
  all_goals go_enter Tryz.func39, Tryz.ntmps39
  all_goals go_wp2_with fail
  all_goals go_quiet (fail)
  all_goals go_wp2_with fail
  all_goals
    (go_ret; exact ⟨ret_bool (by first | rfl | (simp only [fitsB_3 (Or.inl Hk.out), d0, d1, Bool.and_true, Bool.true_and, Bool.false_and, Bool.and_false]; done) | (simp [fitsB_3 (Or.inl Hk.out), d0, d1]; done)), (hg0.drewN _)⟩)
set_option maxRecDepth 100000 in
set_option maxHeartbeats 800000 in
set_option linter.unusedSimpArgs false in
theorem fits9_c (c : Con) (v : Value) (w : World) (hv : ConV [] w v c) (hk : c.kind = 9) (hkl : c.vars.length ≤ 2000000) :
    Calls Tryz.prog 39 #[v] w fun e w' => e = .returned (.bool (fitsB c)) ∧ Gr [] w w' := by
  obtain ⟨vv, av, rv, rfl, hvv, hav, hrv⟩ := hv
  have hg0 : Gr [] w (w.alloc (.cells #[.int .i64 c.kind, vv, av, .int .i64 c.bound, rv] 26)) := (Gr.refl _ _).alloc _
  have hb0 : (w.alloc (.cells #[.int .i64 c.kind, vv, av, .int .i64 c.bound, rv] 26)).heap[w.heap.size]? = some (.cells #[.int .i64 c.kind, vv, av, .int .i64 c.bound, rv] 26 (0, 0)) := heap_alloc_new _ _
  have Hav := hid (hav.gr hg0); have Hrv := hid (hrv.gr hg0)
  obtain ⟨vo, vc, rfl, ⟨hv1, hv2, _⟩, hvc⟩ := hvv
  obtain ⟨ao, ac, rfl, ⟨ha1, ha2, _⟩, hac⟩ := hav
  obtain ⟨ro, rc, rfl, ⟨hr1, hr2, _⟩, hrc⟩ := hrv
  clear hvc hac hrc
  have hfl := fld hb0
  have Hb0 := hid hb0; clear hb0
  have t1 : (c.kind == 1) = false := by rw [hk]; rfl
  have t2 : (c.kind == 2) = false := by rw [hk]; rfl
  have t3 : (c.kind == 3) = false := by rw [hk]; rfl
  have t9 : (c.kind == 9) = true := by rw [hk]; rfl
  have Hk := hid hk; clear hk
  cases d0 : ((c.args.length : Int) == 0) <;> cases d1 : (c.bound == 0)
  all_goals go_enter Tryz.func39, Tryz.ntmps39
  all_goals go_wp2_with fail
  all_goals go_quiet (fail)
  all_goals go_wp2_with fail
  all_goals
    (go_ret; exact ⟨ret_bool (by first | rfl | (simp only [fitsB_3 (Or.inr Hk.out), d0, d1, Bool.and_true, Bool.true_and, Bool.false_and, Bool.and_false]; done) | (simp [fitsB_3 (Or.inr Hk.out), d0, d1]; done)), (hg0.drewN _)⟩)
set_option maxRecDepth 100000 in
set_option maxHeartbeats 800000 in
set_option linter.unusedSimpArgs false in
theorem fits4_c (c : Con) (v : Value) (w : World) (hv : ConV [] w v c) (hk : c.kind = 4) (hkl : c.vars.length ≤ 2000000) :
    Calls Tryz.prog 39 #[v] w fun e w' => e = .returned (.bool (fitsB c)) ∧ Gr [] w w' := by
  obtain ⟨vv, av, rv, rfl, hvv, hav, hrv⟩ := hv
  have hg0 : Gr [] w (w.alloc (.cells #[.int .i64 c.kind, vv, av, .int .i64 c.bound, rv] 26)) := (Gr.refl _ _).alloc _
  have hb0 : (w.alloc (.cells #[.int .i64 c.kind, vv, av, .int .i64 c.bound, rv] 26)).heap[w.heap.size]? = some (.cells #[.int .i64 c.kind, vv, av, .int .i64 c.bound, rv] 26 (0, 0)) := heap_alloc_new _ _
  have Hav := hid (hav.gr hg0); have Hrv := hid (hrv.gr hg0)
  obtain ⟨vo, vc, rfl, ⟨hv1, hv2, _⟩, hvc⟩ := hvv
  obtain ⟨ao, ac, rfl, ⟨ha1, ha2, _⟩, hac⟩ := hav
  obtain ⟨ro, rc, rfl, ⟨hr1, hr2, _⟩, hrc⟩ := hrv
  clear hvc hac hrc
  have hfl := fld hb0
  have Hb0 := hid hb0; clear hb0
  have t1 : (c.kind == 1) = false := by rw [hk]; rfl
  have t2 : (c.kind == 2) = false := by rw [hk]; rfl
  have t3 : (c.kind == 3) = false := by rw [hk]; rfl
  have t9 : (c.kind == 9) = false := by rw [hk]; rfl
  have t4 : (c.kind == 4) = true := by rw [hk]; rfl
  have Hk := hid hk; clear hk
  cases d0 : ((c.vars.length : Int) == 2) <;> cases d1 : (c.bound == 0)
  all_goals go_enter Tryz.func39, Tryz.ntmps39
  all_goals go_wp2_with fail
  all_goals go_quiet (fail)
  all_goals go_wp2_with fail
  all_goals
    first
    | (go_at_call 28
       refine (within_c _ _ _ _).mono ?_
       rintro e w1 ⟨rfl, rfl⟩
       cases h1 : inB 1 6 (c.args.length : Int)
       all_goals go_wp2_with fail
       all_goals
         first
         | (go_at_call 31
            refine (allIn_c c.args 0 5 _ _ (Hav.out.gr ((Gr.refl _ _).drewN _))).mono ?_
            rintro e w2 ⟨rfl, hg2⟩; have hfl2 := fld (Gr.obj (((Gr.refl [] _).drewN _).trans hg2) Hb0.out (by simp))
            cases h2 : allB 0 5 c.args
            all_goals go_wp2_with fail
            all_goals
              (go_ret; exact ⟨ret_bool (by first | rfl | (simp only [fitsB_4 Hk.out, d0, d1, h1, h2, Bool.and_true, Bool.true_and, Bool.false_and, Bool.and_false]; done) | (simp [fitsB_4 Hk.out, d0, d1, h1, h2]; done)), ((hg0.drewN _).trans hg2)⟩))
         | (go_ret; exact ⟨ret_bool (by first | rfl | (simp only [fitsB_4 Hk.out, d0, d1, h1, Bool.and_true, Bool.true_and, Bool.false_and, Bool.and_false]; done) | (simp [fitsB_4 Hk.out, d0, d1, h1]; done)), (hg0.drewN _)⟩))
    | (go_ret; exact ⟨ret_bool (by first | rfl | (simp only [fitsB_4 Hk.out, d0, d1, Bool.and_true, Bool.true_and, Bool.false_and, Bool.and_false]; done) | (simp [fitsB_4 Hk.out, d0, d1]; done)), (hg0.drewN _)⟩)
set_option maxRecDepth 100000 in
set_option maxHeartbeats 800000 in
set_option linter.unusedSimpArgs false in
theorem fits5_c (c : Con) (v : Value) (w : World) (hv : ConV [] w v c) (hk : c.kind = 5) (hkl : c.vars.length ≤ 2000000) :
    Calls Tryz.prog 39 #[v] w fun e w' => e = .returned (.bool (fitsB c)) ∧ Gr [] w w' := by
  obtain ⟨vv, av, rv, rfl, hvv, hav, hrv⟩ := hv
  have hg0 : Gr [] w (w.alloc (.cells #[.int .i64 c.kind, vv, av, .int .i64 c.bound, rv] 26)) := (Gr.refl _ _).alloc _
  have hb0 : (w.alloc (.cells #[.int .i64 c.kind, vv, av, .int .i64 c.bound, rv] 26)).heap[w.heap.size]? = some (.cells #[.int .i64 c.kind, vv, av, .int .i64 c.bound, rv] 26 (0, 0)) := heap_alloc_new _ _
  have Hav := hid (hav.gr hg0); have Hrv := hid (hrv.gr hg0)
  obtain ⟨vo, vc, rfl, ⟨hv1, hv2, _⟩, hvc⟩ := hvv
  obtain ⟨ao, ac, rfl, ⟨ha1, ha2, _⟩, hac⟩ := hav
  obtain ⟨ro, rc, rfl, ⟨hr1, hr2, _⟩, hrc⟩ := hrv
  clear hvc hac hrc
  have hfl := fld hb0
  have Hb0 := hid hb0; clear hb0
  have t1 : (c.kind == 1) = false := by rw [hk]; rfl
  have t2 : (c.kind == 2) = false := by rw [hk]; rfl
  have t3 : (c.kind == 3) = false := by rw [hk]; rfl
  have t9 : (c.kind == 9) = false := by rw [hk]; rfl
  have t4 : (c.kind == 4) = false := by rw [hk]; rfl
  have t5 : (c.kind == 5) = true := by rw [hk]; rfl
  have Hk := hid hk; clear hk
  cases d0 : ((c.args.length : Int) == 0) <;> cases d1 : (c.bound == 0)
  all_goals go_enter Tryz.func39, Tryz.ntmps39
  all_goals go_wp2_with fail
  all_goals go_quiet (fail)
  all_goals go_wp2_with fail
  all_goals
    first
    | (go_at_call 71
       refine (rowsIn_c c.rows (c.vars.length : Int) 0 5 _ _ (Hrv.out.gr ((Gr.refl _ _).drewN _))).mono ?_
       rintro e w1 ⟨rfl, hg1⟩; have hfl1 := fld (Gr.obj (((Gr.refl [] _).drewN _).trans hg1) Hb0.out (by simp))
       cases h1 : rowsInB c.rows (c.vars.length : Int) 0 5
       all_goals go_wp2_with fail
       all_goals
         (go_ret; exact ⟨ret_bool (by first | rfl | (simp only [fitsB_5 Hk.out, d0, d1, h1, Bool.and_true, Bool.true_and, Bool.false_and, Bool.and_false]; done) | (simp [fitsB_5 Hk.out, d0, d1, h1]; done)), ((hg0.drewN _).trans hg1)⟩))
    | (go_ret; exact ⟨ret_bool (by first | rfl | (simp only [fitsB_5 Hk.out, d0, d1, Bool.and_true, Bool.true_and, Bool.false_and, Bool.and_false]; done) | (simp [fitsB_5 Hk.out, d0, d1]; done)), (hg0.drewN _)⟩)
set_option maxRecDepth 100000 in
set_option maxHeartbeats 800000 in
set_option linter.unusedSimpArgs false in
theorem fits6_c (c : Con) (v : Value) (w : World) (hv : ConV [] w v c) (hk : c.kind = 6) (hkl : c.vars.length ≤ 2000000) :
    Calls Tryz.prog 39 #[v] w fun e w' => e = .returned (.bool (fitsB c)) ∧ Gr [] w w' := by
  obtain ⟨vv, av, rv, rfl, hvv, hav, hrv⟩ := hv
  have hg0 : Gr [] w (w.alloc (.cells #[.int .i64 c.kind, vv, av, .int .i64 c.bound, rv] 26)) := (Gr.refl _ _).alloc _
  have hb0 : (w.alloc (.cells #[.int .i64 c.kind, vv, av, .int .i64 c.bound, rv] 26)).heap[w.heap.size]? = some (.cells #[.int .i64 c.kind, vv, av, .int .i64 c.bound, rv] 26 (0, 0)) := heap_alloc_new _ _
  have Hav := hid (hav.gr hg0); have Hrv := hid (hrv.gr hg0)
  obtain ⟨vo, vc, rfl, ⟨hv1, hv2, _⟩, hvc⟩ := hvv
  obtain ⟨ao, ac, rfl, ⟨ha1, ha2, _⟩, hac⟩ := hav
  obtain ⟨ro, rc, rfl, ⟨hr1, hr2, _⟩, hrc⟩ := hrv
  clear hvc hac hrc
  have hfl := fld hb0
  have Hb0 := hid hb0; clear hb0
  have t1 : (c.kind == 1) = false := by rw [hk]; rfl
  have t2 : (c.kind == 2) = false := by rw [hk]; rfl
  have t3 : (c.kind == 3) = false := by rw [hk]; rfl
  have t9 : (c.kind == 9) = false := by rw [hk]; rfl
  have t4 : (c.kind == 4) = false := by rw [hk]; rfl
  have t5 : (c.kind == 5) = false := by rw [hk]; rfl
  have t6 : (c.kind == 6) = true := by rw [hk]; rfl
  have Hk := hid hk; clear hk
  all_goals go_enter Tryz.func39, Tryz.ntmps39
  all_goals go_wp2_with fail
  all_goals go_quiet (fail)
  all_goals go_wp2_with fail
  all_goals
    first
    | (go_at_call 70
       refine (fitsLit_c c _ _ _ 1 0 5 _ _ (Gr.obj ((Gr.refl [] _).drewN _) Hb0.out (by simp)) (Hav.out.gr ((Gr.refl _ _).drewN _))).mono ?_
       rintro e w1 ⟨rfl, hg1⟩; have hfl1 := fld (Gr.obj (((Gr.refl [] _).drewN _).trans hg1) Hb0.out (by simp))
       cases h1 : argsB c 1 0 5
       all_goals go_wp2_with fail
       all_goals
         first
         | (go_at_call 28
            refine (within_c _ _ _ _).mono ?_
            rintro e w2 ⟨rfl, rfl⟩
            cases h2 : inB 0 4 c.bound
            all_goals go_wp2_with fail
            all_goals
              (go_ret; exact ⟨ret_bool (by first | rfl | (simp only [fitsB_6 Hk.out, h1, h2, Bool.and_true, Bool.true_and, Bool.false_and, Bool.and_false]; done) | (simp [fitsB_6 Hk.out, h1, h2]; done)), ((hg0.drewN _).trans hg1)⟩))
         | (go_ret; exact ⟨ret_bool (by first | rfl | (simp only [fitsB_6 Hk.out, h1, Bool.and_true, Bool.true_and, Bool.false_and, Bool.and_false]; done) | (simp [fitsB_6 Hk.out, h1]; done)), ((hg0.drewN _).trans hg1)⟩))
    | (go_ret; exact ⟨ret_bool (by first | rfl | (simp only [fitsB_6 Hk.out, Bool.and_true, Bool.true_and, Bool.false_and, Bool.and_false]; done) | (simp [fitsB_6 Hk.out]; done)), (hg0.drewN _)⟩)
set_option maxRecDepth 100000 in
set_option maxHeartbeats 800000 in
set_option linter.unusedSimpArgs false in
theorem fits7_c (c : Con) (v : Value) (w : World) (hv : ConV [] w v c) (hk : c.kind = 7) (hkl : c.vars.length ≤ 2000000) :
    Calls Tryz.prog 39 #[v] w fun e w' => e = .returned (.bool (fitsB c)) ∧ Gr [] w w' := by
  obtain ⟨vv, av, rv, rfl, hvv, hav, hrv⟩ := hv
  have hg0 : Gr [] w (w.alloc (.cells #[.int .i64 c.kind, vv, av, .int .i64 c.bound, rv] 26)) := (Gr.refl _ _).alloc _
  have hb0 : (w.alloc (.cells #[.int .i64 c.kind, vv, av, .int .i64 c.bound, rv] 26)).heap[w.heap.size]? = some (.cells #[.int .i64 c.kind, vv, av, .int .i64 c.bound, rv] 26 (0, 0)) := heap_alloc_new _ _
  have Hav := hid (hav.gr hg0); have Hrv := hid (hrv.gr hg0)
  obtain ⟨vo, vc, rfl, ⟨hv1, hv2, _⟩, hvc⟩ := hvv
  obtain ⟨ao, ac, rfl, ⟨ha1, ha2, _⟩, hac⟩ := hav
  obtain ⟨ro, rc, rfl, ⟨hr1, hr2, _⟩, hrc⟩ := hrv
  clear hvc hac hrc
  have hfl := fld hb0
  have Hb0 := hid hb0; clear hb0
  have t1 : (c.kind == 1) = false := by rw [hk]; rfl
  have t2 : (c.kind == 2) = false := by rw [hk]; rfl
  have t3 : (c.kind == 3) = false := by rw [hk]; rfl
  have t9 : (c.kind == 9) = false := by rw [hk]; rfl
  have t4 : (c.kind == 4) = false := by rw [hk]; rfl
  have t5 : (c.kind == 5) = false := by rw [hk]; rfl
  have t6 : (c.kind == 6) = false := by rw [hk]; rfl
  have t7 : (c.kind == 7) = true := by rw [hk]; rfl
  have Hk := hid hk; clear hk
  all_goals go_enter Tryz.func39, Tryz.ntmps39
  all_goals go_wp2_with fail
  all_goals go_quiet (fail)
  all_goals go_wp2_with fail
  all_goals
    first
    | (go_at_call 70
       refine (fitsLit_c c _ _ _ (2 * (c.vars.length : Int)) 0 9 _ _ (Gr.obj ((Gr.refl [] _).drewN _) Hb0.out (by simp)) (Hav.out.gr ((Gr.refl _ _).drewN _))).mono ?_
       rintro e w1 ⟨rfl, hg1⟩; have hfl1 := fld (Gr.obj (((Gr.refl [] _).drewN _).trans hg1) Hb0.out (by simp))
       cases h1 : argsB c (2 * (c.vars.length : Int)) 0 9
       all_goals go_wp2_with fail
       all_goals
         first
         | (go_at_call 28
            refine (within_c _ _ _ _).mono ?_
            rintro e w2 ⟨rfl, rfl⟩
            cases h2 : inB 0 9 c.bound
            all_goals go_wp2_with fail
            all_goals
              (go_ret; exact ⟨ret_bool (by first | rfl | (simp only [fitsB_7 Hk.out, h1, h2, Bool.and_true, Bool.true_and, Bool.false_and, Bool.and_false]; done) | (simp [fitsB_7 Hk.out, h1, h2]; done)), ((hg0.drewN _).trans hg1)⟩))
         | (go_ret; exact ⟨ret_bool (by first | rfl | (simp only [fitsB_7 Hk.out, h1, Bool.and_true, Bool.true_and, Bool.false_and, Bool.and_false]; done) | (simp [fitsB_7 Hk.out, h1]; done)), ((hg0.drewN _).trans hg1)⟩))
    | (go_ret; exact ⟨ret_bool (by first | rfl | (simp only [fitsB_7 Hk.out, Bool.and_true, Bool.true_and, Bool.false_and, Bool.and_false]; done) | (simp [fitsB_7 Hk.out]; done)), (hg0.drewN _)⟩)
end Go.Proofs.YtmonhpoogfdpoaaGreat

namespace Go.Proofs.YtmonhpoogfdpoaaGreat
open Go.RowKit

set_option maxRecDepth 100000 in
set_option maxHeartbeats 800000 in
set_option linter.unusedSimpArgs false in
theorem fits8_c (c : Con) (v : Value) (w : World) (hv : ConV [] w v c) (hk : c.kind = 8) (hkl : c.vars.length ≤ 2000000) :
    Calls Tryz.prog 39 #[v] w fun e w' => e = .returned (.bool (fitsB c)) ∧ Gr [] w w' := by
  obtain ⟨vv, av, rv, rfl, hvv, hav, hrv⟩ := hv
  have hg0 : Gr [] w (w.alloc (.cells #[.int .i64 c.kind, vv, av, .int .i64 c.bound, rv] 26)) := (Gr.refl _ _).alloc _
  have hb0 : (w.alloc (.cells #[.int .i64 c.kind, vv, av, .int .i64 c.bound, rv] 26)).heap[w.heap.size]? = some (.cells #[.int .i64 c.kind, vv, av, .int .i64 c.bound, rv] 26 (0, 0)) := heap_alloc_new _ _
  have Hav := hid (hav.gr hg0); have Hrv := hid (hrv.gr hg0)
  obtain ⟨vo, vc, rfl, ⟨hv1, hv2, _⟩, hvc⟩ := hvv
  obtain ⟨ao, ac, rfl, ⟨ha1, ha2, _⟩, hac⟩ := hav
  obtain ⟨ro, rc, rfl, ⟨hr1, hr2, _⟩, hrc⟩ := hrv
  clear hvc hac hrc
  have hfl := fld hb0
  have Hb0 := hid hb0; clear hb0
  have t1 : (c.kind == 1) = false := by rw [hk]; rfl
  have t2 : (c.kind == 2) = false := by rw [hk]; rfl
  have t3 : (c.kind == 3) = false := by rw [hk]; rfl
  have t9 : (c.kind == 9) = false := by rw [hk]; rfl
  have t4 : (c.kind == 4) = false := by rw [hk]; rfl
  have t5 : (c.kind == 5) = false := by rw [hk]; rfl
  have t6 : (c.kind == 6) = false := by rw [hk]; rfl
  have t7 : (c.kind == 7) = false := by rw [hk]; rfl
  have t8 : (c.kind == 8) = true := by rw [hk]; rfl
  have Hk := hid hk; clear hk
  all_goals go_enter Tryz.func39, Tryz.ntmps39
  all_goals go_wp2_with fail
  all_goals go_quiet (fail)
  all_goals go_wp2_with fail
  all_goals
    first
    | (go_at_call 71
       refine (rowsIn_c c.rows 6 (-1) ((c.rows.length : Int) - 1) _ _ (Hrv.out.gr ((Gr.refl _ _).drewN _))).mono ?_
       rintro e w1 ⟨rfl, hg1⟩; have hfl1 := fld (Gr.obj (((Gr.refl [] _).drewN _).trans hg1) Hb0.out (by simp))
       cases h1 : rowsInB c.rows 6 (-1) ((c.rows.length : Int) - 1)
       all_goals go_wp2_with fail
       all_goals
         first
         | (go_at_call 38
            refine (distinct_c c.args _ _ ((Hav.out.gr ((Gr.refl _ _).drewN _)).gr hg1)).mono ?_
            rintro e w2 ⟨rfl, hg2⟩; have hfl2 := fld (Gr.obj ((((Gr.refl [] _).drewN _).trans hg1).trans hg2) Hb0.out (by simp))
            cases h2 : distinctB c.args
            all_goals go_wp2_with fail
            all_goals
              first
              | (go_at_call 31
                 refine (allIn_c c.args 0 ((c.rows.length : Int) - 1) _ _ (((Hav.out.gr ((Gr.refl _ _).drewN _)).gr hg1).gr hg2)).mono ?_
                 rintro e w3 ⟨rfl, hg3⟩; have hfl3 := fld (Gr.obj (((((Gr.refl [] _).drewN _).trans hg1).trans hg2).trans hg3) Hb0.out (by simp))
                 cases h3 : allB 0 ((c.rows.length : Int) - 1) c.args
                 all_goals go_wp2_with fail
                 all_goals
                   (go_ret; exact ⟨ret_bool (by first | rfl | (simp only [fitsB_8 Hk.out, h1, h2, h3, Bool.and_true, Bool.true_and, Bool.false_and, Bool.and_false]; done) | (simp [fitsB_8 Hk.out, h1, h2, h3]; done)), ((((hg0.drewN _).trans hg1).trans hg2).trans hg3)⟩))
              | (go_ret; exact ⟨ret_bool (by first | rfl | (simp only [fitsB_8 Hk.out, h1, h2, Bool.and_true, Bool.true_and, Bool.false_and, Bool.and_false]; done) | (simp [fitsB_8 Hk.out, h1, h2]; done)), (((hg0.drewN _).trans hg1).trans hg2)⟩))
         | (go_ret; exact ⟨ret_bool (by first | rfl | (simp only [fitsB_8 Hk.out, h1, Bool.and_true, Bool.true_and, Bool.false_and, Bool.and_false]; done) | (simp [fitsB_8 Hk.out, h1]; done)), ((hg0.drewN _).trans hg1)⟩))
    | (go_ret; exact ⟨ret_bool (by first | rfl | (simp only [fitsB_8 Hk.out, Bool.and_true, Bool.true_and, Bool.false_and, Bool.and_false]; done) | (simp [fitsB_8 Hk.out]; done)), (hg0.drewN _)⟩)
end Go.Proofs.YtmonhpoogfdpoaaGreat

namespace Go.Proofs.YtmonhpoogfdpoaaGreat
open Go.RowKit

theorem fits0_c (c : Con) (v : Value) (w : World) (hv : ConV [] w v c) (hk : ¬ (1 ≤ c.kind ∧ c.kind ≤ 9)) :
    Calls Tryz.prog 39 #[v] w fun e w' => e = .returned (.bool (fitsB c)) ∧ Gr [] w w' := by
  obtain ⟨vv, av, rv, rfl, hvv, hav, hrv⟩ := hv
  have hg0 : Gr [] w (w.alloc (.cells #[.int .i64 c.kind, vv, av, .int .i64 c.bound, rv] 26)) := (Gr.refl _ _).alloc _
  have hb0 : (w.alloc (.cells #[.int .i64 c.kind, vv, av, .int .i64 c.bound, rv] 26)).heap[w.heap.size]? = some (.cells #[.int .i64 c.kind, vv, av, .int .i64 c.bound, rv] 26 (0, 0)) := heap_alloc_new _ _
  obtain ⟨vo, vc, rfl, ⟨hv1, hv2, _⟩, hvc⟩ := hvv
  obtain ⟨ao, ac, rfl, ⟨ha1, ha2, _⟩, hac⟩ := hav
  obtain ⟨ro, rc, rfl, ⟨hr1, hr2, _⟩, hrc⟩ := hrv
  clear hvc hac hrc
  have hfl := fld hb0
  clear hb0
  have t1 : (c.kind == 1) = false := by rw [beq_eq_false_iff_ne]; omega
  have t2 : (c.kind == 2) = false := by rw [beq_eq_false_iff_ne]; omega
  have t3 : (c.kind == 3) = false := by rw [beq_eq_false_iff_ne]; omega
  have t4 : (c.kind == 4) = false := by rw [beq_eq_false_iff_ne]; omega
  have t5 : (c.kind == 5) = false := by rw [beq_eq_false_iff_ne]; omega
  have t6 : (c.kind == 6) = false := by rw [beq_eq_false_iff_ne]; omega
  have t7 : (c.kind == 7) = false := by rw [beq_eq_false_iff_ne]; omega
  have t8 : (c.kind == 8) = false := by rw [beq_eq_false_iff_ne]; omega
  have t9 : (c.kind == 9) = false := by rw [beq_eq_false_iff_ne]; omega
  have Hk := hid hk; clear hk
  go_enter Tryz.func39, Tryz.ntmps39
  go_wp2_with fail
  go_quiet (fail)
  go_wp2_with fail
  go_ret
  exact ⟨ret_bool (fitsB_0 Hk.out).symm, hg0.drewN _⟩

theorem fits_c (c : Con) (v : Value) (w : World) (hv : ConV [] w v c) (hkl : c.vars.length ≤ 2000000) :
    Calls Tryz.prog 39 #[v] w fun e w' => e = .returned (.bool (fitsB c)) ∧ Gr [] w w' := by
  by_cases h0 : 1 ≤ c.kind ∧ c.kind ≤ 9
  · have : c.kind = 1 ∨ c.kind = 2 ∨ c.kind = 3 ∨ c.kind = 4 ∨ c.kind = 5 ∨ c.kind = 6 ∨ c.kind = 7 ∨ c.kind = 8 ∨ c.kind = 9 := by omega
    rcases this with h | h | h | h | h | h | h | h | h
    · exact fits1_c c v w hv h hkl
    · exact fits2_c c v w hv h hkl
    · exact fits3_c c v w hv h hkl
    · exact fits4_c c v w hv h hkl
    · exact fits5_c c v w hv h hkl
    · exact fits6_c c v w hv h hkl
    · exact fits7_c c v w hv h hkl
    · exact fits8_c c v w hv h hkl
    · exact fits9_c c v w hv h hkl
  · exact fits0_c c v w hv h0

theorem ValidConstraint_c (c : Con) (n : Int) (v : Value) (w : World) (hv : ConV [] w v c) :
    Calls Tryz.prog 17 #[v, .int .i64 n] w fun e w' => e = .returned (.bool (validCon c n)) ∧ Gr [] w w' := by
  obtain ⟨vv, av, rv, rfl, hvv, hav, hrv⟩ := hv
  have hg0 : Gr [] w (w.alloc (.cells #[.int .i64 c.kind, vv, av, .int .i64 c.bound, rv] 26)) := (Gr.refl _ _).alloc _
  have hb0 : (w.alloc (.cells #[.int .i64 c.kind, vv, av, .int .i64 c.bound, rv] 26)).heap[w.heap.size]? = some (.cells #[.int .i64 c.kind, vv, av, .int .i64 c.bound, rv] 26 (0, 0)) := heap_alloc_new _ _
  have Hvv := hid (hvv.gr hg0)
  have Hcv : Hid (ConV [] w (.agg #[.int .i64 c.kind, vv, av, .int .i64 c.bound, rv]) c) := hid ⟨vv, av, rv, rfl, hvv, hav, hrv⟩
  clear hav hrv
  obtain ⟨vo, vc, rfl, ⟨hv1, hv2, _⟩, hvc⟩ := hvv
  clear hvc
  have hfl := fld hb0
  have Hb0 := hid hb0; clear hb0
  go_enter Tryz.func17, Tryz.ntmps17
  go_wp2_with fail
  refine (within_c _ _ _ _).mono ?_
  rintro e w1 ⟨rfl, rfl⟩
  cases h1 : inB 1 4 n
  · go_wp2_with fail
    go_ret
    exact ⟨ret_bool (by simp [validCon, h1]), hg0⟩
  have hn := inB_iff.1 h1
  go_wp2_with fail
  refine (within_c _ _ _ _).mono ?_
  rintro e w1 ⟨rfl, rfl⟩
  cases h2 : inB 1 n c.vars.length
  · go_wp2_with fail
    go_ret
    exact ⟨ret_bool (by simp [validCon, validConS, h1, h2]), hg0⟩
  go_wp2_with fail
  refine (allIn_c c.vars 0 (n - 1) _ _ Hvv.out).mono ?_
  rintro e w2 ⟨rfl, hg2⟩
  have hfl2 := fld (hg2.obj Hb0.out (by simp))
  cases h3 : allB 0 (n - 1) c.vars
  · go_wp2_with fail
    go_ret
    exact ⟨ret_bool (by simp [validCon, validConS, h1, h2, h3]), hg0.trans hg2⟩
  go_wp2_with fail
  refine (distinct_c c.vars _ _ (Hvv.out.gr hg2)).mono ?_
  rintro e w3 ⟨rfl, hg3⟩
  have hfl3 := fld ((hg2.trans hg3).obj Hb0.out (by simp))
  cases h4 : distinctB c.vars
  · go_wp2_with fail
    go_ret
    exact ⟨ret_bool (by simp [validCon, validConS, h1, h2, h3, h4]), (hg0.trans hg2).trans hg3⟩
  go_wp2_with fail
  have hn2 := inB_iff.1 h2
  refine (fits_c c _ _ (((Hcv.out.gr hg0).gr hg2).gr hg3) (by omega)).mono ?_
  rintro e w4 ⟨rfl, hg4⟩
  go_wp2_with fail
  go_ret
  exact ⟨ret_bool (by simp [validCon, validConS, h1, h2, h3, h4]), ((hg0.trans hg2).trans hg3).trans hg4⟩
end Go.Proofs.YtmonhpoogfdpoaaGreat

namespace Go.Proofs.YtmonhpoogfdpoaaGreat
open Go.RowKit

/-- The closure of ValidModel: block b holds the model. -/
theorem ValidModelLit_c (c : Con) (ds : List Int) (cv dv xv : Value) (b : Nat) (w : World) (hv : ConV [] w cv c) (hb : w.heap[b]? = some (.cells #[dv, xv] 40 (0, 0))) (hd : Nums [] w .i64 dv ds) :
    Calls Tryz.prog 63 #[cv, .pointer (some ⟨b, 0, none⟩)] w fun e w' => e = .returned (.bool (!validCon c ds.length)) ∧ Gr [] w w' := by
  have hblt := lt_of_block hb
  obtain ⟨vv, av, rv, rfl, hvv, hav, hrv⟩ := hv
  have hg0 : Gr [] w (w.alloc (.cells #[.int .i64 c.kind, vv, av, .int .i64 c.bound, rv] 26)) := (Gr.refl _ _).alloc _
  have hb0 : (w.alloc (.cells #[.int .i64 c.kind, vv, av, .int .i64 c.bound, rv] 26)).heap[w.heap.size]? = some (.cells #[.int .i64 c.kind, vv, av, .int .i64 c.bound, rv] 26 (0, 0)) := heap_alloc_new _ _
  have Hcv : Hid (ConV [] w (.agg #[.int .i64 c.kind, vv, av, .int .i64 c.bound, rv]) c) := hid ⟨vv, av, rv, rfl, hvv, hav, hrv⟩
  clear hvv hav hrv
  obtain ⟨xo, xc, rfl, ⟨hd1, hd2, _⟩, hdc⟩ := hd
  clear hdc
  have hfl := fld hb0
  have hfm := fld (hg0.obj hb (by simp))
  clear hb hb0
  go_enter Tryz.func63, Tryz.ntmps63
  go_wp2_with fail
  refine (ValidConstraint_c c _ _ _ (Hcv.out.gr hg0)).mono ?_
  rintro e w1 ⟨rfl, hg1⟩
  go_wp2_with fail
  go_ret
  exact ⟨rfl, hg0.trans hg1⟩

theorem ValidModel_c (m : Mod) (v : Value) (w : World) (hv : ModV [] w v m) :
    Calls Tryz.prog 32 #[v] w fun e w' => e = .returned (.bool (validM m)) ∧ Gr [] w w' := by
  obtain ⟨dv, cv, rfl, hd, hc⟩ := hv
  have hg0 : Gr [] w (w.alloc (.cells #[dv, cv] 40)) := (Gr.refl _ _).alloc _
  have hb0 : (w.alloc (.cells #[dv, cv] 40)).heap[w.heap.size]? = some (.cells #[dv, cv] 40 (0, 0)) := heap_alloc_new _ _
  have Hd := hid (hd.gr hg0); have Hc := hid (hc.gr hg0)
  obtain ⟨ao, ac, rfl, ⟨hc1, hc2, _⟩, hcc⟩ := hc
  clear hcc hd
  have hfl := fld hb0
  have Hb0 := hid hb0; clear hb0
  go_enter Tryz.func32, Tryz.ntmps32
  go_wp2_with fail
  refine (domainsOk_c m.doms _ _ Hd.out).mono ?_
  rintro e w1 ⟨rfl, hg1⟩
  have hb1 := hg1.obj Hb0.out (by simp)
  have hfl1 := fld hb1
  have Hb1 := hid hb1; clear hb1
  cases h1 : domsOk m.doms
  · go_wp2_with fail
    go_ret
    exact ⟨ret_bool (by simp [validM, h1]), hg0.trans hg1⟩
  by_cases h2 : m.cons.length ≤ 6
  · have h2' : inB 0 6 m.cons.length = true := inB_iff.2 (by omega)
    go_wp2_with fail
    refine (containsCon_c m.cons (fun c => !validCon c m.doms.length) _ 63 _ _ (Hc.out.gr hg1) (fun _ _ => by kernel_rfl) ?_).mono ?_
    · intro c cv w2 _ hg2 hcv
      exact ValidModelLit_c c m.doms cv _ _ _ w2 hcv (hg2.obj Hb1.out (by simp)) ((Hd.out.gr hg1).gr hg2)
    rintro e w2 ⟨rfl, hg2⟩
    go_wp2_with fail
    go_ret
    exact ⟨ret_bool (by simp only [validM, h1, h2', anyG, Bool.true_and]; rw [List.all_eq_not_any_not]), (hg0.trans hg1).trans hg2⟩
  · have h2' : inB 0 6 m.cons.length = false := by
      cases h : inB 0 6 m.cons.length
      · rfl
      · have := inB_iff.1 h; omega
    go_wp2_with fail
    go_ret
    exact ⟨ret_bool (by simp [validM, h1, h2']), hg0.trans hg1⟩

theorem validDomain_c (d : Int) (w : World) :
    Calls Tryz.prog 48 #[.int .i64 d] w fun e w' => e = .returned (.bool (inB 0 63 d)) ∧ w' = w := by
  go_enter Tryz.func48, Tryz.ntmps48
  go_wp2_with fail
  refine (inRange_c _ _ _ _).mono ?_
  rintro e w1 ⟨rfl, rfl⟩
  go_wp2_with fail
  go_ret
  exact ⟨rfl, rfl⟩

theorem specDistinct_c (xs : List Int) (v : Value) (w : World) (hv : Nums [] w .i64 v xs) :
    Calls Tryz.prog 51 #[v] w fun e w' => e = .returned (.bool (distinctB xs)) ∧ Gr [] w w' := by
  obtain ⟨ao, cap, rfl, ⟨hlc, hcm, _⟩, hc⟩ := hv
  have hlen : xs.length ≤ 9223372036854775807 := by omega
  have Hc := hid hc; clear hc
  go_enter Tryz.func51, Tryz.ntmps51
  go_wp2_with fail
  go_loopw [3] (fun i wr => ∃ n : Nat, n ≤ xs.length ∧ i = .int .i64 n ∧ (∀ (j : Nat) x, j < n → xs[j]? = some x → memB x (xs.take j) = false) ∧ Gr [] w wr) (fun i _ => xs.length - (intOf i).toNat)
  case atStart => exact ⟨0, Nat.zero_le _, rfl, by intro j x hj; omega, Gr.refl _ _⟩
  case round =>
    obtain ⟨n, hn, rfl, hp, hg⟩ := hrel
    have HP := hid hp; clear hp
    by_cases hlt : n < xs.length
    · obtain ⟨x, hx⟩ := get_some hlt
      obtain ⟨wo, hwo⟩ : ∃ wo : World, wo = wr := ⟨_, rfl⟩
      have HX := hid hx; clear hx
      have hg' := hg; rw [← hwo] at hg'
      have Hg := hid hg; clear hg
      subst hwo
      clear hg'
      go_wp2_with fail
      go_loopw [4] (fun i wr => ∃ k : Nat, k ≤ n ∧ i = .int .i64 k ∧ (∀ (j : Nat) y, j < k → xs[j]? = some y → eqI x y = false) ∧ Gr [] w wr) (fun i _ => n - (intOf i).toNat)
      case atStart => exact ⟨0, Nat.zero_le _, rfl, by intro j x hj; omega, Hg.out⟩
      case round =>
        obtain ⟨k, hk, rfl, hq, hg⟩ := hrel
        have HQ := hid hq; clear hq
        by_cases hkl : k < n
        · obtain ⟨y, hy⟩ := get_some (show k < xs.length by omega)
          have hcr := Hc.out.gr hg
          obtain ⟨b, o, rfl, _, h0⟩ := hcr n x HX.out
          obtain ⟨b', o', he, _, h1⟩ := hcr k y hy
          obtain ⟨rfl, rfl⟩ : b' = b ∧ o' = o := by simpa [eq_comm] using he
          have HY := hid hy; clear hy he hcr
          have hkx : k < xs.length := by omega
          cases hxy : (x == y)
          · go_wp2_with fail
            go_quiet (fail)
            go_wp2_with fail
            refine ⟨⟨k + 1, by omega, by go_num, below_snoc HQ.out HY.out (by simpa [eqI] using hxy), hg.drewN _⟩, by simp [intOf]; omega⟩
          · go_wp2_with fail
            go_quiet (fail)
            go_wp2_with fail
            go_ret
            refine ⟨ret_bool (not_nodup HX.out ?_).symm, hg.drewN _⟩
            have e : x = y := by simpa using hxy
            simp only [memB, decide_eq_true_eq]
            rw [e]
            obtain ⟨hk', e'⟩ := List.getElem?_eq_some_iff.1 HY.out
            exact List.mem_take_iff_getElem.2 ⟨k, by omega, e'⟩
        · go_wp2_with fail
          refine ⟨⟨n + 1, by omega, by go_num, ?_, hg⟩, by simp [intOf]; omega⟩
          intro j y hj hy
          by_cases e : j = n
          · subst e
            rw [HX.out] at hy; cases hy
            simp only [memB, decide_eq_false_iff_not]
            intro hm
            obtain ⟨i, hi, e⟩ := List.mem_take_iff_getElem.1 hm
            have := HQ.out i _ (by omega) (List.getElem?_eq_getElem (by omega))
            simp [eqI, e] at this
          · exact HP.out j y (by omega) hy
    · go_wp2_with fail
      go_ret
      exact ⟨ret_bool (nodup_of (fun j x hj => HP.out j x (by omega))).symm, hg⟩

theorem validRows_c (rows : List (List Int)) (many lo hi : Int) (v : Value) (w : World) (hv : RowsV [] w v rows) :
    Calls Tryz.prog 52 #[v, .int .i64 many, .int .i64 lo, .int .i64 hi] w fun e w' => e = .returned (.bool (rowsInB rows many lo hi)) ∧ Gr [] w w' := by
  obtain ⟨ao, cap, rfl, ⟨hlc, hcm, _⟩, hc⟩ := hv
  have hlen : rows.length ≤ 9223372036854775807 := by omega
  have Hc := hid hc; clear hc
  go_enter Tryz.func52, Tryz.ntmps52
  go_wp2_with fail
  go_loopw [9] (fun i wr => ∃ n : Nat, n ≤ rows.length ∧ i = .int .i64 n ∧ (∀ (j : Nat) r, j < n → rows[j]? = some r → (!rowOk many lo hi r) = false) ∧ Gr [] w wr) (fun i _ => rows.length - (intOf i).toNat)
  case atStart => exact ⟨0, Nat.zero_le _, rfl, by intro j x hj; omega, Gr.refl _ _⟩
  case round =>
    obtain ⟨n, hn, rfl, hp, hg⟩ := hrel
    have HP := hid hp; clear hp
    by_cases hlt : n < rows.length
    · obtain ⟨r, hx⟩ := get_some hlt
      obtain ⟨b, o, rv, rfl, _, h0, hrv⟩ := (Hc.out.gr hg) n r hx
      have HX := hid hx; clear hx
      have Hrv := hid hrv
      obtain ⟨ro, rc, rfl, ⟨hr1, hr2, _⟩, hrc⟩ := hrv
      clear hrc
      have bad : rowOk many lo hi r = false → rowsInB rows many lo hi = false := by
        intro hr
        simp only [rowsInB]
        rw [List.all_eq_not_any_not, List.any_eq_true.2 ⟨r, List.mem_of_getElem? HX.out, by simp [hr]⟩]
        simp
      have Bad := hid bad; clear bad
      cases hb : ((r.length : Int) != many)
      · have he : eqI r.length many = true := by simpa [eqI] using hb
        go_wp2_with fail
        refine (allInRange_c r lo hi _ _ Hrv.out).mono ?_
        rintro e w2 ⟨rfl, hg2⟩
        cases ha : allB lo hi r
        · go_wp2_with fail
          go_ret
          exact ⟨ret_bool (Bad.out (by simp [rowOk, he, ha])).symm, hg.trans hg2⟩
        · go_wp2_with fail
          exact ⟨⟨n + 1, by omega, by go_num, below_snoc HP.out HX.out (by simp [rowOk, he, ha]), hg.trans hg2⟩, by simp [intOf]; omega⟩
      · have he : eqI r.length many = false := by simpa [eqI] using hb
        go_wp2_with fail
        go_ret
        exact ⟨ret_bool (Bad.out (by simp [rowOk, he])).symm, hg⟩
    · go_wp2_with fail
      refine (inRange_c _ _ _ _).mono ?_
      rintro e w1 ⟨rfl, rfl⟩
      go_wp2_with fail
      go_ret
      refine ⟨ret_bool ?_, hg⟩
      have := anyG_false (p := fun r => !rowOk many lo hi r) (xs := rows) (fun j x hj => HP.out j x (by omega))
      simp only [anyG] at this
      simp only [rowsInB]
      rw [List.all_eq_not_any_not, this]
      simp
end Go.Proofs.YtmonhpoogfdpoaaGreat
