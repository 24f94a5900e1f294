/-
  The walk of the reference's check of a constraint: kinds 8.
  Walks: the reference's check of a constraint, of domains, of a model.
-/
import Derived.Test.YtmonhpoogfdpoaaGreatXCF
import Derived.Test.YtmonhpoogfdpoaaGreatXVaVb
import Derived.Test.YtmonhpoogfdpoaaGreatXVcVd
set_option linter.unusedVariables false
namespace Go.Proofs.YtmonhpoogfdpoaaGreat
open Go.RowKit

set_option maxRecDepth 100000 in
set_option maxHeartbeats 1600000 in
set_option linter.unusedSimpArgs false in
theorem vc8_c (c : Con) (n : Int) (v : Value) (w : World) (hv : ConV [] w v c) (hk : c.kind = 8) (hkl : c.vars.length ≤ 2000000) (hn : 0 ≤ n ∧ n ≤ 1000000000) :
    Calls Tryz.prog 23 #[v, .int .i64 n] w fun e w' => e = .returned (.bool (validConS c n)) ∧ Gr [] w w' := by
  obtain ⟨vv, av, rv, rfl, hvv, hav, hrv⟩ := hv
  have hg0 : Gr [] w (w.alloc (.cells #[.int .i64 c.kind, vv, av, .int .i64 c.bound, rv] 26)) := (Gr.refl _ _).alloc _
  have hb0 : (w.alloc (.cells #[.int .i64 c.kind, vv, av, .int .i64 c.bound, rv] 26)).heap[w.heap.size]? = some (.cells #[.int .i64 c.kind, vv, av, .int .i64 c.bound, rv] 26 (0, 0)) := heap_alloc_new _ _
  have Hvv := hid (hvv.gr hg0); have Hav := hid (hav.gr hg0); have Hrv := hid (hrv.gr hg0)
  obtain ⟨vo, vc, rfl, ⟨hv1, hv2, _⟩, hvc⟩ := hvv
  obtain ⟨ao, ac, rfl, ⟨ha1, ha2, _⟩, hac⟩ := hav
  obtain ⟨ro, rc, rfl, ⟨hr1, hr2, _⟩, hrc⟩ := hrv
  clear hvc hac hrc
  have hfl := fld hb0
  have Hb0 := hid hb0; clear hb0
  have t1 : (c.kind == 1) = false := by rw [hk]; rfl
  have t2 : (c.kind == 2) = false := by rw [hk]; rfl
  have t3 : (c.kind == 3) = false := by rw [hk]; rfl
  have t9 : (c.kind == 9) = false := by rw [hk]; rfl
  have t4 : (c.kind == 4) = false := by rw [hk]; rfl
  have t5 : (c.kind == 5) = false := by rw [hk]; rfl
  have t6 : (c.kind == 6) = false := by rw [hk]; rfl
  have t7 : (c.kind == 7) = false := by rw [hk]; rfl
  have t8 : (c.kind == 8) = true := by rw [hk]; rfl
  have Hk := hid hk; clear hk
  cases d0 : (c.bound == 0)
  all_goals go_enter Tryz.func23, Tryz.ntmps23
  all_goals go_wp2_with fail
  all_goals
    first
    | (go_at_call 49
       refine (inRange_c _ _ _ _).mono ?_
       rintro e w1 ⟨rfl, rfl⟩
       cases h1 : inB 1 n c.vars.length
       all_goals go_wp2_with fail
       all_goals
         first
         | (go_at_call 50
            refine (allInRange_c c.vars 0 (n - 1) _ _ Hvv.out).mono ?_
            rintro e w2 ⟨rfl, hg2⟩; have hfl2 := fld (Gr.obj ((Gr.refl [] _).trans hg2) Hb0.out (by simp))
            cases h2 : allB 0 (n - 1) c.vars
            all_goals go_wp2_with fail
            all_goals
              first
              | (go_at_call 51
                 refine (specDistinct_c c.vars _ _ (Hvv.out.gr hg2)).mono ?_
                 rintro e w3 ⟨rfl, hg3⟩; have hfl3 := fld (Gr.obj (((Gr.refl [] _).trans hg2).trans hg3) Hb0.out (by simp))
                 cases h3 : distinctB c.vars
                 all_goals go_wp2_with fail
                 all_goals
                   first
                   | (go_at_call 52
                      refine (validRows_c c.rows 6 (-1) ((c.rows.length : Int) - 1) _ _ ((Hrv.out.gr hg2).gr hg3)).mono ?_
                      rintro e w4 ⟨rfl, hg4⟩; have hfl4 := fld (Gr.obj ((((Gr.refl [] _).trans hg2).trans hg3).trans hg4) Hb0.out (by simp))
                      cases h4 : rowsInB c.rows 6 (-1) ((c.rows.length : Int) - 1)
                      all_goals go_wp2_with fail
                      all_goals
                        first
                        | (go_at_call 50
                           refine (allInRange_c c.args 0 ((c.rows.length : Int) - 1) _ _ (((Hav.out.gr hg2).gr hg3).gr hg4)).mono ?_
                           rintro e w5 ⟨rfl, hg5⟩; have hfl5 := fld (Gr.obj (((((Gr.refl [] _).trans hg2).trans hg3).trans hg4).trans hg5) Hb0.out (by simp))
                           cases h5 : allB 0 ((c.rows.length : Int) - 1) c.args
                           all_goals go_wp2_with fail
                           all_goals
                             first
                             | (go_at_call 51
                                refine (specDistinct_c c.args _ _ ((((Hav.out.gr hg2).gr hg3).gr hg4).gr hg5)).mono ?_
                                rintro e w6 ⟨rfl, hg6⟩; have hfl6 := fld (Gr.obj ((((((Gr.refl [] _).trans hg2).trans hg3).trans hg4).trans hg5).trans hg6) Hb0.out (by simp))
                                cases h6 : distinctB c.args
                                all_goals go_wp2_with fail
                                all_goals
                                  (go_ret; exact ⟨ret_bool (by first | rfl | (simp only [validConS, fitsB_8 Hk.out, argsB, eqI, d0, h1, h2, h3, h4, h5, h6, Bool.and_true, Bool.true_and, Bool.false_and, Bool.and_false]; done) | (simp [validConS, fitsB_8 Hk.out, argsB, eqI, d0, h1, h2, h3, h4, h5, h6]; done)), (((((hg0.trans hg2).trans hg3).trans hg4).trans hg5).trans hg6)⟩))
                             | (go_ret; exact ⟨ret_bool (by first | rfl | (simp only [validConS, fitsB_8 Hk.out, argsB, eqI, d0, h1, h2, h3, h4, h5, Bool.and_true, Bool.true_and, Bool.false_and, Bool.and_false]; done) | (simp [validConS, fitsB_8 Hk.out, argsB, eqI, d0, h1, h2, h3, h4, h5]; done)), ((((hg0.trans hg2).trans hg3).trans hg4).trans hg5)⟩))
                        | (go_ret; exact ⟨ret_bool (by first | rfl | (simp only [validConS, fitsB_8 Hk.out, argsB, eqI, d0, h1, h2, h3, h4, Bool.and_true, Bool.true_and, Bool.false_and, Bool.and_false]; done) | (simp [validConS, fitsB_8 Hk.out, argsB, eqI, d0, h1, h2, h3, h4]; done)), (((hg0.trans hg2).trans hg3).trans hg4)⟩))
                   | (go_ret; exact ⟨ret_bool (by first | rfl | (simp only [validConS, fitsB_8 Hk.out, argsB, eqI, d0, h1, h2, h3, Bool.and_true, Bool.true_and, Bool.false_and, Bool.and_false]; done) | (simp [validConS, fitsB_8 Hk.out, argsB, eqI, d0, h1, h2, h3]; done)), ((hg0.trans hg2).trans hg3)⟩))
              | (go_ret; exact ⟨ret_bool (by first | rfl | (simp only [validConS, fitsB_8 Hk.out, argsB, eqI, d0, h1, h2, Bool.and_true, Bool.true_and, Bool.false_and, Bool.and_false]; done) | (simp [validConS, fitsB_8 Hk.out, argsB, eqI, d0, h1, h2]; done)), (hg0.trans hg2)⟩))
         | (go_ret; exact ⟨ret_bool (by first | rfl | (simp only [validConS, fitsB_8 Hk.out, argsB, eqI, d0, h1, Bool.and_true, Bool.true_and, Bool.false_and, Bool.and_false]; done) | (simp [validConS, fitsB_8 Hk.out, argsB, eqI, d0, h1]; done)), hg0⟩))
    | (go_ret; exact ⟨ret_bool (by first | rfl | (simp only [validConS, fitsB_8 Hk.out, argsB, eqI, d0, Bool.and_true, Bool.true_and, Bool.false_and, Bool.and_false]; done) | (simp [validConS, fitsB_8 Hk.out, argsB, eqI, d0]; done)), hg0⟩)
end Go.Proofs.YtmonhpoogfdpoaaGreat

set_option linter.unusedVariables false
namespace Go.Proofs.YtmonhpoogfdpoaaGreat
open Go.RowKit

set_option maxRecDepth 100000 in
set_option maxHeartbeats 800000 in
theorem vc0_c (c : Con) (n : Int) (v : Value) (w : World) (hv : ConV [] w v c) (hk : ¬ (1 ≤ c.kind ∧ c.kind ≤ 9)) (hn : 0 ≤ n ∧ n ≤ 1000000000) :
    Calls Tryz.prog 23 #[v, .int .i64 n] w fun e w' => e = .returned (.bool (validConS c n)) ∧ Gr [] w w' := by
  obtain ⟨vv, av, rv, rfl, hvv, hav, hrv⟩ := hv
  have hg0 : Gr [] w (w.alloc (.cells #[.int .i64 c.kind, vv, av, .int .i64 c.bound, rv] 26)) := (Gr.refl _ _).alloc _
  have hb0 : (w.alloc (.cells #[.int .i64 c.kind, vv, av, .int .i64 c.bound, rv] 26)).heap[w.heap.size]? = some (.cells #[.int .i64 c.kind, vv, av, .int .i64 c.bound, rv] 26 (0, 0)) := heap_alloc_new _ _
  have Hvv := hid (hvv.gr hg0)
  obtain ⟨vo, vc, rfl, ⟨hv1, hv2, _⟩, hvc⟩ := hvv
  clear hvc hav hrv
  have hfl := fld hb0
  have Hb0 := hid hb0; clear hb0
  have t1 : (c.kind == 1) = false := by rw [beq_eq_false_iff_ne]; omega
  have t2 : (c.kind == 2) = false := by rw [beq_eq_false_iff_ne]; omega
  have t3 : (c.kind == 3) = false := by rw [beq_eq_false_iff_ne]; omega
  have t4 : (c.kind == 4) = false := by rw [beq_eq_false_iff_ne]; omega
  have t5 : (c.kind == 5) = false := by rw [beq_eq_false_iff_ne]; omega
  have t6 : (c.kind == 6) = false := by rw [beq_eq_false_iff_ne]; omega
  have t7 : (c.kind == 7) = false := by rw [beq_eq_false_iff_ne]; omega
  have t8 : (c.kind == 8) = false := by rw [beq_eq_false_iff_ne]; omega
  have t9 : (c.kind == 9) = false := by rw [beq_eq_false_iff_ne]; omega
  have hF : validConS c n = false := by simp [validConS, fitsB_0 hk]
  have HF := hid hF; clear hF hk
  go_enter Tryz.func23, Tryz.ntmps23
  go_wp2_with fail
  refine (inRange_c _ _ _ _).mono ?_
  rintro e w1 ⟨rfl, rfl⟩
  cases h1 : inB 1 n c.vars.length
  · go_wp2_with fail
    go_ret
    exact ⟨ret_bool HF.out.symm, hg0⟩
  go_wp2_with fail
  refine (allInRange_c c.vars 0 (n - 1) _ _ Hvv.out).mono ?_
  rintro e w2 ⟨rfl, hg2⟩
  have hfl2 := fld (hg2.obj Hb0.out (by simp))
  cases h3 : allB 0 (n - 1) c.vars
  · go_wp2_with fail
    go_ret
    exact ⟨ret_bool HF.out.symm, hg0.trans hg2⟩
  go_wp2_with fail
  refine (specDistinct_c c.vars _ _ (Hvv.out.gr hg2)).mono ?_
  rintro e w3 ⟨rfl, hg3⟩
  have hfl3 := fld ((hg2.trans hg3).obj Hb0.out (by simp))
  cases h4 : distinctB c.vars
  · go_wp2_with fail
    go_ret
    exact ⟨ret_bool HF.out.symm, (hg0.trans hg2).trans hg3⟩
  go_wp2_with fail
  go_ret
  exact ⟨ret_bool HF.out.symm, (hg0.trans hg2).trans hg3⟩

theorem specValidConstraint_c (c : Con) (n : Int) (v : Value) (w : World) (hv : ConV [] w v c) (hkl : c.vars.length ≤ 2000000) (hn : 0 ≤ n ∧ n ≤ 1000000000) :
    Calls Tryz.prog 23 #[v, .int .i64 n] w fun e w' => e = .returned (.bool (validConS c n)) ∧ Gr [] w w' := by
  by_cases h0 : 1 ≤ c.kind ∧ c.kind ≤ 9
  · have : c.kind = 1 ∨ c.kind = 2 ∨ c.kind = 3 ∨ c.kind = 4 ∨ c.kind = 5 ∨ c.kind = 6 ∨ c.kind = 7 ∨ c.kind = 8 ∨ c.kind = 9 := by omega
    rcases this with h | h | h | h | h | h | h | h | h
    · exact vc1_c c n v w hv h hkl hn
    · exact vc2_c c n v w hv h hkl hn
    · exact vc3_c c n v w hv h hkl hn
    · exact vc4_c c n v w hv h hkl hn
    · exact vc5_c c n v w hv h hkl hn
    · exact vc6_c c n v w hv h hkl hn
    · exact vc7_c c n v w hv h hkl hn
    · exact vc8_c c n v w hv h hkl hn
    · exact vc9_c c n v w hv h hkl hn
  · exact vc0_c c n v w hv h0 hn

theorem validDomains_c (xs : List Int) (v : Value) (w : World) (hv : Nums [] w .i64 v xs) :
    Calls Tryz.prog 22 #[v] w fun e w' => e = .returned (.bool (domsOk xs)) ∧ Gr [] w w' := by
  obtain ⟨ao, cap, rfl, ⟨hlc, hcm, _⟩, hc⟩ := hv
  have hlen : xs.length ≤ 9223372036854775807 := by omega
  have Hc := hid hc; clear hc
  go_enter Tryz.func22, Tryz.ntmps22
  go_wp2_with fail
  go_loop [3] (fun i => ∃ n : Nat, n ≤ xs.length ∧ i = .int .i64 n ∧ allB 0 63 (xs.drop n) = allB 0 63 xs) (fun i => xs.length - (intOf i).toNat)
  case atStart => exact ⟨0, Nat.zero_le _, rfl, rfl⟩
  case round =>
    obtain ⟨n, hn, rfl, hall⟩ := hrel
    have Hall := hid hall; clear hall
    by_cases hlt : n < xs.length
    · obtain ⟨x, hx⟩ := get_some hlt
      obtain ⟨b, o, rfl, _, hcell⟩ := Hc.out n x hx
      have HX := hid (drop_cons hx); clear hx
      go_wp2_with fail
      refine (validDomain_c x _).mono ?_
      rintro e w1 ⟨rfl, rfl⟩
      cases hb : inB 0 63 x
      all_goals go_wp2_with fail
      · go_ret
        have hf : allB 0 63 xs = false := by have := Hall.out; rw [HX.out] at this; rw [← this]; simp [allB, hb]
        exact ⟨ret_bool (by simp [domsOk, hf]), Gr.refl _ _⟩
      · refine ⟨⟨n + 1, by omega, by go_num, ?_⟩, by simp [intOf]; omega⟩
        have := Hall.out; rw [HX.out] at this; rw [← this]; simp [allB, hb]
    · have hf : allB 0 63 xs = true := by have := Hall.out; rw [drop_end (by omega)] at this; rw [← this]; rfl
      have HF := hid hf; clear hf
      go_wp2_with fail
      refine (inRange_c _ _ _ _).mono ?_
      rintro e w1 ⟨rfl, rfl⟩
      go_wp2_with fail
      go_ret
      exact ⟨ret_bool (by simp [domsOk, HF.out]), Gr.refl _ _⟩

end Go.Proofs.YtmonhpoogfdpoaaGreat
