/-
  Walks of the objective's functions.
-/
import Derived.Test.YtjmjjdgbkibdaaaGreatA
set_option linter.unusedVariables false
namespace Go.Proofs.YtjmjjdgbkibdaaaGreat
open Go.RowKit

theorem ObjectiveValue_c (cs xs : List Int) (va vx : Value) (w : World) (ha : Nums [] w .i64 va cs) (hx : Nums [] w .i64 vx xs) :
    Calls Tryz.prog 41 #[va, vx] w fun e w' => e = .returned (.int .i64 (objVal cs xs)) ∧ Gr [] w w' := by
  have ha' := ha; have hx' := hx
  obtain ⟨ao, cap, rfl, ⟨hl1, hl2, _⟩, hc⟩ := ha
  obtain ⟨bo, cap', rfl, ⟨hlc, hcm, _⟩, hd⟩ := hx
  clear hc hd
  by_cases h1 : cs.length = xs.length
  · have h1' : (((cs.length : Nat) : Int) == (xs.length : Int)) = true := by simp [h1]
    have h1'' : (((cs.length : Nat) : Int) != (xs.length : Int)) = false := by simp [h1]
    have H1 := hid h1; clear h1
    by_cases h2 : cs.length ≤ 4
    · have h2' : decide ((4 : Int) < (cs.length : Int)) = false := by simp; omega
      go_enter Tryz.func41, Tryz.ntmps41
      go_wp2_with fail
      refine (allIn_c cs (-9) 9 _ _ ha').mono ?_
      rintro e w1 ⟨rfl, hg1⟩
      cases hb : allB (-9) 9 cs
      · go_wp2_with fail
        go_ret
        exact ⟨ret_int (by simp [objVal, hb]), hg1⟩
      · go_wp2_with fail
        refine (allIn_c xs 0 5 _ _ (hx'.gr hg1)).mono ?_
        rintro e w2 ⟨rfl, hg2⟩
        cases hb2 : allB 0 5 xs
        · go_wp2_with fail
          go_ret
          exact ⟨ret_int (by simp [objVal, hb2]), hg1.trans hg2⟩
        · go_wp2_with fail
          refine (weighted_c cs xs _ _ _ ((ha'.gr hg1).gr hg2) ((hx'.gr hg1).gr hg2) (by have := H1.out; omega) (by omega) (small_of_allB hb (by omega) (by omega)) (small_of_allB hb2 (by omega) (by omega))).mono ?_
          rintro e w3 ⟨rfl, hg3⟩
          go_wp2_with fail
          go_ret
          exact ⟨ret_int (by unfold objVal; rw [if_pos ⟨H1.out, h2, hb, hb2⟩]), (hg1.trans hg2).trans hg3⟩
    · go_enter Tryz.func41, Tryz.ntmps41
      go_wp2_with fail
      go_ret
      exact ⟨ret_int (by unfold objVal; rw [if_neg (by omega)]), Gr.refl _ _⟩
  · have h1' : (((cs.length : Nat) : Int) != (xs.length : Int)) = true := by simp; omega
    go_enter Tryz.func41, Tryz.ntmps41
    go_wp2_with fail
    go_ret
    exact ⟨ret_int (by unfold objVal; rw [if_neg (by omega)]), Gr.refl _ _⟩

/-- The generator of an objective. -/
theorem objective_c (R : Nat) (bs : List Int) (q : Nat) (k : Nat) (w : World) (hr : Rd w R bs q) (hq : q ≤ 100000000) (hk : k ≤ 100000) :
    Calls Tryz.prog 110 #[.pointer (some ⟨R, 0, none⟩), .int .i64 k] w (RowPost w.heap.size R bs (q + k + 1) (fun xs => xs.length ≤ k + 1 ∧ ∀ x ∈ xs, -9 ≤ x ∧ x ≤ 10) w) := by
  have hRlt := hr.lt
  have Hr := hid hr; clear hr
  go_enter Tryz.func110, Tryz.ntmps110
  go_wp2_with fail
  have hg0 : Gr [R] w (w.alloc (Obj.cells #[] 3)) := (Gr.refl _ _).alloc _
  go_loopw [5, 6] (fun v i wr => ∃ (n : Nat) (xs : List Int), n ≤ k ∧ i = .int .i64 n ∧ Own w.heap.size wr 3 v xs ∧ xs.length = n ∧ (∀ x ∈ xs, -9 ≤ x ∧ x ≤ 10) ∧ Rd wr R bs (q + n) ∧ Gr [R] w wr) (fun _ i _ => k - (intOf i).toNat)
  case atStart => exact ⟨0, [], by omega, rfl, Own.empty _ _ (Nat.le_refl _), rfl, by simp, Hr.out.gr ((Gr.refl _ _).alloc _), hg0⟩
  case round =>
    obtain ⟨n, xs, hn, rfl, hown, hl, hx, hrd, hg⟩ := hrel
    have hsz := hg.size
    have Hx := hid hx; clear hx
    have Hl := hid hl; clear hl
    by_cases hlt : n < k
    · go_wp2_with fail
      refine (one_c R bs (q + n) _ [1, 0, -1, 2, -9, 9] _ (hrd.gr ((Gr.refl _ _).alloc _)) (nums_new _ _ _ (by simp; omega)) (by omega) (by simp) (by simp)).mono ?_
      rintro e w1 ⟨⟨r, rfl, hr6⟩, hrd1, hg1⟩
      have hr9 : -9 ≤ r ∧ r ≤ 10 := by simp at hr6; omega
      have hown1 := (hown.alloc _).gr hg1 (by simp; omega)
      have hsz1 := hg1.size
      simp at hsz1
      have Hg1 := hid hg1; clear hg1 hr6
      go_wp2_with (at_builtin; refine wp_app1 rfl _ _ 22 rfl w.heap.size 3 infoInt Tryz.underlying22 _ xs rfl (hown1.alloc _) _ 1 r rfl (cell_new _ _ _) (by have := Hl.out; omega) (by simp; omega) ?_; intro v' w2 hown2 hb2)
      refine ⟨⟨n + 1, xs ++ [r], by omega, by go_num, hown2, by rw [List.length_append, Hl.out]; rfl, ?_, ?_, ?_⟩, by simp [intOf]; omega⟩
      · intro x hx
        rcases List.mem_append.1 hx with hx | hx
        · exact Hx.out x hx
        · obtain rfl := List.mem_singleton.1 hx; omega
      · exact (hrd1.gr ((Gr.refl _ _).alloc _)).low hb2 hRlt
      · exact (((hg.alloc _).trans Hg1.out).alloc _).low hb2 (Nat.le_refl _)
    · go_wp2_with fail
      refine (pick_c R bs (q + n) 14 _ hrd (by omega) (by omega)).mono ?_
      rintro e w1 ⟨⟨r, rfl, hr0, hr6⟩, hrd1, hg1⟩
      have hown1 := hown.gr hg1 (by simp; omega)
      have hsz1 := hg1.size
      have Hg1 := hid hg1; clear hg1
      cases hz : (r == 0)
      · go_wp2_with fail
        go_ret
        exact ⟨_, xs, rfl, hown1, ⟨by have := Hl.out; omega, Hx.out⟩, hrd1.le (by omega), hg.trans Hg1.out⟩
      · go_wp2_with (at_builtin; refine wp_app1 rfl _ _ 22 rfl w.heap.size 3 infoInt Tryz.underlying22 _ xs rfl (hown1.alloc _) _ 1 10 rfl (cell_new _ _ _) (by have := Hl.out; omega) (by simp; omega) ?_; intro v' w2 hown2 hb2)
        go_ret
        refine ⟨_, xs ++ [10], rfl, hown2, ⟨by rw [List.length_append, Hl.out]; simp; omega, ?_⟩, ((hrd1.gr ((Gr.refl _ _).alloc _)).low hb2 hRlt).le (by omega), ((hg.trans Hg1.out).alloc _).low hb2 (Nat.le_refl _)⟩
        intro x hx
        rcases List.mem_append.1 hx with hx | hx
        · exact Hx.out x hx
        · obtain rfl := List.mem_singleton.1 hx; omega
end Go.Proofs.YtjmjjdgbkibdaaaGreat
