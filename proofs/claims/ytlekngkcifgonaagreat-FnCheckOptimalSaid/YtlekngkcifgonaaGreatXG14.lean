/-
  Walks of the objective's functions.
  Walk of the generator of assignments.
  Walks of generators that return a model and lists of numbers.
  Walks of the generators of the laws of repair.
-/
import Derived.Test.YtlekngkcifgonaaGreatXA
import Derived.Test.YtlekngkcifgonaaGreatXG8
import Derived.Test.YtlekngkcifgonaaGreatXSiSf
import Derived.Test.YtlekngkcifgonaaGreatXM1
import Derived.Test.YtlekngkcifgonaaGreatXEO
import Derived.Test.YtlekngkcifgonaaGreatXSy1ToRe
import Derived.Test.YtlekngkcifgonaaGreatXG13
set_option linter.unusedVariables false
namespace Go.Proofs.YtlekngkcifgonaaGreat
open Go.RowKit

theorem ObjectiveValue_c (cs xs : List Int) (va vx : Value) (w : World) (ha : Nums [] w .i64 va cs) (hx : Nums [] w .i64 vx xs) :
    Calls Tryz.prog 19 #[va, vx] w fun e w' => e = .returned (.int .i64 (objVal cs xs)) ∧ Gr [] w w' := by
  have ha' := ha; have hx' := hx
  obtain ⟨ao, cap, rfl, ⟨hl1, hl2, _⟩, hc⟩ := ha
  obtain ⟨bo, cap', rfl, ⟨hlc, hcm, _⟩, hd⟩ := hx
  clear hc hd
  by_cases h1 : cs.length = xs.length
  · have h1' : (((cs.length : Nat) : Int) == (xs.length : Int)) = true := by simp [h1]
    have h1'' : (((cs.length : Nat) : Int) != (xs.length : Int)) = false := by simp [h1]
    have H1 := hid h1; clear h1
    by_cases h2 : cs.length ≤ 4
    · have h2' : decide ((4 : Int) < (cs.length : Int)) = false := by simp; omega
      go_enter Tryz.func19, Tryz.ntmps19
      go_wp2_with fail
      refine (allIn_c cs (-9) 9 _ _ ha').mono ?_
      rintro e w1 ⟨rfl, hg1⟩
      cases hb : allB (-9) 9 cs
      · go_wp2_with fail
        go_ret
        exact ⟨ret_int (by simp [objVal, hb]), hg1⟩
      · go_wp2_with fail
        refine (allIn_c xs 0 5 _ _ (hx'.gr hg1)).mono ?_
        rintro e w2 ⟨rfl, hg2⟩
        cases hb2 : allB 0 5 xs
        · go_wp2_with fail
          go_ret
          exact ⟨ret_int (by simp [objVal, hb2]), hg1.trans hg2⟩
        · go_wp2_with fail
          refine (weighted_c cs xs _ _ _ ((ha'.gr hg1).gr hg2) ((hx'.gr hg1).gr hg2) (by have := H1.out; omega) (by omega) (small_of_allB hb (by omega) (by omega)) (small_of_allB hb2 (by omega) (by omega))).mono ?_
          rintro e w3 ⟨rfl, hg3⟩
          go_wp2_with fail
          go_ret
          exact ⟨ret_int (by unfold objVal; rw [if_pos ⟨H1.out, h2, hb, hb2⟩]), (hg1.trans hg2).trans hg3⟩
    · go_enter Tryz.func19, Tryz.ntmps19
      go_wp2_with fail
      go_ret
      exact ⟨ret_int (by unfold objVal; rw [if_neg (by omega)]), Gr.refl _ _⟩
  · have h1' : (((cs.length : Nat) : Int) != (xs.length : Int)) = true := by simp; omega
    go_enter Tryz.func19, Tryz.ntmps19
    go_wp2_with fail
    go_ret
    exact ⟨ret_int (by unfold objVal; rw [if_neg (by omega)]), Gr.refl _ _⟩

/-- The generator of an objective. -/
theorem objective_c (R : Nat) (bs : List Int) (q : Nat) (k : Nat) (w : World) (hr : Rd w R bs q) (hq : q ≤ 100000000) (hk : k ≤ 100000) :
    Calls Tryz.prog 69 #[.pointer (some ⟨R, 0, none⟩), .int .i64 k] w (RowPost w.heap.size R bs (q + k + 1) (fun xs => xs.length ≤ k + 1 ∧ ∀ x ∈ xs, -9 ≤ x ∧ x ≤ 10) w) := by
  have hRlt := hr.lt
  have Hr := hid hr; clear hr
  go_enter Tryz.func69, Tryz.ntmps69
  go_wp2_with fail
  have hg0 : Gr [R] w (w.alloc (Obj.cells #[] 3)) := (Gr.refl _ _).alloc _
  go_loopw [5, 6] (fun v i wr => ∃ (n : Nat) (xs : List Int), n ≤ k ∧ i = .int .i64 n ∧ Own w.heap.size wr 3 v xs ∧ xs.length = n ∧ (∀ x ∈ xs, -9 ≤ x ∧ x ≤ 10) ∧ Rd wr R bs (q + n) ∧ Gr [R] w wr) (fun _ i _ => k - (intOf i).toNat)
  case atStart => exact ⟨0, [], by omega, rfl, Own.empty _ _ (Nat.le_refl _), rfl, by simp, Hr.out.gr ((Gr.refl _ _).alloc _), hg0⟩
  case round =>
    obtain ⟨n, xs, hn, rfl, hown, hl, hx, hrd, hg⟩ := hrel
    have hsz := hg.size
    have Hx := hid hx; clear hx
    have Hl := hid hl; clear hl
    by_cases hlt : n < k
    · go_wp2_with fail
      refine (one_c R bs (q + n) _ [1, 0, -1, 2, -9, 9] _ (hrd.gr ((Gr.refl _ _).alloc _)) (nums_new _ _ _ (by simp; omega)) (by omega) (by simp) (by simp)).mono ?_
      rintro e w1 ⟨⟨r, rfl, hr6⟩, hrd1, hg1⟩
      have hr9 : -9 ≤ r ∧ r ≤ 10 := by simp at hr6; omega
      have hown1 := (hown.alloc _).gr hg1 (by simp; omega)
      have hsz1 := hg1.size
      simp at hsz1
      have Hg1 := hid hg1; clear hg1 hr6
      go_wp2_with (at_builtin; refine wp_app1 rfl _ _ 23 rfl w.heap.size 3 infoInt Tryz.underlying23 _ xs rfl (hown1.alloc _) _ 1 r rfl (cell_new _ _ _) (by have := Hl.out; omega) (by simp; omega) ?_; intro v' w2 hown2 hb2)
      refine ⟨⟨n + 1, xs ++ [r], by omega, by go_num, hown2, by rw [List.length_append, Hl.out]; rfl, ?_, ?_, ?_⟩, by simp [intOf]; omega⟩
      · intro x hx
        rcases List.mem_append.1 hx with hx | hx
        · exact Hx.out x hx
        · obtain rfl := List.mem_singleton.1 hx; omega
      · exact (hrd1.gr ((Gr.refl _ _).alloc _)).low hb2 hRlt
      · exact (((hg.alloc _).trans Hg1.out).alloc _).low hb2 (Nat.le_refl _)
    · go_wp2_with fail
      refine (pick_c R bs (q + n) 14 _ hrd (by omega) (by omega)).mono ?_
      rintro e w1 ⟨⟨r, rfl, hr0, hr6⟩, hrd1, hg1⟩
      have hown1 := hown.gr hg1 (by simp; omega)
      have hsz1 := hg1.size
      have Hg1 := hid hg1; clear hg1
      cases hz : (r == 0)
      · go_wp2_with fail
        go_ret
        exact ⟨_, xs, rfl, hown1, ⟨by have := Hl.out; omega, Hx.out⟩, hrd1.le (by omega), hg.trans Hg1.out⟩
      · go_wp2_with (at_builtin; refine wp_app1 rfl _ _ 23 rfl w.heap.size 3 infoInt Tryz.underlying23 _ xs rfl (hown1.alloc _) _ 1 10 rfl (cell_new _ _ _) (by have := Hl.out; omega) (by simp; omega) ?_; intro v' w2 hown2 hb2)
        go_ret
        refine ⟨_, xs ++ [10], rfl, hown2, ⟨by rw [List.length_append, Hl.out]; simp; omega, ?_⟩, ((hrd1.gr ((Gr.refl _ _).alloc _)).low hb2 hRlt).le (by omega), ((hg.trans Hg1.out).alloc _).low hb2 (Nat.le_refl _)⟩
        intro x hx
        rcases List.mem_append.1 hx with hx | hx
        · exact Hx.out x hx
        · obtain rfl := List.mem_singleton.1 hx; omega
end Go.Proofs.YtlekngkcifgonaaGreat

set_option linter.unusedVariables false
set_option linter.unusedSimpArgs false
namespace Go.Proofs.YtlekngkcifgonaaGreat
open Go.RowKit


set_option maxRecDepth 100000 in
set_option maxHeartbeats 4000000 in
theorem assignment_c (R : Nat) (bs : List Int) (q : Nat) (m : Mod) (mv : Value) (w : World) (hr : Rd w R bs q) (hv : ModV [R] w mv m) (hs : m.Small) (hd : 1 ≤ m.doms.length ∧ m.doms.length ≤ 4) (hq : q ≤ 1000000) :
    Calls Tryz.prog 72 #[.pointer (some ⟨R, 0, none⟩), mv] w (RowPost w.heap.size R bs (q + 20) (fun xs => xs.length ≤ 5 ∧ ∀ x ∈ xs, 0 ≤ x ∧ x ≤ 6) w) := by
  have hRw := hr.lt
  have Hr := hid hr; have Hv := hid hv; have Hs := hid hs
  obtain ⟨xo, xc, co, cc, rfl⟩ := hv.slices
  have hg0 : Gr [] w (w.alloc (.cells #[.slice xo m.doms.length xc, .slice co m.cons.length cc] 26)) := (Gr.refl _ _).alloc _
  have hb0 : (w.alloc (.cells #[.slice xo m.doms.length xc, .slice co m.cons.length cc] 26)).heap[w.heap.size]? = some (.cells #[.slice xo m.doms.length xc, .slice co m.cons.length cc] 26 (0, 0)) := heap_alloc_new _ _
  have Hg0 := hid hg0; have Hb0 := hid hb0
  have fl0 := fld hb0
  obtain ⟨D, hD⟩ := openVM m
  have HD := hid hD
  clear hD hv hr hs hg0 hb0
  go_enter Tryz.func72, Tryz.ntmps72
  go_wp2_with fail
  have hcall := specValidModel_c m _ _ ((Hv.out.gr Hg0.out.any).sub0) Hs.out
  (with_reducible refine hcall.mono ?_)
  clear hcall
  rintro e w1 ⟨rfl, hg1⟩
  have Hg1 := hid (Hg0.out.trans hg1)
  have Hb1 := hid (hg1.obj Hb0.out (by simp))
  have fl1 := fld Hb1.out
  have hs1 := lt_of_block Hb1.out
  have Hr1 := hid (Hr.out.gr Hg1.out)
  clear hg1 fl0
  cases hval : validM m
  · have Hval := hid hval
    clear hval
    obtain ⟨wa, rfl⟩ : ∃ wa, wa = w1 := ⟨_, rfl⟩
    have Hra := hid (Hr1.out.le (by omega : q ≤ q + 3))
    have Hga : Hid (Gr [R] w wa) := hid Hg1.out.any
    clear Hr1
    go_wp2_with fail
    have hcall := randomRow_c R bs (q + 3) m.doms.length wa Hra.out (by omega) (by omega)
    (with_reducible refine hcall.mono ?_)
    clear hcall
    rintro e wb ⟨vb, xs, rfl, hownb, ⟨hlb, hvb⟩, hrdb, hgb⟩
    have hsb := hgb.size
    obtain ⟨xso, xsc, rfl, -, -⟩ := hownb.nums' (S := []) (by simp)
    have Hvb := hid hvb; have Hownb := hid hownb; have Hrdb := hid hrdb
    have Hgb := hid (Hga.out.trans hgb)
    have hlb4 : xs.length ≤ 4 := by omega
    clear hvb hownb hrdb hgb hlb
    go_wp2_with fail
    have hcall := pick_c R bs (q + 3 + m.doms.length) 14 wb Hrdb.out (by omega) (by omega)
    (with_reducible refine hcall.mono ?_)
    clear hcall
    rintro e wc ⟨⟨r, rfl, hr0, hrn⟩, hrdc, hgc⟩
    have Hownc := hid (Hownb.out.gr hgc (by simp; omega)); have Hrdc := hid hrdc; have Hgc := hid (Hgb.out.trans hgc)
    have hsc := hgc.size
    clear hrdc hgc hr0 hrn
    cases hz : (r == 0)
    · go_wp2_with fail
      go_ret
      exact ⟨_, xs, rfl, Hownc.out.le (by omega), ⟨by omega, fun x hx => by have := Hvb.out x hx; omega⟩, Hrdc.out.le (by omega), Hgc.out⟩
    · go_wp2_with fail
      refine (one_c R bs (q + 3 + m.doms.length + 1) _ [0, 6] _ (Hrdc.out.gr ((Gr.refl _ _).alloc _)) (nums_new _ _ _ (by simp; omega)) (by omega) (by simp) (by simp)).mono ?_
      rintro e wd ⟨⟨r6, rfl, hr6⟩, hrdd, hgd⟩
      have hr9 : 0 ≤ r6 ∧ r6 ≤ 6 := by simp at hr6; omega
      have hgd' := ((Gr.refl [R] wc).alloc (.cells #[.int .i64 0, .int .i64 6] 3)).trans hgd
      have Hownd := hid (Hownc.out.gr hgd' (by simp; omega)); have Hrdd := hid hrdd; have Hgd := hid (Hgc.out.trans hgd')
      have hsd := hgd'.size
      clear hr6 hrdd hgd hgd'
      go_wp2_with (at_builtin; go_loud (refine wp_app1 rfl _ _ 23 rfl wa.heap.size 3 infoInt Tryz.underlying23 _ xs rfl (Hownd.out.alloc _) _ 1 r6 rfl (cell_new _ _ _) (by omega) (by simp; omega) ?_; intro v' we howne hbe))
      go_ret
      refine ⟨_, xs ++ [r6], rfl, howne.le (by omega), ⟨by rw [List.length_append]; simp; omega, ?_⟩, ((Hrdd.out.gr ((Gr.refl _ _).alloc _)).low hbe (by omega)).le (by omega), (Hgd.out.alloc _).low hbe (by omega)⟩
      intro x hx
      rcases List.mem_append.1 hx with hx | hx
      · have := Hvb.out x hx; omega
      · obtain rfl := List.mem_singleton.1 hx; omega
  have HVM := hid (HD.out hval)
  clear hval
  go_wp2_with fail
  have hcall := pick_c R bs q 3 w1 Hr1.out (by omega) (by omega)
  (with_reducible refine hcall.mono ?_)
  clear hcall
  rintro e w2 ⟨⟨r2, rfl, hr20, hr2n⟩, hrd2, hg2⟩
  have Hr2 := hid hrd2
  have Hb2 := hid (hg2.obj Hb1.out (by simp; omega))
  have fl2 := fld Hb2.out
  have Hg12 := hid hg2
  have Hg2 := hid (Gr.trans Hg1.out.any hg2)
  have hs2 := lt_of_block Hb2.out
  clear hrd2 hg2 fl1
  cases h2 : decide (0 < r2)
  · have Hh2 := hid h2
    obtain ⟨wa, rfl⟩ : ∃ wa, wa = w2 := ⟨_, rfl⟩
    have Hra := hid (Hr2.out.le (by omega : q + 1 ≤ q + 3))
    have Hga := hid Hg2.out
    clear Hr1
    go_wp2_with fail
    have hcall := randomRow_c R bs (q + 3) m.doms.length wa Hra.out (by omega) (by omega)
    (with_reducible refine hcall.mono ?_)
    clear hcall
    rintro e wb ⟨vb, xs, rfl, hownb, ⟨hlb, hvb⟩, hrdb, hgb⟩
    have hsb := hgb.size
    obtain ⟨xso, xsc, rfl, -, -⟩ := hownb.nums' (S := []) (by simp)
    have Hvb := hid hvb; have Hownb := hid hownb; have Hrdb := hid hrdb
    have Hgb := hid (Hga.out.trans hgb)
    have hlb4 : xs.length ≤ 4 := by omega
    clear hvb hownb hrdb hgb hlb
    go_wp2_with fail
    have hcall := pick_c R bs (q + 3 + m.doms.length) 14 wb Hrdb.out (by omega) (by omega)
    (with_reducible refine hcall.mono ?_)
    clear hcall
    rintro e wc ⟨⟨r, rfl, hr0, hrn⟩, hrdc, hgc⟩
    have Hownc := hid (Hownb.out.gr hgc (by simp; omega)); have Hrdc := hid hrdc; have Hgc := hid (Hgb.out.trans hgc)
    have hsc := hgc.size
    clear hrdc hgc hr0 hrn
    cases hz : (r == 0)
    · go_wp2_with fail
      go_ret
      exact ⟨_, xs, rfl, Hownc.out.le (by omega), ⟨by omega, fun x hx => by have := Hvb.out x hx; omega⟩, Hrdc.out.le (by omega), Hgc.out⟩
    · go_wp2_with fail
      refine (one_c R bs (q + 3 + m.doms.length + 1) _ [0, 6] _ (Hrdc.out.gr ((Gr.refl _ _).alloc _)) (nums_new _ _ _ (by simp; omega)) (by omega) (by simp) (by simp)).mono ?_
      rintro e wd ⟨⟨r6, rfl, hr6⟩, hrdd, hgd⟩
      have hr9 : 0 ≤ r6 ∧ r6 ≤ 6 := by simp at hr6; omega
      have hgd' := ((Gr.refl [R] wc).alloc (.cells #[.int .i64 0, .int .i64 6] 3)).trans hgd
      have Hownd := hid (Hownc.out.gr hgd' (by simp; omega)); have Hrdd := hid hrdd; have Hgd := hid (Hgc.out.trans hgd')
      have hsd := hgd'.size
      clear hr6 hrdd hgd hgd'
      go_wp2_with (at_builtin; go_loud (refine wp_app1 rfl _ _ 23 rfl wa.heap.size 3 infoInt Tryz.underlying23 _ xs rfl (Hownd.out.alloc _) _ 1 r6 rfl (cell_new _ _ _) (by omega) (by simp; omega) ?_; intro v' we howne hbe))
      go_ret
      refine ⟨_, xs ++ [r6], rfl, howne.le (by omega), ⟨by rw [List.length_append]; simp; omega, ?_⟩, ((Hrdd.out.gr ((Gr.refl _ _).alloc _)).low hbe (by omega)).le (by omega), (Hgd.out.alloc _).low hbe (by omega)⟩
      intro x hx
      rcases List.mem_append.1 hx with hx | hx
      · have := Hvb.out x hx; omega
      · obtain rfl := List.mem_singleton.1 hx; omega
  go_wp2_with fail
  have hcall := solve_c m D 8 _ w2 ((Hv.out.gr Hg2.out).sub0) HVM.out (by omega) (by omega)
  rw [show ((8 : Nat) : Int) = 8 from rfl] at hcall
  (with_reducible refine hcall.mono ?_)
  clear hcall
  rintro e w3 ⟨v3, nd, rfl, hown3, hg3⟩
  obtain ⟨zs, hz⟩ : ∃ zs, zs = (sols m.cons D).take 8 := ⟨_, rfl⟩
  rw [← hz] at hown3
  have Hzm : Hid (∀ x ∈ zs, x ∈ sols m.cons D) := hid (by rw [hz]; exact fun x hx => List.mem_of_mem_take hx)
  have Hl := hid (hown3.rows (S := [R]) (by intro b hb; simp at hb; omega))
  have hz8 : zs.length ≤ 8 := by rw [hz, List.length_take]; omega
  obtain ⟨ro, rc, rfl, hr1, hr2, -⟩ := hown3.slice
  have Hg3 := hid (Hg2.out.trans hg3.any); have Hr3 := hid (Hr2.out.gr hg3)
  have Hb3 := hid (hg3.obj Hb2.out (by simp))
  have fl3 := fld Hb3.out
  have hs3 := lt_of_block Hb3.out
  clear hown3 hz hg3 fl2
  by_cases hz : 0 < zs.length
  · have hz' : decide (0 < ((zs.length : Nat) : Int)) = true := decide_eq_true (by omega)
    go_wp2_with fail
    have hcall := pick_c R bs (q + 1) zs.length w3 Hr3.out (by omega) (by omega)
    (with_reducible refine hcall.mono ?_)
    clear hcall
    rintro e w4 ⟨⟨r4, rfl, hr40, hr4n⟩, hrd4, hg4⟩
    obtain ⟨k, rfl⟩ := Int.eq_ofNat_of_zero_le hr40
    have hk : k < zs.length := by omega
    obtain ⟨x, hx⟩ := get_some hk
    obtain ⟨b, o, u, e1, hc0, hn0⟩ := (Hl.out.gr hg4).at0 hx
    subst e1
    obtain ⟨xo', xc', rfl, ⟨hx1, hx2, -⟩, -⟩ := id hn0
    have hxs : x.length = D.length ∧ ∀ y ∈ x, 0 ≤ y ∧ y ≤ 5 := ⟨tups_len (mem_sols.1 (Hzm.out x (List.mem_of_getElem? hx))).1, tups_val (mem_sols.1 (Hzm.out x (List.mem_of_getElem? hx))).1⟩
    have hxl : 1 ≤ x.length ∧ x.length ≤ 4 := by have := HVM.out.len; omega
    have Hn0 := hid (hn0.sub (S' := []) (by simp)); have Hxv := hid hxs.2; have Hr4 := hid hrd4
    have Hg4 := hid (Hg3.out.trans hg4)
    have hs4 := hg4.size
    clear hx hn0 hxs hrd4 hg4 hr40 hr4n fl3
    go_wp2_with fail
    have hcall := copyInts_c _ x w4 Hn0.out (by omega)
    (with_reducible refine hcall.mono ?_)
    clear hcall
    rintro e w5 ⟨v5, rfl, hown5, hg5⟩
    obtain ⟨g, gc, rfl, ⟨hgB, hglt⟩, -, -⟩ := hown5.open (by omega)
    have Hown5 := hid hown5; have Hr5 := hid (Hr4.out.gr hg5); have Hg5 := hid (Hg4.out.trans hg5.any)
    have hs5 := hg5.size
    clear hown5 hg5 hc0
    go_wp2_with fail
    have hcall := pick_c R bs (q + 1 + 1) 3 w5 Hr5.out (by omega) (by omega)
    (with_reducible refine hcall.mono ?_)
    clear hcall
    rintro e w6 ⟨⟨r6, rfl, hr60, hr6n⟩, hrd6, hg6⟩
    have Hown6 := hid (Hown5.out.gr hg6 (by simp; omega)); have Hr6 := hid hrd6; have Hg6 := hid (Hg5.out.trans hg6)
    have hs6 := hg6.size
    clear hrd6 hg6 hr60 hr6n
    cases h6 : (r6 == 0)
    · go_wp2_with fail
      go_ret
      exact ⟨_, x, rfl, Hown6.out.le (by omega), ⟨by omega, fun y hy => by have := Hxv.out y hy; omega⟩, Hr6.out.le (by omega), Hg6.out⟩
    · go_wp2_with fail
      have hcall := pick_c R bs (q + 1 + 1 + 1) x.length w6 Hr6.out (by omega) (by omega)
      (with_reducible refine hcall.mono ?_)
      clear hcall
      rintro e w7 ⟨⟨r7, rfl, hr70, hr7n⟩, hrd7, hg7⟩
      obtain ⟨k7, rfl⟩ := Int.eq_ofNat_of_zero_le hr70
      have hk7 : k7 < x.length := by omega
      have Hown7 := hid (Hown6.out.gr hg7 (by simp; omega)); have Hr7 := hid hrd7; have Hg7 := hid (Hg6.out.trans hg7)
      have hs7 := hg7.size
      clear hrd7 hg7 hr70 hr7n
      go_wp2_with fail
      have hcall := pick_c R bs (q + 1 + 1 + 1 + 1) 6 w7 Hr7.out (by omega) (by omega)
      (with_reducible refine hcall.mono ?_)
      clear hcall
      rintro e w8 ⟨⟨r8, rfl, hr80, hr8n⟩, hrd8, hg8⟩
      have hown8 := Hown7.out.gr hg8 (by simp; omega)
      obtain ⟨y7, hy7⟩ := get_some hk7
      obtain ⟨c7, c7'⟩ := hown8.at hy7
      have Hown8 := hid (hown8.set k7 r8 hk7); have Hr8 := hid hrd8; have Hg8 := hid (Hg7.out.trans hg8)
      have hs8 := hg8.size
      have hr8' : r8 ≤ 5 := by omega
      clear hrd8 hg8 hown8 hy7 hr8n
      go_wp2_with fail
      go_ret
      refine ⟨_, x.set k7 r8, rfl, Hown8.out.le (by omega), ⟨by rw [List.length_set]; omega, fun y hy => ?_⟩, (Hr8.out.grS (Gr.cell1 _ _ _ _ (by simp)) (S := [g]) (by simp; omega)).le (by omega), Hg8.out.step (S' := [g]) (Gr.cell1 _ _ _ _ (by simp)) (fun i hi => .inr (by simp at hi; omega))⟩
      rcases List.mem_or_eq_of_mem_set hy with h | h
      · have := Hxv.out y h; omega
      · omega
  · have hz' : decide (0 < ((zs.length : Nat) : Int)) = false := decide_eq_false (by omega)
    obtain ⟨wa, rfl⟩ : ∃ wa, wa = w3 := ⟨_, rfl⟩
    have Hra := hid (Hr3.out.le (by omega : q + 1 ≤ q + 3))
    have Hga := hid Hg3.out
    clear Hr1
    go_wp2_with fail
    have hcall := randomRow_c R bs (q + 3) m.doms.length wa Hra.out (by omega) (by omega)
    (with_reducible refine hcall.mono ?_)
    clear hcall
    rintro e wb ⟨vb, xs, rfl, hownb, ⟨hlb, hvb⟩, hrdb, hgb⟩
    have hsb := hgb.size
    obtain ⟨xso, xsc, rfl, -, -⟩ := hownb.nums' (S := []) (by simp)
    have Hvb := hid hvb; have Hownb := hid hownb; have Hrdb := hid hrdb
    have Hgb := hid (Hga.out.trans hgb)
    have hlb4 : xs.length ≤ 4 := by omega
    clear hvb hownb hrdb hgb hlb
    go_wp2_with fail
    have hcall := pick_c R bs (q + 3 + m.doms.length) 14 wb Hrdb.out (by omega) (by omega)
    (with_reducible refine hcall.mono ?_)
    clear hcall
    rintro e wc ⟨⟨r, rfl, hr0, hrn⟩, hrdc, hgc⟩
    have Hownc := hid (Hownb.out.gr hgc (by simp; omega)); have Hrdc := hid hrdc; have Hgc := hid (Hgb.out.trans hgc)
    have hsc := hgc.size
    clear hrdc hgc hr0 hrn
    cases hz : (r == 0)
    · go_wp2_with fail
      go_ret
      exact ⟨_, xs, rfl, Hownc.out.le (by omega), ⟨by omega, fun x hx => by have := Hvb.out x hx; omega⟩, Hrdc.out.le (by omega), Hgc.out⟩
    · go_wp2_with fail
      refine (one_c R bs (q + 3 + m.doms.length + 1) _ [0, 6] _ (Hrdc.out.gr ((Gr.refl _ _).alloc _)) (nums_new _ _ _ (by simp; omega)) (by omega) (by simp) (by simp)).mono ?_
      rintro e wd ⟨⟨r6, rfl, hr6⟩, hrdd, hgd⟩
      have hr9 : 0 ≤ r6 ∧ r6 ≤ 6 := by simp at hr6; omega
      have hgd' := ((Gr.refl [R] wc).alloc (.cells #[.int .i64 0, .int .i64 6] 3)).trans hgd
      have Hownd := hid (Hownc.out.gr hgd' (by simp; omega)); have Hrdd := hid hrdd; have Hgd := hid (Hgc.out.trans hgd')
      have hsd := hgd'.size
      clear hr6 hrdd hgd hgd'
      go_wp2_with (at_builtin; go_loud (refine wp_app1 rfl _ _ 23 rfl wa.heap.size 3 infoInt Tryz.underlying23 _ xs rfl (Hownd.out.alloc _) _ 1 r6 rfl (cell_new _ _ _) (by omega) (by simp; omega) ?_; intro v' we howne hbe))
      go_ret
      refine ⟨_, xs ++ [r6], rfl, howne.le (by omega), ⟨by rw [List.length_append]; simp; omega, ?_⟩, ((Hrdd.out.gr ((Gr.refl _ _).alloc _)).low hbe (by omega)).le (by omega), (Hgd.out.alloc _).low hbe (by omega)⟩
      intro x hx
      rcases List.mem_append.1 hx with hx | hx
      · have := Hvb.out x hx; omega
      · obtain rfl := List.mem_singleton.1 hx; omega

end Go.Proofs.YtlekngkcifgonaaGreat

set_option linter.unusedVariables false
set_option linter.unusedSimpArgs false
namespace Go.Proofs.YtlekngkcifgonaaGreat
open Go.RowKit





end Go.Proofs.YtlekngkcifgonaaGreat

set_option linter.unusedVariables false
set_option linter.unusedSimpArgs false
namespace Go.Proofs.YtlekngkcifgonaaGreat
open Go.RowKit


end Go.Proofs.YtlekngkcifgonaaGreat
