/-
  Walks of the objective's functions.
  Walk of the generator of assignments.
  Walks of generators that return a model and lists of numbers.
  Walks of the generators of the laws of repair.
-/
import Derived.Test.YtilcicoekpmelaaGreatDoorPA
import Derived.Test.YtilcicoekpmelaaGreatDoorPG8
import Derived.Test.YtilcicoekpmelaaGreatDoorPSiSf
import Derived.Test.YtilcicoekpmelaaGreatDoorPM1
import Derived.Test.YtilcicoekpmelaaGreatDoorPEO
import Derived.Test.YtilcicoekpmelaaGreatDoorPSy1ToRe
import Derived.Test.YtilcicoekpmelaaGreatDoorPG13
set_option linter.unusedVariables false
namespace Go.Proofs.YtilcicoekpmelaaGreatDoor
open Go.RowKit

theorem ObjectiveValue_c (cs xs : List Int) (va vx : Value) (w : World) (ha : Nums [] w .i64 va cs) (hx : Nums [] w .i64 vx xs) :
    Calls Tryz.prog 10 #[va, vx] w fun e w' => e = .returned (.int .i64 (objVal cs xs)) ∧ Gr [] w w' := by
  have ha' := ha; have hx' := hx
  obtain ⟨ao, cap, rfl, ⟨hl1, hl2, _⟩, hc⟩ := ha
  obtain ⟨bo, cap', rfl, ⟨hlc, hcm, _⟩, hd⟩ := hx
  clear hc hd
  by_cases h1 : cs.length = xs.length
  · have h1' : (((cs.length : Nat) : Int) == (xs.length : Int)) = true := by simp [h1]
    have h1'' : (((cs.length : Nat) : Int) != (xs.length : Int)) = false := by simp [h1]
    have H1 := hid h1; clear h1
    by_cases h2 : cs.length ≤ 4
    · have h2' : decide ((4 : Int) < (cs.length : Int)) = false := by simp; omega
      go_enter Tryz.func10, Tryz.ntmps10
      go_wp2_with fail
      refine (allIn_c cs (-9) 9 _ _ ha').mono ?_
      rintro e w1 ⟨rfl, hg1⟩
      cases hb : allB (-9) 9 cs
      · go_wp2_with fail
        go_ret
        exact ⟨ret_int (by simp [objVal, hb]), hg1⟩
      · go_wp2_with fail
        refine (allIn_c xs 0 5 _ _ (hx'.gr hg1)).mono ?_
        rintro e w2 ⟨rfl, hg2⟩
        cases hb2 : allB 0 5 xs
        · go_wp2_with fail
          go_ret
          exact ⟨ret_int (by simp [objVal, hb2]), hg1.trans hg2⟩
        · go_wp2_with fail
          refine (weighted_c cs xs _ _ _ ((ha'.gr hg1).gr hg2) ((hx'.gr hg1).gr hg2) (by have := H1.out; omega) (by omega) (small_of_allB hb (by omega) (by omega)) (small_of_allB hb2 (by omega) (by omega))).mono ?_
          rintro e w3 ⟨rfl, hg3⟩
          go_wp2_with fail
          go_ret
          exact ⟨ret_int (by unfold objVal; rw [if_pos ⟨H1.out, h2, hb, hb2⟩]), (hg1.trans hg2).trans hg3⟩
    · go_enter Tryz.func10, Tryz.ntmps10
      go_wp2_with fail
      go_ret
      exact ⟨ret_int (by unfold objVal; rw [if_neg (by omega)]), Gr.refl _ _⟩
  · have h1' : (((cs.length : Nat) : Int) != (xs.length : Int)) = true := by simp; omega
    go_enter Tryz.func10, Tryz.ntmps10
    go_wp2_with fail
    go_ret
    exact ⟨ret_int (by unfold objVal; rw [if_neg (by omega)]), Gr.refl _ _⟩

/-- The generator of an objective. -/
theorem objective_c (R : Nat) (bs : List Int) (q : Nat) (k : Nat) (w : World) (hr : Rd w R bs q) (hq : q ≤ 100000000) (hk : k ≤ 100000) :
    Calls Tryz.prog 37 #[.pointer (some ⟨R, 0, none⟩), .int .i64 k] w (RowPost w.heap.size R bs (q + k + 1) (fun xs => xs.length ≤ k + 1 ∧ ∀ x ∈ xs, -9 ≤ x ∧ x ≤ 10) w) := by
  have hRlt := hr.lt
  have Hr := hid hr; clear hr
  go_enter Tryz.func37, Tryz.ntmps37
  go_wp2_with fail
  have hg0 : Gr [R] w (w.alloc (Obj.cells #[] 3)) := (Gr.refl _ _).alloc _
  go_loopw [5, 6] (fun v i wr => ∃ (n : Nat) (xs : List Int), n ≤ k ∧ i = .int .i64 n ∧ Own w.heap.size wr 3 v xs ∧ xs.length = n ∧ (∀ x ∈ xs, -9 ≤ x ∧ x ≤ 10) ∧ Rd wr R bs (q + n) ∧ Gr [R] w wr) (fun _ i _ => k - (intOf i).toNat)
  case atStart => exact ⟨0, [], by omega, rfl, Own.empty _ _ (Nat.le_refl _), rfl, by simp, Hr.out.gr ((Gr.refl _ _).alloc _), hg0⟩
  case round =>
    obtain ⟨n, xs, hn, rfl, hown, hl, hx, hrd, hg⟩ := hrel
    have hsz := hg.size
    have Hx := hid hx; clear hx
    have Hl := hid hl; clear hl
    by_cases hlt : n < k
    · go_wp2_with fail
      refine (one_c R bs (q + n) _ [1, 0, -1, 2, -9, 9] _ (hrd.gr ((Gr.refl _ _).alloc _)) (nums_new _ _ _ (by simp; omega)) (by omega) (by simp) (by simp)).mono ?_
      rintro e w1 ⟨⟨r, rfl, hr6⟩, hrd1, hg1⟩
      have hr9 : -9 ≤ r ∧ r ≤ 10 := by simp at hr6; omega
      have hown1 := (hown.alloc _).gr hg1 (by simp; omega)
      have hsz1 := hg1.size
      simp at hsz1
      have Hg1 := hid hg1; clear hg1 hr6
      go_wp2_with (at_builtin; refine wp_app1 rfl _ _ 23 rfl w.heap.size 3 infoInt Tryz.underlying23 _ xs rfl (hown1.alloc _) _ 1 r rfl (cell_new _ _ _) (by have := Hl.out; omega) (by simp; omega) ?_; intro v' w2 hown2 hb2)
      refine ⟨⟨n + 1, xs ++ [r], by omega, by go_num, hown2, by rw [List.length_append, Hl.out]; rfl, ?_, ?_, ?_⟩, by simp [intOf]; omega⟩
      · intro x hx
        rcases List.mem_append.1 hx with hx | hx
        · exact Hx.out x hx
        · obtain rfl := List.mem_singleton.1 hx; omega
      · exact (hrd1.gr ((Gr.refl _ _).alloc _)).low hb2 hRlt
      · exact (((hg.alloc _).trans Hg1.out).alloc _).low hb2 (Nat.le_refl _)
    · go_wp2_with fail
      refine (pick_c R bs (q + n) 14 _ hrd (by omega) (by omega)).mono ?_
      rintro e w1 ⟨⟨r, rfl, hr0, hr6⟩, hrd1, hg1⟩
      have hown1 := hown.gr hg1 (by simp; omega)
      have hsz1 := hg1.size
      have Hg1 := hid hg1; clear hg1
      cases hz : (r == 0)
      · go_wp2_with fail
        go_ret
        exact ⟨_, xs, rfl, hown1, ⟨by have := Hl.out; omega, Hx.out⟩, hrd1.le (by omega), hg.trans Hg1.out⟩
      · go_wp2_with (at_builtin; refine wp_app1 rfl _ _ 23 rfl w.heap.size 3 infoInt Tryz.underlying23 _ xs rfl (hown1.alloc _) _ 1 10 rfl (cell_new _ _ _) (by have := Hl.out; omega) (by simp; omega) ?_; intro v' w2 hown2 hb2)
        go_ret
        refine ⟨_, xs ++ [10], rfl, hown2, ⟨by rw [List.length_append, Hl.out]; simp; omega, ?_⟩, ((hrd1.gr ((Gr.refl _ _).alloc _)).low hb2 hRlt).le (by omega), ((hg.trans Hg1.out).alloc _).low hb2 (Nat.le_refl _)⟩
        intro x hx
        rcases List.mem_append.1 hx with hx | hx
        · exact Hx.out x hx
        · obtain rfl := List.mem_singleton.1 hx; omega
end Go.Proofs.YtilcicoekpmelaaGreatDoor

set_option linter.unusedVariables false
set_option linter.unusedSimpArgs false
namespace Go.Proofs.YtilcicoekpmelaaGreatDoor
open Go.RowKit


end Go.Proofs.YtilcicoekpmelaaGreatDoor

set_option linter.unusedVariables false
set_option linter.unusedSimpArgs false
namespace Go.Proofs.YtilcicoekpmelaaGreatDoor
open Go.RowKit


set_option maxRecDepth 100000 in
set_option maxHeartbeats 4000000 in
theorem DrawMinimize_c (v : Value) (bs : List Int) (w : World) (ao : Option Addr) (cap : Nat) (hv : v = .slice ao bs.length cap) (hlen : bs.length ≤ 9223372036854775807) (hcap : bs.length ≤ cap) (hc : Cells [] w .u8 ao bs) (hb : ∀ b ∈ bs, 0 ≤ b ∧ b ≤ 255) :
    Calls Tryz.prog 12 #[v] w fun e w' => ∃ (m : Mod) (mv ov : Value) (o : List Int), e = .returned (.tuple #[mv, ov]) ∧ ModV [] w' mv m ∧ m.Small ∧ (1 ≤ m.doms.length ∧ m.doms.length ≤ 4) ∧ Nums [] w' .i64 ov o ∧ (o.length ≤ 5 ∧ ∀ y ∈ o, -9 ≤ y ∧ y ≤ 10) ∧ Gr [] w w' := by
  subst hv
  have Hc := hid hc; have Hb := hid hb; clear hc hb
  have hg0 : Gr [] w (w.alloc (.cells #[.slice none 0 0, .slice none 0 0] 26)) := (Gr.refl _ _).alloc _
  have hr0 : (w.alloc (.cells #[.slice none 0 0, .slice none 0 0] 26)).heap[w.heap.size]? = some (.cells #[.slice none 0 0, .slice none 0 0] 26 (0, 0)) := heap_alloc_new _ _
  have Hr0 := hid hr0; have Hg0 := hid hg0; clear hr0 hg0
  go_enter Tryz.func12, Tryz.ntmps12
  go_wp2_with fail
  have hcall := newReader_c _ bs _ ao cap rfl hlen hcap (Hc.out.gr Hg0.out) Hb.out
  (with_reducible refine hcall.mono ?_)
  clear hcall
  rintro e w1 ⟨⟨R, cs, rfl, hR, hrd1⟩, hg1⟩
  go_wp2_with fail
  have hcall := anyModel_c R cs 0 _ hrd1 (by omega)
  (with_reducible refine hcall.mono ?_)
  clear hcall
  rintro e w2 ⟨m, M, bo, ac, co, cc, rfl, hown, hdM, ⟨hM1, hM2⟩, hcs, ⟨hd1, hd4⟩, hc4, htv, hrd2, hg2⟩
  simp only [World.size_alloc] at hR
  have hRw1 := hrd1.lt
  have hr2 := hg2.obj (hg1.obj Hr0.out (by simp)) (by simp; omega)
  have hmv := ModPost.modv (S := [w.heap.size, w2.heap.size, R]) (by have := hg1.size; simp at this ⊢; omega) hM1 hown hcs
  have hms := mod_small hd4 hc4 htv
  have HG : Hid (Gr [] w w2) := hid ((Hg0.out.trans hg1).step hg2 (fun i hi => .inr (by simp at hi; omega)))
  have hRl := hrd2.lt
  have ha3 : Gr [] w2 (w2.alloc (.cells #[.slice bo m.doms.length ac, .slice co m.cons.length cc] 26)) := (Gr.refl _ _).alloc _
  have hb3 : (w2.alloc (.cells #[.slice bo m.doms.length ac, .slice co m.cons.length cc] 26)).heap[w2.heap.size]? = some (.cells #[.slice bo m.doms.length ac, .slice co m.cons.length cc] 26 (0, 0)) := heap_alloc_new _ _
  have hwl := lt_of_block hr2
  have hr3 := ha3.obj hr2 (by simp)
  have hs3 : w2.heap.size < (w2.alloc (.cells #[.slice bo m.doms.length ac, .slice co m.cons.length cc] 26)).heap.size := by simp
  have Hmv := hid (hmv.gr ha3.any); have Hms := hid hms; have Hr3 := hid hr3; have Hrd3 := hid (hrd2.gr ha3); have Hb3 := hid hb3
  have HG3 := hid (HG.out.trans ha3)
  have fl3 := fld hb3
  clear hown hcs htv hr2 hg1 hg2 hrd1 hrd2 hmv hms ha3 hb3 HG hdM hr3
  go_wp2_with fail
  generalize hW3 : w2.alloc (.cells #[.slice bo m.doms.length ac, .slice co m.cons.length cc] 26) = w3 at *
  clear hW3
  have flr := fld Hr3.out; have ffr := fldF Hr3.out
  go_region_law (first | (go_simp; go_at_call 37; refine (objective_c R cs (0 + 2000) m.doms.length _ (Hrd3.out.gr ((Gr.refl [] _).drew)) (by omega) (by omega)).mono ?_; rintro e w6 ⟨v6, o6, rfl, hown6, ⟨hl6, hv6⟩, hrd6, hg6⟩; have HS6 : Hid (Gr [R] w3 w6) := hid (Gr.trans (a := w3) (Gr.any ((Gr.refl [] _).drew)) hg6); have hn6 := hown6.nums' (S := [w.heap.size, w2.heap.size, R]) (by intro b hb; simp at hb ⊢; omega); obtain ⟨vo6, vc6, rfl, -, -⟩ := id hn6; have Hn6 := hid hn6; have Hr6 := hid (HS6.out.obj Hr3.out (by simp; omega)); have fl6 := fld (HS6.out.obj Hb3.out (by simp; omega)); have flr6 := fld Hr6.out; have ffr6 := fldF Hr6.out; clear hg6 hrd6 hown6 hn6))
  all_goals
    go_wp2_with fail
    have hbE := block_cells (cur' := #[]) (block_cells (cur' := #[]) Hr6.out 0 (.slice bo m.doms.length ac)) 1 (.slice co m.cons.length cc)
    have flE := fld hbE
    refine bodyPost_ret (v := .tuple #[.agg #[.slice bo m.doms.length ac, .slice co m.cons.length cc], .slice vo6 o6.length vc6]) ?_ rfl ?_
    · simp [results, Tryz.results12, go_sem, flE]
    · have hgE : Gr [w.heap.size, w2.heap.size, R] w6 ((w6.setCell ⟨w.heap.size, 0, none⟩ (.slice bo m.doms.length ac)).setCell ⟨w.heap.size, 1, none⟩ (.slice co m.cons.length cc)) :=
        ((Gr.refl _ _).setCell _ _ (.inl (by simp))).setCell _ _ (.inl (by simp))
      have hgF : Gr [w.heap.size, w2.heap.size, R] w3 ((w6.setCell ⟨w.heap.size, 0, none⟩ (.slice bo m.doms.length ac)).setCell ⟨w.heap.size, 1, none⟩ (.slice co m.cons.length cc)) :=
        (HS6.out.sub (fun k _ hk => by simp at hk ⊢; exact .inr (.inr hk))).trans hgE
      exact ⟨m, _, _, o6, rfl, (Hmv.out.gr hgF).sub0, Hms.out, ⟨hd1, hd4⟩, (Hn6.out.gr hgE).sub (by simp), ⟨by omega, hv6⟩, HG3.out.step hgF (fun i hi => .inr (by simp at hi; omega))⟩




end Go.Proofs.YtilcicoekpmelaaGreatDoor

set_option linter.unusedVariables false
set_option linter.unusedSimpArgs false
namespace Go.Proofs.YtilcicoekpmelaaGreatDoor
open Go.RowKit


end Go.Proofs.YtilcicoekpmelaaGreatDoor
