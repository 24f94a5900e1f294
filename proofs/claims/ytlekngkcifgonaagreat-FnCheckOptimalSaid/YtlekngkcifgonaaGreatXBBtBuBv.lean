/-
  Walks: the model of the solutions that are better than one, on both sides.
  Walks: the reference's model of the solutions that are better than one; its proofs of optimality.
  Walks: the reference's model of the solutions that are better than one.
-/
import Derived.Test.YtlekngkcifgonaaGreatXBSy4ToIsB
import Derived.Test.YtlekngkcifgonaaGreatXCpCt
import Derived.Deep.RegionHeldLaw
import Derived.Deep.CutRange
import Derived.Test.YtlekngkcifgonaaGreatXBPy
set_option linter.unusedVariables false
set_option linter.unusedSimpArgs false
namespace Go.Proofs.YtlekngkcifgonaaGreat
open Go.RowKit

def BtPost (V : Bool) (M : Mod) (w : World) (e : Ending) (w' : World) : Prop :=
  ∃ u0 u1, e = .returned (.tuple #[.agg #[u0, u1], .bool V]) ∧ (V = true → ModM (New w.heap.size w') w' (.agg #[u0, u1]) M) ∧ (V = false → u0 = .slice none 0 0 ∧ u1 = .slice none 0 0) ∧ Gr [] w w'
theorem bt_small {m : Mod} {o : List Int} {n : Nat} {b : Int} (h : m.Small) (ho : o.length ≤ 5) (hc : m.cons.length ≤ 1000) (hd : n ≤ 5) : (withM m (linC o n b)).Small :=
  ⟨h.doms, by show (m.cons ++ [_]).length ≤ _; simp; omega, fun c hc => by
    rcases List.mem_append.1 (show c ∈ m.cons ++ [linC o n b] from hc) with hc | hc
    · exact h.con c hc
    · simp at hc; subst hc
      exact ⟨by show (idL _).length ≤ _; rw [idL_len]; omega, by show o.length ≤ _; omega, by simp [linC], by simp [linC]⟩⟩
theorem bt_shape {V : Bool} {M : Nat → Prop} {w : World} {u0 u1 : Value} {m : Mod} (h1 : V = true → ModM M w (.agg #[u0, u1]) m) (h2 : V = false → u0 = .slice none 0 0 ∧ u1 = .slice none 0 0) : (∃ a n c, u0 = .slice a n c) ∧ ∃ a n c, u1 = .slice a n c := by
  cases V with
  | false => obtain ⟨rfl, rfl⟩ := h2 rfl; exact ⟨⟨_, _, _, rfl⟩, _, _, _, rfl⟩
  | true =>
    obtain ⟨dv, cv, e, n1, n2⟩ := h1 rfl
    obtain ⟨a, c, rfl, -⟩ := n1
    obtain ⟨a2, c2, rfl, -⟩ := n2
    simp only [Value.agg.injEq, Array.mk.injEq, List.cons.injEq, and_true] at e
    obtain ⟨rfl, rfl⟩ := e
    exact ⟨⟨_, _, _, rfl⟩, _, _, _, rfl⟩
theorem bt_end {V : Bool} {M : Mod} {w wb WE : World} {r B : Nat} {u0 u1 : Value} (hg : Gr [] w wb) (hB : w.heap.size ≤ B) (hm : V = true → ModM (New B wb) wb (.agg #[u0, u1]) M) (hgE : Gr [r] wb WE) (hr : r < B) (hw : w.heap.size ≤ r) :
    (V = true → ModM (New w.heap.size WE) WE (.agg #[u0, u1]) M) ∧ Gr [] w WE :=
  ⟨fun h => (hm h).gr' hgE (fun b hb hm => by have h1 := hm.1; simp at hb; omega) (fun b hl hm => ⟨by have := hm.1; omega, by have := hgE.size; omega⟩), hg.step hgE (fun i hi => .inr (by simp at hi; omega))⟩
set_option maxRecDepth 100000 in
set_option maxHeartbeats 4000000 in
theorem below_c (m : Mod) (o : List Int) (b : Int) (mv ov : Value) (w : World) (hv : ModV [] w mv m) (ho : Nums [] w .i64 ov o) (hol : o.length ≤ 1000) (hs : (withM m (linC o o.length b)).Small) (hcl : m.cons.length ≤ 1000) :
    Calls Tryz.prog 153 #[mv, ov, .int .i64 b] w (BtPost (validM (withM m (linC o o.length b))) (withM m (linC o o.length b)) w) := by
  have Hv := hid hv; have Ho := hid ho; have Hs := hid hs
  obtain ⟨xo, xc, co, cc, rfl⟩ := hv.slices
  obtain ⟨oo, oc, rfl, ⟨ho1, ho2, -⟩, -⟩ := id ho
  obtain ⟨W0, hW0⟩ : ∃ W0, W0 = (w.alloc (.cells #[.slice xo m.doms.length xc, .slice co m.cons.length cc] 26)).alloc (.cells #[.slice none 0 0, .slice none 0 0] 26) := ⟨_, rfl⟩
  have h20 := heap2 w (.cells #[.slice xo m.doms.length xc, .slice co m.cons.length cc] 26) (.cells #[.slice none 0 0, .slice none 0 0] 26)
  have hg0 : Gr [] w W0 := by rw [hW0]; exact ((Gr.refl _ _).alloc _).alloc _
  have hs0 : W0.heap.size = w.heap.size + 2 := by rw [hW0]; simp
  rw [← hW0] at h20
  have H20 := hid h20; have Hg0 := hid hg0; have Hs0 := hid hs0; have HW0 := hid hW0
  have f0 := fld h20.1
  rw [hW0] at f0
  clear hv ho hs h20 hg0 hs0 hW0
  go_enter Tryz.func153, Tryz.ntmps153
  go_wp2_with (at_make; go_loud (refine wp_mk0 rfl _ _ 23 rfl (w.heap.size + 2) 3 infoI Tryz.underlying23 o.length rfl rfl (by omega) (by simp) ?_; intro w2 hown2 hg2))
  rw [← HW0.out] at hg2
  have Hown2 := hid hown2; have Hg2 := hid hg2
  clear hown2 hg2 f0
  go_loopw [8, 15] (fun v i wr => ∃ n : Nat, n ≤ o.length ∧ i = .int .i64 n ∧ Own (w.heap.size + 2) wr 3 v (idL n) ∧ Gr [] W0 wr) (fun _ i _ => o.length - (intOf i).toNat)
  case atStart => exact ⟨0, Nat.zero_le _, rfl, by have h := Hown2.out; simp only [World.size_alloc] at h; exact h, Hg2.out⟩
  case round =>
  obtain ⟨n, hn, rfl, hown, hg⟩ := hrel
  have Hown := hid hown; have Hg := hid hg
  have hsr := hg.size
  have hsW := Hs0.out
  have hbm := hg.obj H20.out.1 (by simp)
  have hbr := hg.obj H20.out.2 (by simp)
  have Hbr := hid hbr
  have fbm := fld hbm; have fbr := fld hbr; have ffr := fldF hbr
  clear hown hg hbm hbr
  by_cases hlt : n < o.length
  · go_wp2_with (at_builtin; go_loud (refine wp_app1 rfl _ _ 23 rfl (w.heap.size + 2) 3 infoI Tryz.underlying23 _ (idL n) rfl (Hown.out.alloc _) _ 1 (n : Int) rfl (cell_new _ _ _) (by rw [idL_len]; omega) (by simp; omega) ?_; intro v' w7 hown7 hb7))
    have hg7 : Gr [] W0 w7 := (Hg.out.alloc _).low hb7 (by omega)
    rw [← idL_succ] at hown7
    exact ⟨⟨n + 1, by omega, by go_num, hown7, hg7⟩, by simp [intOf]; omega⟩
  have hnx : n = o.length := by omega
  subst hnx
  have HA := hid (Hown.out.nums' (S := []) (by simp))
  obtain ⟨vo, vc, hvv, -, -⟩ := HA.out
  subst hvv
  have HCV : Hid (ConV [] wr (.agg #[.int .i64 1, .slice vo o.length vc, .slice oo o.length oc, .int .i64 b, .slice none 0 0]) (linC o o.length b)) := hid ⟨_, _, _, rfl, by have h := HA.out; rwa [idL_len] at h, Ho.out.gr (Hg0.out.trans Hg.out), ⟨none, 0, rfl, by simp [linC], by intro i r hi; simp [linC] at hi⟩⟩
  clear Hown HA
  rw [idL_len]
  go_wp2_with fail
  have hcall := WithConstraint_c m (linC o o.length b) _ _ wr (Hv.out.gr (Hg0.out.trans Hg.out)) HCV.out Hs.out hcl
  (with_reducible refine hcall.mono ?_)
  clear hcall
  rintro e w4 ⟨u0, u1, rfl, hm4, hz4, hg4⟩
  obtain ⟨⟨sa, sb, sc, rfl⟩, sd, se, sf, rfl⟩ := bt_shape hm4 hz4
  have hr4 := hg4.obj Hbr.out (by simp)
  have fr4 := fld hr4; have ffr4 := fldF hr4
  have Hm4 := hid hm4; have Hz4 := hid hz4; have Hg4 := hid hg4; have Hr4 := hid hr4
  clear hm4 hz4 hg4 hr4 fbm fbr ffr
  go_wp2_with fail
  have hbE := block_cells (cur' := #[]) (block_cells (cur' := #[]) Hr4.out 0 (.slice sa sb sc)) 1 (.slice sd se sf)
  have flE := fld hbE
  have hgE : Gr [w.heap.size + 1] w4 ((w4.setCell ⟨w.heap.size + 1, 0, none⟩ (.slice sa sb sc)).setCell ⟨w.heap.size + 1, 1, none⟩ (.slice sd se sf)) := ((Gr.refl _ _).setCell _ _ (.inl (by simp))).setCell _ _ (.inl (by simp))
  refine bodyPost_ret (v := .tuple #[.agg #[.slice sa sb sc, .slice sd se sf], .bool (validM (withM m (linC o o.length b)))]) ?_ rfl ?_
  · simp [results, Tryz.results153, go_sem, flE]
  · obtain ⟨k1, k2⟩ := bt_end ((Hg0.out.trans Hg.out).trans Hg4.out) (Nat.le_trans (by omega) hsr) Hm4.out hgE (by omega) (by omega)
    exact ⟨_, _, rfl, k1, Hz4.out, k2⟩

set_option maxRecDepth 100000 in
set_option maxHeartbeats 4000000 in
theorem better_c (m : Mod) (D : List Nat) (o x : List Int) (mv ov xv : Value) (w : World) (hv : ModV [] w mv m) (hD : validM m = true → VM m D) (hs : m.Small) (ho : Nums [] w .i64 ov o) (hx : Nums [] w .i64 xv x) :
    Calls Tryz.prog 73 #[mv, ov, xv] w (BtPost (betB m D o x) (lowM m o x) w) := by
  have Hv := hid hv; have Ho := hid ho; have Hs := hid hs; have Hx := hid hx; have HD := hid hD
  obtain ⟨xo, xc, co, cc, rfl⟩ := hv.slices
  obtain ⟨oo, oc, rfl, ⟨ho1, ho2, -⟩, -⟩ := id ho
  obtain ⟨zo, zc, rfl, ⟨hx1, hx2, -⟩, -⟩ := id hx
  obtain ⟨W0, hW0⟩ : ∃ W0, W0 = (w.alloc (.cells #[.slice xo m.doms.length xc, .slice co m.cons.length cc] 26)).alloc (.cells #[.slice none 0 0, .slice none 0 0] 26) := ⟨_, rfl⟩
  have h20 := heap2 w (.cells #[.slice xo m.doms.length xc, .slice co m.cons.length cc] 26) (.cells #[.slice none 0 0, .slice none 0 0] 26)
  have hg0 : Gr [] w W0 := by rw [hW0]; exact ((Gr.refl _ _).alloc _).alloc _
  have hs0 : W0.heap.size = w.heap.size + 2 := by rw [hW0]; simp
  rw [← hW0] at h20
  have H20 := hid h20; have Hg0 := hid hg0; have Hs0 := hid hs0
  have f0 := fld h20.1
  rw [hW0] at f0
  clear hv ho hs h20 hg0 hs0 hx hD
  go_enter Tryz.func73, Tryz.ntmps73
  go_wp2_with fail
  rw [← hW0] at f0 ⊢
  clear hW0
  have hcall := objectiveOk_c m o _ _ W0 (Hv.out.gr Hg0.out) (Ho.out.gr Hg0.out)
  (with_reducible refine hcall.mono ?_)
  clear hcall
  rintro e w1 ⟨rfl, hg1⟩
  have Hg1 := hid (Hg0.out.trans hg1)
  have Hm1 := hid (hg1.obj H20.out.1 (by simp)); have Hr1 := hid (hg1.obj H20.out.2 (by simp))
  have f1 := fld Hm1.out; have fr1 := fld Hr1.out; have ffr1 := fldF Hr1.out
  have hsW := Hs0.out
  have hs1 := hg1.size
  clear hg1 f0
  cases hok : (validM m && objB o m.doms.length)
  · have HB : Hid (betB m D o x = false) := hid (by unfold betB; rw [← Bool.and_assoc, hok]; rfl)
    obtain ⟨wn, hwn⟩ : ∃ wn, wn = w1 := ⟨_, rfl⟩
    have Hrn := Hr1; have Hgn := Hg1
    rw [← hwn] at Hrn Hgn f1 fr1 ffr1 ⊢
    clear hwn hok
    go_wp2_with fail
    have hbE := block_cells (cur' := #[]) (block_cells (cur' := #[]) Hrn.out 0 (.slice none 0 0)) 1 (.slice none 0 0)
    have flE := fld hbE
    have hgE : Gr [w.heap.size + 1] wn ((wn.setCell ⟨w.heap.size + 1, 0, none⟩ (.slice none 0 0)).setCell ⟨w.heap.size + 1, 1, none⟩ (.slice none 0 0)) := ((Gr.refl _ _).setCell _ _ (.inl (by simp))).setCell _ _ (.inl (by simp))
    refine bodyPost_ret (v := .tuple #[.agg #[.slice none 0 0, .slice none 0 0], .bool false]) ?_ rfl ?_
    · simp [results, Tryz.results73, go_sem, flE]
    · exact ⟨_, _, by rw [HB.out], (fun h => by rw [HB.out] at h; cases h), fun _ => ⟨rfl, rfl⟩, Hgn.out.step hgE (fun i hi => .inr (by simp at hi; omega))⟩
  · obtain ⟨hval, hob⟩ := Bool.and_eq_true_iff.1 hok
    have hVM := HD.out hval
    have hol := obj_len hob
    have hlen := hVM.len
    have hDl : m.doms.length = D.length := by rw [hVM.doms, ints_len]
    have hmany := hVM.many
    have hm4 : m.doms.length ≤ 4 := by omega
    have HVM := hid hVM; have Hob := hid hob; have Hval := hid hval; have Hol := hid hol
    clear hok hval hob hVM hol hDl
    go_wp2_with fail
    have hcall := IsSolution_b m D x _ _ w1 (Hv.out.gr Hg1.out) HVM.out (Hx.out.gr Hg1.out)
    (with_reducible refine hcall.mono ?_)
    clear hcall
    rintro e w3 ⟨rfl, hg3⟩
    have Hg3 := hid (Hg1.out.trans hg3)
    have Hm3 := hid (hg3.obj Hm1.out (by simp)); have Hr3 := hid (hg3.obj Hr1.out (by simp))
    have f3 := fld Hm3.out; have fr3 := fld Hr3.out; have ffr3 := fldF Hr3.out
    have hs3 := hg3.size
    clear hg3 f1 fr1 ffr1
    cases hsol : isB m.cons D x
    · have HB : Hid (betB m D o x = false) := hid (by unfold betB; rw [hsol]; simp)
      obtain ⟨wn, hwn⟩ : ∃ wn, wn = w3 := ⟨_, rfl⟩
      have Hrn := Hr3; have Hgn := Hg3
      rw [← hwn] at Hrn Hgn f3 fr3 ffr3 ⊢
      clear hwn hsol
      go_wp2_with fail
      have hbE := block_cells (cur' := #[]) (block_cells (cur' := #[]) Hrn.out 0 (.slice none 0 0)) 1 (.slice none 0 0)
      have flE := fld hbE
      have hgE : Gr [w.heap.size + 1] wn ((wn.setCell ⟨w.heap.size + 1, 0, none⟩ (.slice none 0 0)).setCell ⟨w.heap.size + 1, 1, none⟩ (.slice none 0 0)) := ((Gr.refl _ _).setCell _ _ (.inl (by simp))).setCell _ _ (.inl (by simp))
      refine bodyPost_ret (v := .tuple #[.agg #[.slice none 0 0, .slice none 0 0], .bool false]) ?_ rfl ?_
      · simp [results, Tryz.results73, go_sem, flE]
      · exact ⟨_, _, by rw [HB.out], (fun h => by rw [HB.out] at h; cases h), fun _ => ⟨rfl, rfl⟩, Hgn.out.step hgE (fun i hi => .inr (by simp at hi; omega))⟩
    · have hxs : x ∈ sols m.cons D := by unfold isB at hsol; exact of_decide_eq_true hsol
      have hdot := dot_lowX HVM.out Hob.out hxs
      have hx5 := solv hxs
      have hbe : betB m D o x = validM (lowM m o x) := by unfold betB; rw [Hval.out, Hob.out, hsol]; rfl
      obtain ⟨av, hav⟩ : ∃ av, av = dot o x := ⟨_, rfl⟩
      rw [← hav] at hdot
      have HWR : Hid (IntKind.i64.wrap (av - 1) = av - 1) := hid (by rw [IntKind.wrap_i64]; omega)
      have hol3 : o.length = m.doms.length := by have := Hol.out; omega
      have hlow : lowM m o x = withM m (linC o o.length (av - 1)) := by unfold lowM; rw [hav, hol3]
      have HB := hid hbe; have Hlow := hid hlow; have Hav := hid hav; have Hx5 := hid hx5
      have HSM : Hid (withM m (linC o o.length (av - 1))).Small := hid (bt_small Hs.out (by omega) (by omega) (by omega))
      have HK : Hid (∀ W', Gr [w.heap.size + 1] w3 W' → W'.cell? ⟨w.heap.size, 0, none⟩ = some (.slice xo m.doms.length xc) ∧ W'.cell? ⟨w.heap.size, 1, none⟩ = some (.slice co m.cons.length cc)) := hid fun W' h => by
        have := fld (h.obj Hm3.out (by simp)); exact ⟨this 0, this 1⟩
      have HRX : Hid (∀ W', Gr [] w3 W' → W'.heap[w.heap.size + 1]? = some (.cells #[.slice none 0 0, .slice none 0 0] 26 (0, 0))) := hid fun W' h => h.obj Hr3.out (by simp)
      have hcl6 : m.cons.length ≤ 1000 := by omega
      have hol2 : o.length ≤ 1000 := by omega
      have Hol4 : Hid (o.length ≤ x.length) := hid (by have h9 : m.doms.length = D.length := (by rw [HVM.out.doms, ints_len]); have h8 := Hol.out; have h7 := hx5.1; omega)
      have Ho9 : Hid (Small o) := hid (small9 Hol.out.2)
      have Hx9 : Hid (Small x) := hid (small5 hx5.2)
      have hol5 : o.length ≤ 100000 := by omega
      clear hsol hxs hbe hav hlow hx5 hol3
      go_wp2_with fail
      go_region_held_law (fun w' => w'.cell? ⟨w.heap.size, 0, none⟩ = some (.slice xo m.doms.length xc) ∧ w'.cell? ⟨w.heap.size, 1, none⟩ = some (.slice co m.cons.length cc)) (first | exact HK.out _ (Gr.any ((Gr.refl [] w3).drew)) | exact HK.out _ (Gr.any HGa.out) | exact HK.out _ (Gr.any HGb.out) | exact HK.out _ (Gr.setCell (Gr.any HGb.out) _ _ (.inl (by simp))) | exact HK.out _ (Gr.setCell (Gr.setCell (Gr.any HGb.out) _ _ (.inl (by simp))) _ _ (.inl (by simp)))) (first
        | (go_simp; go_at_call 84; refine (weighted_c o x _ _ _ (Ho.out.gr (Hg3.out.trans (Gr.refl [] w3).drew)) (Hx.out.gr (Hg3.out.trans (Gr.refl [] w3).drew)) Hol4.out hol5 Ho9.out Hx9.out).mono ?_; rw [← Hav.out]; rintro e wa ⟨rfl, hga⟩; have HGa : Hid (Gr [] w3 wa) := hid (((Gr.refl [] w3).drew).trans hga); clear hga; (try dsimp only))
        | (go_simp; go_at_call 153; (try rw [HWR.out]); refine (below_c m o (av - 1) _ _ _ (Hv.out.gr (Hg3.out.trans HGa.out)) (Ho.out.gr (Hg3.out.trans HGa.out)) hol2 HSM.out hcl6).mono ?_; rintro e wb ⟨u0, u1, rfl, hmb, hzb, hgb⟩; obtain ⟨⟨sa, sb, sc, rfl⟩, sd, se, sf, rfl⟩ := bt_shape hmb hzb; have HGb : Hid (Gr [] w3 wb) := hid (HGa.out.trans hgb); have HSa := hid HGa.out.size; have Hmb := hid hmb; have Hzb := hid hzb; have hrb := HRX.out _ HGb.out; have HRb := hid hrb; have frb := fld hrb; have ffrb := fldF hrb; clear hgb hmb hzb hrb; (try dsimp only)))
      all_goals
        go_wp2_with fail
        have hbE := block_cells (cur' := #[]) (block_cells (cur' := #[]) HRb.out 0 (.slice sa sb sc)) 1 (.slice sd se sf)
        have flE := fld hbE
        have hgE : Gr [w.heap.size + 1] wb ((wb.setCell ⟨w.heap.size + 1, 0, none⟩ (.slice sa sb sc)).setCell ⟨w.heap.size + 1, 1, none⟩ (.slice sd se sf)) := ((Gr.refl _ _).setCell _ _ (.inl (by simp))).setCell _ _ (.inl (by simp))
        refine bodyPost_ret (v := .tuple #[.agg #[.slice sa sb sc, .slice sd se sf], .bool (validM (withM m (linC o o.length (av - 1))))]) ?_ rfl ?_
        · simp [results, Tryz.results73, go_sem, flE]
        · rw [HB.out, Hlow.out]
          obtain ⟨k1, k2⟩ := bt_end (Hg3.out.trans HGb.out) (by have := HSa.out; omega) Hmb.out hgE (by have := HSa.out; omega) (by omega)
          exact ⟨_, _, rfl, k1, Hzb.out, k2⟩
end Go.Proofs.YtlekngkcifgonaaGreat

set_option linter.unusedVariables false
set_option linter.unusedSimpArgs false
namespace Go.Proofs.YtlekngkcifgonaaGreat
open Go.RowKit

set_option maxRecDepth 100000 in
set_option maxHeartbeats 8000000 in
theorem specWithConstraint_c (m : Mod) (c : Con) (mv cv : Value) (w : World) (hv : ModV [] w mv m) (hcv : ConV [] w cv c) (hs : (withM m c).Small) (hcl : m.cons.length ≤ 1000) (hr9 : ∀ d ∈ m.cons, d.rows.length ≤ 1000) (hc9 : c.rows.length ≤ 1000) :
    Calls Tryz.prog 162 #[mv, cv] w (BtPost (validM (withM m c)) (withM m c) w) := by
  have Hv := hid hv; have Hcv := hid hcv; have Hs := hid hs; have Hr9 := hid hr9
  have Hms : Hid m.Small := hid ⟨hs.doms, by omega, fun d hd => hs.con d (List.mem_append.2 (.inl hd))⟩
  have Hcs : Hid c.Small := hid (hs.con c (List.mem_append.2 (.inr (by simp))))
  obtain ⟨xo, xc, co, cc, rfl⟩ := hv.slices
  obtain ⟨vo, vc, ao, ac, ro, rc, rfl⟩ := hcv.slices
  obtain ⟨W0, hW0⟩ : ∃ W0, W0 = ((w.alloc (.cells #[.slice xo m.doms.length xc, .slice co m.cons.length cc] 26)).alloc (.cells #[.int .i64 c.kind, .slice vo c.vars.length vc, .slice ao c.args.length ac, .int .i64 c.bound, .slice ro c.rows.length rc] 55)).alloc (.cells #[.slice none 0 0, .slice none 0 0] 26) := ⟨_, rfl⟩
  have h30 := heap3 w (.cells #[.slice xo m.doms.length xc, .slice co m.cons.length cc] 26) (.cells #[.int .i64 c.kind, .slice vo c.vars.length vc, .slice ao c.args.length ac, .int .i64 c.bound, .slice ro c.rows.length rc] 55) (.cells #[.slice none 0 0, .slice none 0 0] 26)
  have hg0 : Gr [] w W0 := by rw [hW0]; exact (((Gr.refl _ _).alloc _).alloc _).alloc _
  have hs0 : W0.heap.size = w.heap.size + 3 := by rw [hW0]; simp
  rw [← hW0] at h30
  have hR0 : W0.heap[w.heap.size + 1 + 1]? = some (.cells #[.slice none 0 0, .slice none 0 0] 26 (0, 0)) := h30.2.2
  have H30 := hid h30; have Hg0 := hid hg0; have Hs0 := hid hs0; have HR0 := hid hR0
  have f0 := fld h30.1
  rw [hW0] at f0
  clear hv hcv hs hr9 h30 hg0 hs0 hR0
  go_enter Tryz.func162, Tryz.ntmps162
  go_wp2_with fail
  rw [← hW0] at f0 ⊢
  clear hW0
  have hcall := copyModel_g m _ W0 (Hv.out.gr Hg0.out) Hms.out Hr9.out
  (with_reducible refine hcall.mono ?_)
  clear hcall
  rintro e w1 ⟨xo1, xc1, co1, cc1, k1, rfl, hn1, hc1, ho1, ⟨hk1, hk2⟩, hg1⟩
  have hsW := Hs0.out
  have hsw1 := hg1.size
  have HB1 := hid (hg1.obj H30.out.2.1 (by simp)); have HR1 := hid (hg1.obj HR0.out (by simp))
  have Hn1 := hid hn1; have Hc1 := hid hc1; have Ho1 := hid ho1; have Hg1 := hid (Hg0.out.trans hg1)
  clear hn1 hc1 ho1 hg1 f0
  have hb2 := heap_alloc_new w1 (.cells #[.slice xo1 m.doms.length xc1, .slice co1 m.cons.length cc1] 26)
  have hg2 : Gr [] w1 (w1.alloc (.cells #[.slice xo1 m.doms.length xc1, .slice co1 m.cons.length cc1] 26)) := (Gr.refl _ _).alloc _
  have hs2 : (w1.alloc (.cells #[.slice xo1 m.doms.length xc1, .slice co1 m.cons.length cc1] 26)).heap.size = w1.heap.size + 1 := by simp
  go_wp2_with fail
  generalize hW : w1.alloc (.cells #[.slice xo1 m.doms.length xc1, .slice co1 m.cons.length cc1] 26) = wr at *
  clear hW
  have Hb2 := hid hb2; have Hg2 := hid hg2; have Hs2 := hid hs2
  have Ho2 : Hid (OwnGX (fun b => b < k1 ∨ b = w1.heap.size) 5 elConM k1 wr 55 (.slice co1 m.cons.length cc1) m.cons) := hid ((OwnGX.ofG Ho1.out (fun b hb => by rcases hb with h | h; exact .inl h; exact .inr (by omega))).gr elConM_ok hg2 (by simp))
  have hbc2 := hg2.obj HB1.out (by simp)
  have HBc2 := hid hbc2; have HR2 := hid (hg2.obj HR1.out (by simp))
  have HBK : Hid (∀ W, Gr [] wr W → W.heap[w1.heap.size]? = some (.cells #[.slice xo1 m.doms.length xc1, .slice co1 m.cons.length cc1] 26 (0, 0))) := hid fun W h => h.obj Hb2.out (by simp)
  have HBC : Hid (∀ W, Gr [] wr W → W.heap[w.heap.size + 1]? = some (.cells #[.int .i64 c.kind, .slice vo c.vars.length vc, .slice ao c.args.length ac, .int .i64 c.bound, .slice ro c.rows.length rc] 55 (0, 0))) := hid fun W h => h.obj HBc2.out (by simp)
  have Hgw := hid (Hg1.out.trans hg2)
  have fk := fld hb2; have fc := fld hbc2; have ffk := fldF hb2
  have Hown' : Hid (∀ b, (Value.slice co1 m.cons.length cc1).ownBlock = some b → k1 ≤ b ∧ b < w1.heap.size) := hid fun b hb => Ho1.out.own hb
  clear hb2 hg2 hs2 hbc2
  go_region_law (first
    | (go_simp; go_at_call 230; refine (copyConstraint_c c _ _ (Hcv.out.gr (Hgw.out.trans ((Gr.refl [] wr).drew))) Hcs.out hc9).mono ?_; rintro e w5 ⟨uo, uc, po, pc, ro', rc', rfl, hm5, hg5⟩; have hgx : Gr [] wr w5 := ((Gr.refl [] wr).drew).trans hg5; have HGX := hid hgx; have Hm5 := hid hm5; have HO5 := hid (Ho2.out.gr elConM_ok hgx (by simp)); have fb5 := fld (HBK.out _ hgx); have hs5 := hgx.size; have fa5 := fld (HBK.out _ (hgx.alloc (.cells #[.int .i64 c.kind, .slice uo c.vars.length uc, .slice po c.args.length pc, .int .i64 c.bound, .slice ro' c.rows.length rc'] 55))); clear hm5 hg5 hgx)
    | (refine step_appGX rfl _ _ 24 rfl 5 elConM elConM_ok k1 55 (.agg #[.int .i64 0, .slice none 0 0, .slice none 0 0, .int .i64 0, .slice none 0 0]) 88 infoC rfl (by omega) (by omega) Tryz.underlying24 (.slice co1 m.cons.length cc1) m.cons rfl (fun b => b < k1 ∨ b = w1.heap.size) (fun b hb => by have h8 := Hs2.out; rcases hb with h | h; (simp; omega); (simp; omega)) (HO5.out.gr elConM_ok ((Gr.refl [] w5).alloc _) (by simp)) w5.heap.size 1 c [.int .i64 c.kind, .slice uo c.vars.length uc, .slice po c.args.length pc, .int .i64 c.bound, .slice ro' c.rows.length rc'] rfl rfl (by simp [Value.oneCell']) (fun j q hj => by rw [fld (heap_alloc_new w5 _) j]; simpa using hj) (fun S hS => ⟨_, _, _, _, _, _, rfl, Hm5.out.gr' ((Gr.refl [] w5).alloc _) (by simp) (fun b hlt hb hm => by have h9 := hb.1; have h8 := Hs2.out; simp at h9; rcases hS b hm with (h | h) | h | h; omega; omega; (simp at h; omega); (have := Hown'.out b h; omega))⟩) (by omega) (by have h8 := Hs2.out; simp; omega) ?_; intro g7 c7 w7 hown7 hg7 hwh7 hlt7; have HO7 := hid hown7; have HG7 := hid hg7; have hr7 := hg7.obj (HBK.out _ (HGX.out.alloc (.cells #[.int .i64 c.kind, .slice uo c.vars.length uc, .slice po c.args.length pc, .int .i64 c.bound, .slice ro' c.rows.length rc'] 55))) (fun hm => by have := Hown'.out w1.heap.size (by simpa using hm); omega); have Hr7 := hid hr7; have fb7 := fld hr7; have ff7 := fldF hr7; clear hown7 hg7 hr7 hwh7))
  all_goals
    have hgs : Gr [w1.heap.size] w7 (w7.setCell ⟨w1.heap.size, 1, none⟩ (.slice (some ⟨g7, 0, none⟩) (m.cons.length + 1) c7)) := Gr.cell1 _ _ _ _ (by simp)
    have hb8 := block_cells (cur' := #[]) Hr7.out 1 (.slice (some ⟨g7, 0, none⟩) (m.cons.length + 1) c7)
    have f8 := fld hb8
    go_wp2_with fail
    have hG57 : Gr (Value.slice co1 m.cons.length cc1).ownBlock.toList wr w7 := ((Gr.any HGX.out).alloc _).trans HG7.out
    have hgE : Gr (w1.heap.size :: (Value.slice co1 m.cons.length cc1).ownBlock.toList) wr (w7.setCell ⟨w1.heap.size, 1, none⟩ (.slice (some ⟨g7, 0, none⟩) (m.cons.length + 1) c7)) := (hG57.sub (fun k _ h => by simp at h; simp [h])).trans (hgs.sub (fun k _ h => by simp at h; simp [h]))
    have hns : ∀ b ∈ w1.heap.size :: (Value.slice co1 m.cons.length cc1).ownBlock.toList, k1 ≤ b := fun b hb => by
      rcases List.mem_cons.1 hb with h | h
      · omega
      · exact (Hown'.out b (by simpa using h)).1
    have ho8 := HO7.out.gr elConM_ok hgs (fun b hb => .inr (by simpa using hb))
    generalize hW8 : w7.setCell ⟨w1.heap.size, 1, none⟩ (.slice (some ⟨g7, 0, none⟩) (m.cons.length + 1) c7) = w8 at *
    clear hW8
    have hs8 := hgE.size
    have hs29 := Hs2.out
    have HM8 : Hid (ModM (New W0.heap.size w8) w8 (.agg #[.slice xo1 m.doms.length xc1, .slice (some ⟨g7, 0, none⟩) (m.cons.length + 1) c7]) (withM m c)) := hid (by
      have h1 := OwnG.consM (OwnGX.g ho8 (fun b hb => .inl hb))
      exact ⟨_, _, rfl, (Hn1.out.gr' (M' := New W0.heap.size w8) ((Gr.any Hg2.out).trans hgE) (fun b hb hm => by have h3 := hns b hb; have h4 := hm.2; omega) (fun b hl hm => ⟨hm.1.1, by have h5 := hm.1.2; omega⟩)), h1.gr' (Gr.refl [] _) (by simp) (fun b _ h => ⟨by have := h.1; omega, h.2⟩)⟩)
    have HR8 := hid (hgE.obj HR2.out (fun hm => by have := hns _ hm; omega))
    have HG8 : Hid (Gr [] w w8) := hid (Hgw.out.step hgE (fun i hi => .inr (by have := hns i hi; omega)))
    have Hb8 := hid hb8
    clear ho8 hgE hns hgs hG57 hb8 fb5 fa5 fb7 ff7
    have hcall := specValidModel_c (withM m c) _ w8 (New.mod HM8.out) Hs.out
    (with_reducible refine hcall.mono ?_)
    clear hcall
    rintro e w9 ⟨rfl, hg9⟩
    have HR9 := hid (hg9.obj HR8.out (by simp)); have HG9 := hid (HG8.out.trans hg9)
    have HM9 : Hid (ModM (New W0.heap.size w9) w9 (.agg #[.slice xo1 m.doms.length xc1, .slice (some ⟨g7, 0, none⟩) (m.cons.length + 1) c7]) (withM m c)) := hid (HM8.out.gr' hg9 (by simp) (fun b _ h => ⟨h.1, Nat.lt_of_lt_of_le h.2 hg9.size⟩))
    have f9 := fld (hg9.obj Hb8.out (by simp))
    have fr9 := fld HR9.out; have ffr9 := fldF HR9.out
    clear hg9 f8
    cases hB : validM (withM m c)
    · go_wp2_with fail
      have hbE := block_cells (cur' := #[]) (block_cells (cur' := #[]) HR9.out 0 (.slice none 0 0)) 1 (.slice none 0 0)
      have flE := fld hbE
      have hgE : Gr [w.heap.size + 1 + 1] w9 ((w9.setCell ⟨w.heap.size + 1 + 1, 0, none⟩ (.slice none 0 0)).setCell ⟨w.heap.size + 1 + 1, 1, none⟩ (.slice none 0 0)) := ((Gr.refl _ _).setCell _ _ (.inl (by simp))).setCell _ _ (.inl (by simp))
      refine bodyPost_ret (v := .tuple #[.agg #[.slice none 0 0, .slice none 0 0], .bool false]) ?_ rfl ?_
      · simp [results, Tryz.results162, go_sem, flE]
      · exact ⟨_, _, by rw [hB], (fun h => by rw [hB] at h; cases h), fun _ => ⟨rfl, rfl⟩, HG9.out.step hgE (fun i hi => .inr (by simp at hi; omega))⟩
    · have HB := hid hB
      clear hB
      go_wp2_with fail
      have hbE := block_cells (cur' := #[]) (block_cells (cur' := #[]) HR9.out 0 (.slice xo1 m.doms.length xc1)) 1 (.slice (some ⟨g7, 0, none⟩) (m.cons.length + 1) c7)
      have flE := fld hbE
      have hgE : Gr [w.heap.size + 1 + 1] w9 ((w9.setCell ⟨w.heap.size + 1 + 1, 0, none⟩ (.slice xo1 m.doms.length xc1)).setCell ⟨w.heap.size + 1 + 1, 1, none⟩ (.slice (some ⟨g7, 0, none⟩) (m.cons.length + 1) c7)) := ((Gr.refl _ _).setCell _ _ (.inl (by simp))).setCell _ _ (.inl (by simp))
      refine bodyPost_ret (v := .tuple #[.agg #[.slice xo1 m.doms.length xc1, .slice (some ⟨g7, 0, none⟩) (m.cons.length + 1) c7], .bool true]) ?_ rfl ?_
      · simp [results, Tryz.results162, go_sem, flE]
      · obtain ⟨j1, j2⟩ := bt_end (V := true) HG9.out (by omega) (fun _ => HM9.out) hgE (by omega) (by omega)
        exact ⟨_, _, by rw [HB.out], fun _ => j1 rfl, (fun h => by rw [HB.out] at h; cases h), j2⟩
end Go.Proofs.YtlekngkcifgonaaGreat

set_option linter.unusedVariables false
set_option linter.unusedSimpArgs false
namespace Go.Proofs.YtlekngkcifgonaaGreat
open Go.RowKit

set_option maxRecDepth 100000 in
set_option maxHeartbeats 4000000 in
theorem improving_c (m : Mod) (o : List Int) (b : Int) (mv ov : Value) (w : World) (hv : ModV [] w mv m) (ho : Nums [] w .i64 ov o) (hb : -1000 ≤ b ∧ b ≤ 1000) (hol : o.length ≤ 1000) (hdl : m.doms.length ≤ 1000) (hs : (withM m (linC o m.doms.length (b - 1))).Small) (hcl : m.cons.length ≤ 1000) (hr9 : ∀ d ∈ m.cons, d.rows.length ≤ 1000) :
    Calls Tryz.prog 78 #[mv, ov, .int .i64 b] w (BtPost (validM (withM m (linC o m.doms.length (b - 1)))) (withM m (linC o m.doms.length (b - 1))) w) := by
  have Hv := hid hv; have Ho := hid ho; have Hs := hid hs; have Hr9 := hid hr9
  obtain ⟨xo, xc, co, cc, rfl⟩ := hv.slices
  obtain ⟨oo, oc, rfl, ⟨ho1, ho2, -⟩, -⟩ := id ho
  obtain ⟨W0, hW0⟩ : ∃ W0, W0 = (w.alloc (.cells #[.slice xo m.doms.length xc, .slice co m.cons.length cc] 26)).alloc (.cells #[.slice none 0 0, .slice none 0 0] 26) := ⟨_, rfl⟩
  have h20 := heap2P w (.cells #[.slice xo m.doms.length xc, .slice co m.cons.length cc] 26) (.cells #[.slice none 0 0, .slice none 0 0] 26)
  have hg0 : Gr [] w W0 := by rw [hW0]; exact ((Gr.refl _ _).alloc _).alloc _
  have hs0 : W0.heap.size = w.heap.size + 2 := by rw [hW0]; simp
  rw [← hW0] at h20
  have H20 := hid h20; have Hg0 := hid hg0; have Hs0 := hid hs0; have HW0 := hid hW0
  have HOe : Hid (Own W0.heap.size (W0.alloc (.cells #[] 3)) 3 (.slice (some ⟨w.heap.size + 1 + 1, 0, none⟩) 0 0) []) := hid (by have h := Own.empty W0 3 (Nat.le_refl _); rw [hs0] at h ⊢; exact h)
  clear hv ho hs hr9 h20 hg0 hs0
  go_enter Tryz.func78, Tryz.ntmps78
  go_wp2_with fail
  rw [← hW0]
  clear hW0
  go_loopw [8, 9] (fun v i wr => ∃ n : Nat, n ≤ m.doms.length ∧ i = .int .i64 n ∧ Own W0.heap.size wr 3 v (idL n) ∧ Gr [] W0 wr) (fun _ i _ => m.doms.length - (intOf i).toNat)
  case atStart => exact ⟨0, Nat.zero_le _, rfl, by rw [show idL 0 = [] from rfl]; exact HOe.out, (Gr.refl _ _).alloc _⟩
  case round =>
  obtain ⟨n, hn, rfl, hown, hg⟩ := hrel
  have Hown := hid hown; have Hg := hid hg
  have hsr := hg.size
  have hsW := Hs0.out
  have hbm := hg.obj H20.out.1 (by simp)
  have hbr := hg.obj H20.out.2 (by simp)
  have Hbr := hid hbr; have Hbm := hid hbm
  have fbm := fld hbm; have fbr := fld hbr; have ffr := fldF hbr
  clear hown hg hbm hbr
  by_cases hlt : n < m.doms.length
  · go_wp2_with (at_builtin; go_loud (refine wp_app1 rfl _ _ 23 rfl W0.heap.size 3 infoI Tryz.underlying23 _ (idL n) rfl (Hown.out.alloc _) _ 1 (n : Int) rfl (cell_new _ _ _) (by rw [idL_len]; omega) (by simp; omega) ?_; intro v' w7 hown7 hb7))
    have hg7 : Gr [] W0 w7 := (Hg.out.alloc _).low hb7 (by omega)
    rw [← idL_succ] at hown7
    exact ⟨⟨n + 1, by omega, by go_num, hown7, hg7⟩, by simp [intOf]; omega⟩
  have hnx : n = m.doms.length := by omega
  subst hnx
  have HA := hid (Hown.out.nums' (S := []) (by simp))
  obtain ⟨vo, vc, hvv, -, -⟩ := HA.out
  subst hvv
  have HVR : Hid (Nums [] wr .i64 (.slice vo m.doms.length vc) (idL m.doms.length)) := hid (by have h := HA.out; rwa [idL_len] at h)
  have HWR : Hid (IntKind.i64.wrap (b - 1) = b - 1) := hid (by rw [IntKind.wrap_i64]; omega)
  have hwr' : IntKind.i64.wrap (b - 1) = b - 1 := HWR.out
  have HK : Hid (∀ W', Gr [w.heap.size + 1] wr W' → W'.cell? ⟨w.heap.size, 0, none⟩ = some (.slice xo m.doms.length xc) ∧ W'.cell? ⟨w.heap.size, 1, none⟩ = some (.slice co m.cons.length cc)) := hid fun W' h => by
    have := fld (h.obj Hbm.out (by simp)); exact ⟨this 0, this 1⟩
  have HRX : Hid (∀ W', Gr [] wr W' → W'.heap[w.heap.size + 1]? = some (.cells #[.slice none 0 0, .slice none 0 0] 26 (0, 0))) := hid fun W' h => h.obj Hbr.out (by simp)
  have Hgw := hid (Hg0.out.trans Hg.out)
  clear Hown HA fbr ffr
  rw [idL_len]
  go_wp2_with fail
  go_region_held_law (fun w' => w'.cell? ⟨w.heap.size, 0, none⟩ = some (.slice xo m.doms.length xc) ∧ w'.cell? ⟨w.heap.size, 1, none⟩ = some (.slice co m.cons.length cc)) (first | exact HK.out _ (Gr.any ((Gr.refl [] wr).drew)) | exact HK.out _ (Gr.any HGa.out) | exact HK.out _ (Gr.any HGb.out) | exact HK.out _ (Gr.setCell (Gr.any HGb.out) _ _ (.inl (by simp))) | exact HK.out _ (Gr.setCell (Gr.setCell (Gr.any HGb.out) _ _ (.inl (by simp))) _ _ (.inl (by simp)))) (first
    | (go_simp; go_at_call 99; refine (copyInts_c _ o _ (Ho.out.gr (Hgw.out.trans (Gr.refl [] wr).drew)) (by omega)).mono ?_; rintro e wa ⟨va, rfl, hoa, hga⟩; obtain ⟨ga, ca, rfl⟩ := hoa.c.form; have HGa : Hid (Gr [] wr wa) := hid (((Gr.refl [] wr).drew).trans hga); have Hoa := hid hoa; clear hga hoa; (try dsimp only))
    | (go_simp; go_at_call 162; (try rw [HWR.out]); refine (specWithConstraint_c m (linC o m.doms.length (b - 1)) _ _ _ (Hv.out.gr (Hgw.out.trans HGa.out)) ⟨_, _, _, rfl, HVR.out.gr HGa.out, Hoa.out.nums' (S := []) (by simp), ⟨none, 0, rfl, by simp [linC], by intro i r hi; simp [linC] at hi⟩⟩ Hs.out hcl Hr9.out (by simp [linC])).mono ?_; rintro e wb ⟨u0, u1, rfl, hmb, hzb, hgb⟩; obtain ⟨⟨sa, sb, sc, rfl⟩, sd, se, sf, rfl⟩ := bt_shape hmb hzb; have HGb : Hid (Gr [] wr wb) := hid (HGa.out.trans hgb); have HSa := hid HGa.out.size; have Hmb := hid hmb; have Hzb := hid hzb; have hrb := HRX.out _ HGb.out; have HRb := hid hrb; have frb := fld hrb; have ffrb := fldF hrb; clear hgb hmb hzb hrb; (try dsimp only)))
  all_goals
    go_wp2_with fail
    have hbE := block_cells (cur' := #[]) (block_cells (cur' := #[]) HRb.out 0 (.slice sa sb sc)) 1 (.slice sd se sf)
    have flE := fld hbE
    have hgE : Gr [w.heap.size + 1] wb ((wb.setCell ⟨w.heap.size + 1, 0, none⟩ (.slice sa sb sc)).setCell ⟨w.heap.size + 1, 1, none⟩ (.slice sd se sf)) := ((Gr.refl _ _).setCell _ _ (.inl (by simp))).setCell _ _ (.inl (by simp))
    refine bodyPost_ret (v := .tuple #[.agg #[.slice sa sb sc, .slice sd se sf], .bool (validM (withM m (linC o m.doms.length (b - 1))))]) ?_ rfl ?_
    · simp [results, Tryz.results78, go_sem, flE]
    · obtain ⟨k1, k2⟩ := bt_end (Hgw.out.trans HGb.out) (by have := HSa.out; omega) Hmb.out hgE (by have := HSa.out; omega) (by omega)
      exact ⟨_, _, rfl, k1, Hzb.out, k2⟩
end Go.Proofs.YtlekngkcifgonaaGreat
