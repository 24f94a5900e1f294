/-
  Walk of FnMinimizeCut.
-/
import Derived.Test.YtdpcjfbnakfflaaGreatMcP
import Derived.Test.YtdpcjfbnakfflaaGreatWc
import Derived.Test.YtdpcjfbnakfflaaGreatG14
import Derived.Test.YtdpcjfbnakfflaaGreatLPS
import Derived.Test.YtdpcjfbnakfflaaGreatEH
set_option linter.unusedVariables false
set_option linter.unusedSimpArgs false
namespace Go.Proofs.YtdpcjfbnakfflaaGreat
open Go.RowKit

theorem small_lin {m : Mod} {o : List Int} {b : Int} (h : m.Small) (ho : o.length ≤ 5) (hc : m.cons.length ≤ 1000) (hd : m.doms.length ≤ 4) : (withM m (linC o m.doms.length b)).Small :=
  ⟨h.doms, by show (m.cons ++ [_]).length ≤ _; simp; omega, fun c hc => by
    rcases List.mem_append.1 (show c ∈ m.cons ++ [linC o m.doms.length b] from hc) with hc | hc
    · exact h.con c hc
    · simp at hc; subst hc
      exact ⟨by show (idL _).length ≤ _; rw [idL_len]; omega, by show o.length ≤ _; omega, by simp [linC], by simp [linC]⟩⟩
theorem VM.lin {m : Mod} {D : List Nat} {o : List Int} {b : Int} (h : VM m D) (hc : m.cons.length < 6) (ho : objB o m.doms.length = true) (hb : -999 ≤ b ∧ b ≤ 999) : VM (withM m (linC o m.doms.length b)) D := by
  have h1 : m.doms.length = D.length := by rw [h.doms, ints_len]
  refine ⟨h.doms, h.len, h.below, fun c hc => ?_, by show (m.cons ++ [_]).length ≤ _; simp; omega⟩
  rcases List.mem_append.1 (show c ∈ m.cons ++ [linC o m.doms.length b] from hc) with hc | hc
  · exact h.cons c hc
  · simp at hc; subst hc
    rw [← h1]
    exact linC_vc ho (by have := h.len; omega) hb
theorem objVal_dotN {o x : List Int} {n : Nat} (ho : objB o n = true) (hl : x.length = n) (h4 : n ≤ 4) (hx : ∀ y ∈ x, 0 ≤ y ∧ y ≤ 5) : objVal o x = dot o x := by
  have h1 := obj_len ho
  unfold objVal
  rw [if_pos ⟨by omega, by omega, allB_iff.2 h1.2, allB_iff.2 hx⟩]
def McCut (m : Mod) (c : Con) (V : Bool) (w0 wx : World) (p b : Value) : Prop :=
  ∃ (bk : Nat) (u0 u1 : Value), p = .pointer (some ⟨bk, 0, none⟩) ∧ b = .bool V ∧ wx.heap[bk]? = some (.cells #[u0, u1] 31 (0, 0)) ∧ (V = true → ModV [] wx (.agg #[u0, u1]) (withM m c)) ∧ Gr [] w0 wx
theorem mc_meet {m : Mod} {c : Con} {V : Bool} {w0 wa wb WE : World} {bk B : Nat} {u0 u1 : Value} (hbk : w0.heap.size ≤ bk) (hbb : WE.heap[bk]? = some (.cells #[u0, u1] 31 (0, 0))) (hg : Gr [] w0 wb) (hm : V = true → ModM (New B wb) wb (.agg #[u0, u1]) (withM m c)) (hgE : Gr [bk] wb WE) (hne : bk < B ∨ wb.heap.size ≤ bk) (hB : w0.heap.size ≤ wa.heap.size) : McCut m c V w0 WE (.pointer (some ⟨bk, 0, none⟩)) (.bool V) :=
  ⟨bk, u0, u1, rfl, rfl, hbb, fun h => ((hm h).gr' (M' := New B wb) hgE (fun b hb hm => by have h1 := hm.1; have h2 := hm.2; simp at hb; omega) (fun b _ h => h)).mod (by simp), hg.step hgE (fun i hi => .inr (by simp at hi; omega))⟩
theorem wc_shape {V : Bool} {M : Nat → Prop} {w : World} {u0 u1 : Value} {m : Mod} (h1 : V = true → ModM M w (.agg #[u0, u1]) m) (h2 : V = false → u0 = .slice none 0 0 ∧ u1 = .slice none 0 0) : (∃ a n c, u0 = .slice a n c) ∧ ∃ a n c, u1 = .slice a n c := by
  cases V with
  | false => obtain ⟨rfl, rfl⟩ := h2 rfl; exact ⟨⟨_, _, _, rfl⟩, _, _, _, rfl⟩
  | true =>
    obtain ⟨dv, cv, e, n1, n2⟩ := h1 rfl
    obtain ⟨a, c, rfl, -⟩ := n1
    obtain ⟨a2, c2, rfl, -⟩ := n2
    simp only [Value.agg.injEq, Array.mk.injEq, List.cons.injEq, and_true] at e
    obtain ⟨rfl, rfl⟩ := e
    exact ⟨⟨_, _, _, rfl⟩, _, _, _, rfl⟩


set_option maxRecDepth 100000 in
set_option maxHeartbeats 8000000 in
theorem FnMinimizeCut_c (v : Value) (bs : List Int) (ao : Option Addr) (cap : Nat) (w : World) (hv : v = .slice ao bs.length cap) (hlen : bs.length ≤ 9223372036854775807) (hcap : bs.length ≤ cap) (hc : Cells [] w .u8 ao bs) (hb : ∀ b ∈ bs, 0 ≤ b ∧ b ≤ 255) :
    Calls Tryz.prog 10 #[v] w fun e w' => e = .returned (.bool true) ∧ Gr [] w w' := by
  subst hv
  have Hc := hid hc; have Hb := hid hb; clear hc hb
  by_cases hbig : 1048576 < bs.length
  · go_enter Tryz.func10, Tryz.ntmps10
    go_wp2_with fail
    go_ret
    exact ⟨rfl, Gr.refl _ _⟩
  have hbig' : decide ((1048576 : Int) < (bs.length : Int)) = false := by simp; omega
  go_enter Tryz.func10, Tryz.ntmps10
  go_wp2_with fail
  have hcall := DrawMinimize_c _ bs w ao cap rfl hlen hcap Hc.out Hb.out
  (with_reducible refine hcall.mono ?_)
  clear hcall
  rintro e w1 ⟨m, mv, ov, o, rfl, hmv, hms, ⟨hd1, hd4⟩, hO, ⟨hOl, -⟩, hg1⟩
  obtain ⟨xo, xc, co, cc, rfl⟩ := hmv.slices
  have ha2 : Gr [] w1 (w1.alloc (.cells #[.slice xo m.doms.length xc, .slice co m.cons.length cc] 31)) := (Gr.refl _ _).alloc _
  have hb2 : (w1.alloc (.cells #[.slice xo m.doms.length xc, .slice co m.cons.length cc] 31)).heap[w1.heap.size]? = some (.cells #[.slice xo m.doms.length xc, .slice co m.cons.length cc] 31 (0, 0)) := heap_alloc_new _ _
  have HG2 := hid (hg1.trans ha2); have Hmv2 := hid (hmv.gr ha2); have Hms := hid hms; have Hb2 := hid hb2
  have HO2 := hid (hO.gr ha2); have HOL := hid hOl
  obtain ⟨oo, oc, rfl, ⟨hO1, hO2, -⟩, -⟩ := hO
  clear hmv hms ha2 hb2 hg1 hbig
  obtain ⟨D, hD⟩ := openVM m
  have HD := hid hD; clear hD
  go_wp2_with fail
  have hcall := Minimize_c m o _ _ _ Hmv2.out HO2.out D HD.out
  (with_reducible refine hcall.mono ?_)
  clear hcall
  obtain ⟨Y, hY⟩ : ∃ Y, Y = minO m D o := ⟨_, rfl⟩
  rw [← hY]
  have HY := hid hY; clear hY
  rintro e w3 ⟨v3, rfl, hn3, hg3⟩
  have hn3 := hn3.nums (S := []) (by simp)
  have Hn3 := hid hn3
  obtain ⟨zo, zc, rfl, ⟨hz1, hz2, -⟩, -⟩ := hn3
  have fl3 := fld (hg3.obj Hb2.out (by simp))
  have HG3 := hid hg3; clear hg3
  go_wp2_with fail
  have hcall := specMinimize_c m o _ _ _ (Hmv2.out.gr HG3.out) (HO2.out.gr HG3.out) Hms.out D HD.out
  (with_reducible refine hcall.mono ?_)
  clear hcall
  rw [← HY.out]
  rintro e w4 ⟨v4, rfl, hn4, hg4⟩
  have Hn4 := hid hn4
  have HG4 := hid (HG3.out.trans hg4); have Hg4 := hid hg4
  have fl4 := fld (HG4.out.obj Hb2.out (by simp))
  obtain ⟨ok, hok⟩ : ∃ ok, ok = Y.isSome := ⟨_, rfl⟩
  rw [← hok]
  have Hok := hid hok
  obtain ⟨ys, hys⟩ : ∃ ys, ys = Y.getD [] := ⟨_, rfl⟩
  rw [← hys] at Hn3 Hn4 hz1 ⊢
  have Hyl := hid hys
  have hne : (ok != ok) = false := by cases ok <;> rfl
  have heq : (ok == ok) = true := by cases ok <;> rfl
  clear hn4 hg4 fl3 hok hys
  go_wp2_with fail
  have hcall := lawEqualInts_c ys ys _ _ _ (Hn3.out.gr Hg4.out) Hn4.out
  (with_reducible refine hcall.mono ?_)
  clear hcall
  rw [decide_eq_true (rfl : ys = ys)]
  rintro e w5 ⟨rfl, hg5⟩
  have HG5 := hid (HG4.out.trans hg5); have Hn5 := hid (Hn3.out.gr (Hg4.out.trans hg5)); have Hm5 := hid (Hn4.out.gr hg5)
  have Hb5 := hid (HG5.out.obj Hb2.out (by simp))
  clear hg5 fl4
  cases hY : Y with
  | none =>
    have Hokf : ok = false := by rw [Hok.out, hY]; rfl
    subst Hokf
    clear hY
    go_wp2_with fail
    have hcall := lawEqualInts_c ys ys _ _ _ Hn5.out Hm5.out
    (with_reducible refine hcall.mono ?_)
    clear hcall
    rw [decide_eq_true (rfl : ys = ys)]
    rintro e w7 ⟨rfl, hg7⟩
    go_wp2_with fail
    go_ret
    exact ⟨rfl, (HG2.out.trans HG5.out).trans hg7⟩
  | some y =>
  have Hokt : ok = true := by rw [Hok.out, hY]; rfl
  subst Hokt
  have hysy : ys = y := by rw [Hyl.out, hY]; rfl
  subst hysy
  have hin : (validM m && objB o m.doms.length) = true := by
    cases h : (validM m && objB o m.doms.length)
    · exfalso; have := HY.out; rw [minO_no h, hY] at this; cases this
    · rfl
  have hbest : bestO (dot o) (sols m.cons D) = some ys := by
    have := HY.out
    rw [minO_yes hin, hY] at this
    exact this.symm
  simp only [Bool.and_eq_true] at hin
  obtain ⟨hval, hob⟩ := hin
  have HVM := hid (HD.out hval)
  have Hval := hid hval; have Hob := hid hob; have Hbest := hid hbest
  have HDL : Hid (m.doms.length = D.length) := hid (by rw [HVM.out.doms, ints_len])
  have Hys : Hid (ys ∈ sols m.cons D) := hid (bestO_mem hbest)
  have HYL : Hid (ys.length = D.length) := hid (solv Hys.out).1
  obtain ⟨av, hav⟩ : ∃ av, av = objVal o ys := ⟨_, rfl⟩
  have hdot : av = dot o ys := by rw [hav, objVal_dotN Hob.out (by rw [HYL.out, HDL.out]) (by have := HVM.out.len; have := HDL.out; omega) (solv Hys.out).2]
  have hbd := dot_big (o := o) (x := ys) (obj_len hob).2 (solv Hys.out).2
  rw [← hdot] at hbd
  have hav1 : -225 ≤ av := by have := HOL.out; omega
  have hav2 : av ≤ 225 := by have := HOL.out; omega
  obtain ⟨V, hV⟩ : ∃ V, V = decide (m.cons.length < 6) := ⟨_, rfl⟩
  have HV1 : Hid (validM (withM m (linC o m.doms.length (av - 1))) = V) := hid (by rw [hV]; exact validM_lin HVM.out hval hob (by omega))
  have HV2 : Hid (validM (withM m (linC o m.doms.length av)) = V) := hid (by rw [hV]; exact validM_lin HVM.out hval hob (by omega))
  have HCL : Hid (m.cons.length ≤ 1000) := hid (by have := HVM.out.many; omega)
  have hxd : ys.length ≤ 4 := by have := HYL.out; have := HVM.out.len; omega
  have HWR : Hid (IntKind.i64.wrap (av - 1) = av - 1) := hid (by rw [IntKind.wrap_i64]; omega)
  have Hav := hid hav; have Hdot := hid hdot; have HV := hid hV
  clear hval hob hY hbest hav hdot hbd hV
  go_wp2_with fail
  have ho5 : Own w5.heap.size (w5.alloc (.cells #[] 3)) 3 (.slice (some ⟨w5.heap.size, 0, none⟩) 0 0) [] := Own.empty _ _ (Nat.le_refl _)
  have hg55 : Gr [] w5 (w5.alloc (.cells #[] 3)) := (Gr.refl _ _).alloc _
  have Ho5 := hid ho5; have Hg55 := hid hg55
  clear ho5 hg55
  go_loopw [9, 10] (fun v i wr => ∃ n : Nat, n ≤ ys.length ∧ i = .int .i64 n ∧ Own w5.heap.size wr 3 v (idL n) ∧ Gr [] w5 wr) (fun _ i _ => ys.length - (intOf i).toNat)
  case atStart => exact ⟨0, Nat.zero_le _, rfl, Ho5.out, Hg55.out⟩
  case round =>
  obtain ⟨n, hn, rfl, hown, hg⟩ := hrel
  have hsr := hg.size
  have Hown := hid hown; have Hg := hid hg
  clear hown hg
  by_cases hlt : n < ys.length
  · go_wp2_with (at_builtin; go_loud (refine wp_app1 rfl _ _ 22 rfl w5.heap.size 3 infoInt Tryz.underlying22 _ (idL n) rfl (Hown.out.alloc _) _ 1 (n : Int) rfl (cell_new _ _ _) (by rw [idL_len]; omega) (by simp; omega) ?_; intro v' w7 hown7 hb7))
    have hg7 : Gr [] w5 w7 := (Hg.out.alloc _).low hb7 (Nat.le_refl _)
    rw [← idL_succ] at hown7
    exact ⟨⟨n + 1, by omega, by go_num, hown7, hg7⟩, by simp [intOf]; omega⟩
  have hnx : n = ys.length := by omega
  subst hnx
  have HA := hid (Hown.out.nums' (S := []) (by simp))
  obtain ⟨vo, vc, hvv, -, -⟩ := HA.out
  subst hvv
  have HVR1 : Hid (Nums [] wr .i64 (.slice vo ys.length vc) (idL m.doms.length)) := hid (by
    have h := HA.out
    rw [idL_len] at h
    have e : idL m.doms.length = idL ys.length := by rw [HYL.out, HDL.out]
    rw [e]; exact h)
  have HGr := hid (HG5.out.trans Hg.out)
  have HB1 := hid (HGr.out.obj Hb2.out (by simp)); have HO1 := hid (HO2.out.gr HGr.out); have HX1 := hid (Hn5.out.gr Hg.out); have HM1 := hid (Hmv2.out.gr HGr.out)
  have flr := fld HB1.out
  clear Hown HA
  rw [idL_len]
  go_wp2_with fail
  go_cut [11, 12] from 67 to 78 (fun p b wx => McCut m (linC o m.doms.length (av - 1)) V wr wx p b)
  case first =>
    have HBX : Hid (∀ W, Gr [] wr W → W.heap[w1.heap.size]? = some (.cells #[.slice xo m.doms.length xc, .slice co m.cons.length cc] 31 (0, 0))) := hid fun W h => h.obj HB1.out (by simp)
    have HS : Hid (∀ W, Gr [] wr W → (W.cell? ⟨w1.heap.size, 0, none⟩ = some (.slice xo m.doms.length xc) ∧ W.cell? ⟨w1.heap.size, 1, none⟩ = some (.slice co m.cons.length cc)) ∧ Gr [] wr W) := hid fun W h => ⟨⟨fld (HBX.out _ h) 0, fld (HBX.out _ h) 1⟩, h⟩
    have HCV : Hid (∀ W, Gr [] wr W → ConV [] W (.agg #[.int .i64 1, .slice vo ys.length vc, .slice oo o.length oc, .int .i64 (av - 1), .slice none 0 0]) (linC o m.doms.length (av - 1))) := hid fun W h => ⟨_, _, _, rfl, HVR1.out.gr h, HO1.out.gr h, ⟨none, 0, rfl, by simp [linC], by intro i r hi; simp [linC] at hi⟩⟩
    have HSM : Hid (withM m (linC o m.doms.length (av - 1))).Small := hid (small_lin Hms.out HOL.out (by have := HVM.out.many; omega) (by have := HVM.out.len; have := HDL.out; omega))
    have hwm : w1.heap.size < wr.heap.size := lt_of_block HB1.out
    have ne0 : w1.heap.size ≠ wr.heap.size := by omega
    have ne0' := ne0.symm
    go_region_held_law (fun W => (W.cell? ⟨w1.heap.size, 0, none⟩ = some (.slice xo m.doms.length xc) ∧ W.cell? ⟨w1.heap.size, 1, none⟩ = some (.slice co m.cons.length cc)) ∧ Gr [] wr W)
      ((refine HS.out _ ?_; first | exact HGb.out | exact HGa.out | exact (Gr.refl [] wr).drew | assumption | (go_split_ands; first | assumption | exact Gr.drew (by assumption) | exact Gr.alloc (by assumption) _ | exact Gr.alloc HGb.out _ | exact Gr.alloc HGa.out _ | exact Gr.setCell (Gr.setCell HGb.out _ _ (.inr (by have h9 := HGa.out.size; have h8 := HGb.out.size; (try simp); (try omega)))) _ _ (.inr (by have h9 := HGa.out.size; have h8 := HGb.out.size; (try simp); (try omega))) | exact Gr.setCell (by assumption) _ _ (.inr (by have h9 := HGa.out.size; have h8 := HGb.out.size; (try simp); (try omega))) | exact Gr.setCell (Gr.setCell (by assumption) _ _ (.inr (by have h9 := HGa.out.size; have h8 := HGb.out.size; (try simp); (try omega)))) _ _ (.inr (by have h9 := HGa.out.size; have h8 := HGb.out.size; (try simp); (try omega))))))
      (first
      | (go_simp; go_at_call 30; refine (ObjectiveValue_c o ys _ _ _ (HO1.out.gr (by first | exact (Gr.refl [] wr).drew | exact ((Gr.refl [] wr).drew).alloc _)) (HX1.out.gr (by first | exact (Gr.refl [] wr).drew | exact ((Gr.refl [] wr).drew).alloc _))).mono ?_; rw [← Hav.out]; rintro e wa ⟨rfl, hga⟩; have hgx : Gr [] wr wa := Gr.trans (by first | exact (Gr.refl [] wr).drew | exact ((Gr.refl [] wr).drew).alloc _) hga; have HGa := hid hgx; have HSa := hid hga.size; have fba := fld (HBX.out _ hgx); (try (have hz : wa.heap[wr.heap.size]? = some (.cells #[.slice none 0 0, .slice none 0 0] 31 (0, 0)) := hga.obj (heap_alloc_new wr.drew (.cells #[.slice none 0 0, .slice none 0 0] 31)) (by simp); have HZa := hid hz; have foz := fld hz; have ffz := fldF hz; clear hz)); clear hga hgx; (try dsimp only))
      | (go_simp; go_at_call 48; (try rw [HWR.out]); refine (WithConstraint_c m (linC o m.doms.length (av - 1)) _ _ _ (HM1.out.gr (by first | exact HGa.out | exact HGa.out.alloc _)) (HCV.out _ (by first | exact HGa.out | exact HGa.out.alloc _)) HSM.out HCL.out).mono ?_; rw [HV1.out]; rintro e wb ⟨u0, u1, rfl, hmb, hzb, hgb⟩; obtain ⟨⟨sa, sb, sc, rfl⟩, sd, se, sf, rfl⟩ := wc_shape hmb hzb; have hgx : Gr [] wr wb := Gr.trans (by first | exact HGa.out | exact HGa.out.alloc _) hgb; have HGb := hid hgx; have HSb := hid hgb.size; have Hmb := hid hmb; have fbb := fld (HBX.out _ hgx); (try (have hz : wb.heap[wr.heap.size]? = some (.cells #[.slice none 0 0, .slice none 0 0] 31 (0, 0)) := hgb.obj (HZa.out) (by simp); have HZb := hid hz; have foz := fld hz; have ffz := fldF hz; clear hz)); (try (have hz : wb.heap[wa.heap.size]? = some (.cells #[.slice none 0 0, .slice none 0 0] 31 (0, 0)) := hgb.obj (heap_alloc_new wa (.cells #[.slice none 0 0, .slice none 0 0] 31)) (by simp); have HZb := hid hz; have foz := fld hz; have ffz := fldF hz; clear hz)); clear hgb hgx hmb hzb; (try dsimp only)))
    all_goals
      go_wp2_with fail
      go_meet
      first
        | exact mc_meet HGb.out.size (heap_alloc_new _ _) HGb.out (fun h => Hmb.out h) ((Gr.refl _ _).alloc _) (.inr (Nat.le_refl _)) HGa.out.size
        | exact mc_meet (by have h9 := HGa.out.size; (try simp); (try omega)) (set2 _ _ _ _ HZb.out).1 HGb.out (fun h => Hmb.out h) (set2 _ _ _ _ HZb.out).2 (.inl (by have h9 := HGa.out.size; have h8 := HSa.out; (try simp at h8); first | omega | (simp; done) | (simp; omega))) (by have h9 := HGa.out.size; first | exact h9 | (simp; omega))
  case rest =>
  obtain ⟨bk1, u0, u1, rfl, rfl, hbb1, hmm1, hgx1⟩ := hcut
  have Hbb1 := hid hbb1; have Hmm1 := hid hmm1
  have HB2 := hid (hgx1.obj HB1.out (by simp)); have HO2' := hid (HO1.out.gr hgx1); have HX2 := hid (HX1.out.gr hgx1); have HM2 := hid (HM1.out.gr hgx1); have HVR2 := hid (HVR1.out.gr hgx1)
  have HGX1 := hid hgx1
  clear hbb1 hmm1 hgx1 flr HO2
  have HO2 := HO2'
  clear HO2'
  generalize hWd : wc = wd at *
  clear hWd
  have fl2 := fld HB2.out
  go_wp2_with fail
  go_cut [13, 14] from 79 to 89 (fun p b wx => McCut m (linC o m.doms.length (av)) V wd wx p b)
  case first =>
    have HBX : Hid (∀ W, Gr [] wd W → W.heap[w1.heap.size]? = some (.cells #[.slice xo m.doms.length xc, .slice co m.cons.length cc] 31 (0, 0))) := hid fun W h => h.obj HB2.out (by simp)
    have HS : Hid (∀ W, Gr [] wd W → (W.cell? ⟨w1.heap.size, 0, none⟩ = some (.slice xo m.doms.length xc) ∧ W.cell? ⟨w1.heap.size, 1, none⟩ = some (.slice co m.cons.length cc)) ∧ Gr [] wd W) := hid fun W h => ⟨⟨fld (HBX.out _ h) 0, fld (HBX.out _ h) 1⟩, h⟩
    have HCV : Hid (∀ W, Gr [] wd W → ConV [] W (.agg #[.int .i64 1, .slice vo ys.length vc, .slice oo o.length oc, .int .i64 (av), .slice none 0 0]) (linC o m.doms.length (av))) := hid fun W h => ⟨_, _, _, rfl, HVR2.out.gr h, HO2.out.gr h, ⟨none, 0, rfl, by simp [linC], by intro i r hi; simp [linC] at hi⟩⟩
    have HSM : Hid (withM m (linC o m.doms.length (av))).Small := hid (small_lin Hms.out HOL.out (by have := HVM.out.many; omega) (by have := HVM.out.len; have := HDL.out; omega))
    have hwm : w1.heap.size < wd.heap.size := lt_of_block HB2.out
    have ne0 : w1.heap.size ≠ wd.heap.size := by omega
    have ne0' := ne0.symm
    go_region_held_law (fun W => (W.cell? ⟨w1.heap.size, 0, none⟩ = some (.slice xo m.doms.length xc) ∧ W.cell? ⟨w1.heap.size, 1, none⟩ = some (.slice co m.cons.length cc)) ∧ Gr [] wd W)
      ((refine HS.out _ ?_; first | exact HGb.out | exact HGa.out | exact (Gr.refl [] wd).drew | assumption | (go_split_ands; first | assumption | exact Gr.drew (by assumption) | exact Gr.alloc (by assumption) _ | exact Gr.alloc HGb.out _ | exact Gr.alloc HGa.out _ | exact Gr.setCell (Gr.setCell HGb.out _ _ (.inr (by have h9 := HGa.out.size; have h8 := HGb.out.size; (try simp); (try omega)))) _ _ (.inr (by have h9 := HGa.out.size; have h8 := HGb.out.size; (try simp); (try omega))) | exact Gr.setCell (by assumption) _ _ (.inr (by have h9 := HGa.out.size; have h8 := HGb.out.size; (try simp); (try omega))) | exact Gr.setCell (Gr.setCell (by assumption) _ _ (.inr (by have h9 := HGa.out.size; have h8 := HGb.out.size; (try simp); (try omega)))) _ _ (.inr (by have h9 := HGa.out.size; have h8 := HGb.out.size; (try simp); (try omega))))))
      (first
      | (go_simp; go_at_call 30; refine (ObjectiveValue_c o ys _ _ _ (HO2.out.gr (by first | exact (Gr.refl [] wd).drew | exact ((Gr.refl [] wd).drew).alloc _)) (HX2.out.gr (by first | exact (Gr.refl [] wd).drew | exact ((Gr.refl [] wd).drew).alloc _))).mono ?_; rw [← Hav.out]; rintro e wa ⟨rfl, hga⟩; have hgx : Gr [] wd wa := Gr.trans (by first | exact (Gr.refl [] wd).drew | exact ((Gr.refl [] wd).drew).alloc _) hga; have HGa := hid hgx; have HSa := hid hga.size; have fba := fld (HBX.out _ hgx); (try (have hz : wa.heap[wd.heap.size]? = some (.cells #[.slice none 0 0, .slice none 0 0] 31 (0, 0)) := hga.obj (heap_alloc_new wd.drew (.cells #[.slice none 0 0, .slice none 0 0] 31)) (by simp); have HZa := hid hz; have foz := fld hz; have ffz := fldF hz; clear hz)); clear hga hgx; (try dsimp only))
      | (go_simp; go_at_call 48; (try rw [HWR.out]); refine (WithConstraint_c m (linC o m.doms.length (av)) _ _ _ (HM2.out.gr (by first | exact HGa.out | exact HGa.out.alloc _)) (HCV.out _ (by first | exact HGa.out | exact HGa.out.alloc _)) HSM.out HCL.out).mono ?_; rw [HV2.out]; rintro e wb ⟨u0, u1, rfl, hmb, hzb, hgb⟩; obtain ⟨⟨sa, sb, sc, rfl⟩, sd, se, sf, rfl⟩ := wc_shape hmb hzb; have hgx : Gr [] wd wb := Gr.trans (by first | exact HGa.out | exact HGa.out.alloc _) hgb; have HGb := hid hgx; have HSb := hid hgb.size; have Hmb := hid hmb; have fbb := fld (HBX.out _ hgx); (try (have hz : wb.heap[wd.heap.size]? = some (.cells #[.slice none 0 0, .slice none 0 0] 31 (0, 0)) := hgb.obj (HZa.out) (by simp); have HZb := hid hz; have foz := fld hz; have ffz := fldF hz; clear hz)); (try (have hz : wb.heap[wa.heap.size]? = some (.cells #[.slice none 0 0, .slice none 0 0] 31 (0, 0)) := hgb.obj (heap_alloc_new wa (.cells #[.slice none 0 0, .slice none 0 0] 31)) (by simp); have HZb := hid hz; have foz := fld hz; have ffz := fldF hz; clear hz)); clear hgb hgx hmb hzb; (try dsimp only)))
    all_goals
      go_wp2_with fail
      go_meet
      first
        | exact mc_meet HGb.out.size (heap_alloc_new _ _) HGb.out (fun h => Hmb.out h) ((Gr.refl _ _).alloc _) (.inr (Nat.le_refl _)) HGa.out.size
        | exact mc_meet (by have h9 := HGa.out.size; (try simp); (try omega)) (set2 _ _ _ _ HZb.out).1 HGb.out (fun h => Hmb.out h) (set2 _ _ _ _ HZb.out).2 (.inl (by have h9 := HGa.out.size; have h8 := HSa.out; (try simp at h8); first | omega | (simp; done) | (simp; omega))) (by have h9 := HGa.out.size; first | exact h9 | (simp; omega))
  case rest =>
  obtain ⟨bk2, v0, v1, rfl, rfl, hbb2, hmm2, hgx2⟩ := hcut
  have Hbb2 := hid hbb2; have Hmm2 := hid hmm2; have HGX2 := hid hgx2
  have fa := fld (hgx2.obj Hbb1.out (by simp)); have fb := fld hbb2
  clear hbb2 hmm2 hgx2 fl2
  cases V with
  | false =>
    go_wp2_with fail
    go_ret
    exact ⟨rfl, ((HG2.out.trans HGr.out).trans HGX1.out).trans HGX2.out⟩
  | true =>
    have hc6 : m.cons.length < 6 := of_decide_eq_true HV.out.symm
    have HVMa := hid (HVM.out.lin (b := av - 1) hc6 Hob.out (by omega))
    have HVMb := hid (HVM.out.lin (b := av) hc6 Hob.out (by omega))
    have Hca : Hid (countI (withM m (linC o m.doms.length (av - 1))) D = 0) := hid (by
      unfold countI
      rw [HV1.out, if_pos rfl]
      show ((sols (m.cons ++ [linC o m.doms.length (av - 1)]) D).length : Int) = 0
      rw [HDL.out, Hdot.out, cut_none Hbest.out]; rfl)
    obtain ⟨k, hk, hk1⟩ : ∃ k : Nat, countI (withM m (linC o m.doms.length av)) D = (k : Int) ∧ 0 < k := by
      refine ⟨(sols (m.cons ++ [linC o m.doms.length av]) D).length, ?_, ?_⟩
      · unfold countI
        rw [HV2.out, if_pos rfl]; rfl
      · rw [HDL.out, Hdot.out]; exact cut_some Hbest.out
    have hk2 : decide ((0 : Int) < (k : Int)) = true := by simp; omega
    have Hcb := hid hk
    clear hk hc6
    go_wp2_with fail
    have hcall := CountSolutions_c (withM m (linC o m.doms.length (av - 1))) _ _ ((Hmm1.out (by trivial)).gr HGX2.out) D (fun _ => HVMa.out)
    (with_reducible refine hcall.mono ?_)
    clear hcall
    rw [Hca.out]
    rintro e w8 ⟨rfl, hg8⟩
    have Hg8 := hid hg8
    have fb8 := fld (hg8.obj Hbb2.out (by simp))
    clear hg8 fb fa
    go_wp2_with fail
    have hcall := CountSolutions_c (withM m (linC o m.doms.length av)) _ _ ((Hmm2.out (by trivial)).gr Hg8.out) D (fun _ => HVMb.out)
    (with_reducible refine hcall.mono ?_)
    clear hcall
    rw [Hcb.out]
    rintro e w9 ⟨rfl, hg9⟩
    go_wp2_with fail
    go_ret
    exact ⟨rfl, ((((HG2.out.trans HGr.out).trans HGX1.out).trans HGX2.out).trans Hg8.out).trans hg9⟩

end Go.Proofs.YtdpcjfbnakfflaaGreat

