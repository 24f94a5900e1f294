/-
  Walks: ProveOptimal and CheckOptimal, on both sides.
-/
import Derived.Test.YtlekngkcifgonaaGreatXBBtBuBv
import Derived.Test.YtlekngkcifgonaaGreatXBUsToPc
import Derived.Test.YtlekngkcifgonaaGreatXSy1ToRe
set_option linter.unusedVariables false
set_option linter.unusedSimpArgs false
namespace Go.Proofs.YtlekngkcifgonaaGreat
open Go.RowKit

theorem vc_rows {c : Con} {n : Nat} (h : VC c n) : c.rows.length ≤ 1000 := by
  have hf := h.fits
  by_cases h0 : 1 ≤ c.kind ∧ c.kind ≤ 9
  · have : c.kind = 1 ∨ c.kind = 2 ∨ (c.kind = 3 ∨ c.kind = 9) ∨ c.kind = 4 ∨ c.kind = 5 ∨ c.kind = 6 ∨ c.kind = 7 ∨ c.kind = 8 := by omega
    rcases this with h | h | h | h | h | h | h | h
    · rw [fitsB_1 h] at hf; simp only [Bool.and_eq_true, beq_iff_eq] at hf; omega
    · rw [fitsB_2 h] at hf; simp only [Bool.and_eq_true, beq_iff_eq] at hf; omega
    · rw [fitsB_3 h] at hf; simp only [Bool.and_eq_true, beq_iff_eq] at hf; omega
    · rw [fitsB_4 h] at hf; simp only [Bool.and_eq_true, beq_iff_eq] at hf; omega
    · rw [fitsB_5 h, Bool.and_eq_true] at hf; have := rowsIn_pos hf.2; omega
    · rw [fitsB_6 h] at hf; simp only [Bool.and_eq_true, beq_iff_eq] at hf; omega
    · rw [fitsB_7 h] at hf; simp only [Bool.and_eq_true, beq_iff_eq] at hf; omega
    · rw [fitsB_8 h, Bool.and_eq_true, Bool.and_eq_true, Bool.and_eq_true] at hf; have := rowsIn_pos hf.1.1.1; omega
  · rw [fitsB_0 h0] at hf; cases hf

def BtCut (V : Bool) (M : Mod) (w0 wx : World) (p b : Value) : Prop :=
  ∃ (bk : Nat) (a1 : Option Addr) (n1 c1 : Nat) (a2 : Option Addr) (n2 c2 : Nat), p = .pointer (some ⟨bk, 0, none⟩) ∧ b = .bool V ∧ wx.heap[bk]? = some (.cells #[.slice a1 n1 c1, .slice a2 n2 c2] 26 (0, 0)) ∧ (V = true → ModV [] wx (.agg #[.slice a1 n1 c1, .slice a2 n2 c2]) M) ∧ Gr [] w0 wx
theorem bt_meet {V : Bool} {M : Mod} {w0 wb WE : World} {bk B : Nat} {a1 a2 : Option Addr} {n1 c1 n2 c2 : Nat} (hbk : w0.heap.size ≤ bk) (hbb : WE.heap[bk]? = some (.cells #[.slice a1 n1 c1, .slice a2 n2 c2] 26 (0, 0))) (hg : Gr [] w0 wb) (hm : V = true → ModM (New B wb) wb (.agg #[.slice a1 n1 c1, .slice a2 n2 c2]) M) (hgE : Gr [bk] wb WE) (hne : bk < B ∨ wb.heap.size ≤ bk) : BtCut V M w0 WE (.pointer (some ⟨bk, 0, none⟩)) (.bool V) :=
  ⟨bk, _, _, _, _, _, _, rfl, rfl, hbb, fun h => ((hm h).gr' (M' := New B wb) hgE (fun b hb hm => by have h1 := hm.1; have h2 := hm.2; simp at hb; omega) (fun b _ h => h)).mod (by simp), hg.step hgE (fun i hi => .inr (by simp at hi; omega))⟩
theorem optO_no {m : Mod} {D : List Nat} {o x : List Int} (h : betB m D o x = false) : optO m D o x = none := by unfold optO; rw [h]; rfl
theorem optO_yes {m : Mod} {D : List Nat} {o x : List Int} (h : betB m D o x = true) : optO m D o x = infO (lowM m o x).cons D := by unfold optO; rw [h]; rfl

set_option maxRecDepth 100000 in
set_option maxHeartbeats 4000000 in
theorem CheckOptimal_c (m : Mod) (D : List Nat) (o x : List Int) (p : List Cls) (mv ov xv kv : Value) (w : World) (hv : ModV [] w mv m) (hD : validM m = true → VM m D) (hs : m.Small) (ho : Nums [] w .i64 ov o) (hx : Nums [] w .i64 xv x) (hk : ClsV [] w kv p) (hl : ∀ c ∈ p, c.length ≤ 2000000) :
    Calls Tryz.prog 18 #[mv, ov, xv, kv] w fun e w' => e = .returned (.bool (coptB m D o x p)) ∧ Gr [] w w' := by
  have Hv := hid hv; have Ho := hid ho; have Hs := hid hs; have Hx := hid hx; have HD := hid hD; have Hk := hid hk; have Hl := hid hl
  obtain ⟨xo, xc, co, cc, rfl⟩ := hv.slices
  obtain ⟨oo, oc, rfl, ⟨ho1, ho2, -⟩, -⟩ := id ho
  obtain ⟨zo, zc, rfl, ⟨hx1, hx2, -⟩, -⟩ := id hx
  obtain ⟨ko, kc, rfl, ⟨hk1, hk2⟩⟩ := hk.slice
  have hg0 : Gr [] w (w.alloc (.cells #[.slice xo m.doms.length xc, .slice co m.cons.length cc] 26)) := (Gr.refl _ _).alloc _
  have hb0 : (w.alloc (.cells #[.slice xo m.doms.length xc, .slice co m.cons.length cc] 26)).heap[w.heap.size]? = some (.cells #[.slice xo m.doms.length xc, .slice co m.cons.length cc] 26 (0, 0)) := heap_alloc_new _ _
  have Hg0 := hid hg0
  have f0 := fld hb0
  clear hv ho hs hx hD hg0 hb0 hk hl
  go_enter Tryz.func18, Tryz.ntmps18
  go_wp2_with fail
  have hcall := better_c m D o x _ _ _ _ (Hv.out.gr Hg0.out) HD.out Hs.out (Ho.out.gr Hg0.out) (Hx.out.gr Hg0.out)
  (with_reducible refine hcall.mono ?_)
  clear hcall
  rintro e w1 ⟨u0, u1, rfl, hm1, hz1, hg1⟩
  obtain ⟨⟨sa, sb, sc, rfl⟩, sd, se, sf, rfl⟩ := bt_shape hm1 hz1
  have Hm1 := hid hm1; have Hg1 := hid (Hg0.out.trans hg1)
  have hb2 := heap_alloc_new w1 (.cells #[.slice sa sb sc, .slice sd se sf] 26)
  have hg2 : Gr [] w1 (w1.alloc (.cells #[.slice sa sb sc, .slice sd se sf] 26)) := (Gr.refl _ _).alloc _
  have f2 := fld hb2
  have Hg2 := hid hg2
  clear hm1 hz1 hg1 hg2 f0 hb2
  cases hB : betB m D o x
  · have HN : Hid (coptB m D o x p = false) := hid (by unfold coptB; rw [hB]; rfl)
    go_wp2_with fail
    go_ret
    exact ⟨ret_bool HN.out.symm, Hg1.out.trans Hg2.out⟩
  · have HY : Hid (coptB m D o x p = chkB (lowM m o x) D p) := hid (by unfold coptB; rw [hB]; rfl)
    have HM := hid (Hm1.out hB)
    have HVL := hid (low_vm (HD.out (betB_open hB).1) (betB_open hB).2.2.2)
    clear hB
    go_wp2_with fail
    have hcall := CheckProof_c (lowM m o x) D p _ _ _ ((New.mod HM.out).gr Hg2.out) (fun _ => HVL.out) (Hk.out.gr (Hg1.out.trans Hg2.out)) Hl.out
    (with_reducible refine hcall.mono ?_)
    clear hcall
    rintro e w3 ⟨rfl, hg3⟩
    go_wp2_with fail
    go_ret
    exact ⟨ret_bool HY.out.symm, (Hg1.out.trans Hg2.out).trans hg3⟩

set_option maxRecDepth 100000 in
set_option maxHeartbeats 8000000 in
theorem specProveOptimal_c (m : Mod) (D : List Nat) (o x : List Int) (mv ov xv : Value) (w : World) (hv : ModV [] w mv m) (hD : validM m = true → VM m D) (hs : m.Small) (ho : Nums [] w .i64 ov o) (hx : Nums [] w .i64 xv x) :
    Calls Tryz.prog 15 #[mv, ov, xv] w fun e w' => ∃ v', e = .returned (.tuple #[v', .bool (optO m D o x).isSome]) ∧ (∀ S : List Nat, (∀ b ∈ S, b < w.heap.size) → ClsV S w' v' ((optO m D o x).getD [])) ∧ Gr [] w w' := by
  have Hv := hid hv; have Ho := hid ho; have Hs := hid hs; have Hx := hid hx; have HD := hid hD
  obtain ⟨xo, xc, co, cc, rfl⟩ := hv.slices
  obtain ⟨oo, oc, rfl, ⟨ho1, ho2, -⟩, -⟩ := id ho
  obtain ⟨zo, zc, rfl, ⟨hx1, hx2, -⟩, -⟩ := id hx
  have hg0 : Gr [] w (w.alloc (.cells #[.slice xo m.doms.length xc, .slice co m.cons.length cc] 26)) := (Gr.refl _ _).alloc _
  have hb0 : (w.alloc (.cells #[.slice xo m.doms.length xc, .slice co m.cons.length cc] 26)).heap[w.heap.size]? = some (.cells #[.slice xo m.doms.length xc, .slice co m.cons.length cc] 26 (0, 0)) := heap_alloc_new _ _
  have Hg0 := hid hg0; have Hb0 := hid hb0
  have f0 := fld hb0
  have hnil : ∀ S (W : World), ClsV S W (.slice none 0 0) [] := fun S W => ClsV.nil S W
  have Hnil := hid hnil
  clear hv ho hs hx hD hg0 hb0 hnil
  go_enter Tryz.func15, Tryz.ntmps15
  go_wp2_with fail
  have hcall := specValidModel_c m _ _ (Hv.out.gr Hg0.out) Hs.out
  (with_reducible refine hcall.mono ?_)
  clear hcall
  rintro e w1 ⟨rfl, hg1⟩
  have Hg1 := hid (Hg0.out.trans hg1); have Hb1 := hid (hg1.obj Hb0.out (by simp))
  have f1 := fld Hb1.out
  clear hg1 f0
  cases hval : validM m
  · have Hval := hid hval
    clear hval
    have HN : Hid (optO m D o x = none) := hid (optO_no (by unfold betB; rw [Hval.out]; rfl))
    go_wp2_with fail
    go_ret2
    exact ⟨_, by rw [HN.out]; rfl, fun S _ => by rw [HN.out]; exact Hnil.out _ _, Hg1.out⟩
  have HVM := hid (HD.out hval); have Hval := hid hval
  have hlen := HVM.out.len
  have hmany := HVM.out.many
  have hm4 : m.doms.length ≤ 4 := by have h9 : m.doms.length = D.length := (by rw [HVM.out.doms, ints_len]); omega
  have HDl : Hid (m.doms.length = D.length) := hid (by rw [HVM.out.doms, ints_len])
  clear hval
  go_wp2_with fail
  have hcall := validObjective_c m o _ _ w1 (Hv.out.gr Hg1.out) (Ho.out.gr Hg1.out)
  (with_reducible refine hcall.mono ?_)
  clear hcall
  rintro e w2 ⟨rfl, hg2⟩
  have Hg2 := hid (Hg1.out.trans hg2); have Hb2 := hid (hg2.obj Hb1.out (by simp))
  have f2 := fld Hb2.out
  clear hg2 f1
  cases hob : objB o m.doms.length
  · have Hob := hid hob
    clear hob
    have HN : Hid (optO m D o x = none) := hid (optO_no (by unfold betB; rw [Hval.out, Hob.out]; rfl))
    go_wp2_with fail
    go_ret2
    exact ⟨_, by rw [HN.out]; rfl, fun S _ => by rw [HN.out]; exact Hnil.out _ _, Hg2.out⟩
  have Hob := hid hob; have Hol := hid (obj_len hob)
  clear hob
  by_cases hxl : x.length = m.doms.length
  rotate_left
  · have hxl' : ((x.length : Int) != (m.doms.length : Int)) = true := by rw [bne_iff_ne]; omega
    have HI : Hid (isB m.cons D x = false) := hid (by
      refine isB_false fun h => hxl ?_
      rw [HDl.out]; exact tups_len h)
    clear hxl
    have HN : Hid (optO m D o x = none) := hid (optO_no (by unfold betB; rw [Hval.out, Hob.out, HI.out]; rfl))
    go_wp2_with fail
    go_ret2
    exact ⟨_, by rw [HN.out]; rfl, fun S _ => by rw [HN.out]; exact Hnil.out _ _, Hg2.out⟩
  have hxl' : ((x.length : Int) != (m.doms.length : Int)) = false := by rw [bne_eq_false_iff_eq]; omega
  have HXl := hid hxl
  clear hxl
  go_wp2_with fail
  have hcall := specIsSol_any m D x _ _ w2 (Hv.out.gr Hg2.out) HVM.out (Hx.out.gr Hg2.out) (by rw [HXl.out, HDl.out])
  (with_reducible refine hcall.mono ?_)
  clear hcall
  rintro e w3 ⟨rfl, hg3⟩
  have Hg3 := hid (Hg2.out.trans hg3); have Hb3 := hid (hg3.obj Hb2.out (by simp))
  have f3 := fld Hb3.out
  clear hg3 f2
  cases hsol : isB m.cons D x
  · have HI := hid hsol
    clear hsol
    have HN : Hid (optO m D o x = none) := hid (optO_no (by unfold betB; rw [Hval.out, Hob.out, HI.out]; rfl))
    go_wp2_with fail
    go_ret2
    exact ⟨_, by rw [HN.out]; rfl, fun S _ => by rw [HN.out]; exact Hnil.out _ _, Hg3.out⟩
  have hxs : x ∈ sols m.cons D := by unfold isB at hsol; exact of_decide_eq_true hsol
  have hdot := dot_lowX HVM.out Hob.out hxs
  have hx5 := solv hxs
  have hbe : betB m D o x = validM (lowM m o x) := by unfold betB; rw [Hval.out, Hob.out, hsol]; rfl
  obtain ⟨av, hav⟩ : ∃ av, av = dot o x := ⟨_, rfl⟩
  rw [← hav] at hdot
  have hlow : lowM m o x = withM m (linC o m.doms.length (av - 1)) := by unfold lowM; rw [hav]
  have Hbe := hid hbe; have Hlow := hid hlow; have Hav := hid hav; have Hx5 := hid hx5; have Hdot := hid hdot
  have hol5 : o.length ≤ 5 := by have := Hol.out; omega
  have HSM : Hid (withM m (linC o m.doms.length (av - 1))).Small := hid (bt_small Hs.out (by omega) (by omega) (by omega))
  have HR9 : Hid (∀ d ∈ m.cons, d.rows.length ≤ 1000) := hid fun d hd => vc_rows (HVM.out.cons d hd)
  obtain ⟨V, hV⟩ : ∃ V, V = validM (withM m (linC o m.doms.length (av - 1))) := ⟨_, rfl⟩
  have HV := hid hV
  have HBV : Hid (betB m D o x = V) := hid (by rw [hbe, hlow, hV])
  have Hol4 : Hid (o.length = x.length) := hid (by have h8 := Hol.out; have h7 := HXl.out; omega)
  have Ho9 : Hid (Small o) := hid (small9 Hol.out.2)
  have Hx9 : Hid (Small x) := hid (small5 hx5.2)
  have hol6 : o.length ≤ 100000 := by omega
  have hol7 : o.length ≤ 1000 := by omega
  have hm7 : m.doms.length ≤ 1000 := by omega
  have hc7 : m.cons.length ≤ 1000 := by omega
  obtain ⟨wr, hwr⟩ : ∃ wr, wr = w3 := ⟨_, rfl⟩
  rw [← hwr] at Hg3 Hb3 f3 ⊢
  clear hsol hxs hbe hav hlow hx5 hV hwr hdot
  go_wp2_with fail
  go_cut [8, 9] from 33 to 41 (fun p b wx => BtCut V (lowM m o x) wr wx p b)
  case first =>
    have HBX : Hid (∀ W, Gr [] wr W → W.heap[w.heap.size]? = some (.cells #[.slice xo m.doms.length xc, .slice co m.cons.length cc] 26 (0, 0))) := hid fun W h => h.obj Hb3.out (by simp)
    have HS : Hid (∀ W, Gr [] wr W → (W.cell? ⟨w.heap.size, 0, none⟩ = some (.slice xo m.doms.length xc) ∧ W.cell? ⟨w.heap.size, 1, none⟩ = some (.slice co m.cons.length cc)) ∧ Gr [] wr W) := hid fun W h => ⟨⟨fld (HBX.out _ h) 0, fld (HBX.out _ h) 1⟩, h⟩
    have hwm : w.heap.size < wr.heap.size := lt_of_block Hb3.out
    have ne0 : w.heap.size ≠ wr.heap.size := by omega
    have ne0' := ne0.symm
    go_region_held_law (fun W => (W.cell? ⟨w.heap.size, 0, none⟩ = some (.slice xo m.doms.length xc) ∧ W.cell? ⟨w.heap.size, 1, none⟩ = some (.slice co m.cons.length cc)) ∧ Gr [] wr W)
      ((refine HS.out _ ?_; first | exact HGb.out | exact HGa.out | exact (Gr.refl [] wr).drew | assumption | (go_split_ands; first | assumption | exact Gr.drew (by assumption) | exact Gr.alloc (by assumption) _ | exact Gr.alloc HGb.out _ | exact Gr.alloc HGa.out _ | exact Gr.setCell (Gr.setCell HGb.out _ _ (.inr (by have h9 := HGa.out.size; have h8 := HGb.out.size; (try simp); (try omega)))) _ _ (.inr (by have h9 := HGa.out.size; have h8 := HGb.out.size; (try simp); (try omega))) | exact Gr.setCell (by assumption) _ _ (.inr (by have h9 := HGa.out.size; have h8 := HGb.out.size; (try simp); (try omega))) | exact Gr.setCell (Gr.setCell (by assumption) _ _ (.inr (by have h9 := HGa.out.size; have h8 := HGb.out.size; (try simp); (try omega)))) _ _ (.inr (by have h9 := HGa.out.size; have h8 := HGb.out.size; (try simp); (try omega))))))
      (first
      | (go_simp; go_at_call 79; refine (value_c o x _ _ _ (Ho.out.gr (Hg3.out.trans (by first | exact (Gr.refl [] wr).drew | exact ((Gr.refl [] wr).drew).alloc _))) (Hx.out.gr (Hg3.out.trans (by first | exact (Gr.refl [] wr).drew | exact ((Gr.refl [] wr).drew).alloc _))) Hol4.out hol6 Ho9.out Hx9.out).mono ?_; rw [← Hav.out]; rintro e wa ⟨rfl, hga⟩; have hgx : Gr [] wr wa := Gr.trans (by first | exact (Gr.refl [] wr).drew | exact ((Gr.refl [] wr).drew).alloc _) hga; have HGa := hid hgx; have HSa := hid hga.size; have fba := fld (HBX.out _ hgx); (try (have hz : wa.heap[wr.heap.size]? = some (.cells #[.slice none 0 0, .slice none 0 0] 26 (0, 0)) := hga.obj (heap_alloc_new wr.drew (.cells #[.slice none 0 0, .slice none 0 0] 26)) (by simp); have HZa := hid hz; have foz := fld hz; have ffz := fldF hz; clear hz)); clear hga hgx; (try dsimp only))
      | (go_simp; go_at_call 78; refine (improving_c m o av _ _ _ (Hv.out.gr (Hg3.out.trans (by first | exact HGa.out | exact HGa.out.alloc _))) (Ho.out.gr (Hg3.out.trans (by first | exact HGa.out | exact HGa.out.alloc _))) (by have := Hdot.out; omega) hol7 hm7 HSM.out hc7 HR9.out).mono ?_; rintro e wb ⟨u0, u1, rfl, hmb, hzb, hgb⟩; obtain ⟨⟨sa, sb, sc, rfl⟩, sd, se, sf, rfl⟩ := bt_shape hmb hzb; have hgx : Gr [] wr wb := Gr.trans (by first | exact HGa.out | exact HGa.out.alloc _) hgb; have HGb := hid hgx; have HSb := hid hgb.size; have Hmb := hid hmb; have fbb := fld (HBX.out _ hgx); (try (have hz : wb.heap[wr.heap.size]? = some (.cells #[.slice none 0 0, .slice none 0 0] 26 (0, 0)) := hgb.obj (HZa.out) (by simp); have HZb := hid hz; have foz := fld hz; have ffz := fldF hz; clear hz)); (try (have hz : wb.heap[wa.heap.size]? = some (.cells #[.slice none 0 0, .slice none 0 0] 26 (0, 0)) := hgb.obj (heap_alloc_new wa (.cells #[.slice none 0 0, .slice none 0 0] 26)) (by simp); have HZb := hid hz; have foz := fld hz; have ffz := fldF hz; clear hz)); clear hgb hgx hmb hzb; (try dsimp only)))
    all_goals
      go_wp2_with fail
      go_meet
      rw [HV.out, Hlow.out]
      first
        | exact bt_meet HGb.out.size (heap_alloc_new _ _) HGb.out Hmb.out ((Gr.refl _ _).alloc _) (.inr (Nat.le_refl _))
        | exact bt_meet (by have h9 := HGa.out.size; (try simp); (try omega)) (set2 _ _ _ _ HZb.out).1 HGb.out Hmb.out (set2 _ _ _ _ HZb.out).2 (.inl (by have h9 := HGa.out.size; have h8 := HSa.out; (try simp at h8); first | omega | (simp; done) | (simp; omega)))
  case rest =>
  obtain ⟨bk, sa, sb, sc, sd, se, sf, rfl, rfl, hbb, hmm, hgx⟩ := hcut
  have f4 := fld hbb
  have Hmm := hid hmm; have Hgx := hid (Hg3.out.trans hgx)
  clear hbb hmm hgx f3
  cases hVc : V
  · rw [hVc] at HBV
    clear hVc
    have HN := hid (optO_no HBV.out)
    go_wp2_with fail
    go_ret2
    exact ⟨_, by rw [HN.out]; rfl, fun S _ => by rw [HN.out]; exact Hnil.out _ _, Hgx.out⟩
  · rw [hVc] at HBV
    have HM := hid (Hmm.out hVc)
    have HVL := hid (low_vm (o := o) (x := x) HVM.out (betB_open HBV.out).2.2.2)
    have HLS : Hid (lowM m o x).Small := hid (by rw [Hlow.out]; exact HSM.out)
    have HY : Hid (optO m D o x = provO (lowM m o x) D) := hid (by rw [optO_yes HBV.out, provO_yes (betB_open HBV.out).2.2.2])
    clear hVc
    go_wp2_with fail
    have hcall := specProveInfeasible_c (lowM m o x) D _ _ HM.out HLS.out (fun _ => HVL.out)
    (with_reducible refine hcall.mono ?_)
    clear hcall
    rintro e w5 ⟨v5, rfl, hr5, hg5⟩
    have hsx := Hgx.out.size
    go_wp2_with fail
    go_ret2
    exact ⟨_, by rw [HY.out]; rfl, fun S hS => by rw [HY.out]; exact hr5 S (fun b hb => by have := hS b hb; omega), Hgx.out.trans hg5⟩

set_option maxRecDepth 100000 in
set_option maxHeartbeats 8000000 in
theorem specCheckOptimal_c (m : Mod) (D : List Nat) (o x : List Int) (p : List Cls) (mv ov xv kv : Value) (w : World) (hv : ModV [] w mv m) (hD : validM m = true → VM m D) (hs : m.Small) (ho : Nums [] w .i64 ov o) (hx : Nums [] w .i64 xv x) (hk : ClsV [] w kv p) (hl : ∀ c ∈ p, c.length ≤ 2000000) :
    Calls Tryz.prog 21 #[mv, ov, xv, kv] w fun e w' => e = .returned (.bool (coptB m D o x p)) ∧ Gr [] w w' := by
  have Hv := hid hv; have Ho := hid ho; have Hs := hid hs; have Hx := hid hx; have HD := hid hD; have Hk := hid hk; have Hl := hid hl
  obtain ⟨xo, xc, co, cc, rfl⟩ := hv.slices
  obtain ⟨oo, oc, rfl, ⟨ho1, ho2, -⟩, -⟩ := id ho
  obtain ⟨zo, zc, rfl, ⟨hx1, hx2, -⟩, -⟩ := id hx
  obtain ⟨ko, kc, rfl, ⟨hk1, hk2⟩⟩ := hk.slice
  have hg0 : Gr [] w (w.alloc (.cells #[.slice xo m.doms.length xc, .slice co m.cons.length cc] 26)) := (Gr.refl _ _).alloc _
  have hb0 : (w.alloc (.cells #[.slice xo m.doms.length xc, .slice co m.cons.length cc] 26)).heap[w.heap.size]? = some (.cells #[.slice xo m.doms.length xc, .slice co m.cons.length cc] 26 (0, 0)) := heap_alloc_new _ _
  have Hg0 := hid hg0; have Hb0 := hid hb0
  have f0 := fld hb0
  have hnil : ∀ S (W : World), ClsV S W (.slice none 0 0) [] := fun S W => ClsV.nil S W
  have Hnil := hid hnil
  clear hv ho hs hx hD hg0 hb0 hnil hk hl
  go_enter Tryz.func21, Tryz.ntmps21
  go_wp2_with fail
  have hcall := specValidModel_c m _ _ (Hv.out.gr Hg0.out) Hs.out
  (with_reducible refine hcall.mono ?_)
  clear hcall
  rintro e w1 ⟨rfl, hg1⟩
  have Hg1 := hid (Hg0.out.trans hg1); have Hb1 := hid (hg1.obj Hb0.out (by simp))
  have f1 := fld Hb1.out
  clear hg1 f0
  cases hval : validM m
  · have Hval := hid hval
    clear hval
    have HN : Hid (coptB m D o x p = false) := hid (by unfold coptB betB; rw [Hval.out]; rfl)
    go_wp2_with fail
    go_ret
    exact ⟨ret_bool HN.out.symm, Hg1.out⟩
  have HVM := hid (HD.out hval); have Hval := hid hval
  have hlen := HVM.out.len
  have hmany := HVM.out.many
  have hm4 : m.doms.length ≤ 4 := by have h9 : m.doms.length = D.length := (by rw [HVM.out.doms, ints_len]); omega
  have HDl : Hid (m.doms.length = D.length) := hid (by rw [HVM.out.doms, ints_len])
  clear hval
  go_wp2_with fail
  have hcall := validObjective_c m o _ _ w1 (Hv.out.gr Hg1.out) (Ho.out.gr Hg1.out)
  (with_reducible refine hcall.mono ?_)
  clear hcall
  rintro e w2 ⟨rfl, hg2⟩
  have Hg2 := hid (Hg1.out.trans hg2); have Hb2 := hid (hg2.obj Hb1.out (by simp))
  have f2 := fld Hb2.out
  clear hg2 f1
  cases hob : objB o m.doms.length
  · have Hob := hid hob
    clear hob
    have HN : Hid (coptB m D o x p = false) := hid (by unfold coptB betB; rw [Hval.out, Hob.out]; rfl)
    go_wp2_with fail
    go_ret
    exact ⟨ret_bool HN.out.symm, Hg2.out⟩
  have Hob := hid hob; have Hol := hid (obj_len hob)
  clear hob
  by_cases hxl : x.length = m.doms.length
  rotate_left
  · have hxl' : ((x.length : Int) != (m.doms.length : Int)) = true := by rw [bne_iff_ne]; omega
    have HI : Hid (isB m.cons D x = false) := hid (by
      refine isB_false fun h => hxl ?_
      rw [HDl.out]; exact tups_len h)
    clear hxl
    have HN : Hid (coptB m D o x p = false) := hid (by unfold coptB betB; rw [Hval.out, Hob.out, HI.out]; rfl)
    go_wp2_with fail
    go_ret
    exact ⟨ret_bool HN.out.symm, Hg2.out⟩
  have hxl' : ((x.length : Int) != (m.doms.length : Int)) = false := by rw [bne_eq_false_iff_eq]; omega
  have HXl := hid hxl
  clear hxl
  go_wp2_with fail
  have hcall := specIsSol_any m D x _ _ w2 (Hv.out.gr Hg2.out) HVM.out (Hx.out.gr Hg2.out) (by rw [HXl.out, HDl.out])
  (with_reducible refine hcall.mono ?_)
  clear hcall
  rintro e w3 ⟨rfl, hg3⟩
  have Hg3 := hid (Hg2.out.trans hg3); have Hb3 := hid (hg3.obj Hb2.out (by simp))
  have f3 := fld Hb3.out
  clear hg3 f2
  cases hsol : isB m.cons D x
  · have HI := hid hsol
    clear hsol
    have HN : Hid (coptB m D o x p = false) := hid (by unfold coptB betB; rw [Hval.out, Hob.out, HI.out]; rfl)
    go_wp2_with fail
    go_ret
    exact ⟨ret_bool HN.out.symm, Hg3.out⟩
  have hxs : x ∈ sols m.cons D := by unfold isB at hsol; exact of_decide_eq_true hsol
  have hdot := dot_lowX HVM.out Hob.out hxs
  have hx5 := solv hxs
  have hbe : betB m D o x = validM (lowM m o x) := by unfold betB; rw [Hval.out, Hob.out, hsol]; rfl
  obtain ⟨av, hav⟩ : ∃ av, av = dot o x := ⟨_, rfl⟩
  rw [← hav] at hdot
  have hlow : lowM m o x = withM m (linC o m.doms.length (av - 1)) := by unfold lowM; rw [hav]
  have Hbe := hid hbe; have Hlow := hid hlow; have Hav := hid hav; have Hx5 := hid hx5; have Hdot := hid hdot
  have hol5 : o.length ≤ 5 := by have := Hol.out; omega
  have HSM : Hid (withM m (linC o m.doms.length (av - 1))).Small := hid (bt_small Hs.out (by omega) (by omega) (by omega))
  have HR9 : Hid (∀ d ∈ m.cons, d.rows.length ≤ 1000) := hid fun d hd => vc_rows (HVM.out.cons d hd)
  obtain ⟨V, hV⟩ : ∃ V, V = validM (withM m (linC o m.doms.length (av - 1))) := ⟨_, rfl⟩
  have HV := hid hV
  have HBV : Hid (betB m D o x = V) := hid (by rw [hbe, hlow, hV])
  have Hol4 : Hid (o.length = x.length) := hid (by have h8 := Hol.out; have h7 := HXl.out; omega)
  have Ho9 : Hid (Small o) := hid (small9 Hol.out.2)
  have Hx9 : Hid (Small x) := hid (small5 hx5.2)
  have hol6 : o.length ≤ 100000 := by omega
  have hol7 : o.length ≤ 1000 := by omega
  have hm7 : m.doms.length ≤ 1000 := by omega
  have hc7 : m.cons.length ≤ 1000 := by omega
  obtain ⟨wr, hwr⟩ : ∃ wr, wr = w3 := ⟨_, rfl⟩
  rw [← hwr] at Hg3 Hb3 f3 ⊢
  clear hsol hxs hbe hav hlow hx5 hV hwr hdot
  go_wp2_with fail
  go_cut [9, 10] from 34 to 42 (fun p b wx => BtCut V (lowM m o x) wr wx p b)
  case first =>
    have HBX : Hid (∀ W, Gr [] wr W → W.heap[w.heap.size]? = some (.cells #[.slice xo m.doms.length xc, .slice co m.cons.length cc] 26 (0, 0))) := hid fun W h => h.obj Hb3.out (by simp)
    have HS : Hid (∀ W, Gr [] wr W → (W.cell? ⟨w.heap.size, 0, none⟩ = some (.slice xo m.doms.length xc) ∧ W.cell? ⟨w.heap.size, 1, none⟩ = some (.slice co m.cons.length cc)) ∧ Gr [] wr W) := hid fun W h => ⟨⟨fld (HBX.out _ h) 0, fld (HBX.out _ h) 1⟩, h⟩
    have hwm : w.heap.size < wr.heap.size := lt_of_block Hb3.out
    have ne0 : w.heap.size ≠ wr.heap.size := by omega
    have ne0' := ne0.symm
    go_region_held_law (fun W => (W.cell? ⟨w.heap.size, 0, none⟩ = some (.slice xo m.doms.length xc) ∧ W.cell? ⟨w.heap.size, 1, none⟩ = some (.slice co m.cons.length cc)) ∧ Gr [] wr W)
      ((refine HS.out _ ?_; first | exact HGb.out | exact HGa.out | exact (Gr.refl [] wr).drew | assumption | (go_split_ands; first | assumption | exact Gr.drew (by assumption) | exact Gr.alloc (by assumption) _ | exact Gr.alloc HGb.out _ | exact Gr.alloc HGa.out _ | exact Gr.setCell (Gr.setCell HGb.out _ _ (.inr (by have h9 := HGa.out.size; have h8 := HGb.out.size; (try simp); (try omega)))) _ _ (.inr (by have h9 := HGa.out.size; have h8 := HGb.out.size; (try simp); (try omega))) | exact Gr.setCell (by assumption) _ _ (.inr (by have h9 := HGa.out.size; have h8 := HGb.out.size; (try simp); (try omega))) | exact Gr.setCell (Gr.setCell (by assumption) _ _ (.inr (by have h9 := HGa.out.size; have h8 := HGb.out.size; (try simp); (try omega)))) _ _ (.inr (by have h9 := HGa.out.size; have h8 := HGb.out.size; (try simp); (try omega))))))
      (first
      | (go_simp; go_at_call 79; refine (value_c o x _ _ _ (Ho.out.gr (Hg3.out.trans (by first | exact (Gr.refl [] wr).drew | exact ((Gr.refl [] wr).drew).alloc _))) (Hx.out.gr (Hg3.out.trans (by first | exact (Gr.refl [] wr).drew | exact ((Gr.refl [] wr).drew).alloc _))) Hol4.out hol6 Ho9.out Hx9.out).mono ?_; rw [← Hav.out]; rintro e wa ⟨rfl, hga⟩; have hgx : Gr [] wr wa := Gr.trans (by first | exact (Gr.refl [] wr).drew | exact ((Gr.refl [] wr).drew).alloc _) hga; have HGa := hid hgx; have HSa := hid hga.size; have fba := fld (HBX.out _ hgx); (try (have hz : wa.heap[wr.heap.size]? = some (.cells #[.slice none 0 0, .slice none 0 0] 26 (0, 0)) := hga.obj (heap_alloc_new wr.drew (.cells #[.slice none 0 0, .slice none 0 0] 26)) (by simp); have HZa := hid hz; have foz := fld hz; have ffz := fldF hz; clear hz)); clear hga hgx; (try dsimp only))
      | (go_simp; go_at_call 78; refine (improving_c m o av _ _ _ (Hv.out.gr (Hg3.out.trans (by first | exact HGa.out | exact HGa.out.alloc _))) (Ho.out.gr (Hg3.out.trans (by first | exact HGa.out | exact HGa.out.alloc _))) (by have := Hdot.out; omega) hol7 hm7 HSM.out hc7 HR9.out).mono ?_; rintro e wb ⟨u0, u1, rfl, hmb, hzb, hgb⟩; obtain ⟨⟨sa, sb, sc, rfl⟩, sd, se, sf, rfl⟩ := bt_shape hmb hzb; have hgx : Gr [] wr wb := Gr.trans (by first | exact HGa.out | exact HGa.out.alloc _) hgb; have HGb := hid hgx; have HSb := hid hgb.size; have Hmb := hid hmb; have fbb := fld (HBX.out _ hgx); (try (have hz : wb.heap[wr.heap.size]? = some (.cells #[.slice none 0 0, .slice none 0 0] 26 (0, 0)) := hgb.obj (HZa.out) (by simp); have HZb := hid hz; have foz := fld hz; have ffz := fldF hz; clear hz)); (try (have hz : wb.heap[wa.heap.size]? = some (.cells #[.slice none 0 0, .slice none 0 0] 26 (0, 0)) := hgb.obj (heap_alloc_new wa (.cells #[.slice none 0 0, .slice none 0 0] 26)) (by simp); have HZb := hid hz; have foz := fld hz; have ffz := fldF hz; clear hz)); clear hgb hgx hmb hzb; (try dsimp only)))
    all_goals
      go_wp2_with fail
      go_meet
      rw [HV.out, Hlow.out]
      first
        | exact bt_meet HGb.out.size (heap_alloc_new _ _) HGb.out Hmb.out ((Gr.refl _ _).alloc _) (.inr (Nat.le_refl _))
        | exact bt_meet (by have h9 := HGa.out.size; (try simp); (try omega)) (set2 _ _ _ _ HZb.out).1 HGb.out Hmb.out (set2 _ _ _ _ HZb.out).2 (.inl (by have h9 := HGa.out.size; have h8 := HSa.out; (try simp at h8); first | omega | (simp; done) | (simp; omega)))
  case rest =>
  obtain ⟨bk, sa, sb, sc, sd, se, sf, rfl, rfl, hbb, hmm, hgx⟩ := hcut
  have f4 := fld hbb
  have Hmm := hid hmm; have Hgx := hid (Hg3.out.trans hgx)
  clear hbb hmm hgx f3
  cases hVc : V
  · rw [hVc] at HBV
    clear hVc
    have HN : Hid (coptB m D o x p = false) := hid (by unfold coptB; rw [HBV.out]; rfl)
    go_wp2_with fail
    go_ret
    exact ⟨ret_bool HN.out.symm, Hgx.out⟩
  · rw [hVc] at HBV
    have HM := hid (Hmm.out hVc)
    have HVL := hid (low_vm (o := o) (x := x) HVM.out (betB_open HBV.out).2.2.2)
    have HLS : Hid (lowM m o x).Small := hid (by rw [Hlow.out]; exact HSM.out)
    have HY : Hid (coptB m D o x p = chkB (lowM m o x) D p) := hid (by unfold coptB; rw [HBV.out]; rfl)
    clear hVc
    go_wp2_with fail
    have hcall := specCheckProof_c (lowM m o x) D p _ _ _ HM.out (fun _ => HVL.out) HLS.out (Hk.out.gr Hgx.out) Hl.out
    (with_reducible refine hcall.mono ?_)
    clear hcall
    rintro e w5 ⟨rfl, hg5⟩
    go_wp2_with fail
    go_ret
    exact ⟨ret_bool HY.out.symm, Hgx.out.trans hg5⟩
end Go.Proofs.YtlekngkcifgonaaGreat
