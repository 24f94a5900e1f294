/-
  The generators of improvement's inputs.
  Walk of FnImprove.
-/
import Derived.Test.YtdpcjfbnakfflaaGreatG14
import Derived.Test.YtdpcjfbnakfflaaGreatLPS
import Derived.Test.YtdpcjfbnakfflaaGreatIw
import Derived.Test.YtdpcjfbnakfflaaGreatIsB
import Derived.Test.YtdpcjfbnakfflaaGreatSl
set_option linter.unusedVariables false
set_option linter.unusedSimpArgs false
namespace Go.Proofs.YtdpcjfbnakfflaaGreat
open Go.RowKit


set_option maxRecDepth 100000 in
set_option maxHeartbeats 4000000 in
theorem DrawImprove_s (S : List Nat) (v : Value) (bs : List Int) (w : World) (ao : Option Addr) (cap : Nat) (hv : v = .slice ao bs.length cap) (hlen : bs.length ≤ 9223372036854775807) (hcap : bs.length ≤ cap) (hc : Cells [] w .u8 ao bs) (hb : ∀ b ∈ bs, 0 ≤ b ∧ b ≤ 255) (hS : ∀ b ∈ S, b < w.heap.size) :
    Calls Tryz.prog 25 #[v] w fun e w' => ∃ (m : Mod) (mv ov xv fv : Value) (O X F : List Int), e = .returned (.tuple #[mv, ov, xv, fv]) ∧ ModV S w' mv m ∧ m.Small ∧ (1 ≤ m.doms.length ∧ m.doms.length ≤ 4) ∧ Nums S w' .i64 ov O ∧ Nums S w' .i64 xv X ∧ Nums S w' .i64 fv F ∧ (O.length ≤ 5 ∧ ∀ y ∈ O, -9 ≤ y ∧ y ≤ 10) ∧ (X.length ≤ 5 ∧ ∀ y ∈ X, 0 ≤ y ∧ y ≤ 6) ∧ F.length ≤ 4 ∧ Gr [] w w' := by
  subst hv
  have Hc := hid hc; have Hb := hid hb; clear hc hb
  have hg0 : Gr [] w (w.alloc (.cells #[.slice none 0 0, .slice none 0 0] 31)) := (Gr.refl _ _).alloc _
  have hr0 : (w.alloc (.cells #[.slice none 0 0, .slice none 0 0] 31)).heap[w.heap.size]? = some (.cells #[.slice none 0 0, .slice none 0 0] 31 (0, 0)) := heap_alloc_new _ _
  have Hr0 := hid hr0; have Hg0 := hid hg0; clear hr0 hg0
  go_enter Tryz.func25, Tryz.ntmps25
  go_wp2_with fail
  have hcall := DrawRepair_s (S ++ [w.heap.size]) _ bs _ ao cap rfl hlen hcap (Hc.out.gr Hg0.out) Hb.out (by intro b hb; rcases List.mem_append.1 hb with h | h; (have := hS b h; simp; omega); (simp at h; simp; omega))
  (with_reducible refine hcall.mono ?_)
  clear hcall
  rintro e w1 ⟨m, mv, xv, fv, X, F, rfl, hmv, hms, hd, hX, hF, hXl, hFl, hg1⟩
  have Hr1 := hid (hg1.obj Hr0.out (by simp)); have HG1 := hid (Hg0.out.trans hg1)
  have Hmv := hid hmv; have HX := hid hX; have HF := hid hF; have Hms := hid hms; have HXl := hid hXl
  have hs1 := hg1.size
  rw [World.size_alloc] at hs1
  obtain ⟨xo, xc, co, cc, rfl⟩ := hmv.slices
  obtain ⟨yo, yc, rfl, -, -⟩ := hX
  obtain ⟨fo, fc, rfl, -, -⟩ := hF
  have hd4 := hd.2
  clear hmv hg1 hms hXl
  go_wp2_with fail
  have ha2 : Gr [] w1 (w1.alloc (.cells #[.slice xo m.doms.length xc, .slice co m.cons.length cc] 31)) := (Gr.refl _ _).alloc _
  have hb2 : (w1.alloc (.cells #[.slice xo m.doms.length xc, .slice co m.cons.length cc] 31)).heap[w1.heap.size]? = some (.cells #[.slice xo m.doms.length xc, .slice co m.cons.length cc] 31 (0, 0)) := heap_alloc_new _ _
  have hs2 : (w1.alloc (.cells #[.slice xo m.doms.length xc, .slice co m.cons.length cc] 31)).heap.size = w1.heap.size + 1 := by simp
  generalize hW2 : w1.alloc (.cells #[.slice xo m.doms.length xc, .slice co m.cons.length cc] 31) = w2 at *
  clear hW2
  have Ha2 := hid ha2; have Hb2 := hid hb2
  clear ha2 hb2
  have hcall := newReader_c _ bs _ ao cap rfl hlen hcap (Hc.out.gr (HG1.out.trans Ha2.out)) Hb.out
  (with_reducible refine hcall.mono ?_)
  clear hcall
  rintro e w3 ⟨⟨R, cs, rfl, hR, hrd3⟩, hg3⟩
  have hRl := hrd3.lt
  obtain ⟨ro, rcap, p, hRb, hcR, hab, hpq, hbl, hbb⟩ := hrd3
  have fR := fld hRb; have fRF := fldF hRb
  have HRb := hid hRb; have HcR := hid hcR; have Hab := hid hab; have Hbb := hid hbb
  have Hg3 := hid (Ha2.out.trans hg3)
  have hs3 := hg3.size
  have Hb3 := hid (hg3.obj Hb2.out (by simp))
  clear hRb hcR hab hbb hg3
  go_wp2_with fail
  have hrd4 : Rd (w3.setCell ⟨R, 1, none⟩ (.int .i64 60)) R cs 60 :=
    ⟨ro, rcap, 60, by rw [two_set1 HRb.out]; rfl, HcR.out.gr ((Gr.refl _ _).setCell _ _ (.inl (by simp))), Hab.out, Nat.le_refl _, hbl, Hbb.out⟩
  have hg4 : Gr [R] w3 (w3.setCell ⟨R, 1, none⟩ (.int .i64 60)) := (Gr.refl _ _).setCell _ _ (.inl (by simp))
  generalize hW4 : w3.setCell ⟨R, 1, none⟩ (.int .i64 60) = w4 at *
  clear hW4 fR fRF
  have Hrd4 := hid hrd4
  have hgs4 : Gr [R] w1 w4 := (Gr.any Hg3.out).trans hg4
  have Hb4 := hid (hg4.obj Hb3.out (by simp; omega))
  have Hr4 := hid (hgs4.obj Hr1.out (by simp; omega))
  have Hgs4 := hid hgs4
  have hs4 := hg4.size
  have fl4 := fld Hb4.out; have flr := fld Hr4.out; have ffr := fldF Hr4.out
  clear hrd4 hg4 hgs4
  go_region_law (first | (go_simp; go_at_call 83; refine (objective_c R cs 60 m.doms.length _ (Hrd4.out.gr ((Gr.refl [] _).drew)) (by omega) (by omega)).mono ?_; rintro e w6 ⟨v6, o6, rfl, hown6, ⟨hl6, hv6⟩, hrd6, hg6⟩; have HS6 : Hid (Gr [R] w4 w6) := hid (Gr.trans (a := w4) (Gr.any ((Gr.refl [] _).drew)) hg6); have hn6 := hown6.nums' (S := S ++ [w.heap.size, R]) (by intro b hb; rcases List.mem_append.1 hb with h | h; (have := hS b h; simp; omega); (simp at h ⊢; omega)); obtain ⟨vo6, vc6, rfl, -, -⟩ := id hn6; have Hn6 := hid hn6; have Hr6 := hid (HS6.out.obj Hr4.out (by simp; omega)); have fl6 := fld (HS6.out.obj Hb4.out (by simp; omega)); have flr6 := fld Hr6.out; have ffr6 := fldF Hr6.out; clear hg6 hrd6 hown6 hn6))
  all_goals
    go_wp2_with fail
    have hbE := block_cells (cur' := #[]) (block_cells (cur' := #[]) Hr6.out 0 (.slice xo m.doms.length xc)) 1 (.slice co m.cons.length cc)
    have flE := fld hbE
    refine bodyPost_ret (v := .tuple #[.agg #[.slice xo m.doms.length xc, .slice co m.cons.length cc], .slice vo6 o6.length vc6, .slice yo X.length yc, .slice fo F.length fc]) ?_ rfl ?_
    · simp [results, Tryz.results25, go_sem, flE]
    · have hgE : Gr [w.heap.size] w6 ((w6.setCell ⟨w.heap.size, 0, none⟩ (.slice xo m.doms.length xc)).setCell ⟨w.heap.size, 1, none⟩ (.slice co m.cons.length cc)) :=
        ((Gr.refl _ _).setCell _ _ (.inl (by simp))).setCell _ _ (.inl (by simp))
      have hgF : Gr (S ++ [w.heap.size, R]) w1 ((w6.setCell ⟨w.heap.size, 0, none⟩ (.slice xo m.doms.length xc)).setCell ⟨w.heap.size, 1, none⟩ (.slice co m.cons.length cc)) :=
        ((Hgs4.out.trans HS6.out).sub (fun k _ hk => by simp at hk ⊢; exact .inr (.inr hk))).trans (hgE.sub (fun k _ hk => by simp at hk ⊢; exact .inr (.inl hk)))
      have up : ∀ b, b < w1.heap.size → b ∈ S ++ [w.heap.size, R] → b ∈ S ++ [w.heap.size] := fun b hb hm => by
        simp at hm ⊢
        rcases hm with h | h | h
        · exact .inl h
        · exact .inr h
        · omega
      exact ⟨m, _, _, _, _, o6, X, F, rfl, ((Hmv.out.sub up).gr hgF).sub (fun k _ hk => List.mem_append.2 (.inl hk)), Hms.out, hd,
        (Hn6.out.gr (hgE.sub (fun k _ hk => by simp at hk ⊢; exact .inr (.inl hk)))).sub (fun k _ hk => List.mem_append.2 (.inl hk)),
        ((HX.out.sub up).gr hgF).sub (fun k _ hk => List.mem_append.2 (.inl hk)), ((HF.out.sub up).gr hgF).sub (fun k _ hk => List.mem_append.2 (.inl hk)),
        ⟨by omega, hv6⟩, HXl.out, hFl, HG1.out.step (S' := [w.heap.size, R]) (((Hgs4.out.trans HS6.out).sub (fun k _ hk => by simp at hk ⊢; exact .inr hk)).trans (hgE.sub (fun k _ hk => by simp at hk ⊢; exact .inl hk))) (fun i hi => .inr (by simp at hi; omega))⟩


set_option maxRecDepth 100000 in
theorem DrawLocalSearch_c (v : Value) (bs : List Int) (w : World) (ao : Option Addr) (cap : Nat) (hv : v = .slice ao bs.length cap) (hlen : bs.length ≤ 9223372036854775807) (hcap : bs.length ≤ cap) (hc : Cells [] w .u8 ao bs) (hb : ∀ b ∈ bs, 0 ≤ b ∧ b ≤ 255) :
    Calls Tryz.prog 33 #[v] w fun e w' => ∃ (m : Mod) (mv ov xv : Value) (O X : List Int), e = .returned (.tuple #[mv, ov, xv]) ∧ ModV [] w' mv m ∧ m.Small ∧ (1 ≤ m.doms.length ∧ m.doms.length ≤ 4) ∧ Nums [] w' .i64 ov O ∧ Nums [] w' .i64 xv X ∧ (O.length ≤ 5 ∧ ∀ y ∈ O, -9 ≤ y ∧ y ≤ 10) ∧ (X.length ≤ 5 ∧ ∀ y ∈ X, 0 ≤ y ∧ y ≤ 6) ∧ Gr [] w w' := by
  subst hv
  have Hc := hid hc; have Hb := hid hb; clear hc hb
  have hg0 : Gr [] w (w.alloc (.cells #[.slice none 0 0, .slice none 0 0] 31)) := (Gr.refl _ _).alloc _
  have hr0 : (w.alloc (.cells #[.slice none 0 0, .slice none 0 0] 31)).heap[w.heap.size]? = some (.cells #[.slice none 0 0, .slice none 0 0] 31 (0, 0)) := heap_alloc_new _ _
  have Hr0 := hid hr0; have Hg0 := hid hg0; clear hr0 hg0
  go_enter Tryz.func33, Tryz.ntmps33
  go_wp2_with fail
  have hcall := DrawImprove_s [w.heap.size] _ bs _ ao cap rfl hlen hcap (Hc.out.gr Hg0.out) Hb.out (by intro b hb; simp at hb; simp; omega)
  (with_reducible refine hcall.mono ?_)
  clear hcall
  rintro e w1 ⟨m, mv, ov, xv, fv, O, X, F, rfl, hmv, hms, hd, hO, hX, hF, hOl, hXl, hFl, hg1⟩
  have Hmv := hid hmv; have HO := hid hO; have HX := hid hX; have HOl := hid hOl; have HXl := hid hXl; have Hr1 := hid (hg1.obj Hr0.out (by simp)); have HG1 := hid (Hg0.out.trans hg1)
  have hs1 := hg1.size
  rw [World.size_alloc] at hs1
  obtain ⟨xo, xc, co, cc, rfl⟩ := hmv.slices
  obtain ⟨oo, oc, rfl, -, -⟩ := hO
  obtain ⟨yo, yc, rfl, -, -⟩ := hX
  clear hmv hg1 hF hOl hXl
  have ha2 : Gr [] w1 (w1.alloc (.cells #[.slice xo m.doms.length xc, .slice co m.cons.length cc] 31)) := (Gr.refl _ _).alloc _
  have hb2 : (w1.alloc (.cells #[.slice xo m.doms.length xc, .slice co m.cons.length cc] 31)).heap[w1.heap.size]? = some (.cells #[.slice xo m.doms.length xc, .slice co m.cons.length cc] 31 (0, 0)) := heap_alloc_new _ _
  have Ha2 := hid ha2; have Hr2 := hid (ha2.obj Hr1.out (by simp))
  have fl2 := fld hb2; have flr := fld Hr2.out; have ffr := fldF Hr2.out
  clear ha2 hb2
  go_wp2_with fail
  generalize hW2 : w1.alloc (.cells #[.slice xo m.doms.length xc, .slice co m.cons.length cc] 31) = w2 at *
  clear hW2
  have hbE := block_cells (cur' := #[]) (block_cells (cur' := #[]) Hr2.out 0 (.slice xo m.doms.length xc)) 1 (.slice co m.cons.length cc)
  have flE := fld hbE
  refine bodyPost_ret (v := .tuple #[.agg #[.slice xo m.doms.length xc, .slice co m.cons.length cc], .slice oo O.length oc, .slice yo X.length yc]) ?_ rfl ?_
  · simp [results, Tryz.results33, go_sem, flE]
  · have hgE : Gr [w.heap.size] w2 ((w2.setCell ⟨w.heap.size, 0, none⟩ (.slice xo m.doms.length xc)).setCell ⟨w.heap.size, 1, none⟩ (.slice co m.cons.length cc)) :=
      ((Gr.refl _ _).setCell _ _ (.inl (by simp))).setCell _ _ (.inl (by simp))
    exact ⟨m, _, _, _, O, X, rfl, ((Hmv.out.gr (Gr.any Ha2.out)).gr hgE).sub0, hms, hd, ((HO.out.gr (Gr.any Ha2.out)).gr hgE).sub (by simp), ((HX.out.gr (Gr.any Ha2.out)).gr hgE).sub (by simp), HOl.out, HXl.out, (HG1.out.trans Ha2.out).step hgE (fun i hi => .inr (by simp at hi; omega))⟩

end Go.Proofs.YtdpcjfbnakfflaaGreat

set_option linter.unusedVariables false
set_option linter.unusedSimpArgs false
namespace Go.Proofs.YtdpcjfbnakfflaaGreat
open Go.RowKit

def idxL (n : Nat) : List Int := (List.range n).map fun i : Nat => (i : Int)
theorem idxL_succ (n : Nat) : idxL (n + 1) = idxL n ++ [(n : Int)] := by simp [idxL, List.range_succ]
theorem idxL_len (n : Nat) : (idxL n).length = n := by simp [idxL]
theorem idxL_on {n i : Nat} (h : i < n) : onL (idxL n) i = true := by
  unfold onL idxL
  simp
  exact ⟨i, h, rfl⟩
theorem idxL_fr {n : Nat} (h : n ≤ 4) : frB (idxL n) n = true := by
  unfold frB
  rw [Bool.and_eq_true, decide_eq_true_eq, idxL_len]
  refine ⟨by omega, allB_iff.2 fun x hx => ?_⟩
  unfold idxL at hx
  obtain ⟨a, ha, rfl⟩ := List.mem_map.1 hx
  have := List.mem_range.1 ha
  omega
theorem objVal_dot {o x : List Int} {n : Nat} (ho : objB o n = true) (hl : x.length = n) (h4 : n ≤ 4) (hx : ∀ y ∈ x, 0 ≤ y ∧ y ≤ 5) : objVal o x = dot o x := by
  have h1 := obj_len ho
  unfold objVal
  rw [if_pos ⟨by omega, by omega, allB_iff.2 h1.2, allB_iff.2 hx⟩]


set_option maxRecDepth 100000 in
set_option maxHeartbeats 8000000 in
theorem FnImprove_c (code : Value) (bs : List Int) (ao : Option Addr) (cap : Nat) (w : World) (hv : code = .slice ao bs.length cap) (hlen : bs.length ≤ 9223372036854775807) (hcap : bs.length ≤ cap) (hc : Cells [] w .u8 ao bs) (hb : ∀ b ∈ bs, 0 ≤ b ∧ b ≤ 255) :
    Calls Tryz.prog 4 #[code] w (fun e w' => e = .returned (.bool true) ∧ Gr [] w w') := by
  subst hv
  have Hc := hid hc; have Hb := hid hb; clear hc hb
  by_cases hbig : 1048576 < bs.length
  · go_enter Tryz.func4, Tryz.ntmps4
    go_wp2_with fail
    go_ret
    exact ⟨rfl, Gr.refl _ _⟩
  have hbig' : decide ((1048576 : Int) < (bs.length : Int)) = false := by simp; omega
  go_enter Tryz.func4, Tryz.ntmps4
  go_wp2_with fail
  have hcall := DrawImprove_s [] _ bs w ao cap rfl hlen hcap Hc.out Hb.out (by simp)
  (with_reducible refine hcall.mono ?_)
  clear hcall
  rintro e w1 ⟨m, mv, ov, xv, fv, O, X, F, rfl, hmv, hms, ⟨hd1, hd4⟩, hO, hX, hF, ⟨hOl, -⟩, ⟨hXl, -⟩, hFl, hg1⟩
  obtain ⟨xo, xc, co, cc, rfl⟩ := hmv.slices
  have ha2 : Gr [] w1 (w1.alloc (.cells #[.slice xo m.doms.length xc, .slice co m.cons.length cc] 31)) := (Gr.refl _ _).alloc _
  have hb2 : (w1.alloc (.cells #[.slice xo m.doms.length xc, .slice co m.cons.length cc] 31)).heap[w1.heap.size]? = some (.cells #[.slice xo m.doms.length xc, .slice co m.cons.length cc] 31 (0, 0)) := heap_alloc_new _ _
  have HG2 := hid (hg1.trans ha2); have Hmv2 := hid (hmv.gr ha2); have Hms := hid hms; have Hb2 := hid hb2
  have HO2 := hid (hO.gr ha2); have HX2 := hid (hX.gr ha2); have HF2 := hid (hF.gr ha2)
  obtain ⟨Oo, Oc, rfl, ⟨hO1, hO2, -⟩, -⟩ := hO
  obtain ⟨Xo, Xc, rfl, ⟨hX1, hX2, -⟩, -⟩ := hX
  obtain ⟨Fo, Fc, rfl, ⟨hF1, hF2, -⟩, -⟩ := hF
  clear hmv hms ha2 hb2 hg1 hbig
  obtain ⟨D, hD⟩ := openVM m
  have HD := hid hD; clear hD
  go_wp2_with fail
  have hcall := Improve_c m O X F _ _ _ _ _ Hmv2.out HO2.out HX2.out HF2.out D HD.out
  (with_reducible refine hcall.mono ?_)
  clear hcall
  obtain ⟨Y, hY⟩ : ∃ Y, Y = impO m D O X F := ⟨_, rfl⟩
  rw [← hY]
  have HY := hid hY; clear hY
  rintro e w3 ⟨v3, rfl, hn3, hg3⟩
  have hn3 := hn3.nums (S := []) (by simp)
  have Hn3 := hid hn3
  obtain ⟨zo, zc, rfl, ⟨hz1, hz2, -⟩, -⟩ := hn3
  have fl3 := fld (hg3.obj Hb2.out (by simp))
  have HG3 := hid hg3; clear hg3
  go_wp2_with fail
  have hcall := specImprove_c m O X F _ _ _ _ _ (Hmv2.out.gr HG3.out) Hms.out (HO2.out.gr HG3.out) (HX2.out.gr HG3.out) (HF2.out.gr HG3.out) D HD.out
  (with_reducible refine hcall.mono ?_)
  clear hcall
  rw [← HY.out]
  rintro e w4 ⟨v4, rfl, hn4, hg4⟩
  have Hn4 := hid hn4
  have HG4 := hid (HG3.out.trans hg4); have Hg4 := hid hg4
  have fl4 := fld (HG4.out.obj Hb2.out (by simp))
  obtain ⟨ok, hok⟩ : ∃ ok, ok = Y.isSome := ⟨_, rfl⟩
  rw [← hok]
  have Hok := hid hok
  obtain ⟨ys, hys⟩ : ∃ ys, ys = Y.getD [] := ⟨_, rfl⟩
  rw [← hys] at Hn3 Hn4 hz1 ⊢
  have Hyl := hid hys
  have hne : (ok != ok) = false := by cases ok <;> rfl
  have heq : (ok == ok) = true := by cases ok <;> rfl
  clear hn4 hg4 fl3 hok hys
  go_wp2_with fail
  have hcall := lawEqualInts_c ys ys _ _ _ (Hn3.out.gr Hg4.out) Hn4.out
  (with_reducible refine hcall.mono ?_)
  clear hcall
  rw [decide_eq_true (rfl : ys = ys)]
  rintro e w5 ⟨rfl, hg5⟩
  have HG5 := hid (HG4.out.trans hg5); have Hn5 := hid (Hn3.out.gr (Hg4.out.trans hg5)); have Hm5 := hid (Hn4.out.gr hg5)
  have Hb5 := hid (HG5.out.obj Hb2.out (by simp))
  clear hg5 fl4
  cases hY : Y with
  | none =>
    have Hokf : ok = false := by rw [Hok.out, hY]; rfl
    subst Hokf
    clear hY
    go_wp2_with fail
    have hcall := lawEqualInts_c ys ys _ _ _ Hn5.out Hm5.out
    (with_reducible refine hcall.mono ?_)
    clear hcall
    rw [decide_eq_true (rfl : ys = ys)]
    rintro e w7 ⟨rfl, hg7⟩
    go_wp2_with fail
    go_ret
    exact ⟨rfl, (HG2.out.trans HG5.out).trans hg7⟩
  | some y =>
  have Hokt : ok = true := by rw [Hok.out, hY]; rfl
  subst Hokt
  have hysy : ys = y := by rw [Hyl.out, hY]; rfl
  subst hysy
  have hin : (validM m && (objB O m.doms.length && (isB m.cons D X && frB F m.doms.length))) = true := by
    cases h : (validM m && (objB O m.doms.length && (isB m.cons D X && frB F m.doms.length)))
    · exfalso; have := HY.out; rw [impO_no h, hY] at this; cases this
    · rfl
  have hst : ys = stp m.cons D O X F := by
    have := HY.out
    rw [impO_yes hin, hY] at this
    exact Option.some.inj this
  simp only [Bool.and_eq_true] at hin
  obtain ⟨hval, hob, his, hfr⟩ := hin
  have HVM := hid (HD.out hval)
  have Hval := hid hval; have Hob := hid hob; have His := hid his
  have HDL : Hid (m.doms.length = D.length) := hid (by rw [HVM.out.doms, ints_len])
  have Hxs : Hid (X ∈ sols m.cons D) := hid (of_decide_eq_true his)
  have HXL : Hid (X.length = D.length) := hid (solv Hxs.out).1
  have Hst := hid hst
  have Hys : Hid (ys ∈ sols m.cons D) := hid (by rw [hst]; exact stp_mem Hxs.out)
  have HYL : Hid (ys.length = D.length) := hid (solv Hys.out).1
  have hD4 : D.length ≤ 4 := HVM.out.len.2
  have hxd : X.length ≤ 4 := by have := HXL.out; omega
  have hxy : X.length = ys.length := by rw [HXL.out, HYL.out]
  have Hxy := hid hxy
  clear hval hob his hfr hst hY hxy
  go_wp2_with fail
  have ho5 : Own w5.heap.size (w5.alloc (.cells #[] 3)) 3 (.slice (some ⟨w5.heap.size, 0, none⟩) 0 0) [] := Own.empty _ _ (Nat.le_refl _)
  have hg55 : Gr [] w5 (w5.alloc (.cells #[] 3)) := (Gr.refl _ _).alloc _
  have Ho5 := hid ho5; have Hg55 := hid hg55
  clear ho5 hg55
  go_loopw [11, 12] (fun v i wr => ∃ n : Nat, n ≤ X.length ∧ i = .int .i64 n ∧ Own w5.heap.size wr 3 v (idxL n) ∧ Gr [] w5 wr) (fun _ i _ => X.length - (intOf i).toNat)
  case atStart => exact ⟨0, Nat.zero_le _, rfl, Ho5.out, Hg55.out⟩
  case round =>
    obtain ⟨n, hn, rfl, hown, hg⟩ := hrel
    have hsr := hg.size
    have Hown := hid hown; have Hg := hid hg
    clear hown hg
    by_cases hlt : n < X.length
    · obtain ⟨xn, hxn⟩ := get_some hlt
      obtain ⟨yn, hyn⟩ := get_some (xs := ys) (k := n) (by have := Hxy.out; omega)
      have Hxn := hid hxn; have Hyn := hid hyn
      clear hxn hyn
      go_wp2_with (at_builtin; go_loud (refine wp_app1 rfl _ _ 22 rfl w5.heap.size 3 infoInt Tryz.underlying22 _ (idxL n) rfl (Hown.out.alloc _) _ 1 (n : Int) rfl (cell_new _ _ _) (by rw [idxL_len]; omega) (by simp; omega) ?_; intro v' w7 hown7 hb7))
      have hg7 : Gr [] w5 w7 := (Hg.out.alloc _).low hb7 (Nat.le_refl _)
      rw [← idxL_succ] at hown7
      obtain ⟨b1, o1, e1, -, c1⟩ := (Hn5.out.gr hg7).at Hyn.out
      subst e1
      obtain ⟨b2, o2, e2, -, c2⟩ := (HX2.out.gr (HG5.out.trans hg7)).at Hxn.out
      subst e2
      have hny : n < ys.length := by have := Hxy.out; omega
      have HF7 := hid (HF2.out.gr (HG5.out.trans hg7))
      have Hown7 := hid hown7; have Hg7 := hid hg7
      clear hown7 hg7 hb7
      have hm1 : ∀ k : GrW [] w7, k.val.cell? ⟨b1, o1 + n, none⟩ = some (.int .i64 yn) := fun k => k.gr.cell c1 (by simp)
      have hm2 : ∀ k : GrW [] w7, k.val.cell? ⟨b2, o2 + n, none⟩ = some (.int .i64 xn) := fun k => k.gr.cell c2 (by simp)
      have HC7 : Hid (∀ k : GrW [] w7, Calls Tryz.prog 27 #[.slice Fo F.length Fc, .int .i64 n] k.val fun e w' => e = .returned (.bool (onL F n)) ∧ Gr [] k.val w') := hid fun k => by
        refine (lawContains_c F n _ _ (HF7.out.gr k.gr)).mono ?_
        rintro e w' ⟨rfl, rfl⟩
        exact ⟨by rw [show memB (n : Int) F = onL F n by unfold memB onL; rw [Bool.eq_iff_iff]; simp], Gr.refl _ _⟩
      clear c1 c2
      cases hon : onL F n
      · have hk := stp_keeps (o := O) (fr := F) Hxs.out (i := n) (by have := HXL.out; omega) hon
        rw [← Hst.out, getD_here Hxn.out, getD_here Hyn.out] at hk
        subst hk
        have hnn : (yn != yn) = false := by simp
        rw [hon] at HC7
        clear hon
        go_wp2_with fail
        refine wp_region_gr [] _ (by kernel_rfl) (by kernel_rfl) (Gr.refl _ _) ?_
        repeat (go_big_quiet_step ((go_at_call 27; with_reducible exact Calls.gr_of (HC7.out _))))
        refine wpQuiet_nil ?_
        rintro w8 ⟨n8, hw8⟩
        have hg8 : Gr [] w7 w8 := hw8 ▸ n8.gr
        clear hw8 n8 hm1 hm2
        go_wp2_with fail
        exact ⟨⟨n + 1, by omega, by go_num, Hown7.out.gr hg8 (by simp), Hg7.out.trans hg8⟩, by simp [intOf]; omega⟩
      · rw [hon] at HC7
        clear hon
        go_wp2_with fail
        refine wp_region_gr [] _ (by kernel_rfl) (by kernel_rfl) (Gr.refl _ _) ?_
        repeat (go_big_quiet_step ((go_at_call 27; with_reducible exact Calls.gr_of (HC7.out _))))
        refine wpQuiet_nil ?_
        rintro w8 ⟨n8, hw8⟩
        have hg8 : Gr [] w7 w8 := hw8 ▸ n8.gr
        clear hw8 n8 hm1 hm2
        go_wp2_with fail
        exact ⟨⟨n + 1, by omega, by go_num, Hown7.out.gr hg8 (by simp), Hg7.out.trans hg8⟩, by simp [intOf]; omega⟩
    · have hnx : n = X.length := by omega
      subst hnx
      have HA := hid (Hown.out.nums (S := []) (by simp))
      obtain ⟨ao', ac', rfl, -, -⟩ := HA.out
      have HGr := hid (HG5.out.trans Hg.out)
      have Hbr := hid (Hg.out.obj Hb5.out (by simp))
      have flr := fld Hbr.out
      have HAL : Hid (agrL m.cons D X (idxL X.length) = sols m.cons D) := hid (agrL_all fun i hi => idxL_on (by have := HXL.out; omega))
      have HT : Hid (impO m D O X (idxL X.length) = some ((bestO (dot O) (sols m.cons D)).getD [])) := hid (by
        rw [impO_yes (by rw [Hval.out, Hob.out, His.out, HDL.out, ← HXL.out, idxL_fr hxd]; rfl), HAL.out])
      have HU : Hid (impO m D O X [] = some X) := hid (by
        rw [impO_yes (by rw [Hval.out, Hob.out, His.out]; simp [frB, allB])]
        exact congrArg some (stp_nil Hxs.out))
      have HMn : Hid (minO m D O = bestO (dot O) (sols m.cons D)) := hid (minO_yes (by rw [Hval.out, Hob.out]; rfl))
      obtain ⟨bz, hbz⟩ : ∃ bz, bz = (bestO (dot O) (sols m.cons D)).getD [] := ⟨_, rfl⟩
      obtain ⟨bk, hbk⟩ : ∃ bk, bk = (bestO (dot O) (sols m.cons D)).isSome := ⟨_, rfl⟩
      have Hbz := hid hbz; have Hbk := hid hbk
      clear hbz hbk Hown
      go_wp2_with fail
      have hcall := Minimize_c m O _ _ _ (Hmv2.out.gr HGr.out) (HO2.out.gr HGr.out) D HD.out
      (with_reducible refine hcall.mono ?_)
      clear hcall
      rw [HMn.out, ← Hbz.out, ← Hbk.out]
      rintro e w7 ⟨v7, rfl, hn7, hg7⟩
      have hn7 := hn7.nums (S := []) (by simp)
      obtain ⟨ho7, hc7, rfl, -, -⟩ := id hn7
      have Hn7 := hid hn7; have Hg7 := hid hg7
      have fl7 := fld (hg7.obj Hbr.out (by simp))
      clear hn7 hg7 flr
      go_wp2_with fail
      have hcall := Improve_c m O X (idxL X.length) _ _ _ _ _ (Hmv2.out.gr (HGr.out.trans Hg7.out)) (HO2.out.gr (HGr.out.trans Hg7.out)) (HX2.out.gr (HGr.out.trans Hg7.out)) (HA.out.gr Hg7.out) D HD.out
      (with_reducible refine hcall.mono ?_)
      clear hcall
      rw [HT.out, ← Hbz.out]
      rintro e w8 ⟨v8, rfl, hn8, hg8⟩
      have hn8 := hn8.nums (S := []) (by simp)
      rw [Option.getD_some] at hn8
      obtain ⟨ho8, hc8, rfl, -, -⟩ := id hn8
      have Hn8 := hid hn8; have Hg8 := hid (Hg7.out.trans hg8); have Hg8' := hid hg8
      have fl8 := fld (Hg8.out.obj Hbr.out (by simp))
      clear hn8 hg8 fl7
      go_wp2_with fail
      have hcall := Improve_c m O X [] _ _ _ _ _ (Hmv2.out.gr (HGr.out.trans Hg8.out)) (HO2.out.gr (HGr.out.trans Hg8.out)) (HX2.out.gr (HGr.out.trans Hg8.out)) ((Own.nil 0 _ 3).nums (by simp)) D HD.out
      (with_reducible refine hcall.mono ?_)
      clear hcall
      rw [HU.out]
      rintro e w9 ⟨v9, rfl, hn9, hg9⟩
      have hn9 := hn9.nums (S := []) (by simp)
      rw [Option.getD_some] at hn9
      obtain ⟨ho9, hc9, rfl, -, -⟩ := id hn9
      have Hn9 := hid hn9; have Hg9 := hid (Hg8.out.trans hg9); have Hg9' := hid hg9
      have fl9 := fld (Hg9.out.obj Hbr.out (by simp))
      clear hn9 hg9 fl8
      go_wp2_with fail
      have hcall := IsSolution_t m D ys _ _ _ (Hmv2.out.gr (HGr.out.trans Hg9.out)) HVM.out (Hn5.out.gr (Hg.out.trans Hg9.out)) Hys.out
      (with_reducible refine hcall.mono ?_)
      clear hcall
      rintro e w10 ⟨rfl, hg10⟩
      have Hg10 := hid (Hg9.out.trans hg10); have Hg10' := hid hg10
      clear hg10 fl9
      have hab : objVal O ys ≤ objVal O X := by
        rw [objVal_dot Hob.out (by rw [HYL.out, HDL.out]) (by have := HDL.out; omega) (solv Hys.out).2, objVal_dot Hob.out (by rw [HXL.out, HDL.out]) (by have := HDL.out; omega) (solv Hxs.out).2, Hst.out]
        exact stp_le Hxs.out
      obtain ⟨av, hav⟩ : ∃ av, av = objVal O ys := ⟨_, rfl⟩
      obtain ⟨bv, hbv⟩ : ∃ bv, bv = objVal O X := ⟨_, rfl⟩
      rw [← hav, ← hbv] at hab
      have hle : decide (av ≤ bv) = true := decide_eq_true hab
      have Hav := hid hav; have Hbv := hid hbv
      clear hav hbv hab
      go_wp2_with fail
      have hcall := ObjectiveValue_c O ys _ _ _ (HO2.out.gr (HGr.out.trans Hg10.out)) (Hn5.out.gr (Hg.out.trans Hg10.out))
      (with_reducible refine hcall.mono ?_)
      clear hcall
      rw [← Hav.out]
      rintro e w11 ⟨rfl, hg11⟩
      have Hg11 := hid (Hg10.out.trans hg11); have Hg11' := hid hg11
      clear hg11
      go_wp2_with fail
      have hcall := ObjectiveValue_c O X _ _ _ (HO2.out.gr (HGr.out.trans Hg11.out)) (HX2.out.gr (HGr.out.trans Hg11.out))
      (with_reducible refine hcall.mono ?_)
      clear hcall
      rw [← Hbv.out]
      rintro e w12 ⟨rfl, hg12⟩
      have Hg12 := hid (Hg11.out.trans hg12)
      have Hn8' := hid (Hn8.out.gr (Hg9'.out.trans (Hg10'.out.trans (Hg11'.out.trans hg12))))
      have Hn9' := hid (Hn9.out.gr (Hg10'.out.trans (Hg11'.out.trans hg12)))
      have Hn7' := hid (Hn7.out.gr (Hg8'.out.trans (Hg9'.out.trans (Hg10'.out.trans (Hg11'.out.trans hg12)))))
      clear hg12
      go_wp2_with fail
      have hcall := lawEqualInts_c bz bz _ _ _ Hn8'.out Hn7'.out
      (with_reducible refine hcall.mono ?_)
      clear hcall
      rw [decide_eq_true (rfl : bz = bz)]
      rintro e w13 ⟨rfl, hg13⟩
      have Hg13 := hid hg13
      clear hg13
      go_wp2_with fail
      have hcall := lawEqualInts_c X X _ _ _ (Hn9'.out.gr Hg13.out) (HX2.out.gr ((HGr.out.trans Hg12.out).trans Hg13.out))
      (with_reducible refine hcall.mono ?_)
      clear hcall
      rw [decide_eq_true (rfl : X = X)]
      rintro e w14 ⟨rfl, hg14⟩
      go_wp2_with fail
      go_ret
      exact ⟨rfl, ((HG2.out.trans (HGr.out.trans Hg12.out)).trans Hg13.out).trans hg14⟩

end Go.Proofs.YtdpcjfbnakfflaaGreat
