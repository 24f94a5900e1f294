/-
  Walk of FnSolveSoft.
-/
import Derived.Test.YtdpcjfbnakfflaaGreatDs
import Derived.Test.YtdpcjfbnakfflaaGreatSq
import Derived.Test.YtdpcjfbnakfflaaGreatLPS
import Derived.Test.YtdpcjfbnakfflaaGreatIsB
import Derived.Test.YtdpcjfbnakfflaaGreatSl
import Derived.Test.YtdpcjfbnakfflaaGreatEH
import Derived.Test.YtdpcjfbnakfflaaGreatIm
set_option linter.unusedVariables false
set_option linter.unusedSimpArgs false
namespace Go.Proofs.YtdpcjfbnakfflaaGreat
open Go.RowKit


theorem SoftCost_c (ss : List Sft) (x : List Int) (sv xv : Value) (w : World) (hv : SftsV [] w sv ss) (hx : Nums [] w .i64 xv x) (hw : ∀ s ∈ ss, (1 ≤ s.wt ∧ s.wt ≤ 9) ∧ VC s.con x.length) (hl : ss.length ≤ 4) (hr : ∀ y ∈ x, 0 ≤ y ∧ y ≤ 5) (h4 : 1 ≤ x.length ∧ x.length ≤ 4) :
    Calls Tryz.prog 42 #[sv, xv] w fun e w' => e = .returned (.int .i64 (costN ss x)) ∧ Gr [] w w' := by
  have Hv := hid hv; have Hx := hid hx; have Hw := hid hw; have Hr := hid hr
  obtain ⟨so, sc, rfl, hs1, hs2⟩ := hv.slice
  obtain ⟨xo, xc, rfl, ⟨hx1, hx2, -⟩, -⟩ := hx
  have H1 : Hid (inB 1 4 ((x.length : Nat) : Int) = true) := hid (inB_iff.2 (by omega))
  have H2 : Hid (allB 0 5 x = true) := hid (allB_iff.2 hr)
  have H3 : Hid (softB ss ((x.length : Nat) : Int) = true) := hid (softB_iff.2 ⟨hl, hw⟩)
  clear hw hr
  go_enter Tryz.func42, Tryz.ntmps42
  go_wp2_with fail
  have hcall := within_c ((x.length : Nat) : Int) 1 4 w
  (with_reducible refine hcall.mono ?_)
  clear hcall
  rw [H1.out]
  rintro e w1 ⟨rfl, e1⟩
  subst e1
  have Hg1 := hid (Gr.refl [] w1)
  go_wp2_with fail
  have hcall := allIn_c x 0 5 _ _ (Hx.out.gr Hg1.out)
  (with_reducible refine hcall.mono ?_)
  clear hcall
  rw [H2.out]
  rintro e w2 ⟨rfl, hg2⟩
  have Hg2 := hid (Hg1.out.trans hg2); clear hg2
  go_wp2_with fail
  have hcall := softOk_c ss ((x.length : Nat) : Int) _ _ (Hv.out.gr Hg2.out)
  (with_reducible refine hcall.mono ?_)
  clear hcall
  rw [H3.out]
  rintro e w3 ⟨rfl, hg3⟩
  have Hg3 := hid (Hg2.out.trans hg3); clear hg3
  go_wp2_with fail
  have hcall := softCost_c ss x _ _ _ (Hv.out.gr Hg3.out) (Hx.out.gr Hg3.out) Hw.out hl Hr.out
  (with_reducible refine hcall.mono ?_)
  clear hcall
  rintro e w4 ⟨rfl, hg4⟩
  go_wp2_with fail
  go_ret
  exact ⟨rfl, Hg3.out.trans hg4⟩


set_option maxRecDepth 100000 in
set_option maxHeartbeats 8000000 in
theorem FnSolveSoft_c (v : Value) (bs : List Int) (ao : Option Addr) (cap : Nat) (w : World) (hv : v = .slice ao bs.length cap) (hlen : bs.length ≤ 9223372036854775807) (hcap : bs.length ≤ cap) (hc : Cells [] w .u8 ao bs) (hb : ∀ b ∈ bs, 0 ≤ b ∧ b ≤ 255) :
    Calls Tryz.prog 8 #[v] w fun e w' => e = .returned (.bool true) ∧ Gr [] w w' := by
  subst hv
  have Hc := hid hc; have Hb := hid hb; clear hc hb
  by_cases hbig : 1048576 < bs.length
  · go_enter Tryz.func8, Tryz.ntmps8
    go_wp2_with fail
    go_ret
    exact ⟨rfl, Gr.refl _ _⟩
  have hbig' : decide ((1048576 : Int) < (bs.length : Int)) = false := by simp; omega
  go_enter Tryz.func8, Tryz.ntmps8
  go_wp2_with fail
  have hcall := DrawSolveSoft_s [] _ bs w ao cap rfl hlen hcap Hc.out Hb.out (by simp)
  (with_reducible refine hcall.mono ?_)
  clear hcall
  rintro e w1 ⟨m, mv, sv, ss, rfl, hmv, hms, ⟨hd1, hd4⟩, hO, hOl, hOv, hg1⟩
  obtain ⟨xo, xc, co, cc, rfl⟩ := hmv.slices
  have ha2 : Gr [] w1 (w1.alloc (.cells #[.slice xo m.doms.length xc, .slice co m.cons.length cc] 31)) := (Gr.refl _ _).alloc _
  have hb2 : (w1.alloc (.cells #[.slice xo m.doms.length xc, .slice co m.cons.length cc] 31)).heap[w1.heap.size]? = some (.cells #[.slice xo m.doms.length xc, .slice co m.cons.length cc] 31 (0, 0)) := heap_alloc_new _ _
  have HG2 := hid (hg1.trans ha2); have Hmv2 := hid (hmv.gr ha2); have Hms := hid hms; have Hb2 := hid hb2
  have HO2 := hid (hO.gr ha2); have HOL := hid hOl
  have HOv : Hid (SftsSmall ss) := hid ⟨by omega, fun s hs => (hOv s hs).1.1.small⟩
  obtain ⟨oo, oc, rfl, hO1, hO2⟩ := hO.slice
  clear hO hOv
  clear hmv hms ha2 hb2 hg1 hbig
  obtain ⟨D, hD⟩ := openVM m
  have HD := hid hD; clear hD
  go_wp2_with fail
  have hcall := SolveSoft_c m ss _ _ _ Hmv2.out HO2.out D HD.out
  (with_reducible refine hcall.mono ?_)
  clear hcall
  obtain ⟨Y, hY⟩ : ∃ Y, Y = softO m D ss := ⟨_, rfl⟩
  rw [← hY]
  have HY := hid hY; clear hY
  rintro e w3 ⟨v3, rfl, hn3, hg3⟩
  have hn3 := hn3.nums (S := []) (by simp)
  have Hn3 := hid hn3
  obtain ⟨zo, zc, rfl, ⟨hz1, hz2, -⟩, -⟩ := hn3
  have fl3 := fld (hg3.obj Hb2.out (by simp))
  have HG3 := hid hg3; clear hg3
  go_wp2_with fail
  have hcall := specSolveSoft_c m ss _ _ _ (Hmv2.out.gr HG3.out) Hms.out (HO2.out.gr HG3.out) HOv.out D HD.out
  (with_reducible refine hcall.mono ?_)
  clear hcall
  rw [← HY.out]
  rintro e w4 ⟨v4, rfl, hn4, hg4⟩
  have Hn4 := hid hn4
  have HG4 := hid (HG3.out.trans hg4); have Hg4 := hid hg4
  have fl4 := fld (HG4.out.obj Hb2.out (by simp))
  obtain ⟨ok, hok⟩ : ∃ ok, ok = Y.isSome := ⟨_, rfl⟩
  rw [← hok]
  have Hok := hid hok
  obtain ⟨ys, hys⟩ : ∃ ys, ys = Y.getD [] := ⟨_, rfl⟩
  rw [← hys] at Hn3 Hn4 hz1 ⊢
  have Hyl := hid hys
  have hne : (ok != ok) = false := by cases ok <;> rfl
  have heq : (ok == ok) = true := by cases ok <;> rfl
  clear hn4 hg4 fl3 hok hys
  go_wp2_with fail
  have hcall := lawEqualInts_c ys ys _ _ _ (Hn3.out.gr Hg4.out) Hn4.out
  (with_reducible refine hcall.mono ?_)
  clear hcall
  rw [decide_eq_true (rfl : ys = ys)]
  rintro e w5 ⟨rfl, hg5⟩
  have HG5 := hid (HG4.out.trans hg5); have Hn5 := hid (Hn3.out.gr (Hg4.out.trans hg5)); have Hm5 := hid (Hn4.out.gr hg5)
  have Hb5 := hid (HG5.out.obj Hb2.out (by simp)); have fl5 := fld Hb5.out
  clear hg5 fl4
  cases hY : Y with
  | none =>
    have Hokf : ok = false := by rw [Hok.out, hY]; rfl
    subst Hokf
    clear hY
    go_wp2_with fail
    have hcall := lawEqualInts_c ys ys _ _ _ Hn5.out Hm5.out
    (with_reducible refine hcall.mono ?_)
    clear hcall
    rw [decide_eq_true (rfl : ys = ys)]
    rintro e w7 ⟨rfl, hg7⟩
    go_wp2_with fail
    go_ret
    exact ⟨rfl, (HG2.out.trans HG5.out).trans hg7⟩
  | some y =>
  have Hokt : ok = true := by rw [Hok.out, hY]; rfl
  subst Hokt
  have hysy : ys = y := by rw [Hyl.out, hY]; rfl
  subst hysy
  have hin : (validM m && softB ss m.doms.length) = true := by
    cases h : (validM m && softB ss m.doms.length)
    · exfalso; have := HY.out; rw [softO_no h, hY] at this; cases this
    · rfl
  have hbest : bestO (costN ss) (sols m.cons D) = some ys := by
    have := HY.out
    rw [softO_yes hin, hY] at this
    exact this.symm
  simp only [Bool.and_eq_true] at hin
  obtain ⟨hval, hsb⟩ := hin
  have HVM := hid (HD.out hval)
  have Hbest := hid hbest; have HSB := hid (softB_iff.1 hsb)
  have HDL : Hid (m.doms.length = D.length) := hid (by rw [HVM.out.doms, ints_len])
  have Hys : Hid (ys ∈ sols m.cons D) := hid (bestO_mem hbest)
  have HYL : Hid (ys.length = D.length) := hid (solv Hys.out).1
  have hD4 : D.length ≤ 4 := HVM.out.len.2
  have hD1 : 1 ≤ D.length := HVM.out.len.1
  have hss4 : ss.length ≤ 4 := hOl
  clear hval hsb hbest hY
  go_wp2_with fail
  have hcall := SolveAll_c m 20 _ _ (Hmv2.out.gr HG5.out) D HD.out
  (with_reducible refine hcall.mono ?_)
  clear hcall
  rintro e w6 ⟨v6, rfl, hr6, hg6⟩
  obtain ⟨zs, hzs⟩ : ∃ zs, zs = allO m 20 D := ⟨_, rfl⟩
  rw [← hzs] at hr6
  have Hzm : Hid (∀ x ∈ zs, x ∈ sols m.cons D) := hid (by rw [hzs]; unfold allO; split; exact fun x hx => List.mem_of_mem_take hx; simp)
  have Hr6 := hid hr6
  obtain ⟨ro, rc, rfl, ⟨hr1, hr2, -⟩, -⟩ := hr6
  have HG6 := hid (HG5.out.trans hg6); have Hn6 := hid (Hn5.out.gr hg6)
  have Hb6 := hid (HG6.out.obj Hb2.out (by simp))
  clear hzs hg6 fl5
  go_wp2_with fail
  go_loopw [10] (fun i' wr => ∃ n : Nat, n ≤ zs.length ∧ i' = .int .i64 n ∧ Gr [] w6 wr) (fun i' _ => zs.length - (intOf i').toNat)
  case atStart => exact ⟨0, Nat.zero_le _, rfl, Gr.refl _ _⟩
  case round =>
  obtain ⟨n, hn, rfl, hg⟩ := hrel
  have flr := fld (hg.obj Hb6.out (by simp))
  have Hg := hid hg
  by_cases hlt : n < zs.length
  · obtain ⟨x, hx⟩ := get_some hlt
    have hxs := Hzm.out x (List.mem_of_getElem? hx)
    have hxl : x.length = D.length := (solv hxs).1
    have hx05 := (solv hxs).2
    obtain ⟨b, o', u, e1, hc0, hn0⟩ := (Hr6.out.gr hg).at0 hx
    subst e1
    obtain ⟨xo', xc', rfl, ⟨hx1, hx2, -⟩, -⟩ := id hn0
    have hbf := bestO_first (sols_sorted m.cons D) Hbest.out x hxs
    obtain ⟨cx, hcx⟩ : ∃ cx, cx = costN ss x := ⟨_, rfl⟩
    obtain ⟨cy, hcy⟩ : ∃ cy, cy = costN ss ys := ⟨_, rfl⟩
    rw [← hcx, ← hcy] at hbf
    have hlt1 : decide (cx < cy) = false := decide_eq_false (by rcases hbf with h | h <;> omega)
    have HLX : Hid (cx = cy → lexB x ys = false) := hid (fun e => by
      rcases hbf with h | ⟨-, h | h⟩
      · omega
      · subst h; exact lexB_irrefl _
      · exact lexB_asymm h)
    have HS6 := hid (HO2.out.gr (HG6.out.trans hg)); have HY6 := hid (Hn6.out.gr hg)
    have HX0 : Hid (∀ s ∈ ss, (1 ≤ s.wt ∧ s.wt ≤ 9) ∧ VC s.con x.length) := hid (by rw [hxl, ← HDL.out]; exact HSB.out.2)
    have HY0 : Hid (∀ s ∈ ss, (1 ≤ s.wt ∧ s.wt ≤ 9) ∧ VC s.con ys.length) := hid (by rw [HYL.out, ← HDL.out]; exact HSB.out.2)
    have Hxs := hid hxs; have Hxl := hid hxl; have Hn0 := hid hn0; have Hc0 := hid hc0; have Hx05 := hid hx05; have Hcx := hid hcx; have Hcy := hid hcy
    clear hx hxs hxl hn0 hg hx05 hcx hcy hbf
    go_wp2_with fail
    have hcall := SoftCost_c ss x _ _ _ HS6.out Hn0.out HX0.out hss4 Hx05.out (by have := Hxl.out; omega)
    (with_reducible refine hcall.mono ?_)
    clear hcall
    rw [← Hcx.out]
    rintro e w7 ⟨rfl, hg7⟩
    have Hg7 := hid hg7
    clear hg7 hc0
    go_wp2_with fail
    have hcall := SoftCost_c ss ys _ _ _ (HS6.out.gr Hg7.out) (HY6.out.gr Hg7.out) HY0.out hss4 (solv Hys.out).2 (by have := HYL.out; omega)
    (with_reducible refine hcall.mono ?_)
    clear hcall
    rw [← Hcy.out]
    rintro e w8 ⟨rfl, hg8⟩
    have Hg8 := hid (Hg7.out.trans hg8)
    clear hg8
    by_cases heq2 : cx = cy
    · have hlx := HLX.out heq2
      have hee : (cx == cy) = true := by simp [heq2]
      have Hlx := hid hlx
      clear hlx heq2
      go_wp2_with fail
      have hcall := SoftCost_c ss ys _ _ _ (HS6.out.gr Hg8.out) (HY6.out.gr Hg8.out) HY0.out hss4 (solv Hys.out).2 (by have := HYL.out; omega)
      (with_reducible refine hcall.mono ?_)
      clear hcall
      rw [← Hcy.out]
      rintro e w9 ⟨rfl, hg9⟩
      have Hg9 := hid (Hg8.out.trans hg9)
      have hc9 := Hg9.out.cell Hc0.out (by simp)
      clear hg9
      go_wp2_with fail
      have hcall := lexLess_c x ys _ _ _ (Hn0.out.gr Hg9.out) (HY6.out.gr Hg9.out) (by rw [Hxl.out, HYL.out])
      (with_reducible refine hcall.mono ?_)
      clear hcall
      rw [Hlx.out]
      rintro e w10 ⟨rfl, hg10⟩
      go_wp2_with fail
      exact ⟨⟨n + 1, by omega, by go_num, Hg.out.trans (Hg9.out.trans hg10)⟩, by simp [intOf]; omega⟩
    · have hee : (cx == cy) = false := by simp [heq2]
      clear heq2
      go_wp2_with fail
      have hcall := SoftCost_c ss ys _ _ _ (HS6.out.gr Hg8.out) (HY6.out.gr Hg8.out) HY0.out hss4 (solv Hys.out).2 (by have := HYL.out; omega)
      (with_reducible refine hcall.mono ?_)
      clear hcall
      rw [← Hcy.out]
      rintro e w9 ⟨rfl, hg9⟩
      go_wp2_with fail
      exact ⟨⟨n + 1, by omega, by go_num, Hg.out.trans (Hg8.out.trans hg9)⟩, by simp [intOf]; omega⟩
  · have HGf := hid (HG6.out.trans hg)
    have HYr := hid (Hn6.out.gr hg)
    clear hg
    go_wp2_with fail
    have hcall := IsSolution_t m D ys _ _ _ (Hmv2.out.gr HGf.out) HVM.out HYr.out Hys.out
    (with_reducible refine hcall.mono ?_)
    clear hcall
    rintro e w7 ⟨rfl, hg7⟩
    go_wp2_with fail
    go_ret
    exact ⟨rfl, (HG2.out.trans HGf.out).trans hg7⟩

end Go.Proofs.YtdpcjfbnakfflaaGreat
