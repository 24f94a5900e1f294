/-
  Walks: the reference's Minimize once more (its list lies clear of older blocks), and the generator of ProveOptimal's arguments.
-/
import Derived.Test.YtlekngkcifgonaaGreatXBSy4ToIsB
import Derived.Test.YtlekngkcifgonaaGreatXG14
set_option linter.unusedVariables false
set_option linter.unusedSimpArgs false
namespace Go.Proofs.YtlekngkcifgonaaGreat
open Go.RowKit

theorem min_bound {m : Mod} {D : List Nat} {o X : List Int} (hD : validM m = true → VM m D) (h : X = (minO m D o).getD []) : X.length ≤ 5 ∧ ∀ y ∈ X, 0 ≤ y ∧ y ≤ 6 := by
  cases hv : (validM m && objB o m.doms.length)
  · rw [minO_no hv] at h; subst h; simp
  · rw [minO_yes hv] at h
    rw [Bool.and_eq_true] at hv
    cases hb : bestO (dot o) (sols m.cons D) with
    | none => rw [hb] at h; subst h; simp
    | some y =>
      rw [hb] at h
      obtain rfl : X = y := h
      have h1 := solv (bestO_mem hb)
      have h2 := (hD hv.1).len.2
      exact ⟨by omega, fun y hy => by have := h1.2 y hy; omega⟩

set_option maxRecDepth 100000 in
set_option maxHeartbeats 4000000 in
theorem specMinimize0_s (m : Mod) (D : List Nat) (o : List Int) (mv ov : Value) (w : World) (hv : ModV [] w mv m) (hVM : VM m D) (ho : Nums [] w .i64 ov o) (hob : objB o m.doms.length = true) :
    Calls Tryz.prog 150 #[mv, ov] w fun e w' => ∃ v', e = .returned (.tuple #[v', .bool (bestO (dot o) (sols m.cons D)).isSome]) ∧ (∀ S : List Nat, (∀ b ∈ S, b < w.heap.size) → Nums S w' .i64 v' ((bestO (dot o) (sols m.cons D)).getD [])) ∧ Gr [] w w' := by
  have Hv := hid hv; have HVM := hid hVM; have Ho := hid ho; have Hob := hid (obj_len hob)
  have HDL : Hid (m.doms.length = D.length) := hid (by rw [hVM.doms, ints_len])
  obtain ⟨xo, xc, co, cc, rfl⟩ := hv.slices
  obtain ⟨oo, oc, rfl, -, -⟩ := ho
  have hg0 : Gr [] w (w.alloc (.cells #[.slice xo m.doms.length xc, .slice co m.cons.length cc] 26)) := (Gr.refl _ _).alloc _
  have hb0 : (w.alloc (.cells #[.slice xo m.doms.length xc, .slice co m.cons.length cc] 26)).heap[w.heap.size]? = some (.cells #[.slice xo m.doms.length xc, .slice co m.cons.length cc] 26 (0, 0)) := heap_alloc_new _ _
  have fl0 := fld hb0
  have Hg0 := hid hg0
  clear hv hg0 hb0 hVM hob
  go_enter Tryz.func150, Tryz.ntmps150
  go_wp2_with fail
  have hcall := solve_c m D 4096 _ _ (Hv.out.gr Hg0.out) HVM.out (by omega) (by omega)
  rw [show ((4096 : Nat) : Int) = 4096 from rfl] at hcall
  (with_reducible refine hcall.mono ?_)
  clear hcall
  rintro e w3 ⟨v3, nd, rfl, hown3, hg3⟩
  rw [all_sols m D HVM.out] at hown3
  obtain ⟨zs, hz⟩ : ∃ zs, zs = sols m.cons D := ⟨_, rfl⟩
  rw [← hz] at hown3
  have Hz := hid hz
  have Hl := hid (hown3.rows (S := []) (by simp))
  have hs3 : w.heap.size < (w.alloc (.cells #[.slice xo m.doms.length xc, .slice co m.cons.length cc] 26)).heap.size := by simp
  have HlS : Hid (∀ S : List Nat, (∀ b ∈ S, b < w.heap.size) → RowsV S w3 v3 zs) := hid (fun S hS => hown3.rows (S := S) (by intro b hb; have := hS b hb; omega))
  clear hs3
  obtain ⟨ro, rc, rfl, hr1, hr2, -⟩ := hown3.slice
  have Hg3 := hid (Hg0.out.trans hg3)
  have Hsz : Hid (∀ x ∈ zs, o.length = x.length ∧ o.length ≤ 100 ∧ Small x) := hid (by
    intro x hx
    rw [hz] at hx
    have h1 := solv hx; have h2 := Hob.out.1; have h3 := HDL.out; have h4 := HVM.out.len.2
    exact ⟨by omega, by omega, small5 h1.2⟩)
  have Hso : Hid (Small o) := hid (small9 Hob.out.2)
  clear hown3 hz hg3 fl0
  go_wp2_with fail
  go_loopw [8, 9] (fun b i wr => ∃ n : Nat, n ≤ zs.length ∧ i = .int .i64 n ∧ Gr [] w3 wr ∧ ((bestO (dot o) (zs.take n) = none ∧ b = .int .i64 (-1)) ∨ ∃ (q : Nat) (y : List Int), bestO (dot o) (zs.take n) = some y ∧ b = .int .i64 q ∧ q < n ∧ zs[q]? = some y)) (fun _ i _ => zs.length - (intOf i).toNat)
  case atStart => exact ⟨0, Nat.zero_le _, rfl, Gr.refl _ _, .inl ⟨by rw [List.take_zero]; rfl, rfl⟩⟩
  case round =>
    obtain ⟨n, hn, rfl, hg, hcase⟩ := hrel
    have Hg := hid hg; clear hg
    by_cases hlt : n < zs.length
    · obtain ⟨x, hx⟩ := get_some hlt
      have hxm := List.mem_of_getElem? hx
      obtain ⟨b1, o1, u1, e1, hc1, hn1⟩ := (Hl.out.gr Hg.out).at0 hx
      subst e1
      have HS := hid (bestO_succ (cost := dot o) hx)
      have Hn1 := hid hn1; have Hx := hid hx; have Hxm := hid hxm
      clear hx hn1 hxm
      rcases hcase with ⟨hb, rfl⟩ | ⟨q, y, hb, rfl, hqn, hy⟩
      · have Hb := hid hb; clear hb hc1
        go_wp2_with fail
        refine wp_region_gr [] _ (by kernel_rfl) (by kernel_rfl) (Gr.refl _ _) ?_
        repeat (go_big_quiet_step (fail))
        refine wpQuiet_nil ?_
        rintro w7 ⟨n7, hw7⟩
        have hg7 : Gr [] wr w7 := hw7 ▸ n7.gr
        clear hw7 n7
        go_wp2_with fail
        exact ⟨⟨n + 1, by omega, by go_num, Hg.out.trans hg7, .inr ⟨n, x, by rw [HS.out, Hb.out]; rfl, rfl, by omega, Hx.out⟩⟩, by simp [intOf]; omega⟩
      · obtain ⟨b2, o2, u2, e2, hc2, hn2⟩ := (Hl.out.gr Hg.out).at0 hy
        obtain ⟨rfl, rfl⟩ : b2 = b1 ∧ o2 = o1 := by simpa [eq_comm] using e2
        have hym := List.mem_of_getElem? hy
        have Hb := hid hb; have Hn2 := hid hn2; have Hy := hid hy; have Hym := hid hym
        have hq0 : decide ((q : Int) < 0) = false := decide_eq_false (by omega)
        have hm1 : ∀ k : GrW [] wr, k.val.cell? ⟨b2, o2 + n, none⟩ = some u1 := fun k => k.gr.cell hc1 (by simp)
        have hm2 : ∀ k : GrW [] wr, k.val.cell? ⟨b2, o2 + q, none⟩ = some u2 := fun k => k.gr.cell hc2 (by simp)
        have hql : q < zs.length := by omega
        clear hb hn2 hy hym hc1 hc2 e2
        have Hor := hid (Ho.out.gr (Hg3.out.trans Hg.out))
        have hx1 := (Hsz.out x Hxm.out).1
        have hy1 := (Hsz.out y Hym.out).1
        have ho100 := (Hsz.out x Hxm.out).2.1
        have Hx1 := hid hx1; have Hy1 := hid hy1
        have ho1 : o.length ≤ 100000 := by omega
        have Hsx := hid (Hsz.out x Hxm.out).2.2; have Hsy := hid (Hsz.out y Hym.out).2.2
        clear hx1 hy1 ho100
        go_wp2_with fail
        refine wp_region_gr [] _ (by kernel_rfl) (by kernel_rfl) (Gr.refl _ _) ?_
        repeat (go_big_quiet_step ((first | (go_at_call 79; with_reducible exact Calls.gr_of (value_c o x _ u1 _ (Hor.out.gr (GrW.gr _)) (Hn1.out.gr (GrW.gr _)) Hx1.out ho1 Hso.out Hsx.out)) | (go_at_call 79; with_reducible exact Calls.gr_of (value_c o y _ u2 _ (Hor.out.gr (GrW.gr _)) (Hn2.out.gr (GrW.gr _)) Hy1.out ho1 Hso.out Hsy.out)))))
        refine wpQuiet_nil ?_
        rintro w7 ⟨n7, hw7⟩
        have hg7 : Gr [] wr w7 := hw7 ▸ n7.gr
        clear hw7 n7 hm1 hm2
        by_cases hc : dot o x < dot o y
        · have hs : bestO (dot o) (zs.take (n + 1)) = some x := by rw [HS.out, Hb.out]; unfold bstep; simp only; rw [if_pos hc]
          have Hs := hid hs
          have hcd : decide (dot o x < dot o y) = true := decide_eq_true hc
          clear hs
          go_wp2_with fail
          exact ⟨⟨n + 1, by omega, by go_num, Hg.out.trans hg7, .inr ⟨n, x, Hs.out, rfl, by omega, Hx.out⟩⟩, by simp [intOf]; omega⟩
        · have hs : bestO (dot o) (zs.take (n + 1)) = some y := by rw [HS.out, Hb.out]; unfold bstep; simp only; rw [if_neg hc]
          have Hs := hid hs
          have hcd : decide (dot o x < dot o y) = false := decide_eq_false hc
          clear hs
          go_wp2_with fail
          exact ⟨⟨n + 1, by omega, by go_num, Hg.out.trans hg7, .inr ⟨q, y, Hs.out, rfl, by omega, Hy.out⟩⟩, by simp [intOf]; omega⟩
    · have hnz : zs.take n = zs := List.take_of_length_le (by omega)
      rw [hnz] at hcase
      rcases hcase with ⟨hb, rfl⟩ | ⟨q, y, hb, rfl, hqn, hy⟩
      · have Hb := hid hb
        clear hb hnz
        go_wp2_with fail
        go_ret2
        rw [← Hz.out, Hb.out]
        exact ⟨_, rfl, fun S hS => (Own.nil w.heap.size _ 3).nums (fun b hb => by have := hS b hb; first | omega | exact .inl this), Hg3.out.trans Hg.out⟩
      · obtain ⟨b2, o2, u2, e2, hc2, hn2⟩ := (Hl.out.gr Hg.out).at0 hy
        subst e2
        have Hb := hid hb; have Hc2 := hid hc2; have Hy := hid hy
        have hql : q < zs.length := by omega
        clear hb hnz hn2 hy
        go_wp2_with fail
        go_ret2
        rw [← Hz.out, Hb.out]
        refine ⟨_, rfl, fun S hS => ?_, Hg3.out.trans Hg.out⟩
        obtain ⟨b3, o3, u3, e3, hc3, hn3⟩ := ((HlS.out S hS).gr Hg.out.any).at0 Hy.out
        obtain ⟨rfl, rfl⟩ : b3 = b2 ∧ o3 = o2 := by simpa [eq_comm] using e3
        rw [Hc2.out] at hc3
        cases hc3
        exact hn3

set_option maxRecDepth 100000 in
theorem specMinimize_s (m : Mod) (o : List Int) (mv ov : Value) (w : World) (hv : ModV [] w mv m) (ho : Nums [] w .i64 ov o) (hs : m.Small) (D : List Nat) (hD : validM m = true → VM m D) :
    Calls Tryz.prog 70 #[mv, ov] w fun e w' => ∃ v', e = .returned (.tuple #[v', .bool (minO m D o).isSome]) ∧ (∀ S : List Nat, (∀ b ∈ S, b < w.heap.size) → Nums S w' .i64 v' ((minO m D o).getD [])) ∧ Gr [] w w' := by
  have Hv := hid hv; have HD := hid hD; have Ho := hid ho; have Hs := hid hs
  obtain ⟨xo, xc, co, cc, rfl⟩ := hv.slices
  obtain ⟨oo, oc, rfl, -, -⟩ := ho
  have hg0 : Gr [] w (w.alloc (.cells #[.slice xo m.doms.length xc, .slice co m.cons.length cc] 26)) := (Gr.refl _ _).alloc _
  have hb0 : (w.alloc (.cells #[.slice xo m.doms.length xc, .slice co m.cons.length cc] 26)).heap[w.heap.size]? = some (.cells #[.slice xo m.doms.length xc, .slice co m.cons.length cc] 26 (0, 0)) := heap_alloc_new _ _
  have fl0 := fld hb0
  have Hg0 := hid hg0; have Hb0 := hid hb0
  clear hv hg0 hb0 hD hs
  go_enter Tryz.func70, Tryz.ntmps70
  go_wp2_with fail
  have hcall := specValidModel_c m _ _ (Hv.out.gr Hg0.out) Hs.out
  (with_reducible refine hcall.mono ?_)
  clear hcall
  rintro e w1 ⟨rfl, hg1⟩
  have fl1 := fld (hg1.obj Hb0.out (by simp))
  have Hb1 := hid (hg1.obj Hb0.out (by simp))
  have Hg1 := hid (Hg0.out.trans hg1)
  clear fl0 hg1
  cases hval : validM m
  · have Hval := hid hval; clear hval
    go_wp2_with fail
    go_ret2
    rw [minO_no (by rw [Hval.out]; rfl)]
    exact ⟨_, rfl, fun S hS => (Own.nil w.heap.size _ 3).nums (fun b hb => by have := hS b hb; first | omega | exact .inl this), Hg1.out⟩
  have HVM := hid (HD.out hval)
  have Hval := hid hval
  clear hval
  go_wp2_with fail
  have hcall := validObjective_c m o _ _ w1 (Hv.out.gr Hg1.out) (Ho.out.gr Hg1.out)
  (with_reducible refine hcall.mono ?_)
  clear hcall
  rintro e w2 ⟨rfl, hg2⟩
  have fl2 := fld (hg2.obj Hb1.out (by simp))
  have Hg2 := hid (Hg1.out.trans hg2)
  clear fl1 hg2
  cases hob : objB o m.doms.length
  · have Hob := hid hob; clear hob
    go_wp2_with fail
    go_ret2
    rw [minO_no (by rw [Hob.out]; simp)]
    exact ⟨_, rfl, fun S hS => (Own.nil w.heap.size _ 3).nums (fun b hb => by have := hS b hb; first | omega | exact .inl this), Hg2.out⟩
  have Hob := hid hob
  have Hyes := hid (minO_yes (D := D) (show (validM m && objB o m.doms.length) = true by rw [Hval.out, hob]; rfl))
  clear hob
  go_wp2_with fail
  have hcall := specMinimize0_s m D o _ _ w2 (Hv.out.gr Hg2.out) HVM.out (Ho.out.gr Hg2.out) Hob.out
  (with_reducible refine hcall.mono ?_)
  clear hcall
  rintro e w3 ⟨v3, rfl, hn3, hg3⟩
  have Hn3 := hid hn3; have Hg3 := hid hg3
  clear hn3 hg3
  go_wp2_with fail
  go_ret2
  rw [Hyes.out]
  exact ⟨_, rfl, fun S hS => Hn3.out S (fun b hb => Nat.lt_of_lt_of_le (hS b hb) Hg2.out.size), Hg2.out.trans Hg3.out⟩


set_option maxRecDepth 100000 in
set_option maxHeartbeats 8000000 in
theorem DrawProveOptimal_s (S : List Nat) (v : Value) (bs : List Int) (w : World) (ao : Option Addr) (cap : Nat) (hv : v = .slice ao bs.length cap) (hlen : bs.length ≤ 9223372036854775807) (hcap : bs.length ≤ cap) (hc : Cells [] w .u8 ao bs) (hb : ∀ b ∈ bs, 0 ≤ b ∧ b ≤ 255) (hS : ∀ b ∈ S, b < w.heap.size) :
    Calls Tryz.prog 13 #[v] w fun e w' => ∃ (m : Mod) (mv ov xv : Value) (O X : List Int), e = .returned (.tuple #[mv, ov, xv]) ∧ ModV S w' mv m ∧ m.Small ∧ (1 ≤ m.doms.length ∧ m.doms.length ≤ 4) ∧ Nums S w' .i64 ov O ∧ Nums S w' .i64 xv X ∧ (O.length ≤ 5 ∧ ∀ y ∈ O, -9 ≤ y ∧ y ≤ 10) ∧ (X.length ≤ 5 ∧ ∀ y ∈ X, 0 ≤ y ∧ y ≤ 6) ∧ Gr [] w w' := by
  subst hv
  have Hc := hid hc; have Hb := hid hb; have HS := hid hS; clear hc hb hS
  have hg0 : Gr [] w (w.alloc (.cells #[.slice none 0 0, .slice none 0 0] 26)) := (Gr.refl _ _).alloc _
  have hr0 : (w.alloc (.cells #[.slice none 0 0, .slice none 0 0] 26)).heap[w.heap.size]? = some (.cells #[.slice none 0 0, .slice none 0 0] 26 (0, 0)) := heap_alloc_new _ _
  have Hr0 := hid hr0; have Hg0 := hid hg0; clear hr0 hg0
  go_enter Tryz.func13, Tryz.ntmps13
  go_wp2_with fail
  have hcall := newReader_c _ bs _ ao cap rfl hlen hcap (Hc.out.gr Hg0.out) Hb.out
  (with_reducible refine hcall.mono ?_)
  clear hcall
  rintro e w1 ⟨⟨R, cs, rfl, hR, hrd1⟩, hg1⟩
  go_wp2_with fail
  have hcall := anyModel_c R cs 0 _ hrd1 (by omega)
  (with_reducible refine hcall.mono ?_)
  clear hcall
  rintro e w2 ⟨m, M, bo, ac, co, cc, rfl, hown, hdM, ⟨hM1, hM2⟩, hcs, ⟨hd1, hd4⟩, hc4, htv, hrd2, hg2⟩
  simp only [World.size_alloc] at hR
  have hRw1 := hrd1.lt
  have hr2 := hg2.obj (hg1.obj Hr0.out (by simp)) (by simp; omega)
  have hs01 := hg1.size
  simp only [World.size_alloc] at hs01
  obtain ⟨T, hT⟩ : ∃ T, T = S ++ [w.heap.size, R] := ⟨_, rfl⟩
  have hTw1 : ∀ b ∈ T, b < w1.heap.size := by
    intro b hb
    rw [hT] at hb
    rcases List.mem_append.1 hb with h | h
    · have := HS.out b h; omega
    · simp at h; omega
  have hmv := ModPost.modv (S := T) (fun b hb => .inl (hTw1 b hb)) hM1 hown hcs
  have hms := mod_small hd4 hc4 htv
  have HG : Hid (Gr [] w w2) := hid ((Hg0.out.trans hg1).step hg2 (fun i hi => .inr (by simp at hi; omega)))
  have hRl := hrd2.lt
  have ha3 : Gr [] w2 (w2.alloc (.cells #[.slice bo m.doms.length ac, .slice co m.cons.length cc] 26)) := (Gr.refl _ _).alloc _
  have hb3 : (w2.alloc (.cells #[.slice bo m.doms.length ac, .slice co m.cons.length cc] 26)).heap[w2.heap.size]? = some (.cells #[.slice bo m.doms.length ac, .slice co m.cons.length cc] 26 (0, 0)) := heap_alloc_new _ _
  have hwl := lt_of_block hr2
  have hr3 := ha3.obj hr2 (by simp)
  have hs3 : w2.heap.size < (w2.alloc (.cells #[.slice bo m.doms.length ac, .slice co m.cons.length cc] 26)).heap.size := by simp
  have HTw : Hid (∀ b ∈ T, b < w2.heap.size) := hid (fun b hb => Nat.lt_of_lt_of_le (hTw1 b hb) hg2.size)
  have HTR : Hid (R ∈ T ∧ w.heap.size ∈ T ∧ ∀ b ∈ S, b ∈ T) := hid (by rw [hT]; exact ⟨by simp, by simp, fun b hb => List.mem_append.2 (.inl hb)⟩)
  have Hmv := hid (hmv.gr ha3.any); have Hms := hid hms; have Hr3 := hid hr3; have Hrd3 := hid (hrd2.gr ha3); have Hb3 := hid hb3
  have HG3 := hid (HG.out.trans ha3)
  have fl3 := fld hb3
  clear hown hcs htv hr2 hg1 hg2 hrd1 hrd2 hmv hms ha3 hb3 HG hdM hr3 hT hTw1
  obtain ⟨D, hD⟩ := openVM m
  have HD := hid hD
  clear hD
  go_wp2_with fail
  generalize hW3 : w2.alloc (.cells #[.slice bo m.doms.length ac, .slice co m.cons.length cc] 26) = w3 at *
  clear hW3
  have hcall := objective_c R cs (0 + 2000) m.doms.length w3 Hrd3.out (by omega) (by omega)
  (with_reducible refine hcall.mono ?_)
  clear hcall
  rintro e w4 ⟨v4, o, rfl, hown4, ⟨hl4, hv4⟩, hrd4, hg4⟩
  have hs34 := hg4.size
  have hn4 := hown4.nums' (S := T) (by intro b hb; have := HTw.out b hb; omega)
  have Hn4 := hid hn4; have Hrd4 := hid hrd4; have Hv4 := hid hv4
  have Hr4 := hid (hg4.obj Hr3.out (by simp; omega)); have Hb4 := hid (hg4.obj Hb3.out (by simp; omega))
  have Hmv4 := hid (Hmv.out.gr (hg4.sub (fun k _ h => by simp at h; rw [h]; exact HTR.out.1)))
  have HG4 : Hid (Gr [] w w4) := hid (HG3.out.step hg4 (fun i hi => .inr (by simp at hi; omega)))
  obtain ⟨oo, oc, rfl, -, -⟩ := id hn4
  have fl4 := fld Hb4.out
  clear hown4 hrd4 hg4 hv4 hn4 fl3
  go_wp2_with fail
  have hcall := specMinimize_s m o _ _ w4 (Hmv4.out.sub (by simp)) (Hn4.out.sub (by simp)) Hms.out D HD.out
  (with_reducible refine hcall.mono ?_)
  clear hcall
  rintro e w5 ⟨v5, rfl, hn5, hg5⟩
  obtain ⟨X, hX⟩ : ∃ X, X = (minO m D o).getD [] := ⟨_, rfl⟩
  rw [← hX] at hn5
  have hXb : X.length ≤ 5 ∧ ∀ y ∈ X, 0 ≤ y ∧ y ≤ 6 := min_bound HD.out hX
  have HXb := hid hXb
  have hn5 := hn5 T (by intro b hb; have := HTw.out b hb; omega)
  have Hn5 := hid hn5
  obtain ⟨xo, xc, rfl, -, -⟩ := id hn5
  have Hr5 := hid (hg5.obj Hr4.out (by simp)); have Hb5 := hid (hg5.obj Hb4.out (by simp))
  have Hmv5 := hid (Hmv4.out.gr hg5.any); have Ho5 := hid (Hn4.out.gr hg5.any); have Hrd5 := hid (Hrd4.out.gr hg5)
  have HG5 : Hid (Gr [] w w5) := hid (HG4.out.trans hg5)
  have hs45 := hg5.size
  have fl5 := fld Hb5.out
  obtain ⟨ok, hok⟩ : ∃ ok, ok = (minO m D o).isSome := ⟨_, rfl⟩
  rw [← hok]
  clear hn5 hg5 hX hXb hok fl4
  cases ok
  · obtain ⟨w6, hw6⟩ : ∃ w6, w6 = w5 := ⟨_, rfl⟩
    obtain ⟨q6, hq6⟩ : ∃ q6, q6 = 0 + 2000 + m.doms.length + 1 := ⟨_, rfl⟩
    rw [← hw6] at Hr5 Hb5 Hmv5 Ho5 HG5 Hrd5 fl5 ⊢
    rw [← hq6] at Hrd5
    have Hr6 := Hr5; have Hb6 := Hb5; have Hmv6 := Hmv5; have Ho6 := Ho5; have HG6 := HG5; have Hrd6 := Hrd5; have fl6 := fl5
    have hs6 : w4.heap.size ≤ w6.heap.size := by rw [hw6]; exact hs45
    clear hw6 Hr5 Hb5 Hmv5 Ho5 HG5 Hrd5 fl5
    go_wp2_with fail
    have flr := fld Hr6.out; have ffr := fldF Hr6.out
    go_region_law (first | (go_simp; go_at_call 72; refine (assignment_c R cs q6 m _ _ (Hrd6.out.gr ((Gr.refl [] _).drew)) ((Hmv6.out.gr ((Gr.refl _ _).drew)).sub (S' := [R]) (by intro b _ hb; simp at hb; rw [hb]; exact HTR.out.1)) Hms.out ⟨hd1, hd4⟩ (by omega)).mono ?_; rintro e w7 ⟨v7, X7, rfl, hown7, ⟨hl7, hv7⟩, hrd7, hg7⟩; have HS7 : Hid (Gr [R] w6 w7) := hid (Gr.trans (a := w6) (Gr.any ((Gr.refl [] _).drew)) hg7); have hn7 := hown7.nums' (S := T) (by intro b hb; have := HTw.out b hb; simp; omega); obtain ⟨xo7, xc7, rfl, -, -⟩ := id hn7; have Hn7 := hid hn7; have Hr7 := hid (HS7.out.obj Hr6.out (by simp; omega)); have fl7 := fld (HS7.out.obj Hb6.out (by simp; omega)); have flr7 := fld Hr7.out; have ffr7 := fldF Hr7.out; clear hg7 hrd7 hown7 hn7))
    all_goals
      go_wp2_with fail
      have hbE := block_cells (cur' := #[]) (block_cells (cur' := #[]) Hr7.out 0 (.slice bo m.doms.length ac)) 1 (.slice co m.cons.length cc)
      have flE := fld hbE
      refine bodyPost_ret (v := .tuple #[.agg #[.slice bo m.doms.length ac, .slice co m.cons.length cc], .slice oo o.length oc, .slice xo7 X7.length xc7]) ?_ rfl ?_
      · simp [results, Tryz.results13, go_sem, flE]
      · have hgE : Gr T w7 ((w7.setCell ⟨w.heap.size, 0, none⟩ (.slice bo m.doms.length ac)).setCell ⟨w.heap.size, 1, none⟩ (.slice co m.cons.length cc)) :=
          ((Gr.refl _ _).setCell _ _ (.inl HTR.out.2.1)).setCell _ _ (.inl HTR.out.2.1)
        have hgE1 : Gr [w.heap.size] w7 ((w7.setCell ⟨w.heap.size, 0, none⟩ (.slice bo m.doms.length ac)).setCell ⟨w.heap.size, 1, none⟩ (.slice co m.cons.length cc)) :=
          ((Gr.refl _ _).setCell _ _ (.inl (by simp))).setCell _ _ (.inl (by simp))
        have hgF : Gr T w6 ((w7.setCell ⟨w.heap.size, 0, none⟩ (.slice bo m.doms.length ac)).setCell ⟨w.heap.size, 1, none⟩ (.slice co m.cons.length cc)) :=
          (HS7.out.sub (fun k _ hk => by simp at hk; rw [hk]; exact HTR.out.1)).trans hgE
        exact ⟨m, _, _, _, o, X7, rfl, (Hmv6.out.gr hgF).sub (fun k _ hk => HTR.out.2.2 k hk), Hms.out, ⟨hd1, hd4⟩, (Ho6.out.gr hgF).sub (fun k _ hk => HTR.out.2.2 k hk), (Hn7.out.gr hgE).sub (fun k _ hk => HTR.out.2.2 k hk), ⟨by omega, Hv4.out⟩, ⟨by omega, hv7⟩, (HG6.out.step HS7.out (fun i hi => .inr (by simp at hi; omega))).step hgE1 (fun i hi => .inr (by simp at hi; omega))⟩
  · go_wp2_with fail
    have hcall := pick_c R cs (0 + 2000 + m.doms.length + 1) 3 _ Hrd5.out (by omega) (by omega)
    (with_reducible refine hcall.mono ?_)
    clear hcall
    rintro e w6 ⟨⟨r6, rfl, hr60, hr6n⟩, hrd6, hg6⟩
    have HG6 : Hid (Gr [] w w6) := hid (HG5.out.step hg6 (fun i hi => .inr (by simp at hi; omega)))
    have hg6T : Gr T w5 w6 := hg6.sub (fun k _ h => by simp at h; rw [h]; exact HTR.out.1)
    have Hr6 := hid (hg6.obj Hr5.out (by simp; omega)); have Hb6 := hid (hg6.obj Hb5.out (by simp; omega)); have Hmv6 := hid (Hmv5.out.gr hg6T); have Ho6 := hid (Ho5.out.gr hg6T); have Hx6 := hid (Hn5.out.gr hg6T)
    obtain ⟨q6, hq6⟩ : ∃ q6, q6 = 0 + 2000 + m.doms.length + 1 + 1 := ⟨_, rfl⟩
    rw [← hq6] at hrd6
    have Hrd6 := hid hrd6
    have fl6 := fld Hb6.out
    have hs6 : w4.heap.size ≤ w6.heap.size := Nat.le_trans hs45 hg6.size
    clear hrd6 hg6 hg6T hr60 hr6n fl5
    cases h6 : (r6 == 0)
    · have frW := fld Hr6.out; have ffrW := fldF Hr6.out
      go_wp2_with fail
      have hbE := block_cells (cur' := #[]) (block_cells (cur' := #[]) Hr6.out 0 (.slice bo m.doms.length ac)) 1 (.slice co m.cons.length cc)
      have flE := fld hbE
      refine bodyPost_ret (v := .tuple #[.agg #[.slice bo m.doms.length ac, .slice co m.cons.length cc], .slice oo o.length oc, .slice xo X.length xc]) ?_ rfl ?_
      · simp [results, Tryz.results13, go_sem, flE]
      · have hgE : Gr T w6 ((w6.setCell ⟨w.heap.size, 0, none⟩ (.slice bo m.doms.length ac)).setCell ⟨w.heap.size, 1, none⟩ (.slice co m.cons.length cc)) :=
          ((Gr.refl _ _).setCell _ _ (.inl HTR.out.2.1)).setCell _ _ (.inl HTR.out.2.1)
        have hgE1 : Gr [w.heap.size] w6 ((w6.setCell ⟨w.heap.size, 0, none⟩ (.slice bo m.doms.length ac)).setCell ⟨w.heap.size, 1, none⟩ (.slice co m.cons.length cc)) :=
          ((Gr.refl _ _).setCell _ _ (.inl (by simp))).setCell _ _ (.inl (by simp))
        exact ⟨m, _, _, _, o, X, rfl, (Hmv6.out.gr hgE).sub (fun k _ hk => HTR.out.2.2 k hk), Hms.out, ⟨hd1, hd4⟩, (Ho6.out.gr hgE).sub (fun k _ hk => HTR.out.2.2 k hk), (Hx6.out.gr hgE).sub (fun k _ hk => HTR.out.2.2 k hk), ⟨by omega, Hv4.out⟩, HXb.out, HG6.out.step hgE1 (fun i hi => .inr (by simp at hi; omega))⟩
    · go_wp2_with fail
      have flr := fld Hr6.out; have ffr := fldF Hr6.out
      go_region_law (first | (go_simp; go_at_call 72; refine (assignment_c R cs q6 m _ _ (Hrd6.out.gr ((Gr.refl [] _).drew)) ((Hmv6.out.gr ((Gr.refl _ _).drew)).sub (S' := [R]) (by intro b _ hb; simp at hb; rw [hb]; exact HTR.out.1)) Hms.out ⟨hd1, hd4⟩ (by omega)).mono ?_; rintro e w7 ⟨v7, X7, rfl, hown7, ⟨hl7, hv7⟩, hrd7, hg7⟩; have HS7 : Hid (Gr [R] w6 w7) := hid (Gr.trans (a := w6) (Gr.any ((Gr.refl [] _).drew)) hg7); have hn7 := hown7.nums' (S := T) (by intro b hb; have := HTw.out b hb; simp; omega); obtain ⟨xo7, xc7, rfl, -, -⟩ := id hn7; have Hn7 := hid hn7; have Hr7 := hid (HS7.out.obj Hr6.out (by simp; omega)); have fl7 := fld (HS7.out.obj Hb6.out (by simp; omega)); have flr7 := fld Hr7.out; have ffr7 := fldF Hr7.out; clear hg7 hrd7 hown7 hn7))
      all_goals
        go_wp2_with fail
        have hbE := block_cells (cur' := #[]) (block_cells (cur' := #[]) Hr7.out 0 (.slice bo m.doms.length ac)) 1 (.slice co m.cons.length cc)
        have flE := fld hbE
        refine bodyPost_ret (v := .tuple #[.agg #[.slice bo m.doms.length ac, .slice co m.cons.length cc], .slice oo o.length oc, .slice xo7 X7.length xc7]) ?_ rfl ?_
        · simp [results, Tryz.results13, go_sem, flE]
        · have hgE : Gr T w7 ((w7.setCell ⟨w.heap.size, 0, none⟩ (.slice bo m.doms.length ac)).setCell ⟨w.heap.size, 1, none⟩ (.slice co m.cons.length cc)) :=
            ((Gr.refl _ _).setCell _ _ (.inl HTR.out.2.1)).setCell _ _ (.inl HTR.out.2.1)
          have hgE1 : Gr [w.heap.size] w7 ((w7.setCell ⟨w.heap.size, 0, none⟩ (.slice bo m.doms.length ac)).setCell ⟨w.heap.size, 1, none⟩ (.slice co m.cons.length cc)) :=
            ((Gr.refl _ _).setCell _ _ (.inl (by simp))).setCell _ _ (.inl (by simp))
          have hgF : Gr T w6 ((w7.setCell ⟨w.heap.size, 0, none⟩ (.slice bo m.doms.length ac)).setCell ⟨w.heap.size, 1, none⟩ (.slice co m.cons.length cc)) :=
            (HS7.out.sub (fun k _ hk => by simp at hk; rw [hk]; exact HTR.out.1)).trans hgE
          exact ⟨m, _, _, _, o, X7, rfl, (Hmv6.out.gr hgF).sub (fun k _ hk => HTR.out.2.2 k hk), Hms.out, ⟨hd1, hd4⟩, (Ho6.out.gr hgF).sub (fun k _ hk => HTR.out.2.2 k hk), (Hn7.out.gr hgE).sub (fun k _ hk => HTR.out.2.2 k hk), ⟨by omega, Hv4.out⟩, ⟨by omega, hv7⟩, (HG6.out.step HS7.out (fun i hi => .inr (by simp at hi; omega))).step hgE1 (fun i hi => .inr (by simp at hi; omega))⟩

end Go.Proofs.YtlekngkcifgonaaGreat
