/-
  Walks of repair, second part: agreeing, Repair; the reference's.
-/
import Derived.Test.YtjmjjdgbkibdaaaGreatRp
set_option linter.unusedVariables false
set_option linter.unusedSimpArgs false
namespace Go.Proofs.YtjmjjdgbkibdaaaGreat
open Go.RowKit


set_option maxRecDepth 100000 in
set_option maxHeartbeats 1000000 in
theorem agLit_c (old y : List Int) (on : Nat → Bool) (k q1 q2 : Nat) (C : Array Value) (xv cv : Value) (W : World) (hx : Nums [] W .i64 xv old) (hy : Nums [] W .i64 cv y) (hl : old.length = y.length) (hl' : y.length ≤ 100)
    (h1 : W.cell? ⟨q1, 0, none⟩ = some (.func (.func k) #[] C)) (h2 : W.cell? ⟨q2, 0, none⟩ = some xv)
    (hk : ∀ args w, (callFunc k args).run Tryz.prog w = .ok (.enter k args) w)
    (hon : ∀ (i : Nat) W', i < y.length → Gr [] W W' → Calls Tryz.prog k (#[.int .i64 i] ++ C) W' fun e W'' => e = .returned (.bool (on i)) ∧ Gr [] W' W'') :
    Calls Tryz.prog 154 #[cv, .pointer (some ⟨q1, 0, none⟩), .pointer (some ⟨q2, 0, none⟩)] W fun e W' => e = .returned (.bool (!agI on old y y.length)) ∧ Gr [] W W' := by
  have Hx := hid hx; have Hy := hid hy; have H1 := hid h1; have H2 := hid h2; have Hk := hid hk; have Hon := hid hon
  obtain ⟨xo, xc, rfl, ⟨hx1, hx2, -⟩, -⟩ := hx
  obtain ⟨yo, yc, rfl, ⟨hy1, hy2, -⟩, -⟩ := hy
  have Hl := hid hl
  clear h1 h2 hon hl
  go_enter Tryz.func154, Tryz.ntmps154
  go_wp2_with fail
  go_loopw [9] (fun i wr => ∃ n : Nat, n ≤ y.length ∧ i = .int .i64 n ∧ agI on old y n = true ∧ Gr [] W wr) (fun i _ => y.length - (intOf i).toNat)
  case atStart => exact ⟨0, Nat.zero_le _, rfl, agI_zero _ _ _, Gr.refl _ _⟩
  case round =>
    obtain ⟨n, hn, rfl, hok, hg⟩ := hrel
    have Hok := hid hok; have Hg := hid hg
    clear hok
    by_cases hlt : n < y.length
    · obtain ⟨b, hb⟩ := get_some hlt
      obtain ⟨a, ha⟩ := get_some (xs := old) (k := n) (by have := Hl.out; omega)
      have HS := hid (agI_succ on hb ha)
      obtain ⟨b1, o1, e1, -, c1⟩ := (Hy.out.gr hg).at hb
      subst e1
      obtain ⟨b2, o2, e2, -, c2⟩ := (Hx.out.gr hg).at ha
      subst e2
      have hol : n < old.length := by have := Hl.out; omega
      have d1 := hg.cell H1.out (by simp); have d2 := hg.cell H2.out (by simp)
      have Hb := hid hb; have Ha := hid ha
      clear hb ha hg
      go_wp2_with fail
      refine (Hon.out n wr hlt Hg.out).mono ?_
      rintro e w5 ⟨rfl, hg5⟩
      have c25 := hg5.cell c2 (by simp); have d25 := hg5.cell d2 (by simp)
      have Hg5 := hid hg5
      clear hg5 c1 c2 d1 d2
      cases ho : on n
      · have Ho := hid ho
        clear ho
        go_wp2_with fail
        exact ⟨⟨n + 1, by omega, by go_num, by rw [HS.out, Hok.out, Ho.out]; rfl, Hg.out.trans Hg5.out⟩, by simp [intOf]; omega⟩
      · have Ho := hid ho
        clear ho
        cases hne : (b == a)
        · have Hne := hid hne
          go_wp2_with fail
          go_ret
          exact ⟨ret_bool (by rw [agI_false hlt Ho.out (by rw [getD_here Hb.out, getD_here Ha.out, bne, Hne.out]; rfl)]; rfl), Hg.out.trans Hg5.out⟩
        · have Hne := hid hne
          go_wp2_with fail
          exact ⟨⟨n + 1, by omega, by go_num, by rw [HS.out, Hok.out, Ho.out, bne, Hne.out]; rfl, Hg.out.trans Hg5.out⟩, by simp [intOf]; omega⟩
    · have hne : n = y.length := by omega
      subst hne
      clear hg
      go_wp2_with fail
      go_ret
      exact ⟨ret_bool (by rw [Hok.out]; rfl), Hg.out⟩


set_option maxRecDepth 100000 in
set_option maxHeartbeats 2000000 in
theorem agreeing_c (m : Mod) (D : List Nat) (old : List Int) (on : Nat → Bool) (k : Nat) (C : Array Value) (mv xv : Value) (w : World) (hv : ModV [] w mv m) (hVM : VM m D) (hx : Nums [] w .i64 xv old) (hl : old.length = D.length)
    (hk : ∀ args w, (callFunc k args).run Tryz.prog w = .ok (.enter k args) w)
    (hon : ∀ (S : List Nat) (i : Nat) W, i < D.length → (∀ b ∈ S, w.heap.size ≤ b) → Gr S w W → Calls Tryz.prog k (#[.int .i64 i] ++ C) W fun e W' => e = .returned (.bool (on i)) ∧ Gr [] W W') :
    Calls Tryz.prog 87 #[mv, xv, .func (.func k) #[] C] w fun e w' => ∃ v, e = .returned v ∧ RowsE w.heap.size w'.heap.size w' v ((sols m.cons D).filter fun x => agI on old x x.length) ∧ Gr [] w w' := by
  have Hv := hid hv; have HVM := hid hVM; have Hx := hid hx; have Hk := hid hk; have Hon := hid hon; have HLo := hid hl
  obtain ⟨xo, xc, co, cc, rfl⟩ := hv.slices
  obtain ⟨oo, oc, rfl, -, -⟩ := hx
  clear hv hVM hk hon hl
  have h20 : (((w.alloc (.cells #[.slice xo m.doms.length xc, .slice co m.cons.length cc] 31)).alloc (.cells #[.slice oo old.length oc] 22)).alloc (.cells #[.func (.func k) #[] C] 87)).heap[w.heap.size]? = some (.cells #[.slice xo m.doms.length xc, .slice co m.cons.length cc] 31 (0, 0)) := (((Gr.refl [] _).alloc _).alloc _).obj (heap_alloc_new _ _) (by simp)
  have h21 : (((w.alloc (.cells #[.slice xo m.doms.length xc, .slice co m.cons.length cc] 31)).alloc (.cells #[.slice oo old.length oc] 22)).alloc (.cells #[.func (.func k) #[] C] 87)).heap[w.heap.size + 1]? = some (.cells #[.slice oo old.length oc] 22 (0, 0)) := by
    have h := heap_alloc_new (w.alloc (.cells #[.slice xo m.doms.length xc, .slice co m.cons.length cc] 31)) (.cells #[.slice oo old.length oc] 22)
    rw [World.size_alloc] at h
    exact ((Gr.refl [] _).alloc _).obj h (by simp)
  have h22 : (((w.alloc (.cells #[.slice xo m.doms.length xc, .slice co m.cons.length cc] 31)).alloc (.cells #[.slice oo old.length oc] 22)).alloc (.cells #[.func (.func k) #[] C] 87)).heap[w.heap.size + 2]? = some (.cells #[.func (.func k) #[] C] 87 (0, 0)) := by
    have h := heap_alloc_new ((w.alloc (.cells #[.slice xo m.doms.length xc, .slice co m.cons.length cc] 31)).alloc (.cells #[.slice oo old.length oc] 22)) (.cells #[.func (.func k) #[] C] 87)
    rwa [World.size_alloc, World.size_alloc] at h
  have hg0 : Gr [] w (((w.alloc (.cells #[.slice xo m.doms.length xc, .slice co m.cons.length cc] 31)).alloc (.cells #[.slice oo old.length oc] 22)).alloc (.cells #[.func (.func k) #[] C] 87)) := (((Gr.refl [] w).alloc _).alloc _).alloc _
  have hs0 : (((w.alloc (.cells #[.slice xo m.doms.length xc, .slice co m.cons.length cc] 31)).alloc (.cells #[.slice oo old.length oc] 22)).alloc (.cells #[.func (.func k) #[] C] 87)).heap.size = w.heap.size + 3 := by simp
  have fl0 := fld h20; have fl1 := fld h21; have fl2 := fld h22
  have Hg0 := hid hg0; have H21 := hid h21; have H22 := hid h22
  clear h20 h21 h22 hg0
  go_enter Tryz.func87, Tryz.ntmps87
  go_wp2_with fail
  generalize hW0 : (((w.alloc (.cells #[.slice xo m.doms.length xc, .slice co m.cons.length cc] 31)).alloc (.cells #[.slice oo old.length oc] 22)).alloc (.cells #[.func (.func k) #[] C] 87)) = w0 at *
  clear hW0
  have hcall := solutionsD_c m D _ w0 (Hv.out.gr Hg0.out) HVM.out
  (with_reducible refine hcall.mono ?_)
  clear hcall
  rintro e w4 ⟨v4, rfl, ⟨_, hd4⟩, hg4⟩
  have He4 := hid hd4.e
  obtain ⟨ao, cap, rfl, -, -⟩ := hd4
  have Hg4 := hid hg4
  have hs4 := hg4.size
  clear hg4 fl0 fl1 fl2
  go_wp2_with fail
  have hcall := DeleteFunc_c (sols m.cons D) (fun x => !agI on old x x.length) w0.heap.size w4.heap.size 154 #[.pointer (some ⟨w.heap.size + 2, 0, none⟩), .pointer (some ⟨w.heap.size + 1, 0, none⟩)] _ w4 He4.out (fun _ _ => by kernel_rfl) (fun S x cv W hx hS hg hn => by
    have hS0 : ∀ b ∈ S, w0.heap.size ≤ b := fun b hb => (hS b hb).1
    have hg0W : Gr S w0 W := Gr.trans Hg4.out.any hg
    have h2 : Nums [] W .i64 (.slice oo old.length oc) old := (((Hx.out.gr Hg0.out).sub (S' := S) (fun b h1 h2 => by have := hS0 b h2; omega)).gr hg0W).sub (by simp)
    have h3 := hg0W.obj H21.out (fun hm => by have := hS0 _ hm; omega)
    have h4 := hg0W.obj H22.out (fun hm => by have := hS0 _ hm; omega)
    have hxl := solv hx
    exact agLit_c old x on k (w.heap.size + 2) (w.heap.size + 1) C _ cv W h2 hn (by rw [hxl.1]; exact HLo.out) (by have := HVM.out.len.2; omega) (fld h4 0) (fld h3 0) Hk.out
      (fun i W' hi hg' => Hon.out S i W' (by omega) (fun b hb => by have := hS0 b hb; omega) ((Gr.any Hg0.out).trans (hg0W.trans hg'.any))))
  (with_reducible refine hcall.mono ?_)
  clear hcall
  rintro e w5 ⟨v5, rfl, hr5, g5, hgB5, hg5⟩
  have e5 : (sols m.cons D).filter (fun x => !(fun x => !agI on old x x.length) x) = (sols m.cons D).filter (fun x => agI on old x x.length) := by simp
  obtain ⟨zs, hz⟩ : ∃ zs, zs = (sols m.cons D).filter (fun x => agI on old x x.length) := ⟨_, rfl⟩
  have hr5 : RowsE w0.heap.size w4.heap.size w5 v5 zs := by rw [hz, ← e5]; exact hr5
  have Hz := hid hz
  clear e5 hz
  obtain ⟨ro, rc, rfl, -, -⟩ := id hr5
  have Hr5 := hid hr5
  have HG5 : Hid (Gr [] w w5) := hid ((Hg0.out.trans Hg4.out).step hg5 (fun i hi => .inr (by simp at hi; omega)))
  have hs5 := hg5.size
  clear hr5 hg5
  go_wp2_with fail
  go_ret
  refine ⟨_, rfl, ?_, HG5.out⟩
  rw [← Hz.out]
  exact Hr5.out.imp (by omega) (by omega)


theorem mem_onL (fr : List Int) (i : Nat) : memB (i : Int) fr = onL fr i := by
  unfold memB onL
  rw [Bool.eq_iff_iff]
  simp [eq_comm]
set_option maxRecDepth 100000 in
theorem repOn_c (fr : List Int) (i q : Nat) (fv : Value) (W : World) (hf : Nums [] W .i64 fv fr) (hq : W.cell? ⟨q, 0, none⟩ = some fv) :
    Calls Tryz.prog 88 #[.int .i64 i, .pointer (some ⟨q, 0, none⟩)] W fun e W' => e = .returned (.bool (onL fr i)) ∧ Gr [] W W' := by
  have Hf := hid hf
  obtain ⟨fo, fc, rfl, -, -⟩ := hf
  go_enter Tryz.func88, Tryz.ntmps88
  go_wp2_with fail
  have hcall := containsInt_c fr (i : Int) _ W Hf.out
  (with_reducible refine hcall.mono ?_)
  clear hcall
  rintro e w1 ⟨rfl, hg1⟩
  rw [mem_onL]
  go_wp2_with fail
  go_ret
  exact ⟨rfl, hg1⟩
set_option maxRecDepth 100000 in
theorem repCost_c (old x : List Int) (q : Nat) (ov cv : Value) (W : World) (ho : Nums [] W .i64 ov old) (hq : W.cell? ⟨q, 0, none⟩ = some ov) (hx : Nums [] W .i64 cv x) (hl : x.length = old.length) (hl' : x.length ≤ 100) :
    Calls Tryz.prog 91 #[cv, .pointer (some ⟨q, 0, none⟩)] W fun e W' => e = .returned (.int .i64 (apN x old x.length : Nat)) ∧ Gr [] W W' := by
  have Ho := hid ho; have Hx := hid hx
  obtain ⟨oo, oc, rfl, -, -⟩ := ho
  obtain ⟨xo, xc, rfl, -, -⟩ := hx
  have Hl := hid hl
  clear hl
  go_enter Tryz.func91, Tryz.ntmps91
  go_wp2_with fail
  have hcall := apart_c x old _ _ W Hx.out Ho.out Hl.out hl'
  (with_reducible refine hcall.mono ?_)
  clear hcall
  rintro e w1 ⟨rfl, hg1⟩
  go_wp2_with fail
  go_ret
  exact ⟨rfl, hg1⟩


set_option maxRecDepth 100000 in
set_option maxHeartbeats 2000000 in
theorem Repair_c (m : Mod) (old fr : List Int) (mv ov fv : Value) (w : World) (hv : ModV [] w mv m) (ho : Nums [] w .i64 ov old) (hf : Nums [] w .i64 fv fr) (D : List Nat) (hD : validM m = true → VM m D) :
    Calls Tryz.prog 28 #[mv, ov, fv] w fun e w' => ∃ v', e = .returned (.tuple #[v', .bool (repO m D old fr).isSome]) ∧ NumsM (New w.heap.size w') w' v' ((repO m D old fr).getD []) ∧ Gr [] w w' := by
  have Hv := hid hv; have HD := hid hD; have Ho := hid ho; have Hf := hid hf
  obtain ⟨xo, xc, co, cc, rfl⟩ := hv.slices
  obtain ⟨oo, oc, rfl, ⟨ho1, ho2, -⟩, -⟩ := ho
  obtain ⟨fo, fc, rfl, ⟨hf1, hf2, -⟩, -⟩ := hf
  have h20 : (((w.alloc (.cells #[.slice xo m.doms.length xc, .slice co m.cons.length cc] 31)).alloc (.cells #[.slice oo old.length oc] 22)).alloc (.cells #[.slice fo fr.length fc] 22)).heap[w.heap.size]? = some (.cells #[.slice xo m.doms.length xc, .slice co m.cons.length cc] 31 (0, 0)) := (((Gr.refl [] _).alloc _).alloc _).obj (heap_alloc_new _ _) (by simp)
  have h21 : (((w.alloc (.cells #[.slice xo m.doms.length xc, .slice co m.cons.length cc] 31)).alloc (.cells #[.slice oo old.length oc] 22)).alloc (.cells #[.slice fo fr.length fc] 22)).heap[w.heap.size + 1]? = some (.cells #[.slice oo old.length oc] 22 (0, 0)) := by
    have h := heap_alloc_new (w.alloc (.cells #[.slice xo m.doms.length xc, .slice co m.cons.length cc] 31)) (.cells #[.slice oo old.length oc] 22)
    rw [World.size_alloc] at h
    exact ((Gr.refl [] _).alloc _).obj h (by simp)
  have h22 : (((w.alloc (.cells #[.slice xo m.doms.length xc, .slice co m.cons.length cc] 31)).alloc (.cells #[.slice oo old.length oc] 22)).alloc (.cells #[.slice fo fr.length fc] 22)).heap[w.heap.size + 2]? = some (.cells #[.slice fo fr.length fc] 22 (0, 0)) := by
    have h := heap_alloc_new ((w.alloc (.cells #[.slice xo m.doms.length xc, .slice co m.cons.length cc] 31)).alloc (.cells #[.slice oo old.length oc] 22)) (.cells #[.slice fo fr.length fc] 22)
    rwa [World.size_alloc, World.size_alloc] at h
  have hg0 : Gr [] w (((w.alloc (.cells #[.slice xo m.doms.length xc, .slice co m.cons.length cc] 31)).alloc (.cells #[.slice oo old.length oc] 22)).alloc (.cells #[.slice fo fr.length fc] 22)) := (((Gr.refl [] w).alloc _).alloc _).alloc _
  have hs0 : (((w.alloc (.cells #[.slice xo m.doms.length xc, .slice co m.cons.length cc] 31)).alloc (.cells #[.slice oo old.length oc] 22)).alloc (.cells #[.slice fo fr.length fc] 22)).heap.size = w.heap.size + 3 := by simp
  have fl0 := fld h20; have fo0 := fld h21; have ff0 := fld h22
  have Hg0 := hid hg0; have H20 := hid h20; have H21 := hid h21; have H22 := hid h22
  clear h20 h21 h22 hg0 hv hD
  go_enter Tryz.func28, Tryz.ntmps28
  go_wp2_with fail
  generalize hW0 : (((w.alloc (.cells #[.slice xo m.doms.length xc, .slice co m.cons.length cc] 31)).alloc (.cells #[.slice oo old.length oc] 22)).alloc (.cells #[.slice fo fr.length fc] 22)) = w0 at *
  clear hW0
  have hcall := ValidModel_c m _ w0 (Hv.out.gr Hg0.out)
  (with_reducible refine hcall.mono ?_)
  clear hcall
  rintro e w1 ⟨rfl, hg1⟩
  have Hgb := hid hg1
  have fl1 := fld (hg1.obj H20.out (by simp)); have fo1 := fld (hg1.obj H21.out (by simp)); have ff1 := fld (hg1.obj H22.out (by simp))
  have Hg1 := hid (Hg0.out.trans hg1)
  have hs1 := hg1.size
  clear fl0 fo0 ff0 hg1
  cases hval : validM m
  · have Hval := hid hval; clear hval
    go_wp2_with fail
    go_ret2
    rw [repO_no (by rw [Hval.out]; rfl)]
    exact ⟨_, rfl, NumsM.nil _ _, Hg1.out⟩
  have HVM := hid (HD.out hval)
  have Hval := hid hval
  have HDL : Hid (m.doms.length = D.length) := hid (by rw [HVM.out.doms, ints_len])
  clear hval
  go_wp2_with fail
  have hcall := assigned_c old m.doms.length _ w1 (Ho.out.gr Hg1.out)
  (with_reducible refine hcall.mono ?_)
  clear hcall
  rintro e w2 ⟨rfl, hg2⟩
  have Hgb2 := hid (Hgb.out.trans hg2)
  have fl2 := fld (Hgb2.out.obj H20.out (by simp)); have fo2 := fld (Hgb2.out.obj H21.out (by simp)); have ff2 := fld (Hgb2.out.obj H22.out (by simp))
  have Hg2 := hid (Hg1.out.trans hg2)
  have hs2 := hg2.size
  clear fl1 fo1 ff1 hg2
  cases has : asgB old m.doms.length
  · have Has := hid has; clear has
    go_wp2_with fail
    go_ret2
    rw [repO_no (by rw [Has.out]; simp)]
    exact ⟨_, rfl, NumsM.nil _ _, Hg2.out⟩
  have Has := hid has
  clear has
  go_wp2_with fail
  have hcall := setOk_c m fr _ _ w2 (Hv.out.gr Hg2.out) (Hf.out.gr Hg2.out) (by have := HVM.out.len.2; have := HDL.out; omega)
  (with_reducible refine hcall.mono ?_)
  clear hcall
  rintro e w3 ⟨rfl, hg3⟩
  have Hgb3 := hid (Hgb2.out.trans hg3)
  have fl3 := fld (Hgb3.out.obj H20.out (by simp)); have fo3 := fld (Hgb3.out.obj H21.out (by simp)); have ff3 := fld (Hgb3.out.obj H22.out (by simp))
  have Hg3 := hid (Hg2.out.trans hg3)
  have hs3 := hg3.size
  clear fl2 fo2 ff2 hg3
  cases hfr : frB fr m.doms.length
  · have Hfr := hid hfr; clear hfr
    go_wp2_with fail
    go_ret2
    rw [repO_no (by rw [Hfr.out]; simp)]
    exact ⟨_, rfl, NumsM.nil _ _, Hg3.out⟩
  have Hyes := hid (repO_yes (D := D) (show (validM m && (asgB old m.doms.length && frB fr m.doms.length)) = true by rw [Hval.out, Has.out, hfr]; rfl))
  have Hol : Hid (old.length = D.length) := hid (by rw [(asg_len Has.out).1, HDL.out])
  clear hfr
  go_wp2_with fail
  have hcall := agreeing_c m D old (onL fr) 88 #[.pointer (some ⟨w.heap.size + 2, 0, none⟩)] _ _ w3 (Hv.out.gr Hg3.out) HVM.out (Ho.out.gr Hg3.out) Hol.out (fun _ _ => by kernel_rfl) (fun S i W hi hS hg => by
    have h2 : Nums [] W .i64 (.slice fo fr.length fc) fr := (((Hf.out.gr Hg3.out).sub (S' := S) (fun b h1 h2 => by have := hS b h2; omega)).gr hg).sub (by simp)
    have h3 := hg.obj (Hgb3.out.obj H22.out (by simp)) (fun hm => by have := hS _ hm; omega)
    exact repOn_c fr i (w.heap.size + 2) _ W h2 (fld h3 0))
  (with_reducible refine hcall.mono ?_)
  clear hcall
  rintro e w4 ⟨v4, rfl, hr4, hg4⟩
  obtain ⟨ro, rc, rfl, -, -⟩ := id hr4
  have Hr4 := hid (hr4.rows (S := []) (by simp))
  have Hgb4 := hid (Hgb3.out.trans hg4)
  have fo4 := fld (Hgb4.out.obj H21.out (by simp))
  have Hg4 := hid (Hg3.out.trans hg4)
  have hs4 := hg4.size
  clear fl3 fo3 ff3 hr4 hg4
  obtain ⟨zs, hz⟩ : ∃ zs, zs = (sols m.cons D).filter (fun x => agI (onL fr) old x x.length) := ⟨_, rfl⟩
  rw [← hz] at Hr4 ⊢
  have Hnear : Hid (nearO m.cons D old fr = bestO (fun x => (apN x old x.length : Int)) zs) := hid (by rw [hz]; rfl)
  have Hzl : Hid (∀ x ∈ zs, x.length = D.length) := hid (by rw [hz]; exact fun x hx => (solv (List.mem_filter.1 hx).1).1)
  clear hz
  go_wp2_with fail
  have hcall := best_c zs (fun x => (apN x old x.length : Int)) 91 #[.pointer (some ⟨w.heap.size + 1, 0, none⟩)] _ w4 Hr4.out (fun x hx => by have := Hzl.out x hx; have := HVM.out.len; omega) (fun _ _ => by kernel_rfl) (fun x cv W hx hg hn => repCost_c old x (w.heap.size + 1) _ cv W (Ho.out.gr (Hg4.out.trans hg)) (fld (hg.obj (Hgb4.out.obj H21.out (by simp)) (by simp)) 0) hn (by rw [Hzl.out x hx, Hol.out]) (by have := Hzl.out x hx; have := HVM.out.len; omega))
  (with_reducible refine hcall.mono ?_)
  clear hcall
  rintro e w5 ⟨v5, rfl, hn5, hg5⟩
  have Hn5 := hid hn5; have Hg5 := hid hg5
  clear hn5 hg5
  go_wp2_with fail
  go_ret2
  rw [Hyes.out, Hnear.out]
  exact ⟨_, rfl, Hn5.out.gr' (Gr.refl [] _) (by simp) (fun b hb h => h.le (by omega) (Nat.le_refl _)), Hg4.out.trans Hg5.out⟩

end Go.Proofs.YtjmjjdgbkibdaaaGreat
