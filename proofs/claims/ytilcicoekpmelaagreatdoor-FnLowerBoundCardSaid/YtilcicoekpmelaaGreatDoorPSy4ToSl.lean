/-
  Walks of the symmetries of variables and of values: the program's and the reference's. Walks of the symmetries of variables and of values: the reference's; the program's for values.
  Walks of NextSolution: the program's and the reference's.
  The first one of lists for which a function is least: plainly, and the program's walk over whatever function. Walks of objectives: validity, the least solution; the program's and the reference's.
  Walks of laws.equalInts and FnIsConsistent. Walks of laws.isSubset and FnPropagateFixpoint. Walk of FnPropagateSound.
  Walks for the law of SolveAll: the reference's SolveAll, the comparisons of lists, IsSolution.
-/
import Derived.Test.YtilcicoekpmelaaGreatDoorPSy1ToRe
import Derived.Test.YtilcicoekpmelaaGreatDoorPG8
set_option linter.unusedVariables false
namespace Go.Proofs.YtilcicoekpmelaaGreatDoor
open Go.RowKit

end Go.Proofs.YtilcicoekpmelaaGreatDoor

set_option linter.unusedVariables false
namespace Go.Proofs.YtilcicoekpmelaaGreatDoor
open Go.RowKit

theorem all_sols (m : Mod) (D : List Nat) (hVM : VM m D) : (sols m.cons D).take 4096 = sols m.cons D := List.take_of_length_le (by have := sols_length m.cons D hVM.len.2; omega)

/-! ### Values -/
end Go.Proofs.YtilcicoekpmelaaGreatDoor

set_option linter.unusedVariables false
namespace Go.Proofs.YtilcicoekpmelaaGreatDoor
open Go.RowKit

theorem lexB_cons (x y : Int) (xs ys : List Int) : lexB (x :: xs) (y :: ys) = if x = y then lexB xs ys else decide (x < y) := rfl
end Go.Proofs.YtilcicoekpmelaaGreatDoor

set_option linter.unusedVariables false
namespace Go.Proofs.YtilcicoekpmelaaGreatDoor
open Go.RowKit

def bstep (cost : List Int → Int) (o : Option (List Int)) (x : List Int) : Option (List Int) :=
  match o with
  | none => some x
  | some y => if cost x < cost y then some x else some y
def bestO (cost : List Int → Int) (zs : List (List Int)) : Option (List Int) := zs.foldl (bstep cost) none
theorem bestO_succ {cost : List Int → Int} {zs : List (List Int)} {n : Nat} {x : List Int} (h : zs[n]? = some x) : bestO cost (zs.take (n + 1)) = bstep cost (bestO cost (zs.take n)) x := by
  unfold bestO
  rw [List.take_add_one, h]
  simp
theorem bstep_mem {cost : List Int → Int} {o : Option (List Int)} {x y : List Int} (h : bstep cost o x = some y) : o = some y ∨ x = y := by
  cases o with
  | none => right; simpa [bstep] using h
  | some z =>
    unfold bstep at h
    simp only at h
    split at h
    · right; simpa using h
    · left; simpa using h
theorem foldl_mem {cost : List Int → Int} {zs : List (List Int)} {o : Option (List Int)} {y : List Int} (h : zs.foldl (bstep cost) o = some y) : o = some y ∨ y ∈ zs := by
  induction zs generalizing o with
  | nil => exact .inl h
  | cons x r ih =>
    rcases ih h with h | h
    · rcases bstep_mem h with h | h
      · exact .inl h
      · right; simp [h]
    · right; simp [h]
theorem bestO_mem {cost : List Int → Int} {zs : List (List Int)} {y : List Int} (h : bestO cost zs = some y) : y ∈ zs := by
  rcases foldl_mem h with h | h
  · cases h
  · exact h
theorem run_eql_slice_nil2 {P : Program} (w : World) (t e : TypeId) (a : Option Addr) (l c : Nat) (h : P.underlying t = some (.slice e)) : (binOp .eql t (.slice a l c) (.slice none 0 0)).run P w = .ok (.bool a.isNone) w := by
  simp only [binOp]
  simp [run_equal_slice_nil w t e a l c h]
theorem run_neq_slice_nil2 {P : Program} (w : World) (t e : TypeId) (a : Option Addr) (l c : Nat) (h : P.underlying t = some (.slice e)) : (binOp .neq t (.slice a l c) (.slice none 0 0)).run P w = .ok (.bool (!a.isNone)) w := by
  simp only [binOp]
  simp [run_equal_slice_nil w t e a l c h]
section
attribute [local go_sem] run_eql_slice_nil2 run_neq_slice_nil2

set_option maxRecDepth 100000 in
set_option maxHeartbeats 2000000 in
theorem best_c (zs : List (List Int)) (cost : List Int → Int) (k : Nat) (C : Array Value) (lv : Value) (w : World) (hl : RowsV [] w lv zs) (hn : ∀ x ∈ zs, 1 ≤ x.length ∧ x.length ≤ 100)
    (hk : ∀ args w, (callFunc k args).run Tryz.prog w = .ok (.enter k args) w)
    (hf : ∀ x cv W, x ∈ zs → Gr [] w W → Nums [] W .i64 cv x → Calls Tryz.prog k (#[cv] ++ C) W fun e W' => e = .returned (.int .i64 (cost x)) ∧ Gr [] W W') :
    Calls Tryz.prog 65 #[lv, .func (.func k) #[] C] w fun e w' => ∃ v', e = .returned (.tuple #[v', .bool (bestO cost zs).isSome]) ∧ NumsM (New w.heap.size w') w' v' ((bestO cost zs).getD []) ∧ Gr [] w w' := by
  have hund := Tryz.underlying23
  have Hl := hid hl; have Hn := hid hn; have Hf := hid hf
  obtain ⟨ro, rc, rfl, ⟨hr1, hr2, -⟩, -⟩ := hl
  clear hn hf
  go_enter Tryz.func65, Tryz.ntmps65
  go_wp2_with fail
  go_loopw [6, 7, 13] (fun o l i wr => ∃ (n : Nat) (z : Int), n ≤ zs.length ∧ i = .int .i64 n ∧ l = .int .i64 z ∧ Gr [] w wr ∧ ((bestO cost (zs.take n) = none ∧ o = .slice none 0 0) ∨ ∃ y a c, bestO cost (zs.take n) = some y ∧ z = cost y ∧ o = .slice (some a) y.length c ∧ Nums [] wr .i64 (.slice (some a) y.length c) y)) (fun _ _ i _ => zs.length - (intOf i).toNat)
  case atStart => exact ⟨0, 0, Nat.zero_le _, rfl, rfl, Gr.refl _ _, .inl ⟨by rw [List.take_zero]; rfl, rfl⟩⟩
  case round =>
    obtain ⟨n, z, hnl, rfl, rfl, hg, hcase⟩ := hrel
    have Hg := hid hg; clear hg
    by_cases hlt : n < zs.length
    · obtain ⟨x, hx⟩ := get_some hlt
      have hxm := List.mem_of_getElem? hx
      obtain ⟨hx1, hx100⟩ := Hn.out x hxm
      obtain ⟨b, oz, u, e1, hc0, hn0⟩ := (Hl.out.gr Hg.out).at0 hx
      subst e1
      obtain ⟨xo', xc', rfl, -, -⟩ := id hn0
      obtain ⟨x0, hx0⟩ := get_some (xs := x) (k := 0) (by omega)
      obtain ⟨bb, ob, rfl, -, -⟩ := hn0.at hx0
      have HS := hid (bestO_succ (cost := cost) hx)
      have Hn0 := hid hn0
      clear hx hx0 hn0
      rcases hcase with ⟨hb, rfl⟩ | ⟨y, a, c, hb, hz, rfl, hny⟩
      · have Hb := hid hb; clear hb
        go_wp2_with fail
        refine (Hf.out x _ wr hxm Hg.out Hn0.out).mono ?_
        rintro e w5 ⟨rfl, hg5⟩
        have Hg5 := hid hg5; clear hg5
        go_wp2_with fail
        exact ⟨⟨n + 1, cost x, by omega, by go_num, rfl, Hg.out.trans Hg5.out, .inr ⟨x, _, _, by rw [HS.out, Hb.out]; rfl, rfl, rfl, Hn0.out.gr Hg5.out⟩⟩, by simp [intOf]; omega⟩
      · have Hb := hid hb; have Hny := hid hny; have Hz := hid hz
        clear hb hny hz
        go_wp2_with fail
        refine (Hf.out x _ wr hxm Hg.out Hn0.out).mono ?_
        rintro e w5 ⟨rfl, hg5⟩
        have Hg5 := hid hg5; clear hg5
        by_cases hc : cost x < z
        · have hs : bestO cost (zs.take (n + 1)) = some x := by rw [HS.out, Hb.out]; unfold bstep; simp only; rw [if_pos (by rw [← Hz.out]; exact hc)]
          have Hs := hid hs; clear hs
          go_wp2_with fail
          exact ⟨⟨n + 1, cost x, by omega, by go_num, rfl, Hg.out.trans Hg5.out, .inr ⟨x, _, _, Hs.out, rfl, rfl, Hn0.out.gr Hg5.out⟩⟩, by simp [intOf]; omega⟩
        · have hs : bestO cost (zs.take (n + 1)) = some y := by rw [HS.out, Hb.out]; unfold bstep; simp only; rw [if_neg (by rw [← Hz.out]; exact hc)]
          have Hs := hid hs; clear hs
          go_wp2_with fail
          exact ⟨⟨n + 1, z, by omega, by go_num, rfl, Hg.out.trans Hg5.out, .inr ⟨y, _, _, Hs.out, Hz.out, rfl, Hny.out.gr Hg5.out⟩⟩, by simp [intOf]; omega⟩
    · have hnz : zs.take n = zs := List.take_of_length_le (by omega)
      rw [hnz] at hcase
      have hs0 := Hg.out.size
      rcases hcase with ⟨hb, rfl⟩ | ⟨y, a, c, hb, hz, rfl, hny⟩
      · have Hb := hid hb
        clear hb hnz
        go_wp2_with fail
        have hcall := copied_c _ [] wr ((Own.nil 0 _ 3).nums (by simp)) (by simp)
        (with_reducible refine hcall.mono ?_)
        clear hcall
        rintro e w5 ⟨v5, rfl, ho5, hg5⟩
        have Ho5 := hid (OwnC.numsM ho5); have Hg5 := hid hg5
        clear ho5 hg5
        go_wp2_with fail
        go_ret2
        rw [Hb.out]
        exact ⟨_, rfl, Ho5.out.gr' (Gr.refl [] _) (by simp) (fun b hb h => h.le hs0 (Nat.le_refl _)), Hg.out.trans Hg5.out⟩
      · have hyl := (Hn.out y (bestO_mem hb)).2
        have Hb := hid hb
        have Hny := hid hny
        clear hb hnz hny hz
        go_wp2_with fail
        have hcall := copied_c _ y wr Hny.out (by omega)
        (with_reducible refine hcall.mono ?_)
        clear hcall
        rintro e w5 ⟨v5, rfl, ho5, hg5⟩
        have Ho5 := hid (OwnC.numsM ho5); have Hg5 := hid hg5
        clear ho5 hg5
        go_wp2_with fail
        go_ret2
        rw [Hb.out]
        exact ⟨_, rfl, Ho5.out.gr' (Gr.refl [] _) (by simp) (fun b hb h => h.le hs0 (Nat.le_refl _)), Hg.out.trans Hg5.out⟩
end
end Go.Proofs.YtilcicoekpmelaaGreatDoor

set_option linter.unusedVariables false
set_option linter.unusedSimpArgs false
namespace Go.Proofs.YtilcicoekpmelaaGreatDoor
open Go.RowKit

def objB (x : List Int) (n : Nat) : Bool := ((x.length : Int) == (n : Int)) && allB (-9) 9 x
theorem obj_len {x : List Int} {n : Nat} (h : objB x n = true) : x.length = n ∧ ∀ y ∈ x, -9 ≤ y ∧ y ≤ 9 := by
  unfold objB at h
  rw [Bool.and_eq_true] at h
  exact ⟨by have := h.1; simp at this; omega, allB_iff.1 h.2⟩
set_option maxRecDepth 100000 in
theorem objectiveOk_c (m : Mod) (x : List Int) (mv v : Value) (w : World) (hm : ModV [] w mv m) (hv : Nums [] w .i64 v x) :
    Calls Tryz.prog 18 #[mv, v] w fun e w' => e = .returned (.bool (validM m && objB x m.doms.length)) ∧ Gr [] w w' := by
  have Hv := hid hv; have Hm := hid hm
  obtain ⟨xo, xc, co, cc, rfl⟩ := hm.slices
  obtain ⟨vo, vc, rfl, ⟨hx1, hx2, _⟩, _⟩ := hv
  have hg0 : Gr [] w (w.alloc (.cells #[.slice xo m.doms.length xc, .slice co m.cons.length cc] 26)) := (Gr.refl _ _).alloc _
  have hb0 : (w.alloc (.cells #[.slice xo m.doms.length xc, .slice co m.cons.length cc] 26)).heap[w.heap.size]? = some (.cells #[.slice xo m.doms.length xc, .slice co m.cons.length cc] 26 (0, 0)) := heap_alloc_new _ _
  have fl0 := fld hb0
  have Hg0 := hid hg0; have Hb0 := hid hb0
  clear hg0 hb0 hm
  go_enter Tryz.func18, Tryz.ntmps18
  go_wp2_with fail
  have hcall := ValidModel_c m _ _ (Hm.out.gr Hg0.out)
  (with_reducible refine hcall.mono ?_)
  clear hcall
  rintro e w1 ⟨rfl, hg1⟩
  have fl1 := fld (hg1.obj Hb0.out (by simp))
  have Hg1 := hid (Hg0.out.trans hg1)
  clear fl0 hg1
  cases hval : validM m
  · have Hval := hid hval
    clear hval
    go_wp2_with fail
    go_ret
    exact ⟨ret_bool (by rw [Hval.out]; rfl), Hg1.out⟩
  have Hval := hid hval
  clear hval
  cases hl : ((x.length : Int) == (m.doms.length : Int))
  · have Hl := hid hl
    go_wp2_with fail
    go_ret
    exact ⟨ret_bool (by unfold objB; rw [Hval.out, Hl.out]; rfl), Hg1.out⟩
  · have Hl := hid hl
    go_wp2_with fail
    have hcall := allIn_c x (-9) 9 _ _ (Hv.out.gr Hg1.out)
    (with_reducible refine hcall.mono ?_)
    clear hcall
    rintro e w2 ⟨rfl, hg2⟩
    go_wp2_with fail
    go_ret
    exact ⟨ret_bool (by unfold objB; rw [Hval.out, Hl.out]; rfl), Hg1.out.trans (by first | exact hg2 | (subst hg2; exact Gr.refl _ _))⟩
set_option maxRecDepth 100000 in
theorem validObjective_c (m : Mod) (x : List Int) (mv v : Value) (w : World) (hm : ModV [] w mv m) (hv : Nums [] w .i64 v x) :
    Calls Tryz.prog 22 #[mv, v] w fun e w' => e = .returned (.bool (objB x m.doms.length)) ∧ Gr [] w w' := by
  have Hv := hid hv
  obtain ⟨xo, xc, co, cc, rfl⟩ := hm.slices
  obtain ⟨vo, vc, rfl, ⟨hx1, hx2, _⟩, _⟩ := hv
  have hg0 : Gr [] w (w.alloc (.cells #[.slice xo m.doms.length xc, .slice co m.cons.length cc] 26)) := (Gr.refl _ _).alloc _
  have hb0 : (w.alloc (.cells #[.slice xo m.doms.length xc, .slice co m.cons.length cc] 26)).heap[w.heap.size]? = some (.cells #[.slice xo m.doms.length xc, .slice co m.cons.length cc] 26 (0, 0)) := heap_alloc_new _ _
  have fl0 := fld hb0
  have Hg0 := hid hg0
  clear hg0 hb0 hm
  cases hl : ((x.length : Int) == (m.doms.length : Int))
  · go_enter Tryz.func22, Tryz.ntmps22
    go_wp2_with fail
    go_ret
    exact ⟨ret_bool (by unfold objB; rw [hl]; rfl), Hg0.out⟩
  · have Hl := hid hl
    go_enter Tryz.func22, Tryz.ntmps22
    go_wp2_with fail
    have hcall := allInRange_c x (-9) 9 _ _ (Hv.out.gr Hg0.out)
    (with_reducible refine hcall.mono ?_)
    clear hcall
    rintro e w1 ⟨rfl, hg1⟩
    go_wp2_with fail
    go_ret
    exact ⟨ret_bool (by unfold objB; rw [Hl.out]; rfl), Hg0.out.trans (by first | exact hg1 | (subst hg1; exact Gr.refl _ _))⟩

/-! ### The least solution -/
def minO (m : Mod) (D : List Nat) (o : List Int) : Option (List Int) := if validM m && objB o m.doms.length then bestO (dot o) (sols m.cons D) else none
theorem minO_no {m : Mod} {D : List Nat} {x : List Int} (h : (validM m && objB x m.doms.length) = false) : minO m D x = none := by unfold minO; rw [h]; rfl
theorem minO_yes {m : Mod} {D : List Nat} {x : List Int} (h : (validM m && objB x m.doms.length) = true) : minO m D x = bestO (dot x) (sols m.cons D) := by unfold minO; rw [h]; rfl
theorem small9 {x : List Int} (h : ∀ y ∈ x, -9 ≤ y ∧ y ≤ 9) : Small x := fun y hy => by have := h y hy; omega
theorem small5 {x : List Int} (h : ∀ y ∈ x, 0 ≤ y ∧ y ≤ 5) : Small x := fun y hy => by have := h y hy; omega
theorem solv {cs : List Con} {D : List Nat} {x : List Int} (h : x ∈ sols cs D) : x.length = D.length ∧ ∀ y ∈ x, 0 ≤ y ∧ y ≤ 5 := ⟨tups_len (mem_sols.1 h).1, tups_val (mem_sols.1 h).1⟩
/-- The program's function of an assignment's value. -/
theorem minLit_c (o x : List Int) (q : Nat) (ov cv : Value) (W : World) (ho : Nums [] W .i64 ov o) (hq : W.cell? ⟨q, 0, none⟩ = some ov) (hx : Nums [] W .i64 cv x) (hl : o.length = x.length) (hl' : o.length ≤ 100) (h9 : ∀ y ∈ o, -9 ≤ y ∧ y ≤ 9) (h5 : ∀ y ∈ x, 0 ≤ y ∧ y ≤ 5) :
    Calls Tryz.prog 66 #[cv, .pointer (some ⟨q, 0, none⟩)] W fun e W' => e = .returned (.int .i64 (dot o x)) ∧ Gr [] W W' := by
  have Ho := hid ho; have Hx := hid hx; have H9 := hid h9; have H5 := hid h5
  obtain ⟨oo, oc, rfl, -, -⟩ := ho
  obtain ⟨xo, xc, rfl, -, -⟩ := hx
  have Hl := hid hl
  clear h9 h5 hl
  go_enter Tryz.func66, Tryz.ntmps66
  go_wp2_with fail
  have hcall := weighted_c o x _ _ W Ho.out Hx.out (by have := Hl.out; omega) (by omega) (small9 H9.out) (small5 H5.out)
  (with_reducible refine hcall.mono ?_)
  clear hcall
  rintro e w1 ⟨rfl, hg1⟩
  go_wp2_with fail
  go_ret
  exact ⟨rfl, by first | exact hg1 | (subst hg1; exact Gr.refl _ _)⟩

set_option maxRecDepth 100000 in
set_option maxHeartbeats 1000000 in
theorem minimize_c (m : Mod) (D : List Nat) (o : List Int) (mv ov : Value) (w : World) (hv : ModV [] w mv m) (hVM : VM m D) (ho : Nums [] w .i64 ov o) (hob : objB o m.doms.length = true) :
    Calls Tryz.prog 38 #[mv, ov] w fun e w' => ∃ v', e = .returned (.tuple #[v', .bool (bestO (dot o) (sols m.cons D)).isSome]) ∧ NumsM (New w.heap.size w') w' v' ((bestO (dot o) (sols m.cons D)).getD []) ∧ Gr [] w w' := by
  have Hv := hid hv; have HVM := hid hVM; have Ho := hid ho; have Hob := hid (obj_len hob)
  have HDL : Hid (m.doms.length = D.length) := hid (by rw [hVM.doms, ints_len])
  obtain ⟨xo, xc, co, cc, rfl⟩ := hv.slices
  obtain ⟨oo, oc, rfl, -, -⟩ := ho
  clear hv hVM hob
  have h20 : ((w.alloc (.cells #[.slice xo m.doms.length xc, .slice co m.cons.length cc] 26)).alloc (.cells #[.slice oo o.length oc] 23)).heap[w.heap.size]? = some (.cells #[.slice xo m.doms.length xc, .slice co m.cons.length cc] 26 (0, 0)) := ((Gr.refl [] _).alloc _).obj (heap_alloc_new _ _) (by simp)
  have h21 : ((w.alloc (.cells #[.slice xo m.doms.length xc, .slice co m.cons.length cc] 26)).alloc (.cells #[.slice oo o.length oc] 23)).heap[w.heap.size + 1]? = some (.cells #[.slice oo o.length oc] 23 (0, 0)) := by
    have := heap_alloc_new (w.alloc (.cells #[.slice xo m.doms.length xc, .slice co m.cons.length cc] 26)) (.cells #[.slice oo o.length oc] 23)
    rwa [World.size_alloc] at this
  have hg0 : Gr [] w ((w.alloc (.cells #[.slice xo m.doms.length xc, .slice co m.cons.length cc] 26)).alloc (.cells #[.slice oo o.length oc] 23)) := ((Gr.refl [] w).alloc _).alloc _
  have fl0 := fld h20; have fo0 := fld h21
  have Hg0 := hid hg0; have H21 := hid h21
  clear h20 h21 hg0
  go_enter Tryz.func38, Tryz.ntmps38
  go_wp2_with fail
  have hcall := solutionsD_c m D _ _ (Hv.out.gr Hg0.out) HVM.out
  (with_reducible refine hcall.mono ?_)
  clear hcall
  rintro e w2 ⟨v2, rfl, ⟨_, hd2⟩, hg2⟩
  have Hd2 := hid (hd2.e.rows (S := []) (by simp))
  obtain ⟨ao, cap, rfl, -, -⟩ := hd2
  have Hg2 := hid (Hg0.out.trans hg2); have Ho2 := hid (hg2.obj H21.out (by simp))
  have hs2 := Hg2.out.size
  clear hg2 fl0 fo0
  go_wp2_with fail
  have hcall := best_c (sols m.cons D) (dot o) 66 #[.pointer (some ⟨w.heap.size + 1, 0, none⟩)] _ w2 Hd2.out (fun x hx => by have := (solv hx).1; have := HVM.out.len; omega) (fun _ _ => by kernel_rfl) (fun x cv W hx hg hn => minLit_c o x _ _ _ W (Ho.out.gr (Hg2.out.trans hg)) (fld (hg.obj Ho2.out (by simp)) 0) hn (by rw [(solv hx).1, ← HDL.out]; exact Hob.out.1) (by have := Hob.out.1; have := HDL.out; have := HVM.out.len.2; omega) Hob.out.2 (solv hx).2)
  (with_reducible refine hcall.mono ?_)
  clear hcall
  rintro e w3 ⟨v3, rfl, hn3, hg3⟩
  have Hn3 := hid hn3; have Hg3 := hid hg3
  clear hn3 hg3
  go_wp2_with fail
  go_ret2
  exact ⟨_, rfl, Hn3.out.gr' (Gr.refl [] _) (by simp) (fun b hb h => h.le hs2 (Nat.le_refl _)), Hg2.out.trans Hg3.out⟩

set_option maxRecDepth 100000 in
theorem Minimize_c (m : Mod) (o : List Int) (mv ov : Value) (w : World) (hv : ModV [] w mv m) (ho : Nums [] w .i64 ov o) (D : List Nat) (hD : validM m = true → VM m D) :
    Calls Tryz.prog 13 #[mv, ov] w fun e w' => ∃ v', e = .returned (.tuple #[v', .bool (minO m D o).isSome]) ∧ NumsM (New w.heap.size w') w' v' ((minO m D o).getD []) ∧ Gr [] w w' := by
  have Hv := hid hv; have HD := hid hD; have Ho := hid ho
  obtain ⟨xo, xc, co, cc, rfl⟩ := hv.slices
  obtain ⟨oo, oc, rfl, -, -⟩ := ho
  have hg0 : Gr [] w (w.alloc (.cells #[.slice xo m.doms.length xc, .slice co m.cons.length cc] 26)) := (Gr.refl _ _).alloc _
  have hb0 : (w.alloc (.cells #[.slice xo m.doms.length xc, .slice co m.cons.length cc] 26)).heap[w.heap.size]? = some (.cells #[.slice xo m.doms.length xc, .slice co m.cons.length cc] 26 (0, 0)) := heap_alloc_new _ _
  have fl0 := fld hb0
  have Hg0 := hid hg0; have Hb0 := hid hb0
  clear hv hg0 hb0 hD
  go_enter Tryz.func13, Tryz.ntmps13
  go_wp2_with fail
  have hcall := objectiveOk_c m o _ _ _ (Hv.out.gr Hg0.out) (Ho.out.gr Hg0.out)
  (with_reducible refine hcall.mono ?_)
  clear hcall
  rintro e w1 ⟨rfl, hg1⟩
  have fl1 := fld (hg1.obj Hb0.out (by simp))
  have Hg1 := hid (Hg0.out.trans hg1)
  have hs1 := hg1.size
  rw [World.size_alloc] at hs1
  clear fl0 hg1
  cases hval : (validM m && objB o m.doms.length)
  · have Hval := hid hval; clear hval
    go_wp2_with fail
    go_ret2
    rw [minO_no Hval.out]
    exact ⟨_, rfl, NumsM.nil _ _, Hg1.out⟩
  have Hyes := hid (minO_yes (D := D) hval)
  rw [Bool.and_eq_true] at hval
  have HVM := hid (HD.out hval.1); have Hob := hid hval.2
  clear hval
  go_wp2_with fail
  have hcall := minimize_c m D o _ _ w1 (Hv.out.gr Hg1.out) HVM.out (Ho.out.gr Hg1.out) Hob.out
  (with_reducible refine hcall.mono ?_)
  clear hcall
  rintro e w2 ⟨v2, rfl, hn2, hg2⟩
  have Hn2 := hid hn2; have Hg2 := hid hg2
  clear hn2 hg2
  go_wp2_with fail
  go_ret2
  rw [Hyes.out]
  exact ⟨_, rfl, Hn2.out.gr' (Gr.refl [] _) (by simp) (fun b hb h => h.le (by omega) (Nat.le_refl _)), Hg1.out.trans Hg2.out⟩

set_option maxRecDepth 100000 in
set_option maxHeartbeats 2000000 in
theorem specMinimize0_c (m : Mod) (D : List Nat) (o : List Int) (mv ov : Value) (w : World) (hv : ModV [] w mv m) (hVM : VM m D) (ho : Nums [] w .i64 ov o) (hob : objB o m.doms.length = true) :
    Calls Tryz.prog 39 #[mv, ov] w fun e w' => ∃ v', e = .returned (.tuple #[v', .bool (bestO (dot o) (sols m.cons D)).isSome]) ∧ Nums [] w' .i64 v' ((bestO (dot o) (sols m.cons D)).getD []) ∧ Gr [] w w' := by
  have Hv := hid hv; have HVM := hid hVM; have Ho := hid ho; have Hob := hid (obj_len hob)
  have HDL : Hid (m.doms.length = D.length) := hid (by rw [hVM.doms, ints_len])
  obtain ⟨xo, xc, co, cc, rfl⟩ := hv.slices
  obtain ⟨oo, oc, rfl, -, -⟩ := ho
  have hg0 : Gr [] w (w.alloc (.cells #[.slice xo m.doms.length xc, .slice co m.cons.length cc] 26)) := (Gr.refl _ _).alloc _
  have hb0 : (w.alloc (.cells #[.slice xo m.doms.length xc, .slice co m.cons.length cc] 26)).heap[w.heap.size]? = some (.cells #[.slice xo m.doms.length xc, .slice co m.cons.length cc] 26 (0, 0)) := heap_alloc_new _ _
  have fl0 := fld hb0
  have Hg0 := hid hg0
  clear hv hg0 hb0 hVM hob
  go_enter Tryz.func39, Tryz.ntmps39
  go_wp2_with fail
  have hcall := solve_c m D 4096 _ _ (Hv.out.gr Hg0.out) HVM.out (by omega) (by omega)
  rw [show ((4096 : Nat) : Int) = 4096 from rfl] at hcall
  (with_reducible refine hcall.mono ?_)
  clear hcall
  rintro e w3 ⟨v3, nd, rfl, hown3, hg3⟩
  rw [all_sols m D HVM.out] at hown3
  obtain ⟨zs, hz⟩ : ∃ zs, zs = sols m.cons D := ⟨_, rfl⟩
  rw [← hz] at hown3
  have Hz := hid hz
  have Hl := hid (hown3.rows (S := []) (by simp))
  obtain ⟨ro, rc, rfl, hr1, hr2, -⟩ := hown3.slice
  have Hg3 := hid (Hg0.out.trans hg3)
  have Hsz : Hid (∀ x ∈ zs, o.length = x.length ∧ o.length ≤ 100 ∧ Small x) := hid (by
    intro x hx
    rw [hz] at hx
    have h1 := solv hx; have h2 := Hob.out.1; have h3 := HDL.out; have h4 := HVM.out.len.2
    exact ⟨by omega, by omega, small5 h1.2⟩)
  have Hso : Hid (Small o) := hid (small9 Hob.out.2)
  clear hown3 hz hg3 fl0
  go_wp2_with fail
  go_loopw [8, 9] (fun b i wr => ∃ n : Nat, n ≤ zs.length ∧ i = .int .i64 n ∧ Gr [] w3 wr ∧ ((bestO (dot o) (zs.take n) = none ∧ b = .int .i64 (-1)) ∨ ∃ (q : Nat) (y : List Int), bestO (dot o) (zs.take n) = some y ∧ b = .int .i64 q ∧ q < n ∧ zs[q]? = some y)) (fun _ i _ => zs.length - (intOf i).toNat)
  case atStart => exact ⟨0, Nat.zero_le _, rfl, Gr.refl _ _, .inl ⟨by rw [List.take_zero]; rfl, rfl⟩⟩
  case round =>
    obtain ⟨n, hn, rfl, hg, hcase⟩ := hrel
    have Hg := hid hg; clear hg
    by_cases hlt : n < zs.length
    · obtain ⟨x, hx⟩ := get_some hlt
      have hxm := List.mem_of_getElem? hx
      obtain ⟨b1, o1, u1, e1, hc1, hn1⟩ := (Hl.out.gr Hg.out).at0 hx
      subst e1
      have HS := hid (bestO_succ (cost := dot o) hx)
      have Hn1 := hid hn1; have Hx := hid hx; have Hxm := hid hxm
      clear hx hn1 hxm
      rcases hcase with ⟨hb, rfl⟩ | ⟨q, y, hb, rfl, hqn, hy⟩
      · have Hb := hid hb; clear hb hc1
        go_wp2_with fail
        refine wp_region_gr [] _ (by kernel_rfl) (by kernel_rfl) (Gr.refl _ _) ?_
        repeat (go_big_quiet_step (fail))
        refine wpQuiet_nil ?_
        rintro w7 ⟨n7, hw7⟩
        have hg7 : Gr [] wr w7 := hw7 ▸ n7.gr
        clear hw7 n7
        go_wp2_with fail
        exact ⟨⟨n + 1, by omega, by go_num, Hg.out.trans hg7, .inr ⟨n, x, by rw [HS.out, Hb.out]; rfl, rfl, by omega, Hx.out⟩⟩, by simp [intOf]; omega⟩
      · obtain ⟨b2, o2, u2, e2, hc2, hn2⟩ := (Hl.out.gr Hg.out).at0 hy
        obtain ⟨rfl, rfl⟩ : b2 = b1 ∧ o2 = o1 := by simpa [eq_comm] using e2
        have hym := List.mem_of_getElem? hy
        have Hb := hid hb; have Hn2 := hid hn2; have Hy := hid hy; have Hym := hid hym
        have hq0 : decide ((q : Int) < 0) = false := decide_eq_false (by omega)
        have hm1 : ∀ k : GrW [] wr, k.val.cell? ⟨b2, o2 + n, none⟩ = some u1 := fun k => k.gr.cell hc1 (by simp)
        have hm2 : ∀ k : GrW [] wr, k.val.cell? ⟨b2, o2 + q, none⟩ = some u2 := fun k => k.gr.cell hc2 (by simp)
        have hql : q < zs.length := by omega
        clear hb hn2 hy hym hc1 hc2 e2
        have Hor := hid (Ho.out.gr (Hg3.out.trans Hg.out))
        have hx1 := (Hsz.out x Hxm.out).1
        have hy1 := (Hsz.out y Hym.out).1
        have ho100 := (Hsz.out x Hxm.out).2.1
        have Hx1 := hid hx1; have Hy1 := hid hy1
        have ho1 : o.length ≤ 100000 := by omega
        have Hsx := hid (Hsz.out x Hxm.out).2.2; have Hsy := hid (Hsz.out y Hym.out).2.2
        clear hx1 hy1 ho100
        go_wp2_with fail
        refine wp_region_gr [] _ (by kernel_rfl) (by kernel_rfl) (Gr.refl _ _) ?_
        repeat (go_big_quiet_step ((first | (go_at_call 68; with_reducible exact Calls.gr_of (value_c o x _ u1 _ (Hor.out.gr (GrW.gr _)) (Hn1.out.gr (GrW.gr _)) Hx1.out ho1 Hso.out Hsx.out)) | (go_at_call 68; with_reducible exact Calls.gr_of (value_c o y _ u2 _ (Hor.out.gr (GrW.gr _)) (Hn2.out.gr (GrW.gr _)) Hy1.out ho1 Hso.out Hsy.out)))))
        refine wpQuiet_nil ?_
        rintro w7 ⟨n7, hw7⟩
        have hg7 : Gr [] wr w7 := hw7 ▸ n7.gr
        clear hw7 n7 hm1 hm2
        by_cases hc : dot o x < dot o y
        · have hs : bestO (dot o) (zs.take (n + 1)) = some x := by rw [HS.out, Hb.out]; unfold bstep; simp only; rw [if_pos hc]
          have Hs := hid hs
          have hcd : decide (dot o x < dot o y) = true := decide_eq_true hc
          clear hs
          go_wp2_with fail
          exact ⟨⟨n + 1, by omega, by go_num, Hg.out.trans hg7, .inr ⟨n, x, Hs.out, rfl, by omega, Hx.out⟩⟩, by simp [intOf]; omega⟩
        · have hs : bestO (dot o) (zs.take (n + 1)) = some y := by rw [HS.out, Hb.out]; unfold bstep; simp only; rw [if_neg hc]
          have Hs := hid hs
          have hcd : decide (dot o x < dot o y) = false := decide_eq_false hc
          clear hs
          go_wp2_with fail
          exact ⟨⟨n + 1, by omega, by go_num, Hg.out.trans hg7, .inr ⟨q, y, Hs.out, rfl, by omega, Hy.out⟩⟩, by simp [intOf]; omega⟩
    · have hnz : zs.take n = zs := List.take_of_length_le (by omega)
      rw [hnz] at hcase
      rcases hcase with ⟨hb, rfl⟩ | ⟨q, y, hb, rfl, hqn, hy⟩
      · have Hb := hid hb
        clear hb hnz
        go_wp2_with fail
        go_ret2
        rw [← Hz.out, Hb.out]
        exact ⟨_, rfl, (Own.nil 0 _ 3).nums (by simp), Hg3.out.trans Hg.out⟩
      · obtain ⟨b2, o2, u2, e2, hc2, hn2⟩ := (Hl.out.gr Hg.out).at0 hy
        subst e2
        have Hb := hid hb; have Hn2 := hid hn2
        have hql : q < zs.length := by omega
        clear hb hnz hn2 hy
        go_wp2_with fail
        go_ret2
        rw [← Hz.out, Hb.out]
        exact ⟨_, rfl, Hn2.out, Hg3.out.trans Hg.out⟩

set_option maxRecDepth 100000 in
theorem specMinimize_c (m : Mod) (o : List Int) (mv ov : Value) (w : World) (hv : ModV [] w mv m) (ho : Nums [] w .i64 ov o) (hs : m.Small) (D : List Nat) (hD : validM m = true → VM m D) :
    Calls Tryz.prog 14 #[mv, ov] w fun e w' => ∃ v', e = .returned (.tuple #[v', .bool (minO m D o).isSome]) ∧ Nums [] w' .i64 v' ((minO m D o).getD []) ∧ Gr [] w w' := by
  have Hv := hid hv; have HD := hid hD; have Ho := hid ho; have Hs := hid hs
  obtain ⟨xo, xc, co, cc, rfl⟩ := hv.slices
  obtain ⟨oo, oc, rfl, -, -⟩ := ho
  have hg0 : Gr [] w (w.alloc (.cells #[.slice xo m.doms.length xc, .slice co m.cons.length cc] 26)) := (Gr.refl _ _).alloc _
  have hb0 : (w.alloc (.cells #[.slice xo m.doms.length xc, .slice co m.cons.length cc] 26)).heap[w.heap.size]? = some (.cells #[.slice xo m.doms.length xc, .slice co m.cons.length cc] 26 (0, 0)) := heap_alloc_new _ _
  have fl0 := fld hb0
  have Hg0 := hid hg0; have Hb0 := hid hb0
  clear hv hg0 hb0 hD hs
  go_enter Tryz.func14, Tryz.ntmps14
  go_wp2_with fail
  have hcall := specValidModel_c m _ _ (Hv.out.gr Hg0.out) Hs.out
  (with_reducible refine hcall.mono ?_)
  clear hcall
  rintro e w1 ⟨rfl, hg1⟩
  have fl1 := fld (hg1.obj Hb0.out (by simp))
  have Hb1 := hid (hg1.obj Hb0.out (by simp))
  have Hg1 := hid (Hg0.out.trans hg1)
  clear fl0 hg1
  cases hval : validM m
  · have Hval := hid hval; clear hval
    go_wp2_with fail
    go_ret2
    rw [minO_no (by rw [Hval.out]; rfl)]
    exact ⟨_, rfl, (Own.nil 0 _ 3).nums (by simp), Hg1.out⟩
  have HVM := hid (HD.out hval)
  have Hval := hid hval
  clear hval
  go_wp2_with fail
  have hcall := validObjective_c m o _ _ w1 (Hv.out.gr Hg1.out) (Ho.out.gr Hg1.out)
  (with_reducible refine hcall.mono ?_)
  clear hcall
  rintro e w2 ⟨rfl, hg2⟩
  have fl2 := fld (hg2.obj Hb1.out (by simp))
  have Hg2 := hid (Hg1.out.trans hg2)
  clear fl1 hg2
  cases hob : objB o m.doms.length
  · have Hob := hid hob; clear hob
    go_wp2_with fail
    go_ret2
    rw [minO_no (by rw [Hob.out]; simp)]
    exact ⟨_, rfl, (Own.nil 0 _ 3).nums (by simp), Hg2.out⟩
  have Hob := hid hob
  have Hyes := hid (minO_yes (D := D) (show (validM m && objB o m.doms.length) = true by rw [Hval.out, hob]; rfl))
  clear hob
  go_wp2_with fail
  have hcall := specMinimize0_c m D o _ _ w2 (Hv.out.gr Hg2.out) HVM.out (Ho.out.gr Hg2.out) Hob.out
  (with_reducible refine hcall.mono ?_)
  clear hcall
  rintro e w3 ⟨v3, rfl, hn3, hg3⟩
  have Hn3 := hid hn3; have Hg3 := hid hg3
  clear hn3 hg3
  go_wp2_with fail
  go_ret2
  rw [Hyes.out]
  exact ⟨_, rfl, Hn3.out, Hg2.out.trans Hg3.out⟩
end Go.Proofs.YtilcicoekpmelaaGreatDoor

set_option linter.unusedVariables false
namespace Go.Proofs.YtilcicoekpmelaaGreatDoor
open Go.RowKit

theorem lawEqualInts_c (xs ys : List Int) (vx vy : Value) (w : World) (hx : Nums [] w .i64 vx xs) (hy : Nums [] w .i64 vy ys) :
    Calls Tryz.prog 15 #[vx, vy] w fun e w' => e = .returned (.bool (decide (xs = ys))) ∧ Gr [] w w' := by
  obtain ⟨xo, xc, rfl, ⟨hx1, hx2, _⟩, hxc⟩ := hx
  obtain ⟨yo, yc, rfl, ⟨hy1, hy2, _⟩, hyc⟩ := hy
  have Hxc := hid hxc; have Hyc := hid hyc; clear hxc hyc
  have hxl : xs.length ≤ 9223372036854775807 := by omega
  have hyl : ys.length ≤ 9223372036854775807 := by omega
  cases hl : ((xs.length : Int) != (ys.length : Int))
  rotate_left
  · have hne : xs ≠ ys := by rintro rfl; simp at hl
    have Hne := hid hne; clear hne
    go_enter Tryz.func15, Tryz.ntmps15
    go_wp2_with fail
    go_ret
    exact ⟨ret_bool (by simp [Hne.out]), Gr.refl _ _⟩
  have hle : xs.length ≤ ys.length := by simp at hl; omega
  have hge : ys.length ≤ xs.length := by simp at hl; omega
  go_enter Tryz.func15, Tryz.ntmps15
  go_wp2_with fail
  go_loopw [5] (fun i wr => ∃ n : Nat, n ≤ xs.length ∧ i = .int .i64 n ∧ (xs.drop n = ys.drop n ↔ xs = ys) ∧ Gr [] w wr) (fun i _ => xs.length - (intOf i).toNat)
  case atStart => exact ⟨0, Nat.zero_le _, rfl, by simp, Gr.refl _ _⟩
  case round =>
    obtain ⟨n, hn, rfl, hd, hg⟩ := hrel
    have Hd := hid hd; clear hd
    by_cases hlt : n < xs.length
    · obtain ⟨x, hx⟩ := get_some hlt
      obtain ⟨y, hy⟩ := get_some (show n < ys.length by omega)
      obtain ⟨b, o, rfl, _, h0⟩ := (Hxc.out.gr hg) n x hx
      obtain ⟨b', o', rfl, _, h1⟩ := (Hyc.out.gr hg) n y hy
      have HX := hid (drop_cons hx); have HY := hid (drop_cons hy); clear hx hy
      have hny : n < ys.length := by omega
      cases hb : (x != y)
      · go_wp2_with fail
        go_quiet (fail)
        go_wp2_with fail
        refine ⟨⟨n + 1, by omega, by go_num, ?_, hg.drewN _⟩, by simp [intOf]; omega⟩
        have := Hd.out
        rw [HX.out, HY.out] at this
        have e : x = y := by simpa using hb
        rw [← this, e]; simp
      · go_wp2_with fail
        go_quiet (fail)
        go_wp2_with fail
        go_ret
        refine ⟨ret_bool ?_, hg.drewN _⟩
        have := Hd.out
        rw [HX.out, HY.out] at this
        have e : x ≠ y := by simpa using hb
        symm
        rw [decide_eq_false_iff_not, ← this]; simp [e]
    · go_wp2_with fail
      go_ret
      refine ⟨ret_bool ?_, hg⟩
      symm
      rw [decide_eq_true_eq, ← Hd.out, drop_end (by omega), drop_end (by omega)]

end Go.Proofs.YtilcicoekpmelaaGreatDoor

set_option linter.unusedVariables false
namespace Go.Proofs.YtilcicoekpmelaaGreatDoor
open Go.RowKit

end Go.Proofs.YtilcicoekpmelaaGreatDoor

set_option linter.unusedVariables false
namespace Go.Proofs.YtilcicoekpmelaaGreatDoor
open Go.RowKit

theorem RowsV.at {S : List Nat} {w : World} {ao : Option Addr} {n cap : Nat} {rows : List (List Int)} (h : RowsV S w (.slice ao n cap) rows) {i : Nat} {r : List Int} (hi : rows[i]? = some r) :
    ∃ b o u, ao = some ⟨b, o, none⟩ ∧ w.cell? ⟨b, o + i, none⟩ = some u ∧ Nums S w .i64 u r := by
  obtain ⟨ao', cap', e, _, hc⟩ := h
  cases e
  obtain ⟨b, o, u, e1, _, h1, h2⟩ := hc i r hi
  exact ⟨b, o, u, e1, h1, h2⟩

end Go.Proofs.YtilcicoekpmelaaGreatDoor

set_option linter.unusedVariables false
namespace Go.Proofs.YtilcicoekpmelaaGreatDoor
open Go.RowKit

theorem lexLess_c (xs ys : List Int) (vx vy : Value) (w : World) (hx : Nums [] w .i64 vx xs) (hy : Nums [] w .i64 vy ys) (hl : xs.length = ys.length) :
    Calls Tryz.prog 16 #[vx, vy] w fun e w' => e = .returned (.bool (lexB xs ys)) ∧ Gr [] w w' := by
  have Hx := hid hx; have Hy := hid hy
  obtain ⟨xo, xc, rfl, ⟨hx1, hx2, _⟩, _⟩ := hx
  obtain ⟨yo, yc, rfl, ⟨hy1, hy2, _⟩, _⟩ := hy
  have hle : xs.length ≤ ys.length := by omega
  have HL := hid hl
  clear hl
  go_enter Tryz.func16, Tryz.ntmps16
  go_wp2_with fail
  go_loopw [5] (fun i wr => ∃ n : Nat, n ≤ xs.length ∧ i = .int .i64 n ∧ lexB (xs.drop n) (ys.drop n) = lexB xs ys ∧ Gr [] w wr) (fun i _ => xs.length - (intOf i).toNat)
  case atStart => exact ⟨0, Nat.zero_le _, rfl, rfl, Gr.refl _ _⟩
  case round =>
    obtain ⟨n, hn, rfl, hd, hg⟩ := hrel
    have Hd := hid hd; clear hd
    by_cases hlt : n < xs.length
    · obtain ⟨x, hx⟩ := get_some hlt
      obtain ⟨y, hy⟩ := get_some (show n < ys.length by omega)
      obtain ⟨b, o, rfl, _, h0⟩ := (Hx.out.gr hg).at hx
      obtain ⟨b', o', rfl, _, h1⟩ := (Hy.out.gr hg).at hy
      have HX := hid (drop_cons hx); have HY := hid (drop_cons hy); clear hx hy
      have hny : n < ys.length := by omega
      cases hb : (x != y)
      · go_wp2_with fail
        go_quiet (fail)
        go_wp2_with fail
        refine ⟨⟨n + 1, by omega, by go_num, ?_, hg.drewN _⟩, by simp [intOf]; omega⟩
        have := Hd.out
        rw [HX.out, HY.out] at this
        have e : x = y := by simpa using hb
        rw [← this]; simp [lexB, e]
      · go_wp2_with fail
        go_quiet (fail)
        go_wp2_with fail
        go_quiet (fail)
        go_wp2_with fail
        go_ret
        refine ⟨ret_bool ?_, (hg.drewN _).drewN _⟩
        have := Hd.out
        rw [HX.out, HY.out] at this
        have e : x ≠ y := by simpa using hb
        rw [← this]; simp [lexB, e]
    · go_wp2_with fail
      go_ret
      refine ⟨ret_bool ?_, hg⟩
      have := Hd.out
      rw [drop_end (by omega), drop_end (by have := HL.out; omega)] at this
      rw [← this]; rfl

theorem assigned_t (xs : List Int) (n : Nat) (hn : n = xs.length) (v : Value) (w : World) (hv : Nums [] w .i64 v xs) (hr : allB 0 5 xs = true) :
    Calls Tryz.prog 40 #[v, .int .i64 n] w fun e w' => e = .returned (.bool true) ∧ Gr [] w w' := by
  subst hn
  have Hv := hid hv; have HR := hid hr
  obtain ⟨xo, xc, rfl, ⟨hx1, hx2, _⟩, _⟩ := hv
  clear hr
  go_enter Tryz.func40, Tryz.ntmps40
  go_wp2_with fail
  have hcall := allIn_c xs 0 5 _ w Hv.out
  (with_reducible refine hcall.mono ?_)
  clear hcall
  rw [HR.out]
  rintro e w1 ⟨rfl, hg1⟩
  go_wp2_with fail
  go_ret
  exact ⟨rfl, hg1⟩

set_option maxRecDepth 100000 in
theorem IsSolution_t (m : Mod) (D : List Nat) (xs : List Int) (mv xv : Value) (w : World) (hv : ModV [] w mv m) (hVM : VM m D) (hx : Nums [] w .i64 xv xs) (hs : xs ∈ sols m.cons D) :
    Calls Tryz.prog 17 #[mv, xv] w fun e w' => e = .returned (.bool true) ∧ Gr [] w w' := by
  have Hv := hid hv
  obtain ⟨dv, cv, rfl, hdv, hcv⟩ := hv
  obtain ⟨do_, dc, rfl, ⟨hd1, hd2, _⟩, _⟩ := hdv
  have hin := (mem_sols.1 hs).1
  have hsol : solB m.cons xs = true := solB_iff.2 (mem_sols.1 hs).2
  have hlen : m.doms.length = xs.length := by rw [hVM.doms, ints_len, tups_len hin]
  have hall : allB 0 5 xs = true := allB_iff.2 fun x hx => tups_val hin x hx
  have Hx := hid hx
  obtain ⟨xo, xc, rfl, _, _⟩ := hx
  have hg0 : Gr [] w (w.alloc (.cells #[.slice do_ m.doms.length dc, cv] 26)) := (Gr.refl _ _).alloc _
  have hb0 : (w.alloc (.cells #[.slice do_ m.doms.length dc, cv] 26)).heap[w.heap.size]? = some (.cells #[.slice do_ m.doms.length dc, cv] 26 (0, 0)) := heap_alloc_new _ _
  have hfl := fld hb0
  have Hb0 := hid hb0; have HVM := hid hVM; have HI := hid hin; have HS := hid hsol; have HA := hid hall; have HL := hid hlen
  clear hb0 hcv hVM hin hsol hlen hall hs
  go_enter Tryz.func17, Tryz.ntmps17
  go_wp2_with fail
  have hcall := ValidModel_c m _ _ (Hv.out.gr hg0)
  (with_reducible refine hcall.mono ?_)
  clear hcall
  rw [HVM.out.valid]
  rintro e w1 ⟨rfl, hg1⟩
  have hfl1 := fld (hg1.obj Hb0.out (by simp))
  have Hg1 := hid (hg0.trans hg1)
  have hg1' := hid hg1
  clear hfl hg1
  go_wp2_with fail
  have hcall := assigned_t xs m.doms.length HL.out _ w1 (Hx.out.gr Hg1.out) HA.out
  (with_reducible refine hcall.mono ?_)
  clear hcall
  rintro e w2 ⟨rfl, hg2⟩
  have hfl2 := fld ((hg1'.out.trans hg2).obj Hb0.out (by simp))
  have Hg2 := hid (Hg1.out.trans hg2)
  clear hg2 hfl1
  go_wp2_with fail
  have hcall := isSolution_c m D xs _ _ w2 (Hv.out.gr Hg2.out) HVM.out.doms HVM.out.below HVM.out.cons (Hx.out.gr Hg2.out) HI.out HVM.out.len.2
  (with_reducible refine hcall.mono ?_)
  clear hcall
  rw [HS.out]
  rintro e w3 ⟨rfl, hg3⟩
  go_wp2_with fail
  go_ret
  exact ⟨rfl, Hg2.out.trans hg3⟩

end Go.Proofs.YtilcicoekpmelaaGreatDoor
