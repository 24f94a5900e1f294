/-
  Walks of the symmetries of variables and of values: the program's and the reference's. Walks of the symmetries of variables and of values: the reference's; the program's for values.
  Walks of NextSolution: the program's and the reference's.
  The first one of lists for which a function is least: plainly, and the program's walk over whatever function. Walks of objectives: validity, the least solution; the program's and the reference's.
  Plain laws of a linear constraint over all variables: which models it makes, which solutions it leaves.
  Plain laws of proofs of optimality. No walk is in this text.
  Walks of laws.equalInts and FnIsConsistent. Walks of laws.isSubset and FnPropagateFixpoint. Walk of FnPropagateSound.
  Walks for the law of SolveAll: the reference's SolveAll, the comparisons of lists, IsSolution.
  impl.IsSolution for any assignment: IsSolution_b (yes exactly if it is among the solutions).
-/
import Derived.Test.YtlekngkcifgonaaGreatXSy1ToRe
import Derived.Test.YtlekngkcifgonaaGreatXBUsToPc
import Derived.Test.YtlekngkcifgonaaGreatXWaWc
import Derived.Test.YtlekngkcifgonaaGreatXG8
set_option linter.unusedVariables false
namespace Go.Proofs.YtlekngkcifgonaaGreat
open Go.RowKit

end Go.Proofs.YtlekngkcifgonaaGreat

set_option linter.unusedVariables false
namespace Go.Proofs.YtlekngkcifgonaaGreat
open Go.RowKit

theorem all_sols (m : Mod) (D : List Nat) (hVM : VM m D) : (sols m.cons D).take 4096 = sols m.cons D := List.take_of_length_le (by have := sols_length m.cons D hVM.len.2; omega)

/-! ### Values -/
end Go.Proofs.YtlekngkcifgonaaGreat

set_option linter.unusedVariables false
namespace Go.Proofs.YtlekngkcifgonaaGreat
open Go.RowKit

def asgB (x : List Int) (n : Nat) : Bool := ((x.length : Int) == (n : Int)) && allB 0 5 x
theorem assigned_c (x : List Int) (n : Nat) (v : Value) (w : World) (hv : Nums [] w .i64 v x) :
    Calls Tryz.prog 87 #[v, .int .i64 n] w fun e w' => e = .returned (.bool (asgB x n)) ∧ Gr [] w w' := by
  have Hv := hid hv
  obtain ⟨xo, xc, rfl, ⟨hx1, hx2, _⟩, _⟩ := hv
  cases hl : ((x.length : Int) == (n : Int))
  · go_enter Tryz.func87, Tryz.ntmps87
    go_wp2_with fail
    go_ret
    exact ⟨ret_bool (by unfold asgB; rw [hl]; rfl), Gr.refl _ _⟩
  · have Hl := hid hl
    go_enter Tryz.func87, Tryz.ntmps87
    go_wp2_with fail
    have hcall := allIn_c x 0 5 _ w Hv.out
    (with_reducible refine hcall.mono ?_)
    clear hcall
    rintro e w1 ⟨rfl, hg1⟩
    go_wp2_with fail
    go_ret
    exact ⟨ret_bool (by unfold asgB; rw [Hl.out]; rfl), hg1⟩

theorem asg_len {x : List Int} {n : Nat} (h : asgB x n = true) : x.length = n ∧ ∀ y ∈ x, 0 ≤ y ∧ y ≤ 5 := by
  unfold asgB at h
  rw [Bool.and_eq_true] at h
  exact ⟨by have := h.1; simp at this; omega, allB_iff.1 h.2⟩

end Go.Proofs.YtlekngkcifgonaaGreat

set_option linter.unusedVariables false
namespace Go.Proofs.YtlekngkcifgonaaGreat
open Go.RowKit

def bstep (cost : List Int → Int) (o : Option (List Int)) (x : List Int) : Option (List Int) :=
  match o with
  | none => some x
  | some y => if cost x < cost y then some x else some y
def bestO (cost : List Int → Int) (zs : List (List Int)) : Option (List Int) := zs.foldl (bstep cost) none
theorem bestO_succ {cost : List Int → Int} {zs : List (List Int)} {n : Nat} {x : List Int} (h : zs[n]? = some x) : bestO cost (zs.take (n + 1)) = bstep cost (bestO cost (zs.take n)) x := by
  unfold bestO
  rw [List.take_add_one, h]
  simp
theorem bstep_some (cost : List Int → Int) (o : Option (List Int)) (x : List Int) : (bstep cost o x).isSome = true := by
  cases o with
  | none => rfl
  | some y => unfold bstep; simp only; split <;> rfl
theorem bstep_mem {cost : List Int → Int} {o : Option (List Int)} {x y : List Int} (h : bstep cost o x = some y) : o = some y ∨ x = y := by
  cases o with
  | none => right; simpa [bstep] using h
  | some z =>
    unfold bstep at h
    simp only at h
    split at h
    · right; simpa using h
    · left; simpa using h
theorem foldl_mem {cost : List Int → Int} {zs : List (List Int)} {o : Option (List Int)} {y : List Int} (h : zs.foldl (bstep cost) o = some y) : o = some y ∨ y ∈ zs := by
  induction zs generalizing o with
  | nil => exact .inl h
  | cons x r ih =>
    rcases ih h with h | h
    · rcases bstep_mem h with h | h
      · exact .inl h
      · right; simp [h]
    · right; simp [h]
theorem bestO_mem {cost : List Int → Int} {zs : List (List Int)} {y : List Int} (h : bestO cost zs = some y) : y ∈ zs := by
  rcases foldl_mem h with h | h
  · cases h
  · exact h
theorem bestO_none {cost : List Int → Int} {zs : List (List Int)} (h : bestO cost zs = none) : zs = [] := by
  cases zs with
  | nil => rfl
  | cons x r =>
    exfalso
    have h1 : (bestO cost (x :: r)).isSome = true := by
      show ((x :: r).foldl (bstep cost) none).isSome = true
      rw [List.foldl_cons]
      have : ∀ (r : List (List Int)) (o : Option (List Int)), o.isSome = true → (r.foldl (bstep cost) o).isSome = true := by
        intro r
        induction r with
        | nil => intro o h; exact h
        | cons z r ih => intro o h; exact ih _ (bstep_some _ _ _)
      exact this r _ (bstep_some _ _ _)
    rw [h] at h1; cases h1
/-- The least: nothing in the list is less, and nothing ahead of it is as small. -/
theorem bestO_least {cost : List Int → Int} {zs : List (List Int)} {y : List Int} (h : bestO cost zs = some y) : ∀ x ∈ zs, cost y ≤ cost x := by
  have : ∀ (zs : List (List Int)) (o : Option (List Int)) (y : List Int), zs.foldl (bstep cost) o = some y → (∀ z, o = some z → cost y ≤ cost z) ∧ ∀ x ∈ zs, cost y ≤ cost x := by
    intro zs
    induction zs with
    | nil => intro o y h; exact ⟨fun z hz => by simp at h; rw [h] at hz; simp at hz; subst hz; exact Int.le_refl _, by simp⟩
    | cons x r ih =>
      intro o y h
      obtain ⟨h1, h2⟩ := ih _ y h
      cases o with
      | none =>
        refine ⟨by simp, fun z hz => ?_⟩
        rcases List.mem_cons.1 hz with rfl | hz
        · exact h1 _ rfl
        · exact h2 z hz
      | some q =>
        unfold bstep at h1
        simp only at h1
        split at h1
        · rename_i hlt
          have := h1 _ rfl
          refine ⟨fun z hz => by simp at hz; subst hz; omega, fun z hz => ?_⟩
          rcases List.mem_cons.1 hz with rfl | hz
          · exact this
          · exact h2 z hz
        · rename_i hlt
          have := h1 _ rfl
          refine ⟨fun z hz => by simp at hz; subst hz; exact this, fun z hz => ?_⟩
          rcases List.mem_cons.1 hz with rfl | hz
          · omega
          · exact h2 z hz
  exact (this zs none y h).2

theorem run_eql_slice_nil2 {P : Program} (w : World) (t e : TypeId) (a : Option Addr) (l c : Nat) (h : P.underlying t = some (.slice e)) : (binOp .eql t (.slice a l c) (.slice none 0 0)).run P w = .ok (.bool a.isNone) w := by
  simp only [binOp]
  simp [run_equal_slice_nil w t e a l c h]
theorem run_neq_slice_nil2 {P : Program} (w : World) (t e : TypeId) (a : Option Addr) (l c : Nat) (h : P.underlying t = some (.slice e)) : (binOp .neq t (.slice a l c) (.slice none 0 0)).run P w = .ok (.bool (!a.isNone)) w := by
  simp only [binOp]
  simp [run_equal_slice_nil w t e a l c h]
section
attribute [local go_sem] run_eql_slice_nil2 run_neq_slice_nil2

set_option maxRecDepth 100000 in
set_option maxHeartbeats 2000000 in
theorem best_c (zs : List (List Int)) (cost : List Int → Int) (k : Nat) (C : Array Value) (lv : Value) (w : World) (hl : RowsV [] w lv zs) (hn : ∀ x ∈ zs, 1 ≤ x.length ∧ x.length ≤ 100)
    (hk : ∀ args w, (callFunc k args).run Tryz.prog w = .ok (.enter k args) w)
    (hf : ∀ x cv W, x ∈ zs → Gr [] w W → Nums [] W .i64 cv x → Calls Tryz.prog k (#[cv] ++ C) W fun e W' => e = .returned (.int .i64 (cost x)) ∧ Gr [] W W') :
    Calls Tryz.prog 163 #[lv, .func (.func k) #[] C] w fun e w' => ∃ v', e = .returned (.tuple #[v', .bool (bestO cost zs).isSome]) ∧ NumsM (New w.heap.size w') w' v' ((bestO cost zs).getD []) ∧ Gr [] w w' := by
  have hund := Tryz.underlying23
  have Hl := hid hl; have Hn := hid hn; have Hf := hid hf
  obtain ⟨ro, rc, rfl, ⟨hr1, hr2, -⟩, -⟩ := hl
  clear hn hf
  go_enter Tryz.func163, Tryz.ntmps163
  go_wp2_with fail
  go_loopw [6, 7, 13] (fun o l i wr => ∃ (n : Nat) (z : Int), n ≤ zs.length ∧ i = .int .i64 n ∧ l = .int .i64 z ∧ Gr [] w wr ∧ ((bestO cost (zs.take n) = none ∧ o = .slice none 0 0) ∨ ∃ y a c, bestO cost (zs.take n) = some y ∧ z = cost y ∧ o = .slice (some a) y.length c ∧ Nums [] wr .i64 (.slice (some a) y.length c) y)) (fun _ _ i _ => zs.length - (intOf i).toNat)
  case atStart => exact ⟨0, 0, Nat.zero_le _, rfl, rfl, Gr.refl _ _, .inl ⟨by rw [List.take_zero]; rfl, rfl⟩⟩
  case round =>
    obtain ⟨n, z, hnl, rfl, rfl, hg, hcase⟩ := hrel
    have Hg := hid hg; clear hg
    by_cases hlt : n < zs.length
    · obtain ⟨x, hx⟩ := get_some hlt
      have hxm := List.mem_of_getElem? hx
      obtain ⟨hx1, hx100⟩ := Hn.out x hxm
      obtain ⟨b, oz, u, e1, hc0, hn0⟩ := (Hl.out.gr Hg.out).at0 hx
      subst e1
      obtain ⟨xo', xc', rfl, -, -⟩ := id hn0
      obtain ⟨x0, hx0⟩ := get_some (xs := x) (k := 0) (by omega)
      obtain ⟨bb, ob, rfl, -, -⟩ := hn0.at hx0
      have HS := hid (bestO_succ (cost := cost) hx)
      have Hn0 := hid hn0
      clear hx hx0 hn0
      rcases hcase with ⟨hb, rfl⟩ | ⟨y, a, c, hb, hz, rfl, hny⟩
      · have Hb := hid hb; clear hb
        go_wp2_with fail
        refine (Hf.out x _ wr hxm Hg.out Hn0.out).mono ?_
        rintro e w5 ⟨rfl, hg5⟩
        have Hg5 := hid hg5; clear hg5
        go_wp2_with fail
        exact ⟨⟨n + 1, cost x, by omega, by go_num, rfl, Hg.out.trans Hg5.out, .inr ⟨x, _, _, by rw [HS.out, Hb.out]; rfl, rfl, rfl, Hn0.out.gr Hg5.out⟩⟩, by simp [intOf]; omega⟩
      · have Hb := hid hb; have Hny := hid hny; have Hz := hid hz
        clear hb hny hz
        go_wp2_with fail
        refine (Hf.out x _ wr hxm Hg.out Hn0.out).mono ?_
        rintro e w5 ⟨rfl, hg5⟩
        have Hg5 := hid hg5; clear hg5
        by_cases hc : cost x < z
        · have hs : bestO cost (zs.take (n + 1)) = some x := by rw [HS.out, Hb.out]; unfold bstep; simp only; rw [if_pos (by rw [← Hz.out]; exact hc)]
          have Hs := hid hs; clear hs
          go_wp2_with fail
          exact ⟨⟨n + 1, cost x, by omega, by go_num, rfl, Hg.out.trans Hg5.out, .inr ⟨x, _, _, Hs.out, rfl, rfl, Hn0.out.gr Hg5.out⟩⟩, by simp [intOf]; omega⟩
        · have hs : bestO cost (zs.take (n + 1)) = some y := by rw [HS.out, Hb.out]; unfold bstep; simp only; rw [if_neg (by rw [← Hz.out]; exact hc)]
          have Hs := hid hs; clear hs
          go_wp2_with fail
          exact ⟨⟨n + 1, z, by omega, by go_num, rfl, Hg.out.trans Hg5.out, .inr ⟨y, _, _, Hs.out, Hz.out, rfl, Hny.out.gr Hg5.out⟩⟩, by simp [intOf]; omega⟩
    · have hnz : zs.take n = zs := List.take_of_length_le (by omega)
      rw [hnz] at hcase
      have hs0 := Hg.out.size
      rcases hcase with ⟨hb, rfl⟩ | ⟨y, a, c, hb, hz, rfl, hny⟩
      · have Hb := hid hb
        clear hb hnz
        go_wp2_with fail
        have hcall := copied_c _ [] wr ((Own.nil 0 _ 3).nums (by simp)) (by simp)
        (with_reducible refine hcall.mono ?_)
        clear hcall
        rintro e w5 ⟨v5, rfl, ho5, hg5⟩
        have Ho5 := hid (OwnC.numsM ho5); have Hg5 := hid hg5
        clear ho5 hg5
        go_wp2_with fail
        go_ret2
        rw [Hb.out]
        exact ⟨_, rfl, Ho5.out.gr' (Gr.refl [] _) (by simp) (fun b hb h => h.le hs0 (Nat.le_refl _)), Hg.out.trans Hg5.out⟩
      · have hyl := (Hn.out y (bestO_mem hb)).2
        have Hb := hid hb
        have Hny := hid hny
        clear hb hnz hny hz
        go_wp2_with fail
        have hcall := copied_c _ y wr Hny.out (by omega)
        (with_reducible refine hcall.mono ?_)
        clear hcall
        rintro e w5 ⟨v5, rfl, ho5, hg5⟩
        have Ho5 := hid (OwnC.numsM ho5); have Hg5 := hid hg5
        clear ho5 hg5
        go_wp2_with fail
        go_ret2
        rw [Hb.out]
        exact ⟨_, rfl, Ho5.out.gr' (Gr.refl [] _) (by simp) (fun b hb h => h.le hs0 (Nat.le_refl _)), Hg.out.trans Hg5.out⟩
end
end Go.Proofs.YtlekngkcifgonaaGreat

set_option linter.unusedVariables false
set_option linter.unusedSimpArgs false
namespace Go.Proofs.YtlekngkcifgonaaGreat
open Go.RowKit

def objB (x : List Int) (n : Nat) : Bool := ((x.length : Int) == (n : Int)) && allB (-9) 9 x
theorem obj_len {x : List Int} {n : Nat} (h : objB x n = true) : x.length = n ∧ ∀ y ∈ x, -9 ≤ y ∧ y ≤ 9 := by
  unfold objB at h
  rw [Bool.and_eq_true] at h
  exact ⟨by have := h.1; simp at this; omega, allB_iff.1 h.2⟩
set_option maxRecDepth 100000 in
theorem objectiveOk_c (m : Mod) (x : List Int) (mv v : Value) (w : World) (hm : ModV [] w mv m) (hv : Nums [] w .i64 v x) :
    Calls Tryz.prog 81 #[mv, v] w fun e w' => e = .returned (.bool (validM m && objB x m.doms.length)) ∧ Gr [] w w' := by
  have Hv := hid hv; have Hm := hid hm
  obtain ⟨xo, xc, co, cc, rfl⟩ := hm.slices
  obtain ⟨vo, vc, rfl, ⟨hx1, hx2, _⟩, _⟩ := hv
  have hg0 : Gr [] w (w.alloc (.cells #[.slice xo m.doms.length xc, .slice co m.cons.length cc] 26)) := (Gr.refl _ _).alloc _
  have hb0 : (w.alloc (.cells #[.slice xo m.doms.length xc, .slice co m.cons.length cc] 26)).heap[w.heap.size]? = some (.cells #[.slice xo m.doms.length xc, .slice co m.cons.length cc] 26 (0, 0)) := heap_alloc_new _ _
  have fl0 := fld hb0
  have Hg0 := hid hg0; have Hb0 := hid hb0
  clear hg0 hb0 hm
  go_enter Tryz.func81, Tryz.ntmps81
  go_wp2_with fail
  have hcall := ValidModel_c m _ _ (Hm.out.gr Hg0.out)
  (with_reducible refine hcall.mono ?_)
  clear hcall
  rintro e w1 ⟨rfl, hg1⟩
  have fl1 := fld (hg1.obj Hb0.out (by simp))
  have Hg1 := hid (Hg0.out.trans hg1)
  clear fl0 hg1
  cases hval : validM m
  · have Hval := hid hval
    clear hval
    go_wp2_with fail
    go_ret
    exact ⟨ret_bool (by rw [Hval.out]; rfl), Hg1.out⟩
  have Hval := hid hval
  clear hval
  cases hl : ((x.length : Int) == (m.doms.length : Int))
  · have Hl := hid hl
    go_wp2_with fail
    go_ret
    exact ⟨ret_bool (by unfold objB; rw [Hval.out, Hl.out]; rfl), Hg1.out⟩
  · have Hl := hid hl
    go_wp2_with fail
    have hcall := allIn_c x (-9) 9 _ _ (Hv.out.gr Hg1.out)
    (with_reducible refine hcall.mono ?_)
    clear hcall
    rintro e w2 ⟨rfl, hg2⟩
    go_wp2_with fail
    go_ret
    exact ⟨ret_bool (by unfold objB; rw [Hval.out, Hl.out]; rfl), Hg1.out.trans (by first | exact hg2 | (subst hg2; exact Gr.refl _ _))⟩
set_option maxRecDepth 100000 in
theorem validObjective_c (m : Mod) (x : List Int) (mv v : Value) (w : World) (hm : ModV [] w mv m) (hv : Nums [] w .i64 v x) :
    Calls Tryz.prog 76 #[mv, v] w fun e w' => e = .returned (.bool (objB x m.doms.length)) ∧ Gr [] w w' := by
  have Hv := hid hv
  obtain ⟨xo, xc, co, cc, rfl⟩ := hm.slices
  obtain ⟨vo, vc, rfl, ⟨hx1, hx2, _⟩, _⟩ := hv
  have hg0 : Gr [] w (w.alloc (.cells #[.slice xo m.doms.length xc, .slice co m.cons.length cc] 26)) := (Gr.refl _ _).alloc _
  have hb0 : (w.alloc (.cells #[.slice xo m.doms.length xc, .slice co m.cons.length cc] 26)).heap[w.heap.size]? = some (.cells #[.slice xo m.doms.length xc, .slice co m.cons.length cc] 26 (0, 0)) := heap_alloc_new _ _
  have fl0 := fld hb0
  have Hg0 := hid hg0
  clear hg0 hb0 hm
  cases hl : ((x.length : Int) == (m.doms.length : Int))
  · go_enter Tryz.func76, Tryz.ntmps76
    go_wp2_with fail
    go_ret
    exact ⟨ret_bool (by unfold objB; rw [hl]; rfl), Hg0.out⟩
  · have Hl := hid hl
    go_enter Tryz.func76, Tryz.ntmps76
    go_wp2_with fail
    have hcall := allInRange_c x (-9) 9 _ _ (Hv.out.gr Hg0.out)
    (with_reducible refine hcall.mono ?_)
    clear hcall
    rintro e w1 ⟨rfl, hg1⟩
    go_wp2_with fail
    go_ret
    exact ⟨ret_bool (by unfold objB; rw [Hl.out]; rfl), Hg0.out.trans (by first | exact hg1 | (subst hg1; exact Gr.refl _ _))⟩

/-! ### The least solution -/
def minO (m : Mod) (D : List Nat) (o : List Int) : Option (List Int) := if validM m && objB o m.doms.length then bestO (dot o) (sols m.cons D) else none
theorem minO_no {m : Mod} {D : List Nat} {x : List Int} (h : (validM m && objB x m.doms.length) = false) : minO m D x = none := by unfold minO; rw [h]; rfl
theorem minO_yes {m : Mod} {D : List Nat} {x : List Int} (h : (validM m && objB x m.doms.length) = true) : minO m D x = bestO (dot x) (sols m.cons D) := by unfold minO; rw [h]; rfl
theorem small9 {x : List Int} (h : ∀ y ∈ x, -9 ≤ y ∧ y ≤ 9) : Small x := fun y hy => by have := h y hy; omega
theorem small5 {x : List Int} (h : ∀ y ∈ x, 0 ≤ y ∧ y ≤ 5) : Small x := fun y hy => by have := h y hy; omega
theorem solv {cs : List Con} {D : List Nat} {x : List Int} (h : x ∈ sols cs D) : x.length = D.length ∧ ∀ y ∈ x, 0 ≤ y ∧ y ≤ 5 := ⟨tups_len (mem_sols.1 h).1, tups_val (mem_sols.1 h).1⟩
/-- The program's function of an assignment's value. -/
theorem minLit_c (o x : List Int) (q : Nat) (ov cv : Value) (W : World) (ho : Nums [] W .i64 ov o) (hq : W.cell? ⟨q, 0, none⟩ = some ov) (hx : Nums [] W .i64 cv x) (hl : o.length = x.length) (hl' : o.length ≤ 100) (h9 : ∀ y ∈ o, -9 ≤ y ∧ y ≤ 9) (h5 : ∀ y ∈ x, 0 ≤ y ∧ y ≤ 5) :
    Calls Tryz.prog 164 #[cv, .pointer (some ⟨q, 0, none⟩)] W fun e W' => e = .returned (.int .i64 (dot o x)) ∧ Gr [] W W' := by
  have Ho := hid ho; have Hx := hid hx; have H9 := hid h9; have H5 := hid h5
  obtain ⟨oo, oc, rfl, -, -⟩ := ho
  obtain ⟨xo, xc, rfl, -, -⟩ := hx
  have Hl := hid hl
  clear h9 h5 hl
  go_enter Tryz.func164, Tryz.ntmps164
  go_wp2_with fail
  have hcall := weighted_c o x _ _ W Ho.out Hx.out (by have := Hl.out; omega) (by omega) (small9 H9.out) (small5 H5.out)
  (with_reducible refine hcall.mono ?_)
  clear hcall
  rintro e w1 ⟨rfl, hg1⟩
  go_wp2_with fail
  go_ret
  exact ⟨rfl, by first | exact hg1 | (subst hg1; exact Gr.refl _ _)⟩

set_option maxRecDepth 100000 in
set_option maxHeartbeats 1000000 in
theorem minimize_c (m : Mod) (D : List Nat) (o : List Int) (mv ov : Value) (w : World) (hv : ModV [] w mv m) (hVM : VM m D) (ho : Nums [] w .i64 ov o) (hob : objB o m.doms.length = true) :
    Calls Tryz.prog 82 #[mv, ov] w fun e w' => ∃ v', e = .returned (.tuple #[v', .bool (bestO (dot o) (sols m.cons D)).isSome]) ∧ NumsM (New w.heap.size w') w' v' ((bestO (dot o) (sols m.cons D)).getD []) ∧ Gr [] w w' := by
  have Hv := hid hv; have HVM := hid hVM; have Ho := hid ho; have Hob := hid (obj_len hob)
  have HDL : Hid (m.doms.length = D.length) := hid (by rw [hVM.doms, ints_len])
  obtain ⟨xo, xc, co, cc, rfl⟩ := hv.slices
  obtain ⟨oo, oc, rfl, -, -⟩ := ho
  clear hv hVM hob
  have h20 : ((w.alloc (.cells #[.slice xo m.doms.length xc, .slice co m.cons.length cc] 26)).alloc (.cells #[.slice oo o.length oc] 23)).heap[w.heap.size]? = some (.cells #[.slice xo m.doms.length xc, .slice co m.cons.length cc] 26 (0, 0)) := ((Gr.refl [] _).alloc _).obj (heap_alloc_new _ _) (by simp)
  have h21 : ((w.alloc (.cells #[.slice xo m.doms.length xc, .slice co m.cons.length cc] 26)).alloc (.cells #[.slice oo o.length oc] 23)).heap[w.heap.size + 1]? = some (.cells #[.slice oo o.length oc] 23 (0, 0)) := by
    have := heap_alloc_new (w.alloc (.cells #[.slice xo m.doms.length xc, .slice co m.cons.length cc] 26)) (.cells #[.slice oo o.length oc] 23)
    rwa [World.size_alloc] at this
  have hg0 : Gr [] w ((w.alloc (.cells #[.slice xo m.doms.length xc, .slice co m.cons.length cc] 26)).alloc (.cells #[.slice oo o.length oc] 23)) := ((Gr.refl [] w).alloc _).alloc _
  have fl0 := fld h20; have fo0 := fld h21
  have Hg0 := hid hg0; have H21 := hid h21
  clear h20 h21 hg0
  go_enter Tryz.func82, Tryz.ntmps82
  go_wp2_with fail
  have hcall := solutionsD_c m D _ _ (Hv.out.gr Hg0.out) HVM.out
  (with_reducible refine hcall.mono ?_)
  clear hcall
  rintro e w2 ⟨v2, rfl, ⟨_, hd2⟩, hg2⟩
  have Hd2 := hid (hd2.e.rows (S := []) (by simp))
  obtain ⟨ao, cap, rfl, -, -⟩ := hd2
  have Hg2 := hid (Hg0.out.trans hg2); have Ho2 := hid (hg2.obj H21.out (by simp))
  have hs2 := Hg2.out.size
  clear hg2 fl0 fo0
  go_wp2_with fail
  have hcall := best_c (sols m.cons D) (dot o) 164 #[.pointer (some ⟨w.heap.size + 1, 0, none⟩)] _ w2 Hd2.out (fun x hx => by have := (solv hx).1; have := HVM.out.len; omega) (fun _ _ => by kernel_rfl) (fun x cv W hx hg hn => minLit_c o x _ _ _ W (Ho.out.gr (Hg2.out.trans hg)) (fld (hg.obj Ho2.out (by simp)) 0) hn (by rw [(solv hx).1, ← HDL.out]; exact Hob.out.1) (by have := Hob.out.1; have := HDL.out; have := HVM.out.len.2; omega) Hob.out.2 (solv hx).2)
  (with_reducible refine hcall.mono ?_)
  clear hcall
  rintro e w3 ⟨v3, rfl, hn3, hg3⟩
  have Hn3 := hid hn3; have Hg3 := hid hg3
  clear hn3 hg3
  go_wp2_with fail
  go_ret2
  exact ⟨_, rfl, Hn3.out.gr' (Gr.refl [] _) (by simp) (fun b hb h => h.le hs2 (Nat.le_refl _)), Hg2.out.trans Hg3.out⟩

set_option maxRecDepth 100000 in
theorem Minimize_c (m : Mod) (o : List Int) (mv ov : Value) (w : World) (hv : ModV [] w mv m) (ho : Nums [] w .i64 ov o) (D : List Nat) (hD : validM m = true → VM m D) :
    Calls Tryz.prog 17 #[mv, ov] w fun e w' => ∃ v', e = .returned (.tuple #[v', .bool (minO m D o).isSome]) ∧ NumsM (New w.heap.size w') w' v' ((minO m D o).getD []) ∧ Gr [] w w' := by
  have Hv := hid hv; have HD := hid hD; have Ho := hid ho
  obtain ⟨xo, xc, co, cc, rfl⟩ := hv.slices
  obtain ⟨oo, oc, rfl, -, -⟩ := ho
  have hg0 : Gr [] w (w.alloc (.cells #[.slice xo m.doms.length xc, .slice co m.cons.length cc] 26)) := (Gr.refl _ _).alloc _
  have hb0 : (w.alloc (.cells #[.slice xo m.doms.length xc, .slice co m.cons.length cc] 26)).heap[w.heap.size]? = some (.cells #[.slice xo m.doms.length xc, .slice co m.cons.length cc] 26 (0, 0)) := heap_alloc_new _ _
  have fl0 := fld hb0
  have Hg0 := hid hg0; have Hb0 := hid hb0
  clear hv hg0 hb0 hD
  go_enter Tryz.func17, Tryz.ntmps17
  go_wp2_with fail
  have hcall := objectiveOk_c m o _ _ _ (Hv.out.gr Hg0.out) (Ho.out.gr Hg0.out)
  (with_reducible refine hcall.mono ?_)
  clear hcall
  rintro e w1 ⟨rfl, hg1⟩
  have fl1 := fld (hg1.obj Hb0.out (by simp))
  have Hg1 := hid (Hg0.out.trans hg1)
  have hs1 := hg1.size
  rw [World.size_alloc] at hs1
  clear fl0 hg1
  cases hval : (validM m && objB o m.doms.length)
  · have Hval := hid hval; clear hval
    go_wp2_with fail
    go_ret2
    rw [minO_no Hval.out]
    exact ⟨_, rfl, NumsM.nil _ _, Hg1.out⟩
  have Hyes := hid (minO_yes (D := D) hval)
  rw [Bool.and_eq_true] at hval
  have HVM := hid (HD.out hval.1); have Hob := hid hval.2
  clear hval
  go_wp2_with fail
  have hcall := minimize_c m D o _ _ w1 (Hv.out.gr Hg1.out) HVM.out (Ho.out.gr Hg1.out) Hob.out
  (with_reducible refine hcall.mono ?_)
  clear hcall
  rintro e w2 ⟨v2, rfl, hn2, hg2⟩
  have Hn2 := hid hn2; have Hg2 := hid hg2
  clear hn2 hg2
  go_wp2_with fail
  go_ret2
  rw [Hyes.out]
  exact ⟨_, rfl, Hn2.out.gr' (Gr.refl [] _) (by simp) (fun b hb h => h.le (by omega) (Nat.le_refl _)), Hg1.out.trans Hg2.out⟩

end Go.Proofs.YtlekngkcifgonaaGreat

set_option linter.unusedVariables false
set_option linter.unusedSimpArgs false
namespace Go.Proofs.YtlekngkcifgonaaGreat
open Go.RowKit

def idL (n : Nat) : List Int := (List.range n).map fun i : Nat => (i : Int)
theorem idL_succ (n : Nat) : idL (n + 1) = idL n ++ [(n : Int)] := by simp [idL, List.range_succ]
theorem idL_len (n : Nat) : (idL n).length = n := by simp [idL]
theorem word_idx (x : List Int) : word (idL x.length) x = x := by
  unfold word idL
  rw [List.map_map]
  refine List.ext_getElem? fun i => ?_
  rw [List.getElem?_map]
  by_cases h : i < x.length
  · rw [List.getElem?_range h, List.getElem?_eq_getElem h]
    simp [List.getD_eq_getElem?_getD, List.getElem?_eq_getElem h]
  · rw [List.getElem?_eq_none (by simp; omega), List.getElem?_eq_none (by omega)]; rfl
def linC (o : List Int) (n : Nat) (b : Int) : Con := ⟨1, idL n, o, b, []⟩
theorem linC_sat {o x : List Int} {b : Int} : satB (linC o x.length b) (word (linC o x.length b).vars x) = decide (dot o x ≤ b) := by
  show satB (linC o x.length b) (word (idL x.length) x) = _
  rw [word_idx]
  rfl
theorem sols_snoc (cs : List Con) (c : Con) (D : List Nat) : sols (cs ++ [c]) D = (sols cs D).filter fun x => satB c (word c.vars x) := by
  unfold sols
  rw [List.filter_filter]
  congr 1
  funext x
  unfold solB
  rw [List.all_append]
  simp [Bool.and_comm]
theorem sols_lin {cs : List Con} {D : List Nat} {o : List Int} {b : Int} : sols (cs ++ [linC o D.length b]) D = (sols cs D).filter fun x => decide (dot o x ≤ b) := by
  rw [sols_snoc]
  apply List.filter_congr
  intro x hx
  rw [← (solv hx).1]
  exact linC_sat
theorem dot_big {o x : List Int} (h9 : ∀ y ∈ o, -9 ≤ y ∧ y ≤ 9) (h5 : ∀ y ∈ x, 0 ≤ y ∧ y ≤ 5) : -(45 * (o.length : Int)) ≤ dot o x ∧ dot o x ≤ 45 * (o.length : Int) := by
  induction o generalizing x with
  | nil => cases x <;> simp [dot]
  | cons a o ih =>
    cases x with
    | nil => simp [dot]; omega
    | cons b x =>
      have h1 := ih (x := x) (fun y hy => h9 y (List.mem_cons_of_mem _ hy)) (fun y hy => h5 y (List.mem_cons_of_mem _ hy))
      have ha := h9 a (List.mem_cons_self ..); have hb := h5 b (List.mem_cons_self ..)
      have h2 : -45 ≤ a * b ∧ a * b ≤ 45 := by
        have l1 : -9 * b ≤ a * b := Int.mul_le_mul_of_nonneg_right ha.1 hb.1
        have l2 : a * b ≤ 9 * b := Int.mul_le_mul_of_nonneg_right ha.2 hb.1
        omega
      have e : dot (a :: o) (b :: x) = a * b + dot o x := by simp [dot]
      rw [e, List.length_cons]; push_cast; omega
end Go.Proofs.YtlekngkcifgonaaGreat

set_option linter.unusedVariables false
set_option linter.unusedSimpArgs false
namespace Go.Proofs.YtlekngkcifgonaaGreat
open Go.RowKit

/-- The model of the solutions that are better than x. -/
def lowM (m : Mod) (o x : List Int) : Mod := withM m (linC o m.doms.length (dot o x - 1))
def betB (m : Mod) (D : List Nat) (o x : List Int) : Bool := validM m && (objB o m.doms.length && (isB m.cons D x && validM (lowM m o x)))
def optO (m : Mod) (D : List Nat) (o x : List Int) : Option (List Cls) := if betB m D o x then infO (lowM m o x).cons D else none
def coptB (m : Mod) (D : List Nat) (o x : List Int) (p : List Cls) : Bool := betB m D o x && chkB (lowM m o x) D p
theorem betB_open {m : Mod} {D : List Nat} {o x : List Int} (h : betB m D o x = true) : validM m = true ∧ objB o m.doms.length = true ∧ x ∈ sols m.cons D ∧ validM (lowM m o x) = true := by
  unfold betB isB at h
  simp only [Bool.and_eq_true, decide_eq_true_eq] at h
  exact ⟨h.1, h.2.1, h.2.2.1, h.2.2.2⟩
theorem low_vm {m : Mod} {D : List Nat} {o x : List Int} (hVM : VM m D) (h : validM (lowM m o x) = true) : VM (lowM m o x) D := by
  obtain ⟨E, hE⟩ := validM_open h
  have e : ints E = ints D := by rw [← hE.doms, ← hVM.doms]; rfl
  rw [ints_inj] at e
  subst e
  exact hE
theorem dot_lowX {m : Mod} {D : List Nat} {o x : List Int} (hVM : VM m D) (ho : objB o m.doms.length = true) (hx : x ∈ sols m.cons D) : -200 ≤ dot o x ∧ dot o x ≤ 200 := by
  have h1 := obj_len ho
  have h2 : m.doms.length = D.length := by rw [hVM.doms, ints_len]
  have h3 := hVM.len
  have h4 := dot_big (o := o) (x := x) h1.2 (solv hx).2
  have h5 : (o.length : Int) ≤ 4 := by omega
  omega
theorem opt_best {m : Mod} {D : List Nat} {o x : List Int} (hVM : VM m D) (h : betB m D o x = true) (hs : sols (lowM m o x).cons D = []) : ∃ y, minO m D o = some y ∧ y ∈ sols m.cons D ∧ dot o x = dot o y := by
  obtain ⟨h1, h2, h3, -⟩ := betB_open h
  have hDl : m.doms.length = D.length := by rw [hVM.doms, ints_len]
  have e1 : (lowM m o x).cons = m.cons ++ [linC o D.length (dot o x - 1)] := by unfold lowM withM; rw [hDl]
  rw [e1, sols_lin, List.filter_eq_nil_iff] at hs
  rw [minO_yes (by rw [h1, h2]; rfl)]
  cases hb : bestO (dot o) (sols m.cons D) with
  | none => rw [bestO_none hb] at h3; simp at h3
  | some y =>
    have hy := bestO_mem hb
    have k1 := bestO_least hb x h3
    have k2 := hs y hy
    simp only [decide_eq_true_eq] at k2
    exact ⟨y, rfl, hy, by omega⟩
theorem copt_best {m : Mod} {D : List Nat} {o x : List Int} {p : List Cls} (hVM : VM m D) (h : coptB m D o x p = true) : ∃ y, minO m D o = some y ∧ y ∈ sols m.cons D ∧ dot o x = dot o y := by
  unfold coptB at h
  rw [Bool.and_eq_true] at h
  exact opt_best hVM h.1 (chkB_sound (low_vm hVM (betB_open h.1).2.2.2) h.2)
end Go.Proofs.YtlekngkcifgonaaGreat

set_option linter.unusedVariables false
namespace Go.Proofs.YtlekngkcifgonaaGreat
open Go.RowKit

end Go.Proofs.YtlekngkcifgonaaGreat

set_option linter.unusedVariables false
namespace Go.Proofs.YtlekngkcifgonaaGreat
open Go.RowKit

end Go.Proofs.YtlekngkcifgonaaGreat

set_option linter.unusedVariables false
namespace Go.Proofs.YtlekngkcifgonaaGreat
open Go.RowKit

end Go.Proofs.YtlekngkcifgonaaGreat

set_option linter.unusedVariables false
namespace Go.Proofs.YtlekngkcifgonaaGreat
open Go.RowKit

end Go.Proofs.YtlekngkcifgonaaGreat

set_option linter.unusedVariables false
set_option linter.unusedSimpArgs false
namespace Go.Proofs.YtlekngkcifgonaaGreat
open Go.RowKit

set_option maxRecDepth 100000 in
theorem IsSolution_b (m : Mod) (D : List Nat) (xs : List Int) (mv xv : Value) (w : World) (hv : ModV [] w mv m) (hVM : VM m D) (hx : Nums [] w .i64 xv xs) :
    Calls Tryz.prog 22 #[mv, xv] w fun e w' => e = .returned (.bool (isB m.cons D xs)) ∧ Gr [] w w' := by
  have Hv := hid hv
  obtain ⟨do_, dc, co, cc, rfl⟩ := hv.slices
  have hlen : m.doms.length = D.length := by rw [hVM.doms, ints_len]
  have Hx := hid hx
  obtain ⟨xo, xc, rfl, _, _⟩ := hx
  have hg0 : Gr [] w (w.alloc (.cells #[.slice do_ m.doms.length dc, .slice co m.cons.length cc] 26)) := (Gr.refl _ _).alloc _
  have hb0 : (w.alloc (.cells #[.slice do_ m.doms.length dc, .slice co m.cons.length cc] 26)).heap[w.heap.size]? = some (.cells #[.slice do_ m.doms.length dc, .slice co m.cons.length cc] 26 (0, 0)) := heap_alloc_new _ _
  have hfl := fld hb0
  have Hb0 := hid hb0; have HVM := hid hVM; have HL := hid hlen
  clear hb0 hv hVM hlen
  go_enter Tryz.func22, Tryz.ntmps22
  go_wp2_with fail
  have hcall := ValidModel_c m _ _ (Hv.out.gr hg0)
  (with_reducible refine hcall.mono ?_)
  clear hcall
  rw [HVM.out.valid]
  rintro e w1 ⟨rfl, hg1⟩
  have hfl1 := fld (hg1.obj Hb0.out (by simp))
  have Hg1 := hid (hg0.trans hg1)
  have hg1' := hid hg1
  clear hfl hg1 hg0
  go_wp2_with fail
  have hcall := assigned_c xs m.doms.length _ w1 (Hx.out.gr Hg1.out)
  (with_reducible refine hcall.mono ?_)
  clear hcall
  rintro e w2 ⟨rfl, hg2⟩
  have hfl2 := fld ((hg1'.out.trans hg2).obj Hb0.out (by simp))
  have Hg2 := hid (Hg1.out.trans hg2)
  clear hg2 hfl1
  cases has : asgB xs m.doms.length
  · have Has := hid has
    clear has
    go_wp2_with fail
    go_ret
    refine ⟨ret_bool ?_, Hg2.out⟩
    have hn : isB m.cons D xs = false := decide_eq_false fun hm => by
      have h1 := tups_len (mem_sols.1 hm).1
      have h2 : asgB xs m.doms.length = true := by
        unfold asgB
        rw [allB_iff.2 fun x hx => tups_val (mem_sols.1 hm).1 x hx]
        have := HL.out
        simp; omega
      rw [Has.out] at h2; cases h2
    rw [hn]
  · have Has := hid (asg_len has)
    clear has
    go_wp2_with fail
    have hcall := isSolutionG_c m D xs _ _ w2 (Hv.out.gr Hg2.out) HVM.out (Hx.out.gr Hg2.out) (by rw [Has.out.1, HL.out]) Has.out.2
    (with_reducible refine hcall.mono ?_)
    clear hcall
    rintro e w3 ⟨rfl, hg3⟩
    go_wp2_with fail
    go_ret
    exact ⟨rfl, Hg2.out.trans hg3⟩
end Go.Proofs.YtlekngkcifgonaaGreat
