/-
  Walks of the symmetries of variables and of values: the program's and the reference's. Walks of the symmetries of variables and of values: the reference's; the program's for values.
  Walks of NextSolution: the program's and the reference's.
  The first one of lists for which a function is least: plainly, and the program's walk over whatever function. Walks of objectives: validity, the least solution; the program's and the reference's.
  Plain laws of a linear constraint over all variables: which models it makes, which solutions it leaves.
  Plain laws of proofs of optimality. No walk is in this text.
  Walks of laws.equalInts and FnIsConsistent. Walks of laws.isSubset and FnPropagateFixpoint. Walk of FnPropagateSound.
  Walks for the law of SolveAll: the reference's SolveAll, the comparisons of lists, IsSolution.
  impl.IsSolution for any assignment: IsSolution_b (yes exactly if it is among the solutions).
-/
import Derived.Test.YtlekngkcifgonaaGreatYSy1ToRe
import Derived.Test.YtlekngkcifgonaaGreatYUsToPc
import Derived.Test.YtlekngkcifgonaaGreatYWaWc
import Derived.Test.YtlekngkcifgonaaGreatYG8
set_option linter.unusedVariables false
namespace Go.Proofs.YtlekngkcifgonaaGreat
open Go.RowKit

end Go.Proofs.YtlekngkcifgonaaGreat

set_option linter.unusedVariables false
namespace Go.Proofs.YtlekngkcifgonaaGreat
open Go.RowKit

/-! ### Values -/
end Go.Proofs.YtlekngkcifgonaaGreat

set_option linter.unusedVariables false
namespace Go.Proofs.YtlekngkcifgonaaGreat
open Go.RowKit

def asgB (x : List Int) (n : Nat) : Bool := ((x.length : Int) == (n : Int)) && allB 0 5 x
theorem assigned_c (x : List Int) (n : Nat) (v : Value) (w : World) (hv : Nums [] w .i64 v x) :
    Calls Tryz.prog 87 #[v, .int .i64 n] w fun e w' => e = .returned (.bool (asgB x n)) ∧ Gr [] w w' := by
  have Hv := hid hv
  obtain ⟨xo, xc, rfl, ⟨hx1, hx2, _⟩, _⟩ := hv
  cases hl : ((x.length : Int) == (n : Int))
  · go_enter Tryz.func87, Tryz.ntmps87
    go_wp2_with fail
    go_ret
    exact ⟨ret_bool (by unfold asgB; rw [hl]; rfl), Gr.refl _ _⟩
  · have Hl := hid hl
    go_enter Tryz.func87, Tryz.ntmps87
    go_wp2_with fail
    have hcall := allIn_c x 0 5 _ w Hv.out
    (with_reducible refine hcall.mono ?_)
    clear hcall
    rintro e w1 ⟨rfl, hg1⟩
    go_wp2_with fail
    go_ret
    exact ⟨ret_bool (by unfold asgB; rw [Hl.out]; rfl), hg1⟩

theorem asg_len {x : List Int} {n : Nat} (h : asgB x n = true) : x.length = n ∧ ∀ y ∈ x, 0 ≤ y ∧ y ≤ 5 := by
  unfold asgB at h
  rw [Bool.and_eq_true] at h
  exact ⟨by have := h.1; simp at this; omega, allB_iff.1 h.2⟩

end Go.Proofs.YtlekngkcifgonaaGreat

set_option linter.unusedVariables false
namespace Go.Proofs.YtlekngkcifgonaaGreat
open Go.RowKit

theorem run_eql_slice_nil2 {P : Program} (w : World) (t e : TypeId) (a : Option Addr) (l c : Nat) (h : P.underlying t = some (.slice e)) : (binOp .eql t (.slice a l c) (.slice none 0 0)).run P w = .ok (.bool a.isNone) w := by
  simp only [binOp]
  simp [run_equal_slice_nil w t e a l c h]
theorem run_neq_slice_nil2 {P : Program} (w : World) (t e : TypeId) (a : Option Addr) (l c : Nat) (h : P.underlying t = some (.slice e)) : (binOp .neq t (.slice a l c) (.slice none 0 0)).run P w = .ok (.bool (!a.isNone)) w := by
  simp only [binOp]
  simp [run_equal_slice_nil w t e a l c h]
section
attribute [local go_sem] run_eql_slice_nil2 run_neq_slice_nil2

end
end Go.Proofs.YtlekngkcifgonaaGreat

set_option linter.unusedVariables false
set_option linter.unusedSimpArgs false
namespace Go.Proofs.YtlekngkcifgonaaGreat
open Go.RowKit

def objB (x : List Int) (n : Nat) : Bool := ((x.length : Int) == (n : Int)) && allB (-9) 9 x
theorem obj_len {x : List Int} {n : Nat} (h : objB x n = true) : x.length = n ∧ ∀ y ∈ x, -9 ≤ y ∧ y ≤ 9 := by
  unfold objB at h
  rw [Bool.and_eq_true] at h
  exact ⟨by have := h.1; simp at this; omega, allB_iff.1 h.2⟩
set_option maxRecDepth 100000 in
theorem objectiveOk_c (m : Mod) (x : List Int) (mv v : Value) (w : World) (hm : ModV [] w mv m) (hv : Nums [] w .i64 v x) :
    Calls Tryz.prog 81 #[mv, v] w fun e w' => e = .returned (.bool (validM m && objB x m.doms.length)) ∧ Gr [] w w' := by
  have Hv := hid hv; have Hm := hid hm
  obtain ⟨xo, xc, co, cc, rfl⟩ := hm.slices
  obtain ⟨vo, vc, rfl, ⟨hx1, hx2, _⟩, _⟩ := hv
  have hg0 : Gr [] w (w.alloc (.cells #[.slice xo m.doms.length xc, .slice co m.cons.length cc] 26)) := (Gr.refl _ _).alloc _
  have hb0 : (w.alloc (.cells #[.slice xo m.doms.length xc, .slice co m.cons.length cc] 26)).heap[w.heap.size]? = some (.cells #[.slice xo m.doms.length xc, .slice co m.cons.length cc] 26 (0, 0)) := heap_alloc_new _ _
  have fl0 := fld hb0
  have Hg0 := hid hg0; have Hb0 := hid hb0
  clear hg0 hb0 hm
  go_enter Tryz.func81, Tryz.ntmps81
  go_wp2_with fail
  have hcall := ValidModel_c m _ _ (Hm.out.gr Hg0.out)
  (with_reducible refine hcall.mono ?_)
  clear hcall
  rintro e w1 ⟨rfl, hg1⟩
  have fl1 := fld (hg1.obj Hb0.out (by simp))
  have Hg1 := hid (Hg0.out.trans hg1)
  clear fl0 hg1
  cases hval : validM m
  · have Hval := hid hval
    clear hval
    go_wp2_with fail
    go_ret
    exact ⟨ret_bool (by rw [Hval.out]; rfl), Hg1.out⟩
  have Hval := hid hval
  clear hval
  cases hl : ((x.length : Int) == (m.doms.length : Int))
  · have Hl := hid hl
    go_wp2_with fail
    go_ret
    exact ⟨ret_bool (by unfold objB; rw [Hval.out, Hl.out]; rfl), Hg1.out⟩
  · have Hl := hid hl
    go_wp2_with fail
    have hcall := allIn_c x (-9) 9 _ _ (Hv.out.gr Hg1.out)
    (with_reducible refine hcall.mono ?_)
    clear hcall
    rintro e w2 ⟨rfl, hg2⟩
    go_wp2_with fail
    go_ret
    exact ⟨ret_bool (by unfold objB; rw [Hval.out, Hl.out]; rfl), Hg1.out.trans (by first | exact hg2 | (subst hg2; exact Gr.refl _ _))⟩
set_option maxRecDepth 100000 in
theorem validObjective_c (m : Mod) (x : List Int) (mv v : Value) (w : World) (hm : ModV [] w mv m) (hv : Nums [] w .i64 v x) :
    Calls Tryz.prog 76 #[mv, v] w fun e w' => e = .returned (.bool (objB x m.doms.length)) ∧ Gr [] w w' := by
  have Hv := hid hv
  obtain ⟨xo, xc, co, cc, rfl⟩ := hm.slices
  obtain ⟨vo, vc, rfl, ⟨hx1, hx2, _⟩, _⟩ := hv
  have hg0 : Gr [] w (w.alloc (.cells #[.slice xo m.doms.length xc, .slice co m.cons.length cc] 26)) := (Gr.refl _ _).alloc _
  have hb0 : (w.alloc (.cells #[.slice xo m.doms.length xc, .slice co m.cons.length cc] 26)).heap[w.heap.size]? = some (.cells #[.slice xo m.doms.length xc, .slice co m.cons.length cc] 26 (0, 0)) := heap_alloc_new _ _
  have fl0 := fld hb0
  have Hg0 := hid hg0
  clear hg0 hb0 hm
  cases hl : ((x.length : Int) == (m.doms.length : Int))
  · go_enter Tryz.func76, Tryz.ntmps76
    go_wp2_with fail
    go_ret
    exact ⟨ret_bool (by unfold objB; rw [hl]; rfl), Hg0.out⟩
  · have Hl := hid hl
    go_enter Tryz.func76, Tryz.ntmps76
    go_wp2_with fail
    have hcall := allInRange_c x (-9) 9 _ _ (Hv.out.gr Hg0.out)
    (with_reducible refine hcall.mono ?_)
    clear hcall
    rintro e w1 ⟨rfl, hg1⟩
    go_wp2_with fail
    go_ret
    exact ⟨ret_bool (by unfold objB; rw [Hl.out]; rfl), Hg0.out.trans (by first | exact hg1 | (subst hg1; exact Gr.refl _ _))⟩

/-! ### The least solution -/
theorem small9 {x : List Int} (h : ∀ y ∈ x, -9 ≤ y ∧ y ≤ 9) : Small x := fun y hy => by have := h y hy; omega
theorem small5 {x : List Int} (h : ∀ y ∈ x, 0 ≤ y ∧ y ≤ 5) : Small x := fun y hy => by have := h y hy; omega
theorem solv {cs : List Con} {D : List Nat} {x : List Int} (h : x ∈ sols cs D) : x.length = D.length ∧ ∀ y ∈ x, 0 ≤ y ∧ y ≤ 5 := ⟨tups_len (mem_sols.1 h).1, tups_val (mem_sols.1 h).1⟩
end Go.Proofs.YtlekngkcifgonaaGreat

set_option linter.unusedVariables false
set_option linter.unusedSimpArgs false
namespace Go.Proofs.YtlekngkcifgonaaGreat
open Go.RowKit

def idL (n : Nat) : List Int := (List.range n).map fun i : Nat => (i : Int)
theorem idL_succ (n : Nat) : idL (n + 1) = idL n ++ [(n : Int)] := by simp [idL, List.range_succ]
theorem idL_len (n : Nat) : (idL n).length = n := by simp [idL]
def linC (o : List Int) (n : Nat) (b : Int) : Con := ⟨1, idL n, o, b, []⟩
theorem dot_big {o x : List Int} (h9 : ∀ y ∈ o, -9 ≤ y ∧ y ≤ 9) (h5 : ∀ y ∈ x, 0 ≤ y ∧ y ≤ 5) : -(45 * (o.length : Int)) ≤ dot o x ∧ dot o x ≤ 45 * (o.length : Int) := by
  induction o generalizing x with
  | nil => cases x <;> simp [dot]
  | cons a o ih =>
    cases x with
    | nil => simp [dot]; omega
    | cons b x =>
      have h1 := ih (x := x) (fun y hy => h9 y (List.mem_cons_of_mem _ hy)) (fun y hy => h5 y (List.mem_cons_of_mem _ hy))
      have ha := h9 a (List.mem_cons_self ..); have hb := h5 b (List.mem_cons_self ..)
      have h2 : -45 ≤ a * b ∧ a * b ≤ 45 := by
        have l1 : -9 * b ≤ a * b := Int.mul_le_mul_of_nonneg_right ha.1 hb.1
        have l2 : a * b ≤ 9 * b := Int.mul_le_mul_of_nonneg_right ha.2 hb.1
        omega
      have e : dot (a :: o) (b :: x) = a * b + dot o x := by simp [dot]
      rw [e, List.length_cons]; push_cast; omega
end Go.Proofs.YtlekngkcifgonaaGreat

set_option linter.unusedVariables false
set_option linter.unusedSimpArgs false
namespace Go.Proofs.YtlekngkcifgonaaGreat
open Go.RowKit

/-- The model of the solutions that are better than x. -/
def lowM (m : Mod) (o x : List Int) : Mod := withM m (linC o m.doms.length (dot o x - 1))
def betB (m : Mod) (D : List Nat) (o x : List Int) : Bool := validM m && (objB o m.doms.length && (isB m.cons D x && validM (lowM m o x)))
def optO (m : Mod) (D : List Nat) (o x : List Int) : Option (List Cls) := if betB m D o x then infO (lowM m o x).cons D else none
def coptB (m : Mod) (D : List Nat) (o x : List Int) (p : List Cls) : Bool := betB m D o x && chkB (lowM m o x) D p
theorem betB_open {m : Mod} {D : List Nat} {o x : List Int} (h : betB m D o x = true) : validM m = true ∧ objB o m.doms.length = true ∧ x ∈ sols m.cons D ∧ validM (lowM m o x) = true := by
  unfold betB isB at h
  simp only [Bool.and_eq_true, decide_eq_true_eq] at h
  exact ⟨h.1, h.2.1, h.2.2.1, h.2.2.2⟩
theorem low_vm {m : Mod} {D : List Nat} {o x : List Int} (hVM : VM m D) (h : validM (lowM m o x) = true) : VM (lowM m o x) D := by
  obtain ⟨E, hE⟩ := validM_open h
  have e : ints E = ints D := by rw [← hE.doms, ← hVM.doms]; rfl
  rw [ints_inj] at e
  subst e
  exact hE
theorem dot_lowX {m : Mod} {D : List Nat} {o x : List Int} (hVM : VM m D) (ho : objB o m.doms.length = true) (hx : x ∈ sols m.cons D) : -200 ≤ dot o x ∧ dot o x ≤ 200 := by
  have h1 := obj_len ho
  have h2 : m.doms.length = D.length := by rw [hVM.doms, ints_len]
  have h3 := hVM.len
  have h4 := dot_big (o := o) (x := x) h1.2 (solv hx).2
  have h5 : (o.length : Int) ≤ 4 := by omega
  omega
end Go.Proofs.YtlekngkcifgonaaGreat

set_option linter.unusedVariables false
namespace Go.Proofs.YtlekngkcifgonaaGreat
open Go.RowKit

end Go.Proofs.YtlekngkcifgonaaGreat

set_option linter.unusedVariables false
namespace Go.Proofs.YtlekngkcifgonaaGreat
open Go.RowKit

end Go.Proofs.YtlekngkcifgonaaGreat

set_option linter.unusedVariables false
namespace Go.Proofs.YtlekngkcifgonaaGreat
open Go.RowKit

theorem RowsV.at {S : List Nat} {w : World} {ao : Option Addr} {n cap : Nat} {rows : List (List Int)} (h : RowsV S w (.slice ao n cap) rows) {i : Nat} {r : List Int} (hi : rows[i]? = some r) :
    ∃ b o u, ao = some ⟨b, o, none⟩ ∧ w.cell? ⟨b, o + i, none⟩ = some u ∧ Nums S w .i64 u r := by
  obtain ⟨ao', cap', e, _, hc⟩ := h
  cases e
  obtain ⟨b, o, u, e1, _, h1, h2⟩ := hc i r hi
  exact ⟨b, o, u, e1, h1, h2⟩

end Go.Proofs.YtlekngkcifgonaaGreat

set_option linter.unusedVariables false
namespace Go.Proofs.YtlekngkcifgonaaGreat
open Go.RowKit

end Go.Proofs.YtlekngkcifgonaaGreat

set_option linter.unusedVariables false
set_option linter.unusedSimpArgs false
namespace Go.Proofs.YtlekngkcifgonaaGreat
open Go.RowKit

set_option maxRecDepth 100000 in
theorem IsSolution_b (m : Mod) (D : List Nat) (xs : List Int) (mv xv : Value) (w : World) (hv : ModV [] w mv m) (hVM : VM m D) (hx : Nums [] w .i64 xv xs) :
    Calls Tryz.prog 22 #[mv, xv] w fun e w' => e = .returned (.bool (isB m.cons D xs)) ∧ Gr [] w w' := by
  have Hv := hid hv
  obtain ⟨do_, dc, co, cc, rfl⟩ := hv.slices
  have hlen : m.doms.length = D.length := by rw [hVM.doms, ints_len]
  have Hx := hid hx
  obtain ⟨xo, xc, rfl, _, _⟩ := hx
  have hg0 : Gr [] w (w.alloc (.cells #[.slice do_ m.doms.length dc, .slice co m.cons.length cc] 26)) := (Gr.refl _ _).alloc _
  have hb0 : (w.alloc (.cells #[.slice do_ m.doms.length dc, .slice co m.cons.length cc] 26)).heap[w.heap.size]? = some (.cells #[.slice do_ m.doms.length dc, .slice co m.cons.length cc] 26 (0, 0)) := heap_alloc_new _ _
  have hfl := fld hb0
  have Hb0 := hid hb0; have HVM := hid hVM; have HL := hid hlen
  clear hb0 hv hVM hlen
  go_enter Tryz.func22, Tryz.ntmps22
  go_wp2_with fail
  have hcall := ValidModel_c m _ _ (Hv.out.gr hg0)
  (with_reducible refine hcall.mono ?_)
  clear hcall
  rw [HVM.out.valid]
  rintro e w1 ⟨rfl, hg1⟩
  have hfl1 := fld (hg1.obj Hb0.out (by simp))
  have Hg1 := hid (hg0.trans hg1)
  have hg1' := hid hg1
  clear hfl hg1 hg0
  go_wp2_with fail
  have hcall := assigned_c xs m.doms.length _ w1 (Hx.out.gr Hg1.out)
  (with_reducible refine hcall.mono ?_)
  clear hcall
  rintro e w2 ⟨rfl, hg2⟩
  have hfl2 := fld ((hg1'.out.trans hg2).obj Hb0.out (by simp))
  have Hg2 := hid (Hg1.out.trans hg2)
  clear hg2 hfl1
  cases has : asgB xs m.doms.length
  · have Has := hid has
    clear has
    go_wp2_with fail
    go_ret
    refine ⟨ret_bool ?_, Hg2.out⟩
    have hn : isB m.cons D xs = false := decide_eq_false fun hm => by
      have h1 := tups_len (mem_sols.1 hm).1
      have h2 : asgB xs m.doms.length = true := by
        unfold asgB
        rw [allB_iff.2 fun x hx => tups_val (mem_sols.1 hm).1 x hx]
        have := HL.out
        simp; omega
      rw [Has.out] at h2; cases h2
    rw [hn]
  · have Has := hid (asg_len has)
    clear has
    go_wp2_with fail
    have hcall := isSolutionG_c m D xs _ _ w2 (Hv.out.gr Hg2.out) HVM.out (Hx.out.gr Hg2.out) (by rw [Has.out.1, HL.out]) Has.out.2
    (with_reducible refine hcall.mono ?_)
    clear hcall
    rintro e w3 ⟨rfl, hg3⟩
    go_wp2_with fail
    go_ret
    exact ⟨rfl, Hg2.out.trans hg3⟩
end Go.Proofs.YtlekngkcifgonaaGreat
