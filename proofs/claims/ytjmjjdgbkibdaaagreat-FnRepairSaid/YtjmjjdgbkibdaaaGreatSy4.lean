/-
  Walks of the symmetries of variables and of values: the reference's; the program's for values.
-/
import Derived.Test.YtjmjjdgbkibdaaaGreatSy3
set_option linter.unusedVariables false
namespace Go.Proofs.YtjmjjdgbkibdaaaGreat
open Go.RowKit

theorem all_sols (m : Mod) (D : List Nat) (hVM : VM m D) : (sols m.cons D).take 4096 = sols m.cons D := List.take_of_length_le (by have := sols_length m.cons D hVM.len.2; omega)

set_option maxRecDepth 100000 in
theorem specIsVariableSymmetry_c (m : Mod) (I J : Int) (mv : Value) (w : World) (hv : ModV [] w mv m) (hs : m.Small) (D : List Nat) (hD : validM m = true → VM m D) :
    Calls Tryz.prog 71 #[mv, .int .i64 I, .int .i64 J] w fun e w' => e = .returned (.bool (symB m D I J)) ∧ Gr [] w w' := by
  have Hv := hid hv; have HD := hid hD; have Hs := hid hs
  obtain ⟨xo, xc, co, cc, rfl⟩ := hv.slices
  have hdl : m.doms.length ≤ 2000000 := hs.doms
  have hg0 : Gr [] w (w.alloc (.cells #[.slice xo m.doms.length xc, .slice co m.cons.length cc] 31)) := (Gr.refl _ _).alloc _
  have hb0 : (w.alloc (.cells #[.slice xo m.doms.length xc, .slice co m.cons.length cc] 31)).heap[w.heap.size]? = some (.cells #[.slice xo m.doms.length xc, .slice co m.cons.length cc] 31 (0, 0)) := heap_alloc_new _ _
  have fl0 := fld hb0
  have Hg0 := hid hg0; have Hb0 := hid hb0
  clear hv hg0 hb0 hD hs
  go_enter Tryz.func71, Tryz.ntmps71
  go_wp2_with fail
  have hcall := specValidModel_c m _ _ (Hv.out.gr Hg0.out) Hs.out
  (with_reducible refine hcall.mono ?_)
  clear hcall
  rintro e w1 ⟨rfl, hg1⟩
  have hb1 := hg1.obj Hb0.out (by simp)
  have fl1 := fld hb1
  have Hb1 := hid hb1; have Hg1 := hid (Hg0.out.trans hg1)
  clear fl0 hb1 hg1
  cases hval : validM m
  · have Hval := hid hval; clear hval
    go_wp2_with fail
    go_ret
    exact ⟨ret_bool (by unfold symB; rw [Hval.out]; rfl), Hg1.out⟩
  have hVM := HD.out hval
  have hdd : m.doms.length = D.length := by rw [hVM.doms, ints_len]
  have Hval := hid hval; have HVM := hid hVM; have Hdd := hid hdd
  clear hval hVM hdd
  go_wp2_with fail
  have hcall := inRange_c I 0 ((m.doms.length : Int) - 1) w1
  (with_reducible refine hcall.mono ?_)
  clear hcall
  rintro e w2 ⟨rfl, rfl⟩
  cases hi : inB 0 ((m.doms.length : Int) - 1) I
  · have Hi := hid hi; clear hi
    go_wp2_with fail
    go_ret
    exact ⟨ret_bool (by unfold symB allB; simp [Hi.out]), Hg1.out⟩
  have Hi := hid hi
  have hi2 := inB_iff.1 hi
  clear hi
  go_wp2_with fail
  have hcall := inRange_c J 0 ((m.doms.length : Int) - 1) w2
  (with_reducible refine hcall.mono ?_)
  clear hcall
  rintro e w3 ⟨rfl, rfl⟩
  cases hj : inB 0 ((m.doms.length : Int) - 1) J
  · have Hj := hid hj; clear hj
    go_wp2_with fail
    go_ret
    exact ⟨ret_bool (by unfold symB allB; simp [Hj.out]), Hg1.out⟩
  have Hj := hid hj
  have hj2 := inB_iff.1 hj
  obtain ⟨i, rfl⟩ := Int.eq_ofNat_of_zero_le hi2.1
  obtain ⟨j, rfl⟩ := Int.eq_ofNat_of_zero_le hj2.1
  have hi' : i < D.length := by have := Hdd.out; omega
  have hj' : j < D.length := by have := Hdd.out; omega
  clear hj hi2 hj2
  go_wp2_with fail
  have hcall := solve_c m D 4096 _ w3 (Hv.out.gr Hg1.out) HVM.out (by omega) (by omega)
  rw [show ((4096 : Nat) : Int) = 4096 from rfl] at hcall
  (with_reducible refine hcall.mono ?_)
  clear hcall
  rintro e w4 ⟨v4, nd, rfl, hown4, hg4⟩
  rw [all_sols m D HVM.out] at hown4
  have Hr4 := hid (hown4.rows (S := []) (by simp))
  have hb4 := hg4.obj Hb1.out (by simp)
  have fl4 := fld hb4
  have Hg4 := hid (Hg1.out.trans hg4)
  obtain ⟨ro, rc, rfl, -, -, -⟩ := hown4.slice
  clear hown4 hg4 hb4 fl1
  go_wp2_with fail
  have hcall := isVarSymmetry_c m D i j _ _ w4 (Hv.out.gr Hg4.out) HVM.out Hr4.out hi' hj'
  (with_reducible refine hcall.mono ?_)
  clear hcall
  rintro e w5 ⟨rfl, hg5⟩
  go_wp2_with fail
  go_ret
  exact ⟨ret_bool (by unfold symB allB; simp [Hval.out, Hi.out, Hj.out]), Hg4.out.trans hg5⟩

/-! ### Values -/
def valSw (u v y : Int) : Int := if y = u then v else if y = v then u else y
def swapV (u v : Int) (x : List Int) : List Int := x.map (valSw u v)
def vsymB (m : Mod) (D : List Nat) (U V : Int) : Bool := validM m && inB 0 5 U && inB 0 5 V && presB m.cons D (swapV U V)
theorem swapV_ok {D : List Nat} {cs : List Con} {u v : Int} (hu : 0 ≤ u ∧ u ≤ 5) (hv : 0 ≤ v ∧ v ≤ 5) : ∀ x ∈ sols cs D, (swapV u v x).length = x.length ∧ ∀ y ∈ swapV u v x, 0 ≤ y ∧ y ≤ 5 := fun x hx => by
  have hin := (mem_sols.1 hx).1
  refine ⟨by simp [swapV], fun y hy => ?_⟩
  obtain ⟨z, hz, rfl⟩ := List.mem_map.1 hy
  have := tups_val hin z hz
  unfold valSw
  split
  · exact hv
  · split
    · exact hu
    · exact this
theorem mid_set {f : Int → Int} {x : List Int} {n : Nat} {y : Int} (hy : x[n]? = some y) : ((x.take n).map f ++ x.drop n).set n (f y) = (x.take (n + 1)).map f ++ x.drop (n + 1) := by
  have hn := (List.getElem?_eq_some_iff.1 hy).1
  have hl : ((x.take n).map f).length = n := by rw [List.length_map, List.length_take]; omega
  rw [List.set_append_right _ _ (by omega), hl, Nat.sub_self, drop_cons hy, List.set_cons_zero, List.take_add_one, hy]
  simp
theorem mid_get {f : Int → Int} {x : List Int} {n : Nat} {y : Int} (hy : x[n]? = some y) : ((x.take n).map f ++ x.drop n)[n]? = some y := by
  have hn := (List.getElem?_eq_some_iff.1 hy).1
  have hl : ((x.take n).map f).length = n := by rw [List.length_map, List.length_take]; omega
  rw [List.getElem?_append_right (by omega), hl, Nat.sub_self, List.getElem?_drop, Nat.add_zero, hy]
theorem mid_same {f : Int → Int} {x : List Int} {n : Nat} {y : Int} (hy : x[n]? = some y) (hf : f y = y) : (x.take n).map f ++ x.drop n = (x.take (n + 1)).map f ++ x.drop (n + 1) := by
  rw [List.take_add_one, hy, drop_cons hy]; simp [hf]

end Go.Proofs.YtjmjjdgbkibdaaaGreat
