/-
  Walks of the symmetries of variables and of values: the reference's; the program's for values.
-/
import Derived.Test.YtjmjjdgbkibdaaaSy3
set_option linter.unusedVariables false
namespace Go.Proofs.Ytjmjjdgbkibdaaa
open Go.RowKit

theorem all_sols (m : Mod) (D : List Nat) (hVM : VM m D) : (sols m.cons D).take 4096 = sols m.cons D := List.take_of_length_le (by have := sols_length m.cons D hVM.len.2; omega)

/-! ### Values -/
def valSw (u v y : Int) : Int := if y = u then v else if y = v then u else y
def swapV (u v : Int) (x : List Int) : List Int := x.map (valSw u v)
def vsymB (m : Mod) (D : List Nat) (U V : Int) : Bool := validM m && inB 0 5 U && inB 0 5 V && presB m.cons D (swapV U V)
theorem swapV_ok {D : List Nat} {cs : List Con} {u v : Int} (hu : 0 ≤ u ∧ u ≤ 5) (hv : 0 ≤ v ∧ v ≤ 5) : ∀ x ∈ sols cs D, (swapV u v x).length = x.length ∧ ∀ y ∈ swapV u v x, 0 ≤ y ∧ y ≤ 5 := fun x hx => by
  have hin := (mem_sols.1 hx).1
  refine ⟨by simp [swapV], fun y hy => ?_⟩
  obtain ⟨z, hz, rfl⟩ := List.mem_map.1 hy
  have := tups_val hin z hz
  unfold valSw
  split
  · exact hv
  · split
    · exact hu
    · exact this
theorem mid_set {f : Int → Int} {x : List Int} {n : Nat} {y : Int} (hy : x[n]? = some y) : ((x.take n).map f ++ x.drop n).set n (f y) = (x.take (n + 1)).map f ++ x.drop (n + 1) := by
  have hn := (List.getElem?_eq_some_iff.1 hy).1
  have hl : ((x.take n).map f).length = n := by rw [List.length_map, List.length_take]; omega
  rw [List.set_append_right _ _ (by omega), hl, Nat.sub_self, drop_cons hy, List.set_cons_zero, List.take_add_one, hy]
  simp
theorem mid_get {f : Int → Int} {x : List Int} {n : Nat} {y : Int} (hy : x[n]? = some y) : ((x.take n).map f ++ x.drop n)[n]? = some y := by
  have hn := (List.getElem?_eq_some_iff.1 hy).1
  have hl : ((x.take n).map f).length = n := by rw [List.length_map, List.length_take]; omega
  rw [List.getElem?_append_right (by omega), hl, Nat.sub_self, List.getElem?_drop, Nat.add_zero, hy]
theorem mid_same {f : Int → Int} {x : List Int} {n : Nat} {y : Int} (hy : x[n]? = some y) (hf : f y = y) : (x.take n).map f ++ x.drop n = (x.take (n + 1)).map f ++ x.drop (n + 1) := by
  rw [List.take_add_one, hy, drop_cons hy]; simp [hf]

set_option maxRecDepth 100000 in
theorem vexLit_c (u v : Int) (x : List Int) (b c pu pv : Nat) (W : World) (hx : InB b W (.slice (some ⟨b, 0, none⟩) x.length c) x)
    (hpu : W.cell? ⟨pu, 0, none⟩ = some (.int .i64 u)) (hpv : W.cell? ⟨pv, 0, none⟩ = some (.int .i64 v)) (hnu : pu ≠ b) (hnv : pv ≠ b) :
    Calls Try.prog 48 #[.slice (some ⟨b, 0, none⟩) x.length c, .pointer (some ⟨pu, 0, none⟩), .pointer (some ⟨pv, 0, none⟩)] W fun e W' => (∃ v, e = .returned v) ∧ InB b W' (.slice (some ⟨b, 0, none⟩) x.length c) (swapV u v x) ∧ Gr [b] W W' := by
  have Hx := hid hx
  have hxl : x.length ≤ 9223372036854775807 := by obtain ⟨_, _, e, ⟨h1, h2, _⟩, _⟩ := hx; omega
  have Hpu := hid hpu; have Hpv := hid hpv
  clear hx hpu hpv
  go_enter Try.func48, Try.ntmps48
  go_wp2_with fail
  go_loopw [8] (fun i wr => ∃ n : Nat, n ≤ x.length ∧ i = .int .i64 n ∧ InB b wr (.slice (some ⟨b, 0, none⟩) x.length c) ((x.take n).map (valSw u v) ++ x.drop n) ∧ Gr [b] W wr) (fun i _ => x.length - (intOf i).toNat)
  case atStart => exact ⟨0, Nat.zero_le _, rfl, by simpa using Hx.out, Gr.refl _ _⟩
  case round =>
    obtain ⟨n, hn, rfl, hin, hg⟩ := hrel
    by_cases hlt : n < x.length
    · obtain ⟨y, hy⟩ := get_some hlt
      have hcu := hg.cell Hpu.out (by simp; exact hnu)
      have hcv := hg.cell Hpv.out (by simp; exact hnv)
      obtain ⟨_, _, e1, _, hc1, hf1⟩ := hin.at (mid_get hy)
      cases e1
      rw [Nat.zero_add] at hc1 hf1
      have hset := hin.set n (valSw u v y)
      rw [Nat.zero_add, mid_set hy] at hset
      have Hset := hid hset; have Hin := hid hin; have Hg := hid hg; have Hy := hid hy
      clear hset hin hg hy
      by_cases h1 : y = u
      · have hval : valSw u v y = v := by unfold valSw; rw [if_pos h1]
        have h1' : (y == u) = true := by simp [h1]
        have Hval := hid hval
        subst h1
        clear hval
        go_wp2_with fail
        refine ⟨⟨n + 1, by omega, by go_num, ?_, Hg.out.setCell _ _ (.inl (by simp))⟩, by simp [intOf]; omega⟩
        have := Hset.out; rwa [Hval.out] at this
      · have h1' : (y == u) = false := by simp [h1]
        by_cases h2 : y = v
        · have hval : valSw u v y = u := by unfold valSw; rw [if_neg h1, if_pos h2]
          have h2' : (y == v) = true := by simp [h2]
          have Hval := hid hval; have H1 := hid h1
          subst h2
          clear hval h1
          go_wp2_with fail
          refine ⟨⟨n + 1, by omega, by go_num, ?_, Hg.out.setCell _ _ (.inl (by simp))⟩, by simp [intOf]; omega⟩
          have := Hset.out; rwa [Hval.out] at this
        · have h2' : (y == v) = false := by simp [h2]
          have hval : valSw u v y = y := by unfold valSw; rw [if_neg h1, if_neg h2]
          have Hval := hid hval
          clear hval h1 h2
          go_wp2_with fail
          refine ⟨⟨n + 1, by omega, by go_num, ?_, Hg.out⟩, by simp [intOf]; omega⟩
          rw [← mid_same Hy.out Hval.out]; exact Hin.out
    · have e1 : (x.take n).map (valSw u v) ++ x.drop n = swapV u v x := by rw [List.take_of_length_le (by omega), drop_end (by omega), List.append_nil]; rfl
      rw [e1] at hin
      have Hin := hid hin
      clear hin e1
      go_wp2_with fail
      refine bodyPost_end (results_none rfl _ _ _) rfl ?_
      exact ⟨⟨_, rfl⟩, Hin.out, hg⟩

set_option maxRecDepth 100000 in
theorem IsValueSymmetry_c (m : Mod) (U V : Int) (mv : Value) (w : World) (hv : ModV [] w mv m) (D : List Nat) (hD : validM m = true → VM m D) :
    Calls Try.prog 19 #[mv, .int .i64 U, .int .i64 V] w fun e w' => e = .returned (.bool (vsymB m D U V)) ∧ Gr [] w w' := by
  have Hv := hid hv; have HD := hid hD
  obtain ⟨xo, xc, co, cc, rfl⟩ := hv.slices
  have h30 := heap3 w (.cells #[.slice xo m.doms.length xc, .slice co m.cons.length cc] 31) (.cells #[.int .i64 U] 3) (.cells #[.int .i64 V] 3)
  have hg0 : Gr [] w (((w.alloc (.cells #[.slice xo m.doms.length xc, .slice co m.cons.length cc] 31)).alloc (.cells #[.int .i64 U] 3)).alloc (.cells #[.int .i64 V] 3)) := (((Gr.refl [] w).alloc _).alloc _).alloc _
  have hs0 : (((w.alloc (.cells #[.slice xo m.doms.length xc, .slice co m.cons.length cc] 31)).alloc (.cells #[.int .i64 U] 3)).alloc (.cells #[.int .i64 V] 3)).heap.size = w.heap.size + 3 := by simp
  have Hg0 := hid hg0; have H30 := hid h30; have hs0 := hid hs0
  have fl0 := fld h30.1
  clear h30 hg0 hv hD
  go_enter Try.func19, Try.ntmps19
  go_wp2_with fail
  have hcall := ValidModel_c m _ _ (Hv.out.gr Hg0.out)
  (with_reducible refine hcall.mono ?_)
  clear hcall
  rintro e w1 ⟨rfl, hg1⟩
  have fl1 := fld (hg1.obj H30.out.1 (by simp))
  have fu1 : w1.cell? ⟨w.heap.size + 1, 0, none⟩ = some (.int .i64 U) := fld (hg1.obj H30.out.2.1 (by simp)) 0
  have fv1 : w1.cell? ⟨w.heap.size + 1 + 1, 0, none⟩ = some (.int .i64 V) := fld (hg1.obj H30.out.2.2 (by simp)) 0
  have hs1 := hg1.size
  have Hg1 := hid (Hg0.out.trans hg1)
  clear fl0 hg1
  cases hval : validM m
  · have Hval := hid hval; clear hval
    go_wp2_with fail
    go_ret
    exact ⟨ret_bool (by unfold vsymB; rw [Hval.out]; rfl), Hg1.out⟩
  have hVM := HD.out hval
  have Hval := hid hval; have HVM := hid hVM
  clear hval hVM
  go_wp2_with fail
  have hcall := valueOk_c U w1
  (with_reducible refine hcall.mono ?_)
  clear hcall
  rintro e w2 ⟨rfl, rfl⟩
  cases hi : inB 0 5 U
  · have Hi := hid hi; clear hi
    go_wp2_with fail
    go_ret
    exact ⟨ret_bool (by unfold vsymB; simp [Hi.out]), Hg1.out⟩
  have Hi := hid hi; clear hi
  go_wp2_with fail
  have hcall := valueOk_c V w2
  (with_reducible refine hcall.mono ?_)
  clear hcall
  rintro e w3 ⟨rfl, rfl⟩
  cases hj : inB 0 5 V
  · have Hj := hid hj; clear hj
    go_wp2_with fail
    go_ret
    exact ⟨ret_bool (by unfold vsymB; simp [Hj.out]), Hg1.out⟩
  have Hj := hid hj; clear hj
  have hss : w.heap.size + 3 ≤ w3.heap.size := by have := hs0.out; omega
  have Fu := hid fu1; have Fv := hid fv1
  go_wp2_with fail
  have hcall := preserved_c m D (swapV U V) 48 #[.pointer (some ⟨w.heap.size + 1, 0, none⟩), .pointer (some ⟨w.heap.size + 1 + 1, 0, none⟩)] _ w3 (Hv.out.gr Hg1.out) HVM.out (fun _ _ => by kernel_rfl) (swapV_ok (inB_iff.1 Hi.out) (inB_iff.1 Hj.out)) (fun x b c W hxs hgW hbW hx => vexLit_c U V x b c (w.heap.size + 1) (w.heap.size + 1 + 1) W hx (hgW.cell Fu.out (by simp)) (hgW.cell Fv.out (by simp)) (by omega) (by omega))
  (with_reducible refine hcall.mono ?_)
  clear hcall
  rintro e w4 ⟨rfl, hg4⟩
  go_wp2_with fail
  go_ret
  exact ⟨ret_bool (by unfold vsymB; simp [Hval.out, Hi.out, Hj.out]), Hg1.out.trans hg4⟩

theorem swapValues_c (x : List Int) (u v : Int) (xv : Value) (w : World) (hv : Nums [] w .i64 xv x) (hl : x.length ≤ 2000000) :
    Calls Try.prog 51 #[xv, .int .i64 u, .int .i64 v] w fun e w' => ∃ v', e = .returned v' ∧ Own w.heap.size w' 3 v' (swapV u v x) ∧ Gr [] w w' := by
  have Hv := hid hv
  obtain ⟨ao, cap, rfl, ⟨h1, h2, -⟩, -⟩ := hv
  go_enter Try.func51, Try.ntmps51
  go_wp2_with fail
  have hcall := copyInts_c _ x w Hv.out hl
  (with_reducible refine hcall.mono ?_)
  clear hcall
  rintro e w1 ⟨v1, rfl, hown, hg1⟩
  rcases Nat.eq_zero_or_pos x.length with hx0 | hx0
  · have hxe : x = [] := List.eq_nil_of_length_eq_zero hx0
    subst hxe
    have Hown := hid hown
    obtain ⟨o1, c1, rfl, -, -⟩ := hown.nums (S := []) (by simp)
    clear hown
    go_wp2_with fail
    go_loopw [8] (fun i wr => i = .int .i64 0 ∧ Gr [] w1 wr) (fun i _ => 0)
    case atStart => exact ⟨rfl, Gr.refl _ _⟩
    case round =>
      obtain ⟨rfl, hg⟩ := hrel
      go_wp2_with fail
      go_ret
      exact ⟨_, rfl, Hown.out.gr hg (by simp), hg1.trans hg⟩
  obtain ⟨g, c, rfl, ⟨hgB, hgl⟩, -, -⟩ := hown.open hx0
  have HO1 := hid hown; have HG1 := hid hg1
  clear hown hg1
  go_wp2_with fail
  go_loopw [8] (fun i wr => ∃ n : Nat, n ≤ x.length ∧ i = .int .i64 n ∧ Own w.heap.size wr 3 (.slice (some ⟨g, 0, none⟩) x.length c) ((x.take n).map (valSw u v) ++ x.drop n) ∧ Gr [g] w1 wr) (fun i _ => x.length - (intOf i).toNat)
  case atStart => exact ⟨0, Nat.zero_le _, rfl, by simpa using HO1.out, Gr.refl _ _⟩
  case round =>
    obtain ⟨n, hn, rfl, hin, hg⟩ := hrel
    have hgw : Gr [] w wr := HG1.out.step hg (fun i hi => .inr (by simp at hi; omega))
    by_cases hlt : n < x.length
    · obtain ⟨y, hy⟩ := get_some hlt
      obtain ⟨b, o, rfl, _, h0⟩ := (Hv.out.gr hgw).at hy
      obtain ⟨hc1, hf1⟩ := hin.at (mid_get (f := valSw u v) hy)
      have hset := hin.set n (valSw u v y) (by rw [List.length_append, List.length_map, List.length_take, List.length_drop]; omega)
      rw [mid_set hy] at hset
      have Hset := hid hset; have Hin := hid hin; have Hg := hid hg; have Hy := hid hy
      clear hset hin hg hy hgw
      by_cases h1 : y = u
      · have hval : valSw u v y = v := by unfold valSw; rw [if_pos h1]
        have h1' : (y == u) = true := by simp [h1]
        have Hval := hid hval
        subst h1
        clear hval
        go_wp2_with fail
        refine ⟨⟨n + 1, by omega, by go_num, ?_, Hg.out.setCell _ _ (.inl (by simp))⟩, by simp [intOf]; omega⟩
        have := Hset.out; rwa [Hval.out] at this
      · have h1' : (y == u) = false := by simp [h1]
        by_cases h2 : y = v
        · have hval : valSw u v y = u := by unfold valSw; rw [if_neg h1, if_pos h2]
          have h2' : (y == v) = true := by simp [h2]
          have Hval := hid hval; have H1 := hid h1
          subst h2
          clear hval h1
          go_wp2_with fail
          refine ⟨⟨n + 1, by omega, by go_num, ?_, Hg.out.setCell _ _ (.inl (by simp))⟩, by simp [intOf]; omega⟩
          have := Hset.out; rwa [Hval.out] at this
        · have h2' : (y == v) = false := by simp [h2]
          have hval : valSw u v y = y := by unfold valSw; rw [if_neg h1, if_neg h2]
          have Hval := hid hval
          clear hval h1 h2
          go_wp2_with fail
          refine ⟨⟨n + 1, by omega, by go_num, ?_, Hg.out⟩, by simp [intOf]; omega⟩
          rw [← mid_same Hy.out Hval.out]; exact Hin.out
    · have e1 : (x.take n).map (valSw u v) ++ x.drop n = swapV u v x := by rw [List.take_of_length_le (by omega), drop_end (by omega), List.append_nil]; rfl
      rw [e1] at hin
      have Hin := hid hin; have Hgw := hid hgw
      clear hin e1 hgw hg
      go_wp2_with fail
      go_ret
      exact ⟨_, rfl, Hin.out, Hgw.out⟩

set_option maxRecDepth 100000 in
set_option maxHeartbeats 1000000 in
theorem specIsValueSymmetry_c (m : Mod) (U V : Int) (mv : Value) (w : World) (hv : ModV [] w mv m) (hs : m.Small) (D : List Nat) (hD : validM m = true → VM m D) :
    Calls Try.prog 20 #[mv, .int .i64 U, .int .i64 V] w fun e w' => e = .returned (.bool (vsymB m D U V)) ∧ Gr [] w w' := by
  have Hv := hid hv; have HD := hid hD; have Hs := hid hs
  obtain ⟨xo, xc, co, cc, rfl⟩ := hv.slices
  have hg0 : Gr [] w (w.alloc (.cells #[.slice xo m.doms.length xc, .slice co m.cons.length cc] 31)) := (Gr.refl _ _).alloc _
  have hb0 : (w.alloc (.cells #[.slice xo m.doms.length xc, .slice co m.cons.length cc] 31)).heap[w.heap.size]? = some (.cells #[.slice xo m.doms.length xc, .slice co m.cons.length cc] 31 (0, 0)) := heap_alloc_new _ _
  have fl0 := fld hb0
  have Hg0 := hid hg0; have Hb0 := hid hb0
  clear hv hg0 hb0 hD hs
  go_enter Try.func20, Try.ntmps20
  go_wp2_with fail
  have hcall := specValidModel_c m _ _ (Hv.out.gr Hg0.out) Hs.out
  (with_reducible refine hcall.mono ?_)
  clear hcall
  rintro e w1 ⟨rfl, hg1⟩
  have hb1 := hg1.obj Hb0.out (by simp)
  have fl1 := fld hb1
  have Hb1 := hid hb1; have Hg1 := hid (Hg0.out.trans hg1)
  clear fl0 hb1 hg1
  cases hval : validM m
  · have Hval := hid hval; clear hval
    go_wp2_with fail
    go_ret
    exact ⟨ret_bool (by unfold vsymB; rw [Hval.out]; rfl), Hg1.out⟩
  have hVM := HD.out hval
  have Hval := hid hval; have HVM := hid hVM
  clear hval hVM
  go_wp2_with fail
  have hcall := inRange_c U 0 5 w1
  (with_reducible refine hcall.mono ?_)
  clear hcall
  rintro e w2 ⟨rfl, rfl⟩
  cases hi : inB 0 5 U
  · have Hi := hid hi; clear hi
    go_wp2_with fail
    go_ret
    exact ⟨ret_bool (by unfold vsymB; simp [Hi.out]), Hg1.out⟩
  have Hi := hid hi
  clear hi
  go_wp2_with fail
  have hcall := inRange_c V 0 5 w2
  (with_reducible refine hcall.mono ?_)
  clear hcall
  rintro e w3 ⟨rfl, rfl⟩
  cases hj : inB 0 5 V
  · have Hj := hid hj; clear hj
    go_wp2_with fail
    go_ret
    exact ⟨ret_bool (by unfold vsymB; simp [Hj.out]), Hg1.out⟩
  have Hj := hid hj
  clear hj
  go_wp2_with fail
  have hcall := solve_c m D 4096 _ w3 (Hv.out.gr Hg1.out) HVM.out (by omega) (by omega)
  rw [show ((4096 : Nat) : Int) = 4096 from rfl] at hcall
  (with_reducible refine hcall.mono ?_)
  clear hcall
  rintro e w4 ⟨v4, nd, rfl, hown4, hg4⟩
  rw [all_sols m D HVM.out] at hown4
  obtain ⟨zs, hz⟩ : ∃ zs, zs = sols m.cons D := ⟨_, rfl⟩
  rw [← hz] at hown4
  have Hz := hid hz
  have Hl := hid (hown4.rows (S := []) (by simp))
  have Hb4 := hid (hg4.obj Hb1.out (by simp))
  have fl4 := fld Hb4.out
  have Hg4 := hid (Hg1.out.trans hg4)
  obtain ⟨ro, rc, rfl, hl1, hl2, -⟩ := hown4.slice
  clear hown4 hg4 fl1 hz
  have hu := inB_iff.1 Hi.out
  have hv' := inB_iff.1 Hj.out
  go_wp2_with fail
  go_loopw [9] (fun i' wr => ∃ n : Nat, n ≤ zs.length ∧ i' = .int .i64 n ∧ (∀ x ∈ zs.take n, isB m.cons D (swapV U V x) = true) ∧ Gr [] w4 wr) (fun i' _ => zs.length - (intOf i').toNat)
  case atStart => exact ⟨0, Nat.zero_le _, rfl, by simp, Gr.refl _ _⟩
  case round =>
    obtain ⟨n, hn, rfl, hok, hg⟩ := hrel
    have Hok := hid hok; clear hok
    have flr := fld (hg.obj Hb4.out (by simp))
    by_cases hlt : n < zs.length
    · obtain ⟨x, hx⟩ := get_some hlt
      have hxs : x ∈ sols m.cons D := by rw [← Hz.out]; exact List.mem_of_getElem? hx
      obtain ⟨b, o, u, rfl, hc0, hn0⟩ := (Hl.out.gr hg).at0 hx
      have hbr := hg.obj Hb4.out (by simp)
      have HS : Hid (∀ w', Gr [] wr w' → (w'.cell? ⟨w.heap.size, 0, none⟩ = some (.slice xo m.doms.length xc) ∧ w'.cell? ⟨w.heap.size, 1, none⟩ = some (.slice co m.cons.length cc) ∧ w'.cell? ⟨b, o + n, none⟩ = some u) ∧ Gr [] wr w') :=
        hid fun w' h => ⟨⟨fld (h.obj hbr (by simp)) 0, fld (h.obj hbr (by simp)) 1, h.cell hc0 (by simp)⟩, h⟩
      have hxl : x.length = D.length := tups_len (mem_sols.1 hxs).1
      have hx4 : x.length ≤ 2000000 := by have := HVM.out.len.2; omega
      have Hn0 := hid hn0; have Hx := hid hx; have Hxs := hid hxs; have Hgi := hid hg; have Hxl := hid hxl
      have HT := hid (swapV_ok (cs := m.cons) (D := D) hu hv' x hxs)
      have Hm := hid ((Hv.out.gr Hg4.out).gr hg)
      clear hn0 hx hxs hg hbr hxl fl4 hu hv'
      go_wp2_with fail
      go_region_held3 (fun w' => (w'.cell? ⟨w.heap.size, 0, none⟩ = some (.slice xo m.doms.length xc) ∧ w'.cell? ⟨w.heap.size, 1, none⟩ = some (.slice co m.cons.length cc) ∧ w'.cell? ⟨b, o + n, none⟩ = some u) ∧ Gr [] wr w')
        (first | exact HS.out _ ((Gr.refl [] _).drew) | (go_split_ands; exact HS.out _ (Gr.trans (by assumption) hg3)) | (go_split_ands; exact HS.out _ (Gr.trans (by assumption) hg2)))
        (first
          | (go_at_call 51; go_split_ands; refine (swapValues_c x U V _ _ (Hn0.out.gr (by assumption)) hx4).mono ?_; rintro e w2 ⟨v2, rfl, hown2, hg2⟩)
          | (go_at_call 50; go_split_ands; refine (specIsSolution_c m D (swapV U V x) _ _ _ (Hm.out.gr (by assumption)) HVM.out (hown2.nums (by simp)) (HT.out.1.trans Hxl.out) HT.out.2).mono ?_; rintro e w3 ⟨rfl, hg3⟩))
      all_goals
        cases hsat : isB m.cons D (swapV U V x)
        · have Hsat := hid hsat
          clear hsat
          go_wp2_with fail
          go_ret
          exact ⟨ret_bool (by symm; unfold vsymB; simp only [Hval.out, Hi.out, Hj.out, Bool.and_self, Bool.true_and]; unfold presB; rw [List.all_eq_false]; exact ⟨x, Hxs.out, by rw [Hsat.out]; simp⟩), (Hg4.out.trans Hgi.out).trans (Gr.trans (by assumption) hg3)⟩
        · have Hsat := hid hsat
          clear hsat
          go_wp2_with fail
          refine ⟨⟨n + 1, by omega, by go_num, ?_, Hgi.out.trans (Gr.trans (by assumption) hg3)⟩, by simp [intOf]; omega⟩
          intro y hy
          rw [List.take_add_one, Hx.out] at hy
          rcases List.mem_append.1 hy with h | h
          · exact Hok.out y h
          · simp at h; subst h; exact Hsat.out
    · have hall : presB m.cons D (swapV U V) = true := by
        unfold presB
        rw [List.all_eq_true]
        have := Hok.out
        rwa [List.take_of_length_le (by omega), Hz.out] at this
      have Hall := hid hall; have Hgi := hid hg
      clear hg hall
      go_wp2_with fail
      go_ret
      exact ⟨ret_bool (by unfold vsymB; simp [Hval.out, Hi.out, Hj.out, Hall.out]), Hg4.out.trans Hgi.out⟩
end Go.Proofs.Ytjmjjdgbkibdaaa
