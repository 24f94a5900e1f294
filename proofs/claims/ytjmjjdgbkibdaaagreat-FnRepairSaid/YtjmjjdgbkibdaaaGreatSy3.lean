/-
  Walks of the symmetries of variables and of values: the program's and the reference's.
-/
import Derived.Test.YtjmjjdgbkibdaaaGreatSy2
import Derived.Test.YtjmjjdgbkibdaaaGreatEH
set_option linter.unusedVariables false
namespace Go.Proofs.YtjmjjdgbkibdaaaGreat
open Go.RowKit

def symB (m : Mod) (D : List Nat) (i j : Int) : Bool := (validM m && allB 0 ((m.doms.length : Int) - 1) [i, j]) && presB m.cons D (swapL i.toNat j.toNat)
theorem swap_ok {D : List Nat} {cs : List Con} {i j : Nat} (hi : i < D.length) (hj : j < D.length) : ∀ x ∈ sols cs D, (swapL i j x).length = x.length ∧ ∀ y ∈ swapL i j x, 0 ≤ y ∧ y ≤ 5 := fun x hx => by
  have hin := (mem_sols.1 hx).1
  have hl := tups_len hin
  exact ⟨swapL_len _ _ _, fun y hy => tups_val hin y (swapL_mem (by omega) (by omega) hy)⟩

set_option maxRecDepth 100000 in
theorem exchangeable_c (m : Mod) (D : List Nat) (i j : Nat) (mv : Value) (w : World) (hv : ModV [] w mv m) (hVM : VM m D) (hi : i < D.length) (hj : j < D.length) :
    Calls Tryz.prog 132 #[mv, .int .i64 i, .int .i64 j] w fun e w' => e = .returned (.bool (presB m.cons D (swapL i j))) ∧ Gr [] w w' := by
  have Hv := hid hv; have HVM := hid hVM
  obtain ⟨xo, xc, co, cc, rfl⟩ := hv.slices
  clear hv hVM
  go_enter Tryz.func132, Tryz.ntmps132
  have h30 := heap3 w (.cells #[.slice xo m.doms.length xc, .slice co m.cons.length cc] 31) (.cells #[.int .i64 i] 3) (.cells #[.int .i64 j] 3)
  have hg0 : Gr [] w (((w.alloc (.cells #[.slice xo m.doms.length xc, .slice co m.cons.length cc] 31)).alloc (.cells #[.int .i64 i] 3)).alloc (.cells #[.int .i64 j] 3)) := (((Gr.refl [] w).alloc _).alloc _).alloc _
  have hs0 : (((w.alloc (.cells #[.slice xo m.doms.length xc, .slice co m.cons.length cc] 31)).alloc (.cells #[.int .i64 i] 3)).alloc (.cells #[.int .i64 j] 3)).heap.size = w.heap.size + 3 := by simp
  have Hg0 := hid hg0; have H30 := hid h30; have hs0 := hid hs0
  have fl0 := fld h30.1
  clear h30 hg0
  go_wp2_with fail
  have hcall := preserved_c m D (swapL i j) 182 #[.pointer (some ⟨w.heap.size + 2, 0, none⟩), .pointer (some ⟨w.heap.size + 1, 0, none⟩)] _ _ (Hv.out.gr Hg0.out) HVM.out (fun _ _ => by kernel_rfl) (swap_ok hi hj) (fun x b c W hxs hgW hbW hx => exchLit_c i j x b c (w.heap.size + 1) (w.heap.size + 2) W (by rw [tups_len (mem_sols.1 hxs).1]; exact hi) (by rw [tups_len (mem_sols.1 hxs).1]; exact hj) hx (fld (hgW.obj H30.out.2.1 (by simp)) 0) (fld (hgW.obj H30.out.2.2 (by simp)) 0) (by have := hs0.out; omega) (by have := hs0.out; omega))
  (with_reducible refine hcall.mono ?_)
  clear hcall
  rintro e w2 ⟨rfl, hg2⟩
  go_wp2_with fail
  go_ret
  exact ⟨rfl, Hg0.out.trans hg2⟩

theorem varsIn_c (m : Mod) (vs : List Int) (mv vv : Value) (w : World) (hv : ModV [] w mv m) (hx : Nums [] w .i64 vv vs) :
    Calls Tryz.prog 131 #[mv, vv] w fun e w' => e = .returned (.bool (validM m && allB 0 ((m.doms.length : Int) - 1) vs)) ∧ Gr [] w w' := by
  have Hv := hid hv; have Hx := hid hx
  obtain ⟨xo, xc, co, cc, rfl⟩ := hv.slices
  obtain ⟨vo, vc, rfl, -, -⟩ := hx
  have hdl : m.doms.length ≤ 9223372036854775807 := by obtain ⟨dv, cv, e, ⟨a, b, e2, ⟨h1, h2, _⟩, _⟩, _⟩ := hv; omega
  have hg0 : Gr [] w (w.alloc (.cells #[.slice xo m.doms.length xc, .slice co m.cons.length cc] 31)) := (Gr.refl _ _).alloc _
  have hb0 : (w.alloc (.cells #[.slice xo m.doms.length xc, .slice co m.cons.length cc] 31)).heap[w.heap.size]? = some (.cells #[.slice xo m.doms.length xc, .slice co m.cons.length cc] 31 (0, 0)) := heap_alloc_new _ _
  have fl0 := fld hb0
  have Hg0 := hid hg0; have Hb0 := hid hb0
  clear hv hg0 hb0
  go_enter Tryz.func131, Tryz.ntmps131
  go_wp2_with fail
  have hcall := ValidModel_c m _ _ (Hv.out.gr Hg0.out)
  (with_reducible refine hcall.mono ?_)
  clear hcall
  rintro e w1 ⟨rfl, hg1⟩
  have fl1 := fld (hg1.obj Hb0.out (by simp))
  have Hg1 := hid (Hg0.out.trans hg1)
  clear fl0 hg1
  cases hb : validM m
  · have Hb := hid hb; clear hb
    go_wp2_with fail
    go_ret
    exact ⟨ret_bool (by first | rfl | (rw [Hb.out]; rfl)), Hg1.out⟩
  · have Hb := hid hb; clear hb
    go_wp2_with fail
    have hcall := allIn_c vs 0 ((m.doms.length : Int) - 1) _ w1 (Hx.out.gr Hg1.out)
    (with_reducible refine hcall.mono ?_)
    clear hcall
    rintro e w2 ⟨rfl, hg2⟩
    go_wp2_with fail
    go_ret
    exact ⟨ret_bool (by first | rfl | (rw [Hb.out]; rfl)), Hg1.out.trans hg2⟩

set_option maxRecDepth 100000 in
theorem IsVariableSymmetry_c (m : Mod) (I J : Int) (mv : Value) (w : World) (hv : ModV [] w mv m) (D : List Nat) (hD : validM m = true → VM m D) :
    Calls Tryz.prog 60 #[mv, .int .i64 I, .int .i64 J] w fun e w' => e = .returned (.bool (symB m D I J)) ∧ Gr [] w w' := by
  have Hv := hid hv; have HD := hid hD
  obtain ⟨xo, xc, co, cc, rfl⟩ := hv.slices
  have hg0 : Gr [] w (w.alloc (.cells #[.slice xo m.doms.length xc, .slice co m.cons.length cc] 31)) := (Gr.refl _ _).alloc _
  have hb0 : (w.alloc (.cells #[.slice xo m.doms.length xc, .slice co m.cons.length cc] 31)).heap[w.heap.size]? = some (.cells #[.slice xo m.doms.length xc, .slice co m.cons.length cc] 31 (0, 0)) := heap_alloc_new _ _
  have fl0 := fld (((Gr.refl [] _).alloc (.cells #[.int .i64 I, .int .i64 J] 3)).obj hb0 (by simp))
  have fl00 := fld hb0
  have Hg0 := hid hg0; have Hb0 := hid hb0
  have hnum : Nums [] ((w.alloc (.cells #[.slice xo m.doms.length xc, .slice co m.cons.length cc] 31)).alloc (.cells #[.int .i64 I, .int .i64 J] 3)) .i64 (.slice (some ⟨w.heap.size + 1, 0, none⟩) 2 2) [I, J] := by
    have h := nums_new (w.alloc (.cells #[.slice xo m.doms.length xc, .slice co m.cons.length cc] 31)) 3 [I, J] (S := []) (by simp)
    rw [World.size_alloc] at h; exact h
  have Hnum := hid hnum
  clear hv hg0 hb0 hD hnum
  go_enter Tryz.func60, Tryz.ntmps60
  go_wp2_with fail
  have hcall := varsIn_c m [I, J] _ _ _ ((Hv.out.gr Hg0.out).gr ((Gr.refl _ _).alloc _)) Hnum.out
  (with_reducible refine hcall.mono ?_)
  clear hcall
  rintro e w1 ⟨rfl, hg1⟩
  have Hg1 := hid ((Hg0.out.alloc _).trans hg1)
  have fl1 := fld (hg1.obj (((Gr.refl [] _).alloc _).obj Hb0.out (by simp)) (by simp))
  cases hb : (validM m && allB 0 ((m.doms.length : Int) - 1) [I, J])
  · have Hb := hid hb; clear hb
    go_wp2_with fail
    go_ret
    exact ⟨ret_bool (by unfold symB; rw [Hb.out]; rfl), Hg1.out⟩
  · have Hb := hid hb
    rw [Bool.and_eq_true] at hb
    have hVM := HD.out hb.1
    have hij := allB_iff.1 hb.2
    have hi := hij I (by simp)
    have hj := hij J (by simp)
    have hdl : m.doms.length = D.length := by rw [hVM.doms, ints_len]
    obtain ⟨i, rfl⟩ := Int.eq_ofNat_of_zero_le hi.1
    obtain ⟨j, rfl⟩ := Int.eq_ofNat_of_zero_le hj.1
    have hi' : i < D.length := by omega
    have hj' : j < D.length := by omega
    have HVM := hid hVM
    clear hb hVM hij hi hj hdl fl0 fl00
    go_wp2_with fail
    have hcall := exchangeable_c m D i j _ w1 (Hv.out.gr Hg1.out) HVM.out hi' hj'
    (with_reducible refine hcall.mono ?_)
    clear hcall
    rintro e w2 ⟨rfl, hg2⟩
    go_wp2_with fail
    go_ret
    exact ⟨ret_bool (by unfold symB; rw [Hb.out]; rfl), Hg1.out.trans hg2⟩

theorem swapVars_c (x : List Int) (i j : Nat) (v : Value) (w : World) (hv : Nums [] w .i64 v x) (hl : x.length ≤ 2000000) (hi : i < x.length) (hj : j < x.length) :
    Calls Tryz.prog 192 #[v, .int .i64 i, .int .i64 j] w fun e w' => ∃ v', e = .returned v' ∧ Own w.heap.size w' 3 v' (swapL i j x) ∧ Gr [] w w' := by
  obtain ⟨xi, hxi⟩ := get_some hi
  obtain ⟨xj, hxj⟩ := get_some hj
  have Hv := hid hv
  obtain ⟨ao, cap, rfl, ⟨h1, h2, -⟩, -⟩ := hv
  have Hxi := hid hxi; have Hxj := hid hxj
  clear hxi hxj
  go_enter Tryz.func192, Tryz.ntmps192
  go_wp2_with fail
  have hcall := copyInts_c _ x w Hv.out hl
  (with_reducible refine hcall.mono ?_)
  clear hcall
  rintro e w1 ⟨v1, rfl, hown, hg1⟩
  obtain ⟨g, c, rfl, ⟨hgB, _⟩, hcell, hfr⟩ := hown.open (by omega)
  obtain ⟨bi, oi, e1, _, hci⟩ := (Hv.out.gr hg1).at Hxi.out
  obtain ⟨bj, oj, e2, _, hcj⟩ := (Hv.out.gr hg1).at Hxj.out
  have e3 := e1.symm.trans e2
  simp only [Option.some.injEq, Addr.mk.injEq, and_true] at e3
  obtain ⟨rfl, rfl⟩ := e3
  subst e1
  have hblt : bi < w.heap.size := by
    obtain ⟨bi', oi', e9, _, hc9⟩ := Hv.out.at Hxi.out
    cases e9
    exact World.block_lt_of_cell? w _ hc9
  have hgb : g ≠ bi := by omega
  have hc1 := hcell i xi Hxi.out
  have hc2 := hcell j xj Hxj.out
  have hf1 := hfr i; have hf2 := hfr j
  have hci2 : (w1.setCell ⟨g, i, none⟩ (.int .i64 xj)).cell? ⟨bi, oi + i, none⟩ = some (.int .i64 xi) := (World.cell?_setCell_far _ _ _ _ hgb).trans hci
  have hs0 := hown.set i xj hi
  have hxj' : (x.set i xj)[j]? = some xj := by
    by_cases hij : i = j
    · subst hij; rw [List.getElem?_set_self hi]
    · rw [List.getElem?_set_ne hij]; exact Hxj.out
  have hc3 := (hs0.at hxj').1
  have hs1 := hs0.set j xi (by simpa using hj)
  have e4 : (x.set i xj).set j xi = swapL i j x := by unfold swapL; rw [List.getD_eq_getElem?_getD, List.getD_eq_getElem?_getD, Hxi.out, Hxj.out]; rfl
  rw [e4] at hs1
  have Hs := hid hs1; have Hg1 := hid hg1
  have hgw : w.heap.size ≤ g := hgB
  clear hown hcell hfr hs0 hxj' hs1 e4 hg1 hgB e2
  go_wp2_with fail
  go_ret
  exact ⟨_, rfl, Hs.out, (Hg1.out.setCell _ _ (.inr hgw)).setCell _ _ (.inr hgw)⟩

set_option maxRecDepth 100000 in
set_option maxHeartbeats 1000000 in
theorem isVarSymmetry_c (m : Mod) (D : List Nat) (i j : Nat) (mv lv : Value) (w : World) (hv : ModV [] w mv m) (hVM : VM m D) (hl : RowsV [] w lv (sols m.cons D)) (hi : i < D.length) (hj : j < D.length) :
    Calls Tryz.prog 146 #[mv, lv, .int .i64 i, .int .i64 j] w fun e w' => e = .returned (.bool (presB m.cons D (swapL i j))) ∧ Gr [] w w' := by
  have Hv := hid hv; have HVM := hid hVM
  obtain ⟨xo, xc, co, cc, rfl⟩ := hv.slices
  obtain ⟨zs, hz⟩ : ∃ zs, zs = sols m.cons D := ⟨_, rfl⟩
  rw [← hz] at hl
  have Hz := hid hz
  have hg0 : Gr [] w (w.alloc (.cells #[.slice xo m.doms.length xc, .slice co m.cons.length cc] 31)) := (Gr.refl _ _).alloc _
  have hb0 : (w.alloc (.cells #[.slice xo m.doms.length xc, .slice co m.cons.length cc] 31)).heap[w.heap.size]? = some (.cells #[.slice xo m.doms.length xc, .slice co m.cons.length cc] 31 (0, 0)) := heap_alloc_new _ _
  have Hg0 := hid hg0; have Hb0 := hid hb0
  have Hl := hid (hl.gr hg0)
  obtain ⟨lo, lc, rfl, ⟨hl1, hl2, -⟩, -⟩ := hl
  have fl0 := fld hb0
  clear hv hg0 hb0 hVM hz
  go_enter Tryz.func146, Tryz.ntmps146
  go_wp2_with fail
  go_loopw [9] (fun i' wr => ∃ n : Nat, n ≤ zs.length ∧ i' = .int .i64 n ∧ (∀ x ∈ zs.take n, isB m.cons D (swapL i j x) = true) ∧ Gr [] (w.alloc (.cells #[.slice xo m.doms.length xc, .slice co m.cons.length cc] 31)) wr) (fun i' _ => zs.length - (intOf i').toNat)
  case atStart => exact ⟨0, Nat.zero_le _, rfl, by simp, Gr.refl _ _⟩
  case round =>
    obtain ⟨n, hn, rfl, hok, hg⟩ := hrel
    have Hok := hid hok; clear hok
    have flr := fld (hg.obj Hb0.out (by simp))
    by_cases hlt : n < zs.length
    · obtain ⟨x, hx⟩ := get_some hlt
      have hxs : x ∈ sols m.cons D := by rw [← Hz.out]; exact List.mem_of_getElem? hx
      obtain ⟨b, o, u, rfl, hc0, hn0⟩ := (Hl.out.gr hg).at0 hx
      have hbr := hg.obj Hb0.out (by simp)
      have HS : Hid (∀ w', Gr [] wr w' → (w'.cell? ⟨w.heap.size, 0, none⟩ = some (.slice xo m.doms.length xc) ∧ w'.cell? ⟨w.heap.size, 1, none⟩ = some (.slice co m.cons.length cc) ∧ w'.cell? ⟨b, o + n, none⟩ = some u) ∧ Gr [] wr w') :=
        hid fun w' h => ⟨⟨fld (h.obj hbr (by simp)) 0, fld (h.obj hbr (by simp)) 1, h.cell hc0 (by simp)⟩, h⟩
      have hxl : x.length = D.length := tups_len (mem_sols.1 hxs).1
      have hi' : i < x.length := by omega
      have hj' : j < x.length := by omega
      have hx4 : x.length ≤ 2000000 := by have := HVM.out.len.2; omega
      have Hn0 := hid hn0; have Hx := hid hx; have Hxs := hid hxs; have Hgi := hid hg; have Hxl := hid hxl
      have HT := hid (swap_ok (cs := m.cons) hi hj x hxs)
      have Hm := hid ((Hv.out.gr Hg0.out).gr hg)
      clear hn0 hx hxs hg hbr hxl fl0
      go_wp2_with fail
      go_region_held3 (fun w' => (w'.cell? ⟨w.heap.size, 0, none⟩ = some (.slice xo m.doms.length xc) ∧ w'.cell? ⟨w.heap.size, 1, none⟩ = some (.slice co m.cons.length cc) ∧ w'.cell? ⟨b, o + n, none⟩ = some u) ∧ Gr [] wr w')
        (first | exact HS.out _ ((Gr.refl [] _).drew) | (go_split_ands; exact HS.out _ (Gr.trans (by assumption) hg3)) | (go_split_ands; exact HS.out _ (Gr.trans (by assumption) hg2)))
        (first
          | (go_at_call 192; go_split_ands; refine (swapVars_c x i j _ _ (Hn0.out.gr (by assumption)) hx4 hi' hj').mono ?_; rintro e w2 ⟨v2, rfl, hown2, hg2⟩)
          | (go_at_call 101; go_split_ands; refine (specIsSolution_c m D (swapL i j x) _ _ _ (Hm.out.gr (by assumption)) HVM.out (hown2.nums (by simp)) (HT.out.1.trans Hxl.out) HT.out.2).mono ?_; rintro e w3 ⟨rfl, hg3⟩))
      all_goals
        cases hsat : isB m.cons D (swapL i j x)
        · have Hsat := hid hsat
          clear hsat
          go_wp2_with fail
          go_ret
          exact ⟨ret_bool (by symm; unfold presB; rw [List.all_eq_false]; exact ⟨x, Hxs.out, by rw [Hsat.out]; simp⟩), (Hg0.out.trans Hgi.out).trans (Gr.trans (by assumption) hg3)⟩
        · have Hsat := hid hsat
          clear hsat
          go_wp2_with fail
          refine ⟨⟨n + 1, by omega, by go_num, ?_, Hgi.out.trans (Gr.trans (by assumption) hg3)⟩, by simp [intOf]; omega⟩
          intro y hy
          rw [List.take_add_one, Hx.out] at hy
          rcases List.mem_append.1 hy with h | h
          · exact Hok.out y h
          · simp at h; subst h; exact Hsat.out
    · have hall : presB m.cons D (swapL i j) = true := by
        unfold presB
        rw [List.all_eq_true]
        have := Hok.out
        rwa [List.take_of_length_le (by omega), Hz.out] at this
      have Hall := hid hall; have Hgi := hid hg
      clear hg hall
      go_wp2_with fail
      go_ret
      exact ⟨ret_bool Hall.out.symm, Hg0.out.trans Hgi.out⟩
end Go.Proofs.YtjmjjdgbkibdaaaGreat
