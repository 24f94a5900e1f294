/-
  Walks of the orbits of variables: the program's and the reference's.
-/
import Derived.Test.YtjmjjdgbkibdaaaGreatSy4
set_option linter.unusedVariables false
namespace Go.Proofs.YtjmjjdgbkibdaaaGreat
open Go.RowKit

def orb (cs : List Con) (D : List Nat) (i : Nat) : Nat := ((List.range (i + 1)).find? (fun j => presB cs D (swapL j i))).getD i
def orbs (cs : List Con) (D : List Nat) (n : Nat) : List Int := (List.range n).map fun i => (orb cs D i : Int)
def orbsO (m : Mod) (D : List Nat) : Option (List Int) := if validM m then some (orbs m.cons D D.length) else none
theorem swapL_self (i : Nat) (x : List Int) : swapL i i x = x := by
  unfold swapL
  rw [List.set_set]
  refine List.ext_getElem? fun j => ?_
  by_cases h : i = j
  · subst h
    by_cases hl : i < x.length
    · rw [List.getElem?_set_self hl, List.getElem?_eq_getElem hl, List.getD_eq_getElem?_getD, List.getElem?_eq_getElem hl]; rfl
    · rw [List.getElem?_eq_none (by simp; omega), List.getElem?_eq_none (by omega)]
  · rw [List.getElem?_set_ne h]
theorem presB_self (cs : List Con) (D : List Nat) (i : Nat) : presB cs D (swapL i i) = true := by
  unfold presB
  rw [List.all_eq_true]
  intro x hx
  rw [swapL_self]
  exact decide_eq_true hx
theorem find_range {p : Nat → Bool} {n j : Nat} (hj : j < n) (h0 : ∀ k, k < j → p k = false) (hp : p j = true) : (List.range n).find? p = some j := by
  induction n with
  | zero => omega
  | succ n ih =>
    rw [List.range_succ, List.find?_append]
    by_cases h : j < n
    · rw [ih h]; rfl
    · have : j = n := by omega
      subst this
      have : (List.range j).find? p = none := by
        rw [List.find?_eq_none]
        intro k hk
        rw [h0 k (List.mem_range.1 hk)]; simp
      rw [this]; simp [hp]
theorem orb_at {cs : List Con} {D : List Nat} {i j : Nat} (hj : j ≤ i) (h0 : ∀ k, k < j → presB cs D (swapL k i) = false) (hp : presB cs D (swapL j i) = true) : orb cs D i = j := by
  unfold orb; rw [find_range (by omega) h0 hp]; rfl
theorem orbs_succ (cs : List Con) (D : List Nat) (n : Nat) : orbs cs D (n + 1) = orbs cs D n ++ [(orb cs D n : Int)] := by simp [orbs, List.range_succ]
theorem orbs_zero (cs : List Con) (D : List Nat) : orbs cs D 0 = [] := by simp [orbs]
theorem orbs_len (cs : List Con) (D : List Nat) (n : Nat) : (orbs cs D n).length = n := by simp [orbs]
theorem orbsO_len (m : Mod) (D : List Nat) (hD : validM m = true → VM m D) : ((orbsO m D).getD []).length ≤ 1000000 := by
  unfold orbsO
  cases h : validM m
  · simp
  · simp only [if_true, Option.getD_some, orbs_len]; have := (hD h).len.2; omega

set_option maxRecDepth 100000 in
set_option maxHeartbeats 1000000 in
theorem orbits_c (m : Mod) (D : List Nat) (mv : Value) (w : World) (hv : ModV [] w mv m) (hVM : VM m D) :
    Calls Tryz.prog 96 #[mv] w fun e w' => ∃ v', e = .returned v' ∧ Own w.heap.size w' 3 v' (orbs m.cons D D.length) ∧ Gr [] w w' := by
  have HVM := hid hVM
  obtain ⟨xo, xc, co, cc, rfl⟩ := hv.slices
  have hdd : m.doms.length = D.length := by rw [hVM.doms, ints_len]
  have hd1 := hVM.len.1; have hd4 := hVM.len.2
  rw [hdd] at hv ⊢
  have Hv := hid hv
  have hg0 : Gr [] w (w.alloc (.cells #[.slice xo D.length xc, .slice co m.cons.length cc] 31)) := (Gr.refl _ _).alloc _
  have hb0 : (w.alloc (.cells #[.slice xo D.length xc, .slice co m.cons.length cc] 31)).heap[w.heap.size]? = some (.cells #[.slice xo D.length xc, .slice co m.cons.length cc] 31 (0, 0)) := heap_alloc_new _ _
  have fl0 := fld hb0
  have Hg0 := hid hg0; have Hb0 := hid hb0
  clear hv hg0 hb0 hVM hdd
  go_enter Tryz.func96, Tryz.ntmps96
  go_wp2_with (at_make; refine wp_mk0 rfl _ _ 22 rfl (w.heap.size + 1) 3 infoI Tryz.underlying22 D.length rfl rfl (by omega) (by simp) ?_; intro w1 hown1 hg1; have HO1 := hid hown1; have HG1 := hid (Hg0.out.trans hg1); have HB1 := hid (hg1.obj Hb0.out (by simp)); have fl1 := fld (hg1.obj Hb0.out (by simp)); clear hown1 hg1)
  clear fl0
  go_loopw [3, 13] (fun v i wr => ∃ n : Nat, n ≤ D.length ∧ i = .int .i64 n ∧ Own (w.heap.size + 1) wr 3 v (orbs m.cons D n) ∧ wr.heap[w.heap.size]? = some (.cells #[.slice xo D.length xc, .slice co m.cons.length cc] 31 (0, 0)) ∧ Gr [] w wr) (fun _ i _ => D.length - (intOf i).toNat)
  case atStart => exact ⟨0, Nat.zero_le _, rfl, by rw [orbs_zero]; simpa using HO1.out, HB1.out, HG1.out⟩
  case round =>
    obtain ⟨n, hn, rfl, hown, hbx, hg⟩ := hrel
    have flr := fld hbx
    have Hown := hid hown; have Hg := hid hg; have Hbx := hid hbx
    clear hown hg hbx fl1
    by_cases hlt : n < D.length
    · generalize wr = wo at *
      go_wp2_with fail
      go_loopw [5] (fun j wq => ∃ k : Nat, k ≤ n ∧ j = .int .i64 k ∧ (∀ i, i < k → presB m.cons D (swapL i n) = false) ∧ Gr [] wo wq) (fun j _ => n - (intOf j).toNat)
      case atStart => exact ⟨0, Nat.zero_le _, rfl, fun i hi => by omega, Gr.refl _ _⟩
      case round =>
        obtain ⟨k, hk, rfl, hno, hgi⟩ := hrel
        have Hno := hid hno; have Hgi := hid hgi
        have fli := fld (hgi.obj Hbx.out (by simp))
        have hs := Hg.out.size; have hsi := hgi.size
        clear hno hgi flr
        go_wp2_with fail
        have hcall := exchangeable_c m D k n _ wr (Hv.out.gr (Hg.out.trans Hgi.out)) HVM.out (by omega) (by omega)
        (with_reducible refine hcall.mono ?_)
        clear hcall
        rintro e w5 ⟨rfl, hg5⟩
        have Hg5 := hid hg5
        have hs5 := hg5.size
        clear hg5
        cases hp : presB m.cons D (swapL k n)
        · have hkn : k ≠ n := by rintro rfl; rw [presB_self] at hp; cases hp
          have Hp := hid hp
          clear hp
          go_wp2_with fail
          refine ⟨⟨k + 1, by omega, by go_num, fun i hi => ?_, Hgi.out.trans Hg5.out⟩, by simp [intOf]; omega⟩
          by_cases h : i < k
          · exact Hno.out i h
          · have : i = k := by omega
            subst this; exact Hp.out
        · have Ho := hid (orb_at hk Hno.out hp)
          have HO5 := hid ((Hown.out.gr Hgi.out (by simp)).gr Hg5.out (by simp))
          have hol := orbs_len m.cons D n
          have Hol := hid hol
          have hol2 : (orbs m.cons D n).length ≤ 1000000000000 := by omega
          have Hb5 := hid ((Hgi.out.trans Hg5.out).obj Hbx.out (by simp))
          have hn64 : (k : Int) ≤ 4 := by omega
          clear hol hp fli
          go_wp2_with (at_builtin; refine wp_app1 rfl _ _ 22 rfl (w.heap.size + 1) 3 infoI Tryz.underlying22 _ (orbs m.cons D n) rfl (HO5.out.alloc _) _ 1 k rfl (cell_one _ _ _) hol2 (by simp; omega) ?_; intro v' w6 hown6 hb6; have HO6 := hid hown6; have HB6 := hid hb6; clear hown6 hb6)
          refine ⟨⟨n + 1, by omega, by go_num, ?_, ?_, ((Hg.out.trans (Hgi.out.trans Hg5.out)).alloc _).low HB6.out (by omega)⟩, by simp [intOf]; omega⟩
          · rw [orbs_succ, Ho.out]; exact HO6.out
          · exact (HB6.out.block _ (by omega)).trans (((Gr.refl [] _).alloc _).obj Hb5.out (by simp))
    · have e1 : n = D.length := by omega
      subst e1
      go_wp2_with fail
      go_ret
      exact ⟨_, rfl, Own.le (B := w.heap.size + 1) (B' := w.heap.size) Hown.out (by omega), Hg.out⟩

theorem VariableOrbits_c (m : Mod) (mv : Value) (w : World) (hv : ModV [] w mv m) (D : List Nat) (hD : validM m = true → VM m D) :
    Calls Tryz.prog 58 #[mv] w fun e w' => ∃ v', e = .returned v' ∧ NumsM (New w.heap.size w') w' v' ((orbsO m D).getD []) ∧ Gr [] w w' := by
  have Hv := hid hv; have HD := hid hD
  obtain ⟨xo, xc, co, cc, rfl⟩ := hv.slices
  have hg0 : Gr [] w (w.alloc (.cells #[.slice xo m.doms.length xc, .slice co m.cons.length cc] 31)) := (Gr.refl _ _).alloc _
  have hb0 : (w.alloc (.cells #[.slice xo m.doms.length xc, .slice co m.cons.length cc] 31)).heap[w.heap.size]? = some (.cells #[.slice xo m.doms.length xc, .slice co m.cons.length cc] 31 (0, 0)) := heap_alloc_new _ _
  have fl0 := fld hb0
  have Hg0 := hid hg0; have Hb0 := hid hb0
  clear hv hg0 hb0 hD
  go_enter Tryz.func58, Tryz.ntmps58
  go_wp2_with fail
  have hcall := ValidModel_c m _ _ (Hv.out.gr Hg0.out)
  (with_reducible refine hcall.mono ?_)
  clear hcall
  rintro e w1 ⟨rfl, hg1⟩
  have fl1 := fld (hg1.obj Hb0.out (by simp))
  have Hg1 := hid (Hg0.out.trans hg1)
  have hs1 := hg1.size
  rw [World.size_alloc] at hs1
  clear fl0 hg1
  cases hval : validM m
  · have Hval := hid hval; clear hval
    go_wp2_with fail
    go_ret
    exact ⟨_, rfl, by unfold orbsO; rw [Hval.out]; exact NumsM.nil _ _, Hg1.out⟩
  have hVM := HD.out hval
  have Hval := hid hval; have HVM := hid hVM
  clear hval hVM
  go_wp2_with fail
  have hcall := orbits_c m D _ w1 (Hv.out.gr Hg1.out) HVM.out
  (with_reducible refine hcall.mono ?_)
  clear hcall
  rintro e w2 ⟨v2, rfl, hown2, hg2⟩
  have Hown2 := hid (Own.numsM hown2)
  clear hown2
  go_wp2_with fail
  go_ret
  exact ⟨_, rfl, by unfold orbsO; rw [Hval.out]; exact Hown2.out.gr' (Gr.refl [] _) (by simp) (fun b hb h => h.le (by omega) (Nat.le_refl _)), Hg1.out.trans hg2⟩

set_option maxRecDepth 100000 in
set_option maxHeartbeats 1000000 in
theorem specOrbits_c (m : Mod) (D : List Nat) (mv lv : Value) (w : World) (hv : ModV [] w mv m) (hVM : VM m D) (hl : RowsV [] w lv (sols m.cons D)) :
    Calls Tryz.prog 94 #[mv, lv] w fun e w' => ∃ v', e = .returned v' ∧ Own w.heap.size w' 3 v' (orbs m.cons D D.length) ∧ Gr [] w w' := by
  have HVM := hid hVM; have Hl := hid hl
  obtain ⟨xo, xc, co, cc, rfl⟩ := hv.slices
  obtain ⟨lo, lc, rfl, ⟨hl1, hl2, -⟩, -⟩ := hl
  have hdd : m.doms.length = D.length := by rw [hVM.doms, ints_len]
  have hd1 := hVM.len.1; have hd4 := hVM.len.2
  rw [hdd] at hv ⊢
  have Hv := hid hv
  have hg0 : Gr [] w (w.alloc (.cells #[.slice xo D.length xc, .slice co m.cons.length cc] 31)) := (Gr.refl _ _).alloc _
  have hb0 : (w.alloc (.cells #[.slice xo D.length xc, .slice co m.cons.length cc] 31)).heap[w.heap.size]? = some (.cells #[.slice xo D.length xc, .slice co m.cons.length cc] 31 (0, 0)) := heap_alloc_new _ _
  have fl0 := fld hb0
  have Hg0 := hid hg0; have Hb0 := hid hb0
  have hob := Own.empty (w.alloc (.cells #[.slice xo D.length xc, .slice co m.cons.length cc] 31)) 3 (B := w.heap.size + 1) (by simp)
  have Hob := hid hob
  clear hv hg0 hb0 hVM hdd hob
  go_enter Tryz.func94, Tryz.ntmps94
  go_wp2_with fail
  go_loopw [5, 6] (fun v i wr => ∃ n : Nat, n ≤ D.length ∧ i = .int .i64 n ∧ Own (w.heap.size + 1) wr 3 v (orbs m.cons D n) ∧ wr.heap[w.heap.size]? = some (.cells #[.slice xo D.length xc, .slice co m.cons.length cc] 31 (0, 0)) ∧ Gr [] w wr) (fun _ i _ => D.length - (intOf i).toNat)
  case atStart => exact ⟨0, Nat.zero_le _, rfl, by rw [orbs_zero]; simpa using Hob.out, ((Gr.refl [] _).alloc _).obj Hb0.out (by simp), Hg0.out.alloc _⟩
  case round =>
    obtain ⟨n, hn, rfl, hown, hbx, hg⟩ := hrel
    have flr := fld hbx
    have Hown := hid hown; have Hg := hid hg; have Hbx := hid hbx
    clear hown hg hbx fl0
    by_cases hlt : n < D.length
    · generalize wr = wo at *
      go_wp2_with fail
      go_loopw [7] (fun j wq => ∃ k : Nat, k ≤ n ∧ j = .int .i64 k ∧ (∀ i, i < k → presB m.cons D (swapL i n) = false) ∧ Gr [] wo wq) (fun j _ => n - (intOf j).toNat)
      case atStart => exact ⟨0, Nat.zero_le _, rfl, fun i hi => by omega, Gr.refl _ _⟩
      case round =>
        obtain ⟨k, hk, rfl, hno, hgi⟩ := hrel
        have Hno := hid hno; have Hgi := hid hgi
        have fli := fld (hgi.obj Hbx.out (by simp))
        have hs := Hg.out.size; have hsi := hgi.size
        clear hno hgi flr
        go_wp2_with fail
        have hcall := isVarSymmetry_c m D k n _ _ wr (Hv.out.gr (Hg.out.trans Hgi.out)) HVM.out (Hl.out.gr (Hg.out.trans Hgi.out)) (by omega) (by omega)
        (with_reducible refine hcall.mono ?_)
        clear hcall
        rintro e w5 ⟨rfl, hg5⟩
        have Hg5 := hid hg5
        have hs5 := hg5.size
        clear hg5
        cases hp : presB m.cons D (swapL k n)
        · have hkn : k ≠ n := by rintro rfl; rw [presB_self] at hp; cases hp
          have Hp := hid hp
          clear hp
          go_wp2_with fail
          refine ⟨⟨k + 1, by omega, by go_num, fun i hi => ?_, Hgi.out.trans Hg5.out⟩, by simp [intOf]; omega⟩
          by_cases h : i < k
          · exact Hno.out i h
          · have : i = k := by omega
            subst this; exact Hp.out
        · have Ho := hid (orb_at hk Hno.out hp)
          have HO5 := hid ((Hown.out.gr Hgi.out (by simp)).gr Hg5.out (by simp))
          have hol := orbs_len m.cons D n
          have Hol := hid hol
          have hol2 : (orbs m.cons D n).length ≤ 1000000000000 := by omega
          have Hb5 := hid ((Hgi.out.trans Hg5.out).obj Hbx.out (by simp))
          have hn64 : (k : Int) ≤ 4 := by omega
          clear hol hp fli
          go_wp2_with (at_builtin; refine wp_app1 rfl _ _ 22 rfl (w.heap.size + 1) 3 infoI Tryz.underlying22 _ (orbs m.cons D n) rfl (HO5.out.alloc _) _ 1 k rfl (cell_one _ _ _) hol2 (by simp; omega) ?_; intro v' w6 hown6 hb6; have HO6 := hid hown6; have HB6 := hid hb6; clear hown6 hb6)
          refine ⟨⟨n + 1, by omega, by go_num, ?_, ?_, ((Hg.out.trans (Hgi.out.trans Hg5.out)).alloc _).low HB6.out (by omega)⟩, by simp [intOf]; omega⟩
          · rw [orbs_succ, Ho.out]; exact HO6.out
          · exact (HB6.out.block _ (by omega)).trans (((Gr.refl [] _).alloc _).obj Hb5.out (by simp))
    · have e1 : n = D.length := by omega
      subst e1
      go_wp2_with fail
      go_ret
      exact ⟨_, rfl, Own.le (B := w.heap.size + 1) (B' := w.heap.size) Hown.out (by omega), Hg.out⟩

set_option maxRecDepth 100000 in
theorem specVariableOrbits_c (m : Mod) (mv : Value) (w : World) (hv : ModV [] w mv m) (hs : m.Small) (D : List Nat) (hD : validM m = true → VM m D) :
    Calls Tryz.prog 59 #[mv] w fun e w' => ∃ v', e = .returned v' ∧ Nums [] w' .i64 v' ((orbsO m D).getD []) ∧ Gr [] w w' := by
  have Hv := hid hv; have HD := hid hD; have Hs := hid hs
  obtain ⟨xo, xc, co, cc, rfl⟩ := hv.slices
  have hg0 : Gr [] w (w.alloc (.cells #[.slice xo m.doms.length xc, .slice co m.cons.length cc] 31)) := (Gr.refl _ _).alloc _
  have hb0 : (w.alloc (.cells #[.slice xo m.doms.length xc, .slice co m.cons.length cc] 31)).heap[w.heap.size]? = some (.cells #[.slice xo m.doms.length xc, .slice co m.cons.length cc] 31 (0, 0)) := heap_alloc_new _ _
  have fl0 := fld hb0
  have Hg0 := hid hg0; have Hb0 := hid hb0
  clear hv hg0 hb0 hD hs
  go_enter Tryz.func59, Tryz.ntmps59
  go_wp2_with fail
  have hcall := specValidModel_c m _ _ (Hv.out.gr Hg0.out) Hs.out
  (with_reducible refine hcall.mono ?_)
  clear hcall
  rintro e w1 ⟨rfl, hg1⟩
  have fl1 := fld (hg1.obj Hb0.out (by simp))
  have Hb1 := hid (hg1.obj Hb0.out (by simp))
  have Hg1 := hid (Hg0.out.trans hg1)
  clear fl0 hg1
  cases hval : validM m
  · have Hval := hid hval; clear hval
    go_wp2_with fail
    go_ret
    exact ⟨_, rfl, by unfold orbsO; rw [Hval.out]; exact (Own.nil 0 _ 3).nums (by simp), Hg1.out⟩
  have hVM := HD.out hval
  have Hval := hid hval; have HVM := hid hVM
  clear hval hVM
  go_wp2_with fail
  have hcall := solve_c m D 4096 _ w1 (Hv.out.gr Hg1.out) HVM.out (by omega) (by omega)
  rw [show ((4096 : Nat) : Int) = 4096 from rfl] at hcall
  (with_reducible refine hcall.mono ?_)
  clear hcall
  rintro e w3 ⟨v3, nd, rfl, hown3, hg3⟩
  rw [all_sols m D HVM.out] at hown3
  have Hl := hid (hown3.rows (S := []) (by simp))
  obtain ⟨ro, rc, rfl, hr1, hr2, -⟩ := hown3.slice
  have fl3 := fld (hg3.obj Hb1.out (by simp))
  have Hg3 := hid (Hg1.out.trans hg3)
  clear hown3 hg3 fl1
  go_wp2_with fail
  have hcall := specOrbits_c m D _ _ w3 (Hv.out.gr Hg3.out) HVM.out Hl.out
  (with_reducible refine hcall.mono ?_)
  clear hcall
  rintro e w4 ⟨v4, rfl, hown4, hg4⟩
  have Hown4 := hid hown4
  clear hown4
  go_wp2_with fail
  go_ret
  exact ⟨_, rfl, by unfold orbsO; rw [Hval.out]; exact Hown4.out.nums (by simp), Hg3.out.trans hg4⟩
end Go.Proofs.YtjmjjdgbkibdaaaGreat
