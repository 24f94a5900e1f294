/-
  Walks of the program's CountSolutions, SolveAll, DomainHas.
-/
import Derived.Test.YtpfelbbmgbfkeaaGreatSj
import Derived.Test.YtpfelbbmgbfkeaaGreatSf
set_option linter.unusedVariables false
namespace Go.Proofs.YtpfelbbmgbfkeaaGreat
open Go.RowKit

set_option maxRecDepth 100000 in
theorem CountSolutions_c (m : Mod) (mv : Value) (w : World) (hv : ModV [] w mv m) (D : List Nat) (hD : validM m = true → VM m D) :
    Calls Tryz.prog 52 #[mv] w fun e w' => e = .returned (.int .i64 (countI m D)) ∧ Gr [] w w' := by
  have Hv := hid hv
  obtain ⟨dv, cv, rfl, hdv, hcv⟩ := hv
  have hg0 : Gr [] w (w.alloc (.cells #[dv, cv] 26)) := (Gr.refl _ _).alloc _
  have hb0 : (w.alloc (.cells #[dv, cv] 26)).heap[w.heap.size]? = some (.cells #[dv, cv] 26 (0, 0)) := heap_alloc_new _ _
  have hfl := fld hb0
  have Hb0 := hid hb0; have HD := hid hD
  clear hb0 hdv hcv hD
  go_enter Tryz.func52, Tryz.ntmps52
  go_wp2_with fail
  have hcall := ValidModel_c m _ _ (Hv.out.gr hg0)
  (with_reducible refine hcall.mono ?_)
  clear hcall
  rintro e w1 ⟨rfl, hg1⟩
  cases hb : validM m
  · go_wp2_with fail
    go_ret
    exact ⟨ret_int (by unfold countI; rw [hb]; rfl), hg0.trans hg1⟩
  · have hVM := HD.out hb
    have Hb := hid hb; have HVM := hid hVM; clear hb hVM
    have hfl1 := fld (hg1.obj Hb0.out (by simp))
    clear hfl
    go_wp2_with fail
    have hcall := solutions_c m D _ _ (Hv.out.gr (hg0.trans hg1)) HVM.out
    (with_reducible refine hcall.mono ?_)
    clear hcall
    rintro e w2 ⟨v2, rfl, hown2, hg2⟩
    obtain ⟨fo, fc, rfl, _, _, _⟩ := hown2.slice
    go_wp2_with fail
    go_ret
    exact ⟨ret_int (by unfold countI; rw [Hb.out]; rfl), (hg0.trans hg1).trans hg2⟩

theorem ClipR_c (v : Value) (rows : List (List Int)) (w : World) (hx : RowsV [] w v rows) :
    Calls Tryz.prog 60 #[v] w fun e w' => ∃ v', e = .returned v' ∧ RowsV [] w' v' rows ∧ Gr [] w w' := by
  obtain ⟨ao, cap, rfl, ⟨h1, h2, h3⟩, hc⟩ := hx
  have Hc := hid hc; have H3 := hid h3
  clear hc h3
  go_enter Tryz.func60, Tryz.ntmps60
  go_wp2_with fail
  go_ret
  exact ⟨_, rfl, ⟨ao, rows.length, rfl, ⟨Nat.le_refl _, by omega, fun h => by have := H3.out h; omega⟩, Hc.out⟩, Gr.refl _ _⟩

theorem RowsV.take {S : List Nat} {w : World} {ao : Option Addr} {n cap : Nat} {rows : List (List Int)} (h : RowsV S w (.slice ao n cap) rows) (k : Nat) (hk : k ≤ rows.length) : RowsV S w (.slice ao k cap) (rows.take k) := by
  obtain ⟨ao', cap', e, ⟨h1, h2, h3⟩, hc⟩ := h
  cases e
  refine ⟨ao, cap, by rw [List.length_take, Nat.min_eq_left hk], ⟨by rw [List.length_take]; omega, h2, h3⟩, fun i r hi => ?_⟩
  rw [List.getElem?_take] at hi
  split at hi
  · exact hc i r hi
  · cases hi

def allO (m : Mod) (L : Int) (D : List Nat) : List (List Int) := if validM m && inB 0 20 L then (sols m.cons D).take L.toNat else []
set_option maxRecDepth 100000 in
theorem SolveAll_c (m : Mod) (L : Int) (mv : Value) (w : World) (hv : ModV [] w mv m) (D : List Nat) (hD : validM m = true → VM m D) :
    Calls Tryz.prog 33 #[mv, .int .i64 L] w fun e w' => ∃ v, e = .returned v ∧ RowsV [] w' v (allO m L D) ∧ Gr [] w w' := by
  have Hv := hid hv
  obtain ⟨dv, cv, rfl, hdv, hcv⟩ := hv
  have hg0 : Gr [] w (w.alloc (.cells #[dv, cv] 26)) := (Gr.refl _ _).alloc _
  have hb0 : (w.alloc (.cells #[dv, cv] 26)).heap[w.heap.size]? = some (.cells #[dv, cv] 26 (0, 0)) := heap_alloc_new _ _
  have hfl := fld hb0
  have Hb0 := hid hb0; have HD := hid hD
  have hnil : ∀ W : World, RowsV [] W (.slice none 0 0) [] := fun W => ⟨none, 0, rfl, by simp, fun i r hi => by simp at hi⟩
  have Hnil := hid hnil
  clear hb0 hdv hcv hD hnil
  go_enter Tryz.func33, Tryz.ntmps33
  go_wp2_with fail
  have hcall := ValidModel_c m _ _ (Hv.out.gr hg0)
  (with_reducible refine hcall.mono ?_)
  clear hcall
  rintro e w1 ⟨rfl, hg1⟩
  have hfl1 := fld (hg1.obj Hb0.out (by simp))
  cases hb : validM m
  · go_wp2_with fail
    go_ret
    exact ⟨_, rfl, by unfold allO; rw [hb]; exact Hnil.out _, hg0.trans hg1⟩
  · have hVM := HD.out hb
    have Hb := hid hb; have HVM := hid hVM; clear hb hVM
    clear hfl
    go_wp2_with fail
    have hcall := within_c L 0 20 w1
    (with_reducible refine hcall.mono ?_)
    clear hcall
    rintro e w2 ⟨rfl, rfl⟩
    cases hin : inB 0 20 L
    · go_wp2_with fail
      go_ret
      exact ⟨_, rfl, by unfold allO; rw [Hb.out, hin]; exact Hnil.out _, hg0.trans hg1⟩
    · have hr := inB_iff.1 hin
      have Hin := hid hin
      obtain ⟨k, rfl⟩ := Int.eq_ofNat_of_zero_le hr.1
      have hk20 : k ≤ 20 := by omega
      clear hin hr
      go_wp2_with fail
      have hcall := solutions_c m D _ w2 (Hv.out.gr (hg0.trans hg1)) HVM.out
      (with_reducible refine hcall.mono ?_)
      clear hcall
      rintro e w3 ⟨v3, rfl, hown3, hg3⟩
      have hrows := hown3.rows (S := []) (by simp)
      obtain ⟨zs, hz⟩ : ∃ zs, zs = sols m.cons D := ⟨_, rfl⟩
      rw [← hz] at hrows
      have Hz := hid hz
      have Hrows := hid hrows
      obtain ⟨ao, cap, rfl, ⟨hc1, hc2, hc3⟩, _⟩ := hrows
      have hfin : allO m (k : Int) D = zs.take k := by unfold allO; rw [Hb.out, Hin.out, ← Hz.out]; simp
      have Hfin := hid hfin
      clear hown3 hz hfin hc3
      by_cases hkl : (k : Int) < (zs.length : Int)
      · go_wp2_with fail
        have hcall := ClipR_c _ (zs.take k) w3 (Hrows.out.take k (by omega))
        (with_reducible refine hcall.mono ?_)
        clear hcall
        rintro e w4 ⟨v4, rfl, hr4, hg4⟩
        go_wp2_with fail
        go_ret
        exact ⟨_, rfl, by rw [Hfin.out]; exact hr4, ((hg0.trans hg1).trans hg3).trans hg4⟩
      · by_cases hke : k = zs.length
        · have hke' : (k : Int) = (zs.length : Int) := by omega
          have Hke := hid hke
          subst hke
          clear hke'
          go_wp2_with fail
          all_goals
            have hcall := ClipR_c _ zs w3 Hrows.out
            (with_reducible refine hcall.mono ?_)
            clear hcall
            rintro e w4 ⟨v4, rfl, hr4, hg4⟩
            go_wp2_with fail
            go_ret
            exact ⟨_, rfl, by rw [Hfin.out, List.take_of_length_le (Nat.le_refl _)]; exact hr4, ((hg0.trans hg1).trans hg3).trans hg4⟩
        · have hkg : (zs.length : Int) < (k : Int) := by omega
          go_wp2_with fail
          all_goals
            have hcall := ClipR_c _ zs w3 Hrows.out
            (with_reducible refine hcall.mono ?_)
            clear hcall
            rintro e w4 ⟨v4, rfl, hr4, hg4⟩
            go_wp2_with fail
            go_ret
            exact ⟨_, rfl, by rw [Hfin.out, List.take_of_length_le (by omega)]; exact hr4, ((hg0.trans hg1).trans hg3).trans hg4⟩

theorem implValidDomain_c (d : Int) (w : World) : Calls Tryz.prog 74 #[.int .i64 d] w fun e w' => e = .returned (.bool (inB 0 63 d)) ∧ w' = w := by
  go_enter Tryz.func74, Tryz.ntmps74
  go_wp2_with fail
  have hcall := within_c d 0 63 w
  (with_reducible refine hcall.mono ?_)
  clear hcall
  rintro e w2 ⟨rfl, rfl⟩
  go_wp2_with fail
  go_ret
  exact ⟨rfl, rfl⟩
theorem valueOk_c (d : Int) (w : World) : Calls Tryz.prog 75 #[.int .i64 d] w fun e w' => e = .returned (.bool (inB 0 5 d)) ∧ w' = w := by
  go_enter Tryz.func75, Tryz.ntmps75
  go_wp2_with fail
  have hcall := within_c d 0 5 w
  (with_reducible refine hcall.mono ?_)
  clear hcall
  rintro e w2 ⟨rfl, rfl⟩
  go_wp2_with fail
  go_ret
  exact ⟨rfl, rfl⟩
theorem DomainHas_c (d v : Nat) (hd : d < 64) (hv : v < 6) (w : World) :
    Calls Tryz.prog 19 #[.int .i64 d, .int .i64 v] w fun e w' => e = .returned (.bool (d.testBit v)) ∧ w' = w := by
  have h1 : inB 0 63 (d : Int) = true := inB_iff.2 ⟨by omega, by omega⟩
  have h2 : inB 0 5 (v : Int) = true := inB_iff.2 ⟨by omega, by omega⟩
  have H1 := hid h1; have H2 := hid h2
  clear h1 h2
  go_enter Tryz.func19, Tryz.ntmps19
  go_wp2_with fail
  have hcall := implValidDomain_c d w
  (with_reducible refine hcall.mono ?_)
  clear hcall
  rw [H1.out]
  rintro e w2 ⟨rfl, rfl⟩
  go_wp2_with fail
  have hcall := valueOk_c v w2
  (with_reducible refine hcall.mono ?_)
  clear hcall
  rw [H2.out]
  rintro e w3 ⟨rfl, rfl⟩
  go_wp2_with fail
  have hcall := has_c d v hd hv w3
  (with_reducible refine hcall.mono ?_)
  clear hcall
  rintro e w4 ⟨rfl, rfl⟩
  go_wp2_with fail
  go_ret
  exact ⟨rfl, rfl⟩
end Go.Proofs.YtpfelbbmgbfkeaaGreat
