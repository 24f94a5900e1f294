/-
  Walks for the law of SolveAll: the reference's SolveAll, the comparisons of lists, IsSolution.
-/
import Derived.Test.YthebokkfhpeeiaaLPS
set_option linter.unusedVariables false
namespace Go.Proofs.Ythebokkfhpeeiaa
open Go.RowKit

set_option maxRecDepth 100000 in
theorem specSolveAll_c (m : Mod) (L : Int) (mv : Value) (w : World) (hv : ModV [] w mv m) (hs : m.Small) (D : List Nat) (hD : validM m = true → VM m D) :
    Calls Try.prog 38 #[mv, .int .i64 L] w fun e w' => ∃ v, e = .returned v ∧ RowsV [] w' v (allO m L D) ∧ Gr [] w w' := by
  have Hv := hid hv
  obtain ⟨dv, cv, rfl, hdv, hcv⟩ := hv
  have hg0 : Gr [] w (w.alloc (.cells #[dv, cv] 32)) := (Gr.refl _ _).alloc _
  have hb0 : (w.alloc (.cells #[dv, cv] 32)).heap[w.heap.size]? = some (.cells #[dv, cv] 32 (0, 0)) := heap_alloc_new _ _
  have hfl := fld hb0
  have Hb0 := hid hb0; have HD := hid hD; have Hs := hid hs
  have hnil : ∀ W : World, RowsV [] W (.slice none 0 0) [] := fun W => ⟨none, 0, rfl, by simp, fun i r hi => by simp at hi⟩
  have Hnil := hid hnil
  clear hb0 hdv hcv hD hnil hs
  go_enter Try.func38, Try.ntmps38
  go_wp2_with fail
  have hcall := specValidModel_c m _ _ (Hv.out.gr hg0) Hs.out
  (with_reducible refine hcall.mono ?_)
  clear hcall
  rintro e w1 ⟨rfl, hg1⟩
  have hfl1 := fld (hg1.obj Hb0.out (by simp))
  cases hb : validM m
  · go_wp2_with fail
    go_ret
    exact ⟨_, rfl, by unfold allO; rw [hb]; exact Hnil.out _, hg0.trans hg1⟩
  · have hVM := HD.out hb
    have Hb := hid hb; have HVM := hid hVM; clear hb hVM
    clear hfl
    go_wp2_with fail
    have hcall := inRange_c L 0 20 w1
    (with_reducible refine hcall.mono ?_)
    clear hcall
    rintro e w2 ⟨rfl, rfl⟩
    cases hin : inB 0 20 L
    · go_wp2_with fail
      go_ret
      exact ⟨_, rfl, by unfold allO; rw [Hb.out, hin]; exact Hnil.out _, hg0.trans hg1⟩
    · have hr := inB_iff.1 hin
      have Hin := hid hin
      obtain ⟨k, rfl⟩ := Int.eq_ofNat_of_zero_le hr.1
      have hk20 : k ≤ 20 := by omega
      have hfin : allO m (k : Int) D = (sols m.cons D).take k := by unfold allO; rw [Hb.out, Hin.out]; simp
      have Hfin := hid hfin
      clear hin hr hfin
      by_cases hk0 : k = 0
      · subst hk0
        go_wp2_with fail
        go_ret
        exact ⟨_, rfl, by rw [Hfin.out, List.take_zero]; exact ⟨_, 0, rfl, by simp, fun i r hi => by simp at hi⟩, (hg0.trans hg1).alloc _⟩
      · have hk0' : ((k : Int) == 0) = false := by simp; omega
        go_wp2_with fail
        have hcall := solve_c m D k _ w2 (Hv.out.gr (hg0.trans hg1)) HVM.out (by omega) (by omega)
        (with_reducible refine hcall.mono ?_)
        clear hcall
        rintro e w3 ⟨v3, nd, rfl, hown3, hg3⟩
        have hrows := hown3.rows (S := []) (by simp)
        rw [← Hfin.out] at hrows
        have Hrows := hid hrows
        obtain ⟨ao, cap, rfl, _, _⟩ := hrows
        clear hown3
        go_wp2_with fail
        go_ret
        exact ⟨_, rfl, Hrows.out, (hg0.trans hg1).trans hg3⟩

theorem equalLists_t (xs : List (List Int)) (vx vy : Value) (w : World) (hx : RowsV [] w vx xs) (hy : RowsV [] w vy xs) :
    Calls Try.prog 80 #[vx, vy] w fun e w' => e = .returned (.bool true) ∧ Gr [] w w' := by
  have Hx := hid hx; have Hy := hid hy
  obtain ⟨xo, xc, rfl, ⟨hx1, hx2, _⟩, _⟩ := hx
  obtain ⟨yo, yc, rfl, ⟨hy1, hy2, _⟩, _⟩ := hy
  go_enter Try.func80, Try.ntmps80
  go_wp2_with fail
  go_loopw [5] (fun i wr => ∃ n : Nat, n ≤ xs.length ∧ i = .int .i64 n ∧ Gr [] w wr) (fun i _ => xs.length - (intOf i).toNat)
  case atStart => exact ⟨0, Nat.zero_le _, rfl, Gr.refl _ _⟩
  case round =>
    obtain ⟨n, hn, rfl, hg⟩ := hrel
    by_cases hlt : n < xs.length
    · obtain ⟨x, hx⟩ := get_some hlt
      obtain ⟨b1, o1, u1, rfl, hc1, hn1⟩ := (Hx.out.gr hg).at hx
      obtain ⟨b2, o2, u2, rfl, hc2, hn2⟩ := (Hy.out.gr hg).at hx
      have HS : Hid (∀ w', Gr [] wr w' → w'.cell? ⟨b1, o1 + n, none⟩ = some u1 ∧ w'.cell? ⟨b2, o2 + n, none⟩ = some u2 ∧ Gr [] wr w') := hid fun w' h => ⟨h.cell hc1 (by simp), h.cell hc2 (by simp), h⟩
      have Hn1 := hid hn1; have Hn2 := hid hn2; have Hg := hid hg
      clear hx hn1 hn2 hg
      go_wp2_with fail
      go_region_held3 (fun w' => w'.cell? ⟨b1, o1 + n, none⟩ = some u1 ∧ w'.cell? ⟨b2, o2 + n, none⟩ = some u2 ∧ Gr [] wr w')
        (first | exact HS.out _ ((Gr.refl [] _).drew) | (go_split_ands; exact HS.out _ (Gr.trans (by assumption) hg3)))
        (first
          | (go_at_call 34; go_split_ands; refine (lawEqualInts_c x x _ _ _ (Hn1.out.gr (by assumption)) (Hn2.out.gr (by assumption))).mono ?_; rw [decide_eq_true (rfl : x = x)]; rintro e w3 ⟨rfl, hg3⟩))
      all_goals
        go_wp2_with fail
        exact ⟨⟨n + 1, by omega, by go_num, (Hg.out.trans ((Gr.refl _ _).drew)).trans hg3⟩, by simp [intOf]; omega⟩
    · go_wp2_with fail
      go_ret
      exact ⟨rfl, hg⟩

theorem assigned_t (xs : List Int) (n : Nat) (hn : n = xs.length) (v : Value) (w : World) (hv : Nums [] w .i64 v xs) (hr : allB 0 5 xs = true) :
    Calls Try.prog 104 #[v, .int .i64 n] w fun e w' => e = .returned (.bool true) ∧ Gr [] w w' := by
  subst hn
  have Hv := hid hv; have HR := hid hr
  obtain ⟨xo, xc, rfl, ⟨hx1, hx2, _⟩, _⟩ := hv
  clear hr
  go_enter Try.func104, Try.ntmps104
  go_wp2_with fail
  have hcall := allIn_c xs 0 5 _ w Hv.out
  (with_reducible refine hcall.mono ?_)
  clear hcall
  rw [HR.out]
  rintro e w1 ⟨rfl, hg1⟩
  go_wp2_with fail
  go_ret
  exact ⟨rfl, hg1⟩

/-- A model and a number. -/
def DrawLPost (w : World) (e : Ending) (w' : World) : Prop := ∃ (m : Mod) (mv : Value) (L : Int), e = .returned (.tuple #[mv, .int .i64 L]) ∧ ModV [] w' mv m ∧ m.Small ∧ Gr [] w w'
end Go.Proofs.Ythebokkfhpeeiaa
