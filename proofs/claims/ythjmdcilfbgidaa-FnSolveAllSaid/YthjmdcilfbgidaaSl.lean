/-
  Walks for the law of SolveAll: the reference's SolveAll, the comparisons of lists, IsSolution.
-/
import Derived.Test.YthjmdcilfbgidaaLPS
set_option linter.unusedVariables false
namespace Go.Proofs.Ythjmdcilfbgidaa
open Go.RowKit

set_option maxRecDepth 100000 in
theorem specSolveAll_c (m : Mod) (L : Int) (mv : Value) (w : World) (hv : ModV [] w mv m) (hs : m.Small) (D : List Nat) (hD : validM m = true → VM m D) :
    Calls Try.prog 38 #[mv, .int .i64 L] w fun e w' => ∃ v, e = .returned v ∧ RowsV [] w' v (allO m L D) ∧ Gr [] w w' := by
  have Hv := hid hv
  obtain ⟨dv, cv, rfl, hdv, hcv⟩ := hv
  have hg0 : Gr [] w (w.alloc (.cells #[dv, cv] 26)) := (Gr.refl _ _).alloc _
  have hb0 : (w.alloc (.cells #[dv, cv] 26)).heap[w.heap.size]? = some (.cells #[dv, cv] 26 (0, 0)) := heap_alloc_new _ _
  have hfl := fld hb0
  have Hb0 := hid hb0; have HD := hid hD; have Hs := hid hs
  have hnil : ∀ W : World, RowsV [] W (.slice none 0 0) [] := fun W => ⟨none, 0, rfl, by simp, fun i r hi => by simp at hi⟩
  have Hnil := hid hnil
  clear hb0 hdv hcv hD hnil hs
  go_enter Try.func38, Try.ntmps38
  go_wp2_with fail
  have hcall := specValidModel_c m _ _ (Hv.out.gr hg0) Hs.out
  (with_reducible refine hcall.mono ?_)
  clear hcall
  rintro e w1 ⟨rfl, hg1⟩
  have hfl1 := fld (hg1.obj Hb0.out (by simp))
  cases hb : validM m
  · go_wp2_with fail
    go_ret
    exact ⟨_, rfl, by unfold allO; rw [hb]; exact Hnil.out _, hg0.trans hg1⟩
  · have hVM := HD.out hb
    have Hb := hid hb; have HVM := hid hVM; clear hb hVM
    clear hfl
    go_wp2_with fail
    have hcall := inRange_c L 0 20 w1
    (with_reducible refine hcall.mono ?_)
    clear hcall
    rintro e w2 ⟨rfl, rfl⟩
    cases hin : inB 0 20 L
    · go_wp2_with fail
      go_ret
      exact ⟨_, rfl, by unfold allO; rw [Hb.out, hin]; exact Hnil.out _, hg0.trans hg1⟩
    · have hr := inB_iff.1 hin
      have Hin := hid hin
      obtain ⟨k, rfl⟩ := Int.eq_ofNat_of_zero_le hr.1
      have hk20 : k ≤ 20 := by omega
      have hfin : allO m (k : Int) D = (sols m.cons D).take k := by unfold allO; rw [Hb.out, Hin.out]; simp
      have Hfin := hid hfin
      clear hin hr hfin
      by_cases hk0 : k = 0
      · subst hk0
        go_wp2_with fail
        go_ret
        exact ⟨_, rfl, by rw [Hfin.out, List.take_zero]; exact ⟨_, 0, rfl, by simp, fun i r hi => by simp at hi⟩, (hg0.trans hg1).alloc _⟩
      · have hk0' : ((k : Int) == 0) = false := by simp; omega
        go_wp2_with fail
        have hcall := solve_c m D k _ w2 (Hv.out.gr (hg0.trans hg1)) HVM.out (by omega) (by omega)
        (with_reducible refine hcall.mono ?_)
        clear hcall
        rintro e w3 ⟨v3, nd, rfl, hown3, hg3⟩
        have hrows := hown3.rows (S := []) (by simp)
        rw [← Hfin.out] at hrows
        have Hrows := hid hrows
        obtain ⟨ao, cap, rfl, _, _⟩ := hrows
        clear hown3
        go_wp2_with fail
        go_ret
        exact ⟨_, rfl, Hrows.out, (hg0.trans hg1).trans hg3⟩

theorem equalLists_t (xs : List (List Int)) (vx vy : Value) (w : World) (hx : RowsV [] w vx xs) (hy : RowsV [] w vy xs) :
    Calls Try.prog 37 #[vx, vy] w fun e w' => e = .returned (.bool true) ∧ Gr [] w w' := by
  have Hx := hid hx; have Hy := hid hy
  obtain ⟨xo, xc, rfl, ⟨hx1, hx2, _⟩, _⟩ := hx
  obtain ⟨yo, yc, rfl, ⟨hy1, hy2, _⟩, _⟩ := hy
  go_enter Try.func37, Try.ntmps37
  go_wp2_with fail
  go_loopw [5] (fun i wr => ∃ n : Nat, n ≤ xs.length ∧ i = .int .i64 n ∧ Gr [] w wr) (fun i _ => xs.length - (intOf i).toNat)
  case atStart => exact ⟨0, Nat.zero_le _, rfl, Gr.refl _ _⟩
  case round =>
    obtain ⟨n, hn, rfl, hg⟩ := hrel
    by_cases hlt : n < xs.length
    · obtain ⟨x, hx⟩ := get_some hlt
      obtain ⟨b1, o1, u1, rfl, hc1, hn1⟩ := (Hx.out.gr hg).at hx
      obtain ⟨b2, o2, u2, rfl, hc2, hn2⟩ := (Hy.out.gr hg).at hx
      have HS : Hid (∀ w', Gr [] wr w' → w'.cell? ⟨b1, o1 + n, none⟩ = some u1 ∧ w'.cell? ⟨b2, o2 + n, none⟩ = some u2 ∧ Gr [] wr w') := hid fun w' h => ⟨h.cell hc1 (by simp), h.cell hc2 (by simp), h⟩
      have Hn1 := hid hn1; have Hn2 := hid hn2; have Hg := hid hg
      clear hx hn1 hn2 hg
      go_wp2_with fail
      go_region_held3 (fun w' => w'.cell? ⟨b1, o1 + n, none⟩ = some u1 ∧ w'.cell? ⟨b2, o2 + n, none⟩ = some u2 ∧ Gr [] wr w')
        (first | exact HS.out _ ((Gr.refl [] _).drew) | (go_split_ands; exact HS.out _ (Gr.trans (by assumption) hg3)))
        (first
          | (go_at_call 15; go_split_ands; refine (lawEqualInts_c x x _ _ _ (Hn1.out.gr (by assumption)) (Hn2.out.gr (by assumption))).mono ?_; rw [decide_eq_true (rfl : x = x)]; rintro e w3 ⟨rfl, hg3⟩))
      all_goals
        go_wp2_with fail
        exact ⟨⟨n + 1, by omega, by go_num, (Hg.out.trans ((Gr.refl _ _).drew)).trans hg3⟩, by simp [intOf]; omega⟩
    · go_wp2_with fail
      go_ret
      exact ⟨rfl, hg⟩

theorem lexLess_c (xs ys : List Int) (vx vy : Value) (w : World) (hx : Nums [] w .i64 vx xs) (hy : Nums [] w .i64 vy ys) (hl : xs.length = ys.length) :
    Calls Try.prog 40 #[vx, vy] w fun e w' => e = .returned (.bool (lexB xs ys)) ∧ Gr [] w w' := by
  have Hx := hid hx; have Hy := hid hy
  obtain ⟨xo, xc, rfl, ⟨hx1, hx2, _⟩, _⟩ := hx
  obtain ⟨yo, yc, rfl, ⟨hy1, hy2, _⟩, _⟩ := hy
  have hle : xs.length ≤ ys.length := by omega
  have HL := hid hl
  clear hl
  go_enter Try.func40, Try.ntmps40
  go_wp2_with fail
  go_loopw [5] (fun i wr => ∃ n : Nat, n ≤ xs.length ∧ i = .int .i64 n ∧ lexB (xs.drop n) (ys.drop n) = lexB xs ys ∧ Gr [] w wr) (fun i _ => xs.length - (intOf i).toNat)
  case atStart => exact ⟨0, Nat.zero_le _, rfl, rfl, Gr.refl _ _⟩
  case round =>
    obtain ⟨n, hn, rfl, hd, hg⟩ := hrel
    have Hd := hid hd; clear hd
    by_cases hlt : n < xs.length
    · obtain ⟨x, hx⟩ := get_some hlt
      obtain ⟨y, hy⟩ := get_some (show n < ys.length by omega)
      obtain ⟨b, o, rfl, _, h0⟩ := (Hx.out.gr hg).at hx
      obtain ⟨b', o', rfl, _, h1⟩ := (Hy.out.gr hg).at hy
      have HX := hid (drop_cons hx); have HY := hid (drop_cons hy); clear hx hy
      have hny : n < ys.length := by omega
      cases hb : (x != y)
      · go_wp2_with fail
        go_quiet (fail)
        go_wp2_with fail
        refine ⟨⟨n + 1, by omega, by go_num, ?_, hg.drewN _⟩, by simp [intOf]; omega⟩
        have := Hd.out
        rw [HX.out, HY.out] at this
        have e : x = y := by simpa using hb
        rw [← this]; simp [lexB, e]
      · go_wp2_with fail
        go_quiet (fail)
        go_wp2_with fail
        go_quiet (fail)
        go_wp2_with fail
        go_ret
        refine ⟨ret_bool ?_, (hg.drewN _).drewN _⟩
        have := Hd.out
        rw [HX.out, HY.out] at this
        have e : x ≠ y := by simpa using hb
        rw [← this]; simp [lexB, e]
    · go_wp2_with fail
      go_ret
      refine ⟨ret_bool ?_, hg⟩
      have := Hd.out
      rw [drop_end (by omega), drop_end (by have := HL.out; omega)] at this
      rw [← this]; rfl

theorem assigned_t (xs : List Int) (n : Nat) (hn : n = xs.length) (v : Value) (w : World) (hv : Nums [] w .i64 v xs) (hr : allB 0 5 xs = true) :
    Calls Try.prog 83 #[v, .int .i64 n] w fun e w' => e = .returned (.bool true) ∧ Gr [] w w' := by
  subst hn
  have Hv := hid hv; have HR := hid hr
  obtain ⟨xo, xc, rfl, ⟨hx1, hx2, _⟩, _⟩ := hv
  clear hr
  go_enter Try.func83, Try.ntmps83
  go_wp2_with fail
  have hcall := allIn_c xs 0 5 _ w Hv.out
  (with_reducible refine hcall.mono ?_)
  clear hcall
  rw [HR.out]
  rintro e w1 ⟨rfl, hg1⟩
  go_wp2_with fail
  go_ret
  exact ⟨rfl, hg1⟩

set_option maxRecDepth 100000 in
theorem IsSolution_t (m : Mod) (D : List Nat) (xs : List Int) (mv xv : Value) (w : World) (hv : ModV [] w mv m) (hVM : VM m D) (hx : Nums [] w .i64 xv xs) (hs : xs ∈ sols m.cons D) :
    Calls Try.prog 39 #[mv, xv] w fun e w' => e = .returned (.bool true) ∧ Gr [] w w' := by
  have Hv := hid hv
  obtain ⟨dv, cv, rfl, hdv, hcv⟩ := hv
  obtain ⟨do_, dc, rfl, ⟨hd1, hd2, _⟩, _⟩ := hdv
  have hin := (mem_sols.1 hs).1
  have hsol : solB m.cons xs = true := solB_iff.2 (mem_sols.1 hs).2
  have hlen : m.doms.length = xs.length := by rw [hVM.doms, ints_len, tups_len hin]
  have hall : allB 0 5 xs = true := allB_iff.2 fun x hx => tups_val hin x hx
  have Hx := hid hx
  obtain ⟨xo, xc, rfl, _, _⟩ := hx
  have hg0 : Gr [] w (w.alloc (.cells #[.slice do_ m.doms.length dc, cv] 26)) := (Gr.refl _ _).alloc _
  have hb0 : (w.alloc (.cells #[.slice do_ m.doms.length dc, cv] 26)).heap[w.heap.size]? = some (.cells #[.slice do_ m.doms.length dc, cv] 26 (0, 0)) := heap_alloc_new _ _
  have hfl := fld hb0
  have Hb0 := hid hb0; have HVM := hid hVM; have HI := hid hin; have HS := hid hsol; have HA := hid hall; have HL := hid hlen
  clear hb0 hcv hVM hin hsol hlen hall hs
  go_enter Try.func39, Try.ntmps39
  go_wp2_with fail
  have hcall := ValidModel_c m _ _ (Hv.out.gr hg0)
  (with_reducible refine hcall.mono ?_)
  clear hcall
  rw [HVM.out.valid]
  rintro e w1 ⟨rfl, hg1⟩
  have hfl1 := fld (hg1.obj Hb0.out (by simp))
  have Hg1 := hid (hg0.trans hg1)
  have hg1' := hid hg1
  clear hfl hg1
  go_wp2_with fail
  have hcall := assigned_t xs m.doms.length HL.out _ w1 (Hx.out.gr Hg1.out) HA.out
  (with_reducible refine hcall.mono ?_)
  clear hcall
  rintro e w2 ⟨rfl, hg2⟩
  have hfl2 := fld ((hg1'.out.trans hg2).obj Hb0.out (by simp))
  have Hg2 := hid (Hg1.out.trans hg2)
  clear hg2 hfl1
  go_wp2_with fail
  have hcall := isSolution_c m D xs _ _ w2 (Hv.out.gr Hg2.out) HVM.out.doms HVM.out.below HVM.out.cons (Hx.out.gr Hg2.out) HI.out HVM.out.len.2
  (with_reducible refine hcall.mono ?_)
  clear hcall
  rw [HS.out]
  rintro e w3 ⟨rfl, hg3⟩
  go_wp2_with fail
  go_ret
  exact ⟨rfl, Hg2.out.trans hg3⟩

/-- A model and a number. -/
def DrawLPost (w : World) (e : Ending) (w' : World) : Prop := ∃ (m : Mod) (mv : Value) (L : Int), e = .returned (.tuple #[mv, .int .i64 L]) ∧ ModV [] w' mv m ∧ m.Small ∧ Gr [] w w'
set_option maxRecDepth 100000 in
set_option maxHeartbeats 1000000 in
theorem DrawSolveAll_c (v : Value) (bs : List Int) (w : World) (ao : Option Addr) (cap : Nat) (hv : v = .slice ao bs.length cap) (hlen : bs.length ≤ 9223372036854775807) (hcap : bs.length ≤ cap) (hc : Cells [] w .u8 ao bs) (hb : ∀ b ∈ bs, 0 ≤ b ∧ b ≤ 255) :
    Calls Try.prog 36 #[v] w (DrawLPost w) := by
  subst hv
  have Hc := hid hc; have Hb := hid hb; clear hc hb
  have hg0 : Gr [] w (w.alloc (.cells #[.slice none 0 0, .slice none 0 0] 26)) := (Gr.refl _ _).alloc _
  have hr0 : (w.alloc (.cells #[.slice none 0 0, .slice none 0 0] 26)).heap[w.heap.size]? = some (.cells #[.slice none 0 0, .slice none 0 0] 26 (0, 0)) := heap_alloc_new _ _
  have Hr0 := hid hr0; have Hg0 := hid hg0; clear hr0 hg0
  go_enter Try.func36, Try.ntmps36
  go_wp2_with fail
  have hcall := newReader_c _ bs _ ao cap rfl hlen hcap (Hc.out.gr Hg0.out) Hb.out
  (with_reducible refine hcall.mono ?_)
  clear hcall
  rintro e w1 ⟨⟨R, cs, rfl, hR, hrd1⟩, hg1⟩
  go_wp2_with fail
  have hcall := anyModel_c R cs 0 _ hrd1 (by omega)
  (with_reducible refine hcall.mono ?_)
  clear hcall
  rintro e w2 ⟨m, M, bo, ac, co, cc, rfl, hown, hdM, ⟨hM1, hM2⟩, hcs, ⟨hd1, hd4⟩, hc4, htv, hrd2, hg2⟩
  simp only [World.size_alloc] at hR
  have hRw1 := hrd1.lt
  have hr2 := hg2.obj (hg1.obj Hr0.out (by simp)) (by simp; omega)
  have hmv := ModPost.modv (S := [w.heap.size, w2.heap.size, R]) (by have := hg1.size; simp at this ⊢; omega) hM1 hown hcs
  have hms := mod_small hd4 hc4 htv
  have HG : Hid (Gr [] w w2) := hid ((Hg0.out.trans hg1).step hg2 (fun i hi => .inr (by simp at hi; omega)))
  have hRl := hrd2.lt
  have ha3 : Gr [] w2 (w2.alloc (.cells #[.slice bo m.doms.length ac, .slice co m.cons.length cc] 26)) := (Gr.refl _ _).alloc _
  have hb3 : (w2.alloc (.cells #[.slice bo m.doms.length ac, .slice co m.cons.length cc] 26)).heap[w2.heap.size]? = some (.cells #[.slice bo m.doms.length ac, .slice co m.cons.length cc] 26 (0, 0)) := heap_alloc_new _ _
  have hwl := lt_of_block hr2
  have hr3 := ha3.obj hr2 (by simp)
  obtain ⟨W3, hW3⟩ : ∃ W3, W3 = w2.alloc (.cells #[.slice bo m.doms.length ac, .slice co m.cons.length cc] 26) := ⟨_, rfl⟩
  have hs3 : w2.heap.size < W3.heap.size := by rw [hW3]; simp
  rw [← hW3] at ha3 hb3 hr3
  have Hmv := hid (hmv.gr ha3.any); have Hms := hid hms; have Hr3 := hid hr3; have Hrd3 := hid (hrd2.gr ha3); have Hb3 := hid hb3
  have HG3 := hid (HG.out.trans ha3)
  have fl3 := fld hb3
  clear hown hcs htv hr2 hg1 hg2 hrd1 hrd2 hmv hms ha3 hb3 HG hdM hr3
  go_wp2_with fail
  rw [← hW3]
  clear hW3
  go_region_law (first
    | (go_simp; go_at_call 81; refine (one_c R cs (0 + 2000) _ [0, 1, 3, 20, 21, -1] _ ((Hrd3.out.drew).gr ((Gr.refl _ _).alloc _)) (nums_new _ _ _ (by simp <;> omega)) (by omega) (by simp) (by simp)).mono ?_; rintro e w6 ⟨⟨r6, rfl, hr6⟩, hrd6, hg6⟩; have HS6 : Hid (Gr [R] W3 w6) := hid (Gr.trans (a := W3) ((Gr.refl [R] _).drew.alloc _) hg6); have hb6 := HS6.out.obj Hb3.out (by simp; omega); have hr6b := HS6.out.obj Hr3.out (by simp; omega); have fl6 := fld hb6; have ff6 := fldF hb6; have flr6 := fld hr6b; have ffr6 := fldF hr6b; have hlt6 := lt_of_block hb6; have hltr6 := lt_of_block hr6b; have Hr6 := hid hr6b; clear hr6 hrd6 hg6 hb6 hr6b))
  all_goals
    go_wp2_with fail
    have hbE := block_cells (cur' := #[]) (block_cells (cur' := #[]) Hr6.out 0 (.slice bo m.doms.length ac)) 1 (.slice co m.cons.length cc)
    have flE := fld hbE
    refine bodyPost_ret (v := .tuple #[.agg #[.slice bo m.doms.length ac, .slice co m.cons.length cc], .int .i64 r6]) ?_ rfl ?_
    · simp [results, Try.results36, go_sem, flE]
    · have hgE : Gr [w.heap.size, w2.heap.size, R] W3 ((w6.setCell ⟨w.heap.size, 0, none⟩ (.slice bo m.doms.length ac)).setCell ⟨w.heap.size, 1, none⟩ (.slice co m.cons.length cc)) :=
        ((HS6.out.sub (fun k _ hk => by simp at hk ⊢; exact .inr (.inr hk))).setCell _ _ (.inl (by simp))).setCell _ _ (.inl (by simp))
      exact ⟨m, _, r6, rfl, (Hmv.out.gr hgE).sub0, Hms.out, HG3.out.step hgE (fun i hi => .inr (by simp at hi; omega))⟩
end Go.Proofs.Ythjmdcilfbgidaa
