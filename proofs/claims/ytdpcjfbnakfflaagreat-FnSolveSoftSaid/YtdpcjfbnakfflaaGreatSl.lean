/-
  Walks for the law of SolveAll: the reference's SolveAll, the comparisons of lists, IsSolution.
-/
import Derived.Test.YtdpcjfbnakfflaaGreatLPS
set_option linter.unusedVariables false
namespace Go.Proofs.YtdpcjfbnakfflaaGreat
open Go.RowKit

theorem equalLists_t (xs : List (List Int)) (vx vy : Value) (w : World) (hx : RowsV [] w vx xs) (hy : RowsV [] w vy xs) :
    Calls Tryz.prog 134 #[vx, vy] w fun e w' => e = .returned (.bool true) ∧ Gr [] w w' := by
  have Hx := hid hx; have Hy := hid hy
  obtain ⟨xo, xc, rfl, ⟨hx1, hx2, _⟩, _⟩ := hx
  obtain ⟨yo, yc, rfl, ⟨hy1, hy2, _⟩, _⟩ := hy
  go_enter Tryz.func134, Tryz.ntmps134
  go_wp2_with fail
  go_loopw [5] (fun i wr => ∃ n : Nat, n ≤ xs.length ∧ i = .int .i64 n ∧ Gr [] w wr) (fun i _ => xs.length - (intOf i).toNat)
  case atStart => exact ⟨0, Nat.zero_le _, rfl, Gr.refl _ _⟩
  case round =>
    obtain ⟨n, hn, rfl, hg⟩ := hrel
    by_cases hlt : n < xs.length
    · obtain ⟨x, hx⟩ := get_some hlt
      obtain ⟨b1, o1, u1, rfl, hc1, hn1⟩ := (Hx.out.gr hg).at hx
      obtain ⟨b2, o2, u2, rfl, hc2, hn2⟩ := (Hy.out.gr hg).at hx
      have HS : Hid (∀ w', Gr [] wr w' → w'.cell? ⟨b1, o1 + n, none⟩ = some u1 ∧ w'.cell? ⟨b2, o2 + n, none⟩ = some u2 ∧ Gr [] wr w') := hid fun w' h => ⟨h.cell hc1 (by simp), h.cell hc2 (by simp), h⟩
      have Hn1 := hid hn1; have Hn2 := hid hn2; have Hg := hid hg
      clear hx hn1 hn2 hg
      go_wp2_with fail
      go_region_held3 (fun w' => w'.cell? ⟨b1, o1 + n, none⟩ = some u1 ∧ w'.cell? ⟨b2, o2 + n, none⟩ = some u2 ∧ Gr [] wr w')
        (first | exact HS.out _ ((Gr.refl [] _).drew) | (go_split_ands; exact HS.out _ (Gr.trans (by assumption) hg3)))
        (first
          | (go_at_call 26; go_split_ands; refine (lawEqualInts_c x x _ _ _ (Hn1.out.gr (by assumption)) (Hn2.out.gr (by assumption))).mono ?_; rw [decide_eq_true (rfl : x = x)]; rintro e w3 ⟨rfl, hg3⟩))
      all_goals
        go_wp2_with fail
        exact ⟨⟨n + 1, by omega, by go_num, (Hg.out.trans ((Gr.refl _ _).drew)).trans hg3⟩, by simp [intOf]; omega⟩
    · go_wp2_with fail
      go_ret
      exact ⟨rfl, hg⟩

theorem lexLess_c (xs ys : List Int) (vx vy : Value) (w : World) (hx : Nums [] w .i64 vx xs) (hy : Nums [] w .i64 vy ys) (hl : xs.length = ys.length) :
    Calls Tryz.prog 43 #[vx, vy] w fun e w' => e = .returned (.bool (lexB xs ys)) ∧ Gr [] w w' := by
  have Hx := hid hx; have Hy := hid hy
  obtain ⟨xo, xc, rfl, ⟨hx1, hx2, _⟩, _⟩ := hx
  obtain ⟨yo, yc, rfl, ⟨hy1, hy2, _⟩, _⟩ := hy
  have hle : xs.length ≤ ys.length := by omega
  have HL := hid hl
  clear hl
  go_enter Tryz.func43, Tryz.ntmps43
  go_wp2_with fail
  go_loopw [5] (fun i wr => ∃ n : Nat, n ≤ xs.length ∧ i = .int .i64 n ∧ lexB (xs.drop n) (ys.drop n) = lexB xs ys ∧ Gr [] w wr) (fun i _ => xs.length - (intOf i).toNat)
  case atStart => exact ⟨0, Nat.zero_le _, rfl, rfl, Gr.refl _ _⟩
  case round =>
    obtain ⟨n, hn, rfl, hd, hg⟩ := hrel
    have Hd := hid hd; clear hd
    by_cases hlt : n < xs.length
    · obtain ⟨x, hx⟩ := get_some hlt
      obtain ⟨y, hy⟩ := get_some (show n < ys.length by omega)
      obtain ⟨b, o, rfl, _, h0⟩ := (Hx.out.gr hg).at hx
      obtain ⟨b', o', rfl, _, h1⟩ := (Hy.out.gr hg).at hy
      have HX := hid (drop_cons hx); have HY := hid (drop_cons hy); clear hx hy
      have hny : n < ys.length := by omega
      cases hb : (x != y)
      · go_wp2_with fail
        go_quiet (fail)
        go_wp2_with fail
        refine ⟨⟨n + 1, by omega, by go_num, ?_, hg.drewN _⟩, by simp [intOf]; omega⟩
        have := Hd.out
        rw [HX.out, HY.out] at this
        have e : x = y := by simpa using hb
        rw [← this]; simp [lexB, e]
      · go_wp2_with fail
        go_quiet (fail)
        go_wp2_with fail
        go_quiet (fail)
        go_wp2_with fail
        go_ret
        refine ⟨ret_bool ?_, (hg.drewN _).drewN _⟩
        have := Hd.out
        rw [HX.out, HY.out] at this
        have e : x ≠ y := by simpa using hb
        rw [← this]; simp [lexB, e]
    · go_wp2_with fail
      go_ret
      refine ⟨ret_bool ?_, hg⟩
      have := Hd.out
      rw [drop_end (by omega), drop_end (by have := HL.out; omega)] at this
      rw [← this]; rfl

theorem assigned_t (xs : List Int) (n : Nat) (hn : n = xs.length) (v : Value) (w : World) (hv : Nums [] w .i64 v xs) (hr : allB 0 5 xs = true) :
    Calls Tryz.prog 85 #[v, .int .i64 n] w fun e w' => e = .returned (.bool true) ∧ Gr [] w w' := by
  subst hn
  have Hv := hid hv; have HR := hid hr
  obtain ⟨xo, xc, rfl, ⟨hx1, hx2, _⟩, _⟩ := hv
  clear hr
  go_enter Tryz.func85, Tryz.ntmps85
  go_wp2_with fail
  have hcall := allIn_c xs 0 5 _ w Hv.out
  (with_reducible refine hcall.mono ?_)
  clear hcall
  rw [HR.out]
  rintro e w1 ⟨rfl, hg1⟩
  go_wp2_with fail
  go_ret
  exact ⟨rfl, hg1⟩

set_option maxRecDepth 100000 in
theorem IsSolution_t (m : Mod) (D : List Nat) (xs : List Int) (mv xv : Value) (w : World) (hv : ModV [] w mv m) (hVM : VM m D) (hx : Nums [] w .i64 xv xs) (hs : xs ∈ sols m.cons D) :
    Calls Tryz.prog 29 #[mv, xv] w fun e w' => e = .returned (.bool true) ∧ Gr [] w w' := by
  have Hv := hid hv
  obtain ⟨dv, cv, rfl, hdv, hcv⟩ := hv
  obtain ⟨do_, dc, rfl, ⟨hd1, hd2, _⟩, _⟩ := hdv
  have hin := (mem_sols.1 hs).1
  have hsol : solB m.cons xs = true := solB_iff.2 (mem_sols.1 hs).2
  have hlen : m.doms.length = xs.length := by rw [hVM.doms, ints_len, tups_len hin]
  have hall : allB 0 5 xs = true := allB_iff.2 fun x hx => tups_val hin x hx
  have Hx := hid hx
  obtain ⟨xo, xc, rfl, _, _⟩ := hx
  have hg0 : Gr [] w (w.alloc (.cells #[.slice do_ m.doms.length dc, cv] 31)) := (Gr.refl _ _).alloc _
  have hb0 : (w.alloc (.cells #[.slice do_ m.doms.length dc, cv] 31)).heap[w.heap.size]? = some (.cells #[.slice do_ m.doms.length dc, cv] 31 (0, 0)) := heap_alloc_new _ _
  have hfl := fld hb0
  have Hb0 := hid hb0; have HVM := hid hVM; have HI := hid hin; have HS := hid hsol; have HA := hid hall; have HL := hid hlen
  clear hb0 hcv hVM hin hsol hlen hall hs
  go_enter Tryz.func29, Tryz.ntmps29
  go_wp2_with fail
  have hcall := ValidModel_c m _ _ (Hv.out.gr hg0)
  (with_reducible refine hcall.mono ?_)
  clear hcall
  rw [HVM.out.valid]
  rintro e w1 ⟨rfl, hg1⟩
  have hfl1 := fld (hg1.obj Hb0.out (by simp))
  have Hg1 := hid (hg0.trans hg1)
  have hg1' := hid hg1
  clear hfl hg1
  go_wp2_with fail
  have hcall := assigned_t xs m.doms.length HL.out _ w1 (Hx.out.gr Hg1.out) HA.out
  (with_reducible refine hcall.mono ?_)
  clear hcall
  rintro e w2 ⟨rfl, hg2⟩
  have hfl2 := fld ((hg1'.out.trans hg2).obj Hb0.out (by simp))
  have Hg2 := hid (Hg1.out.trans hg2)
  clear hg2 hfl1
  go_wp2_with fail
  have hcall := isSolution_c m D xs _ _ w2 (Hv.out.gr Hg2.out) HVM.out.doms HVM.out.below HVM.out.cons (Hx.out.gr Hg2.out) HI.out HVM.out.len.2
  (with_reducible refine hcall.mono ?_)
  clear hcall
  rw [HS.out]
  rintro e w3 ⟨rfl, hg3⟩
  go_wp2_with fail
  go_ret
  exact ⟨rfl, Hg2.out.trans hg3⟩

/-- A model and a number. -/
def DrawLPost (w : World) (e : Ending) (w' : World) : Prop := ∃ (m : Mod) (mv : Value) (L : Int), e = .returned (.tuple #[mv, .int .i64 L]) ∧ ModV [] w' mv m ∧ m.Small ∧ Gr [] w w'
end Go.Proofs.YtdpcjfbnakfflaaGreat
