/-
  Walks of what a constraint's satisfaction is made of. Walks of the automaton and of the capacity. Walks of the bit operations on domains. Walks of the copies of lists.
  The walk of a constraint's satisfaction, a theorem for each kind.
-/
import Derived.Test.YtmonhpoogfdpoaaGreatXA
import Derived.Test.YtmonhpoogfdpoaaGreatXLib
import Derived.Laws.Cover3
set_option linter.unusedVariables false
namespace Go.Proofs.YtmonhpoogfdpoaaGreat
open Go.RowKit

theorem infoI : (Tryz.prog.info? 3).map (fun i => (i.zero, i.size, i.bytes)) = some (some (.int .i64 0), 1, 8) := by kernel_rfl
theorem cell_one (w : World) (v : Value) (t : TypeId) : (w.alloc (.cells #[v] t)).cell? ⟨w.heap.size, 0, none⟩ = some v := by
  rw [World.cell?_alloc_at _ _ _ _ rfl]; rfl

theorem word_snoc {vars x : List Int} {n : Nat} {v y : Int} (hv : vars[n]? = some v) (hy : x[v.toNat]? = some y) : word (vars.take (n + 1)) x = word (vars.take n) x ++ [y] := by
  unfold word
  rw [List.take_succ_eq_append_getElem (List.getElem?_eq_some_iff.1 hv).1, List.map_append]
  obtain ⟨h1, rfl⟩ := List.getElem?_eq_some_iff.1 hv
  simp [hy]

/-- 'word': a list of the call's own. -/
theorem word_c (c : Con) (x : List Int) (cv xv : Value) (w : World) (hv : ConV [] w cv c) (hx : Nums [] w .i64 xv x) (hl : c.vars.length ≤ 2000000) (hin : ∀ v ∈ c.vars, 0 ≤ v ∧ v < x.length) :
    Calls Tryz.prog 18 #[cv, xv] w fun e w' => ∃ v, e = .returned v ∧ Own w.heap.size w' 3 v (word c.vars x) ∧ Gr [] w w' := by
  obtain ⟨vv, av, rv, rfl, hvv, hav, hrv⟩ := hv
  have hg0 : Gr [] w (w.alloc (.cells #[.int .i64 c.kind, vv, av, .int .i64 c.bound, rv] 26)) := (Gr.refl _ _).alloc _
  have hb0 : (w.alloc (.cells #[.int .i64 c.kind, vv, av, .int .i64 c.bound, rv] 26)).heap[w.heap.size]? = some (.cells #[.int .i64 c.kind, vv, av, .int .i64 c.bound, rv] 26 (0, 0)) := heap_alloc_new _ _
  obtain ⟨vo, vc, rfl, ⟨hv1, hv2, _⟩, hvc⟩ := hvv
  obtain ⟨xo, xc, rfl, ⟨hx1, hx2, _⟩, hxc⟩ := hx
  have Hvc := hid hvc; have Hxc := hid hxc; have Hin := hid hin
  clear hvc hxc hin hav hrv
  have hfl := fld hb0
  have Hb0 := hid hb0; clear hb0
  have hxl : x.length ≤ 9223372036854775807 := by omega
  go_enter Tryz.func18, Tryz.ntmps18
  go_wp2_with (at_make; refine wp_mk0 rfl _ _ 23 rfl w.heap.size 3 infoI Tryz.underlying23 c.vars.length rfl rfl (by omega) (by simp) ?_; intro w1 hown1 hg1; have hfl1 := fld (hg1.obj Hb0.out (by simp)))
  have hg01 := hg0.trans hg1
  have Hg01 := hid hg01
  clear hg1 hg01
  go_loopw [5, 15] (fun v i wr => ∃ n : Nat, n ≤ c.vars.length ∧ i = .int .i64 n ∧ Own w.heap.size wr 3 v (word (c.vars.take n) x) ∧ Gr [] w wr) (fun _ i _ => c.vars.length - (intOf i).toNat)
  case atStart => exact ⟨0, Nat.zero_le _, rfl, by simpa [word] using hown1, Hg01.out⟩
  case round =>
    obtain ⟨n, hn, rfl, hown, hg⟩ := hrel
    by_cases hlt : n < c.vars.length
    · obtain ⟨v, hv⟩ := get_some hlt
      have hvr := Hin.out v (List.mem_of_getElem? hv)
      obtain ⟨v, rfl⟩ := Int.eq_ofNat_of_zero_le hvr.1
      obtain ⟨y, hy⟩ := get_some (show v < x.length by omega)
      obtain ⟨b, o, rfl, _, h0⟩ := (Hvc.out.gr hg) n _ hv
      obtain ⟨b', o', rfl, _, h1⟩ := (Hxc.out.gr hg) v y hy
      have HV := hid hv; have HY := hid hy; clear hv hy
      have hvx : v < x.length := by omega
      have hwl : (word (c.vars.take n) x).length ≤ 1000000000000 := by simp [word]; omega
      have Hwl := hid hwl; clear hwl
      go_wp2_with (at_builtin; refine wp_app1 rfl _ _ 23 rfl w.heap.size 3 infoI Tryz.underlying23 _ (word (c.vars.take n) x) rfl (hown.alloc _) _ 1 y rfl (cell_one _ _ _) Hwl.out (by have := hg.size; simp; omega) ?_; intro v' w2 hown2 hb2)
      refine ⟨⟨n + 1, by omega, by go_num, ?_, (hg.alloc _).low hb2 (Nat.le_refl _)⟩, by simp [intOf]; omega⟩
      rw [word_snoc HV.out (by simpa using HY.out)]
      exact hown2
    · go_wp2_with fail
      go_ret
      refine ⟨_, rfl, ?_, hg⟩
      rw [List.take_of_length_le (by omega)] at hown
      exact hown

theorem sliceEqual_c (xs ys : List Int) (vx vy : Value) (w : World) (hx : Nums [] w .i64 vx xs) (hy : Nums [] w .i64 vy ys) :
    Calls Tryz.prog 74 #[vx, vy] w fun e w' => e = .returned (.bool (decide (xs = ys))) ∧ Gr [] w w' := by
  obtain ⟨xo, xc, rfl, ⟨hx1, hx2, _⟩, hxc⟩ := hx
  obtain ⟨yo, yc, rfl, ⟨hy1, hy2, _⟩, hyc⟩ := hy
  have Hxc := hid hxc; have Hyc := hid hyc; clear hxc hyc
  have hxl : xs.length ≤ 9223372036854775807 := by omega
  have hyl : ys.length ≤ 9223372036854775807 := by omega
  cases hl : ((xs.length : Int) != (ys.length : Int))
  rotate_left
  · have hne : xs ≠ ys := by rintro rfl; simp at hl
    have Hne := hid hne; clear hne
    go_enter Tryz.func74, Tryz.ntmps74
    go_wp2_with fail
    go_ret
    exact ⟨ret_bool (by simp [Hne.out]), Gr.refl _ _⟩
  have hle : xs.length ≤ ys.length := by simp at hl; omega
  have hge : ys.length ≤ xs.length := by simp at hl; omega
  go_enter Tryz.func74, Tryz.ntmps74
  go_wp2_with fail
  go_loopw [13] (fun i wr => ∃ n : Nat, n ≤ xs.length ∧ i = .int .i64 n ∧ (xs.drop n = ys.drop n ↔ xs = ys) ∧ Gr [] w wr) (fun i _ => xs.length - (intOf i).toNat)
  case atStart => exact ⟨0, Nat.zero_le _, rfl, by simp, Gr.refl _ _⟩
  case round =>
    obtain ⟨n, hn, rfl, hd, hg⟩ := hrel
    have Hd := hid hd; clear hd
    by_cases hlt : n < xs.length
    · obtain ⟨x, hx⟩ := get_some hlt
      obtain ⟨y, hy⟩ := get_some (show n < ys.length by omega)
      obtain ⟨b, o, rfl, _, h0⟩ := (Hxc.out.gr hg) n x hx
      obtain ⟨b', o', rfl, _, h1⟩ := (Hyc.out.gr hg) n y hy
      have HX := hid (drop_cons hx); have HY := hid (drop_cons hy); clear hx hy
      have hny : n < ys.length := by omega
      cases hb : (x != y)
      · go_wp2_with fail
        go_quiet (fail)
        go_wp2_with fail
        refine ⟨⟨n + 1, by omega, by go_num, ?_, hg.drewN _⟩, by simp [intOf]; omega⟩
        have := Hd.out
        rw [HX.out, HY.out] at this
        have e : x = y := by simpa using hb
        rw [← this, e]; simp
      · go_wp2_with fail
        go_quiet (fail)
        go_wp2_with fail
        go_ret
        refine ⟨ret_bool ?_, hg.drewN _⟩
        have := Hd.out
        rw [HX.out, HY.out] at this
        have e : x ≠ y := by simpa using hb
        symm
        rw [decide_eq_false_iff_not, ← this]; simp [e]
    · go_wp2_with fail
      go_ret
      refine ⟨ret_bool ?_, hg⟩
      symm
      rw [decide_eq_true_eq, ← Hd.out, drop_end (by omega), drop_end (by omega)]

/-- The closure of cycle: block b holds the list. -/
theorem cycleLit_c (v : Int) (xs : List Int) (xo : Option Addr) (xc b : Nat) (w : World) (hb : w.cell? ⟨b, 0, none⟩ = some (.slice xo xs.length xc)) :
    Calls Tryz.prog 96 #[.int .i64 v, .pointer (some ⟨b, 0, none⟩)] w fun e w' => e = .returned (.bool (decide ((xs.length : Int) ≤ v))) ∧ Gr [] w w' := by
  go_enter Tryz.func96, Tryz.ntmps96
  go_wp2_with fail
  go_ret
  exact ⟨rfl, Gr.refl _ _⟩

theorem circ_step (xs : List Int) (n : Nat) (y : Int) (hn : n < xs.length) (y' : Int) (hy' : xs.getD y.toNat 0 = y') (hlt : y' < xs.length) :
    circ xs (xs.length - n) y ((n : Int) + 1) = if y' = 0 then decide ((n : Int) + 1 = xs.length) else circ xs (xs.length - (n + 1)) y' ((n : Int) + 1 + 1) := by
  obtain ⟨f, hf⟩ : ∃ f, xs.length - n = f + 1 := ⟨xs.length - n - 1, by omega⟩
  rw [hf, circ, hy', if_neg (show ¬ ((xs.length : Int) ≤ y') by omega)]
  have : f = xs.length - (n + 1) := by omega
  rw [this]

theorem cycle_c (xs : List Int) (v : Value) (w : World) (hv : Nums [] w .i64 v xs) (hl : 1 ≤ xs.length ∧ xs.length ≤ 4) (hval : ∀ x ∈ xs, 0 ≤ x ∧ x ≤ 5) :
    Calls Tryz.prog 77 #[v] w fun e w' => e = .returned (.bool (circuitB xs)) ∧ Gr [] w w' := by
  have hg0 : Gr [] w (w.alloc (.cells #[v] 23)) := (Gr.refl _ _).alloc _
  have hb0 : (w.alloc (.cells #[v] 23)).heap[w.heap.size]? = some (.cells #[v] 23 (0, 0)) := heap_alloc_new _ _
  have Hv := hid (hv.gr hg0)
  obtain ⟨ao, cap, rfl, ⟨hlc, hcm, _⟩, hc⟩ := hv
  have Hc := hid (hc.gr hg0); clear hc
  have hfl := fld hb0
  have Hb0 := hid hb0; clear hb0
  have Hval := hid hval; clear hval
  go_enter Tryz.func77, Tryz.ntmps77
  go_wp2_with fail
  refine (contains_c [] xs (fun v => decide ((xs.length : Int) ≤ v)) _ 96 _ _ Hv.out (fun _ _ => by kernel_rfl) ?_).mono ?_
  · intro x w1 _ hg
    exact cycleLit_c x xs ao cap _ w1 (hg.cell (hfl 0) (by simp))
  rintro e w1 ⟨rfl, hg1⟩
  have hfl1 := fld (hg1.obj Hb0.out (by simp))
  cases hb : anyB (fun v => decide ((xs.length : Int) ≤ v)) xs
  rotate_left
  · go_wp2_with fail
    go_ret
    refine ⟨ret_bool ?_, hg0.trans hg1⟩
    cases h : circuitB xs
    · rfl
    · have := circuit_lt hl Hval.out h
      obtain ⟨x, hx, hp⟩ := List.any_eq_true.1 hb
      have := this x hx
      simp at hp; omega
  have hlt : ∀ x ∈ xs, x < xs.length := by
    intro x hx
    have := List.any_eq_false.1 hb x hx
    simp at this; omega
  have Hlt := hid hlt; clear hlt
  obtain ⟨x0, hx0⟩ := get_some (show 0 < xs.length by omega)
  obtain ⟨b, o, rfl, _, h0⟩ := (Hc.out.gr hg1) 0 x0 hx0
  have hx0r := Hval.out x0 (List.mem_of_getElem? hx0)
  have hx0l := Hlt.out x0 (List.mem_of_getElem? hx0)
  have HX0 := hid hx0; clear hx0
  have hl0 : 0 < xs.length := by omega
  rw [Nat.add_zero] at h0
  go_wp2_with fail
  go_loop [3, 4] (fun a s => ∃ (y n : Nat), a = .int .i64 y ∧ s = .int .i64 n ∧ y < xs.length ∧ (1 ≤ n ∧ n ≤ xs.length + 1) ∧ (if (y : Int) = 0 then decide ((n : Int) = xs.length) else circ xs (xs.length - n) y ((n : Int) + 1)) = circuitB xs) (fun _ s => xs.length + 1 - (intOf s).toNat)
  case atStart =>
    obtain ⟨y, rfl⟩ := Int.eq_ofNat_of_zero_le hx0r.1
    refine ⟨y, 1, rfl, rfl, by omega, by omega, ?_⟩
    obtain ⟨f, hf⟩ : ∃ f, xs.length = f + 1 := ⟨xs.length - 1, by omega⟩
    have e : xs.getD (0 : Int).toNat 0 = y := by simp [HX0.out]
    have h1 : circuitB xs = circ xs (f + 1) 0 1 := by unfold circuitB; rw [hf]
    have h2 : xs.length - 1 = f := by omega
    rw [h1, circ, e, if_neg (show ¬ ((xs.length : Int) ≤ (y : Int)) by omega), h2]
    rfl
  case round =>
    obtain ⟨y, n, rfl, rfl, hyl, hn, hR⟩ := hrel
    have HR := hid hR; clear hR
    cases hy0 : ((y : Int) != 0)
    · have hy1 : ((y : Int) == 0) = true := by simpa using hy0
      have hyz : y = 0 := by simpa using hy0
      have hR2 : circuitB xs = ((n : Int) == xs.length) := by rw [← HR.out, if_pos (by omega)]; rfl
      have HR2 := hid hR2; clear hR2 hyz
      go_wp2_with fail
      all_goals go_ret
      all_goals exact ⟨ret_bool (by rw [HR2.out]), hg0.trans hg1⟩
    · have hy1 : ((y : Int) == 0) = false := by simpa using hy0
      have hyz : ¬ (y : Int) = 0 := by simpa using hy0
      by_cases hnl : n ≤ xs.length
      · obtain ⟨z, hz⟩ := get_some hyl
        obtain ⟨b2, o2, he, _, h1⟩ := (Hc.out.gr hg1) y z hz
        obtain ⟨rfl, rfl⟩ : b2 = b ∧ o2 = o := by simpa [eq_comm] using he
        have hzr := Hval.out z (List.mem_of_getElem? hz)
        have hzl := Hlt.out z (List.mem_of_getElem? hz)
        obtain ⟨z, rfl⟩ := Int.eq_ofNat_of_zero_le hzr.1
        have HZ := hid hz; clear hz he
        have Hyz := hid hyz; clear hyz
        go_wp2_with fail
        refine ⟨⟨z, n + 1, rfl, by go_num, by omega, by omega, ?_⟩, by simp [intOf]; omega⟩
        rw [← HR.out, if_neg Hyz.out]
        by_cases hnn : n < xs.length
        · rw [circ_step xs n y hnn z (by simp [HZ.out]) (by omega)]; rfl
        · have e1 : xs.length - n = 0 := by omega
          have e2 : xs.length - (n + 1) = 0 := by omega
          rw [e1, e2]; simp [circ]; omega
      · have hR2 : circuitB xs = false := by
          rw [← HR.out, if_neg hyz]
          have e1 : xs.length - n = 0 := by omega
          rw [e1]; rfl
        have HR2 := hid hR2; clear hR2 hyz
        go_wp2_with fail
        all_goals go_ret
        all_goals exact ⟨ret_bool (by rw [HR2.out]), hg0.trans hg1⟩
end Go.Proofs.YtmonhpoogfdpoaaGreat

namespace Go.Proofs.YtmonhpoogfdpoaaGreat
open Go.RowKit

theorem rowsIn_get {rows : List (List Int)} {many lo hi : Int} (h : rowsInB rows many lo hi = true) {i : Nat} {r : List Int} (hr : rows[i]? = some r) : (r.length : Int) = many ∧ ∀ x ∈ r, lo ≤ x ∧ x ≤ hi := by
  simp only [rowsInB, Bool.and_eq_true] at h
  have := List.all_eq_true.1 h.2 r (List.mem_of_getElem? hr)
  simp only [rowOk, Bool.and_eq_true] at this
  exact ⟨by simpa [eqI] using this.1, allB_iff.1 this.2⟩
theorem rowsIn_pos {rows : List (List Int)} {many lo hi : Int} (h : rowsInB rows many lo hi = true) : 1 ≤ rows.length ∧ rows.length ≤ 8 := by
  simp only [rowsInB, Bool.and_eq_true] at h
  have := inB_iff.1 h.1; omega

theorem accepts_c (c : Con) (xs : List Int) (cv xv : Value) (w : World) (hv : ConV [] w cv c) (hx : Nums [] w .i64 xv xs) (hval : ∀ x ∈ xs, 0 ≤ x ∧ x ≤ 5)
    (hrows : rowsInB c.rows 6 (-1) ((c.rows.length : Int) - 1) = true) :
    Calls Tryz.prog 76 #[cv, xv] w fun e w' => e = .returned (.bool (acceptsB c.args c.rows xs)) ∧ Gr [] w w' := by
  obtain ⟨vv, av, rv, rfl, hvv, hav, hrv⟩ := hv
  have hg0 : Gr [] w (w.alloc (.cells #[.int .i64 c.kind, vv, av, .int .i64 c.bound, rv] 26)) := (Gr.refl _ _).alloc _
  have hb0 : (w.alloc (.cells #[.int .i64 c.kind, vv, av, .int .i64 c.bound, rv] 26)).heap[w.heap.size]? = some (.cells #[.int .i64 c.kind, vv, av, .int .i64 c.bound, rv] 26 (0, 0)) := heap_alloc_new _ _
  have Hav := hid (hav.gr hg0)
  obtain ⟨ro, rc, rfl, ⟨hr1, hr2, _⟩, hrc⟩ := hrv
  obtain ⟨xo, xc, rfl, ⟨hx1, hx2, _⟩, hxc⟩ := hx
  have Hrc := hid (hrc.gr hg0); have Hxc := hid (hxc.gr hg0)
  have hrp := rowsIn_pos hrows
  have Hrows := hid hrows; have Hval := hid hval
  clear hrc hxc hvv hav hrows hval
  have hfl := fld hb0
  clear hb0
  have hxl : xs.length ≤ 9223372036854775807 := by omega
  go_enter Tryz.func76, Tryz.ntmps76
  go_wp2_with fail
  go_loop [5, 10] (fun s i => ∃ (n k : Nat), n ≤ xs.length ∧ i = .int .i64 n ∧ s = .int .i64 k ∧ k < c.rows.length ∧ runA c.rows k (xs.drop n) = runA c.rows 0 xs) (fun _ i => xs.length - (intOf i).toNat)
  case atStart => exact ⟨0, 0, Nat.zero_le _, rfl, rfl, by omega, rfl⟩
  case round =>
    obtain ⟨n, k, hn, rfl, rfl, hk, hR⟩ := hrel
    have HR := hid hR; clear hR
    by_cases hlt : n < xs.length
    · obtain ⟨v, hv⟩ := get_some hlt
      have hvr := Hval.out v (List.mem_of_getElem? hv)
      obtain ⟨v, rfl⟩ := Int.eq_ofNat_of_zero_le hvr.1
      obtain ⟨r, hr⟩ := get_some hk
      have hrr := rowsIn_get Hrows.out hr
      have hvl : v < r.length := by omega
      obtain ⟨s, hs⟩ := get_some hvl
      have hsr := hrr.2 s (List.mem_of_getElem? hs)
      obtain ⟨b, o, rfl, _, h0⟩ := Hxc.out n _ hv
      obtain ⟨b', o', rv, rfl, _, h1, hrn⟩ := Hrc.out k r hr
      obtain ⟨po, pc, rfl, ⟨hp1, hp2, _⟩, hpc⟩ := hrn
      obtain ⟨b2, o2, rfl, _, h2⟩ := hpc v s hs
      have HS : Hid (stepA c.rows k v = s) := hid (by simp [stepA, hr, hs])
      have HV := hid (drop_cons hv)
      clear hv hr hs hpc hrr
      by_cases hneg : s < 0
      · go_wp2_with fail
        go_ret
        refine ⟨ret_bool ?_, hg0⟩
        have : runA c.rows 0 xs = -1 := by rw [← HR.out, HV.out, runA, HS.out, if_pos hneg]
        simp [acceptsB, this]
      · have hneg' : 0 ≤ s := by omega
        obtain ⟨s, rfl⟩ := Int.eq_ofNat_of_zero_le hneg'
        go_wp2_with fail
        refine ⟨⟨n + 1, s, by omega, by go_num, rfl, by omega, ?_⟩, by simp [intOf]; omega⟩
        rw [← HR.out, HV.out, runA, HS.out, if_neg hneg]
    · go_wp2_with fail
      refine (containsInt_c c.args k _ _ Hav.out).mono ?_
      rintro e w1 ⟨rfl, hg1⟩
      go_wp2_with fail
      go_ret
      refine ⟨ret_bool ?_, hg0.trans hg1⟩
      have : runA c.rows 0 xs = k := by rw [← HR.out, drop_end (by omega)]; rfl
      simp [acceptsB, this, memB]

set_option maxHeartbeats 800000 in
theorem roomy_c (c : Con) (xs : List Int) (cv xv : Value) (w : World) (hv : ConV [] w cv c) (hx : Nums [] w .i64 xv xs) (hval : ∀ x ∈ xs, 0 ≤ x ∧ x ≤ 5)
    (hl : c.args.length = 2 * xs.length) (hxl4 : xs.length ≤ 4) (hargs : ∀ a ∈ c.args, 0 ≤ a ∧ a ≤ 9) :
    Calls Tryz.prog 75 #[cv, xv] w fun e w' => e = .returned (.bool (roomyB c.args c.bound xs)) ∧ Gr [] w w' := by
  obtain ⟨vv, av, rv, rfl, hvv, hav, hrv⟩ := hv
  have hg0 : Gr [] w (w.alloc (.cells #[.int .i64 c.kind, vv, av, .int .i64 c.bound, rv] 26)) := (Gr.refl _ _).alloc _
  have hb0 : (w.alloc (.cells #[.int .i64 c.kind, vv, av, .int .i64 c.bound, rv] 26)).heap[w.heap.size]? = some (.cells #[.int .i64 c.kind, vv, av, .int .i64 c.bound, rv] 26 (0, 0)) := heap_alloc_new _ _
  obtain ⟨ao, ac, rfl, ⟨ha1, ha2, _⟩, hac⟩ := hav
  obtain ⟨xo, xc, rfl, ⟨hx1, hx2, _⟩, hxc⟩ := hx
  have Hac := hid (hac.gr hg0); have Hxc := hid (hxc.gr hg0)
  have Hval := hid hval; have Hargs := hid hargs
  have hl1 : c.args.length ≤ 2 * xs.length := by omega
  have hl2 : 2 * xs.length ≤ c.args.length := by omega
  have hal : c.args.length ≤ 9223372036854775807 := by omega
  clear hl hac hxc hvv hrv hval hargs
  have hfl := fld hb0
  clear hb0
  go_enter Tryz.func75, Tryz.ntmps75
  go_wp2_with fail
  go_loop [12] (fun i => ∃ n : Nat, n ≤ 15 ∧ i = .int .i64 n ∧ ∀ t : Nat, t < n → load t xs (c.args.take xs.length) (c.args.drop xs.length) ≤ c.bound) (fun i => 15 - (intOf i).toNat)
  case atStart => exact ⟨0, Nat.zero_le _, rfl, by intro t ht; omega⟩
  case round =>
    obtain ⟨t, ht, rfl, hT⟩ := hrel
    have HT := hid hT; clear hT
    by_cases hlt : t < 15
    · go_wp2_with fail
      go_loop [7, 17] (fun s i => ∃ (n k : Nat), n ≤ xs.length ∧ i = .int .i64 n ∧ s = .int .i64 k ∧ k ≤ 9 * n ∧ (k : Int) + load t (xs.drop n) ((c.args.take xs.length).drop n) ((c.args.drop xs.length).drop n) = load t xs (c.args.take xs.length) (c.args.drop xs.length)) (fun _ i => xs.length - (intOf i).toNat)
      case atStart => exact ⟨0, 0, Nat.zero_le _, rfl, rfl, by omega, by simp⟩
      case round =>
        obtain ⟨n, k, hn, rfl, rfl, hk, hR⟩ := hrel
        have HR := hid hR; clear hR
        by_cases hnl : n < xs.length
        · obtain ⟨x, hx⟩ := get_some hnl
          obtain ⟨d, hd⟩ := get_some (show n < c.args.length by omega)
          obtain ⟨e, he⟩ := get_some (show xs.length + n < c.args.length by omega)
          have hxr := Hval.out x (List.mem_of_getElem? hx)
          have hdr := Hargs.out d (List.mem_of_getElem? hd)
          have her := Hargs.out e (List.mem_of_getElem? he)
          obtain ⟨b, o, rfl, _, h0⟩ := Hxc.out n x hx
          obtain ⟨b', o', rfl, _, h1⟩ := Hac.out n d hd
          obtain ⟨b2, o2, e2, _, h2⟩ := Hac.out (xs.length + n) e he
          obtain ⟨rfl, rfl⟩ : b2 = b' ∧ o2 = o' := by simpa [eq_comm] using e2
          have HX := hid (drop_cons hx)
          have HD := hid (drop_cons (xs := c.args.take xs.length) (k := n) (x := d) (by rw [List.getElem?_take, if_pos hnl]; exact hd))
          have HE := hid (drop_cons (xs := c.args.drop xs.length) (k := n) (x := e) (by rw [List.getElem?_drop]; exact he))
          clear hx hd he e2
          have hna : n < c.args.length := by omega
          have hnb : xs.length + n < c.args.length := by omega
          obtain ⟨e, rfl⟩ := Int.eq_ofNat_of_zero_le her.1
          have Hfin : Hid (∀ k' : Nat, k' = (if x ≤ (t : Int) ∧ (t : Int) < x + d then k + e else k) → (k' : Int) + load t (xs.drop (n + 1)) ((c.args.take xs.length).drop (n + 1)) ((c.args.drop xs.length).drop (n + 1)) = load t xs (c.args.take xs.length) (c.args.drop xs.length)) := hid (by
            intro k' hk'
            rw [← HR.out, HX.out, HD.out, HE.out, load]
            rw [hk']
            split <;> omega)
          by_cases hc1 : x ≤ (t : Int)
          · by_cases hc2 : (t : Int) < x + d
            · go_wp2_with fail
              exact ⟨⟨n + 1, k + e, by omega, by go_num, by go_num, by omega, Hfin.out _ (by rw [if_pos ⟨hc1, hc2⟩])⟩, by simp [intOf]; omega⟩
            · go_wp2_with fail
              exact ⟨⟨n + 1, k, by omega, by go_num, rfl, by omega, Hfin.out _ (by rw [if_neg (by omega)])⟩, by simp [intOf]; omega⟩
          · go_wp2_with fail
            exact ⟨⟨n + 1, k, by omega, by go_num, rfl, by omega, Hfin.out _ (by rw [if_neg (by omega)])⟩, by simp [intOf]; omega⟩
        · have hk' : (k : Int) = load t xs (c.args.take xs.length) (c.args.drop xs.length) := by
            have := HR.out
            rw [drop_end (xs := xs) (by omega)] at this
            simpa [load] using this
          have HK := hid hk'; clear hk'
          by_cases hb : c.bound < (k : Int)
          · go_wp2_with fail
            go_ret
            refine ⟨ret_bool ?_, hg0⟩
            symm
            unfold roomyB
            rw [List.all_eq_false]
            exact ⟨t, by simpa using hlt, by rw [← HK.out]; simp; omega⟩
          · go_wp2_with fail
            refine ⟨⟨t + 1, by omega, by go_num, ?_⟩, by simp [intOf]; omega⟩
            intro t' ht'
            by_cases e : t' = t
            · subst e; rw [← HK.out]; omega
            · exact HT.out t' (by omega)
    · go_wp2_with fail
      go_ret
      refine ⟨ret_bool ?_, hg0⟩
      symm
      unfold roomyB
      rw [List.all_eq_true]
      intro t' ht'
      have : t' < 15 := by simpa using ht'
      simpa using HT.out t' (by omega)
end Go.Proofs.YtmonhpoogfdpoaaGreat

namespace Go.Proofs.YtmonhpoogfdpoaaGreat
open Go.RowKit

/-- The values of a domain below n, and all of them. -/
def valsBelow (d n : Nat) : List Int := ((List.range n).filter fun v => d.testBit v).map fun v : Nat => (v : Int)
def vals (d : Nat) : List Int := valsBelow d 6
theorem valsBelow_succ (d n : Nat) : valsBelow d (n + 1) = valsBelow d n ++ if d.testBit n then [(n : Int)] else [] := by
  unfold valsBelow
  rw [List.range_succ, List.filter_append]
  by_cases h : d.testBit n <;> simp [h]
theorem valsBelow_len (d n : Nat) : (valsBelow d n).length ≤ n := by
  unfold valsBelow
  rw [List.length_map]
  exact Nat.le_trans (List.length_filter_le _ _) (by simp)

theorem testBit_and (d v : Nat) (hd : d < 64) : (bits BinOp.and IntKind.i64 ((d : Int) / 2 ^ v) 1 == 1) = d.testBit v := by
  have e1 : (d : Int) / 2 ^ v = ((d / 2 ^ v : Nat) : Int) := by simp
  have h2 : d / 2 ^ v < 9223372036854775808 := Nat.lt_of_le_of_lt (Nat.div_le_self _ _) (by omega)
  rw [e1, show (1 : Int) = ((1 : Nat) : Int) from rfl, i64_and _ _ h2 (by omega), Nat.and_one_is_mod, Nat.testBit_eq_decide_div_mod_eq, Bool.eq_iff_iff]
  simp only [beq_iff_eq, decide_eq_true_eq]
  omega

theorem has_c (d v : Nat) (hd : d < 64) (hv : v < 6) (w : World) :
    Calls Tryz.prog 41 #[.int .i64 d, .int .i64 v] w fun e w' => e = .returned (.bool (d.testBit v)) ∧ w' = w := by
  go_enter Tryz.func41, Tryz.ntmps41
  go_wp2_with fail
  go_ret
  exact ⟨ret_bool (testBit_and d v hd), rfl⟩

set_option maxRecDepth 100000 in
theorem OnesCount_c (d : Nat) (hd : d < 64) (w : World) :
    Calls Tryz.prog 101 #[.int .u64 d] w fun e w' => e = .returned (.int .i64 (vals d).length) ∧ w' = w := by
  go_enter Tryz.func101, Tryz.ntmps101
  go_wp2
  go_ret
  refine ⟨ret_int ?_, rfl⟩
  clear w
  revert d
  decide +kernel

theorem valuesOf_c (d : Nat) (hd : d < 64) (w : World) :
    Calls Tryz.prog 84 #[.int .i64 d] w fun e w' => ∃ v, e = .returned v ∧ Own w.heap.size w' 3 v (vals d) ∧ Gr [] w w' := by
  have hvl : (vals d).length ≤ 6 := valsBelow_len d 6
  go_enter Tryz.func84, Tryz.ntmps84
  go_wp2_with fail
  refine (OnesCount_c d hd _).mono ?_
  rintro e w1 ⟨rfl, rfl⟩
  go_wp2_with (at_make; refine wp_mk0 rfl _ _ 23 rfl w1.heap.size 3 infoI Tryz.underlying23 (vals d).length rfl rfl (by omega) (Nat.le_refl _) ?_; intro w2 hown2 hg2)
  go_loopw [3, 9] (fun v i wr => ∃ n : Nat, n ≤ 6 ∧ i = .int .i64 n ∧ Own w1.heap.size wr 3 v (valsBelow d n) ∧ Gr [] w1 wr) (fun _ i _ => 6 - (intOf i).toNat)
  case atStart => exact ⟨0, Nat.zero_le _, rfl, hown2, hg2⟩
  case round =>
    obtain ⟨n, hn, rfl, hown, hg⟩ := hrel
    have hsz := hg.size
    by_cases hlt : n < 6
    · have hbl := valsBelow_len d n
      go_wp2_with fail
      refine (has_c d n hd hlt _).mono ?_
      rintro e w3 ⟨rfl, rfl⟩
      have Hs := hid (valsBelow_succ d n)
      cases hb : d.testBit n
      · go_wp2_with fail
        refine ⟨⟨n + 1, by omega, by go_num, ?_, hg⟩, by simp [intOf]; omega⟩
        rw [Hs.out, hb]; simpa using hown
      · go_wp2_with (at_builtin; refine wp_app1 rfl _ _ 23 rfl w1.heap.size 3 infoI Tryz.underlying23 _ (valsBelow d n) rfl (hown.alloc _) _ 1 n rfl (cell_one _ _ _) (by omega) (by simp; omega) ?_; intro v' w4 hown4 hb4)
        refine ⟨⟨n + 1, by omega, by go_num, ?_, (hg.alloc _).low hb4 (Nat.le_refl _)⟩, by simp [intOf]; omega⟩
        rw [Hs.out, hb]; simpa using hown4
    · go_wp2_with fail
      go_ret
      have : n = 6 := by omega
      subst this
      exact ⟨_, rfl, hown, hg⟩
end Go.Proofs.YtmonhpoogfdpoaaGreat

namespace Go.Proofs.YtmonhpoogfdpoaaGreat
open Go.RowKit

theorem run_eql_slice_nil {P : Program} (w : World) (t e : TypeId) (a : Option Addr) (l c : Nat) (h : P.underlying t = some (.slice e)) : (binOp .eql t (.slice a l c) (.slice none 0 0)).run P w = .ok (.bool a.isNone) w := by
  simp only [binOp]
  simp [run_equal_slice_nil w t e a l c h]
attribute [local go_sem] run_eql_slice_nil

set_option maxRecDepth 100000 in
theorem Clone_c (v : Value) (xs : List Int) (w : World) (hx : Nums [] w .i64 v xs) (hl : xs.length ≤ 2000000) :
    Calls Tryz.prog 42 #[v] w fun e w' => ∃ v', e = .returned v' ∧ Own w.heap.size w' 3 v' xs ∧ Gr [] w w' := by
  have hund := Tryz.underlying23
  have Hx := hid hx
  obtain ⟨ao, cap, rfl, ⟨h1, h2, h3⟩, _⟩ := hx
  cases ao with
  | none =>
    have hcap := h3 rfl
    have hxs : xs = [] := List.eq_nil_of_length_eq_zero (by omega)
    clear Hx
    subst hcap hxs
    clear h1 h2 h3
    go_enter Tryz.func42, Tryz.ntmps42
    go_wp2_with fail
    go_ret
    exact ⟨_, rfl, Own.nil _ _ _, Gr.refl _ _⟩
  | some ad =>
    clear h3
    go_enter Tryz.func42, Tryz.ntmps42
    go_wp2_with (at_builtin; refine wp_appN rfl _ _ 23 rfl w.heap.size 3 infoI Tryz.underlying23 _ [] xs rfl (Own.empty w 3 (Nat.le_refl _)) _ [] rfl (Hx.out.gr ((Gr.refl [] w).alloc _)) (by simp; omega) (by simp) ?_; intro v' w' hown hb)
    go_ret
    exact ⟨_, rfl, by simpa using hown, ((Gr.refl [] w).alloc _).low hb (Nat.le_refl _)⟩

/-- A list of numbers at the head of a block from B on; the slice may reach less far than the block. -/
def OwnC (B : Nat) (w : World) (e : TypeId) (v : Value) (xs : List Int) : Prop :=
  (v = .slice none 0 0 ∧ xs = []) ∨ ∃ g cap cur, v = .slice (some ⟨g, 0, none⟩) xs.length cap ∧ B ≤ g ∧ w.heap[g]? = some (.cells cur e (0, 0)) ∧ xs.length ≤ cap ∧ cap ≤ maxLen ∧ cap ≤ cur.size ∧ cur.toList.take xs.length = xs.map (Value.int .i64)
theorem Own.c {B : Nat} {w : World} {e : TypeId} {v : Value} {xs : List Int} (h : Own B w e v xs) : OwnC B w e v xs := by
  rcases h.2 with ⟨h1, h2⟩ | ⟨g, cap, cur, h1, h2, h3, h4, h5, h6, h7⟩
  · exact .inl ⟨h1, List.eq_nil_of_length_eq_zero h2⟩
  · exact .inr ⟨g, cap, cur, h1, h2, h3, h4, h5, by omega, by simpa using h7⟩

theorem OwnC.gr {S : List Nat} {B : Nat} {w w' : World} {e : TypeId} {v : Value} {xs : List Int} (h : OwnC B w e v xs) (hg : Gr S w w') (hS : ∀ b ∈ S, b < B) : OwnC B w' e v xs := by
  rcases h with h | ⟨g, cap, cur, h1, h2, h3, r⟩
  · exact .inl h
  · exact .inr ⟨g, cap, cur, h1, h2, hg.obj h3 (fun hm => by have := hS g hm; omega), r⟩
theorem OwnC.nums' {S : List Nat} {B : Nat} {w : World} {e : TypeId} {v : Value} {xs : List Int} (h : OwnC B w e v xs) (hS : ∀ b ∈ S, b < B ∨ w.heap.size ≤ b) : Nums S w .i64 v xs := by
  rcases h with ⟨rfl, rfl⟩ | ⟨g, cap, cur, rfl, h2, h3, h4, h5, h6, h7⟩
  · exact ⟨none, 0, rfl, ⟨Nat.le_refl _, by omega, fun _ => rfl⟩, fun i x hi => by simp at hi⟩
  · have hlt := (Array.getElem?_eq_some_iff.1 h3).1
    refine ⟨some ⟨g, 0, none⟩, cap, rfl, ⟨h4, by simp only [maxLen] at h5; omega, by simp⟩, fun i x hi => ⟨g, 0, rfl, fun hm => by rcases hS g hm with h | h <;> omega, ?_⟩⟩
    have hil : i < xs.length := (List.getElem?_eq_some_iff.1 hi).1
    have e1 := congrArg (fun t => t[i]?) h7
    simp only [List.getElem?_take, hil, if_true, List.getElem?_map, hi] at e1
    have e2 : cur[i]? = some (.int .i64 x) := by simpa using e1
    simp [World.cell?, h3, e2]
theorem Clip_c (v : Value) (xs : List Int) (w : World) (B : Nat) (hx : OwnC B w 3 v xs) (hl : xs.length ≤ 2000000) :
    Calls Tryz.prog 45 #[v] w fun e w' => ∃ v', e = .returned v' ∧ OwnC B w' 3 v' xs ∧ w' = w := by
  rcases hx with ⟨rfl, rfl⟩ | ⟨g, cap, cur, rfl, h2, h3, h4, h5, h6, h7⟩
  · go_enter Tryz.func45, Tryz.ntmps45
    go_wp2_with fail
    go_ret
    exact ⟨_, rfl, .inl ⟨rfl, rfl⟩, rfl⟩
  · have H := hid (And.intro h3 h7)
    clear h3 h7
    go_enter Tryz.func45, Tryz.ntmps45
    go_wp2_with fail
    go_ret
    exact ⟨_, rfl, .inr ⟨g, xs.length, cur, rfl, h2, H.out.1, Nat.le_refl _, by omega, by omega, H.out.2⟩, rfl⟩

theorem copied_c (v : Value) (xs : List Int) (w : World) (hx : Nums [] w .i64 v xs) (hl : xs.length ≤ 2000000) :
    Calls Tryz.prog 57 #[v] w fun e w' => ∃ v', e = .returned v' ∧ OwnC w.heap.size w' 3 v' xs ∧ Gr [] w w' := by
  have Hx := hid hx
  obtain ⟨ao, cap, rfl, ⟨h1, h2, h3⟩, _⟩ := hx
  go_enter Tryz.func57, Tryz.ntmps57
  go_wp2_with fail
  refine (Clone_c _ xs _ Hx.out hl).mono ?_
  rintro e w1 ⟨v1, rfl, hown, hg⟩
  go_wp2_with fail
  refine (Clip_c v1 xs w1 _ hown.c hl).mono ?_
  rintro e w2 ⟨v2, rfl, hown2, rfl⟩
  go_wp2_with fail
  go_ret
  exact ⟨_, rfl, hown2, hg⟩
end Go.Proofs.YtmonhpoogfdpoaaGreat

set_option linter.unusedVariables false
namespace Go.Proofs.YtmonhpoogfdpoaaGreat
open Go.RowKit

/-- The closure of a table's test: block b holds the word. -/
theorem satLit_c (r xs : List Int) (rv xv : Value) (b : Nat) (w : World) (hb : w.cell? ⟨b, 0, none⟩ = some xv) (hr : Nums [] w .i64 rv r) (hx : Nums [] w .i64 xv xs) :
    Calls Tryz.prog 73 #[rv, .pointer (some ⟨b, 0, none⟩)] w fun e w' => e = .returned (.bool (decide (r = xs))) ∧ Gr [] w w' := by
  go_enter Tryz.func73, Tryz.ntmps73
  go_wp2_with fail
  refine (sliceEqual_c r xs _ _ _ hr hx).mono ?_
  rintro e w1 ⟨rfl, hg1⟩
  go_wp2_with fail
  go_ret
  exact ⟨rfl, hg1⟩

set_option maxHeartbeats 800000 in
theorem sat1_c (c : Con) (xs : List Int) (cv xv : Value) (w : World) (hv : ConV [] w cv c) (hx : Nums [] w .i64 xv xs) (hF : Fit c xs) (hk : c.kind = 1) :
    Calls Tryz.prog 40 #[cv, xv] w fun e w' => e = .returned (.bool (satB c xs)) ∧ Gr [] w w' := by
  obtain ⟨vv, av, rv, rfl, hvv, hav, hrv⟩ := hv
  have hx' := hx
  obtain ⟨xo, xc, rfl, _, _⟩ := hx
  have hg0 : Gr [] w ((w.alloc (.cells #[.int .i64 c.kind, vv, av, .int .i64 c.bound, rv] 26)).alloc (.cells #[.slice xo xs.length xc] 23)) := ((Gr.refl _ _).alloc _).alloc _
  have hb0 : ((w.alloc (.cells #[.int .i64 c.kind, vv, av, .int .i64 c.bound, rv] 26)).alloc (.cells #[.slice xo xs.length xc] 23)).heap[w.heap.size]? = some (.cells #[.int .i64 c.kind, vv, av, .int .i64 c.bound, rv] 26 (0, 0)) := (heap_alloc_old _ _ (by simp)).trans (heap_alloc_new _ _)
  have hx0 : ((w.alloc (.cells #[.int .i64 c.kind, vv, av, .int .i64 c.bound, rv] 26)).alloc (.cells #[.slice xo xs.length xc] 23)).heap[w.heap.size + 1]? = some (.cells #[.slice xo xs.length xc] 23 (0, 0)) := by
    have := heap_alloc_new (w.alloc (.cells #[.int .i64 c.kind, vv, av, .int .i64 c.bound, rv] 26)) (.cells #[.slice xo xs.length xc] 23)
    rwa [World.size_alloc] at this
  have Hx := hid (hx'.gr hg0); have Hav := hid (hav.gr hg0); have Hrv := hid (hrv.gr hg0)
  have Hcv : Hid (ConV [] ((w.alloc (.cells #[.int .i64 c.kind, vv, av, .int .i64 c.bound, rv] 26)).alloc (.cells #[.slice xo xs.length xc] 23)) (.agg #[.int .i64 c.kind, vv, av, .int .i64 c.bound, rv]) c) := hid (ConV.gr ⟨vv, av, rv, rfl, hvv, hav, hrv⟩ hg0)
  have hfit := hF.fits; have Hxl := hid hF.len; have h1 := hF.k1; have h4 := hF.k4; have hval := hF.val
  clear hF hx'
  have t1 : (c.kind == 1) = true := by rw [hk]; rfl
  have hfl := fld hb0; have hfx := fld hx0
  have Hb0 := hid hb0; have Hx0 := hid hx0; have Hval := hid hval; have Hfit := hid hfit; have Hk := hid hk
  clear hb0 hx0 hval hfit hk
  have hf := Hfit.out
  rw [fitsB_1 Hk.out] at hf
  simp only [argsB, eqI, Bool.and_eq_true, beq_iff_eq] at hf
  obtain ⟨⟨⟨hal, hab⟩, hbd⟩, q1⟩ := hf
  clear q1
  have hal' : c.args.length ≤ xs.length := by have := Hxl.out; omega
  have hsa := small_of_allB hab (by omega) (by omega)
  have hsx : Small xs := fun x hx => by have := Hval.out x hx; omega
  have Hsa := hid hsa; have Hsx := hid hsx
  clear hal hab hbd hsa hsx
  have n1 : ∀ n : GrW [] ((w.alloc (.cells #[.int .i64 c.kind, vv, av, .int .i64 c.bound, rv] 26)).alloc (.cells #[.slice xo xs.length xc] 23)), ∀ i, n.val.cell? ⟨w.heap.size, i, none⟩ = #[Value.int .i64 c.kind, vv, av, Value.int .i64 c.bound, rv][i]? := fun n => fld (n.gr.obj Hb0.out (by simp))
  have n2 : ∀ n : GrW [] ((w.alloc (.cells #[.int .i64 c.kind, vv, av, .int .i64 c.bound, rv] 26)).alloc (.cells #[.slice xo xs.length xc] 23)), ∀ i, n.val.cell? ⟨w.heap.size + 1, i, none⟩ = #[Value.slice xo xs.length xc][i]? := fun n => fld (n.gr.obj Hx0.out (by simp))
  go_enter Tryz.func40, Tryz.ntmps40
  go_wp2_with fail
  refine wp_region_gr [] _ (by kernel_rfl) (by kernel_rfl) (Gr.refl _ _) ?_
  repeat (go_big_quiet_step ((go_at_call 72; exact Calls.gr_of (weighted_c c.args xs _ _ _ (Hav.out.gr (GrW.gr _)) (Hx.out.gr (GrW.gr _)) hal' (by omega) Hsa.out Hsx.out))))
  refine wpQuiet_nil ?_
  rintro w6 ⟨n6, hw6⟩
  have hg6 : Gr [] _ w6 := hw6 ▸ n6.gr
  clear hw6 n6 n1 n2
  go_wp2_with fail
  go_ret
  exact ⟨ret_bool (by unfold satB; rw [if_pos Hk.out]), hg0.trans hg6⟩
set_option maxHeartbeats 800000 in
theorem sat2_c (c : Con) (xs : List Int) (cv xv : Value) (w : World) (hv : ConV [] w cv c) (hx : Nums [] w .i64 xv xs) (hF : Fit c xs) (hk : c.kind = 2) :
    Calls Tryz.prog 40 #[cv, xv] w fun e w' => e = .returned (.bool (satB c xs)) ∧ Gr [] w w' := by
  obtain ⟨vv, av, rv, rfl, hvv, hav, hrv⟩ := hv
  have hx' := hx
  obtain ⟨xo, xc, rfl, _, _⟩ := hx
  have hg0 : Gr [] w ((w.alloc (.cells #[.int .i64 c.kind, vv, av, .int .i64 c.bound, rv] 26)).alloc (.cells #[.slice xo xs.length xc] 23)) := ((Gr.refl _ _).alloc _).alloc _
  have hb0 : ((w.alloc (.cells #[.int .i64 c.kind, vv, av, .int .i64 c.bound, rv] 26)).alloc (.cells #[.slice xo xs.length xc] 23)).heap[w.heap.size]? = some (.cells #[.int .i64 c.kind, vv, av, .int .i64 c.bound, rv] 26 (0, 0)) := (heap_alloc_old _ _ (by simp)).trans (heap_alloc_new _ _)
  have hx0 : ((w.alloc (.cells #[.int .i64 c.kind, vv, av, .int .i64 c.bound, rv] 26)).alloc (.cells #[.slice xo xs.length xc] 23)).heap[w.heap.size + 1]? = some (.cells #[.slice xo xs.length xc] 23 (0, 0)) := by
    have := heap_alloc_new (w.alloc (.cells #[.int .i64 c.kind, vv, av, .int .i64 c.bound, rv] 26)) (.cells #[.slice xo xs.length xc] 23)
    rwa [World.size_alloc] at this
  have Hx := hid (hx'.gr hg0); have Hav := hid (hav.gr hg0); have Hrv := hid (hrv.gr hg0)
  have Hcv : Hid (ConV [] ((w.alloc (.cells #[.int .i64 c.kind, vv, av, .int .i64 c.bound, rv] 26)).alloc (.cells #[.slice xo xs.length xc] 23)) (.agg #[.int .i64 c.kind, vv, av, .int .i64 c.bound, rv]) c) := hid (ConV.gr ⟨vv, av, rv, rfl, hvv, hav, hrv⟩ hg0)
  have hfit := hF.fits; have Hxl := hid hF.len; have h1 := hF.k1; have h4 := hF.k4; have hval := hF.val
  clear hF hx'
  have t1 : (c.kind == 1) = false := by rw [hk]; rfl
  have t2 : (c.kind == 2) = true := by rw [hk]; rfl
  have hfl := fld hb0; have hfx := fld hx0
  have Hb0 := hid hb0; have Hx0 := hid hx0; have Hval := hid hval; have Hfit := hid hfit; have Hk := hid hk
  clear hb0 hx0 hval hfit hk
  have hf := Hfit.out
  rw [fitsB_2 Hk.out] at hf
  simp only [argsB, eqI, Bool.and_eq_true, beq_iff_eq] at hf
  obtain ⟨⟨⟨hv2, ⟨ha1, hab⟩⟩, q1⟩, q2⟩ := hf
  clear q1 q2
  obtain ⟨x0, hx0'⟩ := get_some (show 0 < xs.length by omega)
  obtain ⟨x1, hx1'⟩ := get_some (show 1 < xs.length by have := Hxl.out; omega)
  obtain ⟨a0, ha0⟩ := get_some (show 0 < c.args.length by omega)
  have hx0r := Hval.out x0 (List.mem_of_getElem? hx0'); have hx1r := Hval.out x1 (List.mem_of_getElem? hx1')
  have ha0r := allB_iff.1 hab a0 (List.mem_of_getElem? ha0)
  obtain ⟨xo', xc', exv, ⟨hxc1, hxc2, _⟩, hxc⟩ := Hx.out
  obtain ⟨rfl, rfl⟩ : xo' = xo ∧ xc' = xc := by simpa [eq_comm] using exv
  clear exv
  obtain ⟨ao, ac, rfl, ⟨hac1, hac2, _⟩, hac⟩ := Hav.out
  obtain ⟨b, o, rfl, _, c0⟩ := hxc 0 x0 hx0'
  obtain ⟨b', o', e1, _, c1⟩ := hxc 1 x1 hx1'
  obtain ⟨rfl, rfl⟩ : b' = b ∧ o' = o := by simpa [eq_comm] using e1
  obtain ⟨b2, o2, rfl, _, c2⟩ := hac 0 a0 ha0
  rw [Nat.add_zero] at c0 c2
  have HE : Hid (xs.getD 0 0 = x0 ∧ xs.getD 1 0 = x1 ∧ c.args.getD 0 0 = a0) := hid ⟨by simp [hx0'], by simp [hx1'], by simp [ha0]⟩
  have l1 : 1 < xs.length := by have := Hxl.out; omega
  have l2 : 0 < c.args.length := by omega
  have l3 : 0 < xs.length := by omega
  clear hv2 ha1 hab hx0' hx1' ha0 hxc hac e1
  go_enter Tryz.func40, Tryz.ntmps40
  go_wp2_with fail
  go_quiet (fail)
  go_wp2_with fail
  go_ret
  refine ⟨ret_bool ?_, hg0.drewN _⟩
  unfold satB
  rw [if_neg (by have := Hk.out; omega), if_pos Hk.out, HE.out.1, HE.out.2.1, HE.out.2.2]
  rfl
set_option maxHeartbeats 800000 in
theorem sat3_c (c : Con) (xs : List Int) (cv xv : Value) (w : World) (hv : ConV [] w cv c) (hx : Nums [] w .i64 xv xs) (hF : Fit c xs) (hk : c.kind = 3) :
    Calls Tryz.prog 40 #[cv, xv] w fun e w' => e = .returned (.bool (satB c xs)) ∧ Gr [] w w' := by
  obtain ⟨vv, av, rv, rfl, hvv, hav, hrv⟩ := hv
  have hx' := hx
  obtain ⟨xo, xc, rfl, _, _⟩ := hx
  have hg0 : Gr [] w ((w.alloc (.cells #[.int .i64 c.kind, vv, av, .int .i64 c.bound, rv] 26)).alloc (.cells #[.slice xo xs.length xc] 23)) := ((Gr.refl _ _).alloc _).alloc _
  have hb0 : ((w.alloc (.cells #[.int .i64 c.kind, vv, av, .int .i64 c.bound, rv] 26)).alloc (.cells #[.slice xo xs.length xc] 23)).heap[w.heap.size]? = some (.cells #[.int .i64 c.kind, vv, av, .int .i64 c.bound, rv] 26 (0, 0)) := (heap_alloc_old _ _ (by simp)).trans (heap_alloc_new _ _)
  have hx0 : ((w.alloc (.cells #[.int .i64 c.kind, vv, av, .int .i64 c.bound, rv] 26)).alloc (.cells #[.slice xo xs.length xc] 23)).heap[w.heap.size + 1]? = some (.cells #[.slice xo xs.length xc] 23 (0, 0)) := by
    have := heap_alloc_new (w.alloc (.cells #[.int .i64 c.kind, vv, av, .int .i64 c.bound, rv] 26)) (.cells #[.slice xo xs.length xc] 23)
    rwa [World.size_alloc] at this
  have Hx := hid (hx'.gr hg0); have Hav := hid (hav.gr hg0); have Hrv := hid (hrv.gr hg0)
  have Hcv : Hid (ConV [] ((w.alloc (.cells #[.int .i64 c.kind, vv, av, .int .i64 c.bound, rv] 26)).alloc (.cells #[.slice xo xs.length xc] 23)) (.agg #[.int .i64 c.kind, vv, av, .int .i64 c.bound, rv]) c) := hid (ConV.gr ⟨vv, av, rv, rfl, hvv, hav, hrv⟩ hg0)
  have hfit := hF.fits; have Hxl := hid hF.len; have h1 := hF.k1; have h4 := hF.k4; have hval := hF.val
  clear hF hx'
  have t1 : (c.kind == 1) = false := by rw [hk]; rfl
  have t2 : (c.kind == 2) = false := by rw [hk]; rfl
  have t3 : (c.kind == 3) = true := by rw [hk]; rfl
  have hfl := fld hb0; have hfx := fld hx0
  have Hb0 := hid hb0; have Hx0 := hid hx0; have Hval := hid hval; have Hfit := hid hfit; have Hk := hid hk
  clear hb0 hx0 hval hfit hk
  go_enter Tryz.func40, Tryz.ntmps40
  go_wp2_with fail
  refine (distinct_c xs _ _ Hx.out).mono ?_
  rintro e w1 ⟨rfl, hg1⟩
  go_wp2_with fail
  go_ret
  refine ⟨ret_bool ?_, hg0.trans hg1⟩
  unfold satB
  rw [if_neg (by have := Hk.out; omega), if_neg (by have := Hk.out; omega), if_pos Hk.out]
set_option maxHeartbeats 800000 in
theorem sat4_c (c : Con) (xs : List Int) (cv xv : Value) (w : World) (hv : ConV [] w cv c) (hx : Nums [] w .i64 xv xs) (hF : Fit c xs) (hk : c.kind = 4) :
    Calls Tryz.prog 40 #[cv, xv] w fun e w' => e = .returned (.bool (satB c xs)) ∧ Gr [] w w' := by
  obtain ⟨vv, av, rv, rfl, hvv, hav, hrv⟩ := hv
  have hx' := hx
  obtain ⟨xo, xc, rfl, _, _⟩ := hx
  have hg0 : Gr [] w ((w.alloc (.cells #[.int .i64 c.kind, vv, av, .int .i64 c.bound, rv] 26)).alloc (.cells #[.slice xo xs.length xc] 23)) := ((Gr.refl _ _).alloc _).alloc _
  have hb0 : ((w.alloc (.cells #[.int .i64 c.kind, vv, av, .int .i64 c.bound, rv] 26)).alloc (.cells #[.slice xo xs.length xc] 23)).heap[w.heap.size]? = some (.cells #[.int .i64 c.kind, vv, av, .int .i64 c.bound, rv] 26 (0, 0)) := (heap_alloc_old _ _ (by simp)).trans (heap_alloc_new _ _)
  have hx0 : ((w.alloc (.cells #[.int .i64 c.kind, vv, av, .int .i64 c.bound, rv] 26)).alloc (.cells #[.slice xo xs.length xc] 23)).heap[w.heap.size + 1]? = some (.cells #[.slice xo xs.length xc] 23 (0, 0)) := by
    have := heap_alloc_new (w.alloc (.cells #[.int .i64 c.kind, vv, av, .int .i64 c.bound, rv] 26)) (.cells #[.slice xo xs.length xc] 23)
    rwa [World.size_alloc] at this
  have Hx := hid (hx'.gr hg0); have Hav := hid (hav.gr hg0); have Hrv := hid (hrv.gr hg0)
  have Hcv : Hid (ConV [] ((w.alloc (.cells #[.int .i64 c.kind, vv, av, .int .i64 c.bound, rv] 26)).alloc (.cells #[.slice xo xs.length xc] 23)) (.agg #[.int .i64 c.kind, vv, av, .int .i64 c.bound, rv]) c) := hid (ConV.gr ⟨vv, av, rv, rfl, hvv, hav, hrv⟩ hg0)
  have hfit := hF.fits; have Hxl := hid hF.len; have h1 := hF.k1; have h4 := hF.k4; have hval := hF.val
  clear hF hx'
  have t1 : (c.kind == 1) = false := by rw [hk]; rfl
  have t2 : (c.kind == 2) = false := by rw [hk]; rfl
  have t3 : (c.kind == 3) = false := by rw [hk]; rfl
  have t4 : (c.kind == 4) = true := by rw [hk]; rfl
  have hfl := fld hb0; have hfx := fld hx0
  have Hb0 := hid hb0; have Hx0 := hid hx0; have Hval := hid hval; have Hfit := hid hfit; have Hk := hid hk
  clear hb0 hx0 hval hfit hk
  have hf := Hfit.out
  rw [fitsB_4 Hk.out] at hf
  simp only [Bool.and_eq_true, beq_iff_eq] at hf
  obtain ⟨⟨⟨⟨hv2, ha1⟩, hab⟩, q1⟩, q2⟩ := hf
  clear q1 q2
  have ha1' := inB_iff.1 ha1
  obtain ⟨x0, hx0'⟩ := get_some (show 0 < xs.length by omega)
  obtain ⟨x1, hx1'⟩ := get_some (show 1 < xs.length by have := Hxl.out; omega)
  have hx0r := Hval.out x0 (List.mem_of_getElem? hx0')
  obtain ⟨x0, rfl⟩ := Int.eq_ofNat_of_zero_le hx0r.1
  obtain ⟨xo', xc', exv, ⟨hxc1, hxc2, _⟩, hxc⟩ := Hx.out
  obtain ⟨rfl, rfl⟩ : xo' = xo ∧ xc' = xc := by simpa [eq_comm] using exv
  clear exv
  obtain ⟨ao, ac, rfl, ⟨hac1, hac2, _⟩, hac⟩ := Hav.out
  obtain ⟨b, o, rfl, _, c0⟩ := hxc 0 _ hx0'
  obtain ⟨b', o', e1, _, c1⟩ := hxc 1 x1 hx1'
  obtain ⟨rfl, rfl⟩ : b' = b ∧ o' = o := by simpa [eq_comm] using e1
  rw [Nat.add_zero] at c0
  have HE : Hid (xs.getD 0 0 = x0 ∧ xs.getD 1 0 = x1) := hid ⟨by simp [hx0'], by simp [hx1']⟩
  have l1 : 1 < xs.length := by have := Hxl.out; omega
  have l3 : 0 < xs.length := by omega
  by_cases hlt : x0 < c.args.length
  · obtain ⟨a, ha⟩ := get_some hlt
    obtain ⟨b2, o2, rfl, _, c2⟩ := hac x0 a ha
    have HA : Hid (c.args.getD x0 0 = a) := hid (by simp [ha])
    have hd : decide ((x0 : Int) < (c.args.length : Int)) = true := by simpa using hlt
    clear hv2 ha1 hab hx0' hx1' hxc hac e1 ha
    go_enter Tryz.func40, Tryz.ntmps40
    go_wp2_with fail
    go_quiet (fail)
    go_wp2_with fail
    go_ret
    refine ⟨ret_bool ?_, hg0.drewN _⟩
    unfold satB
    rw [if_neg (by have := Hk.out; omega), if_neg (by have := Hk.out; omega), if_neg (by have := Hk.out; omega), if_pos Hk.out, HE.out.1, HE.out.2, hd, Int.toNat_natCast, HA.out]
    rfl
  · have hd : decide ((x0 : Int) < (c.args.length : Int)) = false := by simpa using hlt
    clear hv2 ha1 hab hx0' hx1' hxc hac e1
    go_enter Tryz.func40, Tryz.ntmps40
    go_wp2_with fail
    go_quiet (fail)
    go_wp2_with fail
    go_ret
    refine ⟨ret_bool ?_, hg0.drewN _⟩
    unfold satB
    rw [if_neg (by have := Hk.out; omega), if_neg (by have := Hk.out; omega), if_neg (by have := Hk.out; omega), if_pos Hk.out, HE.out.1, hd]
    rfl
set_option maxHeartbeats 800000 in
theorem sat5_c (c : Con) (xs : List Int) (cv xv : Value) (w : World) (hv : ConV [] w cv c) (hx : Nums [] w .i64 xv xs) (hF : Fit c xs) (hk : c.kind = 5) :
    Calls Tryz.prog 40 #[cv, xv] w fun e w' => e = .returned (.bool (satB c xs)) ∧ Gr [] w w' := by
  obtain ⟨vv, av, rv, rfl, hvv, hav, hrv⟩ := hv
  have hx' := hx
  obtain ⟨xo, xc, rfl, _, _⟩ := hx
  have hg0 : Gr [] w ((w.alloc (.cells #[.int .i64 c.kind, vv, av, .int .i64 c.bound, rv] 26)).alloc (.cells #[.slice xo xs.length xc] 23)) := ((Gr.refl _ _).alloc _).alloc _
  have hb0 : ((w.alloc (.cells #[.int .i64 c.kind, vv, av, .int .i64 c.bound, rv] 26)).alloc (.cells #[.slice xo xs.length xc] 23)).heap[w.heap.size]? = some (.cells #[.int .i64 c.kind, vv, av, .int .i64 c.bound, rv] 26 (0, 0)) := (heap_alloc_old _ _ (by simp)).trans (heap_alloc_new _ _)
  have hx0 : ((w.alloc (.cells #[.int .i64 c.kind, vv, av, .int .i64 c.bound, rv] 26)).alloc (.cells #[.slice xo xs.length xc] 23)).heap[w.heap.size + 1]? = some (.cells #[.slice xo xs.length xc] 23 (0, 0)) := by
    have := heap_alloc_new (w.alloc (.cells #[.int .i64 c.kind, vv, av, .int .i64 c.bound, rv] 26)) (.cells #[.slice xo xs.length xc] 23)
    rwa [World.size_alloc] at this
  have Hx := hid (hx'.gr hg0); have Hav := hid (hav.gr hg0); have Hrv := hid (hrv.gr hg0)
  have Hcv : Hid (ConV [] ((w.alloc (.cells #[.int .i64 c.kind, vv, av, .int .i64 c.bound, rv] 26)).alloc (.cells #[.slice xo xs.length xc] 23)) (.agg #[.int .i64 c.kind, vv, av, .int .i64 c.bound, rv]) c) := hid (ConV.gr ⟨vv, av, rv, rfl, hvv, hav, hrv⟩ hg0)
  have hfit := hF.fits; have Hxl := hid hF.len; have h1 := hF.k1; have h4 := hF.k4; have hval := hF.val
  clear hF hx'
  have t1 : (c.kind == 1) = false := by rw [hk]; rfl
  have t2 : (c.kind == 2) = false := by rw [hk]; rfl
  have t3 : (c.kind == 3) = false := by rw [hk]; rfl
  have t4 : (c.kind == 4) = false := by rw [hk]; rfl
  have t5 : (c.kind == 5) = true := by rw [hk]; rfl
  have hfl := fld hb0; have hfx := fld hx0
  have Hb0 := hid hb0; have Hx0 := hid hx0; have Hval := hid hval; have Hfit := hid hfit; have Hk := hid hk
  clear hb0 hx0 hval hfit hk
  go_enter Tryz.func40, Tryz.ntmps40
  go_wp2_with fail
  refine (containsRow_c c.rows (fun r => decide (r = xs)) _ 73 _ _ Hrv.out (fun _ _ => by kernel_rfl) ?_).mono ?_
  · intro r rv' w2 _ hg2 hr
    exact satLit_c r xs rv' _ _ w2 (hg2.cell (hfx 0) (by simp)) hr (Hx.out.gr hg2)
  rintro e w1 ⟨rfl, hg1⟩
  go_wp2_with fail
  go_ret
  refine ⟨ret_bool ?_, hg0.trans hg1⟩
  unfold satB
  rw [if_neg (by have := Hk.out; omega), if_neg (by have := Hk.out; omega), if_neg (by have := Hk.out; omega), if_neg (by have := Hk.out; omega), if_pos Hk.out]
  rfl
set_option maxHeartbeats 800000 in
theorem sat6_c (c : Con) (xs : List Int) (cv xv : Value) (w : World) (hv : ConV [] w cv c) (hx : Nums [] w .i64 xv xs) (hF : Fit c xs) (hk : c.kind = 6) :
    Calls Tryz.prog 40 #[cv, xv] w fun e w' => e = .returned (.bool (satB c xs)) ∧ Gr [] w w' := by
  obtain ⟨vv, av, rv, rfl, hvv, hav, hrv⟩ := hv
  have hx' := hx
  obtain ⟨xo, xc, rfl, _, _⟩ := hx
  have hg0 : Gr [] w ((w.alloc (.cells #[.int .i64 c.kind, vv, av, .int .i64 c.bound, rv] 26)).alloc (.cells #[.slice xo xs.length xc] 23)) := ((Gr.refl _ _).alloc _).alloc _
  have hb0 : ((w.alloc (.cells #[.int .i64 c.kind, vv, av, .int .i64 c.bound, rv] 26)).alloc (.cells #[.slice xo xs.length xc] 23)).heap[w.heap.size]? = some (.cells #[.int .i64 c.kind, vv, av, .int .i64 c.bound, rv] 26 (0, 0)) := (heap_alloc_old _ _ (by simp)).trans (heap_alloc_new _ _)
  have hx0 : ((w.alloc (.cells #[.int .i64 c.kind, vv, av, .int .i64 c.bound, rv] 26)).alloc (.cells #[.slice xo xs.length xc] 23)).heap[w.heap.size + 1]? = some (.cells #[.slice xo xs.length xc] 23 (0, 0)) := by
    have := heap_alloc_new (w.alloc (.cells #[.int .i64 c.kind, vv, av, .int .i64 c.bound, rv] 26)) (.cells #[.slice xo xs.length xc] 23)
    rwa [World.size_alloc] at this
  have Hx := hid (hx'.gr hg0); have Hav := hid (hav.gr hg0); have Hrv := hid (hrv.gr hg0)
  have Hcv : Hid (ConV [] ((w.alloc (.cells #[.int .i64 c.kind, vv, av, .int .i64 c.bound, rv] 26)).alloc (.cells #[.slice xo xs.length xc] 23)) (.agg #[.int .i64 c.kind, vv, av, .int .i64 c.bound, rv]) c) := hid (ConV.gr ⟨vv, av, rv, rfl, hvv, hav, hrv⟩ hg0)
  have hfit := hF.fits; have Hxl := hid hF.len; have h1 := hF.k1; have h4 := hF.k4; have hval := hF.val
  clear hF hx'
  have t1 : (c.kind == 1) = false := by rw [hk]; rfl
  have t2 : (c.kind == 2) = false := by rw [hk]; rfl
  have t3 : (c.kind == 3) = false := by rw [hk]; rfl
  have t4 : (c.kind == 4) = false := by rw [hk]; rfl
  have t5 : (c.kind == 5) = false := by rw [hk]; rfl
  have t6 : (c.kind == 6) = true := by rw [hk]; rfl
  have hfl := fld hb0; have hfx := fld hx0
  have Hb0 := hid hb0; have Hx0 := hid hx0; have Hval := hid hval; have Hfit := hid hfit; have Hk := hid hk
  clear hb0 hx0 hval hfit hk
  have hf := Hfit.out
  rw [fitsB_6 Hk.out] at hf
  simp only [argsB, eqI, Bool.and_eq_true, beq_iff_eq] at hf
  obtain ⟨⟨⟨ha1, hab⟩, q1⟩, q2⟩ := hf
  clear q1 q2
  obtain ⟨a0, ha0⟩ := get_some (show 0 < c.args.length by omega)
  obtain ⟨xo', xc', exv, ⟨hxc1, hxc2, _⟩, hxc⟩ := Hx.out
  obtain ⟨rfl, rfl⟩ : xo' = xo ∧ xc' = xc := by simpa [eq_comm] using exv
  clear exv
  obtain ⟨ao, ac, rfl, ⟨hac1, hac2, _⟩, hac⟩ := Hav.out
  obtain ⟨b2, o2, rfl, _, c2⟩ := hac 0 a0 ha0
  rw [Nat.add_zero] at c2
  have HE : Hid (c.args.getD 0 0 = a0) := hid (by simp [ha0])
  have l2 : 0 < c.args.length := by omega
  have Hxc := hid hxc
  clear ha1 hab ha0 hxc hac
  go_enter Tryz.func40, Tryz.ntmps40
  go_wp2_with fail
  go_loop [5, 69] (fun s i => ∃ (n k : Nat), n ≤ xs.length ∧ i = .int .i64 n ∧ s = .int .i64 k ∧ k ≤ n ∧ (k : Int) + countB a0 (xs.drop n) = countB a0 xs) (fun _ i => xs.length - (intOf i).toNat)
  case atStart => exact ⟨0, 0, Nat.zero_le _, rfl, rfl, by omega, by simp⟩
  case round =>
    obtain ⟨n, k, hn, rfl, rfl, hkn, hR⟩ := hrel
    have HR := hid hR; clear hR
    by_cases hlt : n < xs.length
    · obtain ⟨x, hx⟩ := get_some hlt
      obtain ⟨b, o, rfl, _, c0⟩ := Hxc.out n x hx
      have HX := hid (drop_cons hx); clear hx
      cases hb : (x == a0)
      · have hne : x ≠ a0 := by simpa using hb
        have Hne := hid hne; clear hne
        go_wp2_with fail
        refine ⟨⟨n + 1, k, by omega, by go_num, rfl, by omega, ?_⟩, by simp [intOf]; omega⟩
        rw [← HR.out, HX.out, countB, if_neg Hne.out]; omega
      · have heq : x = a0 := by simpa using hb
        have Heq := hid heq; clear heq
        go_wp2_with fail
        refine ⟨⟨n + 1, k + 1, by omega, by go_num, by go_num, by omega, ?_⟩, by simp [intOf]; omega⟩
        rw [← HR.out, HX.out, countB, if_pos Heq.out]; omega
    · have hk' : (k : Int) = countB a0 xs := by
        have := HR.out; rw [drop_end (by omega)] at this; simpa [countB] using this
      have HK := hid hk'; clear hk'
      go_wp2_with fail
      go_ret
      refine ⟨ret_bool ?_, hg0⟩
      unfold satB
      rw [if_neg (by have := Hk.out; omega), if_neg (by have := Hk.out; omega), if_neg (by have := Hk.out; omega), if_neg (by have := Hk.out; omega), if_neg (by have := Hk.out; omega), if_pos Hk.out, HE.out, ← HK.out]
set_option maxHeartbeats 800000 in
theorem sat7_c (c : Con) (xs : List Int) (cv xv : Value) (w : World) (hv : ConV [] w cv c) (hx : Nums [] w .i64 xv xs) (hF : Fit c xs) (hk : c.kind = 7) :
    Calls Tryz.prog 40 #[cv, xv] w fun e w' => e = .returned (.bool (satB c xs)) ∧ Gr [] w w' := by
  obtain ⟨vv, av, rv, rfl, hvv, hav, hrv⟩ := hv
  have hx' := hx
  obtain ⟨xo, xc, rfl, _, _⟩ := hx
  have hg0 : Gr [] w ((w.alloc (.cells #[.int .i64 c.kind, vv, av, .int .i64 c.bound, rv] 26)).alloc (.cells #[.slice xo xs.length xc] 23)) := ((Gr.refl _ _).alloc _).alloc _
  have hb0 : ((w.alloc (.cells #[.int .i64 c.kind, vv, av, .int .i64 c.bound, rv] 26)).alloc (.cells #[.slice xo xs.length xc] 23)).heap[w.heap.size]? = some (.cells #[.int .i64 c.kind, vv, av, .int .i64 c.bound, rv] 26 (0, 0)) := (heap_alloc_old _ _ (by simp)).trans (heap_alloc_new _ _)
  have hx0 : ((w.alloc (.cells #[.int .i64 c.kind, vv, av, .int .i64 c.bound, rv] 26)).alloc (.cells #[.slice xo xs.length xc] 23)).heap[w.heap.size + 1]? = some (.cells #[.slice xo xs.length xc] 23 (0, 0)) := by
    have := heap_alloc_new (w.alloc (.cells #[.int .i64 c.kind, vv, av, .int .i64 c.bound, rv] 26)) (.cells #[.slice xo xs.length xc] 23)
    rwa [World.size_alloc] at this
  have Hx := hid (hx'.gr hg0); have Hav := hid (hav.gr hg0); have Hrv := hid (hrv.gr hg0)
  have Hcv : Hid (ConV [] ((w.alloc (.cells #[.int .i64 c.kind, vv, av, .int .i64 c.bound, rv] 26)).alloc (.cells #[.slice xo xs.length xc] 23)) (.agg #[.int .i64 c.kind, vv, av, .int .i64 c.bound, rv]) c) := hid (ConV.gr ⟨vv, av, rv, rfl, hvv, hav, hrv⟩ hg0)
  have hfit := hF.fits; have Hxl := hid hF.len; have h1 := hF.k1; have h4 := hF.k4; have hval := hF.val
  clear hF hx'
  have t1 : (c.kind == 1) = false := by rw [hk]; rfl
  have t2 : (c.kind == 2) = false := by rw [hk]; rfl
  have t3 : (c.kind == 3) = false := by rw [hk]; rfl
  have t4 : (c.kind == 4) = false := by rw [hk]; rfl
  have t5 : (c.kind == 5) = false := by rw [hk]; rfl
  have t6 : (c.kind == 6) = false := by rw [hk]; rfl
  have t7 : (c.kind == 7) = true := by rw [hk]; rfl
  have hfl := fld hb0; have hfx := fld hx0
  have Hb0 := hid hb0; have Hx0 := hid hx0; have Hval := hid hval; have Hfit := hid hfit; have Hk := hid hk
  clear hb0 hx0 hval hfit hk
  have hf := Hfit.out
  rw [fitsB_7 Hk.out] at hf
  simp only [argsB, eqI, Bool.and_eq_true, beq_iff_eq] at hf
  obtain ⟨⟨⟨ha1, hab⟩, q1⟩, q2⟩ := hf
  clear q1 q2
  have Hal : Hid (c.args.length = 2 * xs.length) := hid (by have := Hxl.out; omega)
  have Hab := hid (allB_iff.1 hab)
  clear ha1 hab
  go_enter Tryz.func40, Tryz.ntmps40
  go_wp2_with fail
  refine (roomy_c c xs _ _ _ Hcv.out Hx.out Hval.out Hal.out h4 Hab.out).mono ?_
  rintro e w1 ⟨rfl, hg1⟩
  go_wp2_with fail
  go_ret
  refine ⟨ret_bool ?_, hg0.trans hg1⟩
  unfold satB
  rw [if_neg (by have := Hk.out; omega), if_neg (by have := Hk.out; omega), if_neg (by have := Hk.out; omega), if_neg (by have := Hk.out; omega), if_neg (by have := Hk.out; omega), if_neg (by have := Hk.out; omega), if_pos Hk.out]
set_option maxHeartbeats 800000 in
theorem sat8_c (c : Con) (xs : List Int) (cv xv : Value) (w : World) (hv : ConV [] w cv c) (hx : Nums [] w .i64 xv xs) (hF : Fit c xs) (hk : c.kind = 8) :
    Calls Tryz.prog 40 #[cv, xv] w fun e w' => e = .returned (.bool (satB c xs)) ∧ Gr [] w w' := by
  obtain ⟨vv, av, rv, rfl, hvv, hav, hrv⟩ := hv
  have hx' := hx
  obtain ⟨xo, xc, rfl, _, _⟩ := hx
  have hg0 : Gr [] w ((w.alloc (.cells #[.int .i64 c.kind, vv, av, .int .i64 c.bound, rv] 26)).alloc (.cells #[.slice xo xs.length xc] 23)) := ((Gr.refl _ _).alloc _).alloc _
  have hb0 : ((w.alloc (.cells #[.int .i64 c.kind, vv, av, .int .i64 c.bound, rv] 26)).alloc (.cells #[.slice xo xs.length xc] 23)).heap[w.heap.size]? = some (.cells #[.int .i64 c.kind, vv, av, .int .i64 c.bound, rv] 26 (0, 0)) := (heap_alloc_old _ _ (by simp)).trans (heap_alloc_new _ _)
  have hx0 : ((w.alloc (.cells #[.int .i64 c.kind, vv, av, .int .i64 c.bound, rv] 26)).alloc (.cells #[.slice xo xs.length xc] 23)).heap[w.heap.size + 1]? = some (.cells #[.slice xo xs.length xc] 23 (0, 0)) := by
    have := heap_alloc_new (w.alloc (.cells #[.int .i64 c.kind, vv, av, .int .i64 c.bound, rv] 26)) (.cells #[.slice xo xs.length xc] 23)
    rwa [World.size_alloc] at this
  have Hx := hid (hx'.gr hg0); have Hav := hid (hav.gr hg0); have Hrv := hid (hrv.gr hg0)
  have Hcv : Hid (ConV [] ((w.alloc (.cells #[.int .i64 c.kind, vv, av, .int .i64 c.bound, rv] 26)).alloc (.cells #[.slice xo xs.length xc] 23)) (.agg #[.int .i64 c.kind, vv, av, .int .i64 c.bound, rv]) c) := hid (ConV.gr ⟨vv, av, rv, rfl, hvv, hav, hrv⟩ hg0)
  have hfit := hF.fits; have Hxl := hid hF.len; have h1 := hF.k1; have h4 := hF.k4; have hval := hF.val
  clear hF hx'
  have t1 : (c.kind == 1) = false := by rw [hk]; rfl
  have t2 : (c.kind == 2) = false := by rw [hk]; rfl
  have t3 : (c.kind == 3) = false := by rw [hk]; rfl
  have t4 : (c.kind == 4) = false := by rw [hk]; rfl
  have t5 : (c.kind == 5) = false := by rw [hk]; rfl
  have t6 : (c.kind == 6) = false := by rw [hk]; rfl
  have t7 : (c.kind == 7) = false := by rw [hk]; rfl
  have t8 : (c.kind == 8) = true := by rw [hk]; rfl
  have hfl := fld hb0; have hfx := fld hx0
  have Hb0 := hid hb0; have Hx0 := hid hx0; have Hval := hid hval; have Hfit := hid hfit; have Hk := hid hk
  clear hb0 hx0 hval hfit hk
  have hf := Hfit.out
  rw [fitsB_8 Hk.out] at hf
  simp only [Bool.and_eq_true] at hf
  have Hrows := hid hf.1.1.1
  clear hf
  go_enter Tryz.func40, Tryz.ntmps40
  go_wp2_with fail
  refine (accepts_c c xs _ _ _ Hcv.out Hx.out Hval.out Hrows.out).mono ?_
  rintro e w1 ⟨rfl, hg1⟩
  go_wp2_with fail
  go_ret
  refine ⟨ret_bool ?_, hg0.trans hg1⟩
  unfold satB
  rw [if_neg (by have := Hk.out; omega), if_neg (by have := Hk.out; omega), if_neg (by have := Hk.out; omega), if_neg (by have := Hk.out; omega), if_neg (by have := Hk.out; omega), if_neg (by have := Hk.out; omega), if_neg (by have := Hk.out; omega), if_pos Hk.out]
set_option maxHeartbeats 800000 in
theorem sat9_c (c : Con) (xs : List Int) (cv xv : Value) (w : World) (hv : ConV [] w cv c) (hx : Nums [] w .i64 xv xs) (hF : Fit c xs) (hk : c.kind = 9) :
    Calls Tryz.prog 40 #[cv, xv] w fun e w' => e = .returned (.bool (satB c xs)) ∧ Gr [] w w' := by
  obtain ⟨vv, av, rv, rfl, hvv, hav, hrv⟩ := hv
  have hx' := hx
  obtain ⟨xo, xc, rfl, _, _⟩ := hx
  have hg0 : Gr [] w ((w.alloc (.cells #[.int .i64 c.kind, vv, av, .int .i64 c.bound, rv] 26)).alloc (.cells #[.slice xo xs.length xc] 23)) := ((Gr.refl _ _).alloc _).alloc _
  have hb0 : ((w.alloc (.cells #[.int .i64 c.kind, vv, av, .int .i64 c.bound, rv] 26)).alloc (.cells #[.slice xo xs.length xc] 23)).heap[w.heap.size]? = some (.cells #[.int .i64 c.kind, vv, av, .int .i64 c.bound, rv] 26 (0, 0)) := (heap_alloc_old _ _ (by simp)).trans (heap_alloc_new _ _)
  have hx0 : ((w.alloc (.cells #[.int .i64 c.kind, vv, av, .int .i64 c.bound, rv] 26)).alloc (.cells #[.slice xo xs.length xc] 23)).heap[w.heap.size + 1]? = some (.cells #[.slice xo xs.length xc] 23 (0, 0)) := by
    have := heap_alloc_new (w.alloc (.cells #[.int .i64 c.kind, vv, av, .int .i64 c.bound, rv] 26)) (.cells #[.slice xo xs.length xc] 23)
    rwa [World.size_alloc] at this
  have Hx := hid (hx'.gr hg0); have Hav := hid (hav.gr hg0); have Hrv := hid (hrv.gr hg0)
  have Hcv : Hid (ConV [] ((w.alloc (.cells #[.int .i64 c.kind, vv, av, .int .i64 c.bound, rv] 26)).alloc (.cells #[.slice xo xs.length xc] 23)) (.agg #[.int .i64 c.kind, vv, av, .int .i64 c.bound, rv]) c) := hid (ConV.gr ⟨vv, av, rv, rfl, hvv, hav, hrv⟩ hg0)
  have hfit := hF.fits; have Hxl := hid hF.len; have h1 := hF.k1; have h4 := hF.k4; have hval := hF.val
  clear hF hx'
  have t1 : (c.kind == 1) = false := by rw [hk]; rfl
  have t2 : (c.kind == 2) = false := by rw [hk]; rfl
  have t3 : (c.kind == 3) = false := by rw [hk]; rfl
  have t4 : (c.kind == 4) = false := by rw [hk]; rfl
  have t5 : (c.kind == 5) = false := by rw [hk]; rfl
  have t6 : (c.kind == 6) = false := by rw [hk]; rfl
  have t7 : (c.kind == 7) = false := by rw [hk]; rfl
  have t8 : (c.kind == 8) = false := by rw [hk]; rfl
  have hfl := fld hb0; have hfx := fld hx0
  have Hb0 := hid hb0; have Hx0 := hid hx0; have Hval := hid hval; have Hfit := hid hfit; have Hk := hid hk
  clear hb0 hx0 hval hfit hk
  go_enter Tryz.func40, Tryz.ntmps40
  go_wp2_with fail
  refine (cycle_c xs _ _ Hx.out ⟨h1, h4⟩ Hval.out).mono ?_
  rintro e w1 ⟨rfl, hg1⟩
  go_wp2_with fail
  go_ret
  refine ⟨ret_bool ?_, hg0.trans hg1⟩
  unfold satB
  rw [if_neg (by have := Hk.out; omega), if_neg (by have := Hk.out; omega), if_neg (by have := Hk.out; omega), if_neg (by have := Hk.out; omega), if_neg (by have := Hk.out; omega), if_neg (by have := Hk.out; omega), if_neg (by have := Hk.out; omega), if_neg (by have := Hk.out; omega)]
theorem satisfied_c (c : Con) (xs : List Int) (cv xv : Value) (w : World) (hv : ConV [] w cv c) (hx : Nums [] w .i64 xv xs) (hF : Fit c xs) :
    Calls Tryz.prog 40 #[cv, xv] w fun e w' => e = .returned (.bool (satB c xs)) ∧ Gr [] w w' := by
  by_cases h0 : 1 ≤ c.kind ∧ c.kind ≤ 9
  · have : c.kind = 1 ∨ c.kind = 2 ∨ c.kind = 3 ∨ c.kind = 4 ∨ c.kind = 5 ∨ c.kind = 6 ∨ c.kind = 7 ∨ c.kind = 8 ∨ c.kind = 9 := by omega
    rcases this with h | h | h | h | h | h | h | h | h
    · exact sat1_c c xs cv xv w hv hx hF h
    · exact sat2_c c xs cv xv w hv hx hF h
    · exact sat3_c c xs cv xv w hv hx hF h
    · exact sat4_c c xs cv xv w hv hx hF h
    · exact sat5_c c xs cv xv w hv hx hF h
    · exact sat6_c c xs cv xv w hv hx hF h
    · exact sat7_c c xs cv xv w hv hx hF h
    · exact sat8_c c xs cv xv w hv hx hF h
    · exact sat9_c c xs cv xv w hv hx hF h
  · have := hF.fits
    rw [fitsB_0 h0] at this
    cases this
end Go.Proofs.YtmonhpoogfdpoaaGreat
