/-
  Walks of local search: the program's and the reference's.
-/
import Derived.Test.YtdpcjfbnakfflaaGreatIw
import Derived.Test.YtdpcjfbnakfflaaGreatM5
set_option linter.unusedVariables false
set_option linter.unusedSimpArgs false
namespace Go.Proofs.YtdpcjfbnakfflaaGreat
open Go.RowKit

theorem outr_succ {cs : List Con} {D : List Nat} {o x : List Int} (n : Nat) : outr cs D o x (n + 1) = inn cs D o n (outr cs D o x n) (D.length - (n + 1)) := rfl
theorem rnd_more {cs : List Con} {D : List Nat} {o x : List Int} (hb : LowB cs D o) (hx : x ∈ sols cs D) (h : rnd cs D o x ≠ x) : rk cs D o (rnd cs D o x) < rk cs D o x := by
  obtain ⟨-, h2, h3⟩ := rnd_ok hb hx
  rcases Nat.lt_or_ge (rk cs D o (rnd cs D o x)) (rk cs D o x) with h4 | h4
  · exact h4
  · exact absurd (h3 (by omega)) h


set_option maxRecDepth 100000 in
set_option maxHeartbeats 4000000 in
theorem LocalSearch_c (m : Mod) (o x : List Int) (mv ov xv : Value) (w : World) (hv : ModV [] w mv m) (ho : Nums [] w .i64 ov o) (hx : Nums [] w .i64 xv x) (D : List Nat) (hD : validM m = true → VM m D) :
    Calls Tryz.prog 32 #[mv, ov, xv] w fun e w' => ∃ v', e = .returned (.tuple #[v', .bool (locO m D o x).isSome]) ∧ NumsM (New w.heap.size w') w' v' ((locO m D o x).getD []) ∧ Gr [] w w' := by
  have Hv := hid hv; have HD := hid hD; have Ho := hid ho; have Hx := hid hx
  obtain ⟨xo, xc, co, cc, rfl⟩ := hv.slices
  obtain ⟨oo, oc, rfl, -, -⟩ := ho
  obtain ⟨yo, yc, rfl, -, -⟩ := hx
  have hg0 : Gr [] w (w.alloc (.cells #[.slice xo m.doms.length xc, .slice co m.cons.length cc] 31)) := (Gr.refl _ _).alloc _
  have hb0 : (w.alloc (.cells #[.slice xo m.doms.length xc, .slice co m.cons.length cc] 31)).heap[w.heap.size]? = some (.cells #[.slice xo m.doms.length xc, .slice co m.cons.length cc] 31 (0, 0)) := heap_alloc_new _ _
  have fl0 := fld hb0
  have Hg0 := hid hg0; have Hb0 := hid hb0
  clear hv hg0 hb0 hD
  go_enter Tryz.func32, Tryz.ntmps32
  go_wp2_with fail
  have hcall := objectiveOk_c m o _ _ _ (Hv.out.gr Hg0.out) (Ho.out.gr Hg0.out)
  (with_reducible refine hcall.mono ?_)
  clear hcall
  rintro e w1 ⟨rfl, hg1⟩
  have Hb1 := hid (hg1.obj Hb0.out (by simp))
  have fl1 := fld Hb1.out
  have Hg1 := hid (Hg0.out.trans hg1)
  have hs1 := hg1.size
  rw [World.size_alloc] at hs1
  clear fl0 hg1
  cases hvo : (validM m && objB o m.doms.length)
  · have Hno := hid (locO_no (D := D) (o := o) (x := x) (m := m) (by rw [← Bool.and_assoc, hvo]; rfl)); clear hvo
    go_wp2_with fail
    go_ret2
    rw [Hno.out]
    exact ⟨_, rfl, NumsM.nil _ _, Hg1.out⟩
  rw [Bool.and_eq_true] at hvo
  have HVM := hid (HD.out hvo.1); have Hval := hid hvo.1; have Hob := hid hvo.2
  have HDL : Hid (m.doms.length = D.length) := hid (by rw [HVM.out.doms, ints_len])
  have hvo' : (validM m && objB o m.doms.length) = true := by rw [hvo.1, hvo.2]; rfl
  clear hvo
  go_wp2_with fail
  have hcall := IsSolution_b m D x _ _ w1 (Hv.out.gr Hg1.out) HVM.out (Hx.out.gr Hg1.out)
  (with_reducible refine hcall.mono ?_)
  clear hcall
  rintro e w2 ⟨rfl, hg2⟩
  have Hb2 := hid (hg2.obj Hb1.out (by simp))
  have Hg2 := hid (Hg1.out.trans hg2)
  have hs2 := hg2.size
  clear fl1 hg2 hvo'
  cases his : isB m.cons D x
  · have Hno := hid (locO_no (D := D) (o := o) (x := x) (m := m) (by rw [his]; simp)); clear his
    go_wp2_with fail
    go_ret2
    rw [Hno.out]
    exact ⟨_, rfl, NumsM.nil _ _, Hg2.out⟩
  have Hxs : Hid (x ∈ sols m.cons D) := hid (of_decide_eq_true his)
  have Hyes := hid (locO_yes (D := D) (show (validM m && (objB o m.doms.length && isB m.cons D x)) = true by rw [Hval.out, Hob.out, his]; rfl))
  have HLB := hid (lowB_of HVM.out Hob.out)
  have hd4 := HVM.out.len.2
  clear his
  go_wp2_with fail
  have hcall := copied_c _ x w2 (Hx.out.gr Hg2.out) (by have := (solv Hxs.out).1; omega)
  (with_reducible refine hcall.mono ?_)
  clear hcall
  rintro e w3 ⟨v3, rfl, hown3, hg3⟩
  have Hn3 := hid ((OwnC.numsM hown3).gr' (M' := New w.heap.size w3) (Gr.refl [] _) (by simp) (fun b hb h => h.le (by omega) (Nat.le_refl _)))
  have Hg3 := hid (Hg2.out.trans hg3)
  have Hb3 := hid (hg3.obj Hb2.out (by simp))
  clear hown3 hg3
  go_wp2_with fail
  go_loopg [8] (rk m.cons D o x + 1) (fun k v wr => ∃ (q : Nat) (y : List Int), y = itr m.cons D o x q ∧ rk m.cons D o y < k ∧ NumsM (New w.heap.size wr) wr v y ∧ Gr [] w3 wr)
  case atStart => exact ⟨0, x, rfl, Nat.lt_succ_self _, Hn3.out, Gr.refl _ _⟩
  case round =>
    obtain ⟨q, y, hy, hk, hnm, hg⟩ := hrel
    have Hys : Hid (y ∈ sols m.cons D) := hid (by rw [hy]; exact (itr_ok HLB.out Hxs.out q).1)
    have hyl := (solv Hys.out).1
    have Hy := hid hy; have Hnm := hid hnm; have Hg := hid hg
    obtain ⟨vo, vc, rfl, ⟨hv1, hv2, -⟩, -⟩ := id hnm
    have Hyl := hid hyl
    have HnmD : Hid (NumsM (New w.heap.size wr) wr (.slice vo D.length vc) y) := hid (by have := hnm; rw [hyl] at this; exact this)
    rw [hyl] at hv1 ⊢
    clear hy hnm hg hyl
    obtain ⟨w5, rfl⟩ : ∃ w5, w5 = wr := ⟨_, rfl⟩
    have hs5 := Hg.out.size
    go_wp2_with fail
    go_loopw [8, 27] (fun v i wt => ∃ n : Nat, n ≤ D.length ∧ i = .int .i64 n ∧ NumsM (New w.heap.size wt) wt v (outr m.cons D o y n) ∧ Gr [] w5 wt) (fun _ i _ => D.length - (intOf i).toNat)
    case atStart => exact ⟨0, Nat.zero_le _, rfl, HnmD.out, Gr.refl _ _⟩
    case round =>
      obtain ⟨n, hn, rfl, hnm2, hg2⟩ := hrel
      have Hzs : Hid (outr m.cons D o y n ∈ sols m.cons D) := hid (outr_ok HLB.out Hys.out n).1
      have hzl := (solv Hzs.out).1
      have Hnm2 := hid hnm2; have Hg2' := hid hg2
      obtain ⟨zo, zc, rfl, ⟨hz1, hz2, -⟩, -⟩ := id hnm2
      have Hnm2D : Hid (NumsM (New w.heap.size wr) wr (.slice zo D.length zc) (outr m.cons D o y n)) := hid (by have := hnm2; rw [hzl] at this; exact this)
      rw [hzl] at hz1 ⊢
      clear hnm2 hg2 hzl
      obtain ⟨w6, rfl⟩ : ∃ w6, w6 = wr := ⟨_, rfl⟩
      have hs6 := Hg2'.out.size
      by_cases hlt : n < D.length
      · go_wp2_with fail
        go_loopw [8, 11] (fun v j wt => ∃ t : Nat, t ≤ D.length - (n + 1) ∧ j = .int .i64 (n + 1 + t : Nat) ∧ NumsM (New w.heap.size wt) wt v (inn m.cons D o n (outr m.cons D o y n) t) ∧ Gr [] w6 wt) (fun _ j _ => D.length - (intOf j).toNat)
        case atStart => exact ⟨0, Nat.zero_le _, by go_num, Hnm2D.out, Gr.refl _ _⟩
        case round =>
          obtain ⟨t, ht, rfl, hnm3, hg3⟩ := hrel
          have Hus : Hid (inn m.cons D o n (outr m.cons D o y n) t ∈ sols m.cons D) := hid (inn_ok HLB.out n Hzs.out t).1
          have hul := (solv Hus.out).1
          have Hnm3 := hid hnm3; have Hg3' := hid hg3
          obtain ⟨uo, uc, rfl, ⟨hu1, hu2, -⟩, -⟩ := id hnm3
          have Hnm3D : Hid (NumsM (New w.heap.size wr) wr (.slice uo D.length uc) (inn m.cons D o n (outr m.cons D o y n) t)) := hid (by have := hnm3; rw [hul] at this; exact this)
          rw [hul] at hu1 ⊢
          clear hnm3 hg3
          obtain ⟨w7, rfl⟩ : ∃ w7, w7 = wr := ⟨_, rfl⟩
          have Hul := hid hul
          clear hul
          have HGa := hid (Hg3.out.trans (Hg.out.trans (Hg2'.out.trans Hg3'.out)))
          have fl7 := fld ((Hg.out.trans (Hg2'.out.trans Hg3'.out)).obj Hb3.out (by simp))
          have hs7 := Hg3'.out.size
          by_cases hlt2 : n + 1 + t < D.length
          · go_wp2_with fail
            refine (improve_c m o (inn m.cons D o n (outr m.cons D o y n) t) [(n : Int), ((n + 1 + t : Nat) : Int)] _ _ _ _ _ ((Hv.out.gr HGa.out).gr ((Gr.refl [] w7).alloc _)) ((Ho.out.gr HGa.out).gr ((Gr.refl [] w7).alloc _)) ((by have := Hnm3.out.nums (S := []) (by simp); rw [Hul.out] at this; exact this : Nums [] w7 .i64 (.slice uo D.length uc) _).gr ((Gr.refl [] w7).alloc _)) (nums_new _ _ _ (by simp)) D HVM.out Hob.out Hul.out).mono ?_
            rintro e w8 ⟨v8, rfl, hn8, hg8⟩
            have Hn8 := hid hn8; have Hg8 := hid (((Gr.refl [] w7).alloc (.cells #[.int .i64 n, .int .i64 (n + 1 + t : Nat)] 3)).trans hg8)
            clear hn8 hg8 fl7
            go_wp2_with fail
            exact ⟨⟨t + 1, by omega, by go_num, Hn8.out.gr' (Gr.refl [] _) (by simp) (fun b hb h => h.le (by have := HGa.out.size; simp; omega) (Nat.le_refl _)), Hg3'.out.trans Hg8.out⟩, by simp [intOf]; omega⟩
          · have hte : t = D.length - (n + 1) := by omega
            subst hte
            go_wp2_with fail
            exact ⟨⟨n + 1, by omega, by go_num, by rw [outr_succ]; exact Hnm3D.out, Hg2'.out.trans Hg3'.out⟩, by simp [intOf]; omega⟩
      · have hne : n = D.length := by omega
        subst hne
        have HGa := hid (Hg3.out.trans (Hg.out.trans Hg2'.out))
        have Hnr : Hid (Nums [] w6 .i64 (.slice zo D.length zc) (rnd m.cons D o y)) := hid (by have := Hnm2.out.nums (S := []) (by simp); rw [(solv Hzs.out).1] at this; exact this)
        have Hny : Hid (Nums [] w6 .i64 (.slice vo D.length vc) y) := hid (by have := (Hnm.out.nums (S := []) (by simp)).gr Hg2'.out; rw [Hyl.out] at this; exact this)
        go_wp2_with fail
        have hcall := sliceEqual_c y (rnd m.cons D o y) _ _ w6 Hny.out Hnr.out
        (with_reducible refine hcall.mono ?_)
        clear hcall
        rintro e w7 ⟨rfl, hg7⟩
        have Hg7 := hid hg7; clear hg7
        by_cases hs : rnd m.cons D o y = y
        · have hs' : decide (y = rnd m.cons D o y) = true := decide_eq_true hs.symm
          rw [hs']
          clear hs'
          have HL := hid (locL_eq (k := q) (by rw [← Hy.out]; exact hs))
          have Hse := hid hs
          clear hs
          go_wp2_with fail
          go_ret2
          rw [Hyes.out]
          refine ⟨_, rfl, ?_, HGa.out.trans Hg7.out⟩
          rw [Option.getD_some, HL.out, ← Hy.out, ← Hse.out]
          have := Hnm2.out
          rw [(solv Hzs.out).1] at this
          exact this.gr' Hg7.out (by simp) (fun b hb h => h.le (Nat.le_refl _) Hg7.out.size)
        · have hs' : decide (y = rnd m.cons D o y) = false := decide_eq_false (fun e => hs e.symm)
          rw [hs']
          clear hs'
          have hlt' := rnd_more HLB.out Hys.out hs
          have Hs := hid hs
          clear hs
          go_wp2_with fail
          go_roundg (rk m.cons D o y)
          case measure => omega
          case rel => exact ⟨q + 1, rnd m.cons D o y, by rw [Hy.out]; rfl, hlt', by have := Hnm2.out; rw [(solv Hzs.out).1] at this; exact this.gr' Hg7.out (by simp) (fun b hb h => h.le (Nat.le_refl _) Hg7.out.size), Hg.out.trans (Hg2'.out.trans Hg7.out)⟩


set_option maxRecDepth 100000 in
set_option maxHeartbeats 4000000 in
theorem specLocalSearch_c (m : Mod) (o x : List Int) (mv ov xv : Value) (w : World) (hv : ModV [] w mv m) (hs : m.Small) (ho : Nums [] w .i64 ov o) (hx : Nums [] w .i64 xv x) (D : List Nat) (hD : validM m = true → VM m D) :
    Calls Tryz.prog 31 #[mv, ov, xv] w fun e w' => ∃ v', e = .returned (.tuple #[v', .bool (locO m D o x).isSome]) ∧ Nums [] w' .i64 v' ((locO m D o x).getD []) ∧ Gr [] w w' := by
  have Hv := hid hv; have HD := hid hD; have Ho := hid ho; have Hx := hid hx; have Hs := hid hs
  obtain ⟨xo, xc, co, cc, rfl⟩ := hv.slices
  obtain ⟨oo, oc, rfl, -, -⟩ := ho
  obtain ⟨yo, yc, rfl, ⟨hy1, hy2, -⟩, -⟩ := hx
  have hg0 : Gr [] w (w.alloc (.cells #[.slice xo m.doms.length xc, .slice co m.cons.length cc] 31)) := (Gr.refl _ _).alloc _
  have hb0 : (w.alloc (.cells #[.slice xo m.doms.length xc, .slice co m.cons.length cc] 31)).heap[w.heap.size]? = some (.cells #[.slice xo m.doms.length xc, .slice co m.cons.length cc] 31 (0, 0)) := heap_alloc_new _ _
  have fl0 := fld hb0
  have Hg0 := hid hg0; have Hb0 := hid hb0
  have hmd := hs.doms
  clear hv hg0 hb0 hD hs
  go_enter Tryz.func31, Tryz.ntmps31
  go_wp2_with fail
  have hcall := specValidModel_c m _ _ (Hv.out.gr Hg0.out) Hs.out
  (with_reducible refine hcall.mono ?_)
  clear hcall
  rintro e w1 ⟨rfl, hg1⟩
  have Hb1 := hid (hg1.obj Hb0.out (by simp))
  have fl1 := fld Hb1.out
  have Hg1 := hid (Hg0.out.trans hg1)
  clear fl0 hg1
  cases hvo : validM m
  · have Hno := hid (locO_no (D := D) (o := o) (x := x) (m := m) (by rw [hvo]; rfl)); clear hvo
    go_wp2_with fail
    go_ret2
    rw [Hno.out]
    exact ⟨_, rfl, (Own.nil 0 _ 3).nums (by simp), Hg1.out⟩
  have HVM := hid (HD.out hvo); have Hval := hid hvo
  have HDL : Hid (m.doms.length = D.length) := hid (by rw [HVM.out.doms, ints_len])
  clear hvo
  go_wp2_with fail
  have hcall := validObjective_c m o _ _ w1 (Hv.out.gr Hg1.out) (Ho.out.gr Hg1.out)
  (with_reducible refine hcall.mono ?_)
  clear hcall
  rintro e w2 ⟨rfl, hg2⟩
  have Hb2 := hid (hg2.obj Hb1.out (by simp))
  have fl2 := fld Hb2.out
  have Hg2 := hid (Hg1.out.trans hg2)
  clear fl1 hg2
  cases hob : objB o m.doms.length
  · have Hno := hid (locO_no (D := D) (o := o) (x := x) (m := m) (by rw [hob]; simp)); clear hob
    go_wp2_with fail
    go_ret2
    rw [Hno.out]
    exact ⟨_, rfl, (Own.nil 0 _ 3).nums (by simp), Hg2.out⟩
  have Hob := hid hob
  clear hob
  by_cases hxl : x.length = m.doms.length
  rotate_left
  · have Hno := hid (locO_no (D := D) (o := o) (x := x) (m := m) (by
      have : isB m.cons D x = false := decide_eq_false fun hm => hxl (by have := (solv hm).1; have := HDL.out; omega)
      rw [this]; simp))
    have hne : (((x.length : Nat) : Int) != (m.doms.length : Int)) = true := by simp; omega
    clear hxl
    go_wp2_with fail
    go_ret2
    rw [Hno.out]
    exact ⟨_, rfl, (Own.nil 0 _ 3).nums (by simp), Hg2.out⟩
  have hne : (((x.length : Nat) : Int) != (m.doms.length : Int)) = false := by rw [hxl]; simp
  have Hxl := hid hxl
  clear hxl
  go_wp2_with fail
  have hcall := specIsSol_any m D x _ _ w2 (Hv.out.gr Hg2.out) HVM.out (Hx.out.gr Hg2.out) (Hxl.out.trans HDL.out)
  (with_reducible refine hcall.mono ?_)
  clear hcall
  rintro e w3 ⟨rfl, hg3⟩
  have Hb3 := hid (hg3.obj Hb2.out (by simp))
  have Hg3 := hid (Hg2.out.trans hg3)
  clear fl2 hg3
  cases his : isB m.cons D x
  · have Hno := hid (locO_no (D := D) (o := o) (x := x) (m := m) (by rw [his]; simp)); clear his
    go_wp2_with fail
    go_ret2
    rw [Hno.out]
    exact ⟨_, rfl, (Own.nil 0 _ 3).nums (by simp), Hg3.out⟩
  have Hxs : Hid (x ∈ sols m.cons D) := hid (of_decide_eq_true his)
  have Hyes := hid (locO_yes (D := D) (show (validM m && (objB o m.doms.length && isB m.cons D x)) = true by rw [Hval.out, Hob.out, his]; rfl))
  have HLB := hid (lowB_of HVM.out Hob.out)
  have hd4 := HVM.out.len.2
  have Hx3 := hid (Hx.out.gr Hg3.out)
  clear his hne
  go_wp2_with fail
  go_loopg [2] (rk m.cons D o x + 1) (fun k v wr => ∃ (q : Nat) (y : List Int), y = itr m.cons D o x q ∧ rk m.cons D o y < k ∧ Nums [] wr .i64 v y ∧ Gr [] w3 wr)
  case atStart => exact ⟨0, x, rfl, Nat.lt_succ_self _, Hx3.out, Gr.refl _ _⟩
  case round =>
    obtain ⟨q, y, hy, hk, hnm, hg⟩ := hrel
    have Hys : Hid (y ∈ sols m.cons D) := hid (by rw [hy]; exact (itr_ok HLB.out Hxs.out q).1)
    have hyl := (solv Hys.out).1
    have Hy := hid hy; have Hnm := hid hnm; have Hg := hid hg
    obtain ⟨vo, vc, rfl, ⟨hv1, hv2, -⟩, -⟩ := id hnm
    have Hyl := hid hyl
    rw [hyl] at hv1 ⊢
    clear hy hnm hg
    obtain ⟨w5, rfl⟩ : ∃ w5, w5 = wr := ⟨_, rfl⟩
    have Hny : Hid (Nums [] w5 .i64 (.slice vo D.length vc) y) := hid (by have := Hnm.out; rw [Hyl.out] at this; exact this)
    go_wp2_with fail
    have hcall := copyInts_c _ y w5 Hny.out (by omega)
    (with_reducible refine hcall.mono ?_)
    clear hcall
    rintro e w6 ⟨v6, rfl, hown6, hg6⟩
    have hn6 := hown6.nums (S := []) (by simp)
    obtain ⟨so, sc, rfl, -, -⟩ := id hn6
    rw [hyl] at hn6 ⊢
    have Hn6 := hid hn6; have Hg6 := hid hg6
    clear hown6 hn6 hg6 hyl
    go_wp2_with fail
    go_loopw [2, 9] (fun v i wt => ∃ n : Nat, n ≤ D.length ∧ i = .int .i64 n ∧ Nums [] wt .i64 v (outr m.cons D o y n) ∧ Gr [] w6 wt) (fun _ i _ => D.length - (intOf i).toNat)
    case atStart => exact ⟨0, Nat.zero_le _, rfl, by have := Hnm.out.gr Hg6.out; rw [Hyl.out] at this; exact this, Gr.refl _ _⟩
    case round =>
      obtain ⟨n, hn, rfl, hnm2, hg2⟩ := hrel
      have Hzs : Hid (outr m.cons D o y n ∈ sols m.cons D) := hid (outr_ok HLB.out Hys.out n).1
      have hzl := (solv Hzs.out).1
      have Hnm2 := hid hnm2; have Hg2' := hid hg2
      obtain ⟨zo, zc, rfl, ⟨hz1, hz2, -⟩, -⟩ := id hnm2
      have Hzl := hid hzl
      rw [hzl] at hz1 ⊢
      clear hnm2 hg2 hzl
      obtain ⟨w7, rfl⟩ : ∃ w7, w7 = wr := ⟨_, rfl⟩
      by_cases hlt : n < D.length
      · go_wp2_with fail
        go_loopw [2, 10] (fun v j wt => ∃ t : Nat, t ≤ D.length - (n + 1) ∧ j = .int .i64 (n + 1 + t : Nat) ∧ Nums [] wt .i64 v (inn m.cons D o n (outr m.cons D o y n) t) ∧ Gr [] w7 wt) (fun _ j _ => D.length - (intOf j).toNat)
        case atStart => exact ⟨0, Nat.zero_le _, by go_num, by have := Hnm2.out; rw [Hzl.out] at this; exact this, Gr.refl _ _⟩
        case round =>
          obtain ⟨t, ht, rfl, hnm3, hg3⟩ := hrel
          have Hus : Hid (inn m.cons D o n (outr m.cons D o y n) t ∈ sols m.cons D) := hid (inn_ok HLB.out n Hzs.out t).1
          have hul := (solv Hus.out).1
          have Hnm3 := hid hnm3; have Hg3' := hid hg3
          obtain ⟨uo, uc, rfl, ⟨hu1, hu2, -⟩, -⟩ := id hnm3
          have Hul := hid hul
          rw [hul] at hu1 ⊢
          clear hnm3 hg3 hul
          obtain ⟨w8, rfl⟩ : ∃ w8, w8 = wr := ⟨_, rfl⟩
          have HGa := hid (Hg3.out.trans (Hg.out.trans (Hg6.out.trans (Hg2'.out.trans Hg3'.out))))
          have fl7 := fld ((Hg.out.trans (Hg6.out.trans (Hg2'.out.trans Hg3'.out))).obj Hb3.out (by simp))
          have Hnu : Hid (Nums [] w8 .i64 (.slice uo D.length uc) (inn m.cons D o n (outr m.cons D o y n) t)) := hid (by have := Hnm3.out; rw [Hul.out] at this; exact this)
          by_cases hlt2 : n + 1 + t < D.length
          · go_wp2_with fail
            refine (improveWithin_c m D o (inn m.cons D o n (outr m.cons D o y n) t) [(n : Int), ((n + 1 + t : Nat) : Int)] _ _ _ _ _ ((Hv.out.gr HGa.out).gr ((Gr.refl [] w8).alloc _)) HVM.out Hs.out ((Ho.out.gr HGa.out).gr ((Gr.refl [] w8).alloc _)) Hob.out (Hnu.out.gr ((Gr.refl [] w8).alloc _)) Hus.out (nums_new _ _ _ (by simp))).mono ?_
            rintro e w9 ⟨v9, rfl, hn9, hg9⟩
            have Hn9 := hid hn9; have Hg9 := hid (((Gr.refl [] w8).alloc (.cells #[.int .i64 n, .int .i64 (n + 1 + t : Nat)] 3)).trans hg9)
            clear hn9 hg9 fl7
            go_wp2_with fail
            exact ⟨⟨t + 1, by omega, by go_num, Hn9.out, Hg3'.out.trans Hg9.out⟩, by simp [intOf]; omega⟩
          · have hte : t = D.length - (n + 1) := by omega
            subst hte
            go_wp2_with fail
            exact ⟨⟨n + 1, by omega, by go_num, by rw [outr_succ]; exact Hnu.out, Hg2'.out.trans Hg3'.out⟩, by simp [intOf]; omega⟩
      · have hne : n = D.length := by omega
        subst hne
        have HGa := hid (Hg3.out.trans (Hg.out.trans (Hg6.out.trans Hg2'.out)))
        have Hnr : Hid (Nums [] w7 .i64 (.slice zo D.length zc) (rnd m.cons D o y)) := hid (by have := Hnm2.out; rw [Hzl.out] at this; exact this)
        go_wp2_with fail
        have hcall := equalInts_c y (rnd m.cons D o y) _ _ w7 (Hn6.out.gr Hg2'.out) Hnr.out
        (with_reducible refine hcall.mono ?_)
        clear hcall
        rintro e w8 ⟨rfl, hg8⟩
        have Hg8 := hid hg8; clear hg8
        by_cases hs : rnd m.cons D o y = y
        · have hs' : decide (y = rnd m.cons D o y) = true := decide_eq_true hs.symm
          rw [hs']
          clear hs'
          have HL := hid (locL_eq (k := q) (by rw [← Hy.out]; exact hs))
          have Hse := hid hs
          clear hs
          go_wp2_with fail
          have hcall := copyInts_c _ (rnd m.cons D o y) w8 (Hnr.out.gr Hg8.out) (by rw [Hse.out, Hyl.out]; omega)
          (with_reducible refine hcall.mono ?_)
          clear hcall
          rintro e w9 ⟨v9, rfl, hown9, hg9⟩
          have Hg9 := hid hg9; have Hown9 := hid hown9
          clear hg9 hown9
          go_wp2_with fail
          go_ret2
          rw [Hyes.out]
          refine ⟨_, rfl, ?_, (HGa.out.trans Hg8.out).trans Hg9.out⟩
          rw [Option.getD_some, HL.out, ← Hy.out, ← Hse.out]
          exact Hown9.out.nums (by simp)
        · have hs' : decide (y = rnd m.cons D o y) = false := decide_eq_false (fun e => hs e.symm)
          rw [hs']
          clear hs'
          have hlt' := rnd_more HLB.out Hys.out hs
          have Hs' := hid hs
          clear hs
          go_wp2_with fail
          go_roundg (rk m.cons D o y)
          case measure => omega
          case rel => exact ⟨q + 1, rnd m.cons D o y, by rw [Hy.out]; rfl, hlt', Hnr.out.gr Hg8.out, Hg.out.trans (Hg6.out.trans (Hg2'.out.trans Hg8.out))⟩

end Go.Proofs.YtdpcjfbnakfflaaGreat
