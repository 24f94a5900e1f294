/-
  Walk of FnNextSolution.
-/
import Derived.Test.YtjmjjdgbkibdaaaGreatLPS
import Derived.Test.YtjmjjdgbkibdaaaGreatG14
import Derived.Test.YtjmjjdgbkibdaaaGreatSl
import Derived.Test.YtjmjjdgbkibdaaaGreatNsP
import Derived.Test.YtjmjjdgbkibdaaaGreatOb
set_option linter.unusedVariables false
set_option linter.unusedSimpArgs false
namespace Go.Proofs.YtjmjjdgbkibdaaaGreat
open Go.RowKit

theorem lexLess_k (xs ys : List Int) (b : Bool) (vx vy : Value) (w : World) (hx : Nums [] w .i64 vx xs) (hy : Nums [] w .i64 vy ys) (hl : xs.length = ys.length) (hb : lexB xs ys = b) :
    Calls Tryz.prog 48 #[vx, vy] w fun e w' => e = .returned (.bool b) ∧ Gr [] w w' := by
  have h := lexLess_c xs ys vx vy w hx hy hl
  rwa [hb] at h

set_option maxRecDepth 100000 in
theorem lawInRange_c (xs : List Int) (v : Value) (w : World) (hv : Nums [] w .i64 v xs) :
    Calls Tryz.prog 56 #[v] w fun e w' => e = .returned (.bool (allB 0 5 xs)) ∧ Gr [] w w' := by
  have Hv := hid hv
  obtain ⟨xo, xc, rfl, ⟨h1, h2, -⟩, -⟩ := hv
  go_enter Tryz.func56, Tryz.ntmps56
  go_wp2_with fail
  go_loopw [3] (fun i wr => ∃ n : Nat, n ≤ xs.length ∧ i = .int .i64 n ∧ (∀ (j : Nat) x, j < n → xs[j]? = some x → 0 ≤ x ∧ x ≤ 5) ∧ Gr [] w wr) (fun i _ => xs.length - (intOf i).toNat)
  case atStart => exact ⟨0, Nat.zero_le _, rfl, by intro j x hj; omega, Gr.refl _ _⟩
  case round =>
    obtain ⟨n, hn, rfl, hp, hg⟩ := hrel
    have HP := hid hp; have Hg := hid hg
    clear hp
    by_cases hlt : n < xs.length
    · obtain ⟨x, hx⟩ := get_some hlt
      obtain ⟨b, o, e1, -, c1⟩ := (Hv.out.gr hg).at hx
      subst e1
      have Hx := hid hx
      clear hx hg
      by_cases h0 : x < 0
      · have h0' : decide (x < 0) = true := decide_eq_true h0
        go_wp2_with fail
        go_ret
        exact ⟨ret_bool (Bool.eq_false_iff.2 fun h => by have := allB_iff.1 h x (List.mem_of_getElem? Hx.out); omega).symm, Hg.out⟩
      · have h0' : decide (x < 0) = false := decide_eq_false h0
        by_cases h5 : 5 < x
        · have h5' : decide (5 < x) = true := decide_eq_true h5
          go_wp2_with fail
          go_ret
          exact ⟨ret_bool (Bool.eq_false_iff.2 fun h => by have := allB_iff.1 h x (List.mem_of_getElem? Hx.out); omega).symm, Hg.out⟩
        · have h5' : decide (5 < x) = false := decide_eq_false h5
          go_wp2_with fail
          refine ⟨⟨n + 1, by omega, by go_num, fun j y hj hy => ?_, Hg.out⟩, by simp [intOf]; omega⟩
          by_cases hjn : j < n
          · exact HP.out j y hjn hy
          · have : j = n := by omega
            subst this
            have := Hx.out
            rw [hy] at this
            cases this
            omega
    · clear hg
      go_wp2_with fail
      go_ret
      exact ⟨ret_bool (allB_iff.2 fun x hx => by
        obtain ⟨j, hj⟩ := List.mem_iff_getElem?.1 hx
        exact HP.out j x (by have := (List.getElem?_eq_some_iff.1 hj).1; omega) hj).symm, Hg.out⟩


set_option maxRecDepth 100000 in
set_option maxHeartbeats 8000000 in
theorem FnNextSolution_c (code : Value) (bs : List Int) (ao : Option Addr) (cap : Nat) (w : World) (hv : code = .slice ao bs.length cap) (hlen : bs.length ≤ 9223372036854775807) (hcap : bs.length ≤ cap) (hc : Cells [] w .u8 ao bs) (hb : ∀ b ∈ bs, 0 ≤ b ∧ b ≤ 255) :
    Calls Tryz.prog 11 #[code] w (fun e w' => e = .returned (.bool true) ∧ Gr [] w w') := by
  subst hv
  have Hc := hid hc; have Hb := hid hb; clear hc hb
  by_cases hbig : 1048576 < bs.length
  · go_enter Tryz.func11, Tryz.ntmps11
    go_wp2_with fail
    go_ret
    exact ⟨rfl, Gr.refl _ _⟩
  have hbig' : decide ((1048576 : Int) < (bs.length : Int)) = false := by simp; omega
  go_enter Tryz.func11, Tryz.ntmps11
  go_wp2_with fail
  have hcall := DrawNextSolution_c _ bs w ao cap rfl hlen hcap Hc.out Hb.out
  (with_reducible refine hcall.mono ?_)
  clear hcall
  rintro e w1 ⟨m, mv, xv, X, rfl, hmv, hms, ⟨hd1, hd4⟩, hX, ⟨hX5, hXv⟩, hg1⟩
  obtain ⟨xo, xc, co, cc, rfl⟩ := hmv.slices
  have ha2 : Gr [] w1 (w1.alloc (.cells #[.slice xo m.doms.length xc, .slice co m.cons.length cc] 31)) := (Gr.refl _ _).alloc _
  have hb2 : (w1.alloc (.cells #[.slice xo m.doms.length xc, .slice co m.cons.length cc] 31)).heap[w1.heap.size]? = some (.cells #[.slice xo m.doms.length xc, .slice co m.cons.length cc] 31 (0, 0)) := heap_alloc_new _ _
  have HG2 := hid (hg1.trans ha2); have Hmv2 := hid (hmv.gr ha2); have Hms := hid hms; have Hb2 := hid hb2
  have HX := hid (hX.gr ha2)
  obtain ⟨vo, vc, rfl, ⟨hX1, hXc, -⟩, -⟩ := hX
  have HXv := hid hXv
  clear hmv hms ha2 hb2 hg1 hbig hXv
  obtain ⟨D, hD⟩ := openVM m
  have HD := hid hD; clear hD
  go_wp2_with fail
  have hcall := NextSolution_c m X _ _ _ Hmv2.out HX.out D HD.out
  (with_reducible refine hcall.mono ?_)
  clear hcall
  obtain ⟨Y, hY⟩ : ∃ Y, Y = nextO m D X := ⟨_, rfl⟩
  rw [← hY]
  have HY := hid hY; clear hY
  rintro e w3 ⟨v3, rfl, hn3, hg3⟩
  have hn3 := hn3.nums (S := []) (by simp)
  have Hn3 := hid hn3
  obtain ⟨zo, zc, rfl, ⟨hz1, hz2, -⟩, -⟩ := hn3
  have fl3 := fld (hg3.obj Hb2.out (by simp))
  have HG3 := hid hg3; clear hg3
  go_wp2_with fail
  have hcall := specNextSolution_c m X _ _ _ (Hmv2.out.gr HG3.out) (HX.out.gr HG3.out) Hms.out D HD.out
  (with_reducible refine hcall.mono ?_)
  clear hcall
  rw [← HY.out]
  rintro e w4 ⟨v4, rfl, hn4, hg4⟩
  have Hn4 := hid hn4
  have HG4 := hid (HG3.out.trans hg4); have Hg4 := hid hg4
  have fl4 := fld (HG4.out.obj Hb2.out (by simp))
  obtain ⟨ok, hok⟩ : ∃ ok, ok = Y.isSome := ⟨_, rfl⟩
  rw [← hok]
  have Hok := hid hok
  obtain ⟨ys, hys⟩ : ∃ ys, ys = Y.getD [] := ⟨_, rfl⟩
  rw [← hys] at Hn3 Hn4 hz1 ⊢
  have Hyl := hid hys
  have hne : (ok != ok) = false := by cases ok <;> rfl
  have heq : (ok == ok) = true := by cases ok <;> rfl
  clear hn4 hg4 fl3 hok hys
  go_wp2_with fail
  have hcall := lawEqualInts_c ys ys _ _ _ (Hn3.out.gr Hg4.out) Hn4.out
  (with_reducible refine hcall.mono ?_)
  clear hcall
  rw [decide_eq_true (rfl : ys = ys)]
  rintro e w5 ⟨rfl, hg5⟩
  have HG5 := hid (HG4.out.trans hg5); have Hn5 := hid (Hn3.out.gr (Hg4.out.trans hg5)); have Hm5 := hid (Hn4.out.gr hg5)
  have fl5 := fld (HG5.out.obj Hb2.out (by simp))
  clear hg5 fl4
  go_wp2_with fail
  have hcall := ValidModel_c m _ _ (Hmv2.out.gr HG5.out)
  (with_reducible refine hcall.mono ?_)
  clear hcall
  rintro e w6 ⟨rfl, hg6⟩
  have HG6 := hid (HG5.out.trans hg6); have Hn6 := hid (Hn5.out.gr hg6); have Hm6 := hid (Hm5.out.gr hg6)
  have fl6 := fld (HG6.out.obj Hb2.out (by simp))
  clear hg6 fl5
  cases hval : validM m
  · clear hval
    go_wp2_with fail
    have hcall := lawEqualInts_c ys ys _ _ _ Hn6.out Hm6.out
    (with_reducible refine hcall.mono ?_)
    clear hcall
    rw [decide_eq_true (rfl : ys = ys)]
    rintro e w7 ⟨rfl, hg7⟩
    go_wp2_with fail
    go_ret
    exact ⟨rfl, (HG2.out.trans HG6.out).trans hg7⟩
  have Hval := hid hval
  clear hval
  by_cases hL : X.length ≠ m.doms.length
  · have l1 : ((X.length : Int) == (m.doms.length : Int)) = false := beq_eq_false_iff_ne.2 (by omega)
    have l2 : ((X.length : Int) != (m.doms.length : Int)) = true := by rw [bne, l1]; rfl
    have l3 : (X.length == m.doms.length) = false := beq_eq_false_iff_ne.2 hL
    have l4 : (X.length != m.doms.length) = true := by rw [bne, l3]; rfl
    clear hL
    go_wp2_with fail
    have hcall := lawEqualInts_c ys ys _ _ _ Hn6.out Hm6.out
    (with_reducible refine hcall.mono ?_)
    clear hcall
    rw [decide_eq_true (rfl : ys = ys)]
    rintro e w7 ⟨rfl, hg7⟩
    go_wp2_with fail
    go_ret
    exact ⟨rfl, (HG2.out.trans HG6.out).trans hg7⟩
  have hL := Decidable.not_not.1 hL
  have l1 : ((X.length : Int) == (m.doms.length : Int)) = true := beq_iff_eq.2 (by omega)
  have l2 : ((X.length : Int) != (m.doms.length : Int)) = false := by rw [bne, l1]; rfl
  have l3 : (X.length == m.doms.length) = true := beq_iff_eq.2 hL
  have l4 : (X.length != m.doms.length) = false := by rw [bne, l3]; rfl
  have HL := hid hL
  have HVM := hid (HD.out Hval.out)
  have HDL : Hid (m.doms.length = D.length) := hid (by rw [HVM.out.doms, ints_len])
  clear hL
  go_wp2_with fail
  have hcall := SolveAll_c m 20 _ _ (Hmv2.out.gr HG6.out) D HD.out
  (with_reducible refine hcall.mono ?_)
  clear hcall
  rintro e w8 ⟨v8, rfl, hr8, hg8⟩
  obtain ⟨zs, hzs⟩ : ∃ zs, zs = allO m 20 D := ⟨_, rfl⟩
  rw [← hzs] at hr8
  have Hzm : Hid (∀ x ∈ zs, x ∈ sols m.cons D) := hid (by rw [hzs]; unfold allO; split; exact fun x hx => List.mem_of_mem_take hx; simp)
  have Hr8 := hid hr8
  obtain ⟨ro, rc, rfl, ⟨hr1, hr2, -⟩, -⟩ := hr8
  have HG8 := hid (HG6.out.trans hg8); have Hn8 := hid (Hn6.out.gr hg8)
  have Hb8 := hid (HG8.out.obj Hb2.out (by simp)); have HX8 := hid (HX.out.gr HG8.out)
  clear hzs hg8 fl6 l1 l2 l3 l4
  cases hYY : Y with
  | none =>
    have Hokf : ok = false := by rw [Hok.out, hYY]; rfl
    subst Hokf
    have Hno : Hid (allB 0 5 X = true → ∀ z ∈ sols m.cons D, lexB X z = false) := hid (fun ha => nextO_none (by rw [Hval.out]; unfold asgB; rw [ha, HL.out]; simp) (by rw [← HY.out, hYY]))
    clear hYY
    go_wp2_with fail
    go_loopw [10] (fun i' wr => ∃ n : Nat, n ≤ zs.length ∧ i' = .int .i64 n ∧ Gr [] w8 wr) (fun i' _ => zs.length - (intOf i').toNat)
    case atStart => exact ⟨0, Nat.zero_le _, rfl, Gr.refl _ _⟩
    case round =>
      obtain ⟨n, hn, rfl, hg⟩ := hrel
      have flr := fld (hg.obj Hb8.out (by simp))
      have Hg := hid hg
      by_cases hlt : n < zs.length
      · obtain ⟨z, hz⟩ := get_some hlt
        have hzs := Hzm.out z (List.mem_of_getElem? hz)
        obtain ⟨b, o, u, e1, hc0, hn0⟩ := (Hr8.out.gr hg).at0 hz
        subst e1
        have Hzl : Hid (X.length = z.length) := hid (by rw [HL.out, HDL.out, (solv hzs).1])
        have Hzs := hid hzs; have Hn0 := hid hn0
        clear hz hzs hn0 hg
        cases hlb : lexB X z
        · go_wp2_with fail
          have hcall := lexLess_k X z false _ _ _ (HX8.out.gr Hg.out) Hn0.out Hzl.out hlb
          (with_reducible refine hcall.mono ?_)
          clear hcall
          rintro e w9 ⟨rfl, hg9⟩
          go_wp2_with fail
          exact ⟨⟨n + 1, by omega, by go_num, Hg.out.trans hg9⟩, by simp [intOf]; omega⟩
        · have Hin : Hid (allB 0 5 X = false) := hid (by
            cases ha : allB 0 5 X
            · rfl
            · have := Hno.out ha z Hzs.out; rw [hlb] at this; cases this)
          go_wp2_with fail
          have hcall := lexLess_k X z true _ _ _ (HX8.out.gr Hg.out) Hn0.out Hzl.out hlb
          (with_reducible refine hcall.mono ?_)
          clear hcall
          rintro e w9 ⟨rfl, hg9⟩
          have Hg9 := hid (Hg.out.trans hg9)
          clear hg9
          go_wp2_with fail
          have hcall := lawInRange_c X _ _ (HX8.out.gr Hg9.out)
          (with_reducible refine hcall.mono ?_)
          clear hcall
          rw [Hin.out]
          rintro e w10 ⟨rfl, hg10⟩
          go_wp2_with fail
          exact ⟨⟨n + 1, by omega, by go_num, Hg9.out.trans hg10⟩, by simp [intOf]; omega⟩
      · clear hg
        go_wp2_with fail
        go_ret
        exact ⟨rfl, (HG2.out.trans HG8.out).trans Hg.out⟩
  | some y =>
    have Hokt : ok = true := by rw [Hok.out, hYY]; rfl
    subst Hokt
    have hysy : ys = y := by rw [Hyl.out, hYY]; rfl
    subst hysy
    obtain ⟨h1, h2, h3⟩ := nextO_least (by rw [← HY.out, hYY] : nextO m D X = some ys)
    have Hys := hid h1; have Hxy := hid h2; have Hle := hid h3
    have Hxyl : Hid (X.length = ys.length) := hid (by rw [HL.out, HDL.out, (solv h1).1])
    clear hYY h1 h2 h3
    go_wp2_with fail
    go_loopw [10] (fun i' wr => ∃ n : Nat, n ≤ zs.length ∧ i' = .int .i64 n ∧ Gr [] w8 wr) (fun i' _ => zs.length - (intOf i').toNat)
    case atStart => exact ⟨0, Nat.zero_le _, rfl, Gr.refl _ _⟩
    case round =>
      obtain ⟨n, hn, rfl, hg⟩ := hrel
      have flr := fld (hg.obj Hb8.out (by simp))
      have Hg := hid hg
      by_cases hlt : n < zs.length
      · obtain ⟨z, hz⟩ := get_some hlt
        have hzs := Hzm.out z (List.mem_of_getElem? hz)
        obtain ⟨b, o, u, e1, hc0, hn0⟩ := (Hr8.out.gr hg).at0 hz
        subst e1
        have Hzl : Hid (X.length = z.length) := hid (by rw [HL.out, HDL.out, (solv hzs).1])
        have Hzs := hid hzs; have Hn0 := hid hn0; have Hc0 := hid hc0
        clear hz hzs hn0 hg hc0
        cases hlb : lexB X z
        · have hc0 := Hc0.out
          go_wp2_with fail
          have hcall := lexLess_k X z false _ _ _ (HX8.out.gr Hg.out) Hn0.out Hzl.out hlb
          (with_reducible refine hcall.mono ?_)
          clear hcall
          rintro e w9 ⟨rfl, hg9⟩
          go_wp2_with fail
          exact ⟨⟨n + 1, by omega, by go_num, Hg.out.trans hg9⟩, by simp [intOf]; omega⟩
        · have Hzy := hid (Hle.out z Hzs.out hlb)
          have hc0 := Hc0.out
          go_wp2_with fail
          have hcall := lexLess_k X z true _ _ _ (HX8.out.gr Hg.out) Hn0.out Hzl.out hlb
          (with_reducible refine hcall.mono ?_)
          clear hcall
          rintro e w9 ⟨rfl, hg9⟩
          have Hg9 := hid (Hg.out.trans hg9); have hc9 := hg9.cell Hc0.out (by simp); have Hn9 := hid (Hn0.out.gr hg9)
          clear hg9 hc0
          go_wp2_with fail
          have hcall := lexLess_k z ys false _ _ _ Hn9.out (Hn8.out.gr Hg9.out) (by rw [← Hzl.out, Hxyl.out]) Hzy.out
          (with_reducible refine hcall.mono ?_)
          clear hcall
          rintro e w10 ⟨rfl, hg10⟩
          go_wp2_with fail
          exact ⟨⟨n + 1, by omega, by go_num, Hg9.out.trans hg10⟩, by simp [intOf]; omega⟩
      · clear hg
        go_wp2_with fail
        have hcall := IsSolution_t m D ys _ _ _ (Hmv2.out.gr (HG8.out.trans Hg.out)) HVM.out (Hn8.out.gr Hg.out) Hys.out
        (with_reducible refine hcall.mono ?_)
        clear hcall
        rintro e w9 ⟨rfl, hg9⟩
        have Hg9 := hid (Hg.out.trans hg9)
        clear hg9
        go_wp2_with fail
        have hcall := lexLess_k X ys true _ _ _ (HX8.out.gr Hg9.out) (Hn8.out.gr Hg9.out) Hxyl.out Hxy.out
        (with_reducible refine hcall.mono ?_)
        clear hcall
        rintro e w10 ⟨rfl, hg10⟩
        go_wp2_with fail
        go_ret
        exact ⟨rfl, ((HG2.out.trans HG8.out).trans Hg9.out).trans hg10⟩

end Go.Proofs.YtjmjjdgbkibdaaaGreat
