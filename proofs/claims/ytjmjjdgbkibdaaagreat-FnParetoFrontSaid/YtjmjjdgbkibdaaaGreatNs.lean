/-
  Walks of NextSolution: the program's and the reference's.
-/
import Derived.Test.YtjmjjdgbkibdaaaGreatRe
import Derived.Test.YtjmjjdgbkibdaaaGreatSy4
set_option linter.unusedVariables false
namespace Go.Proofs.YtjmjjdgbkibdaaaGreat
open Go.RowKit

theorem specLexLess_c (xs ys : List Int) (vx vy : Value) (w : World) (hx : Nums [] w .i64 vx xs) (hy : Nums [] w .i64 vy ys) (hl : xs.length = ys.length) :
    Calls Tryz.prog 125 #[vx, vy] w fun e w' => e = .returned (.bool (lexB xs ys)) ∧ Gr [] w w' := by
  have Hx := hid hx; have Hy := hid hy
  obtain ⟨xo, xc, rfl, ⟨hx1, hx2, _⟩, _⟩ := hx
  obtain ⟨yo, yc, rfl, ⟨hy1, hy2, _⟩, _⟩ := hy
  have hle : xs.length ≤ ys.length := by omega
  have HL := hid hl
  clear hl
  go_enter Tryz.func125, Tryz.ntmps125
  go_wp2_with fail
  go_loopw [5] (fun i wr => ∃ n : Nat, n ≤ xs.length ∧ i = .int .i64 n ∧ lexB (xs.drop n) (ys.drop n) = lexB xs ys ∧ Gr [] w wr) (fun i _ => xs.length - (intOf i).toNat)
  case atStart => exact ⟨0, Nat.zero_le _, rfl, rfl, Gr.refl _ _⟩
  case round =>
    obtain ⟨n, hn, rfl, hd, hg⟩ := hrel
    have Hd := hid hd; clear hd
    by_cases hlt : n < xs.length
    · obtain ⟨x, hx⟩ := get_some hlt
      obtain ⟨y, hy⟩ := get_some (show n < ys.length by omega)
      obtain ⟨b, o, rfl, _, h0⟩ := (Hx.out.gr hg).at hx
      obtain ⟨b', o', rfl, _, h1⟩ := (Hy.out.gr hg).at hy
      have HX := hid (drop_cons hx); have HY := hid (drop_cons hy); clear hx hy
      have hny : n < ys.length := by omega
      cases hb : (x != y)
      · go_wp2_with fail
        go_quiet (fail)
        go_wp2_with fail
        refine ⟨⟨n + 1, by omega, by go_num, ?_, hg.drewN _⟩, by simp [intOf]; omega⟩
        have := Hd.out
        rw [HX.out, HY.out] at this
        have e : x = y := by simpa using hb
        rw [← this]; simp [lexB, e]
      · go_wp2_with fail
        go_quiet (fail)
        go_wp2_with fail
        go_quiet (fail)
        go_wp2_with fail
        go_ret
        refine ⟨ret_bool ?_, (hg.drewN _).drewN _⟩
        have := Hd.out
        rw [HX.out, HY.out] at this
        have e : x ≠ y := by simpa using hb
        rw [← this]; simp [lexB, e]
    · go_wp2_with fail
      go_ret
      refine ⟨ret_bool ?_, hg⟩
      have := Hd.out
      rw [drop_end (by omega), drop_end (by have := HL.out; omega)] at this
      rw [← this]; rfl

def cmpL : List Int → List Int → Int
  | x :: xs, y :: ys => if x < y then -1 else if y < x then 1 else cmpL xs ys
  | _, _ => 0
theorem cmpL_cons (x y : Int) (xs ys : List Int) : cmpL (x :: xs) (y :: ys) = if x < y then -1 else if y < x then 1 else cmpL xs ys := rfl
theorem lexB_cons (x y : Int) (xs ys : List Int) : lexB (x :: xs) (y :: ys) = if x = y then lexB xs ys else decide (x < y) := rfl
theorem cmpL_pos' (xs ys : List Int) (h : xs.length = ys.length) : 0 < cmpL xs ys ↔ lexB ys xs = true := by
  induction xs generalizing ys with
  | nil => cases ys with
    | nil => simp [cmpL, lexB]
    | cons y ys => simp at h
  | cons x xs ih =>
    cases ys with
    | nil => simp at h
    | cons y ys =>
      have h' : xs.length = ys.length := by simpa using h
      rw [cmpL_cons, lexB_cons]
      by_cases h1 : x < y
      · rw [if_pos h1, if_neg (show ¬ y = x by omega), decide_eq_true_iff]; omega
      · rw [if_neg h1]
        by_cases h2 : y < x
        · rw [if_pos h2, if_neg (show ¬ y = x by omega), decide_eq_true_iff]; omega
        · rw [if_neg h2, if_pos (show y = x by omega)]
          exact ih ys h'
theorem cmpL_pos (xs ys : List Int) (h : xs.length = ys.length) : decide (0 < cmpL xs ys) = lexB ys xs := by
  have := cmpL_pos' xs ys h
  cases hl : lexB ys xs
  · rw [hl] at this; exact decide_eq_false (by simpa using this)
  · rw [hl] at this; exact decide_eq_true (by simpa using this)

theorem isNaN_c (a : Int) (w : World) : Calls Tryz.prog 208 #[.int .i64 a] w fun e w' => e = .returned (.bool false) ∧ w' = w := by
  have h : (a != a) = false := by simp
  go_enter Tryz.func208, Tryz.ntmps208
  go_wp2_with fail
  go_ret
  exact ⟨rfl, rfl⟩
theorem compareInt_c (a b : Int) (w : World) : Calls Tryz.prog 176 #[.int .i64 a, .int .i64 b] w fun e w' => e = .returned (.int .i64 (if a < b then -1 else if b < a then 1 else 0)) ∧ w' = w := by
  by_cases h1 : a < b
  · rw [if_pos h1]
    go_enter Tryz.func176, Tryz.ntmps176
    go_wp2_with (go_at_call 208; refine (isNaN_c _ _).mono ?_; rintro e w' ⟨rfl, rfl⟩)
    go_ret
    exact ⟨rfl, rfl⟩
  · rw [if_neg h1]
    by_cases h2 : b < a
    · rw [if_pos h2]
      go_enter Tryz.func176, Tryz.ntmps176
      go_wp2_with (go_at_call 208; refine (isNaN_c _ _).mono ?_; rintro e w' ⟨rfl, rfl⟩)
      go_ret
      exact ⟨rfl, rfl⟩
    · rw [if_neg h2]
      go_enter Tryz.func176, Tryz.ntmps176
      go_wp2_with (go_at_call 208; refine (isNaN_c _ _).mono ?_; rintro e w' ⟨rfl, rfl⟩)
      go_ret
      exact ⟨rfl, rfl⟩

theorem slicesCompare_c (xs ys : List Int) (vx vy : Value) (w : World) (hx : Nums [] w .i64 vx xs) (hy : Nums [] w .i64 vy ys) (hl : xs.length = ys.length) :
    Calls Tryz.prog 124 #[vx, vy] w fun e w' => e = .returned (.int .i64 (cmpL xs ys)) ∧ Gr [] w w' := by
  have Hx := hid hx; have Hy := hid hy
  obtain ⟨xo, xc, rfl, ⟨hx1, hx2, -⟩, -⟩ := hx
  obtain ⟨yo, yc, rfl, ⟨hy1, hy2, -⟩, -⟩ := hy
  have hle : xs.length ≤ ys.length := by omega
  have hge : ys.length ≤ xs.length := by omega
  clear hl
  go_enter Tryz.func124, Tryz.ntmps124
  go_wp2_with fail
  go_loopw [11] (fun i wr => ∃ n : Nat, n ≤ xs.length ∧ i = .int .i64 n ∧ cmpL (xs.drop n) (ys.drop n) = cmpL xs ys ∧ Gr [] w wr) (fun i _ => xs.length - (intOf i).toNat)
  case atStart => exact ⟨0, Nat.zero_le _, rfl, rfl, Gr.refl _ _⟩
  case round =>
    obtain ⟨n, hn, rfl, hd, hg⟩ := hrel
    have Hd := hid hd; clear hd
    by_cases hlt : n < xs.length
    · obtain ⟨x, hx⟩ := get_some hlt
      obtain ⟨y, hy⟩ := get_some (show n < ys.length by omega)
      obtain ⟨b, o, rfl, _, h0⟩ := (Hx.out.gr hg).at hx
      obtain ⟨b', o', rfl, _, h1⟩ := (Hy.out.gr hg).at hy
      have HX := hid (drop_cons hx); have HY := hid (drop_cons hy); clear hx hy
      have hny : n < ys.length := by omega
      go_wp2_with fail
      have hcall := compareInt_c x y wr
      (with_reducible refine hcall.mono ?_)
      clear hcall
      rintro e w2 ⟨rfl, rfl⟩
      by_cases h1 : x < y
      · have hh : cmpL xs ys = -1 := by have := Hd.out; rw [HX.out, HY.out] at this; rw [← this]; simp [cmpL, h1]
        have Hh := hid hh; clear hh
        rw [if_pos h1]
        go_wp2_with fail
        go_ret
        exact ⟨ret_int Hh.out.symm, hg⟩
      · rw [if_neg h1]
        by_cases h2 : y < x
        · have hh : cmpL xs ys = 1 := by have := Hd.out; rw [HX.out, HY.out] at this; rw [← this]; simp [cmpL, h1, h2]
          have Hh := hid hh; clear hh
          rw [if_pos h2]
          go_wp2_with fail
          go_ret
          exact ⟨ret_int Hh.out.symm, hg⟩
        · have hh : cmpL (xs.drop (n + 1)) (ys.drop (n + 1)) = cmpL xs ys := by have := Hd.out; rw [HX.out, HY.out] at this; rw [← this]; simp [cmpL, h1, h2]
          have Hh := hid hh; clear hh
          rw [if_neg h2]
          go_wp2_with fail
          exact ⟨⟨n + 1, by omega, by go_num, Hh.out, hg⟩, by simp [intOf]; omega⟩
    · have hh : cmpL xs ys = 0 := by have := Hd.out; rw [drop_end (by omega)] at this; rw [← this]; rfl
      have Hh := hid hh; clear hh
      go_wp2_with fail
      go_ret
      exact ⟨ret_int Hh.out.symm, hg⟩

theorem sols_lenD {m : Mod} {D : List Nat} (hv : VM m D) {x : List Int} (h : x ∈ sols m.cons D) : x.length = m.doms.length := by rw [tups_len (mem_sols.1 h).1, hv.doms, ints_len]
def asgB (x : List Int) (n : Nat) : Bool := ((x.length : Int) == (n : Int)) && allB 0 5 x
theorem assigned_c (x : List Int) (n : Nat) (v : Value) (w : World) (hv : Nums [] w .i64 v x) :
    Calls Tryz.prog 85 #[v, .int .i64 n] w fun e w' => e = .returned (.bool (asgB x n)) ∧ Gr [] w w' := by
  have Hv := hid hv
  obtain ⟨xo, xc, rfl, ⟨hx1, hx2, _⟩, _⟩ := hv
  cases hl : ((x.length : Int) == (n : Int))
  · go_enter Tryz.func85, Tryz.ntmps85
    go_wp2_with fail
    go_ret
    exact ⟨ret_bool (by unfold asgB; rw [hl]; rfl), Gr.refl _ _⟩
  · have Hl := hid hl
    go_enter Tryz.func85, Tryz.ntmps85
    go_wp2_with fail
    have hcall := allIn_c x 0 5 _ w Hv.out
    (with_reducible refine hcall.mono ?_)
    clear hcall
    rintro e w1 ⟨rfl, hg1⟩
    go_wp2_with fail
    go_ret
    exact ⟨ret_bool (by unfold asgB; rw [Hl.out]; rfl), hg1⟩

theorem validAssignment_c (m : Mod) (x : List Int) (mv v : Value) (w : World) (hm : ModV [] w mv m) (hv : Nums [] w .i64 v x) :
    Calls Tryz.prog 82 #[mv, v] w fun e w' => e = .returned (.bool (asgB x m.doms.length)) ∧ Gr [] w w' := by
  have Hv := hid hv
  obtain ⟨xo, xc, co, cc, rfl⟩ := hm.slices
  obtain ⟨vo, vc, rfl, ⟨hx1, hx2, _⟩, _⟩ := hv
  have hg0 : Gr [] w (w.alloc (.cells #[.slice xo m.doms.length xc, .slice co m.cons.length cc] 31)) := (Gr.refl _ _).alloc _
  have hb0 : (w.alloc (.cells #[.slice xo m.doms.length xc, .slice co m.cons.length cc] 31)).heap[w.heap.size]? = some (.cells #[.slice xo m.doms.length xc, .slice co m.cons.length cc] 31 (0, 0)) := heap_alloc_new _ _
  have fl0 := fld hb0
  have Hg0 := hid hg0
  clear hg0 hb0 hm
  cases hl : ((x.length : Int) == (m.doms.length : Int))
  · go_enter Tryz.func82, Tryz.ntmps82
    go_wp2_with fail
    go_ret
    exact ⟨ret_bool (by unfold asgB; rw [hl]; rfl), Hg0.out⟩
  · have Hl := hid hl
    go_enter Tryz.func82, Tryz.ntmps82
    go_wp2_with fail
    have hcall := allInRange_c x 0 5 _ _ (Hv.out.gr Hg0.out)
    (with_reducible refine hcall.mono ?_)
    clear hcall
    rintro e w1 ⟨rfl, hg1⟩
    go_wp2_with fail
    go_ret
    exact ⟨ret_bool (by unfold asgB; rw [Hl.out]; rfl), Hg0.out.trans (by first | exact hg1 | (subst hg1; exact Gr.refl _ _))⟩

def nextO (m : Mod) (D : List Nat) (x : List Int) : Option (List Int) := if validM m && asgB x m.doms.length then (sols m.cons D).find? (fun y => lexB x y) else none
theorem nextO_no {m : Mod} {D : List Nat} {x : List Int} (h : (validM m && asgB x m.doms.length) = false) : nextO m D x = none := by unfold nextO; rw [h]; rfl
theorem nextO_yes {m : Mod} {D : List Nat} {x : List Int} (h : (validM m && asgB x m.doms.length) = true) : nextO m D x = (sols m.cons D).find? (fun y => lexB x y) := by unfold nextO; rw [h]; rfl
theorem find_at {p : List Int → Bool} {zs : List (List Int)} {n : Nat} {y : List Int} (h0 : ∀ z ∈ zs.take n, p z = false) (hy : zs[n]? = some y) (hp : p y = true) : zs.find? p = some y := by
  induction zs generalizing n with
  | nil => simp at hy
  | cons z r ih =>
    cases n with
    | zero => simp at hy; subst hy; simp [hp]
    | succ n =>
      have hz := h0 z (by simp)
      rw [List.find?_cons, hz]
      exact ih (n := n) (fun q hq => h0 q (by simp [hq])) (by simpa using hy)
theorem find_none {p : List Int → Bool} {zs : List (List Int)} (h0 : ∀ z ∈ zs, p z = false) : zs.find? p = none := by
  rw [List.find?_eq_none]
  intro z hz; rw [h0 z hz]; simp
theorem asg_len {x : List Int} {n : Nat} (h : asgB x n = true) : x.length = n ∧ ∀ y ∈ x, 0 ≤ y ∧ y ≤ 5 := by
  unfold asgB at h
  rw [Bool.and_eq_true] at h
  exact ⟨by have := h.1; simp at this; omega, allB_iff.1 h.2⟩

set_option maxRecDepth 100000 in
set_option maxHeartbeats 1000000 in
theorem NextSolution_c (m : Mod) (x : List Int) (mv xv : Value) (w : World) (hv : ModV [] w mv m) (hx : Nums [] w .i64 xv x) (D : List Nat) (hD : validM m = true → VM m D) :
    Calls Tryz.prog 53 #[mv, xv] w fun e w' => ∃ v', e = .returned (.tuple #[v', .bool (nextO m D x).isSome]) ∧ NumsM (New w.heap.size w') w' v' ((nextO m D x).getD []) ∧ Gr [] w w' := by
  have Hv := hid hv; have HD := hid hD; have Hxx := hid hx
  obtain ⟨xo, xc, co, cc, rfl⟩ := hv.slices
  obtain ⟨ao, ac, rfl, ⟨ha1, ha2, -⟩, -⟩ := hx
  have hg0 : Gr [] w (w.alloc (.cells #[.slice xo m.doms.length xc, .slice co m.cons.length cc] 31)) := (Gr.refl _ _).alloc _
  have hb0 : (w.alloc (.cells #[.slice xo m.doms.length xc, .slice co m.cons.length cc] 31)).heap[w.heap.size]? = some (.cells #[.slice xo m.doms.length xc, .slice co m.cons.length cc] 31 (0, 0)) := heap_alloc_new _ _
  have fl0 := fld hb0
  have Hg0 := hid hg0; have Hb0 := hid hb0
  clear hv hg0 hb0 hD
  go_enter Tryz.func53, Tryz.ntmps53
  go_wp2_with fail
  have hcall := ValidModel_c m _ _ (Hv.out.gr Hg0.out)
  (with_reducible refine hcall.mono ?_)
  clear hcall
  rintro e w1 ⟨rfl, hg1⟩
  have fl1 := fld (hg1.obj Hb0.out (by simp))
  have Hb1 := hid (hg1.obj Hb0.out (by simp))
  have Hg1 := hid (Hg0.out.trans hg1)
  have hs1 := hg1.size
  rw [World.size_alloc] at hs1
  clear fl0 hg1
  cases hval : validM m
  · have Hval := hid hval; clear hval
    go_wp2_with fail
    go_ret2
    rw [nextO_no (by rw [Hval.out]; rfl)]
    exact ⟨_, rfl, NumsM.nil _ _, Hg1.out⟩
  have hVM := HD.out hval
  have Hval := hid hval; have HVM := hid hVM
  clear hval hVM
  go_wp2_with fail
  have hcall := assigned_c x m.doms.length _ w1 (Hxx.out.gr Hg1.out)
  (with_reducible refine hcall.mono ?_)
  clear hcall
  rintro e w2 ⟨rfl, hg2⟩
  have fl2 := fld (hg2.obj Hb1.out (by simp))
  have Hg2 := hid (Hg1.out.trans hg2)
  have hs2 := hg2.size
  clear fl1 hg2
  cases has : asgB x m.doms.length
  · have Has := hid has; clear has
    go_wp2_with fail
    go_ret2
    rw [nextO_no (by rw [Has.out]; simp)]
    exact ⟨_, rfl, NumsM.nil _ _, Hg2.out⟩
  have Hal := hid (asg_len has)
  have Hyes := hid (nextO_yes (D := D) (show (validM m && asgB x m.doms.length) = true by rw [Hval.out, has]; rfl))
  clear has
  go_wp2_with fail
  have hcall := solutionsD_c m D _ w2 (Hv.out.gr Hg2.out) HVM.out
  (with_reducible refine hcall.mono ?_)
  clear hcall
  rintro e w3 ⟨v3, rfl, ⟨_, hd3⟩, hg3⟩
  have he3 := hd3.e
  obtain ⟨zs, hz⟩ : ∃ zs, zs = sols m.cons D := ⟨_, rfl⟩
  rw [← hz] at he3
  have Hz := hid hz; have He3 := hid he3
  obtain ⟨ro, rc, rfl, ⟨hr1, hr2, -⟩, -⟩ := he3
  have hs3 := hg3.size
  have Hg3 := hid (Hg2.out.trans hg3)
  clear hd3 hz hg3 fl2
  go_wp2_with fail
  go_loopw [22] (fun i wr => ∃ n : Nat, n ≤ zs.length ∧ i = .int .i64 n ∧ (∀ z ∈ zs.take n, lexB x z = false) ∧ Gr [] w3 wr) (fun i _ => zs.length - (intOf i).toNat)
  case atStart => exact ⟨0, Nat.zero_le _, rfl, by simp, Gr.refl _ _⟩
  case round =>
    obtain ⟨n, hn, rfl, hok, hg⟩ := hrel
    have Hok := hid hok; clear hok
    by_cases hlt : n < zs.length
    · obtain ⟨y, hy⟩ := get_some hlt
      obtain ⟨g, b, c, rfl, hbE, hc0, hin, -⟩ := (He3.out.keep hg (by simp)).row hy
      have hys : y ∈ sols m.cons D := by rw [← Hz.out]; exact List.mem_of_getElem? hy
      have hyl : y.length = x.length := by
        have h1 := (sols_lenD HVM.out hys); have h2 := Hal.out.1; omega
      have Hin := hid hin; have Hg := hid hg; have Hy := hid hy; have Hyl := hid hyl
      clear hin hg hy hys hyl
      go_wp2_with fail
      have hcall := slicesCompare_c y x _ _ wr (Hin.out.nums (by simp)) (Hxx.out.gr (Hg3.out.trans Hg.out)) Hyl.out
      (with_reducible refine hcall.mono ?_)
      clear hcall
      have hcmp := cmpL_pos y x Hyl.out
      obtain ⟨q, hq⟩ : ∃ q, q = cmpL y x := ⟨_, rfl⟩
      rw [← hq] at hcmp ⊢
      have Hcmp := hid hcmp
      rintro e w5 ⟨rfl, hg5⟩
      have Hg5 := hid hg5
      clear hcmp hq hg5
      by_cases hpos : 0 < q
      · have hlx : lexB x y = true := by rw [← Hcmp.out]; simp [hpos]
        have Hlx := hid hlx; clear hlx
        go_wp2_with fail
        go_ret2
        rw [Hyes.out, ← Hz.out, find_at Hok.out Hy.out Hlx.out]
        refine ⟨_, rfl, Hin.out.gr' Hg5.out (by simp) (fun k hk e => ?_), (Hg3.out.trans Hg.out).trans Hg5.out⟩
        subst e
        exact ⟨by omega, Nat.lt_of_lt_of_le hk Hg5.out.size⟩
      · have hlx : lexB x y = false := by rw [← Hcmp.out]; simp; omega
        have Hlx := hid hlx; clear hlx
        go_wp2_with fail
        refine ⟨⟨n + 1, by omega, by go_num, ?_, Hg.out.trans Hg5.out⟩, by simp [intOf]; omega⟩
        intro z hz
        rw [List.take_add_one, Hy.out] at hz
        rcases List.mem_append.1 hz with h | h
        · exact Hok.out z h
        · simp at h; subst h; exact Hlx.out
    · have hnone : zs.find? (fun y => lexB x y) = none := find_none (by have := Hok.out; rwa [List.take_of_length_le (by omega)] at this)
      have Hnone := hid hnone; clear hnone
      go_wp2_with fail
      go_ret2
      rw [Hyes.out, ← Hz.out, Hnone.out]
      exact ⟨_, rfl, NumsM.nil _ _, Hg3.out.trans hg⟩

set_option maxRecDepth 100000 in
set_option maxHeartbeats 1000000 in
theorem specNextSolution_c (m : Mod) (x : List Int) (mv xv : Value) (w : World) (hv : ModV [] w mv m) (hx : Nums [] w .i64 xv x) (hs : m.Small) (D : List Nat) (hD : validM m = true → VM m D) :
    Calls Tryz.prog 54 #[mv, xv] w fun e w' => ∃ v', e = .returned (.tuple #[v', .bool (nextO m D x).isSome]) ∧ Nums [] w' .i64 v' ((nextO m D x).getD []) ∧ Gr [] w w' := by
  have Hv := hid hv; have HD := hid hD; have Hxx := hid hx; have Hs := hid hs
  obtain ⟨xo, xc, co, cc, rfl⟩ := hv.slices
  obtain ⟨ao, ac, rfl, ⟨ha1, ha2, -⟩, -⟩ := hx
  have hg0 : Gr [] w (w.alloc (.cells #[.slice xo m.doms.length xc, .slice co m.cons.length cc] 31)) := (Gr.refl _ _).alloc _
  have hb0 : (w.alloc (.cells #[.slice xo m.doms.length xc, .slice co m.cons.length cc] 31)).heap[w.heap.size]? = some (.cells #[.slice xo m.doms.length xc, .slice co m.cons.length cc] 31 (0, 0)) := heap_alloc_new _ _
  have fl0 := fld hb0
  have Hg0 := hid hg0; have Hb0 := hid hb0
  clear hv hg0 hb0 hD hs
  go_enter Tryz.func54, Tryz.ntmps54
  go_wp2_with fail
  have hcall := specValidModel_c m _ _ (Hv.out.gr Hg0.out) Hs.out
  (with_reducible refine hcall.mono ?_)
  clear hcall
  rintro e w1 ⟨rfl, hg1⟩
  have fl1 := fld (hg1.obj Hb0.out (by simp))
  have Hb1 := hid (hg1.obj Hb0.out (by simp))
  have Hg1 := hid (Hg0.out.trans hg1)
  clear fl0 hg1
  cases hval : validM m
  · have Hval := hid hval; clear hval
    go_wp2_with fail
    go_ret2
    rw [nextO_no (by rw [Hval.out]; rfl)]
    exact ⟨_, rfl, (Own.nil 0 _ 3).nums (by simp), Hg1.out⟩
  have hVM := HD.out hval
  have Hval := hid hval; have HVM := hid hVM
  clear hval hVM
  go_wp2_with fail
  have hcall := validAssignment_c m x _ _ w1 (Hv.out.gr Hg1.out) (Hxx.out.gr Hg1.out)
  (with_reducible refine hcall.mono ?_)
  clear hcall
  rintro e w2 ⟨rfl, hg2⟩
  have fl2 := fld (hg2.obj Hb1.out (by simp))
  have Hg2 := hid (Hg1.out.trans hg2)
  clear fl1 hg2
  cases has : asgB x m.doms.length
  · have Has := hid has; clear has
    go_wp2_with fail
    go_ret2
    rw [nextO_no (by rw [Has.out]; simp)]
    exact ⟨_, rfl, (Own.nil 0 _ 3).nums (by simp), Hg2.out⟩
  have Hal := hid (asg_len has)
  have Hyes := hid (nextO_yes (D := D) (show (validM m && asgB x m.doms.length) = true by rw [Hval.out, has]; rfl))
  clear has
  go_wp2_with fail
  have hcall := solve_c m D 4096 _ w2 (Hv.out.gr Hg2.out) HVM.out (by omega) (by omega)
  rw [show ((4096 : Nat) : Int) = 4096 from rfl] at hcall
  (with_reducible refine hcall.mono ?_)
  clear hcall
  rintro e w3 ⟨v3, nd, rfl, hown3, hg3⟩
  rw [all_sols m D HVM.out] at hown3
  obtain ⟨zs, hz⟩ : ∃ zs, zs = sols m.cons D := ⟨_, rfl⟩
  rw [← hz] at hown3
  have Hz := hid hz
  have Hl := hid (hown3.rows (S := []) (by simp))
  obtain ⟨ro, rc, rfl, hr1, hr2, -⟩ := hown3.slice
  have Hg3 := hid (Hg2.out.trans hg3)
  clear hown3 hz hg3 fl2
  go_wp2_with fail
  go_loopw [8] (fun i wr => ∃ n : Nat, n ≤ zs.length ∧ i = .int .i64 n ∧ (∀ z ∈ zs.take n, lexB x z = false) ∧ Gr [] w3 wr) (fun i _ => zs.length - (intOf i).toNat)
  case atStart => exact ⟨0, Nat.zero_le _, rfl, by simp, Gr.refl _ _⟩
  case round =>
    obtain ⟨n, hn, rfl, hok, hg⟩ := hrel
    have Hok := hid hok; clear hok
    by_cases hlt : n < zs.length
    · obtain ⟨y, hy⟩ := get_some hlt
      obtain ⟨b, o, u, rfl, hc0, hn0⟩ := (Hl.out.gr hg).at0 hy
      have hys : y ∈ sols m.cons D := by rw [← Hz.out]; exact List.mem_of_getElem? hy
      have hyl : x.length = y.length := by
        have h1 := (sols_lenD HVM.out hys); have h2 := Hal.out.1; omega
      have Hn0 := hid hn0; have Hg := hid hg; have Hy := hid hy; have Hyl := hid hyl
      clear hn0 hg hy hys hyl
      go_wp2_with fail
      have hcall := specLexLess_c x y _ _ wr (Hxx.out.gr (Hg3.out.trans Hg.out)) Hn0.out Hyl.out
      (with_reducible refine hcall.mono ?_)
      clear hcall
      rintro e w5 ⟨rfl, hg5⟩
      have hc5 := hg5.cell hc0 (by simp)
      have Hg5 := hid hg5
      clear hg5 hc0
      cases hlx : lexB x y
      · have Hlx := hid hlx; clear hlx
        go_wp2_with fail
        refine ⟨⟨n + 1, by omega, by go_num, ?_, Hg.out.trans Hg5.out⟩, by simp [intOf]; omega⟩
        intro z hz
        rw [List.take_add_one, Hy.out] at hz
        rcases List.mem_append.1 hz with h | h
        · exact Hok.out z h
        · simp at h; subst h; exact Hlx.out
      · have Hlx := hid hlx; clear hlx
        go_wp2_with fail
        go_ret2
        rw [Hyes.out, ← Hz.out, find_at Hok.out Hy.out Hlx.out]
        exact ⟨_, rfl, Hn0.out.gr Hg5.out, (Hg3.out.trans Hg.out).trans Hg5.out⟩
    · have hnone : zs.find? (fun y => lexB x y) = none := find_none (by have := Hok.out; rwa [List.take_of_length_le (by omega)] at this)
      have Hnone := hid hnone; clear hnone
      go_wp2_with fail
      go_ret2
      rw [Hyes.out, ← Hz.out, Hnone.out]
      exact ⟨_, rfl, (Own.nil 0 _ 3).nums (by simp), Hg3.out.trans hg⟩
theorem nextO_len (m : Mod) (x : List Int) (D : List Nat) (hD : validM m = true → VM m D) : ((nextO m D x).getD []).length ≤ 1000000 := by
  cases h : (validM m && asgB x m.doms.length)
  · rw [nextO_no h]; simp
  · rw [nextO_yes h]
    rw [Bool.and_eq_true] at h
    have hv := hD h.1
    cases hf : (sols m.cons D).find? (fun y => lexB x y) with
    | none => simp
    | some y =>
      have := sols_lenD hv (List.mem_of_find?_eq_some hf)
      have := hv.len.2
      simp only [Option.getD_some]
      have h3 : m.doms.length = D.length := by rw [hv.doms, ints_len]
      omega
end Go.Proofs.YtjmjjdgbkibdaaaGreat
