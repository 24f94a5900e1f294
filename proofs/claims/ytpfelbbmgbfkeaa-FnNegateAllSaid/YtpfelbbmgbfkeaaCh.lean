/-
  Walks: when a clause holds; lists of literals compared; when all literals are true.
-/
import Derived.Test.YtpfelbbmgbfkeaaVl
import Derived.Test.YtpfelbbmgbfkeaaTr
set_option linter.unusedVariables false
set_option linter.unusedSimpArgs false
namespace Go.Proofs.Ytpfelbbmgbfkeaa
open Go.RowKit

theorem below_snocT {c : Cls} {p : Lit → Bool} {n : Nat} {l : Lit} (h : ∀ (j : Nat) x, j < n → c[j]? = some x → p x = true) (hl : c[n]? = some l) (hp : p l = true) : ∀ (j : Nat) x, j < n + 1 → c[j]? = some x → p x = true := by
  intro j y hj hy
  by_cases e : j = n
  · subst e; rw [hl] at hy; cases hy; exact hp
  · exact h j y (by omega) hy
theorem allTB_no {c : Cls} {xs : List Int} {n : Nat} {l : Lit} (hl : c[n]? = some l) (hp : trueB l xs = false) : allTB c xs = false := by
  unfold allTB
  rw [List.all_eq_false]
  exact ⟨l, List.mem_of_getElem? hl, by rw [hp]; simp⟩
/-- slices.IndexFunc over literals. -/
theorem idxLit_c (cs : Cls) (p : Lit → Bool) (v : Value) (k : Nat) (C : Array Value) (w : World) (hv : LitsV [] w v cs)
    (hk : ∀ args w, (callFunc k args).run Try.prog w = .ok (.enter k args) w)
    (hf : ∀ c w1, c ∈ cs → Gr [] w w1 → Calls Try.prog k (#[.agg #[.int .i64 c.var, .int .i64 c.val, .bool c.neg]] ++ C) w1 fun e w2 => e = .returned (.bool (p c)) ∧ Gr [] w1 w2) :
    Calls Try.prog 70 #[v, .func (.func k) #[] C] w fun e w' => (∃ i : Int, e = .returned (.int .i64 i) ∧ (0 ≤ i ↔ anyG p cs = true)) ∧ Gr [] w w' := by
  obtain ⟨ao, cap, rfl, ⟨hlc, hcm, _⟩, hc⟩ := hv
  have hlen : cs.length ≤ 9223372036854775807 := by omega
  have Hf := hid hf; clear hf
  have Hc : Hid (LitsV [] w (.slice ao cs.length cap) cs) := hid ⟨_, _, rfl, ⟨hlc, hcm, by assumption⟩, hc⟩; clear hc
  go_enter Try.func70, Try.ntmps70
  go_wp2_with fail
  go_loopw [8] (fun i wr => ∃ n : Nat, n ≤ cs.length ∧ i = .int .i64 n ∧ (∀ (j : Nat) x, j < n → cs[j]? = some x → p x = false) ∧ Gr [] w wr) (fun i _ => cs.length - (intOf i).toNat)
  case atStart => exact ⟨0, Nat.zero_le _, rfl, by intro j x hj; omega, Gr.refl _ _⟩
  case round =>
    obtain ⟨n, hn, rfl, hp, hg⟩ := hrel
    have HP := hid hp; clear hp
    by_cases hlt : n < cs.length
    · obtain ⟨c, hx⟩ := get_some hlt
      obtain ⟨b, o, rfl, hs, h0, h1, h2⟩ := (Hc.out.gr hg).at hx
      have HX := hid hx; clear hx
      go_wp2_with fail
      refine (Hf.out c _ (List.mem_of_getElem? HX.out) hg).mono ?_
      rintro e w2 ⟨rfl, hg2⟩
      cases hb : p c
      all_goals go_wp2_with fail
      · exact ⟨⟨n + 1, by omega, by go_num, below_snoc HP.out HX.out hb, hg.trans hg2⟩, by simp [intOf]; omega⟩
      · go_ret
        exact ⟨⟨n, rfl, ⟨fun _ => anyG_true HX.out hb, fun _ => by omega⟩⟩, hg.trans hg2⟩
    · go_wp2_with fail
      go_ret
      refine ⟨⟨-1, rfl, ⟨fun h => by omega, fun h => ?_⟩⟩, hg⟩
      rw [anyG_false (fun j x hj => HP.out j x (by omega))] at h; cases h
theorem containsLit_c (cs : Cls) (p : Lit → Bool) (v : Value) (k : Nat) (C : Array Value) (w : World) (hv : LitsV [] w v cs)
    (hk : ∀ args w, (callFunc k args).run Try.prog w = .ok (.enter k args) w)
    (hf : ∀ c w1, c ∈ cs → Gr [] w w1 → Calls Try.prog k (#[.agg #[.int .i64 c.var, .int .i64 c.val, .bool c.neg]] ++ C) w1 fun e w2 => e = .returned (.bool (p c)) ∧ Gr [] w1 w2) :
    Calls Try.prog 36 #[v, .func (.func k) #[] C] w fun e w' => e = .returned (.bool (anyG p cs)) ∧ Gr [] w w' := by
  have Hf := hid hf; clear hf
  have Hk := hid hk; clear hk
  go_enter Try.func36, Try.ntmps36
  go_wp2_with fail
  refine (idxLit_c cs p v k C _ hv Hk.out Hf.out).mono ?_
  rintro e w' ⟨⟨i, rfl, hi⟩, hg⟩
  have Hi := hid hi; clear hi
  go_wp2_with fail
  go_ret
  exact ⟨ret_bool (by rw [Bool.eq_iff_iff, ← Hi.out]; simp), hg⟩


theorem neqLit (a b : Lit) (w : World) : (binOp .neq 62 (.agg #[.int .i64 a.var, .int .i64 a.val, .bool a.neg]) (.agg #[.int .i64 b.var, .int .i64 b.val, .bool b.neg])).run Try.prog w = .ok (.bool (!decide (a = b))) w := by
  have u3 := Try.underlying3
  have u4 := Try.underlying4
  have a3 := Try.isAgg3
  have z3 := Try.sizeOf3
  have a4 := Try.isAgg4
  have z4 := Try.sizeOf4
  have hS : Try.prog.underlying 62 = some (.struct (Try.prog.fieldsOf 62)) := by kernel_rfl
  have hp : Try.prog.stoodInHeld 62 = false := by kernel_rfl
  rw [run_neq_struct, show (10000 : Nat) = 9999 + 1 from rfl, run_equalIn_agg w 9999 62 _ _ hS hp]
  simp only [Program.fieldsOf, Try.underlying62]
  go_simp
  obtain ⟨a0, a1, a2⟩ := a
  obtain ⟨b0, b1, b2⟩ := b
  by_cases h1 : a0 = b0 <;> by_cases h2 : a1 = b1 <;> by_cases h3 : a2 = b2 <;> simp [h1, h2, h3]
set_option maxRecDepth 100000 in
theorem equalClauses_t (cs : Cls) (vx vy : Value) (w : World) (hx : LitsV [] w vx cs) (hy : LitsV [] w vy cs) :
    Calls Try.prog 9 #[vx, vy] w fun e w' => e = .returned (.bool true) ∧ Gr [] w w' := by
  have Hx := hid hx; have Hy := hid hy
  obtain ⟨xo, xc, rfl, ⟨hx1, hx2, _⟩, _⟩ := hx
  obtain ⟨yo, yc, rfl, ⟨hy1, hy2, _⟩, _⟩ := hy
  go_enter Try.func9, Try.ntmps9
  go_wp2_with fail
  go_loopw [5] (fun i wr => ∃ n : Nat, n ≤ cs.length ∧ i = .int .i64 n ∧ Gr [] w wr) (fun i _ => cs.length - (intOf i).toNat)
  case atStart => exact ⟨0, Nat.zero_le _, rfl, Gr.refl _ _⟩
  case round =>
    obtain ⟨n, hn, rfl, hg⟩ := hrel
    by_cases hlt : n < cs.length
    · obtain ⟨x, hx⟩ := get_some hlt
      obtain ⟨b, o, rfl, _, c0, c1, c2⟩ := (Hx.out.gr hg).at hx
      obtain ⟨b', o', rfl, _, d0, d1, d2⟩ := (Hy.out.gr hg).at hx
      have e0 : ∀ k : GrW [] wr, k.val.cell? ⟨b, o + n * 3, none⟩ = some (.int .i64 x.var) := fun k => k.gr.cell c0 (by simp)
      have e1 : ∀ k : GrW [] wr, k.val.cell? ⟨b, o + n * 3 + 1, none⟩ = some (.int .i64 x.val) := fun k => k.gr.cell c1 (by simp)
      have e2 : ∀ k : GrW [] wr, k.val.cell? ⟨b, o + n * 3 + 2, none⟩ = some (.bool x.neg) := fun k => k.gr.cell c2 (by simp)
      have e0' : ∀ k : GrW [] wr, k.val.cell? ⟨b', o' + n * 3, none⟩ = some (.int .i64 x.var) := fun k => k.gr.cell d0 (by simp)
      have e1' : ∀ k : GrW [] wr, k.val.cell? ⟨b', o' + n * 3 + 1, none⟩ = some (.int .i64 x.val) := fun k => k.gr.cell d1 (by simp)
      have e2' : ∀ k : GrW [] wr, k.val.cell? ⟨b', o' + n * 3 + 2, none⟩ = some (.bool x.neg) := fun k => k.gr.cell d2 (by simp)
      have hq := neqLit x x
      rw [decide_eq_true rfl] at hq
      have Hg := hid hg
      clear hx hg c0 c1 c2 d0 d1 d2
      go_wp2_with fail
      refine wp_region_gr [] _ (by kernel_rfl) (by kernel_rfl) (Gr.refl _ _) ?_
      repeat (go_big_quiet_step (fail))
      refine wpQuiet_nil ?_
      rintro w7 ⟨n7, hw7⟩
      have hg7 : Gr [] wr w7 := hw7 ▸ n7.gr
      clear hw7 n7 e0 e1 e2 e0' e1' e2' hq
      go_wp2_with fail
      exact ⟨⟨n + 1, by omega, by go_num, Hg.out.trans hg7⟩, by simp [intOf]; omega⟩
    · go_wp2_with fail
      go_ret
      exact ⟨rfl, hg⟩


set_option maxRecDepth 100000 in
set_option maxHeartbeats 1000000 in
theorem holds1_c (l : Lit) (xs : List Int) (B : Nat) (xo : Option Addr) (xc : Nat) (w : World) (hl : litOk xs.length l = true) (hx : Nums [] w .i64 (.slice xo xs.length xc) xs) (h5 : ∀ x ∈ xs, 0 ≤ x ∧ x ≤ 5) (hB : w.heap[B]? = some (.cells #[.slice xo xs.length xc] 29 (0, 0))) (hlen : xs.length ≤ 100) :
    Calls Try.prog 37 #[.agg #[.int .i64 l.var, .int .i64 l.val, .bool l.neg], .pointer (some ⟨B, 0, none⟩)] w fun e w' => e = .returned (.bool (trueB l xs)) ∧ Gr [] w w' := by
  obtain ⟨⟨hv0, hv1⟩, hval⟩ := litOk_iff.1 hl
  obtain ⟨lv, la, ln⟩ := l
  dsimp only at hv0 hv1 hval ⊢
  obtain ⟨k, rfl⟩ := Int.eq_ofNat_of_zero_le hv0
  have hk : k < xs.length := by omega
  obtain ⟨x, hxk⟩ := get_some hk
  have hx5 := h5 x (List.mem_of_getElem? hxk)
  obtain ⟨v, rfl⟩ := Int.eq_ofNat_of_zero_le hx5.1
  have hv6 : v < 6 := by omega
  obtain ⟨b, o, rfl, -, hcell⟩ := hx.at hxk
  have htb : trueB ⟨(k : Int), la, ln⟩ xs = (litD ⟨(k : Int), la, ln⟩).testBit v := by
    rw [litD_bit _ _ hval hv6]
    unfold trueB
    simp only [Int.toNat_natCast]
    rw [List.getD_eq_getElem?_getD, hxk]; rfl
  have hl64 := litD_lt ⟨(k : Int), la, ln⟩ hval
  rw [htb]
  have ha : Gr [] w (w.alloc (.cells #[.int .i64 (k : Int), .int .i64 la, .bool ln] 62)) := (Gr.refl _ _).alloc _
  have hbx := heap_alloc_new w (.cells #[.int .i64 (k : Int), .int .i64 la, .bool ln] 62)
  have Hbx := hid hbx; have Ha := hid ha; have HB := hid (ha.obj hB (by simp)); have HC := hid (ha.cell hcell (by simp))
  have fbx := fld hbx
  have Hval := hid hval
  obtain ⟨D, hD⟩ : ∃ D, D = litD ⟨(k : Int), la, ln⟩ := ⟨_, rfl⟩
  have HT : Hid (∀ W, Calls Try.prog 39 #[.agg #[.int .i64 (k : Int), .int .i64 la, .bool ln]] W fun e w' => e = .returned (.int .i64 (D : Nat)) ∧ Gr [] W w') := hid fun W => by rw [hD]; exact trues_c ⟨(k : Int), la, ln⟩ W hval
  rw [← hD] at hl64 ⊢
  clear hv0 hv1 hval h5 hxk hx5 hcell htb ha hbx hB hx hl hD
  go_enter Try.func37, Try.ntmps37
  go_wp2_with fail
  generalize hWa : w.alloc (.cells #[.int .i64 (k : Int), .int .i64 la, .bool ln] 62) = wa at *
  clear hWa fbx
  have ebx : ∀ (q : GrW [] wa) j, q.val.cell? ⟨w.heap.size, j, none⟩ = #[.int .i64 (k : Int), .int .i64 la, .bool ln][j]? := fun q => fld (q.gr.obj Hbx.out (by simp))
  have eB : ∀ (q : GrW [] wa) j, q.val.cell? ⟨B, j, none⟩ = #[.slice (some ⟨b, o, none⟩) xs.length xc][j]? := fun q => fld (q.gr.obj HB.out (by simp))
  have eC : ∀ (q : GrW [] wa), q.val.cell? ⟨b, o + k, none⟩ = some (.int .i64 (v : Int)) := fun q => q.gr.cell HC.out (by simp)
  refine wp_region_gr [] _ (by kernel_rfl) (by kernel_rfl) (Gr.refl _ _) ?_
  repeat (go_big_quiet_step (first | (go_at_call 39; exact Calls.gr_of (HT.out _)) | (go_at_call 38; exact Calls.gr_of ((has_c D v hl64 hv6 _).mono fun e w' h => ⟨h.1, by rw [h.2]; exact Gr.refl _ _⟩))))
  refine wpQuiet_nil ?_
  rintro w9 ⟨n9, rfl⟩
  have hg9 := n9.gr
  go_wp2_with fail
  go_ret
  exact ⟨rfl, Ha.out.trans hg9⟩
set_option maxRecDepth 100000 in
set_option maxHeartbeats 1000000 in
theorem ClauseHolds_c (c : Cls) (xs : List Int) (cv xv : Value) (w : World) (hc : LitsV [] w cv c) (hx : Nums [] w .i64 xv xs) (h1 : 1 ≤ xs.length ∧ xs.length ≤ 4) (h5 : allB 0 5 xs = true) (hv : validCl c xs.length = true) :
    Calls Try.prog 10 #[cv, xv] w fun e w' => e = .returned (.bool (holdsB c xs)) ∧ Gr [] w w' := by
  have hcl : c.length ≤ 12 := by unfold validCl at hv; rw [Bool.and_eq_true] at hv; exact (validClS_iff.1 hv.2).2.2
  have hok : ∀ l ∈ c, litOk xs.length l = true := by unfold validCl at hv; rw [Bool.and_eq_true] at hv; exact (validClS_iff.1 hv.2).1
  obtain ⟨co, cc, rfl, ⟨hc1, hc2⟩⟩ := hc.slice
  obtain ⟨xo, xc, e1, ⟨hx1, hx2, -⟩, -⟩ := id hx
  subst e1
  have ha : Gr [] w (w.alloc (.cells #[.slice xo xs.length xc] 29)) := (Gr.refl _ _).alloc _
  have hbx := heap_alloc_new w (.cells #[.slice xo xs.length xc] 29)
  have Hbx := hid hbx; have Ha := hid ha; have Hc := hid (hc.gr ha); have Hx := hid (hx.gr ha); have H5 := hid h5; have Hv := hid hv; have Hok := hid hok
  have fbx := fld hbx
  have hw4 : inB 1 4 ((xs.length : Nat) : Int) = true := inB_iff.2 (by omega)
  have Hw4 := hid hw4
  clear hc hx h5 hv hok hbx ha hw4
  go_enter Try.func10, Try.ntmps10
  go_wp2_with fail
  generalize hWa : w.alloc (.cells #[.slice xo xs.length xc] 29) = wa at *
  clear hWa
  (with_reducible refine (within_c _ _ _ _).mono ?_)
  rw [Hw4.out]
  rintro e w1 ⟨rfl, rfl⟩
  go_wp2_with fail
  (with_reducible refine (allIn_c _ _ _ _ _ Hx.out).mono ?_)
  rw [H5.out]
  rintro e w2 ⟨rfl, hg2⟩
  have Hb2 := hid (hg2.obj Hbx.out (by simp)); have Hc2 := hid (Hc.out.gr hg2); have Hx2 := hid (Hx.out.gr hg2); have Hg2 := hid (Ha.out.trans hg2)
  have fb2 := fld Hb2.out
  clear hg2 fbx
  go_wp2_with fail
  have hcall := ValidClause_c c xs.length _ _ Hc2.out (by omega) (by constructor <;> omega)
  (with_reducible refine hcall.mono ?_)
  clear hcall
  rw [Hv.out]
  rintro e w3 ⟨rfl, hg3⟩
  have Hb3 := hid (hg3.obj Hb2.out (by simp)); have Hc3 := hid (Hc2.out.gr hg3); have Hx3 := hid (Hx2.out.gr hg3); have Hg3 := hid (Hg2.out.trans hg3)
  clear hg3 fb2
  go_wp2_with fail
  refine (containsLit_c c (fun l => trueB l xs) _ 37 _ _ Hc3.out (fun _ _ => by kernel_rfl) ?_).mono ?_
  · intro l w4 hl hg4
    exact holds1_c l xs w.heap.size xo xc w4 (Hok.out l hl) (Hx3.out.gr hg4) (allB_iff.1 H5.out) (hg4.obj Hb3.out (by simp)) (by omega)
  rintro e w4 ⟨rfl, hg4⟩
  go_wp2_with fail
  go_ret
  exact ⟨rfl, Hg3.out.trans hg4⟩


set_option maxRecDepth 100000 in
set_option maxHeartbeats 1000000 in
theorem makesTrue_c (c : Cls) (xs : List Int) (cv xv : Value) (w : World) (hc : LitsV [] w cv c) (hx : Nums [] w .i64 xv xs) (hok : ∀ l ∈ c, litOk xs.length l = true) (hcl : c.length ≤ 100) :
    Calls Try.prog 11 #[cv, xv] w fun e w' => e = .returned (.bool (allTB c xs)) ∧ Gr [] w w' := by
  obtain ⟨co, cc, rfl, ⟨hc1, hc2⟩⟩ := hc.slice
  obtain ⟨xo, xc, e1, ⟨hx1, hx2, -⟩, -⟩ := id hx
  subst e1
  have Hc := hid hc; have Hx := hid hx; have Hok := hid hok
  clear hc hx hok
  go_enter Try.func11, Try.ntmps11
  go_wp2_with fail
  go_loopw [5] (fun i wr => ∃ n : Nat, n ≤ c.length ∧ i = .int .i64 n ∧ Hid (∀ (j : Nat) x, j < n → c[j]? = some x → trueB x xs = true) ∧ Gr [] w wr) (fun i _ => c.length - (intOf i).toNat)
  case atStart => exact ⟨0, Nat.zero_le _, rfl, hid (by intro j x hj; omega), Gr.refl _ _⟩
  case round =>
    obtain ⟨n, hn, rfl, HP, hg⟩ := hrel
    have Hg := hid hg
    by_cases hlt : n < c.length
    · obtain ⟨l, hl⟩ := get_some hlt
      obtain ⟨⟨hv0, hv1⟩, hval⟩ := litOk_iff.1 (Hok.out l (List.mem_of_getElem? hl))
      obtain ⟨b, o, rfl, -, c0, c1, c2⟩ := (Hc.out.gr hg).at hl
      have Hl := hid hl
      obtain ⟨lv, la, ln⟩ := l
      dsimp only at hv0 hv1 hval c0 c1 c2
      obtain ⟨k, rfl⟩ := Int.eq_ofNat_of_zero_le hv0
      have hk : k < xs.length := by omega
      obtain ⟨x, hxk⟩ := get_some hk
      obtain ⟨b', o', rfl, -, d0⟩ := (Hx.out.gr hg).at hxk
      have htb : trueB ⟨(k : Int), la, ln⟩ xs = ((x == la) != ln) := by
        unfold trueB
        simp only [Int.toNat_natCast]
        rw [List.getD_eq_getElem?_getD, hxk]; rfl
      have Htb := hid htb
      have e0 : ∀ q : GrW [] wr, q.val.cell? ⟨b, o + n * 3, none⟩ = some (.int .i64 (k : Int)) := fun q => q.gr.cell c0 (by simp)
      have e1 : ∀ q : GrW [] wr, q.val.cell? ⟨b, o + n * 3 + 1, none⟩ = some (.int .i64 la) := fun q => q.gr.cell c1 (by simp)
      have e2 : ∀ q : GrW [] wr, q.val.cell? ⟨b, o + n * 3 + 2, none⟩ = some (.bool ln) := fun q => q.gr.cell c2 (by simp)
      have e3 : ∀ q : GrW [] wr, q.val.cell? ⟨b', o' + k, none⟩ = some (.int .i64 x) := fun q => q.gr.cell d0 (by simp)
      clear hl hg hv0 hv1 hval hxk htb c0 c1 c2 d0
      cases hq : (x == la) <;> cases ln
      all_goals
        rw [hq] at Htb
        have Hq := hid hq
        go_wp2_with fail
        refine wp_region_gr [] _ (by kernel_rfl) (by kernel_rfl) (Gr.refl _ _) ?_
        repeat (go_big_quiet_step (fail))
        refine wpQuiet_nil ?_
        rintro w7 ⟨n7, hw7⟩
        have hg7 : Gr [] wr w7 := hw7 ▸ n7.gr
        clear hw7 n7 e0 e1 e2 e3
        go_wp2_with fail
      all_goals first
        | exact ⟨⟨n + 1, by omega, by go_num, hid (below_snocT HP.out Hl.out Htb.out), Hg.out.trans hg7⟩, by simp [intOf]; omega⟩
        | (go_ret; exact ⟨ret_bool (allTB_no Hl.out Htb.out).symm, Hg.out.trans hg7⟩)
    · go_wp2_with fail
      go_ret
      refine ⟨ret_bool ?_, hg⟩
      unfold allTB
      refine (List.all_eq_true.2 fun l hl => ?_).symm
      obtain ⟨j, hj⟩ := List.mem_iff_getElem?.1 hl
      exact HP.out j l (by have := (List.getElem?_eq_some_iff.1 hj).1; omega) hj

end Go.Proofs.Ytpfelbbmgbfkeaa
