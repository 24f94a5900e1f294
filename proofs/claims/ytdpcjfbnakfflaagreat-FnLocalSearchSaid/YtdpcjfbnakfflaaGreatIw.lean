/-
  Walks: whether a number is in a list (the reference's, the laws').
  Walks of the reference's improvement.
-/
import Derived.Test.YtdpcjfbnakfflaaGreatM1
import Derived.Test.YtdpcjfbnakfflaaGreatIm
import Derived.Test.YtdpcjfbnakfflaaGreatCt
set_option linter.unusedVariables false
set_option linter.unusedSimpArgs false
namespace Go.Proofs.YtdpcjfbnakfflaaGreat
open Go.RowKit


theorem specContainsInt_c (xs : List Int) (y : Int) (v : Value) (w : World) (hx : Nums [] w .i64 v xs) :
    Calls Tryz.prog 149 #[v, .int .i64 y] w fun e w' => e = .returned (.bool (memB y xs)) ∧ w' = w := by
  obtain ⟨xo, xc, rfl, ⟨hx1, hx2, _⟩, hxc⟩ := hx
  have Hxc := hid hxc; clear hxc
  have hxl : xs.length ≤ 9223372036854775807 := by omega
  go_enter Tryz.func149, Tryz.ntmps149
  go_wp2_with fail
  go_loop [5] (fun i => ∃ n : Nat, n ≤ xs.length ∧ i = .int .i64 n ∧ (y ∈ xs.drop n ↔ y ∈ xs)) (fun i => xs.length - (intOf i).toNat)
  case atStart => exact ⟨0, Nat.zero_le _, rfl, by simp⟩
  case round =>
    obtain ⟨n, hn, rfl, hd⟩ := hrel
    have Hd := hid hd; clear hd
    by_cases hlt : n < xs.length
    · obtain ⟨x, hx⟩ := get_some hlt
      obtain ⟨b, o, rfl, _, h0⟩ := Hxc.out n x hx
      have HX := hid (drop_cons hx); clear hx
      cases hb : (x == y)
      · go_wp2_with fail
        refine ⟨⟨n + 1, by omega, by go_num, ?_⟩, by simp [intOf]; omega⟩
        have := Hd.out
        rw [HX.out] at this
        rw [← this]
        have e : ¬ y = x := by intro e; subst e; simp at hb
        simp [e]
      · go_wp2_with fail
        go_ret
        refine ⟨ret_bool ?_, rfl⟩
        have := Hd.out
        rw [HX.out] at this
        have e : x = y := by simpa using hb
        unfold memB
        symm
        rw [decide_eq_true_eq, ← this, e]; simp
    · go_wp2_with fail
      go_ret
      refine ⟨ret_bool ?_, rfl⟩
      unfold memB
      symm
      rw [decide_eq_false_iff_not, ← Hd.out, drop_end (by omega)]; simp


theorem lawContains_c (xs : List Int) (y : Int) (v : Value) (w : World) (hx : Nums [] w .i64 v xs) :
    Calls Tryz.prog 27 #[v, .int .i64 y] w fun e w' => e = .returned (.bool (memB y xs)) ∧ w' = w := by
  obtain ⟨xo, xc, rfl, ⟨hx1, hx2, _⟩, hxc⟩ := hx
  have Hxc := hid hxc; clear hxc
  have hxl : xs.length ≤ 9223372036854775807 := by omega
  go_enter Tryz.func27, Tryz.ntmps27
  go_wp2_with fail
  go_loop [5] (fun i => ∃ n : Nat, n ≤ xs.length ∧ i = .int .i64 n ∧ (y ∈ xs.drop n ↔ y ∈ xs)) (fun i => xs.length - (intOf i).toNat)
  case atStart => exact ⟨0, Nat.zero_le _, rfl, by simp⟩
  case round =>
    obtain ⟨n, hn, rfl, hd⟩ := hrel
    have Hd := hid hd; clear hd
    by_cases hlt : n < xs.length
    · obtain ⟨x, hx⟩ := get_some hlt
      obtain ⟨b, o, rfl, _, h0⟩ := Hxc.out n x hx
      have HX := hid (drop_cons hx); clear hx
      cases hb : (x == y)
      · go_wp2_with fail
        refine ⟨⟨n + 1, by omega, by go_num, ?_⟩, by simp [intOf]; omega⟩
        have := Hd.out
        rw [HX.out] at this
        rw [← this]
        have e : ¬ y = x := by intro e; subst e; simp at hb
        simp [e]
      · go_wp2_with fail
        go_ret
        refine ⟨ret_bool ?_, rfl⟩
        have := Hd.out
        rw [HX.out] at this
        have e : x = y := by simpa using hb
        unfold memB
        symm
        rw [decide_eq_true_eq, ← this, e]; simp
    · go_wp2_with fail
      go_ret
      refine ⟨ret_bool ?_, rfl⟩
      unfold memB
      symm
      rw [decide_eq_false_iff_not, ← Hd.out, drop_end (by omega)]; simp

end Go.Proofs.YtdpcjfbnakfflaaGreat

set_option linter.unusedVariables false
set_option linter.unusedSimpArgs false
namespace Go.Proofs.YtdpcjfbnakfflaaGreat
open Go.RowKit

theorem fits_rows {c : Con} (h : fitsB c = true) : c.rows.length ≤ 8 := by
  have z : eqI c.rows.length 0 = true → c.rows.length ≤ 8 := fun h => by
    have := eq_of_beq (show ((c.rows.length : Int) == 0) = true from h); omega
  unfold fitsB at h
  split at h
  · rw [Bool.and_eq_true] at h; exact z h.2
  split at h
  · rw [Bool.and_eq_true] at h; exact z h.2
  split at h
  · rw [Bool.and_eq_true] at h; exact z h.2
  split at h
  · rw [Bool.and_eq_true] at h; exact z h.2
  split at h
  · rw [Bool.and_eq_true] at h; exact (rowsIn_pos h.2).2
  split at h
  · rw [Bool.and_eq_true] at h; exact z h.2
  split at h
  · rw [Bool.and_eq_true] at h; exact z h.2
  split at h
  · rw [Bool.and_eq_true, Bool.and_eq_true, Bool.and_eq_true] at h; exact (rowsIn_pos h.1.1.1).2
  · cases h
theorem VM.rows {m : Mod} {D : List Nat} (h : VM m D) : ∀ c ∈ m.cons, c.rows.length ≤ 1000 := fun c hc => by
  have := fits_rows (h.cons c hc).fits; omega


set_option maxRecDepth 100000 in
set_option maxHeartbeats 4000000 in
theorem improveWithin_c (m : Mod) (D : List Nat) (o x fr : List Int) (mv ov xv fv : Value) (w : World) (hv : ModV [] w mv m) (hVM : VM m D) (hs : m.Small) (ho : Nums [] w .i64 ov o) (hob : objB o m.doms.length = true) (hx : Nums [] w .i64 xv x) (hxs : x ∈ sols m.cons D) (hf : Nums [] w .i64 fv fr) :
    Calls Tryz.prog 74 #[mv, ov, xv, fv] w fun e w' => ∃ v', e = .returned v' ∧ Nums [] w' .i64 v' (stp m.cons D o x fr) ∧ Gr [] w w' := by
  have Hv := hid hv; have HVM := hid hVM; have Ho := hid ho; have Hx := hid hx; have Hf := hid hf; have Hob := hid hob; have Hxs := hid hxs; have Hs := hid hs
  have HDL : Hid (m.doms.length = D.length) := hid (by rw [hVM.doms, ints_len])
  have HXL : Hid (x.length = D.length) := hid (solv hxs).1
  have hd1 := hVM.len.1; have hd4 := hVM.len.2
  obtain ⟨xo, xc, co, cc, rfl⟩ := hv.slices
  obtain ⟨oo, oc, rfl, -, -⟩ := ho
  obtain ⟨yo, yc, rfl, ⟨hy1, hy2, -⟩, -⟩ := hx
  obtain ⟨fo, fc, rfl, -, -⟩ := hf
  have hg0 : Gr [] w (w.alloc (.cells #[.slice xo m.doms.length xc, .slice co m.cons.length cc] 31)) := (Gr.refl _ _).alloc _
  have hb0 : (w.alloc (.cells #[.slice xo m.doms.length xc, .slice co m.cons.length cc] 31)).heap[w.heap.size]? = some (.cells #[.slice xo m.doms.length xc, .slice co m.cons.length cc] 31 (0, 0)) := heap_alloc_new _ _
  have fl0 := fld hb0
  have Hg0 := hid hg0
  clear hv hg0 hb0 hVM hob hxs hs
  go_enter Tryz.func74, Tryz.ntmps74
  go_wp2_with fail
  have hcall := copyModel_s m _ _ (Hv.out.gr Hg0.out) Hs.out HVM.out.rows
  (with_reducible refine hcall.mono ?_)
  clear hcall
  rintro e w1 ⟨do1, dc1, co1, cc1, kb, rfl, hn1, hc1, hg1⟩
  obtain ⟨d0, hd0⟩ := get_some (xs := m.doms) (k := 0) (by have := HDL.out; omega)
  obtain ⟨db, dof, rfl, hM1, -, -⟩ := hn1.at hd0
  have Hg1 := hid (Hg0.out.trans hg1)
  have hs1 := hg1.size
  rw [World.size_alloc] at hs1
  have hdb : w.heap.size ≤ db ∧ db < w1.heap.size := by have h1 := hM1.1.1; have h2 := hM1.1.2; rw [World.size_alloc] at h1; omega
  rw [HVM.out.doms] at hn1
  have Hn1 := hid hn1; have Hc1 := hid hc1; have Hdbk := hid hM1.2
  clear hn1 hc1 hg1 hd0 hM1 fl0
  go_wp2_with fail
  have hb2 := heap_alloc_new w1 (.cells #[.slice (some ⟨db, dof, none⟩) m.doms.length dc1, .slice co1 m.cons.length cc1] 31)
  have hg2 : Gr [] w1 (w1.alloc (.cells #[.slice (some ⟨db, dof, none⟩) m.doms.length dc1, .slice co1 m.cons.length cc1] 31)) := (Gr.refl _ _).alloc _
  have hs2 : (w1.alloc (.cells #[.slice (some ⟨db, dof, none⟩) m.doms.length dc1, .slice co1 m.cons.length cc1] 31)).heap.size = w1.heap.size + 1 := by simp
  generalize hW2 : w1.alloc (.cells #[.slice (some ⟨db, dof, none⟩) m.doms.length dc1, .slice co1 m.cons.length cc1] 31) = w2 at *
  clear hW2
  have Hb2 := hid hb2; have Hg2 := hid hg2; have HG2 := hid (Hg1.out.trans hg2)
  have hNM : NumsM (fun b => b < kb) w2 (.slice (some ⟨db, dof, none⟩) m.doms.length dc1) (ints D) := by have := Hn1.out.gr' (M' := fun b => b < kb) hg2 (by simp) (fun b hb h => h.2); rwa [ints_len, ← HDL.out] at this
  have HNM := hid hNM
  have Hxt : Hid (x ∈ tups D) := hid (mem_sols.1 Hxs.out).1
  clear hb2 hg2 hNM
  go_loopw [10] (fun i wr => ∃ n : Nat, n ≤ x.length ∧ i = .int .i64 n ∧ NumsM (fun b => b < kb) wr (.slice (some ⟨db, dof, none⟩) m.doms.length dc1) (ints (narI (onL fr) x n D)) ∧ Gr [db] w2 wr) (fun i _ => x.length - (intOf i).toNat)
  case atStart => exact ⟨0, Nat.zero_le _, rfl, HNM.out, Gr.refl _ _⟩
  case round =>
    obtain ⟨n, hn, rfl, hnm, hg⟩ := hrel
    have flr := fld (hg.obj Hb2.out (by simp; omega))
    have HGw := hid (HG2.out.step hg (fun i hi => .inr (by simp at hi; omega)))
    have hsr := hg.size
    have Hg := hid hg; have Hnm := hid hnm
    clear hg hnm
    by_cases hlt : n < x.length
    · go_wp2_with fail
      have hcall := specContainsInt_c fr n _ wr (Hf.out.gr HGw.out)
      (with_reducible refine hcall.mono ?_)
      clear hcall
      rw [show memB (n : Int) fr = onL fr n by unfold memB onL; rw [Bool.eq_iff_iff]; simp]
      rintro e w3 ⟨rfl, rfl⟩
      cases hon : onL fr n
      · obtain ⟨k, d, hk, hd, hk6, hb⟩ := tup_bit Hxt.out (n := n) (by have := HXL.out; omega)
        obtain ⟨b5, o5, e5, -, c5⟩ := (Hx.out.gr HGw.out).at hk
        subst e5
        have hpw0 : wrap64 (2 ^ k) = ((2 ^ k : Nat) : Int) := by
          have h := pow_shl k hk6
          rw [Int.one_mul] at h
          rw [← IntWalk.i64_left]; exact h
        have hpw : ((2 : Int) ^ k) = ((2 ^ k : Nat) : Int) := by simp
        have hil : (ints (narI (onL fr) x n D)).length = D.length := by rw [ints_len, narI_len]
        obtain ⟨z, hz⟩ := get_some (xs := ints (narI (onL fr) x n D)) (k := n) (by have := HXL.out; omega)
        obtain ⟨b6, o6, e6, -, c6, f6⟩ := Hnm.out.at hz
        simp only [Option.some.injEq, Addr.mk.injEq] at e6
        obtain ⟨rfl, rfl, -⟩ := e6
        have hset := Hnm.out.set n ((2 : Int) ^ k)
        rw [hpw, ← ints_set, ← hpw] at hset
        have hnar : narI (onL fr) x (n + 1) D = (narI (onL fr) x n D).set n (2 ^ k) := by
          show (if onL fr n then _ else _) = _
          rw [hon, if_neg (by simp), getD_here hk, Int.toNat_natCast]
        have Hset := hid hset; have Hnar := hid hnar
        clear hpw
        have hnd : n < m.doms.length := by have := HXL.out; have := HDL.out; omega
        clear hset hnar hk hd hb hil hz hon
        go_wp2_with fail
        go_region
        all_goals
          go_wp2_with fail
          exact ⟨⟨n + 1, by omega, by go_num, by rw [Hnar.out]; exact Hset.out.gr' ((Gr.refl [] _).drew) (by simp) (fun _ _ h => h), (Hg.out.setCell _ _ (.inl (by simp))).drew⟩, by simp [intOf]; omega⟩
      · have hnar : narI (onL fr) x (n + 1) D = narI (onL fr) x n D := by
          show (if onL fr n then _ else _) = _
          rw [hon, if_pos rfl]
        have Hnar := hid hnar
        clear hnar hon
        go_wp2_with fail
        exact ⟨⟨n + 1, by omega, by go_num, by rw [Hnar.out]; exact Hnm.out, Hg.out⟩, by simp [intOf]; omega⟩
    · have hnx : n = D.length := by have := HXL.out; omega
      rw [hnx] at Hnm
      have hcons : ConsM (fun b => kb ≤ b) wr (.slice co1 m.cons.length cc1) m.cons := Hc1.out.gr' ((Gr.any Hg2.out).trans Hg.out) (by intro b hb h; simp at hb; have := h.2; have := Hdbk.out; omega) (fun b hb h => h.2)
      have hmod : ModV [] wr (.agg #[.slice (some ⟨db, dof, none⟩) m.doms.length dc1, .slice co1 m.cons.length cc1]) ⟨ints (narI (onL fr) x D.length D), m.cons⟩ :=
        ⟨_, _, rfl, Hnm.out.nums (by simp), hcons.cons (by simp)⟩
      have Hmod := hid hmod
      have HVM2 := hid (narI_vm (on := onL fr) HVM.out Hxt.out)
      clear hcons hmod
      go_wp2_with fail
      have hcall := specMinimize0_c ⟨ints (narI (onL fr) x D.length D), m.cons⟩ (narI (onL fr) x D.length D) o _ _ wr Hmod.out HVM2.out (Ho.out.gr HGw.out) (by have := Hob.out; rwa [HVM.out.doms, ints_len, ← narI_len (onL fr) x D.length D, ← ints_len] at this)
      (with_reducible refine hcall.mono ?_)
      clear hcall
      rw [show sols (Mod.mk (ints (narI (onL fr) x D.length D)) m.cons).cons (narI (onL fr) x D.length D) = agrL m.cons D x fr from agrL_nar Hxt.out]
      rintro e w4 ⟨v4, rfl, hn4, hg4⟩
      have Hn4 := hid hn4; have Hg4 := hid hg4
      clear hn4 hg4 flr
      go_wp2_with fail
      go_ret
      exact ⟨_, rfl, Hn4.out, HGw.out.trans Hg4.out⟩


set_option maxRecDepth 100000 in
set_option maxHeartbeats 2000000 in
theorem specImprove_c (m : Mod) (o x fr : List Int) (mv ov xv fv : Value) (w : World) (hv : ModV [] w mv m) (hs : m.Small) (ho : Nums [] w .i64 ov o) (hx : Nums [] w .i64 xv x) (hf : Nums [] w .i64 fv fr) (D : List Nat) (hD : validM m = true → VM m D) :
    Calls Tryz.prog 16 #[mv, ov, xv, fv] w fun e w' => ∃ v', e = .returned (.tuple #[v', .bool (impO m D o x fr).isSome]) ∧ Nums [] w' .i64 v' ((impO m D o x fr).getD []) ∧ Gr [] w w' := by
  have Hv := hid hv; have HD := hid hD; have Ho := hid ho; have Hx := hid hx; have Hf := hid hf; have Hs := hid hs
  obtain ⟨xo, xc, co, cc, rfl⟩ := hv.slices
  obtain ⟨oo, oc, rfl, -, -⟩ := ho
  obtain ⟨yo, yc, rfl, ⟨hy1, hy2, -⟩, -⟩ := hx
  obtain ⟨fo, fc, rfl, ⟨hf1, hf2, -⟩, -⟩ := hf
  have hg0 : Gr [] w (w.alloc (.cells #[.slice xo m.doms.length xc, .slice co m.cons.length cc] 31)) := (Gr.refl _ _).alloc _
  have hb0 : (w.alloc (.cells #[.slice xo m.doms.length xc, .slice co m.cons.length cc] 31)).heap[w.heap.size]? = some (.cells #[.slice xo m.doms.length xc, .slice co m.cons.length cc] 31 (0, 0)) := heap_alloc_new _ _
  have fl0 := fld hb0
  have Hg0 := hid hg0; have Hb0 := hid hb0
  have hmd := hs.doms
  clear hv hg0 hb0 hD hs
  go_enter Tryz.func16, Tryz.ntmps16
  go_wp2_with fail
  have hcall := specValidModel_c m _ _ (Hv.out.gr Hg0.out) Hs.out
  (with_reducible refine hcall.mono ?_)
  clear hcall
  rintro e w1 ⟨rfl, hg1⟩
  have Hb1 := hid (hg1.obj Hb0.out (by simp))
  have fl1 := fld Hb1.out
  have Hg1 := hid (Hg0.out.trans hg1)
  clear fl0 hg1
  cases hvo : validM m
  · have Hno := hid (impO_no (D := D) (o := o) (x := x) (fr := fr) (m := m) (by rw [hvo]; rfl)); clear hvo
    go_wp2_with fail
    go_ret2
    rw [Hno.out]
    exact ⟨_, rfl, (Own.nil 0 _ 3).nums (by simp), Hg1.out⟩
  have HVM := hid (HD.out hvo); have Hval := hid hvo
  have HDL : Hid (m.doms.length = D.length) := hid (by rw [HVM.out.doms, ints_len])
  clear hvo
  go_wp2_with fail
  have hcall := validObjective_c m o _ _ w1 (Hv.out.gr Hg1.out) (Ho.out.gr Hg1.out)
  (with_reducible refine hcall.mono ?_)
  clear hcall
  rintro e w2 ⟨rfl, hg2⟩
  have Hb2 := hid (hg2.obj Hb1.out (by simp))
  have fl2 := fld Hb2.out
  have Hg2 := hid (Hg1.out.trans hg2)
  clear fl1 hg2
  cases hob : objB o m.doms.length
  · have Hno := hid (impO_no (D := D) (o := o) (x := x) (fr := fr) (m := m) (by rw [hob]; simp)); clear hob
    go_wp2_with fail
    go_ret2
    rw [Hno.out]
    exact ⟨_, rfl, (Own.nil 0 _ 3).nums (by simp), Hg2.out⟩
  have Hob := hid hob
  clear hob
  by_cases hxl : x.length = m.doms.length
  rotate_left
  · have Hno := hid (impO_no (D := D) (o := o) (x := x) (fr := fr) (m := m) (by
      have : isB m.cons D x = false := decide_eq_false fun hm => hxl (by have := (solv hm).1; have := HDL.out; omega)
      rw [this]; simp))
    have hne : (((x.length : Nat) : Int) != (m.doms.length : Int)) = true := by simp; omega
    clear hxl
    go_wp2_with fail
    go_ret2
    rw [Hno.out]
    exact ⟨_, rfl, (Own.nil 0 _ 3).nums (by simp), Hg2.out⟩
  have hne : (((x.length : Nat) : Int) != (m.doms.length : Int)) = false := by rw [hxl]; simp
  have Hxl := hid hxl
  clear hxl
  go_wp2_with fail
  have hcall := specIsSol_any m D x _ _ w2 (Hv.out.gr Hg2.out) HVM.out (Hx.out.gr Hg2.out) (Hxl.out.trans HDL.out)
  (with_reducible refine hcall.mono ?_)
  clear hcall
  rintro e w3 ⟨rfl, hg3⟩
  have Hb3 := hid (hg3.obj Hb2.out (by simp))
  have fl3 := fld Hb3.out
  have Hg3 := hid (Hg2.out.trans hg3)
  clear fl2 hg3
  cases his : isB m.cons D x
  · have Hno := hid (impO_no (D := D) (o := o) (x := x) (fr := fr) (m := m) (by rw [his]; simp)); clear his
    go_wp2_with fail
    go_ret2
    rw [Hno.out]
    exact ⟨_, rfl, (Own.nil 0 _ 3).nums (by simp), Hg3.out⟩
  have His := hid his
  have Hxs : Hid (x ∈ sols m.cons D) := hid (of_decide_eq_true his)
  clear his
  by_cases hfl : (fr.length : Int) ≤ 4
  rotate_left
  · have Hno := hid (impO_no (D := D) (o := o) (x := x) (fr := fr) (m := m) (by
      have : frB fr m.doms.length = false := by unfold frB; rw [decide_eq_false hfl]; rfl
      rw [this]; simp))
    have hgt : decide ((4 : Int) < (fr.length : Int)) = true := decide_eq_true (by omega)
    clear hfl
    go_wp2_with fail
    go_ret2
    rw [Hno.out]
    exact ⟨_, rfl, (Own.nil 0 _ 3).nums (by simp), Hg3.out⟩
  have hgt : decide ((4 : Int) < (fr.length : Int)) = false := decide_eq_false (by omega)
  have Hfl := hid hfl
  clear hfl
  go_wp2_with fail
  have hcall := allInRange_c fr 0 ((m.doms.length : Int) - 1) _ w3 (Hf.out.gr Hg3.out)
  (with_reducible refine hcall.mono ?_)
  clear hcall
  rintro e w4 ⟨rfl, hg4⟩
  have fl4 := fld (hg4.obj Hb3.out (by simp))
  have Hg4 := hid (Hg3.out.trans hg4)
  clear fl3 hg4
  have HFR : Hid (frB fr m.doms.length = allB 0 ((m.doms.length : Int) - 1) fr) := hid (by unfold frB; rw [decide_eq_true Hfl.out]; rfl)
  cases hfr : allB 0 ((m.doms.length : Int) - 1) fr
  · have Hno := hid (impO_no (D := D) (o := o) (x := x) (fr := fr) (m := m) (by rw [HFR.out, hfr]; simp)); clear hfr
    go_wp2_with fail
    go_ret2
    rw [Hno.out]
    exact ⟨_, rfl, (Own.nil 0 _ 3).nums (by simp), Hg4.out⟩
  have Hyes := hid (impO_yes (D := D) (show (validM m && (objB o m.doms.length && (isB m.cons D x && frB fr m.doms.length))) = true by rw [Hval.out, Hob.out, His.out, HFR.out, hfr]; rfl))
  clear hfr
  go_wp2_with fail
  have hcall := improveWithin_c m D o x fr _ _ _ _ w4 (Hv.out.gr Hg4.out) HVM.out Hs.out (Ho.out.gr Hg4.out) Hob.out (Hx.out.gr Hg4.out) Hxs.out (Hf.out.gr Hg4.out)
  (with_reducible refine hcall.mono ?_)
  clear hcall
  rintro e w5 ⟨v5, rfl, hn5, hg5⟩
  have Hn5 := hid hn5; have Hg5 := hid hg5
  clear hn5 hg5
  go_wp2_with fail
  go_ret2
  rw [Hyes.out]
  exact ⟨_, rfl, Hn5.out, Hg4.out.trans Hg5.out⟩

end Go.Proofs.YtdpcjfbnakfflaaGreat
