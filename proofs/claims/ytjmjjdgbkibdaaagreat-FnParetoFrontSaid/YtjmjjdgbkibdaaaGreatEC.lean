/-
  Walks of the conversions of the exact laws: sizes, copies, comparisons.
-/
import Derived.Test.YtjmjjdgbkibdaaaGreatEO
import Derived.Test.YtjmjjdgbkibdaaaGreatH
set_option linter.unusedVariables false
namespace Go.Proofs.YtjmjjdgbkibdaaaGreat
open Go.RowKit

def cut (left : Int) (n : Nat) : Int := if left < (n : Int) then -1 else left - n
theorem cut_neg {left : Int} {n : Nat} (h : left < (n : Int)) : cut left n = -1 := by unfold cut; rw [if_pos h]
theorem cut_pos {left : Int} {n : Nat} (h : (n : Int) ≤ left) : cut left n = left - n := by unfold cut; rw [if_neg (by omega)]
def szR (rows : List (List Int)) : Nat := rows.length + (rows.map List.length).sum
def szC (c : Con) : Nat := c.vars.length + c.args.length + szR c.rows
def szCs (cs : List Con) : Nat := cs.length + (cs.map szC).sum
def szMo (m : Mod) : Nat := m.doms.length + szCs m.cons
theorem sum_take {α : Type} (f : α → Nat) {xs : List α} {n : Nat} {x : α} (h : xs[n]? = some x) : ((xs.take (n + 1)).map f).sum = ((xs.take n).map f).sum + f x := by
  rw [List.take_add_one, h]; simp
theorem sum_take_le {α : Type} (f : α → Nat) (xs : List α) (n : Nat) : ((xs.take n).map f).sum ≤ (xs.map f).sum := by
  conv => rhs; rw [← List.take_append_drop n xs, List.map_append, List.sum_append]
  omega
theorem sum_mem {α : Type} (f : α → Nat) {xs : List α} {x : α} (h : x ∈ xs) : f x ≤ (xs.map f).sum := by
  induction xs with
  | nil => cases h
  | cons y r ih =>
    rcases List.mem_cons.1 h with rfl | h
    · simp
    · have := ih h; simp; omega
theorem small_of_sz {m : Mod} (h : szMo m ≤ 1048576) : m.Small := by
  unfold szMo szCs at h
  refine ⟨by omega, by omega, fun c hc => ?_⟩
  have h1 := sum_mem szC hc
  unfold szC szR at h1
  have h2 : szC c ≤ 1048576 := by have := sum_mem szC hc; omega
  unfold szC szR at h2
  exact ⟨by omega, by omega, by omega, fun r hr => by have := sum_mem List.length hr; omega⟩

theorem szIntS_c (xs : List Int) (left : Int) (v : Value) (w : World) (hv : Nums [] w .i64 v xs) (hl : 0 ≤ left ∧ left ≤ 2000000) :
    Calls Tryz.prog 72 #[v, .int .i64 left] w fun e w' => e = .returned (.int .i64 (cut left xs.length)) ∧ w' = w := by
  obtain ⟨ao, cap, rfl, ⟨h1, h2, _⟩, _⟩ := hv
  by_cases hlt : left < (xs.length : Int)
  · rw [cut_neg hlt]
    go_enter Tryz.func72, Tryz.ntmps72
    go_wp2_with fail
    go_ret
    exact ⟨rfl, rfl⟩
  · rw [cut_pos (by omega)]
    go_enter Tryz.func72, Tryz.ntmps72
    go_wp2_with fail
    go_ret
    exact ⟨ret_int (by go_num), rfl⟩

theorem szIntSS_c (rows : List (List Int)) (left : Int) (v : Value) (w : World) (hv : RowsV [] w v rows) (hl : 0 ≤ left ∧ left ≤ 2000000) :
    Calls Tryz.prog 193 #[v, .int .i64 left] w fun e w' => e = .returned (.int .i64 (cut left (szR rows))) ∧ Gr [] w w' := by
  have Hv := hid hv
  obtain ⟨ao, cap, rfl, ⟨h1, h2, _⟩, _⟩ := hv
  by_cases hlt : left < (rows.length : Int)
  · rw [cut_neg (by unfold szR; omega)]
    go_enter Tryz.func193, Tryz.ntmps193
    go_wp2_with fail
    go_ret
    exact ⟨rfl, Gr.refl _ _⟩
  · go_enter Tryz.func193, Tryz.ntmps193
    go_wp2_with fail
    go_loopw [1, 5] (fun lv i wr => ∃ (n : Nat) (l : Int), n ≤ rows.length ∧ i = .int .i64 n ∧ lv = .int .i64 l ∧ (0 ≤ l ∧ l ≤ 2000000) ∧ l = left - (rows.length + ((rows.take n).map List.length).sum : Nat) ∧ Gr [] w wr) (fun _ i _ => rows.length - (intOf i).toNat)
    case atStart => exact ⟨0, left - rows.length, Nat.zero_le _, rfl, by go_num, by omega, by simp, Gr.refl _ _⟩
    case round =>
      obtain ⟨n, l, hn, rfl, rfl, hl, he, hg⟩ := hrel
      have He := hid he; clear he
      by_cases hlt : n < rows.length
      · obtain ⟨r, hr⟩ := get_some hlt
        obtain ⟨b1, o1, u1, rfl, hc1, hn1⟩ := (Hv.out.gr hg).at0 hr
        have Hn1 := hid hn1; have Hs := hid (sum_take List.length hr); have Hle := hid (sum_take_le List.length rows (n + 1)); have Hg := hid hg
        clear hr hn1 hg
        go_wp2_with fail
        have hcall := szIntS_c r l _ wr Hn1.out hl
        (with_reducible refine hcall.mono ?_)
        clear hcall
        rintro e w2 ⟨rfl, rfl⟩
        by_cases hlr : l < (r.length : Int)
        · rw [cut_neg hlr]
          go_wp2_with fail
          go_ret
          exact ⟨ret_int (by rw [cut_neg]; have := He.out; have := Hs.out; have := Hle.out; unfold szR; omega), Hg.out⟩
        · rw [cut_pos (by omega)]
          go_wp2_with fail
          exact ⟨⟨n + 1, l - r.length, by omega, by go_num, rfl, by omega, by have := He.out; have := Hs.out; omega, Hg.out⟩, by simp [intOf]; omega⟩
      · go_wp2_with fail
        go_ret
        refine ⟨ret_int ?_, hg⟩
        have := He.out
        rw [List.take_of_length_le (by omega)] at this
        rw [cut_pos (by unfold szR; omega)]; unfold szR; omega

set_option maxRecDepth 100000 in
theorem szConstraint_c (c : Con) (left : Int) (v : Value) (w : World) (hv : ConV [] w v c) (hl : 0 ≤ left ∧ left ≤ 2000000) :
    Calls Tryz.prog 147 #[v, .int .i64 left] w fun e w' => e = .returned (.int .i64 (cut left (szC c))) ∧ Gr [] w w' := by
  obtain ⟨vo, vc, ao, ac, ro, rc, rfl⟩ := hv.slices
  obtain ⟨vv, av, rv, e, hn1, hn2, hn3⟩ := hv
  simp only [Value.agg.injEq] at e
  have e3 := congrArg (fun a => a[1]?) e
  have e4 := congrArg (fun a => a[2]?) e
  have e5 := congrArg (fun a => a[4]?) e
  simp only [List.getElem?_toArray, List.getElem?_cons_succ, List.getElem?_cons_zero, Option.some.injEq] at e3 e4 e5
  subst e3 e4 e5
  have hg0 : Gr [] w (w.alloc (.cells #[.int .i64 c.kind, .slice vo c.vars.length vc, .slice ao c.args.length ac, .int .i64 c.bound, .slice ro c.rows.length rc] 115)) := (Gr.refl _ _).alloc _
  have hb0 : (w.alloc (.cells #[.int .i64 c.kind, .slice vo c.vars.length vc, .slice ao c.args.length ac, .int .i64 c.bound, .slice ro c.rows.length rc] 115)).heap[w.heap.size]? = some (.cells #[.int .i64 c.kind, .slice vo c.vars.length vc, .slice ao c.args.length ac, .int .i64 c.bound, .slice ro c.rows.length rc] 115 (0, 0)) := heap_alloc_new _ _
  have hfl := fld hb0
  have Hg0 := hid hg0; have H1 := hid (hn1.gr hg0); have H2 := hid (hn2.gr hg0); have H3 := hid (hn3.gr hg0)
  clear hb0 hn1 hn2 hn3 hg0 e
  go_enter Tryz.func147, Tryz.ntmps147
  go_wp2_with fail
  have hcall := szIntS_c c.vars left _ _ H1.out hl
  (with_reducible refine hcall.mono ?_)
  clear hcall
  rintro e w2 ⟨rfl, rfl⟩
  by_cases h1 : left < (c.vars.length : Int)
  · rw [cut_neg h1]
    go_wp2_with fail
    go_ret
    exact ⟨ret_int (by rw [cut_neg]; unfold szC; omega), Hg0.out⟩
  rw [cut_pos (by omega)]
  obtain ⟨l1, hl1⟩ : ∃ l1, l1 = left - c.vars.length := ⟨_, rfl⟩
  rw [← hl1]
  have hl1' : 0 ≤ l1 ∧ l1 ≤ 2000000 := by omega
  have Hl1 := hid hl1
  clear hl1
  go_wp2_with fail
  have hcall := szIntS_c c.args l1 _ _ H2.out hl1'
  (with_reducible refine hcall.mono ?_)
  clear hcall
  rintro e w3 ⟨rfl, rfl⟩
  by_cases h2 : l1 < (c.args.length : Int)
  · rw [cut_neg h2]
    go_wp2_with fail
    go_ret
    exact ⟨ret_int (by rw [cut_neg]; have := Hl1.out; unfold szC; omega), Hg0.out⟩
  rw [cut_pos (by omega)]
  obtain ⟨l2, hl2⟩ : ∃ l2, l2 = l1 - c.args.length := ⟨_, rfl⟩
  rw [← hl2]
  have hl2' : 0 ≤ l2 ∧ l2 ≤ 2000000 := by omega
  have Hl2 := hid hl2
  clear hl2
  go_wp2_with fail
  have hcall := szIntSS_c c.rows l2 _ _ H3.out hl2'
  (with_reducible refine hcall.mono ?_)
  clear hcall
  rintro e w4 ⟨rfl, hg4⟩
  by_cases h3 : l2 < (szR c.rows : Int)
  · rw [cut_neg h3]
    go_wp2_with fail
    go_ret
    exact ⟨ret_int (by rw [cut_neg]; have := Hl1.out; have := Hl2.out; unfold szC; omega), Hg0.out.trans hg4⟩
  rw [cut_pos (by omega)]
  obtain ⟨l3, hl3⟩ : ∃ l3, l3 = l2 - szR c.rows := ⟨_, rfl⟩
  rw [← hl3]
  have hl3' : 0 ≤ l3 ∧ l3 ≤ 2000000 := by omega
  have Hl3 := hid hl3
  clear hl3
  go_wp2_with fail
  go_ret
  refine ⟨ret_int ?_, Hg0.out.trans hg4⟩
  have a1 := Hl1.out; have a2 := Hl2.out; have a3 := Hl3.out
  rw [cut_pos (by unfold szC; omega)]; unfold szC; omega

theorem szConstraintS_c (cs : List Con) (left : Int) (v : Value) (w : World) (hv : ConsV [] w v cs) (hl : 0 ≤ left ∧ left ≤ 2000000) :
    Calls Tryz.prog 73 #[v, .int .i64 left] w fun e w' => e = .returned (.int .i64 (cut left (szCs cs))) ∧ Gr [] w w' := by
  obtain ⟨ao, cap, rfl, ⟨h1, h2⟩, hcc⟩ := hv.open
  have Hc := hid hcc
  clear hcc hv
  by_cases hlt : left < (cs.length : Int)
  · rw [cut_neg (by unfold szCs; omega)]
    go_enter Tryz.func73, Tryz.ntmps73
    go_wp2_with fail
    go_ret
    exact ⟨rfl, Gr.refl _ _⟩
  · go_enter Tryz.func73, Tryz.ntmps73
    go_wp2_with fail
    go_loopw [1, 5] (fun lv i wr => ∃ (n : Nat) (l : Int), n ≤ cs.length ∧ i = .int .i64 n ∧ lv = .int .i64 l ∧ (0 ≤ l ∧ l ≤ 2000000) ∧ l = left - (cs.length + ((cs.take n).map szC).sum : Nat) ∧ Gr [] w wr) (fun _ i _ => cs.length - (intOf i).toNat)
    case atStart => exact ⟨0, left - cs.length, Nat.zero_le _, rfl, by go_num, by omega, by simp, Gr.refl _ _⟩
    case round =>
      obtain ⟨n, l, hn, rfl, rfl, hl, he, hg⟩ := hrel
      have He := hid he; clear he
      by_cases hlt : n < cs.length
      · obtain ⟨c, hr⟩ := get_some hlt
        obtain ⟨b, o, vo, vc, xo, xc, ro, rc, rfl, _, ⟨c0, c1, c2, c3, c4⟩, hcon⟩ := (Hc.out.gr hg).at2 hr
        have Hn1 := hid hcon; have Hs := hid (sum_take szC hr); have Hle := hid (sum_take_le szC cs (n + 1)); have Hg := hid hg
        clear hr hcon hg
        go_wp2_with fail
        have hcall := szConstraint_c c l _ wr Hn1.out hl
        (with_reducible refine hcall.mono ?_)
        clear hcall
        rintro e w2 ⟨rfl, hg2⟩
        obtain ⟨z, hz⟩ : ∃ z, z = szC c := ⟨_, rfl⟩
        rw [← hz]
        have Hz := hid hz
        have Hg2 := hid (Hg.out.trans hg2)
        clear hz hg2
        by_cases hlr : l < (z : Int)
        · rw [cut_neg hlr]
          go_wp2_with fail
          go_ret
          exact ⟨ret_int (by rw [cut_neg]; have := He.out; have := Hs.out; have := Hle.out; have := Hz.out; unfold szCs; omega), Hg2.out⟩
        · rw [cut_pos (by omega)]
          go_wp2_with fail
          exact ⟨⟨n + 1, l - z, by omega, by go_num, rfl, by omega, by have := He.out; have := Hs.out; have := Hz.out; omega, Hg2.out⟩, by simp [intOf]; omega⟩
      · go_wp2_with fail
        go_ret
        refine ⟨ret_int ?_, hg⟩
        have := He.out
        rw [List.take_of_length_le (by omega)] at this
        rw [cut_pos (by unfold szCs; omega)]; unfold szCs; omega

theorem szModel_c (m : Mod) (left : Int) (v : Value) (w : World) (hv : ModV [] w v m) (hl : 0 ≤ left ∧ left ≤ 2000000) :
    Calls Tryz.prog 17 #[v, .int .i64 left] w fun e w' => e = .returned (.int .i64 (cut left (szMo m))) ∧ Gr [] w w' := by
  obtain ⟨dv, cv, rfl, hd, hc⟩ := hv
  have Hd := hid hd; have Hc := hid hc
  obtain ⟨xo, xc, rfl, _, _⟩ := hd
  obtain ⟨co, cc, rfl, _, _⟩ := hc
  have hg0 : Gr [] w (w.alloc (.cells #[.slice xo m.doms.length xc, .slice co m.cons.length cc] 25)) := (Gr.refl _ _).alloc _
  have hb0 : (w.alloc (.cells #[.slice xo m.doms.length xc, .slice co m.cons.length cc] 25)).heap[w.heap.size]? = some (.cells #[.slice xo m.doms.length xc, .slice co m.cons.length cc] 25 (0, 0)) := heap_alloc_new _ _
  have hfl := fld hb0
  have Hg0 := hid hg0
  clear hb0 hg0
  go_enter Tryz.func17, Tryz.ntmps17
  go_wp2_with fail
  have hcall := szIntS_c m.doms left _ _ (Hd.out.gr Hg0.out) hl
  (with_reducible refine hcall.mono ?_)
  clear hcall
  rintro e w2 ⟨rfl, rfl⟩
  by_cases h1 : left < (m.doms.length : Int)
  · rw [cut_neg h1]
    go_wp2_with fail
    go_ret
    exact ⟨ret_int (by rw [cut_neg]; unfold szMo; omega), Hg0.out⟩
  rw [cut_pos (by omega)]
  obtain ⟨l1, hl1⟩ : ∃ l1, l1 = left - m.doms.length := ⟨_, rfl⟩
  rw [← hl1]
  have hl1' : 0 ≤ l1 ∧ l1 ≤ 2000000 := by omega
  have Hl1 := hid hl1
  clear hl1
  go_wp2_with fail
  have hcall := szConstraintS_c m.cons l1 _ _ (Hc.out.gr Hg0.out) hl1'
  (with_reducible refine hcall.mono ?_)
  clear hcall
  rintro e w4 ⟨rfl, hg4⟩
  obtain ⟨z, hz⟩ : ∃ z, z = szCs m.cons := ⟨_, rfl⟩
  rw [← hz]
  have Hz := hid hz
  clear hz
  by_cases h3 : l1 < (z : Int)
  · rw [cut_neg h3]
    go_wp2_with fail
    go_ret
    exact ⟨ret_int (by rw [cut_neg]; have := Hl1.out; have := Hz.out; unfold szMo; omega), Hg0.out.trans hg4⟩
  rw [cut_pos (by omega)]
  go_wp2_with fail
  go_ret
  refine ⟨ret_int ?_, Hg0.out.trans hg4⟩
  have a1 := Hl1.out; have a2 := Hz.out
  rw [cut_pos (by unfold szMo; omega)]; unfold szMo; omega
end Go.Proofs.YtjmjjdgbkibdaaaGreat
