/-
  Walks of the conversions of the exact laws: sizes, copies, comparisons.
  Walks of the conversions of the exact laws: copies of what came in, in memory of the call's own.
  Walks of the conversions: a constraint, a model.
-/
import Derived.Test.YtihkeihnpiddoaaGreatXEO
import Derived.Test.YtihkeihnpiddoaaGreatXHJ
import Derived.Test.YtihkeihnpiddoaaGreatXG1
set_option linter.unusedVariables false
namespace Go.Proofs.YtihkeihnpiddoaaGreat
open Go.RowKit

def cut (left : Int) (n : Nat) : Int := if left < (n : Int) then -1 else left - n
theorem cut_neg {left : Int} {n : Nat} (h : left < (n : Int)) : cut left n = -1 := by unfold cut; rw [if_pos h]
theorem cut_pos {left : Int} {n : Nat} (h : (n : Int) ≤ left) : cut left n = left - n := by unfold cut; rw [if_neg (by omega)]
def szR (rows : List (List Int)) : Nat := rows.length + (rows.map List.length).sum
def szC (c : Con) : Nat := c.vars.length + c.args.length + szR c.rows
def szCs (cs : List Con) : Nat := cs.length + (cs.map szC).sum
def szMo (m : Mod) : Nat := m.doms.length + szCs m.cons
theorem sum_take {α : Type} (f : α → Nat) {xs : List α} {n : Nat} {x : α} (h : xs[n]? = some x) : ((xs.take (n + 1)).map f).sum = ((xs.take n).map f).sum + f x := by
  rw [List.take_add_one, h]; simp
theorem sum_take_le {α : Type} (f : α → Nat) (xs : List α) (n : Nat) : ((xs.take n).map f).sum ≤ (xs.map f).sum := by
  conv => rhs; rw [← List.take_append_drop n xs, List.map_append, List.sum_append]
  omega
theorem sum_mem {α : Type} (f : α → Nat) {xs : List α} {x : α} (h : x ∈ xs) : f x ≤ (xs.map f).sum := by
  induction xs with
  | nil => cases h
  | cons y r ih =>
    rcases List.mem_cons.1 h with rfl | h
    · simp
    · have := ih h; simp; omega
theorem small_of_sz {m : Mod} (h : szMo m ≤ 1048576) : m.Small := by
  unfold szMo szCs at h
  refine ⟨by omega, by omega, fun c hc => ?_⟩
  have h1 := sum_mem szC hc
  unfold szC szR at h1
  have h2 : szC c ≤ 1048576 := by have := sum_mem szC hc; omega
  unfold szC szR at h2
  exact ⟨by omega, by omega, by omega, fun r hr => by have := sum_mem List.length hr; omega⟩

theorem szIntS_c (xs : List Int) (left : Int) (v : Value) (w : World) (hv : Nums [] w .i64 v xs) (hl : 0 ≤ left ∧ left ≤ 2000000) :
    Calls Tryz.prog 126 #[v, .int .i64 left] w fun e w' => e = .returned (.int .i64 (cut left xs.length)) ∧ w' = w := by
  obtain ⟨ao, cap, rfl, ⟨h1, h2, _⟩, _⟩ := hv
  by_cases hlt : left < (xs.length : Int)
  · rw [cut_neg hlt]
    go_enter Tryz.func126, Tryz.ntmps126
    go_wp2_with fail
    go_ret
    exact ⟨rfl, rfl⟩
  · rw [cut_pos (by omega)]
    go_enter Tryz.func126, Tryz.ntmps126
    go_wp2_with fail
    go_ret
    exact ⟨ret_int (by go_num), rfl⟩

theorem szIntSS_c (rows : List (List Int)) (left : Int) (v : Value) (w : World) (hv : RowsV [] w v rows) (hl : 0 ≤ left ∧ left ≤ 2000000) :
    Calls Tryz.prog 75 #[v, .int .i64 left] w fun e w' => e = .returned (.int .i64 (cut left (szR rows))) ∧ Gr [] w w' := by
  have Hv := hid hv
  obtain ⟨ao, cap, rfl, ⟨h1, h2, _⟩, _⟩ := hv
  by_cases hlt : left < (rows.length : Int)
  · rw [cut_neg (by unfold szR; omega)]
    go_enter Tryz.func75, Tryz.ntmps75
    go_wp2_with fail
    go_ret
    exact ⟨rfl, Gr.refl _ _⟩
  · go_enter Tryz.func75, Tryz.ntmps75
    go_wp2_with fail
    go_loopw [1, 5] (fun lv i wr => ∃ (n : Nat) (l : Int), n ≤ rows.length ∧ i = .int .i64 n ∧ lv = .int .i64 l ∧ (0 ≤ l ∧ l ≤ 2000000) ∧ l = left - (rows.length + ((rows.take n).map List.length).sum : Nat) ∧ Gr [] w wr) (fun _ i _ => rows.length - (intOf i).toNat)
    case atStart => exact ⟨0, left - rows.length, Nat.zero_le _, rfl, by go_num, by omega, by simp, Gr.refl _ _⟩
    case round =>
      obtain ⟨n, l, hn, rfl, rfl, hl, he, hg⟩ := hrel
      have He := hid he; clear he
      by_cases hlt : n < rows.length
      · obtain ⟨r, hr⟩ := get_some hlt
        obtain ⟨b1, o1, u1, rfl, hc1, hn1⟩ := (Hv.out.gr hg).at0 hr
        have Hn1 := hid hn1; have Hs := hid (sum_take List.length hr); have Hle := hid (sum_take_le List.length rows (n + 1)); have Hg := hid hg
        clear hr hn1 hg
        go_wp2_with fail
        have hcall := szIntS_c r l _ wr Hn1.out hl
        (with_reducible refine hcall.mono ?_)
        clear hcall
        rintro e w2 ⟨rfl, rfl⟩
        by_cases hlr : l < (r.length : Int)
        · rw [cut_neg hlr]
          go_wp2_with fail
          go_ret
          exact ⟨ret_int (by rw [cut_neg]; have := He.out; have := Hs.out; have := Hle.out; unfold szR; omega), Hg.out⟩
        · rw [cut_pos (by omega)]
          go_wp2_with fail
          exact ⟨⟨n + 1, l - r.length, by omega, by go_num, rfl, by omega, by have := He.out; have := Hs.out; omega, Hg.out⟩, by simp [intOf]; omega⟩
      · go_wp2_with fail
        go_ret
        refine ⟨ret_int ?_, hg⟩
        have := He.out
        rw [List.take_of_length_le (by omega)] at this
        rw [cut_pos (by unfold szR; omega)]; unfold szR; omega

set_option maxRecDepth 100000 in
theorem szConstraint_c (c : Con) (left : Int) (v : Value) (w : World) (hv : ConV [] w v c) (hl : 0 ≤ left ∧ left ≤ 2000000) :
    Calls Tryz.prog 163 #[v, .int .i64 left] w fun e w' => e = .returned (.int .i64 (cut left (szC c))) ∧ Gr [] w w' := by
  obtain ⟨vo, vc, ao, ac, ro, rc, rfl⟩ := hv.slices
  obtain ⟨vv, av, rv, e, hn1, hn2, hn3⟩ := hv
  simp only [Value.agg.injEq] at e
  have e3 := congrArg (fun a => a[1]?) e
  have e4 := congrArg (fun a => a[2]?) e
  have e5 := congrArg (fun a => a[4]?) e
  simp only [List.getElem?_toArray, List.getElem?_cons_succ, List.getElem?_cons_zero, Option.some.injEq] at e3 e4 e5
  subst e3 e4 e5
  have hg0 : Gr [] w (w.alloc (.cells #[.int .i64 c.kind, .slice vo c.vars.length vc, .slice ao c.args.length ac, .int .i64 c.bound, .slice ro c.rows.length rc] 166)) := (Gr.refl _ _).alloc _
  have hb0 : (w.alloc (.cells #[.int .i64 c.kind, .slice vo c.vars.length vc, .slice ao c.args.length ac, .int .i64 c.bound, .slice ro c.rows.length rc] 166)).heap[w.heap.size]? = some (.cells #[.int .i64 c.kind, .slice vo c.vars.length vc, .slice ao c.args.length ac, .int .i64 c.bound, .slice ro c.rows.length rc] 166 (0, 0)) := heap_alloc_new _ _
  have hfl := fld hb0
  have Hg0 := hid hg0; have H1 := hid (hn1.gr hg0); have H2 := hid (hn2.gr hg0); have H3 := hid (hn3.gr hg0)
  clear hb0 hn1 hn2 hn3 hg0 e
  go_enter Tryz.func163, Tryz.ntmps163
  go_wp2_with fail
  have hcall := szIntS_c c.vars left _ _ H1.out hl
  (with_reducible refine hcall.mono ?_)
  clear hcall
  rintro e w2 ⟨rfl, rfl⟩
  by_cases h1 : left < (c.vars.length : Int)
  · rw [cut_neg h1]
    go_wp2_with fail
    go_ret
    exact ⟨ret_int (by rw [cut_neg]; unfold szC; omega), Hg0.out⟩
  rw [cut_pos (by omega)]
  obtain ⟨l1, hl1⟩ : ∃ l1, l1 = left - c.vars.length := ⟨_, rfl⟩
  rw [← hl1]
  have hl1' : 0 ≤ l1 ∧ l1 ≤ 2000000 := by omega
  have Hl1 := hid hl1
  clear hl1
  go_wp2_with fail
  have hcall := szIntS_c c.args l1 _ _ H2.out hl1'
  (with_reducible refine hcall.mono ?_)
  clear hcall
  rintro e w3 ⟨rfl, rfl⟩
  by_cases h2 : l1 < (c.args.length : Int)
  · rw [cut_neg h2]
    go_wp2_with fail
    go_ret
    exact ⟨ret_int (by rw [cut_neg]; have := Hl1.out; unfold szC; omega), Hg0.out⟩
  rw [cut_pos (by omega)]
  obtain ⟨l2, hl2⟩ : ∃ l2, l2 = l1 - c.args.length := ⟨_, rfl⟩
  rw [← hl2]
  have hl2' : 0 ≤ l2 ∧ l2 ≤ 2000000 := by omega
  have Hl2 := hid hl2
  clear hl2
  go_wp2_with fail
  have hcall := szIntSS_c c.rows l2 _ _ H3.out hl2'
  (with_reducible refine hcall.mono ?_)
  clear hcall
  rintro e w4 ⟨rfl, hg4⟩
  by_cases h3 : l2 < (szR c.rows : Int)
  · rw [cut_neg h3]
    go_wp2_with fail
    go_ret
    exact ⟨ret_int (by rw [cut_neg]; have := Hl1.out; have := Hl2.out; unfold szC; omega), Hg0.out.trans hg4⟩
  rw [cut_pos (by omega)]
  obtain ⟨l3, hl3⟩ : ∃ l3, l3 = l2 - szR c.rows := ⟨_, rfl⟩
  rw [← hl3]
  have hl3' : 0 ≤ l3 ∧ l3 ≤ 2000000 := by omega
  have Hl3 := hid hl3
  clear hl3
  go_wp2_with fail
  go_ret
  refine ⟨ret_int ?_, Hg0.out.trans hg4⟩
  have a1 := Hl1.out; have a2 := Hl2.out; have a3 := Hl3.out
  rw [cut_pos (by unfold szC; omega)]; unfold szC; omega

theorem szConstraintS_c (cs : List Con) (left : Int) (v : Value) (w : World) (hv : ConsV [] w v cs) (hl : 0 ≤ left ∧ left ≤ 2000000) :
    Calls Tryz.prog 127 #[v, .int .i64 left] w fun e w' => e = .returned (.int .i64 (cut left (szCs cs))) ∧ Gr [] w w' := by
  obtain ⟨ao, cap, rfl, ⟨h1, h2⟩, hcc⟩ := hv.open
  have Hc := hid hcc
  clear hcc hv
  by_cases hlt : left < (cs.length : Int)
  · rw [cut_neg (by unfold szCs; omega)]
    go_enter Tryz.func127, Tryz.ntmps127
    go_wp2_with fail
    go_ret
    exact ⟨rfl, Gr.refl _ _⟩
  · go_enter Tryz.func127, Tryz.ntmps127
    go_wp2_with fail
    go_loopw [1, 5] (fun lv i wr => ∃ (n : Nat) (l : Int), n ≤ cs.length ∧ i = .int .i64 n ∧ lv = .int .i64 l ∧ (0 ≤ l ∧ l ≤ 2000000) ∧ l = left - (cs.length + ((cs.take n).map szC).sum : Nat) ∧ Gr [] w wr) (fun _ i _ => cs.length - (intOf i).toNat)
    case atStart => exact ⟨0, left - cs.length, Nat.zero_le _, rfl, by go_num, by omega, by simp, Gr.refl _ _⟩
    case round =>
      obtain ⟨n, l, hn, rfl, rfl, hl, he, hg⟩ := hrel
      have He := hid he; clear he
      by_cases hlt : n < cs.length
      · obtain ⟨c, hr⟩ := get_some hlt
        obtain ⟨b, o, vo, vc, xo, xc, ro, rc, rfl, _, ⟨c0, c1, c2, c3, c4⟩, hcon⟩ := (Hc.out.gr hg).at2 hr
        have Hn1 := hid hcon; have Hs := hid (sum_take szC hr); have Hle := hid (sum_take_le szC cs (n + 1)); have Hg := hid hg
        clear hr hcon hg
        go_wp2_with fail
        have hcall := szConstraint_c c l _ wr Hn1.out hl
        (with_reducible refine hcall.mono ?_)
        clear hcall
        rintro e w2 ⟨rfl, hg2⟩
        obtain ⟨z, hz⟩ : ∃ z, z = szC c := ⟨_, rfl⟩
        rw [← hz]
        have Hz := hid hz
        have Hg2 := hid (Hg.out.trans hg2)
        clear hz hg2
        by_cases hlr : l < (z : Int)
        · rw [cut_neg hlr]
          go_wp2_with fail
          go_ret
          exact ⟨ret_int (by rw [cut_neg]; have := He.out; have := Hs.out; have := Hle.out; have := Hz.out; unfold szCs; omega), Hg2.out⟩
        · rw [cut_pos (by omega)]
          go_wp2_with fail
          exact ⟨⟨n + 1, l - z, by omega, by go_num, rfl, by omega, by have := He.out; have := Hs.out; have := Hz.out; omega, Hg2.out⟩, by simp [intOf]; omega⟩
      · go_wp2_with fail
        go_ret
        refine ⟨ret_int ?_, hg⟩
        have := He.out
        rw [List.take_of_length_le (by omega)] at this
        rw [cut_pos (by unfold szCs; omega)]; unfold szCs; omega

theorem szModel_c (m : Mod) (left : Int) (v : Value) (w : World) (hv : ModV [] w v m) (hl : 0 ≤ left ∧ left ≤ 2000000) :
    Calls Tryz.prog 74 #[v, .int .i64 left] w fun e w' => e = .returned (.int .i64 (cut left (szMo m))) ∧ Gr [] w w' := by
  obtain ⟨dv, cv, rfl, hd, hc⟩ := hv
  have Hd := hid hd; have Hc := hid hc
  obtain ⟨xo, xc, rfl, _, _⟩ := hd
  obtain ⟨co, cc, rfl, _, _⟩ := hc
  have hg0 : Gr [] w (w.alloc (.cells #[.slice xo m.doms.length xc, .slice co m.cons.length cc] 59)) := (Gr.refl _ _).alloc _
  have hb0 : (w.alloc (.cells #[.slice xo m.doms.length xc, .slice co m.cons.length cc] 59)).heap[w.heap.size]? = some (.cells #[.slice xo m.doms.length xc, .slice co m.cons.length cc] 59 (0, 0)) := heap_alloc_new _ _
  have hfl := fld hb0
  have Hg0 := hid hg0
  clear hb0 hg0
  go_enter Tryz.func74, Tryz.ntmps74
  go_wp2_with fail
  have hcall := szIntS_c m.doms left _ _ (Hd.out.gr Hg0.out) hl
  (with_reducible refine hcall.mono ?_)
  clear hcall
  rintro e w2 ⟨rfl, rfl⟩
  by_cases h1 : left < (m.doms.length : Int)
  · rw [cut_neg h1]
    go_wp2_with fail
    go_ret
    exact ⟨ret_int (by rw [cut_neg]; unfold szMo; omega), Hg0.out⟩
  rw [cut_pos (by omega)]
  obtain ⟨l1, hl1⟩ : ∃ l1, l1 = left - m.doms.length := ⟨_, rfl⟩
  rw [← hl1]
  have hl1' : 0 ≤ l1 ∧ l1 ≤ 2000000 := by omega
  have Hl1 := hid hl1
  clear hl1
  go_wp2_with fail
  have hcall := szConstraintS_c m.cons l1 _ _ (Hc.out.gr Hg0.out) hl1'
  (with_reducible refine hcall.mono ?_)
  clear hcall
  rintro e w4 ⟨rfl, hg4⟩
  obtain ⟨z, hz⟩ : ∃ z, z = szCs m.cons := ⟨_, rfl⟩
  rw [← hz]
  have Hz := hid hz
  clear hz
  by_cases h3 : l1 < (z : Int)
  · rw [cut_neg h3]
    go_wp2_with fail
    go_ret
    exact ⟨ret_int (by rw [cut_neg]; have := Hl1.out; have := Hz.out; unfold szMo; omega), Hg0.out.trans hg4⟩
  rw [cut_pos (by omega)]
  go_wp2_with fail
  go_ret
  refine ⟨ret_int ?_, Hg0.out.trans hg4⟩
  have a1 := Hl1.out; have a2 := Hz.out
  rw [cut_pos (by unfold szMo; omega)]; unfold szMo; omega
end Go.Proofs.YtihkeihnpiddoaaGreat

set_option linter.unusedVariables false
namespace Go.Proofs.YtihkeihnpiddoaaGreat
open Go.RowKit

/-- 'make([]T, n)', of whatever elements. -/
theorem wp_mkG {P : Program} {w : World} {ops : Array Oper} {rest : List Oper} {o : Oper} {a : Act} {Q : Exit → Act → World → Prop} (hgd : o.guard = none) (l c : Operand) (t : TypeId)
    (ho : o.op = Op.makeSlice t l c) (e : TypeId) (z : Value) (size bytes : Nat) (hinfo : (P.info? e).map (fun i => (i.zero, i.size, i.bytes)) = some (some z, size, bytes)) (hby : bytes ≤ 100)
    (ht : P.underlying t = some (.slice e)) (n : Nat) (hl : a.eval l = .int .i64 (n : Int)) (hc : a.eval c = .int .i64 (n : Int)) (hn : n ≤ 1000000000)
    (h : ∀ w', w'.ownsRow w.heap.size e size (.slice (some ⟨w.heap.size, 0, none⟩) n n) n (madeCells z.cells (n * size)).toList → Gr [] w w' → wpList P ops Q rest (a.put o.dst (.slice (some ⟨w.heap.size, 0, none⟩) n n)) w') : wpList P ops Q (o :: rest) a w := by
  obtain ⟨i0, hi, hz0, hz1, hz2⟩ := info_parts hinfo
  have hbb : bytes * n ≤ 100 * n := Nat.mul_le_mul_right _ hby
  refine wpList_make_full w hgd l c t ho w.heap.size e i0 z size ht hi hz0 hz1 .i64 .i64 n n n hl hc rfl rfl (by rw [hz2]; omega) (by simp only [maxLen]; omega) (Nat.le_refl _) ?_
  intro w' hown hg
  exact h w' hown ((Gr.refl _ _).grown hg (by simp))

theorem New.le {B B' : Nat} {w w' : World} {b : Nat} (h : New B w b) (hB : B' ≤ B) (hw : w.heap.size ≤ w'.heap.size) : New B' w' b := ⟨Nat.le_trans hB h.1, Nat.lt_of_lt_of_le h.2 hw⟩

theorem toIntS_c (xs : List Int) (v : Value) (w : World) (hv : Nums [] w .i64 v xs) (hl : xs.length ≤ 2000000) :
    Calls Tryz.prog 128 #[v] w fun e w' => ∃ v', e = .returned v' ∧ Own w.heap.size w' 3 v' xs ∧ Gr [] w w' := by
  have Hv := hid hv
  obtain ⟨ao, cap, rfl, ⟨h1, h2, _⟩, _⟩ := hv
  go_enter Tryz.func128, Tryz.ntmps128
  go_wp2_with (at_make; refine wp_mkN rfl _ _ 23 rfl w.heap.size 3 infoI Tryz.underlying23 xs.length rfl rfl (by omega) (Nat.le_refl _) ?_; intro w1 hown1 hg1; have HO1 := hid hown1; have HG1 := hid hg1; clear hown1 hg1)
  go_loopw [4] (fun i wr => ∃ n : Nat, n ≤ xs.length ∧ i = .int .i64 n ∧ Own w.heap.size wr 3 (.slice (some ⟨w.heap.size, 0, none⟩) xs.length xs.length) (xs.take n ++ List.replicate (xs.length - n) 0) ∧ Gr [] w wr) (fun i _ => xs.length - (intOf i).toNat)
  case atStart => exact ⟨0, Nat.zero_le _, rfl, by simpa using HO1.out, HG1.out⟩
  case round =>
    obtain ⟨n, hn, rfl, hown, hg⟩ := hrel
    by_cases hlt : n < xs.length
    · obtain ⟨x, hx⟩ := get_some hlt
      obtain ⟨b, o, rfl, _, h0⟩ := (Hv.out.gr hg).at hx
      obtain ⟨z, hz⟩ := get_some (xs := xs.take n ++ List.replicate (xs.length - n) 0) (k := n) (by simp; omega)
      obtain ⟨hc1, hc2⟩ := hown.at hz
      have hset := hown.set n x (by simp; omega)
      have hne : Gr [] w (wr.setCell ⟨w.heap.size, n, none⟩ (.int .i64 x)) := hg.setCell _ _ (.inr (Nat.le_refl _))
      have e1 : (xs.take n ++ List.replicate (xs.length - n) 0).set n x = xs.take (n + 1) ++ List.replicate (xs.length - (n + 1)) 0 := by
        have hl : (xs.take n).length = n := by rw [List.length_take]; omega
        rw [List.set_append_right _ _ (by omega), hl, Nat.sub_self, List.take_add_one, hx]
        obtain ⟨k, hk⟩ : ∃ k, xs.length - n = k + 1 := ⟨xs.length - n - 1, by omega⟩
        rw [hk, List.replicate_succ, List.set_cons_zero, show xs.length - (n + 1) = k by omega]; simp
      rw [e1] at hset
      have Hset := hid hset; have Hne := hid hne
      clear hset hne e1 hz hown hg hx
      go_wp2_with fail
      exact ⟨⟨n + 1, by omega, by go_num, Hset.out, Hne.out⟩, by simp [intOf]; omega⟩
    · have e1 : xs.take n ++ List.replicate (xs.length - n) 0 = xs := by rw [List.take_of_length_le (by omega), show xs.length - n = 0 by omega]; simp
      rw [e1] at hown
      have Hown := hid hown
      clear e1 hown
      go_wp2_with fail
      go_ret
      exact ⟨_, rfl, Hown.out, hg⟩

theorem toIntSS_c (rows : List (List Int)) (v : Value) (w : World) (hv : RowsV [] w v rows) (hl : rows.length ≤ 2000000) (hr : ∀ r ∈ rows, r.length ≤ 2000000) :
    Calls Tryz.prog 77 #[v] w fun e w' => ∃ v', e = .returned v' ∧ RowsM (New w.heap.size w') w' v' rows ∧ Gr [] w w' := by
  have Hv := hid hv; have Hr := hid hr
  obtain ⟨ao, cap, rfl, ⟨h1, h2, _⟩, _⟩ := hv
  clear hr
  go_enter Tryz.func77, Tryz.ntmps77
  go_wp2_with (at_make; refine wp_mkG rfl _ _ 27 rfl 23 (.slice none 0 0) 1 24 infoR (by omega) Tryz.underlying27 rows.length rfl rfl (by omega) ?_; intro w1 hown1 hg1; have HO1 := hid (rowsM_made hown1 (by omega)); have HG1 := hid hg1; clear hown1 hg1)
  go_loopw [4] (fun i wr => ∃ n : Nat, n ≤ rows.length ∧ i = .int .i64 n ∧ RowsM (New w.heap.size wr) wr (.slice (some ⟨w.heap.size, 0, none⟩) rows.length rows.length) (rows.take n ++ List.replicate (rows.length - n) []) ∧ Gr [] w wr) (fun i _ => rows.length - (intOf i).toNat)
  case atStart => exact ⟨0, Nat.zero_le _, rfl, by simpa using HO1.out, HG1.out⟩
  case round =>
    obtain ⟨n, hn, rfl, hown, hg⟩ := hrel
    by_cases hlt : n < rows.length
    · obtain ⟨x, hx⟩ := get_some hlt
      obtain ⟨b, o, u, rfl, h0, hn0⟩ := (Hv.out.gr hg).at0 hx
      have hxl := Hr.out x (List.mem_of_getElem? hx)
      have Hn0 := hid hn0; have Hown := hid hown; have Hg := hid hg; have Hx := hid hx
      clear hn0 hown hg hx
      go_wp2_with fail
      have hcall := toIntS_c x u wr Hn0.out hxl
      (with_reducible refine hcall.mono ?_)
      clear hcall
      rintro e w2 ⟨v2, rfl, hown2, hg2⟩
      have hR2 := Hown.out.gr' (M' := New w.heap.size w2) hg2 (by simp) (fun b hb h => h.le (Nat.le_refl _) hg2.size)
      have hN2 : NumsM (but (New w.heap.size w2) w.heap.size) w2 v2 x := hown2.numsM.gr' (Gr.refl [] w2) (by simp) (fun b hb h => ⟨h.le Hg.out.size (Nat.le_refl _), by obtain ⟨y, hy⟩ := get_some (xs := rows.take n ++ List.replicate (rows.length - n) []) (k := 0) (by simp; omega); obtain ⟨b9, o9, u9, e10, hM9, _⟩ := Hown.out.at hy; have e11 : b9 = w.heap.size := (by simp at e10; exact e10.1.symm); have h3 := h.1; have h4 := hM9.2; omega⟩)
      obtain ⟨z, hz⟩ := get_some (xs := rows.take n ++ List.replicate (rows.length - n) []) (k := n) (by simp; omega)
      obtain ⟨hc1, hc2⟩ : (∃ u0, w2.cell? ⟨w.heap.size, n, none⟩ = some u0) ∧ w2.frozen? ⟨w.heap.size, n, none⟩ = false := by
        obtain ⟨b9, o9, u9, e10, _, k1, k2, _⟩ := hR2.at hz
        simp only [Option.some.injEq, Addr.mk.injEq] at e10
        obtain ⟨rfl, rfl, _⟩ := e10
        rw [Nat.zero_add] at k1 k2
        exact ⟨⟨u9, k1⟩, k2⟩
      obtain ⟨u0, hc1⟩ := hc1
      have hset : RowsM (New w.heap.size (w2.setCell ⟨w.heap.size, n, none⟩ v2)) (w2.setCell ⟨w.heap.size, n, none⟩ v2) (.slice (some ⟨w.heap.size, 0, none⟩) rows.length rows.length) ((rows.take n ++ List.replicate (rows.length - n) []).set n x) := by
        have := hR2.set (k := n) (by simp; omega) hN2
        rw [Nat.zero_add] at this
        exact this.move fun a u ha hu => ⟨hu, rfl, ha.1, by simpa using ha.2⟩
      have e1 : (rows.take n ++ List.replicate (rows.length - n) []).set n x = rows.take (n + 1) ++ List.replicate (rows.length - (n + 1)) [] := by
        have hl : (rows.take n).length = n := by rw [List.length_take]; omega
        rw [List.set_append_right _ _ (by omega), hl, Nat.sub_self, List.take_add_one, Hx.out]
        obtain ⟨k, hk⟩ : ∃ k, rows.length - n = k + 1 := ⟨rows.length - n - 1, by omega⟩
        rw [hk, List.replicate_succ, List.set_cons_zero, show rows.length - (n + 1) = k by omega]; simp
      rw [e1] at hset
      have hne : Gr [] w (w2.setCell ⟨w.heap.size, n, none⟩ v2) := (Hg.out.trans hg2).setCell _ _ (.inr (Nat.le_refl _))
      obtain ⟨vo, vc, rfl, _, _⟩ := hown2.nums (S := []) (by simp)
      have Hset := hid hset; have Hne := hid hne
      clear hset hne e1 hz hown2 hg2 hR2 hN2
      go_wp2_with fail
      exact ⟨⟨n + 1, by omega, by go_num, Hset.out, Hne.out⟩, by simp [intOf]; omega⟩
    · have e1 : rows.take n ++ List.replicate (rows.length - n) [] = rows := by rw [List.take_of_length_le (by omega), show rows.length - n = 0 by omega]; simp
      rw [e1] at hown
      have Hown := hid hown
      clear e1 hown
      go_wp2_with fail
      go_ret
      exact ⟨_, rfl, Hown.out, hg⟩
end Go.Proofs.YtihkeihnpiddoaaGreat

set_option linter.unusedVariables false
namespace Go.Proofs.YtihkeihnpiddoaaGreat
open Go.RowKit

theorem ConV.open {S : List Nat} {w : World} {v : Value} {c : Con} (h : ConV S w v c) :
    ∃ vo vc ao ac ro rc, v = .agg #[.int .i64 c.kind, .slice vo c.vars.length vc, .slice ao c.args.length ac, .int .i64 c.bound, .slice ro c.rows.length rc] ∧
      Nums S w .i64 (.slice vo c.vars.length vc) c.vars ∧ Nums S w .i64 (.slice ao c.args.length ac) c.args ∧ RowsV S w (.slice ro c.rows.length rc) c.rows := by
  obtain ⟨vv, av, rv, rfl, h1, h2, h3⟩ := h
  obtain ⟨vo, vc, rfl, k1⟩ := h1
  obtain ⟨ao, ac, rfl, k2⟩ := h2
  obtain ⟨ro, rc, rfl, k3⟩ := h3
  exact ⟨vo, vc, ao, ac, ro, rc, rfl, ⟨vo, vc, rfl, k1⟩, ⟨ao, ac, rfl, k2⟩, ⟨ro, rc, rfl, k3⟩⟩

set_option maxRecDepth 100000 in
theorem toConstraint_c (c : Con) (v : Value) (w : World) (hv : ConV [] w v c) (hs : c.Small) :
    Calls Tryz.prog 164 #[v] w fun e w' => ∃ v', e = .returned v' ∧ ConM (New w.heap.size w') w' v' c ∧ Gr [] w w' := by
  obtain ⟨vo, vc, ao, ac, ro, rc, rfl, n1, n2, n3⟩ := hv.open
  have H1 := hid n1; have H2 := hid n2; have H3 := hid n3; have Hs := hid hs
  clear n1 n2 n3 hv hs
  go_enter Tryz.func164, Tryz.ntmps164
  go_wp2_with fail
  generalize hW0 : World.alloc (World.alloc (World.alloc _ _) _) _ = W0
  have h30 := heap3 w (.cells #[.int .i64 c.kind, .slice vo c.vars.length vc, .slice ao c.args.length ac, .int .i64 c.bound, .slice ro c.rows.length rc] 166) (.cells #[.int .i64 0, .slice none 0 0, .slice none 0 0, .int .i64 0, .slice none 0 0] 41) (.cells #[.int .i64 c.kind, .slice none 0 0, .slice none 0 0, .int .i64 0, .slice none 0 0] 41)
  rw [hW0] at h30
  have hg0 : Gr [] w W0 := by rw [← hW0]; exact (((Gr.refl [] w).alloc _).alloc _).alloc _
  have hs0 : W0.heap.size = w.heap.size + 3 := by rw [← hW0]; simp
  obtain ⟨hbB, hbR, hbO⟩ := h30
  have HB := hid hbB; have HR := hid hbR; have HO : Hid (W0.heap[w.heap.size + 1 + 1]? = some (.cells #[.int .i64 c.kind, .slice none 0 0, .slice none 0 0, .int .i64 0, .slice none 0 0] 41 (0, 0))) := hid hbO
  have Hg0 := hid hg0
  clear hW0 hbB hbR hbO hg0
  have hcall := toIntS_c c.vars _ W0 (H1.out.gr Hg0.out) Hs.out.vars
  (with_reducible refine hcall.mono ?_)
  clear hcall
  rintro e w2 ⟨v2, rfl, hown2, hg2⟩
  obtain ⟨vo2, vc2, rfl, -, -⟩ := hown2.nums (S := []) (by simp)
  have flB := fld (hg2.obj HB.out (by simp)); have flO := fld (hg2.obj HO.out (by simp)); have ffO := fldF (hg2.obj HO.out (by simp))
  have HB2 := hid (hg2.obj HB.out (by simp)); have HR2 := hid (hg2.obj HR.out (by simp)); have HO2 := hid (hg2.obj HO.out (by simp))
  have Hg2 := hid (Hg0.out.trans hg2); have Hn2 := hid (hown2.numsM); have hs2 := hg2.size
  clear hown2 hg2
  go_wp2_with fail
  have hgs3 : Gr [w.heap.size + 1 + 1] w2 (w2.setCell ⟨w.heap.size + 1 + 1, 1, none⟩ (.slice vo2 c.vars.length vc2)) := (Gr.refl _ _).setCell _ _ (.inl (by simp))
  have hbO3 := block_cells (cur' := #[]) HO2.out 1 (.slice vo2 c.vars.length vc2)
  generalize hW3 : w2.setCell ⟨w.heap.size + 1 + 1, 1, none⟩ (.slice vo2 c.vars.length vc2) = W3 at hgs3 hbO3 ⊢
  have hg3 : Gr [] w W3 := Hg2.out.step hgs3 (fun i hi => .inr (by simp at hi; omega))
  have hs3 := hgs3.size
  have HB3 := hid (hgs3.obj HB2.out (by simp; omega)); have HR3 := hid (hgs3.obj HR2.out (by simp)); have HO3 := hid hbO3
  have Hg3 := hid hg3
  have Hn3 := hid (Hn2.out.gr' (M' := New W0.heap.size W3) hgs3 (by intro b hb h; have := h.1; simp at hb; omega) (fun b hb h => h.le (Nat.le_refl _) hgs3.size))
  clear hW3 hgs3 hg3 hbO3 flB flO ffO
  have hcall := toIntS_c c.args _ W3 (H2.out.gr Hg3.out) Hs.out.args
  (with_reducible refine hcall.mono ?_)
  clear hcall
  rintro e w4 ⟨v4, rfl, hown4, hg4⟩
  obtain ⟨vo4, vc4, rfl, -, -⟩ := hown4.nums (S := []) (by simp)
  have flB := fld (hg4.obj HB3.out (by simp)); have flO := fld (hg4.obj HO3.out (by simp)); have ffO := fldF (hg4.obj HO3.out (by simp))
  have HB4 := hid (hg4.obj HB3.out (by simp)); have HR4 := hid (hg4.obj HR3.out (by simp)); have HO4 := hid (hg4.obj HO3.out (by simp))
  have Hg4 := hid (Hg3.out.trans hg4); have Ha4 := hid (hown4.numsM); have hs4 := hg4.size
  have Hn4 := hid (Hn3.out.gr' (M' := New W0.heap.size w4) hg4 (by simp) (fun b hb h => h.le (Nat.le_refl _) hg4.size))
  clear hown4 hg4
  go_wp2_with fail
  have hgs5 : Gr [w.heap.size + 1 + 1] w4 ((w4.setCell ⟨w.heap.size + 1 + 1, 2, none⟩ (.slice vo4 c.args.length vc4)).setCell ⟨w.heap.size + 1 + 1, 3, none⟩ (.int .i64 c.bound)) := ((Gr.refl _ _).setCell _ _ (.inl (by simp))).setCell _ _ (.inl (by simp))
  have hbO5 := block_cells (cur' := #[]) (block_cells (cur' := #[]) HO4.out 2 (.slice vo4 c.args.length vc4)) 3 (.int .i64 c.bound)
  generalize hW5 : (w4.setCell ⟨w.heap.size + 1 + 1, 2, none⟩ (.slice vo4 c.args.length vc4)).setCell ⟨w.heap.size + 1 + 1, 3, none⟩ (.int .i64 c.bound) = W5 at hgs5 hbO5 ⊢
  have hg5 : Gr [] w W5 := Hg4.out.step hgs5 (fun i hi => .inr (by simp at hi; omega))
  have hs5 := hgs5.size
  have HB5 := hid (hgs5.obj HB4.out (by simp; omega)); have HR5 := hid (hgs5.obj HR4.out (by simp)); have HO5 := hid hbO5
  have Hg5 := hid hg5
  have Hn5 := hid (Hn4.out.gr' (M' := New W0.heap.size W5) hgs5 (by intro b hb h; have := h.1; simp at hb; omega) (fun b hb h => h.le (Nat.le_refl _) hgs5.size))
  have Ha5 := hid (Ha4.out.gr' (M' := New W0.heap.size W5) hgs5 (by intro b hb h; have := h.1; simp at hb; omega) (fun b hb h => h.le (by omega) hgs5.size))
  clear hW5 hgs5 hg5 hbO5 flB flO ffO
  have hcall := toIntSS_c c.rows _ W5 (H3.out.gr Hg5.out) Hs.out.rows Hs.out.row
  (with_reducible refine hcall.mono ?_)
  clear hcall
  rintro e w6 ⟨v6, rfl, hown6, hg6⟩
  obtain ⟨vo6, vc6, rfl, -, -⟩ := hown6.rows (S := []) (by simp)
  have flO := fld (hg6.obj HO5.out (by simp)); have ffO := fldF (hg6.obj HO5.out (by simp))
  have flR := fld (hg6.obj HR5.out (by simp)); have ffR := fldF (hg6.obj HR5.out (by simp))
  have HR6 := hid (hg6.obj HR5.out (by simp)); have HO6 := hid (hg6.obj HO5.out (by simp))
  have Hg6 := hid (Hg5.out.trans hg6); have Hr6 := hid hown6; have hs6 := hg6.size
  have Hn6 := hid (Hn5.out.gr' (M' := New W0.heap.size w6) hg6 (by simp) (fun b hb h => h.le (Nat.le_refl _) hg6.size))
  have Ha6 := hid (Ha5.out.gr' (M' := New W0.heap.size w6) hg6 (by simp) (fun b hb h => h.le (Nat.le_refl _) hg6.size))
  clear hown6 hg6
  go_wp2_with fail
  have hgE : Gr [w.heap.size + 1 + 1, w.heap.size + 1] w6 ((((((w6.setCell ⟨w.heap.size + 1 + 1, 4, none⟩ (.slice vo6 c.rows.length vc6)).setCell ⟨w.heap.size + 1, 0, none⟩ (.int .i64 c.kind)).setCell ⟨w.heap.size + 1, 1, none⟩ (.slice vo2 c.vars.length vc2)).setCell ⟨w.heap.size + 1, 2, none⟩ (.slice vo4 c.args.length vc4)).setCell ⟨w.heap.size + 1, 3, none⟩ (.int .i64 c.bound)).setCell ⟨w.heap.size + 1, 4, none⟩ (.slice vo6 c.rows.length vc6)) :=
    ((((((Gr.refl _ _).setCell _ _ (.inl (by simp))).setCell _ _ (.inl (by simp))).setCell _ _ (.inl (by simp))).setCell _ _ (.inl (by simp))).setCell _ _ (.inl (by simp))).setCell _ _ (.inl (by simp))
  have hbE := block_cells (cur' := #[]) (block_cells (cur' := #[]) (block_cells (cur' := #[]) (block_cells (cur' := #[]) (block_cells (cur' := #[]) (((Gr.refl [w.heap.size + 1 + 1] w6).setCell ⟨w.heap.size + 1 + 1, 4, none⟩ (.slice vo6 c.rows.length vc6) (.inl (by simp))).obj HR6.out (by simp)) 0 (.int .i64 c.kind)) 1 (.slice vo2 c.vars.length vc2)) 2 (.slice vo4 c.args.length vc4)) 3 (.int .i64 c.bound)) 4 (.slice vo6 c.rows.length vc6)
  generalize hWE : ((((((w6.setCell ⟨w.heap.size + 1 + 1, 4, none⟩ (.slice vo6 c.rows.length vc6)).setCell ⟨w.heap.size + 1, 0, none⟩ (.int .i64 c.kind)).setCell ⟨w.heap.size + 1, 1, none⟩ (.slice vo2 c.vars.length vc2)).setCell ⟨w.heap.size + 1, 2, none⟩ (.slice vo4 c.args.length vc4)).setCell ⟨w.heap.size + 1, 3, none⟩ (.int .i64 c.bound)).setCell ⟨w.heap.size + 1, 4, none⟩ (.slice vo6 c.rows.length vc6)) = WE at hgE hbE ⊢
  have flE := fld hbE
  have hsE := hgE.size
  refine bodyPost_ret (v := .agg #[.int .i64 c.kind, .slice vo2 c.vars.length vc2, .slice vo4 c.args.length vc4, .int .i64 c.bound, .slice vo6 c.rows.length vc6]) ?_ rfl ?_
  · simp [results, Tryz.results164, go_sem, flE]
  · refine ⟨_, rfl, ⟨_, _, _, rfl, ?_, ?_, ?_⟩, Hg6.out.step hgE (fun i hi => .inr (by simp at hi; omega))⟩
    · exact Hn6.out.gr' hgE (by intro b hb h; have := h.1; simp at hb; omega) (fun b hb h => h.le (by omega) hsE)
    · exact Ha6.out.gr' hgE (by intro b hb h; have := h.1; simp at hb; omega) (fun b hb h => h.le (by omega) hsE)
    · exact Hr6.out.gr' hgE (by intro b hb h; have := h.1; simp at hb; omega) (fun b hb h => h.le (by omega) hsE)

theorem ConM.open {M : Nat → Prop} {w : World} {v : Value} {c : Con} (h : ConM M w v c) :
    ∃ vo vc ao ac ro rc, v = .agg #[.int .i64 c.kind, .slice vo c.vars.length vc, .slice ao c.args.length ac, .int .i64 c.bound, .slice ro c.rows.length rc] ∧
      NumsM M w (.slice vo c.vars.length vc) c.vars ∧ NumsM M w (.slice ao c.args.length ac) c.args ∧ RowsM M w (.slice ro c.rows.length rc) c.rows := by
  obtain ⟨vv, av, rv, rfl, h1, h2, h3⟩ := h
  obtain ⟨vo, vc, rfl, k1⟩ := h1
  obtain ⟨ao, ac, rfl, k2⟩ := h2
  obtain ⟨ro, rc, rfl, k3⟩ := h3
  exact ⟨vo, vc, ao, ac, ro, rc, rfl, ⟨vo, vc, rfl, k1⟩, ⟨ao, ac, rfl, k2⟩, ⟨ro, rc, rfl, k3⟩⟩

set_option maxRecDepth 100000 in
theorem toConstraintS_c (cs : List Con) (v : Value) (w : World) (hv : ConsV [] w v cs) (hl : cs.length ≤ 2000000) (hr : ∀ c ∈ cs, c.Small) :
    Calls Tryz.prog 129 #[v] w fun e w' => ∃ v', e = .returned v' ∧ ConsM (New w.heap.size w') w' v' cs ∧ Gr [] w w' := by
  have Hr := hid hr
  obtain ⟨ao, cap, rfl, ⟨h1, h2⟩, hcc⟩ := hv.open
  have Hc := hid hcc
  clear hr hv hcc
  go_enter Tryz.func129, Tryz.ntmps129
  go_wp2_with (at_make; refine wp_mkG rfl _ _ 24 rfl 41 (.agg #[.int .i64 0, .slice none 0 0, .slice none 0 0, .int .i64 0, .slice none 0 0]) 5 88 infoC (by omega) Tryz.underlying24 cs.length rfl rfl (by omega) ?_; intro w1 hown1 hg1; have HO1 := hid (consM_made hown1 (by omega)); have HG1 := hid hg1; clear hown1 hg1)
  go_loopw [4] (fun i wr => ∃ n : Nat, n ≤ cs.length ∧ i = .int .i64 n ∧ ConsM (New w.heap.size wr) wr (.slice (some ⟨w.heap.size, 0, none⟩) cs.length cs.length) (cs.take n ++ List.replicate (cs.length - n) (⟨0, [], [], 0, []⟩ : Con)) ∧ Gr [] w wr) (fun i _ => cs.length - (intOf i).toNat)
  case atStart => exact ⟨0, Nat.zero_le _, rfl, by simpa using HO1.out, HG1.out⟩
  case round =>
    obtain ⟨n, hn, rfl, hown, hg⟩ := hrel
    by_cases hlt : n < cs.length
    · obtain ⟨x, hx⟩ := get_some hlt
      obtain ⟨b, o, vo, vc, xo, xc, ro, rc, rfl, _, ⟨c0, c1, c2, c3, c4⟩, hcon⟩ := (Hc.out.gr hg).at2 hx
      have hxs := Hr.out x (List.mem_of_getElem? hx)
      have Hn0 := hid hcon; have Hown := hid hown; have Hg := hid hg; have Hx := hid hx; have Hxs := hid hxs
      clear hcon hown hg hx hxs
      go_wp2_with fail
      have hcall := toConstraint_c x _ wr Hn0.out Hxs.out
      (with_reducible refine hcall.mono ?_)
      clear hcall
      rintro e w2 ⟨v2, rfl, hown2, hg2⟩
      have hR2 := Hown.out.gr' (M' := New w.heap.size w2) hg2 (by simp) (fun b hb h => h.le (Nat.le_refl _) hg2.size)
      obtain ⟨z, hz⟩ := get_some (xs := cs.take n ++ List.replicate (cs.length - n) (⟨0, [], [], 0, []⟩ : Con)) (k := n) (by simp; omega)
      have hwr : w.heap.size < wr.heap.size := by
        obtain ⟨b9, o9, _, _, _, e10, hM9, _⟩ := Hown.out.at hz
        have e11 : b9 = w.heap.size := (by simp at e10; exact e10.1.symm)
        have := hM9.2; omega
      have hbut : ∀ b, b < w2.heap.size → New wr.heap.size w2 b → but (New w.heap.size w2) w.heap.size b := fun b hb h => ⟨h.le Hg.out.size (Nat.le_refl _), by have := h.1; omega⟩
      obtain ⟨vo2, vc2, xo2, xc2, ro2, rc2, rfl, m1, m2, m3⟩ := hown2.open
      obtain ⟨k0, k1, k2, k3, k4, hf⟩ : (∃ u, w2.cell? ⟨w.heap.size, n * 5, none⟩ = some u) ∧ (∃ u, w2.cell? ⟨w.heap.size, n * 5 + 1, none⟩ = some u) ∧ (∃ u, w2.cell? ⟨w.heap.size, n * 5 + 2, none⟩ = some u) ∧ (∃ u, w2.cell? ⟨w.heap.size, n * 5 + 3, none⟩ = some u) ∧ (∃ u, w2.cell? ⟨w.heap.size, n * 5 + 4, none⟩ = some u) ∧ ∀ j, w2.frozen? ⟨w.heap.size, j, none⟩ = false := by
        obtain ⟨b9, o9, _, _, _, e10, _, ⟨j0, j1, j2, j3, j4⟩, hf, _⟩ := hR2.at hz
        simp only [Option.some.injEq, Addr.mk.injEq] at e10
        obtain ⟨rfl, rfl, _⟩ := e10
        rw [Nat.zero_add] at j0 j1 j2 j3 j4
        exact ⟨⟨_, j0⟩, ⟨_, j1⟩, ⟨_, j2⟩, ⟨_, j3⟩, ⟨_, j4⟩, hf⟩
      obtain ⟨u0, k0⟩ := k0; obtain ⟨u1, k1⟩ := k1; obtain ⟨u2, k2⟩ := k2; obtain ⟨u3, k3⟩ := k3; obtain ⟨u4, k4⟩ := k4
      have hset := hR2.set5 (k := n) (by simp; omega) (m1.gr' (Gr.refl [] w2) (by simp) hbut) (m2.gr' (Gr.refl [] w2) (by simp) hbut) (m3.gr' (Gr.refl [] w2) (by simp) hbut)
      have e1 : (cs.take n ++ List.replicate (cs.length - n) (⟨0, [], [], 0, []⟩ : Con)).set n x = cs.take (n + 1) ++ List.replicate (cs.length - (n + 1)) (⟨0, [], [], 0, []⟩ : Con) := by
        have hl : (cs.take n).length = n := by rw [List.length_take]; omega
        rw [List.set_append_right _ _ (by omega), hl, Nat.sub_self, List.take_add_one, Hx.out]
        obtain ⟨k, hk⟩ : ∃ k, cs.length - n = k + 1 := ⟨cs.length - n - 1, by omega⟩
        rw [hk, List.replicate_succ, List.set_cons_zero, show cs.length - (n + 1) = k by omega]; simp
      rw [e1] at hset
      have hne : Gr [] w (((((w2.setCell ⟨w.heap.size, n * 5, none⟩ (.int .i64 x.kind)).setCell ⟨w.heap.size, n * 5 + 1, none⟩ (.slice vo2 x.vars.length vc2)).setCell ⟨w.heap.size, n * 5 + 2, none⟩ (.slice xo2 x.args.length xc2)).setCell ⟨w.heap.size, n * 5 + 3, none⟩ (.int .i64 x.bound)).setCell ⟨w.heap.size, n * 5 + 4, none⟩ (.slice ro2 x.rows.length rc2)) :=
        (((((Hg.out.trans hg2).setCell _ _ (.inr (Nat.le_refl _))).setCell _ _ (.inr (Nat.le_refl _))).setCell _ _ (.inr (Nat.le_refl _))).setCell _ _ (.inr (Nat.le_refl _))).setCell _ _ (.inr (Nat.le_refl _))
      have Hset := hid hset; have Hne := hid hne
      clear hset hne e1 hz hown2 hg2 hR2 m1 m2 m3 hbut
      go_wp2_with fail
      refine ⟨⟨n + 1, by omega, by go_num, Hset.out.gr' (Gr.refl [] _) (by simp) (fun b hb h => ⟨h.1, hb⟩), Hne.out⟩, by simp [intOf]; omega⟩
    · have e1 : cs.take n ++ List.replicate (cs.length - n) (⟨0, [], [], 0, []⟩ : Con) = cs := by rw [List.take_of_length_le (by omega), show cs.length - n = 0 by omega]; simp
      rw [e1] at hown
      have Hown := hid hown
      clear e1 hown
      go_wp2_with fail
      go_ret
      exact ⟨_, rfl, Hown.out, hg⟩

set_option maxRecDepth 100000 in
theorem toModel_c (m : Mod) (v : Value) (w : World) (hv : ModV [] w v m) (hs : m.Small) :
    Calls Tryz.prog 76 #[v] w fun e w' => ∃ v', e = .returned v' ∧ ModM (New w.heap.size w') w' v' m ∧ Gr [] w w' := by
  obtain ⟨dv, cv, rfl, hd, hc⟩ := hv
  have H1 := hid hd; have H2 := hid hc; have Hs := hid hs
  obtain ⟨xo, xc, rfl, -, -⟩ := hd
  obtain ⟨co, cc, rfl, -, -⟩ := hc
  clear hs
  go_enter Tryz.func76, Tryz.ntmps76
  go_wp2_with fail
  generalize hW0 : World.alloc (World.alloc (World.alloc _ _) _) _ = W0
  have h30 := heap3 w (.cells #[.slice xo m.doms.length xc, .slice co m.cons.length cc] 59) (.cells #[.slice none 0 0, .slice none 0 0] 26) (.cells #[.slice none 0 0, .slice none 0 0] 26)
  rw [hW0] at h30
  have hg0 : Gr [] w W0 := by rw [← hW0]; exact (((Gr.refl [] w).alloc _).alloc _).alloc _
  have hs0 : W0.heap.size = w.heap.size + 3 := by rw [← hW0]; simp
  obtain ⟨hbB, hbR, hbO⟩ := h30
  have HB := hid hbB; have HR := hid hbR; have HO : Hid (W0.heap[w.heap.size + 1 + 1]? = some (.cells #[.slice none 0 0, .slice none 0 0] 26 (0, 0))) := hid hbO
  have Hg0 := hid hg0
  clear hW0 hbB hbR hbO hg0
  have hcall := toIntS_c m.doms _ W0 (H1.out.gr Hg0.out) Hs.out.doms
  (with_reducible refine hcall.mono ?_)
  clear hcall
  rintro e w2 ⟨v2, rfl, hown2, hg2⟩
  obtain ⟨vo2, vc2, rfl, -, -⟩ := hown2.nums (S := []) (by simp)
  have flB := fld (hg2.obj HB.out (by simp)); have flO := fld (hg2.obj HO.out (by simp)); have ffO := fldF (hg2.obj HO.out (by simp))
  have HB2 := hid (hg2.obj HB.out (by simp)); have HR2 := hid (hg2.obj HR.out (by simp)); have HO2 := hid (hg2.obj HO.out (by simp))
  have Hg2 := hid (Hg0.out.trans hg2); have Hn2 := hid (hown2.numsM); have hs2 := hg2.size
  clear hown2 hg2
  go_wp2_with fail
  have hgs3 : Gr [w.heap.size + 1 + 1] w2 (w2.setCell ⟨w.heap.size + 1 + 1, 0, none⟩ (.slice vo2 m.doms.length vc2)) := (Gr.refl _ _).setCell _ _ (.inl (by simp))
  have hbO3 := block_cells (cur' := #[]) HO2.out 0 (.slice vo2 m.doms.length vc2)
  generalize hW3 : w2.setCell ⟨w.heap.size + 1 + 1, 0, none⟩ (.slice vo2 m.doms.length vc2) = W3 at hgs3 hbO3 ⊢
  have hg3 : Gr [] w W3 := Hg2.out.step hgs3 (fun i hi => .inr (by simp at hi; omega))
  have hs3 := hgs3.size
  have HR3 := hid (hgs3.obj HR2.out (by simp)); have HO3 := hid hbO3
  have Hg3 := hid hg3
  have Hn3 := hid (Hn2.out.gr' (M' := New W0.heap.size W3) hgs3 (by intro b hb h; have := h.1; simp at hb; omega) (fun b hb h => h.le (Nat.le_refl _) hgs3.size))
  clear hW3 hgs3 hg3 hbO3 flB flO ffO
  have hcall := toConstraintS_c m.cons _ W3 (H2.out.gr Hg3.out) Hs.out.cons Hs.out.con
  (with_reducible refine hcall.mono ?_)
  clear hcall
  rintro e w6 ⟨v6, rfl, hown6, hg6⟩
  obtain ⟨vo6, vc6, rfl, -, -⟩ := hown6.cons (S := []) (by simp)
  have flO := fld (hg6.obj HO3.out (by simp)); have ffO := fldF (hg6.obj HO3.out (by simp))
  have flR := fld (hg6.obj HR3.out (by simp)); have ffR := fldF (hg6.obj HR3.out (by simp))
  have HR6 := hid (hg6.obj HR3.out (by simp)); have HO6 := hid (hg6.obj HO3.out (by simp))
  have Hg6 := hid (Hg3.out.trans hg6); have Hr6 := hid hown6; have hs6 := hg6.size
  have Hn6 := hid (Hn3.out.gr' (M' := New W0.heap.size w6) hg6 (by simp) (fun b hb h => h.le (Nat.le_refl _) hg6.size))
  clear hown6 hg6
  go_wp2_with fail
  have hgE : Gr [w.heap.size + 1 + 1, w.heap.size + 1] w6 (((w6.setCell ⟨w.heap.size + 1 + 1, 1, none⟩ (.slice vo6 m.cons.length vc6)).setCell ⟨w.heap.size + 1, 0, none⟩ (.slice vo2 m.doms.length vc2)).setCell ⟨w.heap.size + 1, 1, none⟩ (.slice vo6 m.cons.length vc6)) :=
    (((Gr.refl _ _).setCell _ _ (.inl (by simp))).setCell _ _ (.inl (by simp))).setCell _ _ (.inl (by simp))
  have hbE := block_cells (cur' := #[]) (block_cells (cur' := #[]) (((Gr.refl [w.heap.size + 1 + 1] w6).setCell ⟨w.heap.size + 1 + 1, 1, none⟩ (.slice vo6 m.cons.length vc6) (.inl (by simp))).obj HR6.out (by simp)) 0 (.slice vo2 m.doms.length vc2)) 1 (.slice vo6 m.cons.length vc6)
  generalize hWE : (((w6.setCell ⟨w.heap.size + 1 + 1, 1, none⟩ (.slice vo6 m.cons.length vc6)).setCell ⟨w.heap.size + 1, 0, none⟩ (.slice vo2 m.doms.length vc2)).setCell ⟨w.heap.size + 1, 1, none⟩ (.slice vo6 m.cons.length vc6)) = WE at hgE hbE ⊢
  have flE := fld hbE
  have hsE := hgE.size
  refine bodyPost_ret (v := .agg #[.slice vo2 m.doms.length vc2, .slice vo6 m.cons.length vc6]) ?_ rfl ?_
  · simp [results, Tryz.results76, go_sem, flE]
  · refine ⟨_, rfl, ⟨_, _, rfl, ?_, ?_⟩, Hg6.out.step hgE (fun i hi => .inr (by simp at hi; omega))⟩
    · exact Hn6.out.gr' hgE (by intro b hb h; have := h.1; simp at hb; omega) (fun b hb h => h.le (by omega) hsE)
    · exact Hr6.out.gr' hgE (by intro b hb h; have := h.1; simp at hb; omega) (fun b hb h => h.le (by omega) hsE)
end Go.Proofs.YtihkeihnpiddoaaGreat
