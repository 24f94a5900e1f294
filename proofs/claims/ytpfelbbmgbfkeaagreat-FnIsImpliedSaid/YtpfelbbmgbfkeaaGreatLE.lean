/-
  Literals that came in as arguments: walks of the exact laws' conversions of lists of them: sizes, copies, comparisons, marks.
-/
import Derived.Test.YtpfelbbmgbfkeaaGreatLn
import Derived.Test.YtpfelbbmgbfkeaaGreatEE
set_option linter.unusedVariables false
set_option linter.unusedSimpArgs false
namespace Go.Proofs.YtpfelbbmgbfkeaaGreat
open Go.RowKit

theorem set3L_cell (w : World) (b p : Nat) (a0 a1 a2 : Value) (hc : ∀ j, j < 3 → ∃ u, w.cell? ⟨b, p + j, none⟩ = some u) :
    (∀ j x, [a0, a1, a2][j]? = some x → (((w.setCell ⟨b, p, none⟩ a0).setCell ⟨b, p + 1, none⟩ a1).setCell ⟨b, p + 2, none⟩ a2).cell? ⟨b, p + j, none⟩ = some x) ∧
    ∀ q : Addr, (q.block ≠ b ∨ q.off < p ∨ p + 3 ≤ q.off) → (((w.setCell ⟨b, p, none⟩ a0).setCell ⟨b, p + 1, none⟩ a1).setCell ⟨b, p + 2, none⟩ a2).cell? q = w.cell? q := by
  have ne : ∀ i j : Nat, i ≠ j → (⟨b, p + i, none⟩ : Addr) ≠ ⟨b, p + j, none⟩ := fun i j h e => h (Nat.add_left_cancel (congrArg Addr.off e))
  obtain ⟨u0, h0⟩ := hc 0 (by omega)
  obtain ⟨u1, h1⟩ := hc 1 (by omega)
  obtain ⟨u2, h2⟩ := hc 2 (by omega)
  have e0 : (⟨b, p, none⟩ : Addr) = ⟨b, p + 0, none⟩ := rfl
  rw [e0]
  have oth : ∀ (W : World) (i j : Nat) (v : Value), i ≠ j → (W.setCell ⟨b, p + i, none⟩ v).cell? ⟨b, p + j, none⟩ = W.cell? ⟨b, p + j, none⟩ := fun W i j v h => World.cell?_setCell_other _ _ _ _ (ne i j h)
  constructor
  · intro j x hj
    match j, hj with
    | 0, hj => cases hj; rw [oth _ 2 0 _ (by omega), oth _ 1 0 _ (by omega)]; exact World.cell?_setCell_same _ _ _ h0
    | 1, hj => cases hj; rw [oth _ 2 1 _ (by omega)]; exact World.cell?_setCell_same _ _ _ ((oth _ 0 1 _ (by omega)).trans h1)
    | 2, hj => cases hj; exact World.cell?_setCell_same _ _ _ (by rw [oth _ 1 2 _ (by omega), oth _ 0 2 _ (by omega)]; exact h2)
    | j + 3, hj => simp at hj
  · intro q hq
    have o2 : ∀ (W : World) (i : Nat) (v : Value), i < 3 → (W.setCell ⟨b, p + i, none⟩ v).cell? q = W.cell? q := fun W i v hi => World.cell?_setCell_other _ _ _ _ (by
      rintro rfl
      rcases hq with h | h | h
      · exact h rfl
      · simp at h; omega
      · simp at h; omega)
    rw [o2 _ 2 _ (by omega), o2 _ 1 _ (by omega), o2 _ 0 _ (by omega)]
theorem LitsM.set3 {M : Nat → Prop} {w : World} {b o n cap : Nat} {ls : Cls} (h : LitsM M w (.slice (some ⟨b, o, none⟩) n cap) ls) {k : Nat} (hk : k < ls.length) (x : Lit) :
    LitsM M (((w.setCell ⟨b, o + k * 3, none⟩ (.int .i64 x.var)).setCell ⟨b, o + k * 3 + 1, none⟩ (.int .i64 x.val)).setCell ⟨b, o + k * 3 + 2, none⟩ (.bool x.neg)) (.slice (some ⟨b, o, none⟩) n cap) (ls.set k x) := by
  obtain ⟨ao, cap', e, hl, h⟩ := h
  cases e
  obtain ⟨c0, hc0⟩ := get_some hk
  obtain ⟨b', o', e1, hm0, ⟨k0, k1, k2⟩, hf0⟩ := h k c0 hc0
  cases e1
  obtain ⟨s1, s2⟩ := set3L_cell w b (o + k * 3) (.int .i64 x.var) (.int .i64 x.val) (.bool x.neg) (fun j hj => by
    match j, hj with
    | 0, _ => exact ⟨_, k0⟩
    | 1, _ => exact ⟨_, k1⟩
    | 2, _ => exact ⟨_, k2⟩
    | j + 3, hj => omega)
  obtain ⟨W, hW⟩ : ∃ W, W = ((w.setCell ⟨b, o + k * 3, none⟩ (.int .i64 x.var)).setCell ⟨b, o + k * 3 + 1, none⟩ (.int .i64 x.val)).setCell ⟨b, o + k * 3 + 2, none⟩ (.bool x.neg) := ⟨_, rfl⟩
  have hfr : ∀ a, W.frozen? a = w.frozen? a := fun a => by rw [hW]; simp
  rw [← hW] at s1 s2 ⊢
  refine ⟨some ⟨b, o, none⟩, cap, by simp, by simpa using hl, fun i c' hi => ?_⟩
  by_cases hik : k = i
  · subst hik
    rw [List.getElem?_set_self hk] at hi
    cases hi
    exact ⟨b, o, rfl, hm0, ⟨s1 0 _ rfl, s1 1 _ rfl, s1 2 _ rfl⟩, fun r hr => (hfr _).trans (hf0 r hr)⟩
  · rw [List.getElem?_set_ne hik] at hi
    obtain ⟨b', o', e1, hm, ⟨j0, j1, j2⟩, hf⟩ := h i c' hi
    cases e1
    exact ⟨b, o, rfl, hm, ⟨(s2 _ (by right; dsimp only; omega)).trans j0, (s2 _ (by right; dsimp only; omega)).trans j1, (s2 _ (by right; dsimp only; omega)).trans j2⟩, fun r hr => (hfr _).trans (hf r hr)⟩
theorem litsM_made {w : World} {B g n : Nat} {e : TypeId} (h : w.ownsRow B e 3 (.slice (some ⟨g, 0, none⟩) n n) n (madeCells #[.int .i64 0, .int .i64 0, .bool false] (n * 3)).toList) (hn : n ≤ 1000000000) :
    LitsM (New B w) w (.slice (some ⟨g, 0, none⟩) n n) (List.replicate n ⟨0, 0, false⟩) := by
  rcases h.2 with ⟨e1, _⟩ | ⟨g', cap, cur, e1, hB, hg, h6, h7, h8, h9⟩
  · cases e1
  · cases e1
    refine ⟨_, _, by rw [List.length_replicate], by rw [List.length_replicate]; exact ⟨Nat.le_refl _, by omega, by simp⟩, fun i r hi => ?_⟩
    have hil : i < n := by have := (List.getElem?_eq_some_iff.1 hi).1; simpa using this
    rw [List.getElem?_replicate, if_pos hil] at hi
    cases hi
    have hcell : ∀ j, j < 3 → w.cell? ⟨g, 0 + i * 3 + j, none⟩ = [Value.int .i64 0, .int .i64 0, .bool false][j]? := by
      intro j hj
      have h3 := congrArg (fun l => l[i * 3 + j]?) h9
      simp only [List.getElem?_take, show i * 3 + j < n * 3 by omega, if_true, madeCells, Array.toList_map, List.getElem?_map, Array.toList_range, List.getElem?_range] at h3
      simp only [World.cell?, hg, Nat.zero_add]
      have hm : (i * 3 + j) % 3 = j := by omega
      have e2 : cur[i * 3 + j]? = (cur.toList)[i * 3 + j]? := by simp
      simp only [Option.isSome_none, Bool.false_eq_true, if_false]
      rw [e2, h3]
      match j, hj with
      | 0, _ => simp
      | 1, _ => simp [hm]
      | 2, _ => simp [hm]
      | j + 3, hj => omega
    exact ⟨g, 0, rfl, ⟨hB, lt_of_block hg⟩, ⟨hcell 0 (by omega), hcell 1 (by omega), hcell 2 (by omega)⟩, fun r _ => by simp [World.frozen?, hg]⟩
theorem LitsV.open {S : List Nat} {w : World} {v : Value} {ls : Cls} (h : LitsV S w v ls) : ∃ ao cap, v = .slice ao ls.length cap ∧ (ls.length ≤ cap ∧ cap ≤ 9223372036854775807) ∧ LitsV S w (.slice ao ls.length cap) ls := by
  have h' := h
  obtain ⟨ao, cap, rfl, ⟨h1, h2, -⟩, -⟩ := h
  exact ⟨ao, cap, rfl, ⟨h1, h2⟩, h'⟩


theorem szLiteralS_c (xs : Cls) (left : Int) (v : Value) (w : World) (hv : LitsV [] w v xs) (hl : 0 ≤ left ∧ left ≤ 2000000) :
    Calls Tryz.prog 37 #[v, .int .i64 left] w fun e w' => e = .returned (.int .i64 (cut left xs.length)) ∧ w' = w := by
  obtain ⟨ao, cap, rfl, ⟨h1, h2, _⟩, _⟩ := hv
  by_cases hlt : left < (xs.length : Int)
  · rw [cut_neg hlt]
    go_enter Tryz.func37, Tryz.ntmps37
    go_wp2_with fail
    go_ret
    exact ⟨rfl, rfl⟩
  · rw [cut_pos (by omega)]
    go_enter Tryz.func37, Tryz.ntmps37
    go_wp2_with fail
    go_ret
    exact ⟨ret_int (by go_num), rfl⟩

/-! ### Copies -/
theorem infoL3 : (Tryz.prog.info? 31).map (fun i => (i.zero, i.size, i.bytes)) = some (some (.agg #[.int .i64 0, .int .i64 0, .bool false]), 3, 24) := by kernel_rfl

set_option maxRecDepth 100000 in
theorem toLiteral_c (l : Lit) (w : World) :
    Calls Tryz.prog 24 #[.agg #[.int .i64 l.var, .int .i64 l.val, .bool l.neg]] w fun e w' => e = .returned (.agg #[.int .i64 l.var, .int .i64 l.val, .bool l.neg]) ∧ Gr [] w w' := by
  go_enter Tryz.func24, Tryz.ntmps24
  go_wp2_with fail
  generalize hWE : World.alloc (World.alloc (World.alloc _ _) _) _ = WE
  have h3 := heap3 w (.cells #[.int .i64 l.var, .int .i64 l.val, .bool l.neg] 49) (.cells #[.int .i64 l.var, .int .i64 l.val, .bool l.neg] 31) (.cells #[.int .i64 l.var, .int .i64 l.val, .bool l.neg] 31)
  have hg : Gr [] w WE := by rw [← hWE]; exact (((Gr.refl [] w).alloc _).alloc _).alloc _
  rw [hWE] at h3
  have flE := fld h3.2.1
  refine bodyPost_ret (v := .agg #[.int .i64 l.var, .int .i64 l.val, .bool l.neg]) ?_ rfl ⟨rfl, hg⟩
  simp [results, Tryz.results24, go_sem, flE]


set_option maxRecDepth 100000 in
theorem toLiteralS_c (cs : Cls) (v : Value) (w : World) (hv : LitsV [] w v cs) (hl : cs.length ≤ 2000000) :
    Calls Tryz.prog 40 #[v] w fun e w' => ∃ v', e = .returned v' ∧ LitsM (New w.heap.size w') w' v' cs ∧ Gr [] w w' := by
  obtain ⟨ao, cap, rfl, ⟨h1, h2⟩, hcc⟩ := hv.open
  have Hc := hid hcc
  clear hv hcc
  go_enter Tryz.func40, Tryz.ntmps40
  go_wp2_with (at_make; refine wp_mkG rfl _ _ 56 rfl 31 (.agg #[.int .i64 0, .int .i64 0, .bool false]) 3 24 infoL3 (by omega) Tryz.underlying56 cs.length rfl rfl (by omega) ?_; intro w1 hown1 hg1; have HO1 := hid (litsM_made hown1 (by omega)); have HG1 := hid hg1; clear hown1 hg1)
  go_loopw [4] (fun i wr => ∃ n : Nat, n ≤ cs.length ∧ i = .int .i64 n ∧ LitsM (New w.heap.size wr) wr (.slice (some ⟨w.heap.size, 0, none⟩) cs.length cs.length) (cs.take n ++ List.replicate (cs.length - n) (⟨0, 0, false⟩ : Lit)) ∧ Gr [] w wr) (fun i _ => cs.length - (intOf i).toNat)
  case atStart => exact ⟨0, Nat.zero_le _, rfl, by simpa using HO1.out, HG1.out⟩
  case round =>
    obtain ⟨n, hn, rfl, hown, hg⟩ := hrel
    by_cases hlt : n < cs.length
    · obtain ⟨x, hx⟩ := get_some hlt
      obtain ⟨b, o, rfl, _, c0, c1, c2⟩ := (Hc.out.gr hg).at hx
      have Hown := hid hown; have Hg := hid hg; have Hx := hid hx
      clear hown hg hx
      go_wp2_with fail
      have hcall := toLiteral_c x wr
      (with_reducible refine hcall.mono ?_)
      clear hcall
      rintro e w2 ⟨rfl, hg2⟩
      have hR2 := Hown.out.gr' (M' := New w.heap.size w2) hg2 (by simp) (fun b hb h => h.le (Nat.le_refl _) hg2.size)
      obtain ⟨z, hz⟩ := get_some (xs := cs.take n ++ List.replicate (cs.length - n) (⟨0, 0, false⟩ : Lit)) (k := n) (by simp; omega)
      obtain ⟨k0, k1, k2, hf⟩ : (∃ u, w2.cell? ⟨w.heap.size, n * 3, none⟩ = some u) ∧ (∃ u, w2.cell? ⟨w.heap.size, n * 3 + 1, none⟩ = some u) ∧ (∃ u, w2.cell? ⟨w.heap.size, n * 3 + 2, none⟩ = some u) ∧ ∀ r, r < 3 → w2.frozen? ⟨w.heap.size, n * 3 + r, none⟩ = false := by
        obtain ⟨b9, o9, e10, _, ⟨j0, j1, j2⟩, hf⟩ := hR2.at hz
        simp only [Option.some.injEq, Addr.mk.injEq] at e10
        obtain ⟨rfl, rfl, _⟩ := e10
        rw [Nat.zero_add] at j0 j1 j2 hf
        exact ⟨⟨_, j0⟩, ⟨_, j1⟩, ⟨_, j2⟩, hf⟩
      obtain ⟨u0, k0⟩ := k0; obtain ⟨u1, k1⟩ := k1; obtain ⟨u2, k2⟩ := k2
      have f0 := hf 0 (by omega); have f1 := hf 1 (by omega); have f2 := hf 2 (by omega)
      rw [Nat.add_zero] at f0
      have hset := hR2.set3 (k := n) (by simp; omega) x
      rw [Nat.zero_add] at hset
      have e1 : (cs.take n ++ List.replicate (cs.length - n) (⟨0, 0, false⟩ : Lit)).set n x = cs.take (n + 1) ++ List.replicate (cs.length - (n + 1)) (⟨0, 0, false⟩ : Lit) := by
        have hl : (cs.take n).length = n := by rw [List.length_take]; omega
        rw [List.set_append_right _ _ (by omega), hl, Nat.sub_self, List.take_add_one, Hx.out]
        obtain ⟨k, hk⟩ : ∃ k, cs.length - n = k + 1 := ⟨cs.length - n - 1, by omega⟩
        rw [hk, List.replicate_succ, List.set_cons_zero, show cs.length - (n + 1) = k by omega]; simp
      rw [e1] at hset
      have hne : Gr [] w (((w2.setCell ⟨w.heap.size, n * 3, none⟩ (.int .i64 x.var)).setCell ⟨w.heap.size, n * 3 + 1, none⟩ (.int .i64 x.val)).setCell ⟨w.heap.size, n * 3 + 2, none⟩ (.bool x.neg)) :=
        (((Hg.out.trans hg2).setCell _ _ (.inr (Nat.le_refl _))).setCell _ _ (.inr (Nat.le_refl _))).setCell _ _ (.inr (Nat.le_refl _))
      have Hset := hid hset; have Hne := hid hne
      clear hset hne e1 hz hg2 hR2 hf
      go_wp2_with fail
      refine ⟨⟨n + 1, by omega, by go_num, Hset.out.gr' (Gr.refl [] _) (by simp) (fun b hb h => ⟨h.1, hb⟩), Hne.out⟩, by simp [intOf]; omega⟩
    · have e1 : cs.take n ++ List.replicate (cs.length - n) (⟨0, 0, false⟩ : Lit) = cs := by rw [List.take_of_length_le (by omega), show cs.length - n = 0 by omega]; simp
      rw [e1] at hown
      have Hown := hid hown
      clear e1 hown
      go_wp2_with fail
      go_ret
      exact ⟨_, rfl, Hown.out, hg⟩

/-! ### Comparisons -/

set_option maxRecDepth 100000 in
theorem eqLiteral_t (s : Lit) (w : World) :
    Calls Tryz.prog 106 #[.agg #[.int .i64 s.var, .int .i64 s.val, .bool s.neg], .agg #[.int .i64 s.var, .int .i64 s.val, .bool s.neg]] w fun e w' => e = .returned (.bool true) ∧ Gr [] w w' := by
  have hg0 : Gr [] w ((w.alloc (.cells #[.int .i64 s.var, .int .i64 s.val, .bool s.neg] 31)).alloc (.cells #[.int .i64 s.var, .int .i64 s.val, .bool s.neg] 31)) := ((Gr.refl _ _).alloc _).alloc _
  have hb1 : ((w.alloc (.cells #[.int .i64 s.var, .int .i64 s.val, .bool s.neg] 31)).alloc (.cells #[.int .i64 s.var, .int .i64 s.val, .bool s.neg] 31)).heap[w.heap.size]? = some (.cells #[.int .i64 s.var, .int .i64 s.val, .bool s.neg] 31 (0, 0)) := (heap_alloc_old _ _ (by simp)).trans (heap_alloc_new _ _)
  have hb2 : ((w.alloc (.cells #[.int .i64 s.var, .int .i64 s.val, .bool s.neg] 31)).alloc (.cells #[.int .i64 s.var, .int .i64 s.val, .bool s.neg] 31)).heap[w.heap.size + 1]? = some (.cells #[.int .i64 s.var, .int .i64 s.val, .bool s.neg] 31 (0, 0)) := by
    have := heap_alloc_new (w.alloc (.cells #[.int .i64 s.var, .int .i64 s.val, .bool s.neg] 31)) (.cells #[.int .i64 s.var, .int .i64 s.val, .bool s.neg] 31)
    rwa [World.size_alloc] at this
  have Hg0 := hid hg0
  have f1 := fld hb1; have f2 := fld hb2
  clear hg0 hb1 hb2
  go_enter Tryz.func106, Tryz.ntmps106
  go_wp2_with fail
  go_ret
  exact ⟨rfl, Hg0.out⟩


set_option maxRecDepth 100000 in
theorem eqLiteralS_t (cs : Cls) (vx vy : Value) (w : World) (hx : LitsV [] w vx cs) (hy : LitsV [] w vy cs) :
    Calls Tryz.prog 43 #[vx, vy] w fun e w' => e = .returned (.bool true) ∧ Gr [] w w' := by
  have Hx := hid hx; have Hy := hid hy
  obtain ⟨xo, xc, rfl, ⟨hx1, hx2, _⟩, _⟩ := hx
  obtain ⟨yo, yc, rfl, ⟨hy1, hy2, _⟩, _⟩ := hy
  go_enter Tryz.func43, Tryz.ntmps43
  go_wp2_with fail
  go_loopw [5] (fun i wr => ∃ n : Nat, n ≤ cs.length ∧ i = .int .i64 n ∧ Gr [] w wr) (fun i _ => cs.length - (intOf i).toNat)
  case atStart => exact ⟨0, Nat.zero_le _, rfl, Gr.refl _ _⟩
  case round =>
    obtain ⟨n, hn, rfl, hg⟩ := hrel
    by_cases hlt : n < cs.length
    · obtain ⟨x, hx⟩ := get_some hlt
      obtain ⟨b, o, rfl, _, c0, c1, c2⟩ := (Hx.out.gr hg).at hx
      obtain ⟨b', o', rfl, _, d0, d1, d2⟩ := (Hy.out.gr hg).at hx
      have e0 : ∀ k : GrW [] wr, k.val.cell? ⟨b, o + n * 3, none⟩ = some (.int .i64 x.var) := fun k => k.gr.cell c0 (by simp)
      have e1 : ∀ k : GrW [] wr, k.val.cell? ⟨b, o + n * 3 + 1, none⟩ = some (.int .i64 x.val) := fun k => k.gr.cell c1 (by simp)
      have e2 : ∀ k : GrW [] wr, k.val.cell? ⟨b, o + n * 3 + 2, none⟩ = some (.bool x.neg) := fun k => k.gr.cell c2 (by simp)
      have e0' : ∀ k : GrW [] wr, k.val.cell? ⟨b', o' + n * 3, none⟩ = some (.int .i64 x.var) := fun k => k.gr.cell d0 (by simp)
      have e1' : ∀ k : GrW [] wr, k.val.cell? ⟨b', o' + n * 3 + 1, none⟩ = some (.int .i64 x.val) := fun k => k.gr.cell d1 (by simp)
      have e2' : ∀ k : GrW [] wr, k.val.cell? ⟨b', o' + n * 3 + 2, none⟩ = some (.bool x.neg) := fun k => k.gr.cell d2 (by simp)
      have Hg := hid hg
      clear hx hg c0 c1 c2 d0 d1 d2
      go_wp2_with fail
      refine wp_region_gr [] _ (by kernel_rfl) (by kernel_rfl) (Gr.refl _ _) ?_
      repeat (go_big_quiet_step ((go_at_call 106; exact Calls.gr_of (eqLiteral_t x _))))
      refine wpQuiet_nil ?_
      rintro w7 ⟨n7, hw7⟩
      have hg7 : Gr [] wr w7 := hw7 ▸ n7.gr
      clear hw7 n7 e0 e1 e2 e0' e1' e2'
      go_wp2_with fail
      exact ⟨⟨n + 1, by omega, by go_num, Hg.out.trans hg7⟩, by simp [intOf]; omega⟩
    · go_wp2_with fail
      go_ret
      exact ⟨rfl, hg⟩

/-! ### Marks -/
def mkL (k : Int) : Lit := ⟨k, k + 1, (k + 1 + 1) % 3 == 0⟩
def mkLs (k : Int) (n : Nat) : Cls := (List.range n).map fun i : Nat => mkL (k + 3 * (i : Int))
theorem mkLs_len (k : Int) (n : Nat) : (mkLs k n).length = n := by simp [mkLs]
theorem mkLs_succ (k : Int) (n : Nat) : mkLs k (n + 1) = mkLs k n ++ [mkL (k + 3 * (n : Int))] := by unfold mkLs; rw [List.range_succ, List.map_append]; rfl
theorem mkLs_get (k : Int) (n j : Nat) (h : j < n) : (mkLs k n)[j]? = some (mkL (k + 3 * (j : Int))) := by unfold mkLs; rw [List.getElem?_map, List.getElem?_range h]; rfl

set_option maxRecDepth 100000 in
theorem markLiteralS_c (M : Nat → Prop) (cs : Cls) (k : Int) (v : Value) (w : World) (hv : LitsM M w v cs) (hk : 0 ≤ k ∧ k ≤ 1000000000) (hl : cs.length ≤ 10000000) :
    Calls Tryz.prog 111 #[v, .int .i64 k] w fun e w' => e = .returned (.int .i64 (k + 3 * cs.length)) ∧ LitsM M w' v (mkLs k cs.length) ∧ (∀ S : List Nat, (∀ b, M b → b ∈ S) → Gr S w w') := by
  have Hv := hid hv
  obtain ⟨ao, cap, rfl, ⟨h1, h2, _⟩, _⟩ := hv
  go_enter Tryz.func111, Tryz.ntmps111
  go_wp2_with fail
  go_loopw [1, 5] (fun kv i wr => ∃ n : Nat, n ≤ cs.length ∧ i = .int .i64 n ∧ kv = .int .i64 (k + 3 * n) ∧ LitsM M wr (.slice ao cs.length cap) (mkLs k n ++ cs.drop n) ∧ (∀ S : List Nat, (∀ b, M b → b ∈ S) → Gr S w wr)) (fun _ i _ => cs.length - (intOf i).toNat)
  case atStart => exact ⟨0, Nat.zero_le _, rfl, by simp, by simpa [mkLs] using Hv.out, fun S _ => Gr.refl _ _⟩
  case round =>
    obtain ⟨n, hn, rfl, rfl, hw, hg⟩ := hrel
    by_cases hlt : n < cs.length
    · obtain ⟨x, hx⟩ := get_some hlt
      have hx' : (mkLs k n ++ cs.drop n)[n]? = some x := by rw [List.getElem?_append_right (by rw [mkLs_len]; exact Nat.le_refl _), mkLs_len, Nat.sub_self, List.getElem?_drop, Nat.add_zero, hx]
      obtain ⟨b, o, rfl, hm, ⟨c0, c1, c2⟩, hf⟩ := hw.at hx'
      have hset := hw.set3 (k := n) (by simp [mkLs_len]; omega) (mkL (k + 3 * n))
      have e1 : (mkLs k n ++ cs.drop n).set n (mkL (k + 3 * n)) = mkLs k (n + 1) ++ cs.drop (n + 1) := by
        rw [List.set_append_right _ _ (by rw [mkLs_len]; exact Nat.le_refl _), mkLs_len, Nat.sub_self, drop_cons hx, List.set_cons_zero, mkLs_succ]; simp
      rw [e1] at hset
      have f0 := hf 0 (by omega); have f1 := hf 1 (by omega); have f2 := hf 2 (by omega)
      rw [Nat.add_zero] at f0
      have Hset := hid hset; have Hg := hid hg; have Hm := hid hm
      clear hset e1 hx hx' hw hg hm hf
      go_wp2_with fail
      exact ⟨⟨n + 1, by omega, by go_num, by go_num, Hset.out, fun S hS => (((Hg.out S hS).setCell _ _ (.inl (hS _ Hm.out))).setCell _ _ (.inl (hS _ Hm.out))).setCell _ _ (.inl (hS _ Hm.out))⟩, by simp [intOf]; omega⟩
    · have hnl : n = cs.length := by omega
      have e1 : mkLs k n ++ cs.drop n = mkLs k cs.length := by rw [drop_end (by omega), hnl]; simp
      rw [e1] at hw
      have Hw := hid hw; have Hg := hid hg; have Hnl := hid hnl
      clear hw hg e1 hnl
      go_wp2_with fail
      go_ret
      exact ⟨ret_int (by rw [Hnl.out]), Hw.out, Hg.out⟩


set_option maxRecDepth 100000 in
theorem heldLiteralS_t (n : Nat) (k : Int) (v : Value) (w : World) (hv : LitsV [] w v (mkLs k n)) (hk : 0 ≤ k ∧ k ≤ 1000000000) (hl : n ≤ 10000000) :
    Calls Tryz.prog 112 #[v, .int .i64 k] w fun e w' => e = .returned (.int .i64 (k + 3 * n)) ∧ Gr [] w w' := by
  have Hv := hid hv
  obtain ⟨ao, cap, rfl, ⟨h1, h2, _⟩, _⟩ := hv
  rw [mkLs_len] at h1 Hv ⊢
  go_enter Tryz.func112, Tryz.ntmps112
  go_wp2_with fail
  go_loopw [1, 5] (fun kv i wr => ∃ j : Nat, j ≤ n ∧ i = .int .i64 j ∧ kv = .int .i64 (k + 3 * j) ∧ Gr [] w wr) (fun _ i _ => n - (intOf i).toNat)
  case atStart => exact ⟨0, Nat.zero_le _, rfl, by simp, Gr.refl _ _⟩
  case round =>
    obtain ⟨j, hj, rfl, rfl, hg⟩ := hrel
    by_cases hlt : j < n
    · obtain ⟨b, o, rfl, _, c0, c1, c2⟩ := (Hv.out.gr hg).at (mkLs_get k n j hlt)
      simp only [mkL] at c0 c1 c2
      go_wp2_with fail
      exact ⟨⟨j + 1, by omega, by go_num, by go_num, hg⟩, by simp [intOf]; omega⟩
    · have hnl : j = n := by omega
      have Hnl := hid hnl
      clear hnl
      go_wp2_with fail
      go_ret
      exact ⟨ret_int (by rw [Hnl.out]), hg⟩

end Go.Proofs.YtpfelbbmgbfkeaaGreat
