/-
  Literals that came in as arguments: walks of the exact laws' conversions of lists of them: sizes, copies, comparisons, marks.
  How lists of literals that came in as an argument are read.
  Lists of clauses that came in as an argument: how they are read; walks of the exact laws' conversions of them.
  Clauses that lie each in a block of its own: marks upon them; own lists of them.
-/
import Derived.Test.YtlekngkcifgonaaGreatYLnLo
import Derived.Test.YtlekngkcifgonaaGreatYEE
import Derived.Test.YtlekngkcifgonaaGreatYEO
import Derived.Lib.SmallJoins
import Derived.Deep.Slices
import Derived.ChangeArms
import Derived.Test.YtlekngkcifgonaaGreatYEG
import Derived.Test.YtlekngkcifgonaaGreatYSy1ToRe
set_option linter.unusedVariables false
set_option linter.unusedSimpArgs false
namespace Go.Proofs.YtlekngkcifgonaaGreat
open Go.RowKit

theorem set3L_cell (w : World) (b p : Nat) (a0 a1 a2 : Value) (hc : ∀ j, j < 3 → ∃ u, w.cell? ⟨b, p + j, none⟩ = some u) :
    (∀ j x, [a0, a1, a2][j]? = some x → (((w.setCell ⟨b, p, none⟩ a0).setCell ⟨b, p + 1, none⟩ a1).setCell ⟨b, p + 2, none⟩ a2).cell? ⟨b, p + j, none⟩ = some x) ∧
    ∀ q : Addr, (q.block ≠ b ∨ q.off < p ∨ p + 3 ≤ q.off) → (((w.setCell ⟨b, p, none⟩ a0).setCell ⟨b, p + 1, none⟩ a1).setCell ⟨b, p + 2, none⟩ a2).cell? q = w.cell? q := by
  have ne : ∀ i j : Nat, i ≠ j → (⟨b, p + i, none⟩ : Addr) ≠ ⟨b, p + j, none⟩ := fun i j h e => h (Nat.add_left_cancel (congrArg Addr.off e))
  obtain ⟨u0, h0⟩ := hc 0 (by omega)
  obtain ⟨u1, h1⟩ := hc 1 (by omega)
  obtain ⟨u2, h2⟩ := hc 2 (by omega)
  have e0 : (⟨b, p, none⟩ : Addr) = ⟨b, p + 0, none⟩ := rfl
  rw [e0]
  have oth : ∀ (W : World) (i j : Nat) (v : Value), i ≠ j → (W.setCell ⟨b, p + i, none⟩ v).cell? ⟨b, p + j, none⟩ = W.cell? ⟨b, p + j, none⟩ := fun W i j v h => World.cell?_setCell_other _ _ _ _ (ne i j h)
  constructor
  · intro j x hj
    match j, hj with
    | 0, hj => cases hj; rw [oth _ 2 0 _ (by omega), oth _ 1 0 _ (by omega)]; exact World.cell?_setCell_same _ _ _ h0
    | 1, hj => cases hj; rw [oth _ 2 1 _ (by omega)]; exact World.cell?_setCell_same _ _ _ ((oth _ 0 1 _ (by omega)).trans h1)
    | 2, hj => cases hj; exact World.cell?_setCell_same _ _ _ (by rw [oth _ 1 2 _ (by omega), oth _ 0 2 _ (by omega)]; exact h2)
    | j + 3, hj => simp at hj
  · intro q hq
    have o2 : ∀ (W : World) (i : Nat) (v : Value), i < 3 → (W.setCell ⟨b, p + i, none⟩ v).cell? q = W.cell? q := fun W i v hi => World.cell?_setCell_other _ _ _ _ (by
      rintro rfl
      rcases hq with h | h | h
      · exact h rfl
      · simp at h; omega
      · simp at h; omega)
    rw [o2 _ 2 _ (by omega), o2 _ 1 _ (by omega), o2 _ 0 _ (by omega)]
theorem LitsM.set3 {M : Nat → Prop} {w : World} {b o n cap : Nat} {ls : Cls} (h : LitsM M w (.slice (some ⟨b, o, none⟩) n cap) ls) {k : Nat} (hk : k < ls.length) (x : Lit) :
    LitsM M (((w.setCell ⟨b, o + k * 3, none⟩ (.int .i64 x.var)).setCell ⟨b, o + k * 3 + 1, none⟩ (.int .i64 x.val)).setCell ⟨b, o + k * 3 + 2, none⟩ (.bool x.neg)) (.slice (some ⟨b, o, none⟩) n cap) (ls.set k x) := by
  obtain ⟨ao, cap', e, hl, h⟩ := h
  cases e
  obtain ⟨c0, hc0⟩ := get_some hk
  obtain ⟨b', o', e1, hm0, ⟨k0, k1, k2⟩, hf0⟩ := h k c0 hc0
  cases e1
  obtain ⟨s1, s2⟩ := set3L_cell w b (o + k * 3) (.int .i64 x.var) (.int .i64 x.val) (.bool x.neg) (fun j hj => by
    match j, hj with
    | 0, _ => exact ⟨_, k0⟩
    | 1, _ => exact ⟨_, k1⟩
    | 2, _ => exact ⟨_, k2⟩
    | j + 3, hj => omega)
  obtain ⟨W, hW⟩ : ∃ W, W = ((w.setCell ⟨b, o + k * 3, none⟩ (.int .i64 x.var)).setCell ⟨b, o + k * 3 + 1, none⟩ (.int .i64 x.val)).setCell ⟨b, o + k * 3 + 2, none⟩ (.bool x.neg) := ⟨_, rfl⟩
  have hfr : ∀ a, W.frozen? a = w.frozen? a := fun a => by rw [hW]; simp
  rw [← hW] at s1 s2 ⊢
  refine ⟨some ⟨b, o, none⟩, cap, by simp, by simpa using hl, fun i c' hi => ?_⟩
  by_cases hik : k = i
  · subst hik
    rw [List.getElem?_set_self hk] at hi
    cases hi
    exact ⟨b, o, rfl, hm0, ⟨s1 0 _ rfl, s1 1 _ rfl, s1 2 _ rfl⟩, fun r hr => (hfr _).trans (hf0 r hr)⟩
  · rw [List.getElem?_set_ne hik] at hi
    obtain ⟨b', o', e1, hm, ⟨j0, j1, j2⟩, hf⟩ := h i c' hi
    cases e1
    exact ⟨b, o, rfl, hm, ⟨(s2 _ (by right; dsimp only; omega)).trans j0, (s2 _ (by right; dsimp only; omega)).trans j1, (s2 _ (by right; dsimp only; omega)).trans j2⟩, fun r hr => (hfr _).trans (hf r hr)⟩
theorem litsM_made {w : World} {B g n : Nat} {e : TypeId} (h : w.ownsRow B e 3 (.slice (some ⟨g, 0, none⟩) n n) n (madeCells #[.int .i64 0, .int .i64 0, .bool false] (n * 3)).toList) (hn : n ≤ 1000000000) :
    LitsM (New B w) w (.slice (some ⟨g, 0, none⟩) n n) (List.replicate n ⟨0, 0, false⟩) := by
  rcases h.2 with ⟨e1, _⟩ | ⟨g', cap, cur, e1, hB, hg, h6, h7, h8, h9⟩
  · cases e1
  · cases e1
    refine ⟨_, _, by rw [List.length_replicate], by rw [List.length_replicate]; exact ⟨Nat.le_refl _, by omega, by simp⟩, fun i r hi => ?_⟩
    have hil : i < n := by have := (List.getElem?_eq_some_iff.1 hi).1; simpa using this
    rw [List.getElem?_replicate, if_pos hil] at hi
    cases hi
    have hcell : ∀ j, j < 3 → w.cell? ⟨g, 0 + i * 3 + j, none⟩ = [Value.int .i64 0, .int .i64 0, .bool false][j]? := by
      intro j hj
      have h3 := congrArg (fun l => l[i * 3 + j]?) h9
      simp only [List.getElem?_take, show i * 3 + j < n * 3 by omega, if_true, madeCells, Array.toList_map, List.getElem?_map, Array.toList_range, List.getElem?_range] at h3
      simp only [World.cell?, hg, Nat.zero_add]
      have hm : (i * 3 + j) % 3 = j := by omega
      have e2 : cur[i * 3 + j]? = (cur.toList)[i * 3 + j]? := by simp
      simp only [Option.isSome_none, Bool.false_eq_true, if_false]
      rw [e2, h3]
      match j, hj with
      | 0, _ => simp
      | 1, _ => simp [hm]
      | 2, _ => simp [hm]
      | j + 3, hj => omega
    exact ⟨g, 0, rfl, ⟨hB, lt_of_block hg⟩, ⟨hcell 0 (by omega), hcell 1 (by omega), hcell 2 (by omega)⟩, fun r _ => by simp [World.frozen?, hg]⟩
theorem LitsV.open {S : List Nat} {w : World} {v : Value} {ls : Cls} (h : LitsV S w v ls) : ∃ ao cap, v = .slice ao ls.length cap ∧ (ls.length ≤ cap ∧ cap ≤ 9223372036854775807) ∧ LitsV S w (.slice ao ls.length cap) ls := by
  have h' := h
  obtain ⟨ao, cap, rfl, ⟨h1, h2, -⟩, -⟩ := h
  exact ⟨ao, cap, rfl, ⟨h1, h2⟩, h'⟩


theorem szLiteralS_c (xs : Cls) (left : Int) (v : Value) (w : World) (hv : LitsV [] w v xs) (hl : 0 ≤ left ∧ left ≤ 2000000) :
    Calls Tryz.prog 145 #[v, .int .i64 left] w fun e w' => e = .returned (.int .i64 (cut left xs.length)) ∧ w' = w := by
  obtain ⟨ao, cap, rfl, ⟨h1, h2, _⟩, _⟩ := hv
  by_cases hlt : left < (xs.length : Int)
  · rw [cut_neg hlt]
    go_enter Tryz.func145, Tryz.ntmps145
    go_wp2_with fail
    go_ret
    exact ⟨rfl, rfl⟩
  · rw [cut_pos (by omega)]
    go_enter Tryz.func145, Tryz.ntmps145
    go_wp2_with fail
    go_ret
    exact ⟨ret_int (by go_num), rfl⟩

/-! ### Copies -/
theorem infoL3 : (Tryz.prog.info? 45).map (fun i => (i.zero, i.size, i.bytes)) = some (some (.agg #[.int .i64 0, .int .i64 0, .bool false]), 3, 24) := by kernel_rfl

set_option maxRecDepth 100000 in
theorem toLiteral_c (l : Lit) (w : World) :
    Calls Tryz.prog 46 #[.agg #[.int .i64 l.var, .int .i64 l.val, .bool l.neg]] w fun e w' => e = .returned (.agg #[.int .i64 l.var, .int .i64 l.val, .bool l.neg]) ∧ Gr [] w w' := by
  go_enter Tryz.func46, Tryz.ntmps46
  go_wp2_with fail
  generalize hWE : World.alloc (World.alloc (World.alloc _ _) _) _ = WE
  have h3 := heap3 w (.cells #[.int .i64 l.var, .int .i64 l.val, .bool l.neg] 75) (.cells #[.int .i64 l.var, .int .i64 l.val, .bool l.neg] 45) (.cells #[.int .i64 l.var, .int .i64 l.val, .bool l.neg] 45)
  have hg : Gr [] w WE := by rw [← hWE]; exact (((Gr.refl [] w).alloc _).alloc _).alloc _
  rw [hWE] at h3
  have flE := fld h3.2.1
  refine bodyPost_ret (v := .agg #[.int .i64 l.var, .int .i64 l.val, .bool l.neg]) ?_ rfl ⟨rfl, hg⟩
  simp [results, Tryz.results46, go_sem, flE]


set_option maxRecDepth 100000 in
theorem toLiteralS_c (cs : Cls) (v : Value) (w : World) (hv : LitsV [] w v cs) (hl : cs.length ≤ 2000000) :
    Calls Tryz.prog 146 #[v] w fun e w' => ∃ v', e = .returned v' ∧ LitsM (New w.heap.size w') w' v' cs ∧ Gr [] w w' := by
  obtain ⟨ao, cap, rfl, ⟨h1, h2⟩, hcc⟩ := hv.open
  have Hc := hid hcc
  clear hv hcc
  go_enter Tryz.func146, Tryz.ntmps146
  go_wp2_with (at_make; refine wp_mkG rfl _ _ 110 rfl 45 (.agg #[.int .i64 0, .int .i64 0, .bool false]) 3 24 infoL3 (by omega) Tryz.underlying110 cs.length rfl rfl (by omega) ?_; intro w1 hown1 hg1; have HO1 := hid (litsM_made hown1 (by omega)); have HG1 := hid hg1; clear hown1 hg1)
  go_loopw [4] (fun i wr => ∃ n : Nat, n ≤ cs.length ∧ i = .int .i64 n ∧ LitsM (New w.heap.size wr) wr (.slice (some ⟨w.heap.size, 0, none⟩) cs.length cs.length) (cs.take n ++ List.replicate (cs.length - n) (⟨0, 0, false⟩ : Lit)) ∧ Gr [] w wr) (fun i _ => cs.length - (intOf i).toNat)
  case atStart => exact ⟨0, Nat.zero_le _, rfl, by simpa using HO1.out, HG1.out⟩
  case round =>
    obtain ⟨n, hn, rfl, hown, hg⟩ := hrel
    by_cases hlt : n < cs.length
    · obtain ⟨x, hx⟩ := get_some hlt
      obtain ⟨b, o, rfl, _, c0, c1, c2⟩ := (Hc.out.gr hg).at hx
      have Hown := hid hown; have Hg := hid hg; have Hx := hid hx
      clear hown hg hx
      go_wp2_with fail
      have hcall := toLiteral_c x wr
      (with_reducible refine hcall.mono ?_)
      clear hcall
      rintro e w2 ⟨rfl, hg2⟩
      have hR2 := Hown.out.gr' (M' := New w.heap.size w2) hg2 (by simp) (fun b hb h => h.le (Nat.le_refl _) hg2.size)
      obtain ⟨z, hz⟩ := get_some (xs := cs.take n ++ List.replicate (cs.length - n) (⟨0, 0, false⟩ : Lit)) (k := n) (by simp; omega)
      obtain ⟨k0, k1, k2, hf⟩ : (∃ u, w2.cell? ⟨w.heap.size, n * 3, none⟩ = some u) ∧ (∃ u, w2.cell? ⟨w.heap.size, n * 3 + 1, none⟩ = some u) ∧ (∃ u, w2.cell? ⟨w.heap.size, n * 3 + 2, none⟩ = some u) ∧ ∀ r, r < 3 → w2.frozen? ⟨w.heap.size, n * 3 + r, none⟩ = false := by
        obtain ⟨b9, o9, e10, _, ⟨j0, j1, j2⟩, hf⟩ := hR2.at hz
        simp only [Option.some.injEq, Addr.mk.injEq] at e10
        obtain ⟨rfl, rfl, _⟩ := e10
        rw [Nat.zero_add] at j0 j1 j2 hf
        exact ⟨⟨_, j0⟩, ⟨_, j1⟩, ⟨_, j2⟩, hf⟩
      obtain ⟨u0, k0⟩ := k0; obtain ⟨u1, k1⟩ := k1; obtain ⟨u2, k2⟩ := k2
      have f0 := hf 0 (by omega); have f1 := hf 1 (by omega); have f2 := hf 2 (by omega)
      rw [Nat.add_zero] at f0
      have hset := hR2.set3 (k := n) (by simp; omega) x
      rw [Nat.zero_add] at hset
      have e1 : (cs.take n ++ List.replicate (cs.length - n) (⟨0, 0, false⟩ : Lit)).set n x = cs.take (n + 1) ++ List.replicate (cs.length - (n + 1)) (⟨0, 0, false⟩ : Lit) := by
        have hl : (cs.take n).length = n := by rw [List.length_take]; omega
        rw [List.set_append_right _ _ (by omega), hl, Nat.sub_self, List.take_add_one, Hx.out]
        obtain ⟨k, hk⟩ : ∃ k, cs.length - n = k + 1 := ⟨cs.length - n - 1, by omega⟩
        rw [hk, List.replicate_succ, List.set_cons_zero, show cs.length - (n + 1) = k by omega]; simp
      rw [e1] at hset
      have hne : Gr [] w (((w2.setCell ⟨w.heap.size, n * 3, none⟩ (.int .i64 x.var)).setCell ⟨w.heap.size, n * 3 + 1, none⟩ (.int .i64 x.val)).setCell ⟨w.heap.size, n * 3 + 2, none⟩ (.bool x.neg)) :=
        (((Hg.out.trans hg2).setCell _ _ (.inr (Nat.le_refl _))).setCell _ _ (.inr (Nat.le_refl _))).setCell _ _ (.inr (Nat.le_refl _))
      have Hset := hid hset; have Hne := hid hne
      clear hset hne e1 hz hg2 hR2 hf
      go_wp2_with fail
      refine ⟨⟨n + 1, by omega, by go_num, Hset.out.gr' (Gr.refl [] _) (by simp) (fun b hb h => ⟨h.1, hb⟩), Hne.out⟩, by simp [intOf]; omega⟩
    · have e1 : cs.take n ++ List.replicate (cs.length - n) (⟨0, 0, false⟩ : Lit) = cs := by rw [List.take_of_length_le (by omega), show cs.length - n = 0 by omega]; simp
      rw [e1] at hown
      have Hown := hid hown
      clear e1 hown
      go_wp2_with fail
      go_ret
      exact ⟨_, rfl, Hown.out, hg⟩

/-! ### Comparisons -/

set_option maxRecDepth 100000 in
theorem eqLiteral_t (s : Lit) (w : World) :
    Calls Tryz.prog 209 #[.agg #[.int .i64 s.var, .int .i64 s.val, .bool s.neg], .agg #[.int .i64 s.var, .int .i64 s.val, .bool s.neg]] w fun e w' => e = .returned (.bool true) ∧ Gr [] w w' := by
  have hg0 : Gr [] w ((w.alloc (.cells #[.int .i64 s.var, .int .i64 s.val, .bool s.neg] 45)).alloc (.cells #[.int .i64 s.var, .int .i64 s.val, .bool s.neg] 45)) := ((Gr.refl _ _).alloc _).alloc _
  have hb1 : ((w.alloc (.cells #[.int .i64 s.var, .int .i64 s.val, .bool s.neg] 45)).alloc (.cells #[.int .i64 s.var, .int .i64 s.val, .bool s.neg] 45)).heap[w.heap.size]? = some (.cells #[.int .i64 s.var, .int .i64 s.val, .bool s.neg] 45 (0, 0)) := (heap_alloc_old _ _ (by simp)).trans (heap_alloc_new _ _)
  have hb2 : ((w.alloc (.cells #[.int .i64 s.var, .int .i64 s.val, .bool s.neg] 45)).alloc (.cells #[.int .i64 s.var, .int .i64 s.val, .bool s.neg] 45)).heap[w.heap.size + 1]? = some (.cells #[.int .i64 s.var, .int .i64 s.val, .bool s.neg] 45 (0, 0)) := by
    have := heap_alloc_new (w.alloc (.cells #[.int .i64 s.var, .int .i64 s.val, .bool s.neg] 45)) (.cells #[.int .i64 s.var, .int .i64 s.val, .bool s.neg] 45)
    rwa [World.size_alloc] at this
  have Hg0 := hid hg0
  have f1 := fld hb1; have f2 := fld hb2
  clear hg0 hb1 hb2
  go_enter Tryz.func209, Tryz.ntmps209
  go_wp2_with fail
  go_ret
  exact ⟨rfl, Hg0.out⟩


set_option maxRecDepth 100000 in
theorem eqLiteralS_t (cs : Cls) (vx vy : Value) (w : World) (hx : LitsV [] w vx cs) (hy : LitsV [] w vy cs) :
    Calls Tryz.prog 135 #[vx, vy] w fun e w' => e = .returned (.bool true) ∧ Gr [] w w' := by
  have Hx := hid hx; have Hy := hid hy
  obtain ⟨xo, xc, rfl, ⟨hx1, hx2, _⟩, _⟩ := hx
  obtain ⟨yo, yc, rfl, ⟨hy1, hy2, _⟩, _⟩ := hy
  go_enter Tryz.func135, Tryz.ntmps135
  go_wp2_with fail
  go_loopw [5] (fun i wr => ∃ n : Nat, n ≤ cs.length ∧ i = .int .i64 n ∧ Gr [] w wr) (fun i _ => cs.length - (intOf i).toNat)
  case atStart => exact ⟨0, Nat.zero_le _, rfl, Gr.refl _ _⟩
  case round =>
    obtain ⟨n, hn, rfl, hg⟩ := hrel
    by_cases hlt : n < cs.length
    · obtain ⟨x, hx⟩ := get_some hlt
      obtain ⟨b, o, rfl, _, c0, c1, c2⟩ := (Hx.out.gr hg).at hx
      obtain ⟨b', o', rfl, _, d0, d1, d2⟩ := (Hy.out.gr hg).at hx
      have e0 : ∀ k : GrW [] wr, k.val.cell? ⟨b, o + n * 3, none⟩ = some (.int .i64 x.var) := fun k => k.gr.cell c0 (by simp)
      have e1 : ∀ k : GrW [] wr, k.val.cell? ⟨b, o + n * 3 + 1, none⟩ = some (.int .i64 x.val) := fun k => k.gr.cell c1 (by simp)
      have e2 : ∀ k : GrW [] wr, k.val.cell? ⟨b, o + n * 3 + 2, none⟩ = some (.bool x.neg) := fun k => k.gr.cell c2 (by simp)
      have e0' : ∀ k : GrW [] wr, k.val.cell? ⟨b', o' + n * 3, none⟩ = some (.int .i64 x.var) := fun k => k.gr.cell d0 (by simp)
      have e1' : ∀ k : GrW [] wr, k.val.cell? ⟨b', o' + n * 3 + 1, none⟩ = some (.int .i64 x.val) := fun k => k.gr.cell d1 (by simp)
      have e2' : ∀ k : GrW [] wr, k.val.cell? ⟨b', o' + n * 3 + 2, none⟩ = some (.bool x.neg) := fun k => k.gr.cell d2 (by simp)
      have Hg := hid hg
      clear hx hg c0 c1 c2 d0 d1 d2
      go_wp2_with fail
      refine wp_region_gr [] _ (by kernel_rfl) (by kernel_rfl) (Gr.refl _ _) ?_
      repeat (go_big_quiet_step ((go_at_call 209; exact Calls.gr_of (eqLiteral_t x _))))
      refine wpQuiet_nil ?_
      rintro w7 ⟨n7, hw7⟩
      have hg7 : Gr [] wr w7 := hw7 ▸ n7.gr
      clear hw7 n7 e0 e1 e2 e0' e1' e2'
      go_wp2_with fail
      exact ⟨⟨n + 1, by omega, by go_num, Hg.out.trans hg7⟩, by simp [intOf]; omega⟩
    · go_wp2_with fail
      go_ret
      exact ⟨rfl, hg⟩

/-! ### Marks -/
def mkL (k : Int) : Lit := ⟨k, k + 1, (k + 1 + 1) % 3 == 0⟩
def mkLs (k : Int) (n : Nat) : Cls := (List.range n).map fun i : Nat => mkL (k + 3 * (i : Int))
theorem mkLs_len (k : Int) (n : Nat) : (mkLs k n).length = n := by simp [mkLs]
theorem mkLs_succ (k : Int) (n : Nat) : mkLs k (n + 1) = mkLs k n ++ [mkL (k + 3 * (n : Int))] := by unfold mkLs; rw [List.range_succ, List.map_append]; rfl
theorem mkLs_get (k : Int) (n j : Nat) (h : j < n) : (mkLs k n)[j]? = some (mkL (k + 3 * (j : Int))) := by unfold mkLs; rw [List.getElem?_map, List.getElem?_range h]; rfl

set_option maxRecDepth 100000 in
theorem markLiteralS_c (M : Nat → Prop) (cs : Cls) (k : Int) (v : Value) (w : World) (hv : LitsM M w v cs) (hk : 0 ≤ k ∧ k ≤ 1000000000) (hl : cs.length ≤ 10000000) :
    Calls Tryz.prog 138 #[v, .int .i64 k] w fun e w' => e = .returned (.int .i64 (k + 3 * cs.length)) ∧ LitsM M w' v (mkLs k cs.length) ∧ (∀ S : List Nat, (∀ b, M b → b ∈ S) → Gr S w w') := by
  have Hv := hid hv
  obtain ⟨ao, cap, rfl, ⟨h1, h2, _⟩, _⟩ := hv
  go_enter Tryz.func138, Tryz.ntmps138
  go_wp2_with fail
  go_loopw [1, 5] (fun kv i wr => ∃ n : Nat, n ≤ cs.length ∧ i = .int .i64 n ∧ kv = .int .i64 (k + 3 * n) ∧ LitsM M wr (.slice ao cs.length cap) (mkLs k n ++ cs.drop n) ∧ (∀ S : List Nat, (∀ b, M b → b ∈ S) → Gr S w wr)) (fun _ i _ => cs.length - (intOf i).toNat)
  case atStart => exact ⟨0, Nat.zero_le _, rfl, by simp, by simpa [mkLs] using Hv.out, fun S _ => Gr.refl _ _⟩
  case round =>
    obtain ⟨n, hn, rfl, rfl, hw, hg⟩ := hrel
    by_cases hlt : n < cs.length
    · obtain ⟨x, hx⟩ := get_some hlt
      have hx' : (mkLs k n ++ cs.drop n)[n]? = some x := by rw [List.getElem?_append_right (by rw [mkLs_len]; exact Nat.le_refl _), mkLs_len, Nat.sub_self, List.getElem?_drop, Nat.add_zero, hx]
      obtain ⟨b, o, rfl, hm, ⟨c0, c1, c2⟩, hf⟩ := hw.at hx'
      have hset := hw.set3 (k := n) (by simp [mkLs_len]; omega) (mkL (k + 3 * n))
      have e1 : (mkLs k n ++ cs.drop n).set n (mkL (k + 3 * n)) = mkLs k (n + 1) ++ cs.drop (n + 1) := by
        rw [List.set_append_right _ _ (by rw [mkLs_len]; exact Nat.le_refl _), mkLs_len, Nat.sub_self, drop_cons hx, List.set_cons_zero, mkLs_succ]; simp
      rw [e1] at hset
      have f0 := hf 0 (by omega); have f1 := hf 1 (by omega); have f2 := hf 2 (by omega)
      rw [Nat.add_zero] at f0
      have Hset := hid hset; have Hg := hid hg; have Hm := hid hm
      clear hset e1 hx hx' hw hg hm hf
      go_wp2_with fail
      exact ⟨⟨n + 1, by omega, by go_num, by go_num, Hset.out, fun S hS => (((Hg.out S hS).setCell _ _ (.inl (hS _ Hm.out))).setCell _ _ (.inl (hS _ Hm.out))).setCell _ _ (.inl (hS _ Hm.out))⟩, by simp [intOf]; omega⟩
    · have hnl : n = cs.length := by omega
      have e1 : mkLs k n ++ cs.drop n = mkLs k cs.length := by rw [drop_end (by omega), hnl]; simp
      rw [e1] at hw
      have Hw := hid hw; have Hg := hid hg; have Hnl := hid hnl
      clear hw hg e1 hnl
      go_wp2_with fail
      go_ret
      exact ⟨ret_int (by rw [Hnl.out]), Hw.out, Hg.out⟩


set_option maxRecDepth 100000 in
theorem heldLiteralS_t (n : Nat) (k : Int) (v : Value) (w : World) (hv : LitsV [] w v (mkLs k n)) (hk : 0 ≤ k ∧ k ≤ 1000000000) (hl : n ≤ 10000000) :
    Calls Tryz.prog 139 #[v, .int .i64 k] w fun e w' => e = .returned (.int .i64 (k + 3 * n)) ∧ Gr [] w w' := by
  have Hv := hid hv
  obtain ⟨ao, cap, rfl, ⟨h1, h2, _⟩, _⟩ := hv
  rw [mkLs_len] at h1 Hv ⊢
  go_enter Tryz.func139, Tryz.ntmps139
  go_wp2_with fail
  go_loopw [1, 5] (fun kv i wr => ∃ j : Nat, j ≤ n ∧ i = .int .i64 j ∧ kv = .int .i64 (k + 3 * j) ∧ Gr [] w wr) (fun _ i _ => n - (intOf i).toNat)
  case atStart => exact ⟨0, Nat.zero_le _, rfl, by simp, Gr.refl _ _⟩
  case round =>
    obtain ⟨j, hj, rfl, rfl, hg⟩ := hrel
    by_cases hlt : j < n
    · obtain ⟨b, o, rfl, _, c0, c1, c2⟩ := (Hv.out.gr hg).at (mkLs_get k n j hlt)
      simp only [mkL] at c0 c1 c2
      go_wp2_with fail
      exact ⟨⟨j + 1, by omega, by go_num, by go_num, hg⟩, by simp [intOf]; omega⟩
    · have hnl : j = n := by omega
      have Hnl := hid hnl
      clear hnl
      go_wp2_with fail
      go_ret
      exact ⟨ret_int (by rw [Hnl.out]), hg⟩

end Go.Proofs.YtlekngkcifgonaaGreat

set_option linter.unusedVariables false
set_option linter.unusedSimpArgs false
namespace Go.Proofs.YtlekngkcifgonaaGreat
open Go.RowKit Go.ChangeShapes Go.WideShapes

theorem list3 {α : Type} {l : List α} (h : l.length = 3) : ∃ a b c, l = [a, b, c] := by
  match l, h with
  | [a, b, c], _ => exact ⟨a, b, c, rfl⟩
section
variable {H : Type} {enc : TypeId × Value → H} {W : World} {held : Bool}
theorem cellsL3 : Tryz.prog.cellsOf 75 = 3 := by kernel_rfl
theorem cellsL1 : Tryz.prog.cellsOf 3 = 1 := by kernel_rfl
theorem cellsLb : Tryz.prog.cellsOf 4 = 1 := by kernel_rfl
set_option maxRecDepth 100000
theorem open_lit {fuel : Nat} {cs : List Value} {x : DataW H × List MemPlace} (h : DataW.trod enc Tryz.prog W 0 (fun _ => true) held fuel 75 cs = some x) : ∃ l, cs = litC l := by
  obtain ⟨xs, n, _, _, hl, hlen, hf⟩ := DataW.trod_struct Tryz.underlying75 h
  rw [cellsL3] at hl
  obtain ⟨c0, c1, c2, rfl⟩ := list3 hl
  obtain ⟨x0, x1, x2, rfl⟩ := list3 (hlen.trans rfl)
  have f0 := hf 0 _ rfl
  have f1 := hf 1 _ rfl
  have f2 := hf 2 _ rfl
  simp only [List.getElem?_cons_zero, List.getElem?_cons_succ, cellsL1, cellsLb, List.drop_zero, List.drop_succ_cons, List.take_succ_cons, List.take_zero] at f0 f1 f2
  obtain ⟨a, ha, _, _⟩ := DataW.trod_int Tryz.underlying3 f0
  obtain ⟨b, hb, _, _⟩ := DataW.trod_int Tryz.underlying3 f1
  obtain ⟨c, hc, _⟩ := DataW.trod_bool Tryz.underlying4 f2
  cases ha; cases hb; cases hc
  exact ⟨⟨a, b, c⟩, rfl⟩
theorem open_lits {fuel : Nat} {u : Value} {x : DataW H × List MemPlace} (h : DataW.trod enc Tryz.prog W 0 (fun _ => true) held fuel 161 [u] = some x) : ∃ ls, LitsV [] W u ls := by
  rcases Go.Deep.open_slice Tryz.underlying161 h with ⟨hcs, _⟩ | ⟨a, len, cap, m, n, D, Pl, hcs, _, hl, hm, hmm, _, hx⟩
  · cases hcs
    exact ⟨[], none, 0, rfl, by simp, fun i x hi => by simp at hi⟩
  · cases hcs
    simp only [if_true] at hmm
    have hmm' := hmm.symm
    subst hmm'
    obtain ⟨f, hf⟩ := Go.Deep.choose_lt (n := len) (p := fun i (y : List Value × Lit) => W.cells? 0 (a.add (i * 3)) 3 = some y.1 ∧ y.1 = litC y.2) (fun i hi => by
      obtain ⟨cs', h1, h2⟩ := hx i (by omega)
      rw [cellsL3] at h1
      obtain ⟨c, hc⟩ := open_lit h2
      exact ⟨(cs', c), h1, hc⟩)
    refine ⟨(List.range len).map fun i => (f i).2, some a, cap, by simp, ⟨by simpa using hl, by simpa [maxLen] using hm, by simp⟩, fun i r hi => ?_⟩
    have hil : i < len := by have := (List.getElem?_eq_some_iff.1 hi).1; simpa using this
    have hr : r = (f i).2 := by
      rw [List.getElem?_map, List.getElem?_range hil] at hi
      simpa using hi.symm
    subst hr
    obtain ⟨hc, e⟩ := hf i hil
    obtain ⟨_, _, hcell⟩ := World.cells?_some hc
    rw [e] at hcell
    have hs : a.spot = none := by
      obtain ⟨hc', e'⟩ := hf 0 (by omega)
      obtain ⟨_, _, hcell'⟩ := World.cells?_some hc'
      rw [e'] at hcell'
      have := spot_none ((hcell' 0 (by omega)).trans rfl)
      simpa [Addr.add] using this
    have ha := addr_plain hs
    rw [ha] at hcell
    have each : ∀ j, j < 3 → W.cell? ⟨a.block, a.off + i * 3 + j, none⟩ = (litC (f i).2)[j]? := fun j hj => by
      have := hcell j hj
      rwa [addr_add, addr_add] at this
    exact ⟨a.block, a.off, by rw [← ha], by simp, (by have := each 0 (by omega); rw [Nat.add_zero] at this; exact this), each 1 (by omega), each 2 (by omega)⟩
end
end Go.Proofs.YtlekngkcifgonaaGreat

set_option linter.unusedVariables false
set_option linter.unusedSimpArgs false
namespace Go.Proofs.YtlekngkcifgonaaGreat
open Go.RowKit Go.ChangeShapes Go.WideShapes

section
variable {H : Type} {enc : TypeId × Value → H} {W : World} {held : Bool}
set_option maxRecDepth 100000
theorem open_clss {fuel : Nat} {u : Value} {x : DataW H × List MemPlace} (h : DataW.trod enc Tryz.prog W 0 (fun _ => true) held fuel 94 [u] = some x) : ∃ cls, ClsV [] W u cls := by
  rcases Go.Deep.open_slice1 Tryz.underlying94 (by kernel_rfl) h with ⟨hcs, _⟩ | ⟨a, len, cap, m, n, V, D, Pl, hcs, _, hl, hm, hmm, _, hx⟩
  · cases hcs
    exact ⟨[], none, 0, rfl, by simp, fun i x hi => by simp at hi⟩
  · cases hcs
    simp only [if_true] at hmm
    have hmm' := hmm.symm
    subst hmm'
    obtain ⟨f, hf⟩ := Go.Deep.choose_lt (n := len) (p := fun i r => LitsV [] W (V i) r) (fun i hi => open_lits (hx i (by omega)).2)
    refine ⟨(List.range len).map f, some a, cap, by simp, ⟨by simpa using hl, by simpa [maxLen] using hm, by simp⟩, fun i r hi => ?_⟩
    have hil : i < len := by have := (List.getElem?_eq_some_iff.1 hi).1; simpa using this
    have hr : r = f i := by
      rw [List.getElem?_map, List.getElem?_range hil] at hi
      simpa using hi.symm
    subst hr
    have h1 := (hx i (by omega)).1
    have h0 := spot_none (hx 0 (by omega)).1
    simp [Addr.add] at h0
    rw [addr_plain h0, addr_add] at h1
    exact ⟨a.block, a.off, V i, by rw [← addr_plain h0], by simp, h1, hf i hil⟩
end

/-- The size of a list of clauses. -/
def szK (cls : List Cls) : Nat := cls.length + (cls.map List.length).sum
theorem szK_few {cls : List Cls} {n : Nat} (h : szK cls ≤ n) : cls.length ≤ n ∧ ∀ c ∈ cls, c.length ≤ n := by
  unfold szK at h
  refine ⟨by omega, fun c hc => ?_⟩
  have := sum_mem List.length hc
  omega
theorem szLiteralSS_c (rows : List Cls) (left : Int) (v : Value) (w : World) (hv : ClsV [] w v rows) (hl : 0 ≤ left ∧ left ≤ 2000000) :
    Calls Tryz.prog 65 #[v, .int .i64 left] w fun e w' => e = .returned (.int .i64 (cut left (szK rows))) ∧ Gr [] w w' := by
  have Hv := hid hv
  obtain ⟨ao, cap, rfl, ⟨h1, h2, _⟩, _⟩ := hv
  by_cases hlt : left < (rows.length : Int)
  · rw [cut_neg (by unfold szK; omega)]
    go_enter Tryz.func65, Tryz.ntmps65
    go_wp2_with fail
    go_ret
    exact ⟨rfl, Gr.refl _ _⟩
  · go_enter Tryz.func65, Tryz.ntmps65
    go_wp2_with fail
    go_loopw [1, 5] (fun lv i wr => ∃ (n : Nat) (l : Int), n ≤ rows.length ∧ i = .int .i64 n ∧ lv = .int .i64 l ∧ (0 ≤ l ∧ l ≤ 2000000) ∧ l = left - (rows.length + ((rows.take n).map List.length).sum : Nat) ∧ Gr [] w wr) (fun _ i _ => rows.length - (intOf i).toNat)
    case atStart => exact ⟨0, left - rows.length, Nat.zero_le _, rfl, by go_num, by omega, by simp, Gr.refl _ _⟩
    case round =>
      obtain ⟨n, l, hn, rfl, rfl, hl, he, hg⟩ := hrel
      have He := hid he; clear he
      by_cases hlt : n < rows.length
      · obtain ⟨r, hr⟩ := get_some hlt
        obtain ⟨b1, o1, uo, uc, rfl, -, hc1, hn1⟩ := (Hv.out.gr hg).at hr
        have Hn1 := hid hn1; have Hs := hid (sum_take List.length hr); have Hle := hid (sum_take_le List.length rows (n + 1)); have Hg := hid hg
        clear hr hn1 hg
        go_wp2_with fail
        have hcall := szLiteralS_c r l _ wr Hn1.out hl
        (with_reducible refine hcall.mono ?_)
        clear hcall
        rintro e w2 ⟨rfl, rfl⟩
        by_cases hlr : l < (r.length : Int)
        · rw [cut_neg hlr]
          go_wp2_with fail
          go_ret
          exact ⟨ret_int (by rw [cut_neg]; have := He.out; have := Hs.out; have := Hle.out; unfold szK; omega), Hg.out⟩
        · rw [cut_pos (by omega)]
          go_wp2_with fail
          exact ⟨⟨n + 1, l - r.length, by omega, by go_num, rfl, by omega, by have := He.out; have := Hs.out; omega, Hg.out⟩, by simp [intOf]; omega⟩
      · go_wp2_with fail
        go_ret
        refine ⟨ret_int ?_, hg⟩
        have := He.out
        rw [List.take_of_length_le (by omega)] at this
        rw [cut_pos (by unfold szK; omega)]; unfold szK; omega

/-! ### Copies -/
theorem infoK : (Tryz.prog.info? 110).map (fun i => (i.zero, i.size, i.bytes)) = some (some (.slice none 0 0), 1, 24) := by kernel_rfl
/-- A new list of clauses, of which the first n are there. -/
def KNew (g : Nat) (e : TypeId) (w : World) (N n : Nat) (cls : List Cls) : Prop :=
  ∃ cur, w.heap[g]? = some (.cells cur e (0, 0)) ∧ cur.size = N ∧ ∀ i c, i < n → cls[i]? = some c → ∃ u, cur[i]? = some u ∧ LitsM (fun b => g < b) w u c
theorem KNew.gr {g : Nat} {e : TypeId} {w w' : World} {N n : Nat} {cls : List Cls} (h : KNew g e w N n cls) (hg : Gr [] w w') : KNew g e w' N n cls := by
  obtain ⟨cur, h1, h2, h3⟩ := h
  refine ⟨cur, hg.obj h1 (by simp), h2, fun i c hi hc => ?_⟩
  obtain ⟨u, k1, k2⟩ := h3 i c hi hc
  exact ⟨u, k1, k2.gr hg⟩
theorem KNew.cell {g : Nat} {e : TypeId} {w : World} {N n : Nat} {cls : List Cls} (h : KNew g e w N n cls) {i : Nat} (hi : i < N) : (∃ u, w.cell? ⟨g, i, none⟩ = some u) ∧ w.frozen? ⟨g, i, none⟩ = false := by
  obtain ⟨cur, h1, h2, -⟩ := h
  have : i < cur.size := by omega
  exact ⟨⟨cur[i], by rw [fld h1 i]; exact Array.getElem?_eq_getElem this⟩, fldF h1 i⟩
theorem KNew.set {g : Nat} {e : TypeId} {w : World} {N n : Nat} {cls : List Cls} (h : KNew g e w N n cls) {c : Cls} (hc : cls[n]? = some c) (hn : n < N) {u : Value} (hu : LitsM (fun b => g < b) w u c) : KNew g e (w.setCell ⟨g, n, none⟩ u) N (n + 1) cls := by
  obtain ⟨cur, h1, h2, h3⟩ := h
  have mv : ∀ {v c}, LitsM (fun b => g < b) w v c → LitsM (fun b => g < b) (w.setCell ⟨g, n, none⟩ u) v c := fun h => h.move fun a x ha hx => ⟨by
    rw [World.cell?_setCell_other _ _ _ _ (by rintro rfl; simp at ha)]; exact hx, by simp, ha⟩
  refine ⟨cur.setIfInBounds n u, block_cells (cur' := #[]) h1 n u, by simpa using h2, fun i d hi hd => ?_⟩
  by_cases e : i = n
  · subst e
    rw [hc] at hd
    cases hd
    exact ⟨u, by simp [h2, hn], mv hu⟩
  · obtain ⟨u', k1, k2⟩ := h3 i d (by omega) hd
    exact ⟨u', by rw [Array.getElem?_setIfInBounds_ne (by omega)]; exact k1, mv k2⟩
theorem KNew.clsV {g : Nat} {e : TypeId} {w : World} {cls : List Cls} (h : KNew g e w cls.length cls.length cls) (hl : cls.length ≤ 9223372036854775807) : ClsV [] w (.slice (some ⟨g, 0, none⟩) cls.length cls.length) cls := by
  obtain ⟨cur, h1, h2, h3⟩ := h
  refine ⟨_, _, rfl, ⟨Nat.le_refl _, hl, by simp⟩, fun i c hi => ?_⟩
  obtain ⟨u, k1, k2⟩ := h3 i c (List.getElem?_eq_some_iff.1 hi).1 hi
  exact ⟨g, 0, u, rfl, by simp, by rw [Nat.zero_add, fld h1 i]; exact k1, k2.lits (by simp)⟩
theorem kNew_made {w : World} {B g n : Nat} {e : TypeId} {xs : List Value} (h : w.ownsRow B e 1 (.slice (some ⟨g, 0, none⟩) n n) n xs) (cls : List Cls) : KNew g e w n 0 cls := by
  rcases h.2 with ⟨e1, _⟩ | ⟨g', cap, cur, e1, hB, hg, h6, h7, h8, h9⟩
  · cases e1
  · cases e1
    exact ⟨cur, hg, by omega, fun i c hi => by omega⟩

set_option maxRecDepth 100000 in
theorem toLiteralSS_c (rows : List Cls) (v : Value) (w : World) (hv : ClsV [] w v rows) (hl : rows.length ≤ 2000000) (hr : ∀ r ∈ rows, r.length ≤ 2000000) :
    Calls Tryz.prog 66 #[v] w fun e w' => ∃ v', e = .returned v' ∧ ClsV [] w' v' rows ∧ Gr [] w w' := by
  have Hv := hid hv; have Hr := hid hr
  obtain ⟨ao, cap, rfl, ⟨h1, h2, _⟩, _⟩ := hv
  clear hr
  go_enter Tryz.func66, Tryz.ntmps66
  go_wp2_with (at_make; refine wp_mkG rfl _ _ 29 rfl 110 (.slice none 0 0) 1 24 infoK (by omega) Tryz.underlying29 rows.length rfl rfl (by omega) ?_; intro w1 hown1 hg1; have HO1 := hid (kNew_made hown1 rows); have HG1 := hid hg1; clear hown1 hg1)
  go_loopw [4] (fun i wr => ∃ n : Nat, n ≤ rows.length ∧ i = .int .i64 n ∧ KNew w.heap.size 110 wr rows.length n rows ∧ Gr [] w wr) (fun i _ => rows.length - (intOf i).toNat)
  case atStart => exact ⟨0, Nat.zero_le _, rfl, HO1.out, HG1.out⟩
  case round =>
    obtain ⟨n, hn, rfl, hown, hg⟩ := hrel
    by_cases hlt : n < rows.length
    · obtain ⟨x, hx⟩ := get_some hlt
      obtain ⟨b, o, uo, uc, rfl, -, h0, hn0⟩ := (Hv.out.gr hg).at hx
      have hxl := Hr.out x (List.mem_of_getElem? hx)
      have hgs : w.heap.size < wr.heap.size := by obtain ⟨cur, k, -⟩ := hown; exact lt_of_block k
      have Hn0 := hid hn0; have Hown := hid hown; have Hg := hid hg; have Hx := hid hx
      clear hn0 hown hg hx
      go_wp2_with fail
      have hcall := toLiteralS_c x _ wr Hn0.out hxl
      (with_reducible refine hcall.mono ?_)
      clear hcall
      rintro e w2 ⟨v2, rfl, hown2, hg2⟩
      have hM : LitsM (fun b => w.heap.size < b) w2 v2 x := hown2.move fun a u hm hu => ⟨hu, rfl, by have := hm.1; omega⟩
      have hK2 := Hown.out.gr hg2
      obtain ⟨⟨u0, hc1⟩, hc2⟩ := hK2.cell hlt
      have hset := hK2.set Hx.out hlt hM
      have hne : Gr [] w (w2.setCell ⟨w.heap.size, n, none⟩ v2) := (Hg.out.trans hg2).setCell _ _ (.inr (Nat.le_refl _))
      obtain ⟨vo, vc, rfl, -⟩ := hown2.slice
      have Hset := hid hset; have Hne := hid hne
      clear hset hne hown2 hg2 hM hK2
      go_wp2_with fail
      exact ⟨⟨n + 1, by omega, by go_num, Hset.out, Hne.out⟩, by simp [intOf]; omega⟩
    · have hk : n = rows.length := by omega
      subst hk
      have Hown := hid (hown.clsV (by omega))
      clear hown
      go_wp2_with fail
      go_ret
      exact ⟨_, rfl, Hown.out, hg⟩

set_option maxRecDepth 100000 in
theorem eqLiteralSS_t (xs : List Cls) (vx vy : Value) (w : World) (hx : ClsV [] w vx xs) (hy : ClsV [] w vy xs) :
    Calls Tryz.prog 54 #[vx, vy] w fun e w' => e = .returned (.bool true) ∧ Gr [] w w' := by
  have Hx := hid hx; have Hy := hid hy
  obtain ⟨xo, xc, rfl, ⟨hx1, hx2, _⟩, _⟩ := hx
  obtain ⟨yo, yc, rfl, ⟨hy1, hy2, _⟩, _⟩ := hy
  go_enter Tryz.func54, Tryz.ntmps54
  go_wp2_with fail
  go_loopw [5] (fun i wr => ∃ n : Nat, n ≤ xs.length ∧ i = .int .i64 n ∧ Gr [] w wr) (fun i _ => xs.length - (intOf i).toNat)
  case atStart => exact ⟨0, Nat.zero_le _, rfl, Gr.refl _ _⟩
  case round =>
    obtain ⟨n, hn, rfl, hg⟩ := hrel
    by_cases hlt : n < xs.length
    · obtain ⟨x, hx⟩ := get_some hlt
      obtain ⟨b1, o1, p1, q1, rfl, -, hc1, hn1⟩ := (Hx.out.gr hg).at hx
      obtain ⟨b2, o2, p2, q2, rfl, -, hc2, hn2⟩ := (Hy.out.gr hg).at hx
      have HS : Hid (∀ w', Gr [] wr w' → w'.cell? ⟨b1, o1 + n, none⟩ = some (.slice p1 x.length q1) ∧ w'.cell? ⟨b2, o2 + n, none⟩ = some (.slice p2 x.length q2) ∧ Gr [] wr w') := hid fun w' h => ⟨h.cell hc1 (by simp), h.cell hc2 (by simp), h⟩
      have Hn1 := hid hn1; have Hn2 := hid hn2; have Hg := hid hg
      clear hx hn1 hn2 hg
      go_wp2_with fail
      go_region_held3 (fun w' => w'.cell? ⟨b1, o1 + n, none⟩ = some (.slice p1 x.length q1) ∧ w'.cell? ⟨b2, o2 + n, none⟩ = some (.slice p2 x.length q2) ∧ Gr [] wr w')
        (first | exact HS.out _ ((Gr.refl [] _).drew) | (go_split_ands; exact HS.out _ (Gr.trans (by assumption) hg3)))
        (first
          | (go_at_call 135; go_split_ands; refine (eqLiteralS_t x _ _ _ (Hn1.out.gr (by assumption)) (Hn2.out.gr (by assumption))).mono ?_; rintro e w3 ⟨rfl, hg3⟩))
      all_goals
        go_wp2_with fail
        exact ⟨⟨n + 1, by omega, by go_num, (Hg.out.trans ((Gr.refl _ _).drew)).trans hg3⟩, by simp [intOf]; omega⟩
    · go_wp2_with fail
      go_ret
      exact ⟨rfl, hg⟩
end Go.Proofs.YtlekngkcifgonaaGreat

set_option linter.unusedVariables false
set_option linter.unusedSimpArgs false
namespace Go.Proofs.YtlekngkcifgonaaGreat
open Go.RowKit

/-- The home of one clause. -/
def At (b : Nat) (c : Cls) : Nat → Prop := fun k => c ≠ [] ∧ k = b
theorem At.cong {b : Nat} {c d : Cls} (h : d.length = c.length) : At b d = At b c := by
  funext k
  unfold At
  have : (d ≠ []) = (c ≠ []) := by
    rw [eq_iff_iff, ← List.length_pos_iff, ← List.length_pos_iff, h]
  rw [this]
/-- Clauses, each in a block of its own, between B and E. -/
def RowsK (B E : Nat) (w : World) (v : Value) (cls : List Cls) : Prop :=
  ∃ ao cap, v = .slice ao cls.length cap ∧ (cls.length ≤ cap ∧ cap ≤ 9223372036854775807 ∧ (ao = none → cap = 0)) ∧ ∃ f : Nat → Nat,
    (∀ i j c d, cls[i]? = some c → cls[j]? = some d → c ≠ [] → d ≠ [] → f i = f j → i = j) ∧
    ∀ i c, cls[i]? = some c → ∃ g u, ao = some ⟨g, 0, none⟩ ∧ (B ≤ g ∧ g < E) ∧ (∀ j d, cls[j]? = some d → d ≠ [] → f j ≠ g) ∧ (c ≠ [] → B ≤ f i ∧ f i < E) ∧ w.cell? ⟨g, i, none⟩ = some u ∧
      (∀ j, w.frozen? ⟨g, j, none⟩ = false) ∧ LitsM (At (f i) c) w u c
theorem RowsK.nil (B E : Nat) (w : World) : RowsK B E w (.slice none 0 0) [] := ⟨none, 0, rfl, by simp, fun i => i, by simp, by simp⟩
theorem RowsK.keep {B E : Nat} {S : List Nat} {w w' : World} {v : Value} {cls : List Cls} (h : RowsK B E w v cls) (hg : Gr S w w') (hS : ∀ b ∈ S, b < B ∨ E ≤ b) : RowsK B E w' v cls := by
  obtain ⟨ao, cap, e, hl, f, h1, h2⟩ := h
  refine ⟨ao, cap, e, hl, f, h1, fun i c hi => ?_⟩
  obtain ⟨g, u, e1, k1, k2, k3, k4, k5, k6⟩ := h2 i c hi
  have hgS : g ∉ S := fun hm => by have := hS g hm; omega
  have hlt := World.block_lt_of_cell? w _ k4
  exact ⟨g, u, e1, k1, k2, k3, hg.cell k4 hgS, fun j => (hg.frozen (a := ⟨g, j, none⟩) hlt hgS).trans (k5 j), k6.gr' hg (fun b hb hM => by obtain ⟨hc, rfl⟩ := hM; have := k3 hc; have := hS _ hb; omega) (fun _ _ h => h)⟩
theorem RowsK.imp {B E B' E' : Nat} {w : World} {v : Value} {cls : List Cls} (h : RowsK B E w v cls) (hB : B' ≤ B) (hE : E ≤ E') : RowsK B' E' w v cls := by
  obtain ⟨ao, cap, e, hl, f, h1, h2⟩ := h
  refine ⟨ao, cap, e, hl, f, h1, fun i c hi => ?_⟩
  obtain ⟨g, u, e1, k1, k2, k3, k4, k5, k6⟩ := h2 i c hi
  exact ⟨g, u, e1, by omega, k2, fun hc => by have := k3 hc; omega, k4, k5, k6⟩
theorem RowsK.clss {B E : Nat} {S : List Nat} {w : World} {v : Value} {cls : List Cls} (h : RowsK B E w v cls) (hS : ∀ b ∈ S, b < B ∨ E ≤ b) : ClsV S w v cls := by
  obtain ⟨ao, cap, e, hl, f, h1, h2⟩ := h
  refine ⟨ao, cap, e, hl, fun i c hi => ?_⟩
  obtain ⟨g, u, e1, k1, k2, k3, k4, k5, k6⟩ := h2 i c hi
  exact ⟨g, 0, u, e1, fun hm => by have := hS g hm; omega, by rw [Nat.zero_add]; exact k4, k6.lits fun b hb hM => by obtain ⟨hc, rfl⟩ := hM; have := k3 hc; have := hS _ hb; omega⟩
theorem RowsK.clip {B E : Nat} {w : World} {ao : Option Addr} {n cap : Nat} {cls : List Cls} (h : RowsK B E w (.slice ao n cap) cls) : RowsK B E w (.slice ao n n) cls := by
  obtain ⟨ao', cap', e, hl, r⟩ := h
  simp only [Value.slice.injEq] at e
  obtain ⟨rfl, rfl, rfl⟩ := e
  exact ⟨_, _, rfl, ⟨Nat.le_refl _, by omega, fun h => by have := hl.2.2 h; omega⟩, r⟩
theorem LitsM.apart {M M' : Nat → Prop} {w w' : World} {v : Value} {ls : Cls} (h : LitsM M w v ls) (k : Mk M' w w') (hd : ∀ b, M b → ¬ M' b) : LitsM M w' v ls :=
  h.move fun a u hm hu => by
    have hlt := World.block_lt_of_cell? w _ hu
    exact ⟨(World.cell?_of_block (k.block a.block hlt (hd _ hm))).trans hu, k.frozen a hlt, hm⟩
theorem RowsK.apart {M : Nat → Prop} {B E : Nat} {w w' : World} {v : Value} {cls : List Cls} (h : RowsK B E w v cls) (k : Mk M w w') (hd : ∀ b, B ≤ b → b < E → ¬ M b) : RowsK B E w' v cls := by
  obtain ⟨ao, cap, e, hl, f, h1, h2⟩ := h
  refine ⟨ao, cap, e, hl, f, h1, fun i c hi => ?_⟩
  obtain ⟨g, u, e1, k1, k2, k3, k4, k5, k6⟩ := h2 i c hi
  have hlt := World.block_lt_of_cell? w _ k4
  exact ⟨g, u, e1, k1, k2, k3, (World.cell?_of_block (k.block g hlt (hd g k1.1 k1.2))).trans k4, fun j => (k.frozen ⟨g, j, none⟩ hlt).trans (k5 j), k6.apart k fun b hM => by obtain ⟨hc, rfl⟩ := hM; exact hd _ (k3 hc).1 (k3 hc).2⟩
theorem RowsK.row {B E : Nat} {w : World} {ao : Option Addr} {n cap : Nat} {cls : List Cls} (h : RowsK B E w (.slice ao n cap) cls) {i : Nat} {c : Cls} (hi : cls[i]? = some c) :
    ∃ g u b, ao = some ⟨g, 0, none⟩ ∧ (c ≠ [] → B ≤ b ∧ b < E) ∧ w.cell? ⟨g, i, none⟩ = some u ∧ LitsM (At b c) w u c ∧
      ∀ (w' : World) (c' : Cls), c'.length = c.length → (∀ S : List Nat, (∀ k, At b c k → k ∈ S) → Gr S w w') → LitsM (At b c) w' u c' → RowsK B E w' (.slice ao n cap) (cls.set i c') := by
  obtain ⟨ao', cap', e, hl, f, h1, h2⟩ := h
  simp only [Value.slice.injEq] at e
  obtain ⟨rfl, rfl, rfl⟩ := e
  obtain ⟨g, u, e1, k1, k2, k3, k4, k5, k6⟩ := h2 i c hi
  have hil := (List.getElem?_eq_some_iff.1 hi).1
  refine ⟨g, u, f i, e1, k3, k4, k6, fun w' c' hc' hgS hin => ?_⟩
  obtain ⟨S, hS1, hS2⟩ : ∃ S : List Nat, (∀ k, At (f i) c k → k ∈ S) ∧ (∀ k ∈ S, c ≠ [] ∧ k = f i) := by
    by_cases hc : c = []
    · exact ⟨[], fun k hk => absurd hc hk.1, by simp⟩
    · exact ⟨[f i], fun k hk => by rw [hk.2]; simp, fun k hk => ⟨hc, by simpa using hk⟩⟩
  have hg := hgS S hS1
  have hne : ∀ {j : Nat} {d : Cls}, (cls.set i c')[j]? = some d → ∃ d', cls[j]? = some d' ∧ d.length = d'.length := by
    intro j d hj
    by_cases hij : i = j
    · subst hij
      rw [List.getElem?_set_self hil] at hj
      cases hj
      exact ⟨c, hi, hc'⟩
    · rw [List.getElem?_set_ne hij] at hj
      exact ⟨d, hj, rfl⟩
  have hnn : ∀ {d d' : Cls}, d.length = d'.length → d ≠ [] → d' ≠ [] := fun h hd e => hd (by subst e; exact List.eq_nil_of_length_eq_zero (by simpa using h))
  refine ⟨_, _, by rw [List.length_set], by rw [List.length_set]; exact hl, f, ?_, fun j s hj => ?_⟩
  · intro a b' x y ha hb hx hy e
    obtain ⟨x', hx', ex⟩ := hne ha
    obtain ⟨y', hy', ey⟩ := hne hb
    exact h1 a b' x' y' hx' hy' (hnn ex hx) (hnn ey hy) e
  · have hgb : g ∉ S := fun hm => by obtain ⟨hc, e⟩ := hS2 g hm; exact k2 i c hi hc e.symm
    have hlt := World.block_lt_of_cell? w _ k4
    have hk2 : ∀ (j : Nat) (d : Cls), (cls.set i c')[j]? = some d → d ≠ [] → f j ≠ g := fun j d hd hn => by
      obtain ⟨d', hd', ed⟩ := hne hd
      exact k2 j d' hd' (hnn ed hn)
    by_cases hij : i = j
    · subst hij
      rw [List.getElem?_set_self hil] at hj
      cases hj
      refine ⟨g, u, e1, k1, hk2, fun hn => k3 (hnn hc' hn), hg.cell k4 hgb, fun q => (hg.frozen (a := ⟨g, q, none⟩) hlt hgb).trans (k5 q), ?_⟩
      rw [At.cong hc']; exact hin
    · rw [List.getElem?_set_ne hij] at hj
      obtain ⟨g', u', f1, m1, m2, m3, m4, m5, m6⟩ := h2 j s hj
      have : g' = g := by rw [e1] at f1; simp at f1; exact f1.symm
      subst this
      refine ⟨g', u', e1, m1, hk2, m3, hg.cell m4 hgb, fun q => (hg.frozen (a := ⟨g', q, none⟩) hlt hgb).trans (m5 q), m6.gr' hg (fun q hq hM => ?_) (fun _ _ h => h)⟩
      obtain ⟨hs, e⟩ := hM
      obtain ⟨hc, e2⟩ := hS2 q hq
      exact hij (h1 i j c s hi hj hc hs (by rw [← e2, e]))

/-! ### Marks -/
def markK (k : Int) : List Cls → List Cls
  | [] => []
  | r :: rs => mkLs k r.length :: markK (k + 3 * (r.length : Int)) rs
def sumK (cls : List Cls) : Nat := (cls.map List.length).sum
theorem markK_len (k : Int) (rows : List Cls) : (markK k rows).length = rows.length := by
  induction rows generalizing k with
  | nil => rfl
  | cons r rs ih => simp [markK, ih]
theorem markK_app (k : Int) (xs ys : List Cls) : markK k (xs ++ ys) = markK k xs ++ markK (k + 3 * (sumK xs : Int)) ys := by
  induction xs generalizing k with
  | nil => simp [markK, sumK]
  | cons r rs ih =>
    simp only [List.cons_append, markK, ih, List.cons.injEq, true_and]
    congr 2
    simp [sumK]; omega
theorem markK_get {k : Int} {rows : List Cls} {n : Nat} {r : Cls} (h : rows[n]? = some r) : (markK k rows)[n]? = some (mkLs (k + 3 * (sumK (rows.take n) : Int)) r.length) := by
  induction rows generalizing k n with
  | nil => simp at h
  | cons x rs ih =>
    cases n with
    | zero => simp at h; subst h; simp [markK, sumK]
    | succ n =>
      simp at h
      simp only [markK, List.getElem?_cons_succ, List.take_succ_cons, ih h]
      congr 2
      simp [sumK]; omega
theorem markK_step {k : Int} {rows : List Cls} {n : Nat} {r : Cls} (h : rows[n]? = some r) :
    (markK k (rows.take n) ++ rows.drop n).set n (mkLs (k + 3 * (sumK (rows.take n) : Int)) r.length) = markK k (rows.take (n + 1)) ++ rows.drop (n + 1) := by
  have hn := (List.getElem?_eq_some_iff.1 h).1
  have hl : (markK k (rows.take n)).length = n := by rw [markK_len, List.length_take]; omega
  rw [List.set_append_right _ _ (by omega), hl, Nat.sub_self, drop_cons h, List.set_cons_zero, List.take_add_one, h, Option.toList_some, markK_app]
  simp [markK]
theorem sumK_take {rows : List Cls} {n : Nat} {r : Cls} (h : rows[n]? = some r) : sumK (rows.take (n + 1)) = sumK (rows.take n) + r.length := sum_take List.length h
theorem sumK_take_le (rows : List Cls) (n : Nat) : sumK (rows.take n) ≤ sumK rows := sum_take_le List.length rows n


set_option maxRecDepth 100000 in
theorem markLiteralSS_e (B E : Nat) (rows : List Cls) (k : Int) (v : Value) (w : World) (hv : RowsK B E w v rows) (hk : 0 ≤ k ∧ k ≤ 1000000) (hl : sumK rows ≤ 1000000) :
    Calls Tryz.prog 57 #[v, .int .i64 k] w fun e w' => e = .returned (.int .i64 (k + 3 * (sumK rows : Int))) ∧ RowsK B E w' v (markK k rows) ∧ (∀ L : List Nat, (∀ b, B ≤ b → b < E → b ∈ L) → Gr L w w') := by
  have Hv := hid hv
  obtain ⟨ao, cap, rfl, ⟨h1, h2, _⟩, _⟩ := hv
  go_enter Tryz.func57, Tryz.ntmps57
  go_wp2_with fail
  go_loopw [1, 5] (fun kv i wr => ∃ (n : Nat) (q : Nat), n ≤ rows.length ∧ i = .int .i64 n ∧ kv = .int .i64 (k + 3 * (q : Int)) ∧ q = sumK (rows.take n) ∧ RowsK B E wr (.slice ao rows.length cap) (markK k (rows.take n) ++ rows.drop n) ∧ (∀ L : List Nat, (∀ b, B ≤ b → b < E → b ∈ L) → Gr L w wr)) (fun _ i _ => rows.length - (intOf i).toNat)
  case atStart => exact ⟨0, 0, Nat.zero_le _, rfl, by simp, by simp [sumK], by simpa [markK] using Hv.out, fun _ _ => Gr.refl _ _⟩
  case round =>
    obtain ⟨n, q, hn, rfl, rfl, hq, hrw, hg⟩ := hrel
    have hq2 : q ≤ 1000000 := by have := sumK_take_le rows n; omega
    have Hq := hid hq; clear hq
    by_cases hlt : n < rows.length
    · obtain ⟨r, hr⟩ := get_some hlt
      have hr' : (markK k (rows.take n) ++ rows.drop n)[n]? = some r := by
        have hl : (markK k (rows.take n)).length = n := by rw [markK_len, List.length_take]; omega
        rw [List.getElem?_append_right (by omega), hl, Nat.sub_self, List.getElem?_drop, Nat.add_zero, hr]
      obtain ⟨g, u, b, rfl, hbE, h0, hin, hset⟩ := hrw.row hr'
      obtain ⟨uo, uc, rfl, -⟩ := hin.slice
      have hst := sumK_take hr
      have hsl := sumK_take_le rows (n + 1)
      have hrl2 : r.length ≤ 1000000 := by omega
      have Hin := hid hin; have Hg := hid hg; have Hst := hid hst; have Hset := hid hset; have Hr := hid hr; have HbE := hid hbE
      clear hin hg hst hsl hr hr' hrw hset hbE
      go_wp2_with fail
      have hcall := markLiteralS_c (At b r) r (k + 3 * (q : Int)) _ wr Hin.out (by omega) (by omega)
      (with_reducible refine hcall.mono ?_)
      clear hcall
      rintro e w2 ⟨rfl, hin2, hmk⟩
      have Hr2 := hid (Hset.out w2 (mkLs (k + 3 * (q : Int)) r.length) (mkLs_len _ _) hmk hin2)
      have Hmk : Hid (∀ L : List Nat, (∀ b, B ≤ b → b < E → b ∈ L) → Gr L w w2) := hid fun L hL => (Hg.out L hL).trans (hmk L fun k hk => by obtain ⟨hc, rfl⟩ := hk; exact hL _ (HbE.out hc).1 (HbE.out hc).2)
      clear hmk hin2
      go_wp2_with fail
      refine ⟨⟨n + 1, q + r.length, by omega, by go_num, by go_num, by rw [Hst.out, Hq.out], ?_, Hmk.out⟩, by simp [intOf]; omega⟩
      have := Hr2.out
      rwa [Hq.out, markK_step Hr.out] at this
    · have hnl : q = sumK rows := by rw [Hq.out, List.take_of_length_le (by omega)]
      have e1 : markK k (rows.take n) ++ rows.drop n = markK k rows := by rw [List.take_of_length_le (by omega), drop_end (by omega), List.append_nil]
      rw [e1] at hrw
      have Hnl := hid hnl; have Hg := hid hg; have Hrw := hid hrw
      clear hnl hg hrw e1
      go_wp2_with fail
      go_ret
      exact ⟨ret_int (by rw [Hnl.out]), Hrw.out, Hg.out⟩


theorem heldLiteralSS_t (rows : List Cls) (k : Int) (v : Value) (w : World) (hv : ClsV [] w v (markK k rows)) (hk : 0 ≤ k ∧ k ≤ 1000000) (hl : sumK rows ≤ 1000000) :
    Calls Tryz.prog 58 #[v, .int .i64 k] w fun e w' => e = .returned (.int .i64 (k + 3 * (sumK rows : Int))) ∧ Gr [] w w' := by
  have Hv := hid hv
  obtain ⟨ao, cap, rfl, ⟨h1, h2⟩⟩ := hv.slice
  rw [markK_len] at h1 Hv ⊢
  clear hv
  go_enter Tryz.func58, Tryz.ntmps58
  go_wp2_with fail
  go_loopw [1, 5] (fun kv i wr => ∃ (n : Nat) (q : Nat), n ≤ rows.length ∧ i = .int .i64 n ∧ kv = .int .i64 (k + 3 * (q : Int)) ∧ q = sumK (rows.take n) ∧ Gr [] w wr) (fun _ i _ => rows.length - (intOf i).toNat)
  case atStart => exact ⟨0, 0, Nat.zero_le _, rfl, by simp, by simp [sumK], Gr.refl _ _⟩
  case round =>
    obtain ⟨n, q, hn, rfl, rfl, hq, hg⟩ := hrel
    have hq2 : q ≤ 1000000 := by have := sumK_take_le rows n; omega
    have Hq := hid hq; clear hq
    by_cases hlt : n < rows.length
    · obtain ⟨r, hr⟩ := get_some hlt
      obtain ⟨b, o, uo, uc, rfl, -, hc0, hn0⟩ := (Hv.out.gr hg).at (markK_get (k := k) hr)
      rw [mkLs_len] at hc0
      rw [← Hq.out] at hn0
      have hst := sumK_take hr
      have hsl := sumK_take_le rows (n + 1)
      have hrl2 : r.length ≤ 1000000 := by omega
      have Hn0 := hid hn0; have Hg := hid hg; have Hst := hid hst
      clear hn0 hg hst hsl hr
      go_wp2_with fail
      have hcall := heldLiteralS_t r.length (k + 3 * (q : Int)) _ wr (by have := Hn0.out; rwa [mkLs_len] at this) (by omega) (by omega)
      (with_reducible refine hcall.mono ?_)
      clear hcall
      rintro e w2 ⟨rfl, hg2⟩
      go_wp2_with fail
      exact ⟨⟨n + 1, q + r.length, by omega, by go_num, by go_num, by rw [Hst.out, Hq.out], Hg.out.trans hg2⟩, by simp [intOf]; omega⟩
    · have hnl : q = sumK rows := by rw [Hq.out, List.take_of_length_le (by omega)]
      have Hnl := hid hnl; have Hg := hid hg
      clear hnl hg
      go_wp2_with fail
      go_ret
      exact ⟨ret_int (by rw [Hnl.out]), Hg.out⟩


theorem ClipK_c (B E : Nat) (v : Value) (cls : List Cls) (w : World) (hx : RowsK B E w v cls) :
    Calls Tryz.prog 155 #[v] w fun e w' => ∃ v', e = .returned v' ∧ RowsK B E w' v' cls ∧ Gr [] w w' := by
  have Hx := hid hx
  obtain ⟨ao, cap, rfl, ⟨h1, h2, h3⟩, -⟩ := hx
  clear h3
  go_enter Tryz.func155, Tryz.ntmps155
  go_wp2_with fail
  go_ret
  exact ⟨_, rfl, Hx.out.clip, Gr.refl _ _⟩

/-! ### Own lists of clauses, each with the block in which it lies -/
def elKB (S : List Nat) (w : World) (cs : List Value) (x : Nat × Cls) : Prop := ∃ u, cs = [u] ∧ LitsM (fun b => At x.1 x.2 b ∧ b ∉ S) w u x.2
theorem elKB_ok : ElOk elKB :=
  ⟨fun ⟨u, e, h⟩ hg => ⟨u, e, h.gr' hg (fun b hb hM => hM.2 hb) (fun _ _ h => h)⟩,
   fun {S S' w cs x} ⟨u, e, h⟩ hs => ⟨u, e, h.move fun a v hm hv => ⟨hv, rfl, hm.1, fun hS => hm.2 (hs _ (World.block_lt_of_cell? w _ hv) hS)⟩⟩⟩
/-- The blocks of the clauses are each another's. -/
def Apart (B E : Nat) (ps : List (Nat × Cls)) : Prop := (ps.Pairwise fun x y => x.2 ≠ [] → y.2 ≠ [] → x.1 ≠ y.1) ∧ ∀ x ∈ ps, x.2 ≠ [] → B ≤ x.1 ∧ x.1 < E
theorem Apart.nil (B E : Nat) : Apart B E [] := ⟨List.Pairwise.nil, by simp⟩
theorem Apart.le {B E E' : Nat} {ps : List (Nat × Cls)} (h : Apart B E ps) (hE : E ≤ E') : Apart B E' ps := ⟨h.1, fun x hx hn => by have := h.2 x hx hn; omega⟩
theorem Apart.snoc {B E E' : Nat} {ps : List (Nat × Cls)} {x : Nat × Cls} (h : Apart B E ps) (hB : B ≤ E) (hE : E ≤ E') (hx : x.2 ≠ [] → E ≤ x.1 ∧ x.1 < E') : Apart B E' (ps ++ [x]) := by
  refine ⟨?_, fun y hy hn => ?_⟩
  · rw [List.pairwise_append]
    refine ⟨h.1, by simp, fun a ha b hb h1 h2 e => ?_⟩
    simp at hb; subst hb
    have := h.2 a ha h1
    have := hx h2
    omega
  · rcases List.mem_append.1 hy with hy | hy
    · have := h.2 y hy hn; omega
    · simp at hy; subst hy; have := hx hn; omega
theorem LitsM.one {s : Nat} {w : World} {v : Value} {c : Cls} (h : LitsM (New s w) w v c) : ∃ b, LitsM (At b c) w v c ∧ (c ≠ [] → s ≤ b ∧ b < w.heap.size) := by
  obtain ⟨ao, cap, e, hl, hc⟩ := h
  cases c with
  | nil => exact ⟨0, ⟨ao, cap, e, hl, fun i l h => by simp at h⟩, fun h => absurd rfl h⟩
  | cons l r =>
    obtain ⟨b, o, e0, hm0, -, -⟩ := hc 0 l rfl
    refine ⟨b, ⟨ao, cap, e, hl, fun i x hi => ?_⟩, fun _ => hm0⟩
    obtain ⟨b', o', e1, hm1, h2, h3⟩ := hc i x hi
    have : b' = b := by rw [e0] at e1; simp at e1; exact e1.1.symm
    subst this
    exact ⟨b', o', e1, ⟨by simp, rfl⟩, h2, h3⟩
theorem OwnG.rowsK {B E : Nat} {w : World} {e : TypeId} {v : Value} {ps : List (Nat × Cls)} (h : OwnG 1 elKB B w e v ps) (ha : Apart B E ps) (hE : w.heap.size ≤ E) : RowsK B E w v (ps.map Prod.snd) := by
  obtain ⟨ao, cap, rfl, h1, h2, h3⟩ := h.slice
  refine ⟨ao, cap, by rw [List.length_map], by rw [List.length_map]; exact ⟨h1, h2, h3⟩, fun i => (ps.getD i (0, [])).1, ?_, fun i c hi => ?_⟩
  · intro i j c d hi hj hc hd e
    rw [List.getElem?_map] at hi hj
    cases hx : ps[i]? with
    | none => rw [hx] at hi; cases hi
    | some x =>
      cases hy : ps[j]? with
      | none => rw [hy] at hj; cases hj
      | some y =>
        rw [hx] at hi; rw [hy] at hj
        cases hi; cases hj
        simp only [List.getD_eq_getElem?_getD, hx, hy, Option.getD_some] at e
        obtain ⟨hil, rfl⟩ := List.getElem?_eq_some_iff.1 hx
        obtain ⟨hjl, rfl⟩ := List.getElem?_eq_some_iff.1 hy
        have hp := List.pairwise_iff_getElem.1 ha.1
        rcases Nat.lt_trichotomy i j with h | h | h
        · exact absurd e (hp i j hil hjl h hc hd)
        · exact h
        · exact absurd e.symm (hp j i hjl hil h hd hc)
  · rw [List.getElem?_map] at hi
    cases hx : ps[i]? with
    | none => rw [hx] at hi; cases hi
    | some x =>
      rw [hx] at hi; cases hi
      obtain ⟨g, cap', cs, e1, hb, hlt, hl, hc, hf, hel⟩ := h.cell hx
      cases e1
      obtain ⟨u, rfl, hn⟩ := hel [] (by simp)
      have hxm := List.mem_of_getElem? hx
      refine ⟨g, u, rfl, ⟨hb, by omega⟩, fun j d hj hd e => ?_, fun hn => ?_, by have := hc 0 u rfl; simpa using this, fun j => hf j, ?_⟩
      · rw [List.getElem?_map] at hj
        cases hy : ps[j]? with
        | none => rw [hy] at hj; cases hj
        | some y =>
          rw [hy] at hj; cases hj
          simp only [List.getD_eq_getElem?_getD, hy, Option.getD_some] at e
          obtain ⟨g', cap'', cs', e1', -, -, -, -, -, hel'⟩ := h.cell hy
          cases e1'
          obtain ⟨u', rfl, hn'⟩ := hel' [g] (by intro b hb; simp at hb; subst hb; right; simp [Value.ownBlock])
          obtain ⟨ao', c', -, -, hcc⟩ := hn'
          cases hyc : y.2 with
          | nil => exact hd hyc
          | cons l r =>
            obtain ⟨b, o, -, hm, -, -⟩ := hcc 0 l (by rw [hyc]; rfl)
            have := hm.1.2
            subst this
            exact hm.2 (by rw [e]; simp)
      · simp only [List.getD_eq_getElem?_getD, hx, Option.getD_some]
        have := ha.2 x hxm hn
        omega
      · simp only [List.getD_eq_getElem?_getD, hx, Option.getD_some]
        exact hn.move fun a v hm hv => ⟨hv, rfl, hm.1⟩
end Go.Proofs.YtlekngkcifgonaaGreat
