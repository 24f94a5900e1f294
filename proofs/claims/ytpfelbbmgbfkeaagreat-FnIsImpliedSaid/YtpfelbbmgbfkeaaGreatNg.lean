/-
  Walks: the negations of literals, validity of clauses, merged clauses; NegateAll of the program and of the reference.
-/
import Derived.Test.YtpfelbbmgbfkeaaGreatSr
import Derived.Test.YtpfelbbmgbfkeaaGreatA
set_option linter.unusedVariables false
set_option linter.unusedSimpArgs false
namespace Go.Proofs.YtpfelbbmgbfkeaaGreat
open Go.RowKit

theorem heap2L (w : World) (o1 o2 : Obj) : ((w.alloc o1).alloc o2).heap[w.heap.size]? = some o1 ∧ ((w.alloc o1).alloc o2).heap[w.heap.size + 1]? = some o2 := by
  refine ⟨(heap_alloc_old _ _ (by simp)).trans (heap_alloc_new _ _), ?_⟩
  have := heap_alloc_new (w.alloc o1) o2
  rwa [World.size_alloc] at this
set_option maxRecDepth 100000 in
theorem negated_c (l : Lit) (w : World) :
    Calls Tryz.prog 174 #[.agg #[.int .i64 l.var, .int .i64 l.val, .bool l.neg]] w fun e w' => e = .returned (.agg #[.int .i64 l.var, .int .i64 l.val, .bool (!l.neg)]) ∧ Gr [] w w' := by
  obtain ⟨W, hW⟩ : ∃ W, (w.alloc (.cells #[.int .i64 l.var, .int .i64 l.val, .bool l.neg] 31)).alloc (.cells #[.int .i64 0, .int .i64 0, .bool false] 31) = W := ⟨_, rfl⟩
  have h2 := heap2L w (.cells #[.int .i64 l.var, .int .i64 l.val, .bool l.neg] 31) (.cells #[.int .i64 0, .int .i64 0, .bool false] 31)
  have hg : Gr [] w W := by rw [← hW]; exact ((Gr.refl _ _).alloc _).alloc _
  rw [hW] at h2
  have fa := fld h2.1; have ffa := fldF h2.1; have fb := fld h2.2; have ffb := fldF h2.2
  have H1 := hid h2.1; have H2 := hid h2.2; have HG := hid hg
  clear h2 hg
  go_enter Tryz.func174, Tryz.ntmps174
  go_wp2_with fail
  have hgX : Gr [w.heap.size] W (W.setCell ⟨w.heap.size, 2, none⟩ (.bool (!l.neg))) := (Gr.refl _ _).setCell _ _ (.inl (by simp))
  have hbE := block_cells (cur' := #[]) (block_cells (cur' := #[]) (block_cells (cur' := #[]) (hgX.obj H2.out (by simp)) 0 (.int .i64 l.var)) 1 (.int .i64 l.val)) 2 (.bool (!l.neg))
  have flE := fld hbE
  refine bodyPost_ret (v := .agg #[.int .i64 l.var, .int .i64 l.val, .bool (!l.neg)]) ?_ rfl ⟨rfl, ?_⟩
  · simp [results, Tryz.results174, go_sem, flE]
  · exact (((HG.out.setCell _ _ (.inr (Nat.le_refl _))).setCell _ _ (.inr (by simp))).setCell _ _ (.inr (by simp))).setCell _ _ (.inr (by simp))
theorem litsNew (w : World) (l : Lit) (t : TypeId) (S : List Nat) (hS : ∀ b ∈ S, b < w.heap.size) : LitsV S (w.alloc (.cells #[.int .i64 l.var, .int .i64 l.val, .bool l.neg] t)) (.slice (some ⟨w.heap.size, 0, none⟩) 1 1) [l] := by
  have h := fld (heap_alloc_new w (.cells #[.int .i64 l.var, .int .i64 l.val, .bool l.neg] t))
  refine ⟨_, _, rfl, by simp, fun i x hi => ?_⟩
  have hi0 : i = 0 := by have := (List.getElem?_eq_some_iff.1 hi).1; simp at this; omega
  subst hi0
  simp at hi; subst hi
  exact ⟨_, _, rfl, fun hm => by have := hS _ hm; omega, by simp [h], h 1, h 2⟩
theorem OwnL.block {B : Nat} {w : World} {e : TypeId} {v : Value} {ls : Cls} (h : OwnL B w e v ls) : ∀ b ∈ v.ownBlock.toList, B ≤ b := fun b hb => (ownsRow_ownBlock h (by simpa using hb)).1
set_option maxRecDepth 100000 in
set_option maxHeartbeats 1000000 in
theorem negations_c (ls : Cls) (v : Value) (w : World) (hv : LitsV [] w v ls) (hl : ls.length ≤ 100000) (hn : ls.Nodup) :
    Calls Tryz.prog 139 #[v] w fun e w' => ∃ v', e = .returned v' ∧ LitsM (New w.heap.size w') w' v' (negsL ls) ∧ Gr [] w w' := by
  have Hv := hid hv; have Hn := hid hn
  obtain ⟨ao, cap, rfl, ⟨h1, h2⟩⟩ := hv.slice
  clear hv hn
  obtain ⟨i0, hi, hz0, hz1, hz2⟩ := info_parts infoL
  go_enter Tryz.func139, Tryz.ntmps139
  go_wp2_with (at_make; refine wpList_make_own w rfl _ _ 56 rfl w.heap.size 31 i0 (.agg #[.int .i64 0, .int .i64 0, .bool false]) 3 Tryz.underlying56 hi hz0 hz1 .i64 .i64 ls.length ls.length rfl rfl rfl (by rw [hz2]; omega) (by simp only [maxLen]; omega) (Nat.le_refl _) ?_; intro w1 hown1 hg1)
  have HO1 : Hid (OwnL w.heap.size w1 31 (.slice (some ⟨w.heap.size, 0, none⟩) 0 ls.length) []) := hid hown1
  have HG1 : Hid (Gr [] w w1) := hid ((Gr.refl _ _).grown hg1 (by simp))
  clear hown1 hg1 hz0 hz1 hz2 hi
  go_loopw [3, 11] (fun sv i wr => ∃ n : Nat, n ≤ ls.length ∧ i = .int .i64 n ∧ OwnL w.heap.size wr 31 sv ((ls.take n).map negL) ∧ Gr [] w wr) (fun _ i _ => ls.length - (intOf i).toNat)
  case atStart => exact ⟨0, Nat.zero_le _, rfl, by simpa using HO1.out, HG1.out⟩
  case round =>
    obtain ⟨n, hn, rfl, hown, hg⟩ := hrel
    obtain ⟨so, sc, hsv, ⟨k1, k2, -⟩⟩ := hown.litsM.slice
    have hlen : ((ls.take n).map negL).length = n := by simp; omega
    rw [hlen] at hsv k1
    subst hsv
    have Hlen := hid hlen
    clear hlen
    by_cases hlt : n < ls.length
    · obtain ⟨x, hx⟩ := get_some hlt
      obtain ⟨b, o, rfl, -, c0, c1, c2⟩ := (Hv.out.gr hg).at hx
      have hsn : (ls.take (n + 1)).map negL = (ls.take n).map negL ++ [negL x] := by rw [List.take_add_one, hx]; simp
      have ha : Gr [] wr (wr.alloc (.cells #[.int .i64 x.var, .int .i64 x.val, .bool x.neg] 31)) := (Gr.refl _ _).alloc _
      have Hown := hid (hown.gr ha (by simp)); have Hg := hid (hg.trans ha); have Hsn := hid hsn
      have fb := fld (heap_alloc_new wr (.cells #[.int .i64 x.var, .int .i64 x.val, .bool x.neg] 31))
      clear hx hown hg hsn ha
      go_wp2_with fail
      generalize hWa : wr.alloc (.cells #[.int .i64 x.var, .int .i64 x.val, .bool x.neg] 31) = wa at *
      clear hWa
      have hcall := negated_c x wa
      (with_reducible refine hcall.mono ?_)
      clear hcall
      rintro e w2 ⟨rfl, hg2⟩
      have hs2 : w.heap.size ≤ w2.heap.size := (Hg.out.trans hg2).size
      have Ho2 := hid (Hown.out.gr (hg2.alloc (.cells #[.int .i64 x.var, .int .i64 x.val, .bool (!x.neg)] 31)) (by simp))
      have Hg2 := hid (Hg.out.trans (hg2.alloc (.cells #[.int .i64 x.var, .int .i64 x.val, .bool (!x.neg)] 31)))
      have Hl2 := hid (litsNew w2 (negL x) 31 [] (by simp))
      clear hg2 fb c0 c1 c2
      go_wp2_with (at_builtin; refine wp_appL rfl _ _ 56 rfl w.heap.size 31 (.agg #[.int .i64 0, .int .i64 0, .bool false]) 24 infoL rfl (by omega) Tryz.underlying56 _ _ [negL x] rfl Ho2.out (.slice (some ⟨w2.heap.size, 0, none⟩) 1 1) [] rfl Hl2.out (by rw [Hlen.out]; simp; omega) (by simp; omega) ?_; intro v4 w4 hown4 hg4)
      exact ⟨⟨n + 1, by omega, by go_num, by rw [Hsn.out]; exact hown4, Hg2.out.step hg4 (fun i hi => .inr (Ho2.out.block i hi))⟩, by simp [intOf]; omega⟩
    · have e1 : ls.take n = ls := List.take_of_length_le (by omega)
      rw [e1] at hown
      have hnl : n = ls.length := by omega
      have Hown := hid hown; have Hg := hid hg; have Hnl := hid hnl
      clear hown hg e1 hnl
      go_wp2_with fail
      have hcall := sorted_c (ls.map negL) _ wr (Hown.out.lits (by simp)) (by rw [List.length_map]; exact hl) (map_negL_nodup Hn.out)
      (with_reducible refine hcall.mono ?_)
      clear hcall
      rintro e w2 ⟨v2, rfl, hm2, hg2⟩
      go_wp2_with fail
      go_ret
      exact ⟨_, rfl, hm2.le Hg.out.size, Hg.out.trans hg2⟩

/-! ### The reference's order -/
set_option maxRecDepth 100000 in
theorem literalLess_c (a b : Lit) (w : World) : Calls Tryz.prog 124 #[.agg #[.int .i64 a.var, .int .i64 a.val, .bool a.neg], .agg #[.int .i64 b.var, .int .i64 b.val, .bool b.neg]] w fun e w' => e = .returned (.bool (litLt a b)) ∧ Gr [] w w' := by
  have hg0 : Gr [] w ((w.alloc (.cells #[.int .i64 a.var, .int .i64 a.val, .bool a.neg] 31)).alloc (.cells #[.int .i64 b.var, .int .i64 b.val, .bool b.neg] 31)) := ((Gr.refl _ _).alloc _).alloc _
  have h2 := heap2L w (.cells #[.int .i64 a.var, .int .i64 a.val, .bool a.neg] 31) (.cells #[.int .i64 b.var, .int .i64 b.val, .bool b.neg] 31)
  have f1 := fld h2.1; have f2 := fld h2.2
  have Hg0 := hid hg0
  clear hg0 h2
  unfold litLt
  by_cases h1 : a.var = b.var
  · rw [if_neg (by simpa using h1)]
    obtain ⟨v1, l1, n1⟩ := a
    obtain ⟨v2, l2, n2⟩ := b
    dsimp only at h1
    subst h1
    by_cases h2 : l1 = l2
    · rw [if_neg (by simpa using h2)]
      subst h2
      cases n1 <;> cases n2
      all_goals
        go_enter Tryz.func124, Tryz.ntmps124
        go_wp2_with fail
        go_ret
        exact ⟨rfl, Hg0.out⟩
    · rw [if_pos (by simpa using h2)]
      have hz : (l1 != l2) = true := by simpa using h2
      have H2 := hid h2
      clear h2
      go_enter Tryz.func124, Tryz.ntmps124
      go_wp2_with fail
      go_ret
      exact ⟨rfl, Hg0.out⟩
  · rw [if_pos (by simpa using h1)]
    have hz1 : (a.var != b.var) = true := by simpa using h1
    have H1 := hid h1
    clear h1
    go_enter Tryz.func124, Tryz.ntmps124
    go_wp2_with fail
    go_ret
    exact ⟨rfl, Hg0.out⟩

/-! ### Validity, as the reference has it -/
theorem validClS_step {c : Cls} {n : Int} {k : Nat} {l : Lit} (h : c[k]? = some l) : (∀ x ∈ c.take (k + 1), litOk n x = true) ∧ ascB (c.take (k + 1)) = true ↔ ((∀ x ∈ c.take k, litOk n x = true) ∧ ascB (c.take k) = true) ∧ litOk n l = true ∧ (∀ j y, k = j + 1 → c[j]? = some y → litLt y l = true) := by
  rw [List.take_add_one, h, ascB_iff, ascB_iff]
  simp only [Option.toList_some, List.mem_append, List.mem_singleton, List.pairwise_append, List.pairwise_cons, List.Pairwise.nil, List.not_mem_nil]
  constructor
  · rintro ⟨h1, h2, -, h3⟩
    refine ⟨⟨fun x hx => h1 x (.inl hx), h2⟩, h1 l (.inr rfl), fun j y hj hy => h3 y ?_ l rfl⟩
    subst hj
    exact List.mem_of_getElem? (i := j) (by rw [List.getElem?_take, if_pos (by omega)]; exact hy)
  · rintro ⟨⟨h1, h2⟩, h3, h4⟩
    refine ⟨?_, h2, ⟨by simp, trivial⟩, ?_⟩
    · rintro x (hx | rfl)
      · exact h1 x hx
      · exact h3
    · rintro a ha b rfl
      obtain ⟨i, hi⟩ := List.mem_iff_getElem?.1 ha
      have hik : i < k := by have := (List.getElem?_eq_some_iff.1 hi).1; rw [List.length_take] at this; omega
      obtain ⟨j, rfl⟩ : ∃ j, k = j + 1 := ⟨k - 1, by omega⟩
      obtain ⟨y, hy⟩ := get_some (xs := c) (k := j) (by have := (List.getElem?_eq_some_iff.1 h).1; omega)
      have h5 := h4 j y rfl hy
      by_cases hij : i = j
      · subst hij
        rw [List.getElem?_take, if_pos hik, hy] at hi
        cases hi; exact h5
      · refine litLt_trans ?_ h5
        have hj2 : (c.take (j + 1))[j]? = some y := by rw [List.getElem?_take, if_pos (by omega)]; exact hy
        have := List.pairwise_iff_getElem.1 h2 i j (by have := (List.getElem?_eq_some_iff.1 hi).1; omega) (by have := (List.getElem?_eq_some_iff.1 hj2).1; omega) (by omega)
        rw [(List.getElem?_eq_some_iff.1 hi).2, (List.getElem?_eq_some_iff.1 hj2).2] at this
        exact this
end Go.Proofs.YtpfelbbmgbfkeaaGreat
