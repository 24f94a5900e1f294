/-
  Walks of the conversions of the exact laws: copies of what came in, in memory of the call's own.
-/
import Derived.Test.YtjmjjdgbkibdaaaGreatEC
import Derived.Test.YtjmjjdgbkibdaaaGreatG1
set_option linter.unusedVariables false
namespace Go.Proofs.YtjmjjdgbkibdaaaGreat
open Go.RowKit

/-- 'make([]T, n)', of whatever elements. -/
theorem wp_mkG {P : Program} {w : World} {ops : Array Oper} {rest : List Oper} {o : Oper} {a : Act} {Q : Exit → Act → World → Prop} (hgd : o.guard = none) (l c : Operand) (t : TypeId)
    (ho : o.op = Op.makeSlice t l c) (e : TypeId) (z : Value) (size bytes : Nat) (hinfo : (P.info? e).map (fun i => (i.zero, i.size, i.bytes)) = some (some z, size, bytes)) (hby : bytes ≤ 100)
    (ht : P.underlying t = some (.slice e)) (n : Nat) (hl : a.eval l = .int .i64 (n : Int)) (hc : a.eval c = .int .i64 (n : Int)) (hn : n ≤ 1000000000)
    (h : ∀ w', w'.ownsRow w.heap.size e size (.slice (some ⟨w.heap.size, 0, none⟩) n n) n (madeCells z.cells (n * size)).toList → Gr [] w w' → wpList P ops Q rest (a.put o.dst (.slice (some ⟨w.heap.size, 0, none⟩) n n)) w') : wpList P ops Q (o :: rest) a w := by
  obtain ⟨i0, hi, hz0, hz1, hz2⟩ := info_parts hinfo
  have hbb : bytes * n ≤ 100 * n := Nat.mul_le_mul_right _ hby
  refine wpList_make_full w hgd l c t ho w.heap.size e i0 z size ht hi hz0 hz1 .i64 .i64 n n n hl hc rfl rfl (by rw [hz2]; omega) (by simp only [maxLen]; omega) (Nat.le_refl _) ?_
  intro w' hown hg
  exact h w' hown ((Gr.refl _ _).grown hg (by simp))

theorem New.le {B B' : Nat} {w w' : World} {b : Nat} (h : New B w b) (hB : B' ≤ B) (hw : w.heap.size ≤ w'.heap.size) : New B' w' b := ⟨Nat.le_trans hB h.1, Nat.lt_of_lt_of_le h.2 hw⟩

theorem toIntS_c (xs : List Int) (v : Value) (w : World) (hv : Nums [] w .i64 v xs) (hl : xs.length ≤ 2000000) :
    Calls Tryz.prog 20 #[v] w fun e w' => ∃ v', e = .returned v' ∧ Own w.heap.size w' 3 v' xs ∧ Gr [] w w' := by
  have Hv := hid hv
  obtain ⟨ao, cap, rfl, ⟨h1, h2, _⟩, _⟩ := hv
  go_enter Tryz.func20, Tryz.ntmps20
  go_wp2_with (at_make; refine wp_mkN rfl _ _ 22 rfl w.heap.size 3 infoI Tryz.underlying22 xs.length rfl rfl (by omega) (Nat.le_refl _) ?_; intro w1 hown1 hg1; have HO1 := hid hown1; have HG1 := hid hg1; clear hown1 hg1)
  go_loopw [4] (fun i wr => ∃ n : Nat, n ≤ xs.length ∧ i = .int .i64 n ∧ Own w.heap.size wr 3 (.slice (some ⟨w.heap.size, 0, none⟩) xs.length xs.length) (xs.take n ++ List.replicate (xs.length - n) 0) ∧ Gr [] w wr) (fun i _ => xs.length - (intOf i).toNat)
  case atStart => exact ⟨0, Nat.zero_le _, rfl, by simpa using HO1.out, HG1.out⟩
  case round =>
    obtain ⟨n, hn, rfl, hown, hg⟩ := hrel
    by_cases hlt : n < xs.length
    · obtain ⟨x, hx⟩ := get_some hlt
      obtain ⟨b, o, rfl, _, h0⟩ := (Hv.out.gr hg).at hx
      obtain ⟨z, hz⟩ := get_some (xs := xs.take n ++ List.replicate (xs.length - n) 0) (k := n) (by simp; omega)
      obtain ⟨hc1, hc2⟩ := hown.at hz
      have hset := hown.set n x (by simp; omega)
      have hne : Gr [] w (wr.setCell ⟨w.heap.size, n, none⟩ (.int .i64 x)) := hg.setCell _ _ (.inr (Nat.le_refl _))
      have e1 : (xs.take n ++ List.replicate (xs.length - n) 0).set n x = xs.take (n + 1) ++ List.replicate (xs.length - (n + 1)) 0 := by
        have hl : (xs.take n).length = n := by rw [List.length_take]; omega
        rw [List.set_append_right _ _ (by omega), hl, Nat.sub_self, List.take_add_one, hx]
        obtain ⟨k, hk⟩ : ∃ k, xs.length - n = k + 1 := ⟨xs.length - n - 1, by omega⟩
        rw [hk, List.replicate_succ, List.set_cons_zero, show xs.length - (n + 1) = k by omega]; simp
      rw [e1] at hset
      have Hset := hid hset; have Hne := hid hne
      clear hset hne e1 hz hown hg hx
      go_wp2_with fail
      exact ⟨⟨n + 1, by omega, by go_num, Hset.out, Hne.out⟩, by simp [intOf]; omega⟩
    · have e1 : xs.take n ++ List.replicate (xs.length - n) 0 = xs := by rw [List.take_of_length_le (by omega), show xs.length - n = 0 by omega]; simp
      rw [e1] at hown
      have Hown := hid hown
      clear e1 hown
      go_wp2_with fail
      go_ret
      exact ⟨_, rfl, Hown.out, hg⟩

theorem toIntSS_c (rows : List (List Int)) (v : Value) (w : World) (hv : RowsV [] w v rows) (hl : rows.length ≤ 2000000) (hr : ∀ r ∈ rows, r.length ≤ 2000000) :
    Calls Tryz.prog 195 #[v] w fun e w' => ∃ v', e = .returned v' ∧ RowsM (New w.heap.size w') w' v' rows ∧ Gr [] w w' := by
  have Hv := hid hv; have Hr := hid hr
  obtain ⟨ao, cap, rfl, ⟨h1, h2, _⟩, _⟩ := hv
  clear hr
  go_enter Tryz.func195, Tryz.ntmps195
  go_wp2_with (at_make; refine wp_mkG rfl _ _ 41 rfl 22 (.slice none 0 0) 1 24 infoR (by omega) Tryz.underlying41 rows.length rfl rfl (by omega) ?_; intro w1 hown1 hg1; have HO1 := hid (rowsM_made hown1 (by omega)); have HG1 := hid hg1; clear hown1 hg1)
  go_loopw [4] (fun i wr => ∃ n : Nat, n ≤ rows.length ∧ i = .int .i64 n ∧ RowsM (New w.heap.size wr) wr (.slice (some ⟨w.heap.size, 0, none⟩) rows.length rows.length) (rows.take n ++ List.replicate (rows.length - n) []) ∧ Gr [] w wr) (fun i _ => rows.length - (intOf i).toNat)
  case atStart => exact ⟨0, Nat.zero_le _, rfl, by simpa using HO1.out, HG1.out⟩
  case round =>
    obtain ⟨n, hn, rfl, hown, hg⟩ := hrel
    by_cases hlt : n < rows.length
    · obtain ⟨x, hx⟩ := get_some hlt
      obtain ⟨b, o, u, rfl, h0, hn0⟩ := (Hv.out.gr hg).at0 hx
      have hxl := Hr.out x (List.mem_of_getElem? hx)
      have Hn0 := hid hn0; have Hown := hid hown; have Hg := hid hg; have Hx := hid hx
      clear hn0 hown hg hx
      go_wp2_with fail
      have hcall := toIntS_c x u wr Hn0.out hxl
      (with_reducible refine hcall.mono ?_)
      clear hcall
      rintro e w2 ⟨v2, rfl, hown2, hg2⟩
      have hR2 := Hown.out.gr' (M' := New w.heap.size w2) hg2 (by simp) (fun b hb h => h.le (Nat.le_refl _) hg2.size)
      have hN2 : NumsM (but (New w.heap.size w2) w.heap.size) w2 v2 x := hown2.numsM.gr' (Gr.refl [] w2) (by simp) (fun b hb h => ⟨h.le Hg.out.size (Nat.le_refl _), by obtain ⟨y, hy⟩ := get_some (xs := rows.take n ++ List.replicate (rows.length - n) []) (k := 0) (by simp; omega); obtain ⟨b9, o9, u9, e10, hM9, _⟩ := Hown.out.at hy; have e11 : b9 = w.heap.size := (by simp at e10; exact e10.1.symm); have h3 := h.1; have h4 := hM9.2; omega⟩)
      obtain ⟨z, hz⟩ := get_some (xs := rows.take n ++ List.replicate (rows.length - n) []) (k := n) (by simp; omega)
      obtain ⟨hc1, hc2⟩ : (∃ u0, w2.cell? ⟨w.heap.size, n, none⟩ = some u0) ∧ w2.frozen? ⟨w.heap.size, n, none⟩ = false := by
        obtain ⟨b9, o9, u9, e10, _, k1, k2, _⟩ := hR2.at hz
        simp only [Option.some.injEq, Addr.mk.injEq] at e10
        obtain ⟨rfl, rfl, _⟩ := e10
        rw [Nat.zero_add] at k1 k2
        exact ⟨⟨u9, k1⟩, k2⟩
      obtain ⟨u0, hc1⟩ := hc1
      have hset : RowsM (New w.heap.size (w2.setCell ⟨w.heap.size, n, none⟩ v2)) (w2.setCell ⟨w.heap.size, n, none⟩ v2) (.slice (some ⟨w.heap.size, 0, none⟩) rows.length rows.length) ((rows.take n ++ List.replicate (rows.length - n) []).set n x) := by
        have := hR2.set (k := n) (by simp; omega) hN2
        rw [Nat.zero_add] at this
        exact this.move fun a u ha hu => ⟨hu, rfl, ha.1, by simpa using ha.2⟩
      have e1 : (rows.take n ++ List.replicate (rows.length - n) []).set n x = rows.take (n + 1) ++ List.replicate (rows.length - (n + 1)) [] := by
        have hl : (rows.take n).length = n := by rw [List.length_take]; omega
        rw [List.set_append_right _ _ (by omega), hl, Nat.sub_self, List.take_add_one, Hx.out]
        obtain ⟨k, hk⟩ : ∃ k, rows.length - n = k + 1 := ⟨rows.length - n - 1, by omega⟩
        rw [hk, List.replicate_succ, List.set_cons_zero, show rows.length - (n + 1) = k by omega]; simp
      rw [e1] at hset
      have hne : Gr [] w (w2.setCell ⟨w.heap.size, n, none⟩ v2) := (Hg.out.trans hg2).setCell _ _ (.inr (Nat.le_refl _))
      obtain ⟨vo, vc, rfl, _, _⟩ := hown2.nums (S := []) (by simp)
      have Hset := hid hset; have Hne := hid hne
      clear hset hne e1 hz hown2 hg2 hR2 hN2
      go_wp2_with fail
      exact ⟨⟨n + 1, by omega, by go_num, Hset.out, Hne.out⟩, by simp [intOf]; omega⟩
    · have e1 : rows.take n ++ List.replicate (rows.length - n) [] = rows := by rw [List.take_of_length_le (by omega), show rows.length - n = 0 by omega]; simp
      rw [e1] at hown
      have Hown := hid hown
      clear e1 hown
      go_wp2_with fail
      go_ret
      exact ⟨_, rfl, Hown.out, hg⟩
end Go.Proofs.YtjmjjdgbkibdaaaGreat
