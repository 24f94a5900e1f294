/-
  Walks: NegateAll on both sides.
-/
import Derived.Test.YtpfelbbmgbfkeaaMg
import Derived.Deep.RegionHeldLaw
set_option linter.unusedVariables false
set_option linter.unusedSimpArgs false
namespace Go.Proofs.Ytpfelbbmgbfkeaa
open Go.RowKit

theorem sortL_map_snoc {ls : Cls} {n : Nat} {l : Lit} (h : ls[n]? = some l) : sortL ((ls.take (n + 1)).map negL) = mergeL (sortL ((ls.take n).map negL)) [negL l] := by
  rw [List.take_add_one, h]
  unfold sortL mergeL
  simp
set_option maxRecDepth 100000 in
set_option maxHeartbeats 2000000 in
theorem specNegateAll0_c (ls : Cls) (v : Value) (w : World) (hv : LitsV [] w v ls) (hl : ls.length ≤ 10000) :
    Calls Try.prog 33 #[v] w fun e w' => ∃ v', e = .returned v' ∧ LitsM (New w.heap.size w') w' v' (negsL ls) ∧ Gr [] w w' := by
  have Hv := hid hv
  obtain ⟨ao, cap, rfl, ⟨h1, h2⟩⟩ := hv.slice
  clear hv
  go_enter Try.func33, Try.ntmps33
  go_wp2_with fail
  go_loopw [3, 4] (fun sv i wr => ∃ n m g c : Nat, n ≤ ls.length ∧ i = .int .i64 n ∧ sv = .slice (some ⟨g, 0, none⟩) m c ∧ Hid (OwnL w.heap.size wr 62 (.slice (some ⟨g, 0, none⟩) m c) (sortL ((ls.take n).map negL))) ∧ Gr [] w wr) (fun _ i _ => ls.length - (intOf i).toNat)
  case atStart => exact ⟨0, 0, w.heap.size, 0, Nat.zero_le _, rfl, rfl, hid (OwnL.empty w 62 (Nat.le_refl _)), (Gr.refl [] w).alloc _⟩
  case round =>
    obtain ⟨n, m, g, c, hn, rfl, rfl, Ho, hg⟩ := hrel
    have Hg := hid hg
    by_cases hlt : n < ls.length
    · obtain ⟨x, hx⟩ := get_some hlt
      obtain ⟨b, o, rfl, -, c0, c1, c2⟩ := (Hv.out.gr hg).at hx
      have Hsn := hid (sortL_map_snoc hx)
      have hln : (sortL ((ls.take n).map negL)).length ≤ 10000 := by
        have := sortL_len ((ls.take n).map negL)
        rw [List.length_map, List.length_take] at this
        omega
      obtain ⟨d, hd⟩ : ∃ d, d = sortL ((ls.take n).map negL) := ⟨_, rfl⟩
      rw [← hd] at Ho Hsn hln
      have Hln := hid hln
      have HM : Hid (Calls Try.prog 67 #[.slice (some ⟨g, 0, none⟩) m c, .slice (some ⟨wr.heap.size, 0, none⟩) 1 1] (wr.alloc (.cells #[.int .i64 x.var, .int .i64 x.val, .bool (!x.neg)] 62)).drew fun e w' => ∃ g c m, e = .returned (.slice (some ⟨g, 0, none⟩) m c) ∧ OwnL wr.heap.size w' 62 (.slice (some ⟨g, 0, none⟩) m c) (mergeL d [negL x]) ∧ Gr [] wr w') := hid (by
        have ha : Gr [] wr (wr.alloc (.cells #[.int .i64 x.var, .int .i64 x.val, .bool (!x.neg)] 62)).drew := ((Gr.refl [] wr).alloc _).drew
        refine (mergeClauses_c d [negL x] _ _ _ ((Ho.out.gr ha (by simp)).lits (by simp)) ((litsNew wr (negL x) 62 [] (by simp)).gr (Gr.refl [] _).drew) (by have := Hln.out; simp; omega)).mono ?_
        rintro e w' ⟨g', c', rfl, ho, hg⟩
        exact ⟨g', c', _, rfl, ho.le ha.size, ha.trans hg⟩)
      have HK : Hid (∀ W, Gr [] wr W → W.cell? ⟨b, o + n * 3, none⟩ = some (.int .i64 x.var) ∧ W.cell? ⟨b, o + n * 3 + 1, none⟩ = some (.int .i64 x.val) ∧ W.cell? ⟨b, o + n * 3 + 2, none⟩ = some (.bool x.neg)) := hid fun W h => ⟨h.cell c0 (by simp), h.cell c1 (by simp), h.cell c2 (by simp)⟩
      clear hx hd hln hg
      go_wp2_with fail
      go_region_held_law (fun W => W.cell? ⟨b, o + n * 3, none⟩ = some (.int .i64 x.var) ∧ W.cell? ⟨b, o + n * 3 + 1, none⟩ = some (.int .i64 x.val) ∧ W.cell? ⟨b, o + n * 3 + 2, none⟩ = some (.bool x.neg))
        (first | exact HK.out _ (Gr.refl [] wr) | exact HK.out _ (Gr.refl [] wr).drew | exact HK.out _ ((Gr.refl [] wr).alloc _).drew | exact HK.out _ hgz | assumption)
        (first | (go_simp; go_at_call 67; refine HM.out.mono ?_; rintro e wz ⟨gz, cz, mz, rfl, hoz, hgz⟩; (try dsimp only)))
      go_wp2_with fail
      exact ⟨⟨n + 1, mz, gz, cz, by omega, by go_num, rfl, hid (by rw [Hsn.out]; exact hoz.le Hg.out.size), Hg.out.trans hgz⟩, by simp [intOf]; omega⟩
    · go_wp2_with fail
      go_ret
      have h2 := Ho.out
      rw [List.take_of_length_le (by omega)] at h2
      exact ⟨_, rfl, h2.litsM, Hg.out⟩

/-- The list that NegateAll hands back. -/
def negR (n : Int) (ls : Cls) : Cls := if validCl ls n then negsL ls else []
theorem negR_len {n : Int} {ls : Cls} : (negR n ls).length ≤ ls.length := by
  unfold negR
  split
  · exact negsL_len ls
  · simp
set_option maxRecDepth 100000 in
theorem NegateAll_c (ls : Cls) (n : Int) (v : Value) (w : World) (hv : LitsV [] w v ls) (hl : ls.length ≤ 2000000) (hn : I64 n) :
    Calls Try.prog 7 #[.int .i64 n, v] w fun e w' => ∃ v', e = .returned (.tuple #[v', .bool (validCl ls n)]) ∧ LitsM (New w.heap.size w') w' v' (negR n ls) ∧ Gr [] w w' := by
  have Hv := hid hv; have Hn := hid hn
  obtain ⟨ao, cap, rfl, ⟨h1, h2⟩⟩ := hv.slice
  clear hv hn
  go_enter Try.func7, Try.ntmps7
  go_wp2_with fail
  have hcall := ValidClause_c ls n _ w Hv.out hl Hn.out
  (with_reducible refine hcall.mono ?_)
  clear hcall
  rintro e w1 ⟨rfl, hg1⟩
  have Hg1 := hid hg1
  clear hg1
  cases hb : validCl ls n
  · go_wp2_with fail
    go_ret2
    unfold negR
    rw [hb]
    exact ⟨_, rfl, LitsM.nil _ _, Hg1.out⟩
  · have hb' := hb
    unfold validCl at hb'
    rw [Bool.and_eq_true] at hb'
    obtain ⟨k1, k2, k3⟩ := validClS_iff.1 hb'.2
    have Hnd := hid (asc_nodup k2)
    clear k1 k2 hb'
    go_wp2_with fail
    have hcall := negations_c ls _ w1 (Hv.out.gr Hg1.out) (by omega) Hnd.out
    (with_reducible refine hcall.mono ?_)
    clear hcall
    rintro e w2 ⟨v2, rfl, hm2, hg2⟩
    go_wp2_with fail
    go_ret2
    unfold negR
    rw [hb]
    exact ⟨_, rfl, hm2.le Hg1.out.size, Hg1.out.trans hg2⟩
set_option maxRecDepth 100000 in
theorem specValidClauseT_c (c : Cls) (n : Int) (cv : Value) (w : World) (hc : LitsV [] w cv c) (hl : c.length ≤ 2000000) :
    Calls Try.prog 32 #[cv, .int .i64 n] w fun e w' => e = .returned (.bool (validCl c n)) ∧ Gr [] w w' := by
  have Hc := hid hc
  obtain ⟨ao, cap, rfl, ⟨h1, h2⟩⟩ := hc.slice
  clear hc
  unfold validCl
  cases hb : inB 1 4 n
  · go_enter Try.func32, Try.ntmps32
    go_wp2_with fail
    have hcall := inRange_c n 1 4 w
    (with_reducible refine hcall.mono ?_)
    clear hcall
    rw [hb]
    rintro e w1 ⟨rfl, rfl⟩
    go_wp2_with fail
    go_ret
    exact ⟨rfl, Gr.refl _ _⟩
  · have hn := inB_iff.1 hb
    have Hn := hid hn
    clear hn
    go_enter Try.func32, Try.ntmps32
    go_wp2_with fail
    have hcall := inRange_c n 1 4 w
    (with_reducible refine hcall.mono ?_)
    clear hcall
    rw [hb]
    rintro e w1 ⟨rfl, rfl⟩
    go_wp2_with fail
    have hcall := specValidClause_c c n _ _ Hc.out hl Hn.out
    (with_reducible refine hcall.mono ?_)
    clear hcall
    rintro e w2 ⟨rfl, hg2⟩
    go_wp2_with fail
    go_ret
    exact ⟨rfl, hg2⟩
set_option maxRecDepth 100000 in
theorem specNegateAll_c (ls : Cls) (n : Int) (v : Value) (w : World) (hv : LitsV [] w v ls) (hl : ls.length ≤ 2000000) :
    Calls Try.prog 8 #[.int .i64 n, v] w fun e w' => ∃ v', e = .returned (.tuple #[v', .bool (validCl ls n)]) ∧ LitsM (New w.heap.size w') w' v' (negR n ls) ∧ Gr [] w w' := by
  have Hv := hid hv
  obtain ⟨ao, cap, rfl, ⟨h1, h2⟩⟩ := hv.slice
  clear hv
  go_enter Try.func8, Try.ntmps8
  go_wp2_with fail
  have hcall := specValidClauseT_c ls n _ w Hv.out hl
  (with_reducible refine hcall.mono ?_)
  clear hcall
  rintro e w1 ⟨rfl, hg1⟩
  have Hg1 := hid hg1
  clear hg1
  cases hb : validCl ls n
  · go_wp2_with fail
    go_ret2
    unfold negR
    rw [hb]
    exact ⟨_, rfl, LitsM.nil _ _, Hg1.out⟩
  · have hb' := hb
    unfold validCl at hb'
    rw [Bool.and_eq_true] at hb'
    obtain ⟨k1, k2, k3⟩ := validClS_iff.1 hb'.2
    clear k1 k2 hb'
    go_wp2_with fail
    have hcall := specNegateAll0_c ls _ w1 (Hv.out.gr Hg1.out) (by omega)
    (with_reducible refine hcall.mono ?_)
    clear hcall
    rintro e w2 ⟨v2, rfl, hm2, hg2⟩
    go_wp2_with fail
    go_ret2
    unfold negR
    rw [hb]
    exact ⟨_, rfl, hm2.le Hg1.out.size, Hg1.out.trans hg2⟩
end Go.Proofs.Ytpfelbbmgbfkeaa
