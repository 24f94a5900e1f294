/-
  Walks of the generators of texts of models.
-/
import Derived.Test.YtmonhpoogfdpoaaGreatDoorPU5
import Derived.Test.YtmonhpoogfdpoaaGreatDoorPRv
set_option linter.unusedVariables false
set_option linter.unusedSimpArgs false
namespace Go.Proofs.YtmonhpoogfdpoaaGreatDoor
open Go.RowKit
attribute [local go_sem] ByteArray.mk_append_mk

theorem strs_new (w : World) (t : TypeId) (xs : List Bs) {S : List Nat} (hS : w.heap.size ∉ S) (hl : xs.length ≤ 9223372036854775807 := by simp) :
    Strs S (w.alloc (.cells (xs.map str).toArray t)) (.slice (some ⟨w.heap.size, 0, none⟩) xs.length xs.length) xs :=
  ⟨_, _, rfl, ⟨Nat.le_refl _, hl, by simp⟩, fun i x hi => ⟨w.heap.size, 0, rfl, hS, by
    rw [World.cell?_alloc_at _ _ _ _ rfl]; simp [hi, str]⟩⟩


/-- 'of': one of the strings of a list that is not empty. -/
theorem of_c (R : Nat) (bs : List Int) (q : Nat) (v : Value) (xs : List Bs) (w : World) (hr : Rd w R bs q) (hv : Strs [R] w v xs) (hq : q ≤ 1000000000) (hx : xs ≠ []) (hxl : xs.length ≤ 1000000) :
    Calls Tryz.prog 50 #[.pointer (some ⟨R, 0, none⟩), v] w (fun e w' => (∃ x : Bs, e = .returned (.string ⟨x.toArray⟩) ∧ x ∈ xs) ∧ Rd w' R bs (q + 1) ∧ Gr [R] w w') := by
  have hpos : 0 < xs.length := List.length_pos_iff.2 hx
  obtain ⟨ao, cap, rfl, ⟨hlc, hcm, hnil⟩, hc⟩ := hv
  have hlen : xs.length ≤ 9223372036854775807 := by omega
  clear hnil
  have Hc := hid hc; clear hc
  go_enter Tryz.func50, Tryz.ntmps50
  go_wp2_with fail
  refine (pick_c R bs q xs.length w hr hq (by omega)).mono ?_
  rintro e w1 ⟨⟨r, rfl, hr0, hr6⟩, hrd1, hg1⟩
  obtain ⟨r, rfl⟩ := Int.eq_ofNat_of_zero_le hr0
  obtain ⟨x, hxr⟩ : ∃ x, xs[r]? = some x := ⟨_, List.getElem?_eq_getElem (show r < xs.length by omega)⟩
  obtain ⟨b, o, rfl, hs, hcell⟩ := (Hc.out.gr hg1) r x hxr
  have HX := hid hxr; clear hxr
  have hrl : r < xs.length := by omega
  go_wp2_with fail
  go_ret
  exact ⟨⟨x, rfl, List.mem_of_getElem? HX.out⟩, hrd1, hg1⟩


set_option maxHeartbeats 2000000 in
theorem mutate_c (R : Nat) (bs : List Int) (q : Nat) (s : Bs) (w : World) (hr : Rd w R bs q) (hq : q ≤ 100000000) (hs : s.length ≤ 100000) :
    Calls Tryz.prog 20 #[.pointer (some ⟨R, 0, none⟩), .string ⟨s.toArray⟩] w (fun e w' => (∃ t : Bs, e = .returned (.string ⟨t.toArray⟩) ∧ t.length ≤ s.length + 10) ∧ Gr [R] w w') := by
  have Hr := hid hr; clear hr
  go_enter Tryz.func20, Tryz.ntmps20
  go_wp2_with fail
  refine (pick_c R bs q ((s.length : Int) + 1) w Hr.out (by omega) (by omega)).mono ?_
  rintro e w1 ⟨⟨k, rfl, hk0, hkn⟩, hrd1, hg1⟩
  obtain ⟨k, rfl⟩ := Int.eq_ofNat_of_zero_le hk0
  have hk : k ≤ s.length := by omega
  have Hrd1 := hid hrd1; have Hg1 := hid hg1
  clear hk0 hkn hrd1 hg1
  go_wp2_with fail
  refine (pick_c R bs (q + 1) 5 w1 Hrd1.out (by omega) (by omega)).mono ?_
  rintro e w2 ⟨⟨c, rfl, hc0, hcn⟩, hrd2, hg2⟩
  have Hg2 := hid (Hg1.out.trans hg2); have Hrd2 := hid hrd2
  have hRl := hrd2.lt
  clear hrd2 hg2 hc0 hcn
  have hbs := bs_size s
  cases h0 : (c == 0)
  · cases h1 : (c == 1)
    · cases h2 : (c == 2)
      · go_wp2_with fail
        go_ret
        exact ⟨⟨s, rfl, by omega⟩, Hg2.out⟩
      · go_wp2_with fail
        refine (of_c R bs (q + 2) _ [[48], [32], [10], [44, 49], [120]] _ (Hrd2.out.gr ((Gr.refl _ _).alloc _)) (strs_new _ _ _ (by simp; omega)) (by omega) (by simp) (by simp)).mono ?_
        rintro e w3 ⟨⟨x, rfl, hx⟩, -, hg3⟩
        have hxl : x.length ≤ 2 := by
          simp only [List.mem_cons, List.not_mem_nil, or_false] at hx
          rcases hx with rfl | rfl | rfl | rfl | rfl <;> decide
        clear hx
        go_wp2_with fail
        go_ret
        exact ⟨⟨s ++ x, rfl, by rw [List.length_append]; omega⟩, (Hg2.out.alloc _).trans hg3⟩
    · obtain ⟨A, hA⟩ : ∃ A, A = s.take k := ⟨_, rfl⟩
      have lA : A.length ≤ s.length := by rw [hA, List.length_take]; omega
      have x1 : (⟨s.toArray⟩ : ByteArray).extract 0 k = ⟨A.toArray⟩ := by rw [hA]; exact Value.string.inj (str_extract s 0 k)
      clear hA
      go_wp2_with fail
      go_ret
      exact ⟨⟨A, rfl, by omega⟩, Hg2.out⟩
  · by_cases hlt : k < s.length
    · obtain ⟨A, hA⟩ : ∃ A, A = s.take k := ⟨_, rfl⟩
      obtain ⟨B, hB⟩ : ∃ B, B = s.drop (k + 1) := ⟨_, rfl⟩
      have lA : A.length ≤ s.length := by rw [hA, List.length_take]; omega
      have lB : B.length ≤ s.length := by rw [hB, List.length_drop]; omega
      have lAB : A.length + B.length ≤ s.length := by rw [hA, hB, List.length_take, List.length_drop]; omega
      have x1 : (⟨s.toArray⟩ : ByteArray).extract 0 k = ⟨A.toArray⟩ := by rw [hA]; exact Value.string.inj (str_extract s 0 k)
      obtain ⟨k1, hk1⟩ : ∃ k1, k1 = k + 1 := ⟨_, rfl⟩
      have x2 : (⟨s.toArray⟩ : ByteArray).extract k1 s.length = ⟨B.toArray⟩ := by rw [hB, hk1]; exact Value.string.inj (str_rest s (k + 1))
      have k1c : (k : Int) + 1 = (k1 : Int) := by omega
      have k1w : IntKind.i64.wrap (k1 : Int) = k1 := by rw [IntKind.wrap_i64]; omega
      have k1l : k1 ≤ s.length := by omega
      clear hA hB hk1
      go_wp2_with fail
      go_region_law (first
        | (go_simp; go_at_call 50; refine (of_c R bs (q + 1 + 1) _ [[48], [49], [32], [45], [44], [10], [120], [61]] _ (by first | exact Hrd2.out.gr (((Gr.refl [] w2).drew).alloc _) | exact Hrd2.out.gr ((Gr.refl [] w2).alloc _)) (strs_new _ _ _ (by simp <;> omega)) (by omega) (by simp) (by simp)).mono ?_; rintro e w3 ⟨⟨x, rfl, hx⟩, -, hg3⟩; have hxl : x.length ≤ 1 := (by simp only [List.mem_cons, List.not_mem_nil, or_false] at hx; rcases hx with rfl | rfl | rfl | rfl | rfl | rfl | rfl | rfl <;> decide); have cc1 : ¬ 9223372036854775807 < A.length + x.length := (by omega); have cc2 : ¬ 9223372036854775807 < A.length + x.length + B.length := (by omega); have cc3 : ¬ 9223372036854775807 < A.length + (x.length + B.length) := (by omega); have Hg3 : Hid (Gr [R] w w3) := hid (by first | exact ((Hg2.out.drew).alloc _).trans hg3 | exact (Hg2.out.alloc _).trans hg3); clear hx hg3; (try dsimp only)))
      all_goals
        go_wp2_with fail
        go_ret
        exact ⟨⟨_, rfl, by simp only [List.length_append]; omega⟩, Hg3.out⟩
    · go_wp2_with fail
      go_ret
      exact ⟨⟨s, rfl, by omega⟩, Hg2.out⟩


theorem DrawDecodeModel_c (v : Value) (bs : List Int) (w : World) (ao : Option Addr) (cap : Nat) (hv : v = .slice ao bs.length cap) (hlen : bs.length ≤ 9223372036854775807) (hcap : bs.length ≤ cap) (hc : Cells [] w .u8 ao bs) (hb : ∀ b ∈ bs, 0 ≤ b ∧ b ≤ 255) :
    Calls Tryz.prog 6 #[v] w (fun e w' => (∃ t : Bs, e = .returned (.string ⟨t.toArray⟩) ∧ t.length ≤ 1000000) ∧ Gr [] w w') := by
  subst hv
  have Hc := hid hc; have Hb := hid hb; clear hc hb
  go_enter Tryz.func6, Tryz.ntmps6
  go_wp2_with fail
  have hcall := newReader_c _ bs _ ao cap rfl hlen hcap Hc.out Hb.out
  (with_reducible refine hcall.mono ?_)
  clear hcall
  rintro e w1 ⟨⟨R, cs, rfl, hR, hrd1⟩, hg1⟩
  have Hg1 := hid hg1; have Hrd1 := hid hrd1
  clear hg1 hrd1
  go_wp2_with fail
  have hcall := randomModel_v R cs 0 _ Hrd1.out (by omega)
  (with_reducible refine hcall.mono ?_)
  clear hcall
  rintro e w2 ⟨m, M, bo, ac, co, cc, rfl, hown, hdM, ⟨hM1, hM2⟩, hcs, ⟨hd1, hd4⟩, hc4, htv, hrd2, hg2, hval⟩
  have hmv := ModPost.modv (S := []) (by simp) hM1 hown hcs
  have hsm := mod_small hd4 hc4 (fun c hc => (⟨(htv c hc).1.small, (htv c hc).2⟩ : SmallV c))
  have Hmv := hid hmv; have Hsm := hid hsm; have Hval := hid hval; have Hrd2 := hid hrd2
  have Hg2 := hid ((Hg1.out).step hg2 (fun i hi => .inr (by simp at hi; omega)))
  clear hmv hsm hval hrd2 hg2 hown hcs htv hdM
  go_wp2_with fail
  have hcall := specEncodeModel_c m _ _ Hmv.out Hsm.out
  (with_reducible refine hcall.mono ?_)
  clear hcall
  rw [if_pos Hval.out]
  rintro e w3 ⟨rfl, hg3⟩
  have hel := encM_len Hval.out
  obtain ⟨s, hs⟩ : ∃ s, s = encM m := ⟨_, rfl⟩
  rw [← hs] at hel ⊢
  have Hrd3 := hid (Hrd2.out.gr hg3); have Hg3 := hid (Hg2.out.trans hg3)
  clear hg3 hs
  go_wp2_with fail
  refine (pick_c R cs _ 2 w3 Hrd3.out (by omega) (by omega)).mono ?_
  rintro e w4 ⟨⟨c, rfl, hc0, hcn⟩, hrd4, hg4⟩
  have Hg4 := hid (Hg3.out.step hg4 (fun i hi => .inr (by simp at hi; omega))); have Hrd4 := hid hrd4
  clear hrd4 hg4
  cases h0 : (c == 0)
  · go_wp2_with fail
    refine (mutate_c R cs _ s w4 Hrd4.out (by omega) (by omega)).mono ?_
    rintro e w5 ⟨⟨t, rfl, ht⟩, hg5⟩
    have hg := Hg4.out.step hg5 (fun i hi => .inr (by simp at hi; omega))
    go_wp2_with fail
    go_ret
    exact ⟨⟨t, rfl, by omega⟩, hg⟩
  · go_wp2_with fail
    go_ret
    exact ⟨⟨s, rfl, by omega⟩, Hg4.out⟩


set_option maxRecDepth 100000 in
theorem DrawEncodeModel_c (v : Value) (bs : List Int) (w : World) (ao : Option Addr) (cap : Nat) (hv : v = .slice ao bs.length cap) (hlen : bs.length ≤ 9223372036854775807) (hcap : bs.length ≤ cap) (hc : Cells [] w .u8 ao bs) (hb : ∀ b ∈ bs, 0 ≤ b ∧ b ≤ 255) :
    Calls Tryz.prog 12 #[v] w (DrawPost w) := by
  subst hv
  have Hc := hid hc; have Hb := hid hb; clear hc hb
  have hg0 : Gr [] w (w.alloc (.cells #[.slice none 0 0, .slice none 0 0] 27)) := (Gr.refl _ _).alloc _
  have hr0 : (w.alloc (.cells #[.slice none 0 0, .slice none 0 0] 27)).heap[w.heap.size]? = some (.cells #[.slice none 0 0, .slice none 0 0] 27 (0, 0)) := heap_alloc_new _ _
  have Hr0 := hid hr0; have Hg0 := hid hg0; clear hr0 hg0
  go_enter Tryz.func12, Tryz.ntmps12
  go_wp2_with fail
  have hcall := newReader_c _ bs _ ao cap rfl hlen hcap (Hc.out.gr Hg0.out) Hb.out
  (with_reducible refine hcall.mono ?_)
  clear hcall
  rintro e w1 ⟨⟨R, cs, rfl, hR, hrd1⟩, hg1⟩
  go_wp2_with fail
  have hcall := anyModel_c R cs 0 _ hrd1 (by omega)
  (with_reducible refine hcall.mono ?_)
  clear hcall
  rintro e w2 ⟨m, M, bo, ac, co, cc, rfl, hown, hdM, ⟨hM1, hM2⟩, hcs, ⟨hd1, hd4⟩, hc4, htv, hrd2, hg2⟩
  simp only [World.size_alloc] at hR
  have hr2 := hg2.obj (hg1.obj Hr0.out (by simp)) (by simp; omega)
  have Hown := hid hown; have Hcs := hid hcs; have Htv := hid htv; have Hr2 := hid hr2
  have HG : Hid (Gr [] w w2) := hid ((Hg0.out.trans hg1).step hg2 (fun i hi => .inr (by simp at hi; omega)))
  have hsz := (hg1.trans (Gr.refl _ _)).size
  simp only [World.size_alloc] at hsz
  clear hown hcs htv hr2 hg1 hg2 hrd1 hrd2
  go_wp2_with ((with_reducible show wpList _ _ _ (⟨none, Op.store _ (Operand.tmp 2) (Operand.tmp 5), _, _, _, none⟩ :: _) _ _); refine wp_storeT 27 2 5 w.heap.size #[.slice bo m.doms.length ac, .slice co m.cons.length cc] 27 #[.slice none 0 0, .slice none 0 0] Hr2.out ⟨sizeM, rfl, rfl, rfl, one2 _ _ _ _ _ _⟩ ?_; intro wE hbE hgE)
  have flE := fld hbE
  refine bodyPost_ret (v := .agg #[.slice bo m.doms.length ac, .slice co m.cons.length cc]) ?_ rfl ?_
  · simp [results, Tryz.results12, go_sem, flE]
  · exact ⟨m, _, rfl, ModPost.modv (by simp) hM1 (Hown.out.gr hgE (by simp; omega)) (Hcs.out.gr elCon_ok hgE (by simp; omega)), mod_small hd4 hc4 Htv.out, HG.out.step hgE (fun i hi => .inr (by simp at hi; omega))⟩

end Go.Proofs.YtmonhpoogfdpoaaGreatDoor
