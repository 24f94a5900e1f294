/-
  Walks of the program's texts of numbers, lists and domains.
  Walk of the program's text of a constraint.
-/
import Derived.Test.YtmonhpoogfdpoaaGreatDoorPTl
import Derived.Test.YtmonhpoogfdpoaaGreatDoorPU3
import Derived.Test.YtmonhpoogfdpoaaGreatDoorPU4
import Derived.Deep.CutRange
set_option linter.unusedVariables false
set_option linter.unusedSimpArgs false
namespace Go.Proofs.YtmonhpoogfdpoaaGreatDoor
open Go.RowKit
attribute [local go_sem] ByteArray.mk_append_mk

theorem numsT_len2 {l : List Int} (h : ∀ x ∈ l, I64 x) : (numsT l).length ≤ 22 * l.length := by
  unfold numsT
  cases l with
  | nil => simp [Lib.join_nil]
  | cons n l =>
    have : ∀ k : List Int, (∀ x ∈ k, I64 x) → Lib.lens (k.map num) ≤ 21 * k.length := by
      intro k
      induction k with
      | nil => intro _; simp [Lib.lens]
      | cons x k ih =>
        intro hk
        have h1 := ih fun y hy => hk y (by simp [hy])
        have h2 := Lib.itoa_length_le x (hk x (by simp)).1 (hk x (by simp)).2
        simp only [Lib.lens, List.map_cons, List.sum_cons, List.length_cons, num] at h1 ⊢
        omega
    have := this (n :: l) h
    rw [List.map_cons] at this ⊢
    rw [Lib.join_length]
    simp only [List.length_cons, List.length_nil, List.length_map] at this ⊢
    omega
theorem joined_c (l : List Int) (v : Value) (w : World) (hv : Nums [] w .i64 v l) (hI : ∀ x ∈ l, I64 x) (hl : l.length ≤ 3000000) (h0 : l ≠ []) (hT : TabT w) :
    Calls Tryz.prog 104 #[v, .string ⟨#[44]⟩] w fun e w' => e = .returned (.string ⟨(numsT l).toArray⟩) ∧ Gr [] w w' := by
  obtain ⟨ao, cap, rfl, ⟨hlc, hcm, _⟩, hc⟩ := hv
  have Hc := hid hc; have HI := hid hI; have HT := hid hT
  clear hc hI hT
  go_enter Tryz.func104, Tryz.ntmps104
  go_wp2_with (refine wp_mkS0 rfl _ _ 42 rfl w.heap.size 9 infoS Tryz.underlying42 l.length rfl rfl (by omega) (Nat.le_refl _) ?_; intro w1 hown1 hg1)
  have hs1 := hg1.size
  go_loopw [5, 13] (fun u i wr => ∃ n : Nat, n ≤ l.length ∧ i = .int .i64 n ∧ OwnS w.heap.size wr 9 u ((l.take n).map num) ∧ Gr [] w wr) (fun _ i _ => l.length - (intOf i).toNat)
  case atStart => exact ⟨0, Nat.zero_le _, rfl, hown1, hg1⟩
  case round =>
    obtain ⟨n, hn, rfl, hown, hg⟩ := hrel
    have hsz := hg.size
    obtain ⟨zs, hzs⟩ : ∃ zs, zs = (l.take n).map num := ⟨_, rfl⟩
    have hzl : zs.length ≤ 3000000 := by rw [hzs]; simp; omega
    rw [← hzs] at hown
    have HZ := hid hzs; clear hzs
    obtain ⟨po, pc, rfl⟩ := hown.form
    have HO := hid hown
    by_cases hlt : n < l.length
    · obtain ⟨x, hx⟩ := get_some hlt
      obtain ⟨b, o, rfl, _, hcell⟩ := Hc.out n x hx
      have hcell' := hg.cell hcell (by simp)
      have hxi := HI.out x (List.mem_of_getElem? hx)
      have hts : (l.take (n + 1)).map num = zs ++ [num x] := by rw [HZ.out, List.take_add_one, hx]; simp
      have Hts := hid hts
      obtain ⟨Y, hY⟩ : ∃ Y, Y = num x := ⟨_, rfl⟩
      have HY := hid hY
      clear hx hts hown hY
      have hT2 := HT.out.gr hg
      go_wp2_with (first
        | (go_at_call 70; (with_reducible refine (Itoa_c x hxi _ hT2).mono ?_); rw [← HY.out]; rintro e w2 ⟨rfl, hg2⟩; have HO2 := hid (HO.out.gr hg2 (by simp)); have hs2 := hg2.size)
        | (at_builtin; refine wp_appS1 rfl _ _ 42 9 rfl w.heap.size 9 infoS Tryz.underlying42 (.slice po zs.length pc) zs rfl (HO2.out.alloc _) _ 1 Y rfl (cell_new _ _ _) (by omega) (by rw [World.size_alloc]; omega) ?_; intro v' w4 hown4 hb4))
      refine ⟨⟨n + 1, by omega, by go_num, by rw [Hts.out, ← HY.out]; exact hown4, ((hg.trans hg2).alloc _).low hb4 (Nat.le_refl _)⟩, by simp [intOf]; omega⟩
    · have hnl : n = l.length := by omega
      rw [hnl, List.take_length] at HZ
      have hJ := hid (Join_c zs (.slice po zs.length pc) wr (HO.out.strs (by simp)) (by omega) (by
        have := numsT_len2 HI.out
        unfold numsT at this
        rw [HZ.out]; omega) (by rw [HZ.out]; simpa using h0))
      clear hown hnl
      go_wp2_with (go_at_call 71; (with_reducible refine hJ.out.mono ?_); rintro e w2 ⟨rfl, hg2⟩)
      go_ret
      exact ⟨by rw [HZ.out]; rfl, hg.trans hg2⟩
theorem listText_c (l : List Int) (v : Value) (w : World) (hv : Nums [] w .i64 v l) (hI : ∀ x ∈ l, I64 x) (hl : l.length ≤ 3000000) (hT : TabT w) :
    Calls Tryz.prog 72 #[v] w fun e w' => e = .returned (.string ⟨(listT l).toArray⟩) ∧ Gr [] w w' := by
  obtain ⟨ao, cap, rfl, hx⟩ := id hv
  clear hx
  have Hv := hid hv; have HI := hid hI; have HT := hid hT
  clear hv hI hT
  by_cases h0 : l = []
  · have hl0 : ((l.length : Int) == 0) = true := by rw [h0]; rfl
    have hl0' : (l.length == 0) = true := by rw [h0]; rfl
    have H0 := hid h0; clear h0
    go_enter Tryz.func72, Tryz.ntmps72
    go_wp2_with fail
    go_ret
    exact ⟨by unfold listT; rw [if_pos H0.out]; rfl, Gr.refl _ _⟩
  · have hl0 : ((l.length : Int) == 0) = false := beq_eq_false_iff_ne.2 (by have := List.length_pos_iff.2 h0; omega)
    have hl0' : (l.length == 0) = false := beq_eq_false_iff_ne.2 (by have := List.length_pos_iff.2 h0; omega)
    have H0 := hid h0; clear h0
    go_enter Tryz.func72, Tryz.ntmps72
    go_wp2_with (go_at_call 104; (with_reducible refine (joined_c l _ _ Hv.out HI.out hl H0.out HT.out).mono ?_); rintro e w1 ⟨rfl, hg1⟩)
    go_ret
    exact ⟨by unfold listT; rw [if_neg H0.out]; rfl, hg1⟩
theorem implKeywords_c (w : World) : Calls Tryz.prog 56 #[] w fun e w' => e = .returned (.slice (some ⟨w.heap.size, 0, none⟩) 10 10) ∧ w' = w.alloc (.cells kwCells 9) := by
  go_enter Tryz.func56, Tryz.ntmps56
  go_wp2_with fail
  go_ret
  exact ⟨rfl, rfl⟩
end Go.Proofs.YtmonhpoogfdpoaaGreatDoor

set_option linter.unusedVariables false
set_option linter.unusedSimpArgs false
namespace Go.Proofs.YtmonhpoogfdpoaaGreatDoor
open Go.RowKit
attribute [local go_sem] ByteArray.mk_append_mk

theorem sm_i64 {l : List Int} (h : Sm l) : ∀ x ∈ l, I64 x := fun x hx => by have := h x hx; unfold I64; omega
theorem sm1_i64 {n : Int} (h : -999 ≤ n ∧ n ≤ 999) : I64 n := by unfold I64; omega

theorem text_c (c : Con) (v : Value) (w : World) (hv : ConV [] w v c) (ho : ConOk c) (hT : TabT w) :
    Calls Tryz.prog 35 #[v] w fun e w' => e = .returned (.string ⟨(conT c).toArray⟩) ∧ Gr [] w w' := by
  obtain ⟨vv, av, rv, rfl, hvv, hav, hrv⟩ := hv
  obtain ⟨xo, xc, rfl, -, -⟩ := id hvv
  obtain ⟨yo, yc, rfl, -, -⟩ := id hav
  obtain ⟨zo, zc, rfl, ⟨hz1, hz2, _⟩, -⟩ := id hrv
  obtain ⟨w0, hw0⟩ : ∃ w0, w0 = w.alloc (.cells #[.int .i64 c.kind, .slice xo c.vars.length xc, .slice yo c.args.length yc, .int .i64 c.bound, .slice zo c.rows.length zc] 49) := ⟨_, rfl⟩
  have hg0 : Gr [] w w0 := by rw [hw0]; exact (Gr.refl _ _).alloc _
  have hb0 : w0.heap[w.heap.size]? = some (.cells #[.int .i64 c.kind, .slice xo c.vars.length xc, .slice yo c.args.length yc, .int .i64 c.bound, .slice zo c.rows.length zc] 49 (0, 0)) := by rw [hw0]; exact heap_alloc_new _ _
  have Hvv := hid (hvv.gr hg0); have Hav := hid (hav.gr hg0); have Hrv := hid (hrv.gr hg0)
  clear hvv hav hrv
  obtain ⟨K, hK⟩ : ∃ K, K = kwT c.kind := ⟨_, rfl⟩
  obtain ⟨V, hV⟩ : ∃ V, V = listT c.vars := ⟨_, rfl⟩
  obtain ⟨Ar, hAr⟩ : ∃ Ar, Ar = listT c.args := ⟨_, rfl⟩
  obtain ⟨Bn, hBn⟩ : ∃ Bn, Bn = num c.bound := ⟨_, rfl⟩
  have lK : K.length ≤ 12 := by rw [hK]; exact (kw_ok ho.kind).2.2.2.2.2
  have lV : V.length ≤ 21 := by rw [hV]; have := listT_len ho.vars; have := ho.lv; omega
  have lA : Ar.length ≤ 41 := by rw [hAr]; have := listT_len ho.args; have := ho.la; omega
  have lB : Bn.length ≤ 4 := by rw [hBn]; exact (num_ok ho.bound).len
  have HK := hid hK; have HV := hid hV; have HA := hid hAr; have HB := hid hBn
  have HL := hid lK; have HLV := hid lV; have HLA := hid lA; have HLB := hid lB
  clear hK hV hAr hBn lK lV lA lB
  have hkd : 1 ≤ c.kind ∧ c.kind ≤ 9 := ho.kind
  have hk0 : 0 ≤ c.kind := by omega
  have hk1 : c.kind < 10 := by omega
  have Hkw : Hid (∀ W : World, (W.alloc (.cells kwCells 9)).cell? ⟨W.heap.size, c.kind.toNat, none⟩ = some (.string ⟨K.toArray⟩)) := hid fun W => by
    rw [HK.out]; exact kwCells_at (k := c.kind) (by omega) W
  have Ho := hid ho; clear ho
  have HT := hid hT; clear hT
  have Hrl : Hid (c.rows.length ≤ 8) := hid Ho.out.lr
  go_enter Tryz.func35, Tryz.ntmps35
  go_wp2_with fail
  rw [← hw0]
  clear hw0
  have Hb0 := hid hb0; have Hg0 := hid hg0
  have hsz0 := hg0.size
  have hlt0 := lt_of_block hb0
  have fl0 := fld hb0; have ff0 := fldF hb0
  clear hb0 hg0
  go_cut [3] from 6 to 25 (fun p wx => p = .string ⟨(K ++ 32 :: (V ++ 32 :: (Ar ++ 32 :: Bn))).toArray⟩ ∧ Gr [] w0 wx)
  case first =>
    have HG : Hid (∀ W, Gr [] w0 W → (W.cell? ⟨w.heap.size, 0, none⟩ = some (.int .i64 c.kind) ∧ W.cell? ⟨w.heap.size, 1, none⟩ = some (.slice xo c.vars.length xc) ∧ W.cell? ⟨w.heap.size, 2, none⟩ = some (.slice yo c.args.length yc) ∧ W.cell? ⟨w.heap.size, 3, none⟩ = some (.int .i64 c.bound))) := hid fun W h => by
      have f := fld (h.obj Hb0.out (by simp))
      exact ⟨f 0, f 1, f 2, f 3⟩
    have c1 : ¬ 9223372036854775807 < K.length + 1 := by have := HL.out; omega
    have c2 : ¬ 9223372036854775807 < K.length + 1 + V.length := by have := HL.out; have := HLV.out; omega
    have c2' : ¬ 9223372036854775807 < K.length + (V.length + 1) := by have := HL.out; have := HLV.out; omega
    have c3 : ¬ 9223372036854775807 < K.length + (V.length + 1) + 1 := by have := HL.out; have := HLV.out; omega
    have c4 : ¬ 9223372036854775807 < K.length + (V.length + 1 + 1) + Ar.length := by have := HL.out; have := HLV.out; have := HLA.out; omega
    have c4' : ¬ 9223372036854775807 < K.length + (V.length + (Ar.length + 1) + 1) + 1 := by have := HL.out; have := HLV.out; have := HLA.out; omega
    have c5 : ¬ 9223372036854775807 < K.length + (V.length + (Ar.length + 1 + 1) + 1) + Bn.length := by have := HL.out; have := HLV.out; have := HLA.out; have := HLB.out; omega
    refine wp_region_held_drew (S := (fun W => W.cell? ⟨w.heap.size, 0, none⟩ = some (.int .i64 c.kind) ∧ W.cell? ⟨w.heap.size, 1, none⟩ = some (.slice xo c.vars.length xc) ∧ W.cell? ⟨w.heap.size, 2, none⟩ = some (.slice yo c.args.length yc) ∧ W.cell? ⟨w.heap.size, 3, none⟩ = some (.int .i64 c.bound))) (by kernel_rfl) ?_ (fun hHeld => ?_)
    · exact HG.out _ ((Gr.refl [] w0).drew)
    refine wpAnyH_take (i := 1) (v := ?_) rfl (by kernel_rfl) (by kernel_rfl) (by kernel_rfl) (fun _ _ _ h => h) (Or.inl ⟨by rfl, ?_⟩) (by assumption) ?_
    rotate_left
    · intro Wx hSw; (try dsimp only at hSw); go_simp; (try with_reducible rfl)
    try simp only [Act.put, List.setIfInBounds_toArray, List.set_cons_zero, List.set_cons_succ, List.getElem_toArray, List.getElem_cons_zero, List.getElem_cons_succ]
    refine wpAnyH_take (i := 2) (v := ?_) rfl (by kernel_rfl) (by kernel_rfl) (by kernel_rfl) (fun _ _ _ h => h) (Or.inl ⟨by rfl, ?_⟩) (by assumption) ?_
    rotate_left
    · intro Wx hSw; (try dsimp only at hSw); go_simp; (try with_reducible rfl)
    try simp only [Act.put, List.setIfInBounds_toArray, List.set_cons_zero, List.set_cons_succ, List.getElem_toArray, List.getElem_cons_zero, List.getElem_cons_succ]
    refine wpAnyH_take (i := 6) (v := ?_) rfl (by kernel_rfl) (by kernel_rfl) (by kernel_rfl) (fun _ _ _ h => h) (Or.inl ⟨by rfl, ?_⟩) (by assumption) ?_
    rotate_left
    · intro Wx hSw; (try dsimp only at hSw); go_simp; (try with_reducible rfl)
    try simp only [Act.put, List.setIfInBounds_toArray, List.set_cons_zero, List.set_cons_succ, List.getElem_toArray, List.getElem_cons_zero, List.getElem_cons_succ]
    refine wpAnyH_take (i := 7) (v := ?_) rfl (by kernel_rfl) (by kernel_rfl) (by kernel_rfl) (fun _ _ _ h => h) (Or.inl ⟨by rfl, ?_⟩) (by assumption) ?_
    rotate_left
    · intro Wx hSw; (try dsimp only at hSw); go_simp; (try with_reducible rfl)
    try simp only [Act.put, List.setIfInBounds_toArray, List.set_cons_zero, List.set_cons_succ, List.getElem_toArray, List.getElem_cons_zero, List.getElem_cons_succ]
    refine wpAnyH_take (i := 11) (v := ?_) rfl (by kernel_rfl) (by kernel_rfl) (by kernel_rfl) (fun _ _ _ h => h) (Or.inl ⟨by rfl, ?_⟩) (by assumption) ?_
    rotate_left
    · intro Wx hSw; (try dsimp only at hSw); go_simp; (try with_reducible rfl)
    try simp only [Act.put, List.setIfInBounds_toArray, List.set_cons_zero, List.set_cons_succ, List.getElem_toArray, List.getElem_cons_zero, List.getElem_cons_succ]
    refine wpAnyH_take (i := 12) (v := ?_) rfl (by kernel_rfl) (by kernel_rfl) (by kernel_rfl) (fun _ _ _ h => h) (Or.inl ⟨by rfl, ?_⟩) (by assumption) ?_
    rotate_left
    · intro Wx hSw; (try dsimp only at hSw); go_simp; (try with_reducible rfl)
    try simp only [Act.put, List.setIfInBounds_toArray, List.set_cons_zero, List.set_cons_succ, List.getElem_toArray, List.getElem_cons_zero, List.getElem_cons_succ]
    refine wpAnyH_take (i := 16) (v := ?_) rfl (by kernel_rfl) (by kernel_rfl) (by kernel_rfl) (fun _ _ _ h => h) (Or.inl ⟨by rfl, ?_⟩) (by assumption) ?_
    rotate_left
    · intro Wx hSw; (try dsimp only at hSw); go_simp; (try with_reducible rfl)
    try simp only [Act.put, List.setIfInBounds_toArray, List.set_cons_zero, List.set_cons_succ, List.getElem_toArray, List.getElem_cons_zero, List.getElem_cons_succ]
    refine wpAnyH_take (i := 17) (v := ?_) rfl (by kernel_rfl) (by kernel_rfl) (by kernel_rfl) (fun _ _ _ h => h) (Or.inl ⟨by rfl, ?_⟩) (by assumption) ?_
    rotate_left
    · intro Wx hSw; (try dsimp only at hSw); go_simp; (try with_reducible rfl)
    try simp only [Act.put, List.setIfInBounds_toArray, List.set_cons_zero, List.set_cons_succ, List.getElem_toArray, List.getElem_cons_zero, List.getElem_cons_succ]
    refine wpAnyH_ready (rs := [0]) (by kernel_rfl) (by simp) ?_
    refine AllReadyH.cons rfl (fun Kx hKx => ?_) AllReadyH.nil
    go_simp; go_at_call 56; (with_reducible refine (implKeywords_c _).mono ?_); rintro e wa ⟨rfl, hwa⟩; have hga : Gr [] w0 wa := (by rw [hwa]; exact ((Gr.refl [] w0).drew).alloc _); have hca : wa.cell? ⟨w0.heap.size, c.kind.toNat, none⟩ = some (.string ⟨K.toArray⟩) := (by rw [hwa]; exact Hkw.out _); clear hwa; have HGa := hid hga; (try dsimp only)
    refine hKx.out _ _ ?_ (fun hHeld => ?_)
    · (try dsimp only); (exact HG.out _ HGa.out)
    clear hKx Kx
    try simp only [Act.put, List.setIfInBounds_toArray, List.set_cons_zero, List.set_cons_succ, List.getElem_toArray, List.getElem_cons_zero, List.getElem_cons_succ]
    refine wpAnyH_mono (S' := (fun W => Gr [] w0 W ∧ W.cell? ⟨w0.heap.size, c.kind.toNat, none⟩ = some (.string ⟨K.toArray⟩) ∧ W.cell? ⟨w.heap.size, 0, none⟩ = some (.int .i64 c.kind) ∧ W.cell? ⟨w.heap.size, 1, none⟩ = some (.slice xo c.vars.length xc) ∧ W.cell? ⟨w.heap.size, 2, none⟩ = some (.slice yo c.args.length yc) ∧ W.cell? ⟨w.heap.size, 3, none⟩ = some (.int .i64 c.bound))) (fun W h => h.2.2) _ _ _ _ ?_
    clear hHeld
    have hHeld : (Gr [] w0 wa ∧ wa.cell? ⟨w0.heap.size, c.kind.toNat, none⟩ = some (.string ⟨K.toArray⟩) ∧ wa.cell? ⟨w.heap.size, 0, none⟩ = some (.int .i64 c.kind) ∧ wa.cell? ⟨w.heap.size, 1, none⟩ = some (.slice xo c.vars.length xc) ∧ wa.cell? ⟨w.heap.size, 2, none⟩ = some (.slice yo c.args.length yc) ∧ wa.cell? ⟨w.heap.size, 3, none⟩ = some (.int .i64 c.bound)) := ⟨HGa.out, hca, HG.out _ HGa.out⟩
    clear hga
    refine wpAnyH_take (i := 3) (v := ?_) rfl (by kernel_rfl) (by kernel_rfl) (by kernel_rfl) (fun _ _ _ h => h) (Or.inl ⟨by rfl, ?_⟩) (by assumption) ?_
    rotate_left
    · intro Wx hSw; (try dsimp only at hSw); go_simp; (try with_reducible rfl)
    try simp only [Act.put, List.setIfInBounds_toArray, List.set_cons_zero, List.set_cons_succ, List.getElem_toArray, List.getElem_cons_zero, List.getElem_cons_succ]
    refine wpAnyH_take (i := 4) (v := ?_) rfl (by kernel_rfl) (by kernel_rfl) (by kernel_rfl) (fun _ _ _ h => h) (Or.inl ⟨by rfl, ?_⟩) (by assumption) ?_
    rotate_left
    · intro Wx hSw; (try dsimp only at hSw); go_simp; (try with_reducible rfl)
    try simp only [Act.put, List.setIfInBounds_toArray, List.set_cons_zero, List.set_cons_succ, List.getElem_toArray, List.getElem_cons_zero, List.getElem_cons_succ]
    refine wpAnyH_take (i := 5) (v := ?_) rfl (by kernel_rfl) (by kernel_rfl) (by kernel_rfl) (fun _ _ _ h => h) (Or.inl ⟨by rfl, ?_⟩) (by assumption) ?_
    rotate_left
    · intro Wx hSw; (try dsimp only at hSw); go_simp; (try with_reducible rfl)
    try simp only [Act.put, List.setIfInBounds_toArray, List.set_cons_zero, List.set_cons_succ, List.getElem_toArray, List.getElem_cons_zero, List.getElem_cons_succ]
    refine wpAnyH_ready (rs := [8]) (by kernel_rfl) (by simp) ?_
    refine AllReadyH.cons rfl (fun Kx hKx => ?_) AllReadyH.nil
    go_simp; go_at_call 72; (with_reducible refine (listText_c c.vars (.slice xo c.vars.length xc) _ (Hvv.out.gr HGa.out) (sm_i64 Ho.out.vars) (by have := Ho.out.lv; omega) (HT.out.gr (Hg0.out.trans HGa.out))).mono ?_); rw [← HV.out]; rintro e wb ⟨rfl, hgb⟩; have hcb := hgb.cell hca (by simp); have HGb : Hid (Gr [] w0 wb) := hid (HGa.out.trans hgb); clear hgb; (try dsimp only)
    refine hKx.out _ _ ?_ (fun hHeld => ?_)
    · (try dsimp only); (exact ⟨HGb.out, hcb, HG.out _ HGb.out⟩)
    clear hKx Kx
    try simp only [Act.put, List.setIfInBounds_toArray, List.set_cons_zero, List.set_cons_succ, List.getElem_toArray, List.getElem_cons_zero, List.getElem_cons_succ]
    refine wpAnyH_take (i := 9) (v := ?_) rfl (by kernel_rfl) (by kernel_rfl) (by kernel_rfl) (fun _ _ _ h => h) (Or.inl ⟨by rfl, ?_⟩) (by assumption) ?_
    rotate_left
    · intro Wx hSw; (try dsimp only at hSw); go_simp; (try with_reducible rfl)
    try simp only [Act.put, List.setIfInBounds_toArray, List.set_cons_zero, List.set_cons_succ, List.getElem_toArray, List.getElem_cons_zero, List.getElem_cons_succ]
    refine wpAnyH_take (i := 10) (v := ?_) rfl (by kernel_rfl) (by kernel_rfl) (by kernel_rfl) (fun _ _ _ h => h) (Or.inl ⟨by rfl, ?_⟩) (by assumption) ?_
    rotate_left
    · intro Wx hSw; (try dsimp only at hSw); go_simp; (try with_reducible rfl)
    try simp only [Act.put, List.setIfInBounds_toArray, List.set_cons_zero, List.set_cons_succ, List.getElem_toArray, List.getElem_cons_zero, List.getElem_cons_succ]
    refine wpAnyH_ready (rs := [13]) (by kernel_rfl) (by simp) ?_
    refine AllReadyH.cons rfl (fun Kx hKx => ?_) AllReadyH.nil
    go_simp; go_at_call 72; (with_reducible refine (listText_c c.args (.slice yo c.args.length yc) _ (Hav.out.gr HGb.out) (sm_i64 Ho.out.args) (by have := Ho.out.la; omega) (HT.out.gr (Hg0.out.trans HGb.out))).mono ?_); rw [← HA.out]; rintro e wc ⟨rfl, hgc⟩; have hcc := hgc.cell hcb (by simp); have HGc : Hid (Gr [] w0 wc) := hid (HGb.out.trans hgc); clear hgc; (try dsimp only)
    refine hKx.out _ _ ?_ (fun hHeld => ?_)
    · (try dsimp only); (exact ⟨HGc.out, hcc, HG.out _ HGc.out⟩)
    clear hKx Kx
    try simp only [Act.put, List.setIfInBounds_toArray, List.set_cons_zero, List.set_cons_succ, List.getElem_toArray, List.getElem_cons_zero, List.getElem_cons_succ]
    refine wpAnyH_take (i := 14) (v := ?_) rfl (by kernel_rfl) (by kernel_rfl) (by kernel_rfl) (fun _ _ _ h => h) (Or.inl ⟨by rfl, ?_⟩) (by assumption) ?_
    rotate_left
    · intro Wx hSw; (try dsimp only at hSw); go_simp; (try with_reducible rfl)
    try simp only [Act.put, List.setIfInBounds_toArray, List.set_cons_zero, List.set_cons_succ, List.getElem_toArray, List.getElem_cons_zero, List.getElem_cons_succ]
    refine wpAnyH_take (i := 15) (v := ?_) rfl (by kernel_rfl) (by kernel_rfl) (by kernel_rfl) (fun _ _ _ h => h) (Or.inl ⟨by rfl, ?_⟩) (by assumption) ?_
    rotate_left
    · intro Wx hSw; (try dsimp only at hSw); go_simp; (try with_reducible rfl)
    try simp only [Act.put, List.setIfInBounds_toArray, List.set_cons_zero, List.set_cons_succ, List.getElem_toArray, List.getElem_cons_zero, List.getElem_cons_succ]
    refine wpAnyH_ready (rs := [18]) (by kernel_rfl) (by simp) ?_
    refine AllReadyH.cons rfl (fun Kx hKx => ?_) AllReadyH.nil
    go_simp; go_at_call 70; (with_reducible refine (Itoa_c c.bound (sm1_i64 Ho.out.bound) _ (HT.out.gr (Hg0.out.trans HGc.out))).mono ?_); rw [← HB.out]; rintro e wd ⟨rfl, hgd⟩; have hcd := hgd.cell hcc (by simp); have HGd : Hid (Gr [] w0 wd) := hid (HGc.out.trans hgd); clear hgd; (try dsimp only)
    refine hKx.out _ _ ?_ (fun hHeld => ?_)
    · (try dsimp only); (exact ⟨HGd.out, hcd, HG.out _ HGd.out⟩)
    clear hKx Kx
    try simp only [Act.put, List.setIfInBounds_toArray, List.set_cons_zero, List.set_cons_succ, List.getElem_toArray, List.getElem_cons_zero, List.getElem_cons_succ]
    refine wpAnyH_take (i := 19) (v := ?_) rfl (by kernel_rfl) (by kernel_rfl) (by kernel_rfl) (fun _ _ _ h => h) (Or.inl ⟨by rfl, ?_⟩) (by assumption) ?_
    rotate_left
    · intro Wx hSw; (try dsimp only at hSw); go_simp; (try with_reducible rfl)
    try simp only [Act.put, List.setIfInBounds_toArray, List.set_cons_zero, List.set_cons_succ, List.getElem_toArray, List.getElem_cons_zero, List.getElem_cons_succ]
    refine wpAnyH_take (i := 20) (v := ?_) rfl (by kernel_rfl) (by kernel_rfl) (by kernel_rfl) (fun _ _ _ h => h) (Or.inl ⟨by rfl, ?_⟩) (by assumption) ?_
    rotate_left
    · intro Wx hSw; (try dsimp only at hSw); go_simp; (try with_reducible rfl)
    try simp only [Act.put, List.setIfInBounds_toArray, List.set_cons_zero, List.set_cons_succ, List.getElem_toArray, List.getElem_cons_zero, List.getElem_cons_succ]
    refine wpAnyH_done (by kernel_rfl) ?_ _
    go_wp2_with fail
    go_meet
    exact ⟨rfl, HGd.out⟩
  case rest =>
    obtain ⟨rfl, hgc⟩ := hcut
    have hfc := fld (hgc.obj Hb0.out (by simp))
    have hszc := hgc.size
    have Hg1 := hid hgc; clear hgc
    obtain ⟨T0, hT0⟩ : ∃ T0 : Bs, T0 = K ++ 32 :: (V ++ 32 :: (Ar ++ 32 :: Bn)) := ⟨_, rfl⟩
    have lT0 : T0.length ≤ 100 := by have := HL.out; have := HLV.out; have := HLA.out; have := HLB.out; rw [hT0]; simp; omega
    rw [← hT0]
    have HT0 := hid hT0; clear hT0
    go_wp2_with fail
    go_loopw [3, 29] (fun o i wr => ∃ n : Nat, n ≤ c.rows.length ∧ i = .int .i64 n ∧ o = .string ⟨(T0 ++ rowsT (c.rows.take n)).toArray⟩ ∧ Gr [] wc wr) (fun _ i _ => c.rows.length - (intOf i).toNat)
    case atStart => exact ⟨0, Nat.zero_le _, rfl, by simp [rowsT], Gr.refl _ _⟩
    case round =>
      obtain ⟨n, hn, rfl, rfl, hg⟩ := hrel
      have hrl := Hrl.out
      have hrows := Ho.out.rows
      obtain ⟨X, hX⟩ : ∃ X, X = T0 ++ rowsT (c.rows.take n) := ⟨_, rfl⟩
      have lX : X.length ≤ 1000 := by
        have := rowsT_len (c.rows.take n) (fun r hr => hrows r (List.mem_of_mem_take hr))
        rw [hX, List.length_append]; rw [List.length_take] at this; omega
      rw [← hX]
      have HX := hid hX; clear hX
      have hfr := fld ((Hg1.out.trans hg).obj Hb0.out (by simp))
      by_cases hlt : n < c.rows.length
      · obtain ⟨r, hr⟩ : ∃ r, c.rows[n]? = some r := ⟨_, List.getElem?_eq_getElem hlt⟩
        obtain ⟨ao, cap, e, _, hcs⟩ := Hrv.out
        cases e
        obtain ⟨b, o, rv, rfl, _, hcell, hnr⟩ := hcs n r hr
        have hcell' := (Hg1.out.trans hg).cell hcell (by simp)
        have Hnr := hid (hnr.gr (Hg1.out.trans hg)); clear hnr hcs
        have hro := hrows r (List.mem_of_getElem? hr)
        have hts : rowsT (c.rows.take (n + 1)) = rowsT (c.rows.take n) ++ 32 :: listT r := by rw [List.take_add_one, hr]; simp [rowsT]
        obtain ⟨ro, rc, rfl, -, -⟩ := id Hnr.out
        obtain ⟨Y, hY⟩ : ∃ Y, Y = listT r := ⟨_, rfl⟩
        have lY : Y.length ≤ 106 := by rw [hY]; have := listT_len hro.1; omega
        rw [← hY] at hts
        have HY := hid hY; have Hts := hid hts; have Hro := hid hro; clear hY hts hro hr hrows
        have cc1 : ¬ 9223372036854775807 < X.length + 1 := by omega
        have cc2 : ¬ 9223372036854775807 < X.length + 1 + Y.length := by omega
        have cc3 : ¬ 9223372036854775807 < X.length + (Y.length + 1) := by omega
        have cc4 : ¬ 9223372036854775807 < 1 + Y.length := by omega

        go_wp2_with (go_at_call 72; (with_reducible refine (listText_c r (.slice ro r.length rc) _ Hnr.out (sm_i64 Hro.out.1) (by have := Hro.out.2; omega) (HT.out.gr ((Hg0.out.trans Hg1.out).trans hg))).mono ?_); rw [← HY.out]; rintro e w1 ⟨rfl, hg1⟩)
        refine ⟨⟨n + 1, by omega, by go_num, ?_, hg.trans hg1⟩, by simp [intOf]; omega⟩
        rw [Hts.out, ← List.append_assoc, ← HX.out]
      · go_wp2_with fail
        go_ret
        refine ⟨?_, (Hg0.out.trans Hg1.out).trans hg⟩
        have hnl : n = c.rows.length := by omega
        rw [hnl, List.take_length] at HX
        have e : conT c = X := by simp [HX.out, HT0.out, HK.out, HV.out, HA.out, HB.out, conT]
        rw [e]; rfl
end Go.Proofs.YtmonhpoogfdpoaaGreatDoor
