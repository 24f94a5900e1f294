/-
  Walk of FnExactDecodeModel.
-/
import Derived.Test.YtmonhpoogfdpoaaGreatDoorPV7
import Derived.Test.YtmonhpoogfdpoaaGreatDoorPLg
import Derived.Test.YtmonhpoogfdpoaaGreatDoorPEG
set_option linter.unusedVariables false
set_option linter.unusedSimpArgs false
namespace Go.Proofs.YtmonhpoogfdpoaaGreatDoor
open Go.RowKit

theorem mkCs_eqD {cs cs' : List Con} (h1 : cs'.length = cs.length) (h2 : ∀ (i : Nat) c c', cs[i]? = some c → cs'[i]? = some c' → ShC c c') : mkCs cs' = mkCs cs := by
  unfold mkCs
  congr 1
  refine List.ext_getElem? fun i => ?_
  rw [List.getElem?_map, List.getElem?_map]
  cases hi : cs[i]? with
  | none => rw [List.getElem?_eq_none (by have := List.getElem?_eq_none_iff.1 hi; omega)]
  | some c =>
    obtain ⟨c', hc'⟩ := get_some (xs := cs') (k := i) (by have := (List.getElem?_eq_some_iff.1 hi).1; omega)
    obtain ⟨s1, s2, s3⟩ := h2 i c c' hi hc'
    rw [hc']
    simp only [Option.map_some, mkC, mkR, s1, s2, s3]
theorem ModM.mkD {M M' : Nat → Prop} {w w' : World} {v : Value} {m : Mod} (h : ModM M w v m) (k : Mk M' w w') : ∃ m', mkMo m' = mkMo m ∧ ModM M w' v m' := by
  obtain ⟨dv, cv, rfl, h1, h2⟩ := h
  obtain ⟨ds, e1, k1⟩ := h1.mk k
  obtain ⟨cs, e2, e3, k2⟩ := h2.mk k
  exact ⟨⟨ds, cs⟩, by unfold mkMo; rw [mkCs_eqD e2 e3, e1], _, _, rfl, k1, k2⟩
theorem modM_parts {M : Nat → Prop} {w : World} {dv cv : Value} {m : Mod} (h : ModM M w (.agg #[dv, cv]) m) : NumsM M w dv m.doms ∧ ConsM M w cv m.cons := by
  obtain ⟨_, _, e, h1, h2⟩ := h
  cases e
  exact ⟨h1, h2⟩
/-- A marked model. -/
structure MarkedM (M : Nat → Prop) (w : World) (dv cv : Value) (n : Nat) : Prop where
  read : ∃ m, mkMo m = n ∧ ModM M w (.agg #[dv, cv]) m
  held : Held (leavesN dv ++ leavesCs w cv) 1 w
theorem MarkedM.gr {M : Nat → Prop} {w w' : World} {dv cv : Value} {n : Nat} (h : MarkedM M w dv cv n) (hg : Gr [] w w') : MarkedM M w' dv cv n := by
  obtain ⟨⟨m, e1, h1⟩, h3⟩ := h
  refine ⟨⟨m, e1, h1.gr' hg (by simp) (fun _ _ h => h)⟩, ?_⟩
  rw [(modM_parts h1).2.leaves_gr hg (by simp)]
  exact h3.gr hg
theorem MarkedM.of {M : Nat → Prop} {w w' : World} {dv cv : Value} {s : Mod} (h1 : ModM M w (.agg #[dv, cv]) s) (hn : (leavesN dv ++ leavesCs w cv).Nodup) (hm : Mk M w w') (hw : Wr (leavesN dv ++ leavesCs w cv) 1 w w') :
    MarkedM M w' dv cv (mkMo s) := by
  obtain ⟨m', e1, k1⟩ := h1.mkD hm
  refine ⟨⟨m', e1, k1⟩, ?_⟩
  rw [(modM_parts h1).2.leaves_mk hm]
  exact hw.set hn
theorem heldModel_m (M : Nat → Prop) (n : Nat) (dv cv : Value) (w : World) (h : MarkedM M w dv cv n) (hn : n ≤ 5000000) :
    Calls Tryz.prog 16 #[.agg #[dv, cv], .int .i64 1] w fun e w' => e = .returned (.int .i64 (1 + n)) ∧ Gr [] w w' := by
  obtain ⟨⟨m, rfl, h1⟩, h3⟩ := h
  exact heldModel_w M m 1 dv cv w h1 h3 (by omega) hn
theorem sum_le {l : List Nat} {b : Nat} (h : ∀ x ∈ l, x ≤ b) : l.sum ≤ l.length * b := by
  induction l with
  | nil => simp
  | cons x l ih =>
    have h1 := h x (by simp)
    have h2 := ih (fun y hy => h y (by simp [hy]))
    rw [List.sum_cons, List.length_cons, Nat.succ_mul]
    omega
theorem dec_mk (s : Bs) : mkMo ((decS s).getD zeroMod) ≤ 10000 := by
  cases h : decS s with
  | none => simp [zeroMod, mkMo, mkCs]
  | some m =>
    rw [← dec_eq] at h
    have hk := mod_ok (decI_some h).1
    show mkMo m ≤ 10000
    unfold mkMo mkCs
    have h1 : (m.cons.map mkC).sum ≤ (m.cons.map mkC).length * 1000 := sum_le (by
      intro x hx
      obtain ⟨c, hc, rfl⟩ := List.mem_map.1 hx
      have hc' := con_ok (hk.con c hc)
      unfold mkC mkR
      have h2 : (c.rows.map List.length).sum ≤ (c.rows.map List.length).length * 21 := sum_le (by
        intro y hy
        obtain ⟨r, hr, rfl⟩ := List.mem_map.1 hy
        exact (hc'.rows r hr).2)
      rw [List.length_map] at h2
      have := hc'.lv; have := hc'.la; have := hc'.lr
      omega)
    rw [List.length_map] at h1
    have := hk.ld; have := hk.lc
    omega
set_option maxRecDepth 100000 in
set_option maxHeartbeats 2000000 in
theorem FnExactDecodeModel_c (s : Bs) (w : World) (hT : TabT w) :
    Calls Tryz.prog 5 #[.string ⟨s.toArray⟩] w (fun e w' => e = .returned (.bool true) ∧ Gr [] w w') := by
  have HT := hid hT; clear hT
  by_cases hbig : (1048576 : Int) < (s.length : Int)
  · go_enter Tryz.func5, Tryz.ntmps5
    go_wp2_with fail
    go_ret
    exact ⟨rfl, Gr.refl _ _⟩
  have hsl : s.length ≤ 1100000 := by omega
  obtain ⟨m, hm⟩ : ∃ m, m = (decS s).getD zeroMod := ⟨_, rfl⟩
  obtain ⟨ok, hok⟩ : ∃ ok, ok = (decS s).isSome := ⟨_, rfl⟩
  have Hm := hid hm; have Hok := hid hok
  clear hm hok
  go_enter Tryz.func5, Tryz.ntmps5
  go_wp2_with fail
  refine (specDecodeModel_c s w (by omega)).mono ?_
  rw [← Hm.out, ← Hok.out]
  rintro e w1 ⟨v1, rfl, hm1, hg1⟩
  obtain ⟨xo, xc, co, cc, rfl⟩ := (New.mod hm1).slices
  have HM1 := hid hm1; have Hg1 := hid hg1
  clear hm1 hg1
  go_wp2_with fail
  have ha1 : Gr [] w1 (w1.alloc (.cells #[.slice xo m.doms.length xc, .slice co m.cons.length cc] 27)) := (Gr.refl _ _).alloc _
  have hx1 := heap_alloc_new w1 (.cells #[.slice xo m.doms.length xc, .slice co m.cons.length cc] 27)
  generalize w1.alloc (.cells #[.slice xo m.doms.length xc, .slice co m.cons.length cc] 27) = w2 at ha1 hx1 ⊢
  have HX2 := hid hx1; have Hg2 := hid (Hg1.out.trans ha1); have HM2 := hid (HM1.out.gr' (M' := New w.heap.size w1) ha1 (by simp) (fun _ _ h => h))
  have hw2 := lt_of_block hx1
  have hw1 := Hg1.out.size
  clear ha1 hx1
  refine (DecodeModel_c s w2 hsl (HT.out.gr Hg2.out)).mono ?_
  rw [dec_eq, ← Hm.out, ← Hok.out]
  rintro e w3 ⟨yo, yc, zo, zc, m', rfl, hm', hm3, hnd, hg3⟩
  subst hm'
  have ha3 : Gr [] w3 (w3.alloc (.cells #[.slice yo m'.doms.length yc, .slice zo m'.cons.length zc] 27)) := (Gr.refl _ _).alloc _
  have hx3 := heap_alloc_new w3 (.cells #[.slice yo m'.doms.length yc, .slice zo m'.cons.length zc] 27)
  have HM3 := hid hm3; have Hnd := hid hnd; have Hg3 := hid hg3
  have HX3 := hid (hg3.obj HX2.out (by simp))
  have hlt3 : w1.heap.size < w3.heap.size := lt_of_block HX3.out
  have HX4 := hid (ha3.obj HX3.out (by simp)); have HY4 := hid hx3
  have fx3 := fld HX3.out
  have Hg4 := hid ((Hg2.out.trans hg3).trans ha3)
  have Hg24 := hid (hg3.trans ha3)
  have HM4 := hid (hm3.gr' (M' := New w2.heap.size w3) ha3 (by simp) (fun _ _ h => h))
  have hn2 := hm3
  obtain ⟨dvx, cvx, ex, n1, n2⟩ := hn2
  cases ex
  have HNd := hid (show (leavesN (.slice yo m'.doms.length yc) ++ leavesCs (w3.alloc (.cells #[.slice yo m'.doms.length yc, .slice zo m'.cons.length zc] 27)) (.slice zo m'.cons.length zc)).Nodup by rw [n2.leaves_gr ha3 (by simp)]; exact hnd)
  clear hm3 hnd hg3 n1 n2 hx3 ha3
  go_wp2_with fail
  generalize w3.alloc (.cells #[.slice yo m'.doms.length yc, .slice zo m'.cons.length zc] 27) = w4 at *
  have hs24 := Hg24.out.size
  have Hm1 := hid ((HM2.out.mod (S := []) (by simp)).gr Hg24.out)
  refine (eqModel_t m' _ _ w4 (HM4.out.mod (S := []) (by simp)) Hm1.out).mono ?_
  rintro e w5 ⟨rfl, hg5⟩
  have HX5 := hid (hg5.obj HX4.out (by simp)); have HY5 := hid (hg5.obj HY4.out (by simp)); have Hg5 := hid hg5
  have fy5 := fld HY5.out
  have HM5 := hid (HM4.out.gr' (M' := New w2.heap.size w3) hg5 (by simp) (fun _ _ h => h))
  clear hg5 fx3
  go_wp2_with fail
  have hmk := dec_mk s
  rw [← Hm.out] at hmk
  obtain ⟨K, hK⟩ : ∃ K, K = mkMo m' := ⟨_, rfl⟩
  have hK0 : K ≤ 10000 := by rw [hK]; exact hmk
  have HK := hid hK
  clear hmk hK
  refine (markModel_w (New w2.heap.size w3) m' 1 _ _ w5 HM5.out (by omega) (by rw [← HK.out]; omega)).mono ?_
  rw [← HK.out]
  rintro e w6 ⟨rfl, hmk6, hwr6⟩
  (try dsimp only)
  obtain ⟨L, hL⟩ : ∃ L : List Nat, ∀ i, i ∈ L ↔ w2.heap.size ≤ i ∧ i < w3.heap.size :=
    ⟨List.range' w2.heap.size (w3.heap.size - w2.heap.size), fun i => by rw [List.mem_range'_1]; omega⟩
  have hg6 := hmk6.grL (L := L) (fun k hk => (hL k).2 ⟨hk.1, hk.2⟩)
  have hnd5 : (leavesN (.slice yo m'.doms.length yc) ++ leavesCs w5 (.slice zo m'.cons.length zc)).Nodup := by
    rw [(modM_parts HM4.out).2.leaves_gr Hg5.out (by simp)]; exact HNd.out
  have hmd := MarkedM.of HM5.out hnd5 hmk6 hwr6
  rw [← HK.out] at hmd
  have HMd := hid hmd
  have HX6 := hid (hg6.obj HX5.out (fun h => by have := (hL _).1 h; omega)); have HY6 := hid (hg6.obj HY5.out (fun h => by have := (hL _).1 h; omega))
  have Hg6 := hid (((Hg4.out.trans Hg5.out)).step hg6 (fun i hi => .inr (by have := (hL i).1 hi; omega)))
  have Hm6 := hid (((HM2.out.mod (S := L) (fun b hb hm => by have := (hL b).1 hb; have := hm.2; omega)).gr ((Hg24.out.trans Hg5.out).any)).gr hg6)
  have fy6 := fld HY6.out; have fx6 := fld HX6.out
  clear hg6 hmd hnd5 hmk6 hwr6 fy5
  go_wp2_with fail
  refine (heldModel_m _ K _ _ w6 HMd.out (by omega)).mono ?_
  rintro e w7 ⟨rfl, hg7⟩
  have HX7 := hid (hg7.obj HX6.out (by simp)); have HY7 := hid (hg7.obj HY6.out (by simp))
  have HMe := hid (HMd.out.gr hg7); have Hm7 := hid (Hm6.out.gr hg7.any); have Hg7 := hid (Hg6.out.trans hg7)
  have fy7 := fld HY7.out; have fx7 := fld HX7.out
  clear hg7 fy6 fx6
  go_wp2_with fail
  refine (DecodeModel_c s w7 hsl (HT.out.gr Hg7.out)).mono ?_
  rw [dec_eq, ← Hm.out, ← Hok.out]
  rintro e w8 ⟨yo', yc', zo', zc', m'', rfl, hm'', hm8, hnd8, hg8⟩
  subst hm''
  have hx8 := hg8.obj HX7.out (by simp); have hy8 := hg8.obj HY7.out (by simp)
  have ha9 : Gr [] w8 (w8.alloc (.cells #[.slice yo' m''.doms.length yc', .slice zo' m''.cons.length zc'] 27)) := (Gr.refl _ _).alloc _
  have hz9 := heap_alloc_new w8 (.cells #[.slice yo' m''.doms.length yc', .slice zo' m''.cons.length zc'] 27)
  have hlx8 := lt_of_block hx8; have hly8 := lt_of_block hy8
  have HX9 := hid (ha9.obj hx8 (by simp)); have HY9 := hid (ha9.obj hy8 (by simp))
  have fx8 := fld hx8; have fy8 := fld hy8
  have Hg79 := hid (hg8.trans ha9)
  have Hm9 := hid ((hm8.gr' (M' := New w7.heap.size w8) ha9 (by simp) (fun _ _ h => h)).mod (S := []) (by simp))
  clear hm8 hnd8 hg8 ha9 hx8 hy8 hz9 fx7 fy7
  go_wp2_with fail
  generalize w8.alloc (.cells #[.slice yo' m''.doms.length yc', .slice zo' m''.cons.length zc'] 27) = w9 at *
  have HMf := hid (HMe.out.gr Hg79.out)
  refine (eqModel_t m'' _ _ w9 Hm9.out ((Hm7.out.gr Hg79.out.any).sub (by simp))).mono ?_
  rintro e wa ⟨rfl, hga⟩
  have HYa := hid (hga.obj HY9.out (by simp))
  have HMg := hid (HMf.out.gr hga)
  have fya := fld HYa.out
  have Hga := hid hga
  clear hga fx8 fy8
  go_wp2_with fail
  refine (heldModel_m _ K _ _ wa HMg.out (by omega)).mono ?_
  rintro e wb ⟨rfl, hgb⟩
  have hgE := ((Hg7.out.trans Hg79.out).trans Hga.out).trans hgb
  clear fya
  go_wp2_with fail
  go_ret
  exact ⟨rfl, hgE⟩
end Go.Proofs.YtmonhpoogfdpoaaGreatDoor
