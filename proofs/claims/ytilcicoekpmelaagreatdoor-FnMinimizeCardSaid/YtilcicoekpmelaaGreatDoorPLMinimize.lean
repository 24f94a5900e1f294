/-
  Walk of FnMinimize.
-/
import Derived.Test.YtilcicoekpmelaaGreatDoorPLLowerBound
import Derived.Test.YtilcicoekpmelaaGreatDoorPSy4ToSl
import Derived.Test.YtilcicoekpmelaaGreatDoorPNsP
set_option linter.unusedVariables false
set_option linter.unusedSimpArgs false
namespace Go.Proofs.YtilcicoekpmelaaGreatDoor
open Go.RowKit

theorem foldl_firstM {cost : List Int → Int} : ∀ (zs : List (List Int)) (o : Option (List Int)) (y : List Int), zs.Pairwise (fun x y => lexB x y = true) → (∀ z, o = some z → ∀ x ∈ zs, lexB z x = true) → zs.foldl (bstep cost) o = some y →
    (∀ z, o = some z → cost y < cost z ∨ y = z) ∧ ∀ x ∈ zs, cost y < cost x ∨ (cost y = cost x ∧ (y = x ∨ lexB y x = true))
  | [], o, y, _, _, h => ⟨fun z hz => by simp at h; rw [h] at hz; simp at hz; exact .inr hz, by simp⟩
  | x :: r, o, y, hs, ho, h => by
    rw [List.foldl_cons] at h
    rw [List.pairwise_cons] at hs
    cases o with
    | none =>
      obtain ⟨h1, h2⟩ := foldl_firstM r (bstep cost none x) y hs.2 (fun z hz w hw => by simp [bstep] at hz; subst hz; exact hs.1 w hw) h
      refine ⟨by simp, fun z hz => ?_⟩
      rcases List.mem_cons.1 hz with rfl | hz
      · rcases h1 _ rfl with h3 | h3
        · exact .inl h3
        · exact .inr ⟨by rw [h3], .inl h3⟩
      · exact h2 z hz
    | some q =>
      by_cases hlt : cost x < cost q
      · have e : bstep cost (some q) x = some x := by unfold bstep; simp only; rw [if_pos hlt]
        rw [e] at h
        obtain ⟨h1, h2⟩ := foldl_firstM r (some x) y hs.2 (fun z hz w hw => by simp at hz; subst hz; exact hs.1 w hw) h
        have h3 := h1 x rfl
        refine ⟨fun z hz => by simp at hz; subst hz; rcases h3 with h3 | rfl <;> left <;> omega, fun z hz => ?_⟩
        rcases List.mem_cons.1 hz with rfl | hz
        · rcases h3 with h3 | rfl
          · exact .inl h3
          · exact .inr ⟨rfl, .inl rfl⟩
        · exact h2 z hz
      · have e : bstep cost (some q) x = some q := by unfold bstep; simp only; rw [if_neg hlt]
        rw [e] at h
        obtain ⟨h1, h2⟩ := foldl_firstM r (some q) y hs.2 (fun z hz w hw => ho z hz w (List.mem_cons_of_mem _ hw)) h
        refine ⟨h1, fun z hz => ?_⟩
        rcases List.mem_cons.1 hz with rfl | hz
        · rcases h1 q rfl with h3 | rfl
          · left; omega
          · by_cases he : cost y = cost z
            · exact .inr ⟨he, .inr (ho y rfl z (List.mem_cons_self ..))⟩
            · left; omega
        · exact h2 z hz
theorem bestO_firstM {cost : List Int → Int} {zs : List (List Int)} {y : List Int} (hs : zs.Pairwise fun x y => lexB x y = true) (h : bestO cost zs = some y) : ∀ x ∈ zs, cost y < cost x ∨ (cost y = cost x ∧ (y = x ∨ lexB y x = true)) :=
  (foldl_firstM zs none y hs (by simp) h).2


set_option maxRecDepth 100000 in
set_option maxHeartbeats 8000000 in
theorem FnMinimize_c (v : Value) (bs : List Int) (ao : Option Addr) (cap : Nat) (w : World) (hv : v = .slice ao bs.length cap) (hlen : bs.length ≤ 9223372036854775807) (hcap : bs.length ≤ cap) (hc : Cells [] w .u8 ao bs) (hb : ∀ b ∈ bs, 0 ≤ b ∧ b ≤ 255) (hT : Tab w) :
    Calls Tryz.prog 4 #[v] w fun e w' => e = .returned (.bool true) ∧ Gr [] w w' := by
  subst hv
  have Hc := hid hc; have Hb := hid hb; have HT := hid hT; clear hc hb hT
  by_cases hbig : 1048576 < bs.length
  · go_enter Tryz.func4, Tryz.ntmps4
    go_wp2_with fail
    go_ret
    exact ⟨rfl, Gr.refl _ _⟩
  have hbig' : decide ((1048576 : Int) < (bs.length : Int)) = false := by simp; omega
  go_enter Tryz.func4, Tryz.ntmps4
  go_wp2_with fail
  have hcall := DrawMinimize_c _ bs w ao cap rfl hlen hcap Hc.out Hb.out
  (with_reducible refine hcall.mono ?_)
  clear hcall
  rintro e w1 ⟨m, mv, ov, O, rfl, hmv, hms, ⟨hd1, hd4⟩, hO, -, hg1⟩
  obtain ⟨xo, xc, co, cc, rfl⟩ := hmv.slices
  have ha2 : Gr [] w1 (w1.alloc (.cells #[.slice xo m.doms.length xc, .slice co m.cons.length cc] 26)) := (Gr.refl _ _).alloc _
  have hb2 : (w1.alloc (.cells #[.slice xo m.doms.length xc, .slice co m.cons.length cc] 26)).heap[w1.heap.size]? = some (.cells #[.slice xo m.doms.length xc, .slice co m.cons.length cc] 26 (0, 0)) := heap_alloc_new _ _
  have HG2 := hid (hg1.trans ha2); have Hmv2 := hid (hmv.gr ha2); have Hms := hid hms; have Hb2 := hid hb2
  have HO2 := hid (hO.gr ha2); have HT2 := hid (HT.out.gr (hg1.trans ha2))
  obtain ⟨Oo, Oc, rfl, -, -⟩ := hO
  clear hmv hms ha2 hb2 hg1 hbig
  obtain ⟨D, hD⟩ := openVM m
  have HD := hid hD; clear hD
  go_wp2_with fail
  generalize hW : w1.alloc (.cells #[.slice xo m.doms.length xc, .slice co m.cons.length cc] 26) = w2 at *
  clear hW
  have hcall := Minimize_c m O _ _ w2 Hmv2.out HO2.out D HD.out
  (with_reducible refine hcall.mono ?_)
  clear hcall
  obtain ⟨Y, hY⟩ : ∃ Y, Y = minO m D O := ⟨_, rfl⟩
  rw [← hY]
  have HY := hid hY; clear hY
  rintro e w3 ⟨v3, rfl, hn3, hg3⟩
  have hn3 := hn3.nums (S := []) (by simp)
  obtain ⟨K, hK⟩ : ∃ K, K = Y.isSome := ⟨_, rfl⟩
  rw [← hK]
  obtain ⟨ys, hys⟩ : ∃ ys, ys = Y.getD [] := ⟨_, rfl⟩
  rw [← hys] at hn3
  have HK := hid hK; have Hyl := hid hys
  have Hn3 := hid hn3
  obtain ⟨zo, zc, rfl, ⟨hz1, hz2, -⟩, -⟩ := id hn3
  have HG3 := hid hg3
  have fl3 := fld (HG3.out.obj Hb2.out (by simp))
  clear hg3 hn3 hK hys
  go_wp2_with fail
  have hcall := specMinimize_c m O _ _ w3 (Hmv2.out.gr HG3.out) (HO2.out.gr HG3.out) Hms.out D HD.out
  (with_reducible refine hcall.mono ?_)
  clear hcall
  rw [← HY.out]
  rintro e w4 ⟨v4, rfl, hn4, hg4⟩
  rw [← Hyl.out] at hn4
  rw [← HK.out]
  have Hn4 := hid hn4
  obtain ⟨qo, qc, rfl, -, -⟩ := id hn4
  have Hg4 := hid hg4; have HG4 := hid (HG3.out.trans hg4)
  have fl4 := fld (HG4.out.obj Hb2.out (by simp))
  have hKK : (K != K) = false := by cases K <;> rfl
  have hKe : (K == K) = true := by cases K <;> rfl
  clear hn4 hg4 fl3
  go_wp2_with fail
  have hcall := lawEqualInts_c ys ys _ _ w4 (Hn3.out.gr Hg4.out) Hn4.out
  (with_reducible refine hcall.mono ?_)
  clear hcall
  rw [decide_eq_true (rfl : ys = ys)]
  rintro e w5 ⟨rfl, hg5⟩
  have HG5 := hid (HG4.out.trans hg5); have Hn5 := hid (Hn3.out.gr (Hg4.out.trans hg5)); have Hm5 := hid (Hn4.out.gr hg5)
  have fl5 := fld (HG5.out.obj Hb2.out (by simp))
  clear hg5 fl4
  cases hY : Y with
  | none =>
    have hKf : K = false := by rw [HK.out, hY]; rfl
    subst hKf
    clear hY
    go_wp2_with fail
    have hcall := lawEqualInts_c ys ys _ _ w5 Hn5.out Hm5.out
    (with_reducible refine hcall.mono ?_)
    clear hcall
    rw [decide_eq_true (rfl : ys = ys)]
    rintro e w7 ⟨rfl, hg7⟩
    go_wp2_with fail
    go_ret
    exact ⟨rfl, (HG2.out.trans HG5.out).trans hg7⟩
  | some y =>
  have hKt : K = true := by rw [HK.out, hY]; rfl
  subst hKt
  have hysy : ys = y := by rw [Hyl.out, hY]; rfl
  subst hysy
  have hmin : minO m D O = some ys := by rw [← HY.out, hY]
  have hin : (validM m && objB O m.doms.length) = true := by
    cases h : (validM m && objB O m.doms.length)
    · rw [minO_no h] at hmin; cases hmin
    · rfl
  have hbest : bestO (dot O) (sols m.cons D) = some ys := by rw [← minO_yes hin]; exact hmin
  obtain ⟨b, hlb, hble⟩ := lowO_min HD.out hmin
  simp only [Bool.and_eq_true] at hin
  have HVM := hid (HD.out hin.1); have Hob := hid hin.2; have Hbest := hid hbest; have Hlb := hid hlb
  have Hys : Hid (ys ∈ sols m.cons D) := hid (bestO_mem hbest)
  have HYL : Hid (ys.length = D.length) := hid (solv Hys.out).1
  obtain ⟨V, hV⟩ : ∃ V, V = objVal O ys := ⟨_, rfl⟩
  have hVd : V = dot O ys := by rw [hV, objVal_sol HVM.out Hob.out Hys.out]
  have hbV : b ≤ V := by omega
  have hbVd : decide (b ≤ V) = true := decide_eq_true hbV
  have HV := hid hV; have HVd := hid hVd
  clear hY hin hmin hbest hlb hble hKK hKe hV hVd hbV
  go_wp2_with fail
  have hcall := ObjectiveValue_c O ys _ _ w5 (HO2.out.gr HG5.out) Hn5.out
  (with_reducible refine hcall.mono ?_)
  clear hcall
  rw [← HV.out]
  rintro e w6a ⟨rfl, hg6a⟩
  have HG6a := hid (HG5.out.trans hg6a); have Hn6a := hid (Hn5.out.gr hg6a)
  have fl6a := fld (HG6a.out.obj Hb2.out (by simp))
  clear hg6a fl5
  go_wp2_with fail
  have hcall := SolveAll_c m 20 _ _ (Hmv2.out.gr HG6a.out) D HD.out
  (with_reducible refine hcall.mono ?_)
  clear hcall
  rintro e w6 ⟨v6, rfl, hr6, hg6⟩
  obtain ⟨zs, hzs⟩ : ∃ zs, zs = allO m 20 D := ⟨_, rfl⟩
  rw [← hzs] at hr6
  have Hzm : Hid (∀ x ∈ zs, x ∈ sols m.cons D) := hid (by rw [hzs]; unfold allO; split; exact fun x hx => List.mem_of_mem_take hx; simp)
  have Hr6 := hid hr6
  obtain ⟨ro, rc, rfl, ⟨hr1, hr2, -⟩, -⟩ := hr6
  have HG6 := hid (HG6a.out.trans hg6); have Hn6 := hid (Hn6a.out.gr hg6)
  have Hb6 := hid (HG6.out.obj Hb2.out (by simp))
  clear hzs hg6 fl6a
  go_wp2_with fail
  go_loopw [11] (fun i' wr => ∃ n : Nat, n ≤ zs.length ∧ i' = .int .i64 n ∧ Gr [] w6 wr) (fun i' _ => zs.length - (intOf i').toNat)
  case atStart => exact ⟨0, Nat.zero_le _, rfl, Gr.refl _ _⟩
  case round =>
  obtain ⟨n, hn, rfl, hg⟩ := hrel
  have flr := fld (hg.obj Hb6.out (by simp))
  have Hg := hid hg
  by_cases hlt : n < zs.length
  · obtain ⟨x, hx⟩ := get_some hlt
    have hxs := Hzm.out x (List.mem_of_getElem? hx)
    have hxl : x.length = D.length := (solv hxs).1
    obtain ⟨b5, o', u, e1, hc0, hn0⟩ := (Hr6.out.gr hg).at0 hx
    subst e1
    obtain ⟨xo', xc', rfl, ⟨hx1, hx2, -⟩, -⟩ := id hn0
    have hbf := bestO_firstM (sols_sorted m.cons D) Hbest.out x hxs
    obtain ⟨cx, hcx⟩ : ∃ cx, cx = objVal O x := ⟨_, rfl⟩
    have hcd : cx = dot O x := by rw [hcx, objVal_sol HVM.out Hob.out hxs]
    rw [← hcd, ← HVd.out] at hbf
    have hlt1 : decide (cx < V) = false := decide_eq_false (by rcases hbf with h | h <;> omega)
    have HLX : Hid (cx = V → lexB x ys = false) := hid (fun e => by
      rcases hbf with h | ⟨-, h | h⟩
      · omega
      · subst h; exact lexB_irrefl _
      · exact lexB_asymm h)
    have HY6 := hid (Hn6.out.gr hg)
    have Hxl := hid hxl; have Hn0 := hid hn0; have Hc0 := hid hc0; have Hcx := hid hcx
    clear hx hxs hxl hn0 hg hcx hcd hbf
    go_wp2_with fail
    have hcall := ObjectiveValue_c O x _ _ _ (HO2.out.gr (HG6.out.trans Hg.out)) Hn0.out
    (with_reducible refine hcall.mono ?_)
    clear hcall
    rw [← Hcx.out]
    rintro e w7 ⟨rfl, hg7⟩
    have Hg7 := hid hg7
    have hc7 := hg7.cell Hc0.out (by simp)
    clear hg7 hc0
    by_cases heq2 : cx = V
    · have hlx := HLX.out heq2
      have hee : (cx == V) = true := by simp [heq2]
      have Hlx := hid hlx
      clear hlx heq2
      go_wp2_with fail
      have hcall := lexLess_c x ys _ _ _ (Hn0.out.gr Hg7.out) (HY6.out.gr Hg7.out) (by rw [Hxl.out, HYL.out])
      (with_reducible refine hcall.mono ?_)
      clear hcall
      rw [Hlx.out]
      rintro e w10 ⟨rfl, hg10⟩
      go_wp2_with fail
      exact ⟨⟨n + 1, by omega, by go_num, Hg.out.trans (Hg7.out.trans hg10)⟩, by simp [intOf]; omega⟩
    · have hee : (cx == V) = false := by simp [heq2]
      clear heq2
      go_wp2_with fail
      exact ⟨⟨n + 1, by omega, by go_num, Hg.out.trans Hg7.out⟩, by simp [intOf]; omega⟩
  · have HGf := hid (HG6.out.trans hg)
    have HYr := hid (Hn6.out.gr hg)
    clear hg
    go_wp2_with fail
    have hcall := LowerBound_c m D O _ _ _ (Hmv2.out.gr HGf.out) HD.out (HO2.out.gr HGf.out) (HT2.out.gr HGf.out)
    (with_reducible refine hcall.mono ?_)
    clear hcall
    rw [Hlb.out]
    rintro e w7 ⟨rfl, hg7⟩
    have HG7 := hid (HGf.out.trans hg7); have HY7 := hid (HYr.out.gr hg7)
    have fl7 := fld (HG7.out.obj Hb2.out (by simp))
    have hso : (some b).isSome = true := rfl
    have hge : (some b).getD 0 = b := rfl
    clear hg7 flr
    go_wp2_with fail
    have hcall := IsSolution_t m D ys _ _ _ (Hmv2.out.gr HG7.out) HVM.out HY7.out Hys.out
    (with_reducible refine hcall.mono ?_)
    clear hcall
    rintro e w8 ⟨rfl, hg8⟩
    go_wp2_with fail
    go_ret
    exact ⟨rfl, (HG2.out.trans HG7.out).trans hg8⟩

end Go.Proofs.YtilcicoekpmelaaGreatDoor
