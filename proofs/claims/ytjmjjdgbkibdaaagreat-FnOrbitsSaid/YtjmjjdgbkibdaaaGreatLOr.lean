/-
  Walk of FnOrbits.
-/
import Derived.Test.YtjmjjdgbkibdaaaGreatLPS
import Derived.Test.YtjmjjdgbkibdaaaGreatG13
import Derived.Test.YtjmjjdgbkibdaaaGreatSy4
import Derived.Test.YtjmjjdgbkibdaaaGreatSl
import Derived.Test.YtjmjjdgbkibdaaaGreatOrP
set_option linter.unusedVariables false
set_option linter.unusedSimpArgs false
namespace Go.Proofs.YtjmjjdgbkibdaaaGreat
open Go.RowKit


set_option maxRecDepth 100000 in
set_option maxHeartbeats 4000000 in
theorem FnOrbits_c (code : Value) (bs : List Int) (ao : Option Addr) (cap : Nat) (w : World) (hv : code = .slice ao bs.length cap) (hlen : bs.length ≤ 9223372036854775807) (hcap : bs.length ≤ cap) (hc : Cells [] w .u8 ao bs) (hb : ∀ b ∈ bs, 0 ≤ b ∧ b ≤ 255) :
    Calls Tryz.prog 12 #[code] w (fun e w' => e = .returned (.bool true) ∧ Gr [] w w') := by
  subst hv
  have Hc := hid hc; have Hb := hid hb; clear hc hb
  by_cases hbig : 1048576 < bs.length
  · go_enter Tryz.func12, Tryz.ntmps12
    go_wp2_with fail
    go_ret
    exact ⟨rfl, Gr.refl _ _⟩
  have hbig' : decide ((1048576 : Int) < (bs.length : Int)) = false := by simp; omega
  go_enter Tryz.func12, Tryz.ntmps12
  go_wp2_with fail
  have hcall := DrawVariableOrbits_c _ bs w ao cap rfl hlen hcap Hc.out Hb.out
  (with_reducible refine hcall.mono ?_)
  clear hcall
  rintro e w1 ⟨m, mv, rfl, hmv, hms, hg1⟩
  obtain ⟨xo, xc, co, cc, rfl⟩ := hmv.slices
  have ha2 : Gr [] w1 (w1.alloc (.cells #[.slice xo m.doms.length xc, .slice co m.cons.length cc] 31)) := (Gr.refl _ _).alloc _
  have hb2 : (w1.alloc (.cells #[.slice xo m.doms.length xc, .slice co m.cons.length cc] 31)).heap[w1.heap.size]? = some (.cells #[.slice xo m.doms.length xc, .slice co m.cons.length cc] 31 (0, 0)) := heap_alloc_new _ _
  have HG2 := hid (hg1.trans ha2); have Hmv2 := hid (hmv.gr ha2); have Hms := hid hms; have Hb2 := hid hb2
  clear hmv hms ha2 hb2 hg1 hbig
  obtain ⟨D, hD⟩ := openVM m
  have HD := hid hD; clear hD
  go_wp2_with fail
  have hcall := VariableOrbits_c m _ _ Hmv2.out D HD.out
  (with_reducible refine hcall.mono ?_)
  clear hcall
  obtain ⟨zs, hzs⟩ : ∃ zs, zs = (orbsO m D).getD [] := ⟨_, rfl⟩
  rw [← hzs]
  have Hzs := hid hzs; clear hzs
  rintro e w3 ⟨v3, rfl, hn3, hg3⟩
  have hn3 := hn3.nums (S := []) (by simp)
  have Hn3 := hid hn3
  obtain ⟨zo, zc, rfl, ⟨hz1, hz2, -⟩, -⟩ := hn3
  have fl3 := fld (hg3.obj Hb2.out (by simp))
  have HG3 := hid hg3; clear hg3
  go_wp2_with fail
  have hcall := specVariableOrbits_c m _ _ (Hmv2.out.gr HG3.out) Hms.out D HD.out
  (with_reducible refine hcall.mono ?_)
  clear hcall
  rw [← Hzs.out]
  rintro e w4 ⟨v4, rfl, hn4, hg4⟩
  have Hn4 := hid hn4
  have HG4 := hid (HG3.out.trans hg4); have Hg4 := hid hg4
  have fl4 := fld (HG4.out.obj Hb2.out (by simp))
  clear hn4 hg4 fl3
  go_wp2_with fail
  have hcall := lawEqualInts_c zs zs _ _ _ (Hn3.out.gr Hg4.out) Hn4.out
  (with_reducible refine hcall.mono ?_)
  clear hcall
  rw [decide_eq_true (rfl : zs = zs)]
  rintro e w5 ⟨rfl, hg5⟩
  have HG5 := hid (HG4.out.trans hg5); have Hn5 := hid (Hn3.out.gr (Hg4.out.trans hg5))
  have fl5 := fld (HG5.out.obj Hb2.out (by simp))
  clear hg5 fl4
  by_cases hz : zs.length = 0
  · have hz' : (((zs.length : Nat) : Int) == 0) = true := by simp [hz]
    clear hz
    go_wp2_with fail
    have hcall := specVariableOrbits_c m _ _ (Hmv2.out.gr HG5.out) Hms.out D HD.out
    (with_reducible refine hcall.mono ?_)
    clear hcall
    rw [← Hzs.out]
    rintro e w6 ⟨v6, rfl, hn6, hg6⟩
    have Hn6 := hid hn6; have Hg6 := hid hg6
    clear hn6 hg6
    go_wp2_with fail
    have hcall := lawEqualInts_c zs zs _ _ _ (Hn5.out.gr Hg6.out) Hn6.out
    (with_reducible refine hcall.mono ?_)
    clear hcall
    rw [decide_eq_true (rfl : zs = zs)]
    rintro e w7 ⟨rfl, hg7⟩
    go_wp2_with fail
    go_ret
    exact ⟨rfl, ((HG2.out.trans HG5.out).trans Hg6.out).trans hg7⟩
  have hz' : (((zs.length : Nat) : Int) == 0) = false := beq_eq_false_iff_ne.2 (by omega)
  have Hval : Hid (validM m = true) := hid (by
    cases h : validM m
    · exfalso; apply hz; rw [Hzs.out]; unfold orbsO; rw [h]; rfl
    · rfl)
  have HVM := hid (HD.out Hval.out)
  have HDL : Hid (m.doms.length = D.length) := hid (by rw [HVM.out.doms, ints_len])
  have Hzo : Hid (zs = orbs m.cons D D.length) := hid (by rw [Hzs.out]; unfold orbsO; rw [Hval.out]; rfl)
  have hzl : zs.length = D.length := by rw [Hzo.out, orbs_len]
  have HZL := hid hzl
  have Hb5 := hid (HG5.out.obj Hb2.out (by simp))
  have h4 : zs.length ≤ 4 := by have := HVM.out.len.2; omega
  clear hz hzl
  go_wp2_with fail
  go_loopw [5] (fun i wr => ∃ n : Nat, n ≤ zs.length ∧ i = .int .i64 n ∧ Gr [] w5 wr) (fun i _ => zs.length - (intOf i).toNat)
  case atStart => exact ⟨0, Nat.zero_le _, rfl, Gr.refl _ _⟩
  case round =>
    obtain ⟨n, hn, rfl, hg⟩ := hrel
    have flr := fld (hg.obj Hb5.out (by simp))
    have Hg := hid hg; clear hg
    by_cases hlt : n < zs.length
    · obtain ⟨a, ha⟩ : ∃ a : Nat, a = orb m.cons D n := ⟨_, rfl⟩
      obtain ⟨k1, -, -⟩ := orb_spec m.cons D n
      rw [← ha] at k1
      have Ha := hid ha
      have hzn : zs[n]? = some (a : Int) := by rw [Hzo.out, orbs_get (by have := HZL.out; omega), ha]
      have hza : zs[a]? = some (a : Int) := by rw [Hzo.out, orbs_get (by have := HZL.out; omega), ha, orb_orb (by have := HZL.out; omega)]
      clear ha
      obtain ⟨b1, o1, e1, -, c1⟩ := (Hn5.out.gr Hg.out).at hzn
      subst e1
      obtain ⟨b2, o2, e2, -, c2⟩ := (Hn5.out.gr Hg.out).at hza
      obtain ⟨rfl, rfl⟩ : b1 = b2 ∧ o1 = o2 := by simpa using e2
      have Hzn := hid hzn
      have hal : a < zs.length := by omega
      have hm1 : ∀ c : GrW [] wr, c.val.cell? ⟨b1, o1 + n, none⟩ = some (.int .i64 a) := fun c => c.gr.cell c1 (by simp)
      have hm2 : ∀ c : GrW [] wr, c.val.cell? ⟨b1, o1 + a, none⟩ = some (.int .i64 a) := fun c => c.gr.cell c2 (by simp)
      have hd1 : decide ((n : Int) < (a : Int)) = false := decide_eq_false (by omega)
      have hd4 : decide (n < a) = false := decide_eq_false (by omega)
      have hd2 : ((a : Int) == (a : Int)) = true := by simp
      have hd3 : ((a : Int) != (a : Int)) = false := by simp
      clear e2 hzn hza c1 c2
      go_wp2_with fail
      refine wp_region_gr [] _ (by kernel_rfl) (by kernel_rfl) (Gr.refl _ _) ?_
      repeat (go_big_quiet_step (fail))
      refine wpQuiet_nil ?_
      rintro w7 ⟨n7, hw7⟩
      have hg7 : Gr [] wr w7 := hw7 ▸ n7.gr
      have HG7 := hid (Hg.out.trans hg7)
      have Hb7 := hid (HG7.out.obj Hb5.out (by simp))
      clear hw7 n7 hg7 hm1 hm2 flr
      go_wp2_with fail
      go_loopw [6] (fun i wq => ∃ k : Nat, k ≤ n ∧ i = .int .i64 k ∧ Gr [] w7 wq) (fun i _ => n - (intOf i).toNat)
      case atStart => exact ⟨0, Nat.zero_le _, rfl, Gr.refl _ _⟩
      case round =>
        obtain ⟨k, hk, rfl, hgq⟩ := hrel
        have Hgq := hid hgq; clear hgq
        by_cases hkl : k < n
        · obtain ⟨a2, ha2⟩ : ∃ a2 : Nat, a2 = orb m.cons D k := ⟨_, rfl⟩
          have hzk : zs[k]? = some (a2 : Int) := by rw [Hzo.out, orbs_get (by have := HZL.out; omega), ha2]
          obtain ⟨b3, o3, e3, -, c3⟩ := (Hn5.out.gr (HG7.out.trans Hgq.out)).at hzk
          obtain ⟨rfl, rfl⟩ : b1 = b3 ∧ o1 = o3 := by simpa using e3
          obtain ⟨b4, o4, e4, -, c4⟩ := (Hn5.out.gr (HG7.out.trans Hgq.out)).at Hzn.out
          obtain ⟨rfl, rfl⟩ : b1 = b4 ∧ o1 = o4 := by simpa using e4
          have hm1 : ∀ c : GrW [] wr, c.val.cell? ⟨b1, o1 + n, none⟩ = some (.int .i64 a) := fun c => c.gr.cell c4 (by simp)
          have hm2 : ∀ c : GrW [] wr, c.val.cell? ⟨b1, o1 + k, none⟩ = some (.int .i64 a2) := fun c => c.gr.cell c3 (by simp)
          have hm3 : ∀ c : GrW [] wr, ∀ i, c.val.cell? ⟨w1.heap.size, i, none⟩ = (#[.slice xo m.doms.length xc, .slice co m.cons.length cc] : Array Value)[i]? := fun c => fld (c.gr.obj (Hgq.out.obj Hb7.out (by simp)) (by simp))
          have Hsym : Hid (symB m D (n : Int) (k : Int) = ((a : Int) == (a2 : Int))) := hid (by
            rw [symB_in Hval.out (by have := HDL.out; have := HZL.out; omega) (by have := HDL.out; have := HZL.out; omega), orb_eq_iff (by have := HZL.out; omega) (by have := HZL.out; omega), ← Ha.out, ← ha2]
            by_cases h : a = a2
            · subst h; simp
            · rw [decide_eq_false h, beq_eq_false_iff_ne.2 (by omega)])
          have HW := hid ((Hmv2.out.gr HG5.out).gr (HG7.out.trans Hgq.out))
          have hkz : k < zs.length := by omega
          clear e3 e4 c3 c4 hzk ha2
          cases hab : ((a : Int) == (a2 : Int))
          all_goals
            have V : Hid (∀ c : GrW [] wr, Calls Tryz.prog 60 #[.agg #[.slice xo m.doms.length xc, .slice co m.cons.length cc], .int .i64 n, .int .i64 k] c.val fun e w' => e = .returned (.bool _) ∧ Gr [] c.val w') := hid fun c => by
              have h := IsVariableSymmetry_c m (n : Int) (k : Int) _ c.val (HW.out.gr c.gr) D HD.out
              rw [Hsym.out, hab] at h
              exact h
            go_wp2_with fail
            refine wp_region_gr [] _ (by kernel_rfl) (by kernel_rfl) (Gr.refl _ _) ?_
            repeat (go_big_quiet_step ((go_at_call 60; with_reducible exact Calls.gr_of (V.out _))))
            refine wpQuiet_nil ?_
            rintro w8 ⟨n8, hw8⟩
            have hg8 : Gr [] wr w8 := hw8 ▸ n8.gr
            clear hw8 n8 hm1 hm2 hm3
            go_wp2_with fail
            exact ⟨⟨k + 1, by omega, by go_num, Hgq.out.trans hg8⟩, by simp [intOf]; omega⟩
        · go_wp2_with fail
          exact ⟨⟨n + 1, by omega, by go_num, HG7.out.trans Hgq.out⟩, by simp [intOf]; omega⟩
    · go_wp2_with fail
      go_ret
      exact ⟨rfl, (HG2.out.trans HG5.out).trans Hg.out⟩

end Go.Proofs.YtjmjjdgbkibdaaaGreat
