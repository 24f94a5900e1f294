/-
  The walk of FnObjective.
-/
import Derived.Test.YtadieibhbplekaaO2
namespace Go.Proofs.Ytadieibhbplekaa
open Go.RowKit

set_option maxHeartbeats 1000000 in
theorem FnObjective_c (code : Value) (bs : List Int) (ao : Option Addr) (cap : Nat) (w : World) (hv : code = .slice ao bs.length cap) (hlen : bs.length ≤ 9223372036854775807) (hcap : bs.length ≤ cap) (hc : Cells [] w .u8 ao bs) (hb : ∀ b ∈ bs, 0 ≤ b ∧ b ≤ 255) :
    Calls Try.prog 3 #[code] w (fun e w' => e = .returned (.bool true) ∧ Gr [] w w') := by
  subst hv
  have Hc := hid hc; have Hb := hid hb; clear hc hb
  by_cases hbig : 1048576 < bs.length
  · go_enter Try.func3, Try.ntmps3
    go_wp2_with fail
    go_ret
    exact ⟨rfl, Gr.refl _ _⟩
  have hbig' : decide ((1048576 : Int) < (bs.length : Int)) = false := by simp; omega
  go_enter Try.func3, Try.ntmps3
  go_wp2_with fail
  refine (DrawObjectiveValue_c _ bs ao cap w rfl hlen hcap Hc.out Hb.out).mono ?_
  rintro e w1 ⟨v1, v2, xs, ys, rfl, ⟨hx1, hy1⟩, ⟨hxl, hyl⟩, hg1⟩
  have hx1' := hx1; have hy1' := hy1
  obtain ⟨xo, xc, rfl, ⟨hxc1, hxc2, _⟩, hxc⟩ := hx1
  obtain ⟨yo, yc, rfl, ⟨hyc1, hyc2, _⟩, hyc⟩ := hy1
  have Hxc := hid hxc; have Hyc := hid hyc; clear hxc hyc
  go_wp2_with fail
  refine (ObjectiveValue_c xs ys _ _ w1 hx1' hy1').mono ?_
  rintro e w2 ⟨rfl, hg2⟩
  go_wp2_with fail
  refine (specObjectiveValue_c xs ys _ _ w2 (hx1'.gr hg2) (hy1'.gr hg2)).mono ?_
  rintro e w3 ⟨rfl, hg3⟩
  have hg13 := hg2.trans hg3
  have Hx1 := hid hx1'; have Hy1 := hid hy1'; clear hx1' hy1'
  cases h1 : (((xs.length : Nat) : Int) != (ys.length : Int))
  rotate_left
  · go_wp2_with fail
    refine (specObjectiveValue_c xs ys _ _ w3 (Hx1.out.gr hg13) (Hy1.out.gr hg13)).mono ?_
    rintro e w4 ⟨rfl, hg4⟩
    go_wp2_with fail
    go_ret
    exact ⟨ret_bool (by simp), (hg1.trans hg13).trans hg4⟩
  have H1 : Hid (xs.length = ys.length) := hid (by simp at h1; omega)
  cases h2 : (((ys.length : Nat) : Int) == 0)
  rotate_left
  · go_wp2_with fail
    refine (specObjectiveValue_c xs ys _ _ w3 (Hx1.out.gr hg13) (Hy1.out.gr hg13)).mono ?_
    rintro e w4 ⟨rfl, hg4⟩
    go_wp2_with fail
    go_ret
    exact ⟨ret_bool (by simp), (hg1.trans hg13).trans hg4⟩
  cases h3 : (decide ((4 : Int) < (ys.length : Int)))
  rotate_left
  · go_wp2_with fail
    refine (specObjectiveValue_c xs ys _ _ w3 (Hx1.out.gr hg13) (Hy1.out.gr hg13)).mono ?_
    rintro e w4 ⟨rfl, hg4⟩
    go_wp2_with fail
    go_ret
    exact ⟨ret_bool (by simp), (hg1.trans hg13).trans hg4⟩
  have h3' : ys.length ≤ 4 := by simp at h3; omega
  have hxle : xs.length ≤ ys.length := by have := H1.out; omega
  have hyle : ys.length ≤ xs.length := by have := H1.out; omega
  go_wp2_with fail
  have hg03 := hg1.trans hg13
  have Hxc3 := hid (Hxc.out.gr hg13); have Hyc3 := hid (Hyc.out.gr hg13)
  go_loop [6] (fun i => ∃ n : Nat, n ≤ ys.length ∧ i = .int .i64 n ∧ allB (-9) 9 (xs.drop n) = allB (-9) 9 xs ∧ allB 0 5 (ys.drop n) = allB 0 5 ys) (fun i => ys.length - (intOf i).toNat)
  case atStart => exact ⟨0, Nat.zero_le _, rfl, rfl, rfl⟩
  case round =>
    obtain ⟨n, hn, rfl, hax, hay⟩ := hrel
    have Hax := hid hax; have Hay := hid hay; clear hax hay
    by_cases hlt : n < ys.length
    · obtain ⟨x, hx⟩ := get_some (show n < xs.length by omega)
      obtain ⟨y, hy⟩ := get_some hlt
      obtain ⟨b, o, rfl, _, hcx⟩ := Hxc3.out n x hx
      obtain ⟨b', o', rfl, _, hcy⟩ := Hyc3.out n y hy
      have HX := hid (drop_cons hx); have HY := hid (drop_cons hy); clear hx hy
      have hnx : n < xs.length := by omega
      by_cases hxr : x < -9 ∨ 9 < x ∨ y < 0 ∨ 5 < y
      · have hz : objVal xs ys = 0 := by
          unfold objVal
          rw [if_neg]
          rintro ⟨_, _, ha, hb⟩
          have e1 := Hax.out; rw [HX.out, ha] at e1
          have e2 := Hay.out; rw [HY.out, hb] at e2
          have e1' := allB_iff.1 e1 x (by simp)
          have e2' := allB_iff.1 e2 y (by simp)
          omega
        have Hz := hid hz; clear hz
        have fin : (objVal xs ys == 0) = true := by rw [Hz.out]; rfl
        by_cases hx1 : x < -9
        · go_wp2_with fail
          go_ret
          exact ⟨rfl, hg03⟩
        · by_cases hx2 : 9 < x
          · go_wp2_with fail
            go_ret
            exact ⟨rfl, hg03⟩
          · by_cases hy1 : y < 0
            · go_wp2_with fail
              go_ret
              exact ⟨rfl, hg03⟩
            · have hy2 : 5 < y := by omega
              go_wp2_with fail
              go_ret
              exact ⟨rfl, hg03⟩
      · have hr1 : -9 ≤ x := by omega
        have hr2 : x ≤ 9 := by omega
        have hr3 : 0 ≤ y := by omega
        have hr4 : y ≤ 5 := by omega
        clear hxr
        go_wp2_with fail
        refine ⟨⟨n + 1, by omega, by go_num, ?_, ?_⟩, by simp [intOf]; omega⟩
        · rw [← Hax.out, HX.out]; simp [allB, inB_iff.2 ⟨hr1, hr2⟩]
        · rw [← Hay.out, HY.out]; simp [allB, inB_iff.2 ⟨hr3, hr4⟩]
    · have hA : allB (-9) 9 xs = true := by rw [← Hax.out, drop_end (by omega)]; rfl
      have hB : allB 0 5 ys = true := by rw [← Hay.out, drop_end (by omega)]; rfl
      have HA := hid hA; have HB := hid hB; clear hA hB
      go_wp2_with fail
      go_loopw [7] (fun i wr => ∃ n : Nat, n ≤ ys.length ∧ i = .int .i64 n ∧ Gr [] w3 wr) (fun i _ => ys.length - (intOf i).toNat)
      case atStart => exact ⟨0, Nat.zero_le _, rfl, Gr.refl _ _⟩
      case round =>
        obtain ⟨m, hm, rfl, hg⟩ := hrel
        by_cases hlt : m < ys.length
        · obtain ⟨y, hy⟩ := get_some hlt
          obtain ⟨b', o', rfl, _, hcy⟩ := Hyc3.out m y hy
          have hcy' := hg.cell hcy (by simp)
          have HY := hid hy; clear hy
          by_cases hy5 : y < 5
          · have hns : Nums [] (wr.alloc (.cells #[] 3)) .i64 (.slice (some ⟨b', o', none⟩) ys.length yc) ys := ((Hy1.out.gr hg13).gr hg).gr ((Gr.refl _ _).alloc _)
            have hyr := allB_iff.1 HB.out y (List.mem_of_getElem? HY.out)
            have Hns := hid hns; clear hns
            go_wp2_with (at_builtin; refine wp_appN rfl _ _ 23 rfl wr.heap.size 3 infoInt Try.underlying23 _ [] ys rfl (Own.empty _ _ (Nat.le_refl _)) _ [] rfl Hns.out (by simp; omega) (by simp) ?_; intro v' w4 hown4 hb4; rw [List.nil_append] at hown4; have Hown4 := hid hown4; obtain ⟨g, gc, rfl, ⟨hgB, hglt⟩, hgc, hgf⟩ := hown4.open (by omega); have hgcm := hgc m y HY.out; have hgfm := hgf m; clear hown4 hgc hgf)
            obtain ⟨x, hx⟩ := get_some (show m < xs.length by omega)
            obtain ⟨bx, ox, rfl, _, hcx⟩ := Hxc3.out m x hx
            have hxr := allB_iff.1 HA.out x (List.mem_of_getElem? hx)
            have hbd := objVal_bd xs ys
            have hlin := objVal_linear xs ys m x y H1.out (by omega) HA.out HB.out hx HY.out hy5
            have heq : (objVal xs (ys.set m (y + 1)) != objVal xs ys + x) = false := by rw [hlin]; simp
            clear hlin
            have hg5 : Gr [] w3 (w4.setCell ⟨g, m, none⟩ (.int .i64 (y + 1))) := ((hg.alloc _).low hb4 hg.size).setCell _ _ (.inr (Nat.le_trans hg.size hgB))
            have hset := (Hown4.out.set m (y + 1) hlt).nums (S := []) (by simp)
            have hcx5 : ∀ n : GrW [] (w4.setCell ⟨g, m, none⟩ (.int .i64 (y + 1))), n.val.cell? ⟨bx, ox + m, none⟩ = some (.int .i64 x) := fun n => n.gr.cell (hg5.cell hcx (by simp)) (by simp)
            have Hset := hid hset; have Hx5 := hid ((Hx1.out.gr hg13).gr hg5); have Hg5 := hid hg5
            have hmx : m < xs.length := by omega
            clear hset hg5 hcx hx hb4 hgcm hgfm hcy hcy' hg13 hg2 hg3
            refine wp_region_gr [] _ (by kernel_rfl) (by kernel_rfl) (Gr.refl _ _) ?_
            repeat (go_big_quiet_step ((go_at_call 5; exact Calls.gr_of (ObjectiveValue_c xs (ys.set m (y + 1)) _ _ _ (Hx5.out.gr (GrW.gr _)) (Hset.out.gr (GrW.gr _))))))
            refine wpQuiet_nil ?_
            rintro w6 ⟨n6, hw6⟩
            have hg6 : Gr [] _ w6 := hw6 ▸ n6.gr
            clear hw6 n6
            go_wp2_with fail
            refine ⟨⟨m + 1, by omega, by go_num, Hg5.out.trans hg6⟩, by simp [intOf]; omega⟩
          · go_wp2_with fail
            refine ⟨⟨m + 1, by omega, by go_num, hg⟩, by simp [intOf]; omega⟩
        · go_wp2_with fail
          go_ret
          exact ⟨rfl, hg03.trans hg⟩
end Go.Proofs.Ytadieibhbplekaa
