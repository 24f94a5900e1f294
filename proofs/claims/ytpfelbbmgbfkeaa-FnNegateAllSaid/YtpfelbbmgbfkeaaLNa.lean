/-
  Walk of FnNegateAll.
-/
import Derived.Test.YtpfelbbmgbfkeaaNa
import Derived.Test.YtpfelbbmgbfkeaaGc
import Derived.Test.YtpfelbbmgbfkeaaCh
set_option linter.unusedVariables false
set_option linter.unusedSimpArgs false
namespace Go.Proofs.Ytpfelbbmgbfkeaa
open Go.RowKit

set_option maxRecDepth 100000 in
set_option maxHeartbeats 4000000 in
theorem FnNegateAll_c (code : Value) (bs : List Int) (ao : Option Addr) (cap : Nat) (more : Value) (ms : List Int) (mo : Option Addr) (mc : Nat) (w : World) (hv : code = .slice ao bs.length cap) (hlen : bs.length ≤ 9223372036854775807) (hcap : bs.length ≤ cap) (hc : Cells [] w .u8 ao bs) (hb : ∀ b ∈ bs, 0 ≤ b ∧ b ≤ 255)
    (hmv : more = .slice mo ms.length mc) (hmlen : ms.length ≤ 9223372036854775807) (hmcap : ms.length ≤ mc) (hmo : Cells [] w .u8 mo ms) (hmb : ∀ b ∈ ms, 0 ≤ b ∧ b ≤ 255) :
    Calls Try.prog 3 #[code, more] w (fun e w' => e = .returned (.bool true) ∧ Gr [] w w') := by
  subst hv hmv
  have Hc := hid hc; have Hb := hid hb; have Hmo := hid hmo; have Hmb := hid hmb; clear hc hb hmo hmb
  by_cases hbig : 1048576 < bs.length
  · go_enter Try.func3, Try.ntmps3
    go_wp2_with fail
    go_ret
    exact ⟨rfl, Gr.refl _ _⟩
  have hbig' : decide ((1048576 : Int) < (bs.length : Int)) = false := by simp; omega
  by_cases hmig : 1048576 < ms.length
  · go_enter Try.func3, Try.ntmps3
    go_wp2_with fail
    go_ret
    exact ⟨rfl, Gr.refl _ _⟩
  have hmig' : decide ((1048576 : Int) < (ms.length : Int)) = false := by simp; omega
  go_enter Try.func3, Try.ntmps3
  go_wp2_with fail
  have hcall := DrawNegateAll_c _ bs w ao cap rfl hlen hcap Hc.out Hb.out
  (with_reducible refine hcall.mono ?_)
  clear hcall
  rintro e w1 ⟨n, ls, lv, rfl, hn5, hls, hl8, hg1⟩
  obtain ⟨lo, lc, rfl, ⟨hlc1, hlc2⟩⟩ := hls.slice
  have Hls := hid hls; have Hg1 := hid hg1
  clear hls hg1 hbig
  obtain ⟨ok, hok⟩ : ∃ ok, ok = validCl ls n := ⟨_, rfl⟩
  obtain ⟨Rr, hR⟩ : ∃ R, R = negR n ls := ⟨_, rfl⟩
  have HI : Hid (∀ v W, LitsV [] W v ls → Calls Try.prog 7 #[.int .i64 (n : Int), v] W fun e w' => ∃ v', e = .returned (.tuple #[v', .bool ok]) ∧ LitsM (New W.heap.size w') w' v' Rr ∧ Gr [] W w') := hid fun v W h => by rw [hok, hR]; exact NegateAll_c ls n v W h (by omega) (by constructor <;> omega)
  have HS : Hid (∀ v W, LitsV [] W v ls → Calls Try.prog 8 #[.int .i64 (n : Int), v] W fun e w' => ∃ v', e = .returned (.tuple #[v', .bool ok]) ∧ LitsM (New W.heap.size w') w' v' Rr ∧ Gr [] W w') := hid fun v W h => by rw [hok, hR]; exact specNegateAll_c ls n v W h (by omega)
  have Hok := hid hok; have HR := hid hR
  clear hok hR
  go_wp2_with fail
  (with_reducible refine (HI.out _ _ Hls.out).mono ?_)
  rintro e w2 ⟨v2, rfl, hm2, hg2⟩
  obtain ⟨a2, c2, rfl, ⟨k1, k2, -⟩⟩ := hm2.slice
  have HO2 := hid (hm2.lits (S := []) (by simp)); have Hg2 := hid (Hg1.out.trans hg2); have Hls2 := hid (Hls.out.gr hg2)
  clear hm2 hg2
  go_wp2_with fail
  (with_reducible refine (HS.out _ _ Hls2.out).mono ?_)
  rintro e w3 ⟨v3, rfl, hm3, hg3⟩
  obtain ⟨a3, c3, rfl, -⟩ := hm3.slice
  have HW3 := hid (hm3.lits (S := []) (by simp)); have HO3 := hid (HO2.out.gr hg3); have Hg3 := hid (Hg2.out.trans hg3); have Hls3 := hid (Hls2.out.gr hg3)
  clear hm3 hg3
  cases ok
  · go_wp2_with fail
    have hcall := equalClauses_t Rr _ _ w3 HO3.out HW3.out
    (with_reducible refine hcall.mono ?_)
    clear hcall
    rintro e w4 ⟨rfl, hg4⟩
    have Hg4 := hid (Hg3.out.trans hg4); have HO4 := hid (HO3.out.gr hg4); have HW4 := hid (HW3.out.gr hg4)
    clear hg4
    go_wp2_with fail
    have hcall := equalClauses_t Rr _ _ w4 HO4.out HW4.out
    (with_reducible refine hcall.mono ?_)
    clear hcall
    rintro e w5 ⟨rfl, hg5⟩
    go_wp2_with fail
    go_ret
    exact ⟨rfl, Hg4.out.trans hg5⟩
  have hvl : validCl ls n = true := Hok.out.symm
  have hRr : Rr = negsL ls := by rw [HR.out]; unfold negR; rw [hvl]; rfl
  have hn14 : 1 ≤ n ∧ n ≤ 4 := by unfold validCl at hvl; rw [Bool.and_eq_true, inB_iff] at hvl; omega
  have Hvl := hid hvl; have HRr := hid hRr
  clear hvl hRr
  go_wp2_with fail
  have hcall := equalClauses_t Rr _ _ w3 HO3.out HW3.out
  (with_reducible refine hcall.mono ?_)
  clear hcall
  rintro e w4 ⟨rfl, hg4⟩
  have Hg4 := hid (Hg3.out.trans hg4); have HO4 := hid (HO3.out.gr hg4); have Hls4 := hid (Hls3.out.gr hg4); have Hmo4 := hid (Hmo.out.gr (Hg3.out.trans hg4))
  have hX0 : Own w4.heap.size (w4.alloc (.cells #[] 3)) 3 (.slice (some ⟨w4.heap.size, 0, none⟩) 0 0) [] := Own.empty w4 3 (Nat.le_refl _)
  have HX0 := hid hX0
  clear hg4 hX0
  go_wp2_with fail
  go_loopw [11, 12] (fun sv i wr => ∃ (k : Nat) (xs : List Int), k ≤ n ∧ i = .int .i64 k ∧ Hid (Own w4.heap.size wr 3 sv xs) ∧ Hid (xs.length = k) ∧ Hid (∀ x ∈ xs, 0 ≤ x ∧ x ≤ 5) ∧ Hid (Gr [] w4 wr)) (fun _ i _ => n - (intOf i).toNat)
  case atStart => exact ⟨0, [], by omega, rfl, HX0, hid rfl, hid (by simp), hid ((Gr.refl [] w4).alloc _)⟩
  case round =>
    obtain ⟨k, xs, hk, rfl, Hx, Hxl, Hx5, Hgx⟩ := hrel
    by_cases hlt : k < n
    · by_cases hkm : k < ms.length
      · obtain ⟨z, hz⟩ := get_some hkm
        obtain ⟨b9, o9, e9, -, hcell⟩ := (Hmo4.out.gr Hgx.out) k z hz
        subst e9
        have hz0 := Hmb.out z (List.mem_of_getElem? hz)
        have hz5 : 0 ≤ z % 6 ∧ z % 6 ≤ 5 := by omega
        clear hz
        go_wp2_with (at_builtin; refine wp_app1 rfl _ _ 29 rfl w4.heap.size 3 infoI Try.underlying29 _ xs rfl (Hx.out.alloc (.cells #[.int .i64 (z % 6)] 3)) wr.heap.size 1 (z % 6) rfl (by rw [World.cell?_alloc_at _ _ _ _ rfl]; rfl) (by have := Hxl.out; omega) (by have := Hgx.out.size; simp; omega) ?_; intro v5 w5 hown5 hb5)
        refine ⟨⟨k + 1, xs ++ [z % 6], by omega, by go_num, hid hown5, hid (by have := Hxl.out; simp; omega), hid (fun x hx => ?_), hid (((Hgx.out.alloc _).low hb5 (Nat.le_refl _)))⟩, by simp [intOf]; omega⟩
        rcases List.mem_append.1 hx with h | h
        · exact Hx5.out x h
        · rw [List.mem_singleton.1 h]; exact hz5
      · go_wp2_with (at_builtin; refine wp_app1 rfl _ _ 29 rfl w4.heap.size 3 infoI Try.underlying29 _ xs rfl (Hx.out.alloc (.cells #[.int .i64 0] 3)) wr.heap.size 1 0 rfl (by rw [World.cell?_alloc_at _ _ _ _ rfl]; rfl) (by have := Hxl.out; omega) (by have := Hgx.out.size; simp; omega) ?_; intro v5 w5 hown5 hb5)
        refine ⟨⟨k + 1, xs ++ [0], by omega, by go_num, hid hown5, hid (by have := Hxl.out; simp; omega), hid (fun x hx => ?_), hid (((Hgx.out.alloc _).low hb5 (Nat.le_refl _)))⟩, by simp [intOf]; omega⟩
        rcases List.mem_append.1 hx with h | h
        · exact Hx5.out x h
        · rw [List.mem_singleton.1 h]; exact ⟨by omega, by omega⟩
    · have hkn : k = n := by omega
      have hxn : xs.length = n := by rw [Hxl.out, hkn]
      have Hxn := hid hxn
      have hnl := negsL_len ls
      have hvr : validCl Rr n = true := by rw [HRr.out]; exact negsL_valid Hvl.out
      have hrr : negR n Rr = ls := by
        have h := Hvl.out
        unfold validCl at h
        rw [Bool.and_eq_true] at h
        unfold negR
        rw [hvr, HRr.out]
        exact negsL_negsL (validClS_iff.1 h.2).2.1
      have hrl : Rr.length ≤ 8 := by rw [HRr.out]; omega
      have hok : ∀ l ∈ ls, litOk xs.length l = true := by
        have h := Hvl.out
        unfold validCl at h
        rw [Bool.and_eq_true] at h
        rw [hxn]
        exact (validClS_iff.1 h.2).1
      have Hok2 := hid hok; have Hvr := hid hvr; have Hrr := hid hrr
      obtain ⟨xo, xc, rfl, ⟨hx1, hx2, -⟩, -⟩ := Hx.out.nums (S := []) (by simp)
      have HN := hid (Hx.out.nums (S := []) (by simp))
      have HOr := hid (HO4.out.gr Hgx.out); have Hlr := hid (Hls4.out.gr Hgx.out); have Hgr := hid (Hg4.out.trans Hgx.out)
      have Hkn := hid hkn
      clear hkn hxn hnl hvr hrr hok
      go_wp2_with fail
      have hcall := NegateAll_c Rr n _ wr HOr.out (by omega) (by constructor <;> omega)
      rw [Hvr.out, Hrr.out] at hcall
      (with_reducible refine hcall.mono ?_)
      clear hcall
      rintro e w6 ⟨v6, rfl, hm6, hg6⟩
      obtain ⟨a6, c6, rfl, -⟩ := hm6.slice
      have HB6 := hid (hm6.lits (S := []) (by simp)); have HO6 := hid (HOr.out.gr hg6); have Hl6 := hid (Hlr.out.gr hg6); have Hg6 := hid (Hgr.out.trans hg6); have HN6 := hid (HN.out.gr hg6)
      clear hm6 hg6
      go_wp2_with fail
      have hcall := equalClauses_t ls _ _ w6 HB6.out Hl6.out
      (with_reducible refine hcall.mono ?_)
      clear hcall
      rintro e w7 ⟨rfl, hg7⟩
      have HO7 := hid (HO6.out.gr hg7); have Hl7 := hid (Hl6.out.gr hg7); have Hg7 := hid (Hg6.out.trans hg7); have HN7 := hid (HN6.out.gr hg7)
      clear hg7
      obtain ⟨t, ht⟩ : ∃ t, t = allTB ls xs := ⟨_, rfl⟩
      have hh : holdsB Rr xs = !t := by rw [HRr.out, holds_negs, ht]
      have HH := hid hh; have Ht := hid ht
      clear hh ht
      go_wp2_with fail
      have hcall := ClauseHolds_c Rr xs _ _ w7 HO7.out HN7.out (by have := Hxn.out; omega) (allB_iff.2 Hx5.out) (by rw [Hxn.out]; exact Hvr.out)
      rw [HH.out] at hcall
      (with_reducible refine hcall.mono ?_)
      clear hcall
      rintro e w8 ⟨rfl, hg8⟩
      have Hl8 := hid (Hl7.out.gr hg8); have Hg8 := hid (Hg7.out.trans hg8); have HN8 := hid (HN7.out.gr hg8)
      clear hg8
      go_wp2_with fail
      have hcall := makesTrue_c ls xs _ _ w8 Hl8.out HN8.out Hok2.out (by omega)
      rw [← Ht.out] at hcall
      (with_reducible refine hcall.mono ?_)
      clear hcall
      rintro e w9 ⟨rfl, hg9⟩
      have Hg9 := hid (Hg8.out.trans hg9)
      clear hg9
      cases t
      all_goals
        go_wp2_with fail
        go_ret
        exact ⟨rfl, Hg9.out⟩
end Go.Proofs.Ytpfelbbmgbfkeaa
