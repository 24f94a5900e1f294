/-
  Walk of FnExactNegateAll.
-/
import Derived.Test.YtpfelbbmgbfkeaaNa
import Derived.Test.YtpfelbbmgbfkeaaLE
set_option linter.unusedVariables false
set_option linter.unusedSimpArgs false
namespace Go.Proofs.Ytpfelbbmgbfkeaa
open Go.RowKit

set_option maxRecDepth 100000 in
set_option maxHeartbeats 4000000 in
theorem FnExactNegateAll_c (n : Int) (ls : Cls) (v : Value) (w : World) (hn : I64 n) (hv : LitsV [] w v ls) :
    Calls Try.prog 4 #[.int .i64 n, v] w (fun e w' => e = .returned (.bool true) ∧ Gr [] w w') := by
  have Hv := hid hv; have Hn := hid hn
  obtain ⟨ao, cap, rfl, ⟨h1, h2⟩⟩ := hv.slice
  clear hv hn
  go_enter Try.func4, Try.ntmps4
  go_wp2_with fail
  have hcall := szLiteralS_c ls 1048576 _ w Hv.out (by omega)
  (with_reducible refine hcall.mono ?_)
  clear hcall
  rintro e w0 ⟨rfl, rfl⟩
  by_cases hbig : (1048576 : Int) < (ls.length : Int)
  · rw [cut_neg hbig]
    go_wp2_with fail
    go_ret
    exact ⟨rfl, Gr.refl _ _⟩
  rw [cut_pos (by omega)]
  obtain ⟨l, hl⟩ : ∃ l : Int, l = 1048576 - (ls.length : Int) := ⟨_, rfl⟩
  rw [← hl]
  have hl0 : 0 ≤ l ∧ l ≤ 1048576 := by omega
  have hll : ls.length ≤ 1048576 := by omega
  clear hl hbig
  obtain ⟨ok, hok⟩ : ∃ ok, ok = validCl ls n := ⟨_, rfl⟩
  obtain ⟨R, hR⟩ : ∃ R, R = negR n ls := ⟨_, rfl⟩
  have hRl : R.length ≤ 1048576 := by rw [hR]; exact Nat.le_trans negR_len hll
  have HI : Hid (∀ v W, LitsV [] W v ls → Calls Try.prog 7 #[.int .i64 n, v] W fun e w' => ∃ v', e = .returned (.tuple #[v', .bool ok]) ∧ LitsM (New W.heap.size w') w' v' R ∧ Gr [] W w') := hid fun v W h => by rw [hok, hR]; exact NegateAll_c ls n v W h (by omega) Hn.out
  have HS : Hid (∀ v W, LitsV [] W v ls → Calls Try.prog 8 #[.int .i64 n, v] W fun e w' => ∃ v', e = .returned (.tuple #[v', .bool ok]) ∧ LitsM (New W.heap.size w') w' v' R ∧ Gr [] W w') := hid fun v W h => by rw [hok, hR]; exact specNegateAll_c ls n v W h (by omega)
  clear hok hR
  go_wp2_with fail
  -- the reference
  have hcall := toLiteralS_c ls _ w0 Hv.out (by omega)
  (with_reducible refine hcall.mono ?_)
  clear hcall
  rintro e w1 ⟨v1, rfl, hm1, hg1⟩
  have HL1 := hid (hm1.lits (S := []) (by simp)); have Hg1 := hid hg1
  clear hm1 hg1
  go_wp2_with fail
  (with_reducible refine (HS.out _ _ HL1.out).mono ?_)
  rintro e w2 ⟨v2, rfl, hm2, hg2⟩
  obtain ⟨a2, c2, rfl, -⟩ := hm2.slice
  have HW := hid hm2; have Hg2 := hid (Hg1.out.trans hg2); have Hv2 := hid (Hv.out.gr (Hg1.out.trans hg2))
  clear hm2 hg2
  go_wp2_with fail
  -- the argument
  have hcall := toLiteralS_c ls _ w2 Hv2.out (by omega)
  (with_reducible refine hcall.mono ?_)
  clear hcall
  rintro e w3 ⟨v3, rfl, hm3, hg3⟩
  obtain ⟨a3, c3, rfl, -⟩ := hm3.slice
  have HX3 := hid hm3; have h23 := hg3.size; have Hg3 := hid (Hg2.out.trans hg3); have HW3 := hid (HW.out.gr hg3); have Hv3 := hid (Hv2.out.gr hg3)
  clear hm3 hg3
  go_wp2_with fail
  (with_reducible refine (HI.out _ _ (HX3.out.lits (by simp))).mono ?_)
  rintro e w4 ⟨v4, rfl, hm4, hg4⟩
  obtain ⟨a4, c4, rfl, -⟩ := hm4.slice
  have HG4 := hid hm4; have Hg4 := hid (Hg3.out.trans hg4); have HW4 := hid (HW3.out.gr hg4); have Hv4 := hid (Hv3.out.gr hg4); have HX4 := hid (HX3.out.gr hg4)
  clear hm4 hg4
  go_wp2_with fail
  have hcall := eqLiteralS_t R _ _ w4 (HG4.out.lits (by simp)) (HW4.out.lits (by simp))
  (with_reducible refine hcall.mono ?_)
  clear hcall
  rintro e w5 ⟨rfl, hg5⟩
  have HG5 := hid (HG4.out.gr hg5); have Hg5 := hid (Hg4.out.trans hg5); have HW5 := hid (HW4.out.gr hg5); have Hv5 := hid (Hv4.out.gr hg5); have HX5 := hid (HX4.out.gr hg5)
  have hs5 := hg5.size
  clear hg5
  go_wp2_with fail
  have hcall := toLiteralS_c ls _ w5 Hv5.out (by omega)
  (with_reducible refine hcall.mono ?_)
  clear hcall
  rintro e w6 ⟨v6, rfl, hm6, hg6⟩
  obtain ⟨a6, c6, rfl, -⟩ := hm6.slice
  have HL6 := hid (hm6.lits (S := []) (by simp)); have HG6 := hid (HG5.out.gr hg6); have Hg6 := hid (Hg5.out.trans hg6); have HW6 := hid (HW5.out.gr hg6); have Hv6 := hid (Hv5.out.gr hg6); have HX6 := hid (HX5.out.gr hg6)
  clear hm6 hg6
  go_wp2_with fail
  have hcall := eqLiteralS_t ls _ _ w6 (HX6.out.lits (by simp)) HL6.out
  (with_reducible refine hcall.mono ?_)
  clear hcall
  rintro e w7 ⟨rfl, hg7⟩
  have HG7 := hid (HG6.out.gr hg7); have Hg7 := hid (Hg6.out.trans hg7); have HW7 := hid (HW6.out.gr hg7); have Hv7 := hid (Hv6.out.gr hg7); have HX7 := hid (HX6.out.gr hg7)
  clear hg7
  go_wp2_with fail
  -- marks on the argument
  have hcall := markLiteralS_c (New w2.heap.size w3) ls 1 _ w7 HX7.out (by omega) (by omega)
  (with_reducible refine hcall.mono ?_)
  clear hcall
  rintro e w8 ⟨rfl, -, hmk⟩
  have hg8 := hmk (List.range' w2.heap.size (w3.heap.size - w2.heap.size)) (fun b hb => List.mem_range'_1.2 ⟨hb.1, by have := hb.2; omega⟩)
  have hmem : ∀ b ∈ List.range' w2.heap.size (w3.heap.size - w2.heap.size), w2.heap.size ≤ b ∧ b < w3.heap.size := fun b hb => by have := List.mem_range'_1.1 hb; omega
  have HG8 := hid (HG7.out.gr' hg8 (fun b hb hM => by have := hmem b hb; have := hM.1; omega) (fun _ _ h => h))
  have HW8 := hid (HW7.out.gr' hg8 (fun b hb hM => by have := hmem b hb; have := hM.2; omega) (fun _ _ h => h))
  have Hg8 : Hid (Gr [] w0 w8) := hid (Hg7.out.step hg8 (fun b hb => .inr (by have := hmem b hb; have := Hg2.out.size; omega)))
  have Hv8 := hid (Hv.out.gr Hg8.out)
  have hls3 : 0 ≤ (1 : Int) + 3 * (ls.length : Int) := by omega
  clear hmk hg8 hmem
  go_wp2_with fail
  have hcall := eqLiteralS_t R _ _ w8 (HG8.out.lits (by simp)) (HW8.out.lits (by simp))
  (with_reducible refine hcall.mono ?_)
  clear hcall
  rintro e w9 ⟨rfl, hg9⟩
  have HG9 := hid (HG8.out.gr hg9); have Hg9 := hid (Hg8.out.trans hg9); have HW9 := hid (HW8.out.gr hg9); have Hv9 := hid (Hv8.out.gr hg9)
  clear hg9
  go_wp2_with fail
  -- marks on the result
  have hcall := markLiteralS_c (New w3.heap.size w4) R 1 _ w9 HG9.out (by omega) (by omega)
  (with_reducible refine hcall.mono ?_)
  clear hcall
  rintro e wa ⟨rfl, hma, hmk⟩
  have hga := hmk (List.range' w3.heap.size (w4.heap.size - w3.heap.size)) (fun b hb => List.mem_range'_1.2 ⟨hb.1, by have := hb.2; omega⟩)
  have hmem : ∀ b ∈ List.range' w3.heap.size (w4.heap.size - w3.heap.size), w3.heap.size ≤ b ∧ b < w4.heap.size := fun b hb => by have := List.mem_range'_1.1 hb; omega
  have HGa := hid hma
  have HWa := hid (HW9.out.gr' hga (fun b hb hM => by have := hmem b hb; have := hM.2; omega) (fun _ _ h => h))
  have Hga : Hid (Gr [] w0 wa) := hid (Hg9.out.step hga (fun b hb => .inr (by have := hmem b hb; have := Hg2.out.size; omega)))
  have Hva := hid (Hv.out.gr Hga.out)
  clear hmk hga hmem hma
  go_wp2_with fail
  have hcall := heldLiteralS_t R.length 1 _ wa (HGa.out.lits (by simp)) (by omega) (by omega)
  (with_reducible refine hcall.mono ?_)
  clear hcall
  rintro e wb ⟨rfl, hgb⟩
  have HGb := hid (HGa.out.gr hgb); have Hgb := hid (Hga.out.trans hgb); have HWb := hid (HWa.out.gr hgb); have Hvb := hid (Hva.out.gr hgb)
  clear hgb
  go_wp2_with fail
  -- a second call
  have hcall := toLiteralS_c ls _ wb Hvb.out (by omega)
  (with_reducible refine hcall.mono ?_)
  clear hcall
  rintro e wc ⟨vc, rfl, hmc, hgc⟩
  have HLc := hid (hmc.lits (S := []) (by simp)); have HGc := hid (HGb.out.gr hgc); have Hgc := hid (Hgb.out.trans hgc); have HWc := hid (HWb.out.gr hgc)
  clear hmc hgc
  go_wp2_with fail
  (with_reducible refine (HI.out _ _ HLc.out).mono ?_)
  rintro e wd ⟨vd, rfl, hmd, hgd⟩
  obtain ⟨ad, cd, rfl, -⟩ := hmd.slice
  have HHd := hid (hmd.lits (S := []) (by simp)); have HGd := hid (HGc.out.gr hgd); have Hgd := hid (Hgc.out.trans hgd); have HWd := hid (HWc.out.gr hgd)
  clear hmd hgd
  go_wp2_with fail
  have hcall := eqLiteralS_t R _ _ wd HHd.out (HWd.out.lits (by simp))
  (with_reducible refine hcall.mono ?_)
  clear hcall
  rintro e we ⟨rfl, hge⟩
  have HGe := hid (HGd.out.gr hge); have Hge := hid (Hgd.out.trans hge)
  clear hge
  go_wp2_with fail
  have hcall := heldLiteralS_t R.length 1 _ we (HGe.out.lits (by simp)) (by omega) (by omega)
  (with_reducible refine hcall.mono ?_)
  clear hcall
  rintro e wf ⟨rfl, hgf⟩
  have Hgf := hid (Hge.out.trans hgf)
  clear hgf
  go_wp2_with fail
  go_ret
  exact ⟨rfl, Hgf.out⟩
end Go.Proofs.Ytpfelbbmgbfkeaa
