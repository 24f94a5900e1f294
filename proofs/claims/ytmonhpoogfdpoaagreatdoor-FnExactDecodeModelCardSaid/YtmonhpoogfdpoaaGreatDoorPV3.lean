/-
  Walks of the program's texts of domains and models.
-/
import Derived.Test.YtmonhpoogfdpoaaGreatDoorPV1V2
import Derived.Test.YtmonhpoogfdpoaaGreatDoorPCF
import Derived.Test.YtmonhpoogfdpoaaGreatDoorPU5
set_option linter.unusedVariables false
set_option linter.unusedSimpArgs false
namespace Go.Proofs.YtmonhpoogfdpoaaGreatDoor
open Go.RowKit
attribute [local go_sem] ByteArray.mk_append_mk

set_option maxHeartbeats 1000000 in
theorem encodeDomain_c (d : Nat) (hd : d < 64) (w : World) (hT : TabT w) :
    Calls Tryz.prog 34 #[.int .i64 d] w fun e w' => e = .returned (.string ⟨(domT d).toArray⟩) ∧ Gr [] w w' := by
  by_cases h0 : d = 0
  · subst h0
    go_enter Tryz.func34, Tryz.ntmps34
    go_wp2_with fail
    go_ret
    exact ⟨rfl, Gr.refl _ _⟩
  · have k0 : ((d : Int) == 0) = false := beq_eq_false_iff_ne.2 (by omega)
    have k0' : (d == 0) = false := beq_eq_false_iff_ne.2 h0
    have HT := hid hT; have H0 := hid h0
    clear hT h0
    go_enter Tryz.func34, Tryz.ntmps34
    go_wp2_with fail
    go_loopw [3, 4] (fun u i wr => ∃ v : Nat, v ≤ 6 ∧ i = .int .i64 v ∧ OwnS w.heap.size wr 9 u (pcs1 d v) ∧ (v < 6 → d.testBit v = true → startB d v = true) ∧ Gr [] w wr) (fun _ i _ => 6 - (intOf i).toNat)
    case atStart => exact ⟨0, Nat.zero_le _, rfl, OwnS.empty w 9 (Nat.le_refl _), fun _ hb => by unfold startB; rw [hb]; rfl, (Gr.refl _ _).alloc _⟩
    case round =>
      obtain ⟨v, hv, rfl, hown, hst, hg⟩ := hrel
      have hok := pj_ok hd (show v < 7 by omega)
      obtain ⟨zs, hzs⟩ : ∃ zs, zs = pcs1 d v := ⟨_, rfl⟩
      rw [← hzs] at hown
      obtain ⟨po, pc, rfl⟩ := hown.form
      have hzl : zs.length ≤ 6 := by rw [hzs]; unfold pcs1; rw [List.length_map]; exact Nat.le_trans (List.length_filter_le _ _) (by rw [List.length_range]; omega)
      have HZ := hid hzs; have Hok := hid hok; have HO := hid hown; have Hst := hid hst
      have hsz := hg.size
      clear hzs hok hown hst
      by_cases hlt : v < 6
      · have k6 : decide ((v : Int) < 6) = true := decide_eq_true (by omega)
        have k6' : decide (v < 6) = true := decide_eq_true hlt
        cases hb : d.testBit v
        · have Hb := hid hb
          go_wp2_with (go_at_call 69; (with_reducible refine (has_c d v hd hlt _).mono ?_); rw [Hb.out]; rintro e w1 ⟨rfl, rfl⟩)
          refine ⟨⟨v + 1, by omega, by go_num, by rw [Hok.out.off hlt Hb.out, ← HZ.out]; exact HO.out, fun h6 hb2 => ?_, hg⟩, by simp [intOf]; omega⟩
          unfold startB
          rw [hb2, show v + 1 - 1 = v by omega, Hb.out]
          simp
        · have Hb := hid hb
          have hs := Hst.out hlt hb
          obtain ⟨E, hE⟩ : ∃ E, E = endF d 5 v := ⟨_, rfl⟩
          have hE5 : E ≤ 5 := by rw [hE]; exact endF_le d 5 v (by omega)
          have hEr : E = endF d (5 - v) v := by rw [hE]; exact Hok.out.fin
          have HE := hid hE; have HEr := hid hEr; have Hs := hid hs
          clear hE hEr hs
          go_wp2_with (go_at_call 69; (with_reducible refine (has_c d v hd hlt _).mono ?_); rw [Hb.out]; rintro e w1 ⟨rfl, rfl⟩)
          go_loop [5] (fun e => ∃ k : Nat, v ≤ k ∧ k ≤ 5 ∧ e = .int .i64 k ∧ E = endF d (5 - k) k) (fun e => 5 - (intOf e).toNat)
          case atStart => exact ⟨v, Nat.le_refl _, by omega, rfl, HEr.out⟩
          case round =>
            obtain ⟨k, hvk, hk5, rfl, hEk⟩ := hrel
            by_cases hk4 : k < 5
            · have q5 : decide ((k : Int) < 5) = true := decide_eq_true (by omega)
              have q5' : decide (k < 5) = true := decide_eq_true hk4
              have hhas : ∀ W : World, Calls Tryz.prog 69 #[.int .i64 d, .int .i64 ((k : Int) + 1)] W fun e w' => e = .returned (.bool (d.testBit (k + 1))) ∧ w' = W := fun W => has_c d (k + 1) hd (by omega) W
              have Hhas := hid hhas; clear hhas
              cases hbk : d.testBit (k + 1)
              · have hEk2 : k = E := by
                  rw [hEk]
                  cases hm : 5 - k with
                  | zero => rfl
                  | succ m => rw [endF, if_neg (by rw [hbk]; simp)]
                have Hbk := hid hbk
                clear hEk hbk
                subst hEk2
                obtain ⟨Y, hY⟩ : ∃ Y, Y = num v := ⟨_, rfl⟩
                obtain ⟨Z, hZ⟩ : ∃ Z, Z = num k := ⟨_, rfl⟩
                have lY : Y.length ≤ 4 := by rw [hY]; exact (num_ok (by omega)).len
                have lZ : Z.length ≤ 4 := by rw [hZ]; exact (num_ok (by omega)).len
                have HY := hid hY; have HZ2 := hid hZ
                clear hY hZ
                have cc1 : ¬ 9223372036854775807 < 1 + Z.length := by omega
                have cc2 : ¬ 9223372036854775807 < Y.length + (Z.length + 1) := by omega
                have cc3 : ¬ 9223372036854775807 < Y.length + (1 + Z.length) := by omega
                have hp1 : Hid (piece1 d v = Y ++ (if v < k then 45 :: Z else [])) := hid (by rw [← piece_eq (show v ≤ 5 by omega), HY.out, HZ2.out]; unfold pieceT; rw [← HE.out])
                have hiv : I64 (v : Int) := by unfold I64; omega
                have hik : I64 (k : Int) := by unfold I64; omega
                have hT1 := HT.out.gr hg
                have hstop : k < 5 → d.testBit (k + 1) = false := fun _ => Hbk.out
                have Hstop := hid hstop; clear hstop
                cases hvk2 : decide (v < k)
                all_goals
                  have hvk3 : decide ((v : Int) < (k : Int)) = decide (v < k) := by rw [Bool.eq_iff_iff, decide_eq_true_eq, decide_eq_true_eq]; omega
                  rw [hvk2] at hvk3
                  have Hvk := hid hvk2
                  obtain ⟨PT, hPT⟩ : ∃ PT : Bs, PT = piece1 d v := ⟨_, rfl⟩
                  have HPT := hid hPT; clear hPT
                  go_wp2_with (first
                    | (go_at_call 69; (with_reducible refine (Hhas.out _).mono ?_); rw [Hbk.out]; rintro e w2 ⟨rfl, rfl⟩)
                    | (go_at_call 70; (with_reducible refine (Itoa_c (v : Int) hiv _ hT1).mono ?_); rw [← HY.out]; rintro e w3 ⟨rfl, hg3⟩; have hT3 := hT1.gr hg3; have hs3 := hg3.size; have HO3 := hid (HO.out.gr hg3 (by simp)))
                    | (go_at_call 70; (with_reducible refine (Itoa_c (k : Int) hik _ hT3).mono ?_); rw [← HZ2.out]; rintro e w4 ⟨rfl, hg4⟩; have hs4 := hg4.size; have HO4 := hid (HO3.out.gr hg4 (by simp)))
                    | (at_builtin; refine wp_appS1 rfl _ _ 42 9 rfl w.heap.size 9 infoS Tryz.underlying42 (.slice po zs.length pc) zs rfl (by first | exact HO4.out.alloc _ | exact HO3.out.alloc _) _ 1 PT rfl (by rw [HPT.out, hp1.out]; have hv := Hvk.out; first | rw [if_pos (of_decide_eq_true hv)]; exact cell_new _ _ _ | rw [if_neg (of_decide_eq_false hv), List.append_nil]; exact cell_new _ _ _) (by omega) (by rw [World.size_alloc]; omega) ?_; intro v' w5 hown5 hb5))
                  refine ⟨⟨k + 1, by omega, by go_num, by rw [HE.out, Hok.out.run hlt Hs.out, ← HZ.out, ← HPT.out]; exact hown5, fun h6 hb2 => ?_, ?_⟩, by simp [intOf]; omega⟩
                  · rw [Hstop.out (by omega)] at hb2; cases hb2
                  · first | exact (((hg.trans hg3).trans hg4).alloc _).low hb5 (Nat.le_refl _) | exact ((hg.trans hg3).alloc _).low hb5 (Nat.le_refl _)
              · have hEk2 : E = endF d (5 - (k + 1)) (k + 1) := by
                  rw [hEk]
                  obtain ⟨m, hm⟩ : ∃ m, 5 - k = m + 1 := ⟨5 - k - 1, by omega⟩
                  rw [hm, endF, if_pos ⟨hk4, hbk⟩, show 5 - (k + 1) = m by omega]
                have HEk := hid hEk2; have Hbk := hid hbk
                clear hEk hEk2 hbk
                go_wp2_with (go_at_call 69; (with_reducible refine (Hhas.out _).mono ?_); rw [Hbk.out]; rintro e w2 ⟨rfl, rfl⟩)
                exact ⟨⟨k + 1, by omega, by omega, by go_num, HEk.out⟩, by simp [intOf]; omega⟩
            · have q5 : decide ((k : Int) < 5) = false := decide_eq_false (by omega)
              have q5' : decide (k < 5) = false := decide_eq_false hk4
              have hk55 : k = 5 := by omega
              have hEk2 : k = E := by rw [hEk, hk55]; rfl
              have Hhas : Hid (∀ W : World, Calls Tryz.prog 69 #[.int .i64 d, .int .i64 ((0 : Nat) : Int)] W fun e w' => e = .returned (.bool (d.testBit 0)) ∧ w' = W) := hid fun W => has_c d 0 hd (by decide) W
              have Hbk : Hid (d.testBit 0 = d.testBit 0) := hid rfl
              have H55 := hid hk55
              clear hEk hk55
              subst hEk2
              obtain ⟨Y, hY⟩ : ∃ Y, Y = num v := ⟨_, rfl⟩
              obtain ⟨Z, hZ⟩ : ∃ Z, Z = num k := ⟨_, rfl⟩
              have lY : Y.length ≤ 4 := by rw [hY]; exact (num_ok (by omega)).len
              have lZ : Z.length ≤ 4 := by rw [hZ]; exact (num_ok (by omega)).len
              have HY := hid hY; have HZ2 := hid hZ
              clear hY hZ
              have cc1 : ¬ 9223372036854775807 < 1 + Z.length := by omega
              have cc2 : ¬ 9223372036854775807 < Y.length + (Z.length + 1) := by omega
              have cc3 : ¬ 9223372036854775807 < Y.length + (1 + Z.length) := by omega
              have hp1 : Hid (piece1 d v = Y ++ (if v < k then 45 :: Z else [])) := hid (by rw [← piece_eq (show v ≤ 5 by omega), HY.out, HZ2.out]; unfold pieceT; rw [← HE.out])
              have hiv : I64 (v : Int) := by unfold I64; omega
              have hik : I64 (k : Int) := by unfold I64; omega
              have hT1 := HT.out.gr hg
              have hstop : k < 5 → d.testBit (k + 1) = false := fun h => by have := H55.out; omega
              have Hstop := hid hstop; clear hstop
              cases hvk2 : decide (v < k)
              all_goals
                have hvk3 : decide ((v : Int) < (k : Int)) = decide (v < k) := by rw [Bool.eq_iff_iff, decide_eq_true_eq, decide_eq_true_eq]; omega
                rw [hvk2] at hvk3
                have Hvk := hid hvk2
                obtain ⟨PT, hPT⟩ : ∃ PT : Bs, PT = piece1 d v := ⟨_, rfl⟩
                have HPT := hid hPT; clear hPT
                go_wp2_with (first
                  | (go_at_call 69; (with_reducible refine (Hhas.out _).mono ?_); rw [Hbk.out]; rintro e w2 ⟨rfl, rfl⟩)
                  | (go_at_call 70; (with_reducible refine (Itoa_c (v : Int) hiv _ hT1).mono ?_); rw [← HY.out]; rintro e w3 ⟨rfl, hg3⟩; have hT3 := hT1.gr hg3; have hs3 := hg3.size; have HO3 := hid (HO.out.gr hg3 (by simp)))
                  | (go_at_call 70; (with_reducible refine (Itoa_c (k : Int) hik _ hT3).mono ?_); rw [← HZ2.out]; rintro e w4 ⟨rfl, hg4⟩; have hs4 := hg4.size; have HO4 := hid (HO3.out.gr hg4 (by simp)))
                  | (at_builtin; refine wp_appS1 rfl _ _ 42 9 rfl w.heap.size 9 infoS Tryz.underlying42 (.slice po zs.length pc) zs rfl (by first | exact HO4.out.alloc _ | exact HO3.out.alloc _) _ 1 PT rfl (by rw [HPT.out, hp1.out]; have hv := Hvk.out; first | rw [if_pos (of_decide_eq_true hv)]; exact cell_new _ _ _ | rw [if_neg (of_decide_eq_false hv), List.append_nil]; exact cell_new _ _ _) (by omega) (by rw [World.size_alloc]; omega) ?_; intro v' w5 hown5 hb5))
                refine ⟨⟨k + 1, by omega, by go_num, by rw [HE.out, Hok.out.run hlt Hs.out, ← HZ.out, ← HPT.out]; exact hown5, fun h6 hb2 => ?_, ?_⟩, by simp [intOf]; omega⟩
                · rw [Hstop.out (by omega)] at hb2; cases hb2
                · first | exact (((hg.trans hg3).trans hg4).alloc _).low hb5 (Nat.le_refl _) | exact ((hg.trans hg3).alloc _).low hb5 (Nat.le_refl _)
      · have k6 : decide ((v : Int) < 6) = false := decide_eq_false (by omega)
        have k6' : decide (v < 6) = false := decide_eq_false hlt
        have hv6 : v = 6 := by omega
        rw [hv6] at HZ
        have hne : zs ≠ [] := by
          intro e
          have hz := pj_fin0 ⟨d, hd⟩
          simp only [decide_eq_decide] at hz
          refine H0.out (hz.2 ?_)
          unfold pj
          rw [← HZ.out, e]; rfl
        have hlen : (Lib.join zs [44]).length ≤ 20 := by rw [HZ.out]; exact (pj_ok hd (show 6 < 7 by decide)).len
        have hJ := hid (Join_c zs (.slice po zs.length pc) wr (HO.out.strs (by simp)) (by omega) (by omega) hne)
        clear hv6 hne hlen
        go_wp2_with (go_at_call 71; (with_reducible refine hJ.out.mono ?_); rintro e w2 ⟨rfl, hg2⟩)
        go_ret
        exact ⟨by rw [domT_pj, if_neg H0.out, HZ.out]; rfl, hg.trans hg2⟩

theorem DecodeDomain_c (s : Bs) (w : World) (hT : TabT w) :
    Calls Tryz.prog 23 #[.string ⟨s.toArray⟩] w fun e w' => e = .returned (.tuple #[.int .i64 (((decDom s).getD 0 : Nat) : Int), .bool (decDom s).isSome]) ∧ Gr [] w w' := by
  have HT := hid hT; clear hT
  go_enter Tryz.func23, Tryz.ntmps23
  go_wp2_with fail
  go_loopw [5] (fun i wr => ∃ k : Nat, k ≤ 64 ∧ i = .int .i64 k ∧ (∀ j, j < k → domT j ≠ s) ∧ Gr [] w wr) (fun i _ => 64 - (intOf i).toNat)
  case atStart => exact ⟨0, Nat.zero_le _, rfl, by intro j hj; omega, Gr.refl _ _⟩
  case round =>
    obtain ⟨k, hk, rfl, hno, hg⟩ := hrel
    have Hno := hid hno; clear hno
    by_cases hlt : k < 64
    · have k6 : decide ((k : Int) < 64) = true := decide_eq_true (by omega)
      have k6' : decide (k < 64) = true := decide_eq_true hlt
      obtain ⟨D, hD⟩ : ∃ D, D = domT k := ⟨_, rfl⟩
      have hT2 := HT.out.gr hg
      by_cases he : D = s
      · have hb := beqL he
        have HD := hid hD; have He := hid he; clear hD he
        go_wp2_with (go_at_call 34; (with_reducible refine (encodeDomain_c k hlt _ hT2).mono ?_); rw [← HD.out]; rintro e w1 ⟨rfl, hg1⟩)
        go_ret2
        have e := decDom_hit hlt Hno.out (HD.out.symm.trans He.out)
        refine ⟨?_, hg.trans hg1⟩
        rw [e]; rfl
      · have hb := bneL he
        have HD := hid hD; have He := hid he; clear hD he
        go_wp2_with (go_at_call 34; (with_reducible refine (encodeDomain_c k hlt _ hT2).mono ?_); rw [← HD.out]; rintro e w1 ⟨rfl, hg1⟩)
        refine ⟨⟨k + 1, by omega, by go_num, ?_, hg.trans hg1⟩, by simp [intOf]; omega⟩
        intro j hj
        by_cases hjk : j = k
        · rw [hjk, ← HD.out]; exact He.out
        · exact Hno.out j (by omega)
    · have k6 : decide ((k : Int) < 64) = false := decide_eq_false (by omega)
      have k6' : decide (k < 64) = false := decide_eq_false hlt
      have hk64 : k = 64 := by omega
      have e := decDom_miss (s := s) (by rw [hk64] at Hno; exact Hno.out)
      have He := hid e
      clear e hk64
      go_wp2_with fail
      go_ret2
      refine ⟨?_, hg⟩
      rw [He.out]; rfl

theorem Below.le {B B' : Nat} {w w' : World} (h : Below B w w') (hB : B' ≤ B) : Below B' w w' := ⟨h.os, h.tape, h.output, h.size, fun k hk => h.block k (by omega)⟩
theorem TabT.low {w w' : World} {B : Nat} (h : TabT w) (hg : Below B w w') (hB : w.heap.size ≤ B) : TabT w' := by
  have hg' : Gr [] w w' := ⟨hg.os, hg.tape, hg.output, hg.size, fun k hk _ => hg.block k (by omega)⟩
  exact h.gr hg'
set_option maxHeartbeats 1000000 in
theorem EncodeModel_c (m : Mod) (v : Value) (w : World) (hv : ModV [] w v m) (hT : TabT w) :
    Calls Tryz.prog 10 #[v] w fun e w' => e = .returned (.string ⟨(if validM m then encM m else []).toArray⟩) ∧ Gr [] w w' := by
  obtain ⟨dv, cv, rfl, hd, hc⟩ := id hv
  obtain ⟨xo, xc, rfl, ⟨hd1, hd2, _⟩, -⟩ := id hd
  obtain ⟨ao, ac, rfl, ⟨hc1, hc2, _⟩, -⟩ := id hc
  obtain ⟨w0, hw0⟩ : ∃ w0, w0 = w.alloc (.cells #[.slice xo m.doms.length xc, .slice ao m.cons.length ac] 27) := ⟨_, rfl⟩
  have hg0 : Gr [] w w0 := by rw [hw0]; exact (Gr.refl _ _).alloc _
  have hb0 : w0.heap[w.heap.size]? = some (.cells #[.slice xo m.doms.length xc, .slice ao m.cons.length ac] 27 (0, 0)) := by rw [hw0]; exact heap_alloc_new _ _
  have Hv := hid (hv.gr hg0); have Hb0 := hid hb0; have Hg0 := hid hg0; have HT0 := hid (hT.gr hg0)
  have Hd := hid (hd.gr hg0); have Hc := hid (hc.gr hg0)
  have hfl0 := fld hb0
  clear hd hc hv hg0 hb0 hT
  cases hvm : validM m
  · have Hvm := hid hvm
    go_enter Tryz.func10, Tryz.ntmps10
    go_wp2_with (go_at_call 11; rw [← hw0]; (with_reducible refine (ValidModel_c m _ _ Hv.out).mono ?_); rw [Hvm.out]; rintro e w1 ⟨rfl, hg1⟩)
    go_ret
    exact ⟨rfl, Hg0.out.trans hg1⟩
  · have Hvm := hid hvm
    have Hm := hid (mod_ok hvm)
    have Hld := hid Hm.out.ld; have Hlc := hid Hm.out.lc
    obtain ⟨D, hD, hDb⟩ := Hm.out.doms
    have HD := hid hD; have HDb := hid hDb
    have HDl : Hid (D.length = m.doms.length) := hid (by rw [hD]; simp [ints])
    clear hD hDb
    go_enter Tryz.func10, Tryz.ntmps10
    go_wp2_with (go_at_call 11; rw [← hw0]; (with_reducible refine (ValidModel_c m _ _ Hv.out).mono ?_); rw [Hvm.out]; rintro e w1 ⟨rfl, hg1⟩; have hfl1 := fld ((hg1.alloc (.cells #[.pointer none, .slice none 0 0] 59)).obj Hb0.out (by simp)); have Hg1 := hid hg1; clear hg1)
    have hbld := Bld.new w1
    have hgB : Gr [] w0 (w1.alloc (.cells #[.pointer none, .slice none 0 0] 59)) := Hg1.out.alloc _
    have hsB : w1.heap.size < (w1.alloc (.cells #[.pointer none, .slice none 0 0] 59)).heap.size := by simp
    have hs1 := Hg1.out.size
    generalize (w1.alloc (.cells #[.pointer none, .slice none 0 0] 59)) = wB at hbld hgB hsB hfl1 ⊢
    obtain ⟨bb, hbb⟩ : ∃ bb, bb = w1.heap.size := ⟨_, rfl⟩
    rw [← hbb] at hbld hsB hs1 ⊢
    clear hbb
    have hlt0 : w.heap.size < w0.heap.size := lt_of_block Hb0.out
    have HB := hid hbld; have HgB := hid hgB
    clear hbld hgB
    go_loopw [14] (fun i wr => ∃ n : Nat, n ≤ m.doms.length ∧ i = .int .i64 n ∧ Bld bb (domsT (m.doms.take n)) wr ∧ Below bb wB wr) (fun i _ => m.doms.length - (intOf i).toNat)
    case atStart => exact ⟨0, Nat.zero_le _, rfl, HB.out, Below.refl _ _⟩
    case round =>
      obtain ⟨n, hn, rfl, hbld, hg⟩ := hrel
      have hdl := Hld.out
      have hgw0 : Below w0.heap.size w0 wr := HgB.out.below.trans (Below.le hg hs1)
      have hT := HT0.out.low hgw0 (Nat.le_refl _)
      have hbl := hbld.lt
      obtain ⟨X, hX⟩ : ∃ X, X = domsT (m.doms.take n) := ⟨_, rfl⟩
      have lX : X.length ≤ 100 := by
        have := domsT_len (D.take n) (fun d hd => HDb.out d (List.mem_of_mem_take hd))
        have e : ints (D.take n) = m.doms.take n := by rw [HD.out]; simp [ints, List.map_take]
        rw [e, List.length_take] at this
        rw [hX]; have := HDl.out; omega
      rw [← hX] at hbld
      have HX := hid hX; have HBl := hid hbld; have Hgw0 := hid hgw0
      clear hX hbld hgw0
      by_cases hlt : n < m.doms.length
      · obtain ⟨d, hdx⟩ : ∃ d, D[n]? = some d := ⟨_, List.getElem?_eq_getElem (by have := HDl.out; omega)⟩
        have hx : m.doms[n]? = some (d : Int) := by rw [HD.out, ints_get, hdx]; rfl
        obtain ⟨ao', cap', e, _, hcs⟩ := Hd.out
        cases e
        obtain ⟨b, o, rfl, _, hcell0⟩ := hcs n _ hx
        have hcell : wr.cell? ⟨b, o + n, none⟩ = some (.int .i64 (d : Int)) := (Hgw0.out.cell (p := ⟨b, o + n, none⟩) (World.block_lt_of_cell? w0 _ hcell0)).trans hcell0
        have hd64 := HDb.out d (List.mem_of_getElem? hdx)
        have hts : domsT (m.doms.take (n + 1)) = domsT (m.doms.take n) ++ (domL d ++ [10]) := by rw [List.take_add_one, hx]; exact domsT_snoc _ _
        obtain ⟨Y, hY⟩ : ∃ Y, Y = domT d := ⟨_, rfl⟩
        have lY : Y.length ≤ 20 := by rw [hY]; exact (domT_free hd64).2.2
        have HY := hid hY; have Hts := hid hts
        clear hY hts hx hdx hcs hcell0
        have cc1 : ¬ 9223372036854775807 < 4 + Y.length := by omega
        have cc2 : ¬ 9223372036854775807 < Y.length + 1 + 1 + 1 + 1 + 1 := by omega
        have cc3 : ¬ 9223372036854775807 < Y.length + 4 + 1 := by omega
        obtain ⟨LN, hLN⟩ : ∃ LN : Bs, LN = 118 :: 97 :: 114 :: 32 :: (Y ++ [10]) := ⟨_, rfl⟩
        have lLN : LN.length ≤ 30 := by rw [hLN]; simp; omega
        have HLN := hid hLN
        go_wp2_with (first
          | (go_at_call 34; (with_reducible refine (encodeDomain_c d hd64 _ hT).mono ?_); rw [← HY.out]; rintro e w2 ⟨rfl, hg2⟩; have HB2 := hid (HBl.out.gr hg2); have HG2 := hid hg2)
          | (go_at_call 33; rw [← hLN]; (with_reducible refine (WriteString_c bb X LN _ HB2.out (by omega)).mono ?_); rintro e w3 ⟨⟨nn, rfl⟩, hb3, hlow3⟩))
        refine ⟨⟨n + 1, by omega, by go_num, ?_, ?_⟩, by simp [intOf]; omega⟩
        · rw [Hts.out, ← HX.out, show domL (d : Int) ++ [10] = LN by rw [HLN.out, HY.out]; simp [domL, varT]]
          exact hb3
        · exact (hg.trans (Below.le HG2.out.below (Nat.le_of_lt hbl))).trans hlow3
      · have hX2 : X = domsT m.doms := by rw [HX.out, show n = m.doms.length by omega, List.take_length]
        have HX2 := hid hX2
        have hbx : wr.heap[w.heap.size]? = some (.cells #[.slice xo m.doms.length xc, .slice ao m.cons.length ac] 27 (0, 0)) := (Hgw0.out.block _ hlt0).trans Hb0.out
        have hfr := fld hbx
        clear hX2 hbx HX
        go_wp2_with fail
        go_loopw [27] (fun i wq => ∃ k : Nat, k ≤ m.cons.length ∧ i = .int .i64 k ∧ Bld bb (X ++ consT (m.cons.take k)) wq ∧ Below bb wB wq) (fun i _ => m.cons.length - (intOf i).toNat)
        case atStart => exact ⟨0, Nat.zero_le _, rfl, by simpa [consT] using HBl.out, hg⟩
        case round =>
          obtain ⟨k, hk, rfl, hbld, hgq⟩ := hrel
          have hcl := Hlc.out
          have hgw0 : Below w0.heap.size w0 wr := HgB.out.below.trans (Below.le hgq hs1)
          have hT := HT0.out.low hgw0 (Nat.le_refl _)
          have hbl := hbld.lt
          obtain ⟨X2, hX2⟩ : ∃ X2, X2 = X ++ consT (m.cons.take k) := ⟨_, rfl⟩
          have lX2 : X2.length ≤ 7000 := by
            have := consT_len (m.cons.take k) (fun c hc => Hm.out.con c (List.mem_of_mem_take hc))
            rw [List.length_take] at this
            rw [hX2, List.length_append]; omega
          rw [← hX2] at hbld
          have HXX := hid hX2; have HBl2 := hid hbld; have Hgw := hid hgw0
          clear hX2 hbld hgw0
          by_cases hkl : k < m.cons.length
          · obtain ⟨c, hx⟩ := get_some hkl
            have hco := con_ok (Hm.out.con c (List.mem_of_getElem? hx))
            obtain ⟨ao', cap', e, _, hcs⟩ := Hc.out
            cases e
            have hgg : Gr [] w0 wr := ⟨Hgw.out.os, Hgw.out.tape, Hgw.out.output, Hgw.out.size, fun k hk _ => Hgw.out.block k hk⟩
            obtain ⟨b, o, vv, av, rv, rfl, -, ⟨h0, h1, h2, h3, h4⟩, hvv, hav, hrv⟩ := (hcs.gr hgg) k c hx
            have hcon : ConV [] wr (.agg #[.int .i64 c.kind, vv, av, .int .i64 c.bound, rv]) c := ⟨vv, av, rv, rfl, hvv, hav, hrv⟩
            obtain ⟨vo, vc, rfl, -, -⟩ := id hvv
            obtain ⟨yo, yc, rfl, -, -⟩ := id hav
            obtain ⟨ro, rc, rfl, -, -⟩ := id hrv
            have hts : consT (m.cons.take (k + 1)) = consT (m.cons.take k) ++ (conT c ++ [10]) := by rw [List.take_add_one, hx]; exact consT_snoc _ _
            obtain ⟨Y, hY⟩ : ∃ Y, Y = conT c := ⟨_, rfl⟩
            have lY : Y.length ≤ 1000 := by rw [hY]; exact conT_len hco
            obtain ⟨LN, hLN⟩ : ∃ LN : Bs, LN = Y ++ [10] := ⟨_, rfl⟩
            have lLN : LN.length ≤ 1001 := by rw [hLN]; simp; omega
            have hgA : Gr [] wr (wr.alloc (.cells #[.int .i64 c.kind, .slice vo c.vars.length vc, .slice yo c.args.length yc, .int .i64 c.bound, .slice ro c.rows.length rc] 49)) := (Gr.refl [] wr).alloc _
            have hflA := fld (heap_alloc_new wr (.cells #[.int .i64 c.kind, .slice vo c.vars.length vc, .slice yo c.args.length yc, .int .i64 c.bound, .slice ro c.rows.length rc] 49))
            have Hcv := hid (hcon.gr hgA); have Hco := hid hco; have HY := hid hY; have Hts := hid hts; have HLN := hid hLN; have HgA := hid hgA
            have hTA := hT.gr hgA
            clear hcon hco hY hts hx hcs hvv hav hrv hgA hgg
            have cc1 : ¬ 9223372036854775807 < Y.length + 1 := by omega
            go_wp2_with (first
              | (go_at_call 35; (with_reducible refine (text_c c _ _ Hcv.out Hco.out hTA).mono ?_); rw [← HY.out]; rintro e w2 ⟨rfl, hg2⟩; have hgx : Gr [] wr w2 := HgA.out.trans hg2; have HB2 := hid (HBl2.out.gr hgx); have HG2 := hid hgx; clear hgx)
              | (go_at_call 33; rw [← hLN]; (with_reducible refine (WriteString_c bb X2 LN _ HB2.out (by omega)).mono ?_); rintro e w3 ⟨⟨nn, rfl⟩, hb3, hlow3⟩))
            refine ⟨⟨k + 1, by omega, by go_num, ?_, ?_⟩, by simp [intOf]; omega⟩
            · rw [Hts.out, ← List.append_assoc, ← HXX.out, ← HY.out, ← HLN.out]
              exact hb3
            · exact (hgq.trans (Below.le HG2.out.below (Nat.le_of_lt hbl))).trans hlow3
          · go_wp2_with (go_at_call 36; (with_reducible refine (String_c bb X2 _ HBl2.out).mono ?_); rintro e w3 ⟨rfl, hlow3⟩)
            go_ret
            have hkn : k = m.cons.length := by omega
            have e := HXX.out
            rw [hkn, List.take_length, HX2.out, ← encM_eq] at e
            refine ⟨by rw [← e]; rfl, ?_⟩
            have h1 : Below w.heap.size w w0 := Hg0.out.below
            have h2 := h1.trans (Below.le (Hgw.out.trans (Below.le hlow3 hs1)) (Nat.le_of_lt hlt0))
            exact ⟨h2.os, h2.tape, h2.output, h2.size, fun k hk _ => h2.block k hk⟩
end Go.Proofs.YtmonhpoogfdpoaaGreatDoor
