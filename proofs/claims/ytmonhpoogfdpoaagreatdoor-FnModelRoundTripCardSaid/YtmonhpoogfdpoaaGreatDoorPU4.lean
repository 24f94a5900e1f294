/-
  Walks of the reference's texts of domains.
-/
import Derived.Test.YtmonhpoogfdpoaaGreatDoorPHJ
import Derived.Test.YtmonhpoogfdpoaaGreatDoorPU1U2
set_option linter.unusedVariables false
set_option linter.unusedSimpArgs false
namespace Go.Proofs.YtmonhpoogfdpoaaGreatDoor
open Go.RowKit
attribute [local go_sem] ByteArray.mk_append_mk

/-- The pieces with digits that the kernel can reckon. -/
def pcs1 (d v : Nat) : List Bs := ((List.range v).filter (startB d)).map (piece1 d)
def pj (d v : Nat) : Bs := Lib.join (pcs1 d v) [44]
def pjOk (d v : Nat) : Bool :=
  decide ((pj d v).length ≤ 20) && (!decide (v < 6) || (if startB d v then decide (pj d (v + 1) = (if pj d v = [] then [] else pj d v ++ [44]) ++ piece1 d v) && decide (pcs1 d (v + 1) = pcs1 d v ++ [piece1 d v]) else decide (pj d (v + 1) = pj d v)))
    && decide (endF d 5 v = endF d (5 - v) v)
    && (!(decide (v < 6) && startB d v) || decide (pcs1 d (endF d 5 v + 1) = pcs1 d v ++ [piece1 d v]))
    && (!(decide (v < 6) && !d.testBit v) || decide (pcs1 d (v + 1) = pcs1 d v))
theorem pj_fin : ∀ d : Fin 64, ∀ v : Fin 7, pjOk d.val v.val = true := by decide +kernel
theorem pj_fin0 : ∀ d : Fin 64, decide (d.val = 0) = decide (pj d.val 6 = []) := by decide +kernel
structure PjOk (d v : Nat) : Prop where
  len : (pj d v).length ≤ 20
  hit : v < 6 → startB d v = true → pj d (v + 1) = (if pj d v = [] then [] else pj d v ++ [44]) ++ piece1 d v
  miss : v < 6 → startB d v = false → pj d (v + 1) = pj d v
  fin : endF d 5 v = endF d (5 - v) v
  run : v < 6 → startB d v = true → pcs1 d (endF d 5 v + 1) = pcs1 d v ++ [piece1 d v]
  off : v < 6 → d.testBit v = false → pcs1 d (v + 1) = pcs1 d v
theorem pj_ok {d v : Nat} (hd : d < 64) (hv : v < 7) : PjOk d v := by
  have h := pj_fin ⟨d, hd⟩ ⟨v, hv⟩
  unfold pjOk at h
  simp only [Bool.and_eq_true, decide_eq_true_eq, Bool.or_eq_true, Bool.not_eq_true', Bool.and_eq_false_iff, decide_eq_false_iff_not] at h
  obtain ⟨⟨⟨⟨h1, h2⟩, h3⟩, h4⟩, h5⟩ := h
  refine ⟨h1, fun hv6 hs => ?_, fun hv6 hs => ?_, h3, fun hv6 hs => ?_, fun hv6 hb => ?_⟩
  · rcases h2 with h2 | h2
    · exact absurd hv6 h2
    · rw [if_pos hs] at h2; simp only [Bool.and_eq_true, decide_eq_true_eq] at h2; exact h2.1
  · rcases h2 with h2 | h2
    · exact absurd hv6 h2
    · rw [if_neg (by simp [hs])] at h2; simpa using h2
  · rcases h4 with (h4 | h4) | h4
    · exact absurd hv6 h4
    · rw [hs] at h4; cases h4
    · exact h4
  · rcases h5 with (h5 | h5) | h5
    · exact absurd hv6 h5
    · rw [hb] at h5; cases h5
    · exact h5
theorem domT_pj {d : Nat} : domT d = if d = 0 then [101, 109, 112, 116, 121] else pj d 6 := by rw [dom_eq]; rfl

def hasI (d : Nat) (v : Int) : Bool := inB 0 5 v && d.testBit v.toNat
theorem sHas_c (d : Nat) (v : Int) (hd : d < 64) (w : World) :
    Calls Tryz.prog 95 #[.int .i64 d, .int .i64 v] w fun e w' => e = .returned (.bool (hasI d v)) ∧ w' = w := by
  cases hb : inB 0 5 v
  · go_enter Tryz.func95, Tryz.ntmps95
    go_wp2_with (go_at_call 65; refine (inRange_c _ _ _ _).mono ?_; rintro e w' ⟨rfl, rfl⟩)
    go_ret
    exact ⟨ret_bool (by unfold hasI; rw [hb]; rfl), rfl⟩
  · have hv := inB_iff.1 hb
    obtain ⟨v, rfl⟩ := Int.eq_ofNat_of_zero_le hv.1
    have hv6 : v < 6 := by omega
    clear hv
    go_enter Tryz.func95, Tryz.ntmps95
    go_wp2_with (go_at_call 65; refine (inRange_c _ _ _ _).mono ?_; rintro e w' ⟨rfl, rfl⟩)
    go_ret
    exact ⟨ret_bool (by unfold hasI; rw [hb, testBit_and d v hd]; rfl), rfl⟩
theorem hasI_nat (d v : Nat) (hv : v < 6) : hasI d v = d.testBit v := by
  unfold hasI
  rw [inB_iff.2 (by omega)]; simp

set_option maxHeartbeats 1000000 in
theorem formatDomain_c (d : Nat) (hd : d < 64) (w : World) :
    Calls Tryz.prog 59 #[.int .i64 d] w fun e w' => e = .returned (.string ⟨(domT d).toArray⟩) ∧ Gr [] w w' := by
  go_enter Tryz.func59, Tryz.ntmps59
  go_wp2_with fail
  go_loopw [3, 4] (fun o i wr => ∃ v : Nat, v ≤ 6 ∧ i = .int .i64 v ∧ o = .string ⟨(pj d v).toArray⟩ ∧ Gr [] w wr) (fun _ i _ => 6 - (intOf i).toNat)
  case atStart => exact ⟨0, Nat.zero_le _, rfl, rfl, Gr.refl _ _⟩
  case round =>
    obtain ⟨v, hv, rfl, rfl, hg⟩ := hrel
    have hok := pj_ok hd (show v < 7 by omega)
    obtain ⟨X, hX⟩ : ∃ X, X = pj d v := ⟨_, rfl⟩
    rw [← hX]
    have lX : X.length ≤ 20 := by rw [hX]; exact hok.len
    have HX := hid hX; have Hok := hid hok; clear hX hok
    by_cases hlt : v < 6
    · have k6 : decide ((v : Int) ≤ 5) = true := decide_eq_true (by omega)
      cases hs : startB d v
      · have hm := hid (Hok.out.miss hlt hs)
        have hcase : hasI d v = false ∨ (hasI d v = true ∧ hasI d ((v : Int) - 1) = true) := by
          rw [hasI_nat d v hlt]
          unfold startB at hs
          cases hb : d.testBit v
          · exact .inl rfl
          · rw [hb] at hs
            simp only [Bool.true_and, Bool.or_eq_false_iff, beq_eq_false_iff_ne, Bool.not_eq_false'] at hs
            refine .inr ⟨rfl, ?_⟩
            rw [show (v : Int) - 1 = ((v - 1 : Nat) : Int) by omega, hasI_nat _ _ (by omega)]
            exact hs.2
        clear hs
        rcases hcase with h1 | ⟨h1, h2⟩
        · go_wp2_with (go_at_call 95; refine (sHas_c d _ hd _).mono ?_; rintro e w1 ⟨rfl, rfl⟩; rw [h1])
          exact ⟨⟨v + 1, by omega, by go_num, by rw [hm.out, ← HX.out], hg⟩, by simp [intOf]; omega⟩
        · go_wp2_with (first | (go_at_call 95; (with_reducible refine (sHas_c d (v : Int) hd _).mono ?_); rintro e w1 ⟨rfl, rfl⟩; rw [h1]) | (go_at_call 95; (with_reducible refine (sHas_c d ((v : Int) - 1) hd _).mono ?_); rintro e w1 ⟨rfl, rfl⟩; rw [h2]))
          exact ⟨⟨v + 1, by omega, by go_num, by rw [hm.out, ← HX.out], hg⟩, by simp [intOf]; omega⟩
      · have hh := hid (Hok.out.hit hlt hs)
        have h1 : hasI d v = true := by rw [hasI_nat d v hlt]; unfold startB at hs; rw [Bool.and_eq_true] at hs; exact hs.1
        have h2 : hasI d ((v : Int) - 1) = false := by
          unfold startB at hs
          rw [Bool.and_eq_true, Bool.or_eq_true, beq_iff_eq] at hs
          rcases hs.2 with h | h
          · subst h; rfl
          · cases v with
            | zero => rfl
            | succ u =>
              rw [show (((u + 1 : Nat) : Int)) - 1 = (u : Int) by omega, hasI_nat _ _ (by omega)]
              simpa using h
        obtain ⟨E, hE⟩ : ∃ E, E = endF d 5 v := ⟨_, rfl⟩
        have hE5 : E ≤ 5 := by rw [hE]; exact endF_le d 5 v (by omega)
        have hEr : E = endF d (5 - v) v := by rw [hE]; exact Hok.out.fin
        have HE := hid hE; have HEr := hid hEr; have Hs := hid hs
        clear hE hEr hs
        go_wp2_with (first | (go_at_call 95; (with_reducible refine (sHas_c d (v : Int) hd _).mono ?_); rintro e w1 ⟨rfl, rfl⟩; rw [h1]) | (go_at_call 95; (with_reducible refine (sHas_c d ((v : Int) - 1) hd _).mono ?_); rintro e w1 ⟨rfl, rfl⟩; rw [h2]))
        go_loop [5] (fun e => ∃ k : Nat, v ≤ k ∧ k ≤ 5 ∧ e = .int .i64 k ∧ E = endF d (5 - k) k) (fun e => 5 - (intOf e).toNat)
        case atStart => exact ⟨v, Nat.le_refl _, by omega, rfl, HEr.out⟩
        case round =>
          obtain ⟨k, hvk, hk5, rfl, hEk⟩ := hrel
          by_cases hst : k < 5 ∧ d.testBit (k + 1) = true
          · have hx : hasI d ((k : Int) + 1) = true := by
              rw [show (k : Int) + 1 = ((k + 1 : Nat) : Int) by omega, hasI_nat _ _ (by omega)]; exact hst.2
            have hEk2 : E = endF d (5 - (k + 1)) (k + 1) := by
              rw [hEk]
              obtain ⟨m, hm⟩ : ∃ m, 5 - k = m + 1 := ⟨5 - k - 1, by omega⟩
              rw [hm, endF, if_pos hst, show 5 - (k + 1) = m by omega]
            have HEk := hid hEk2
            have hk4 : k < 5 := hst.1
            clear hEk hEk2 hst
            go_wp2_with (go_at_call 95; (with_reducible refine (sHas_c d ((k : Int) + 1) hd _).mono ?_); rintro e w2 ⟨rfl, rfl⟩; rw [hx])
            exact ⟨⟨k + 1, by omega, by omega, by go_num, HEk.out⟩, by simp [intOf]; omega⟩
          · have hx : hasI d ((k : Int) + 1) = false := by
              by_cases h5 : k < 5
              · rw [show (k : Int) + 1 = ((k + 1 : Nat) : Int) by omega, hasI_nat _ _ (by omega)]
                cases hb : d.testBit (k + 1)
                · rfl
                · exact absurd ⟨h5, hb⟩ hst
              · unfold hasI inB; rw [show decide ((k : Int) + 1 ≤ 5) = false from decide_eq_false (by omega)]; simp
            have hEk2 : k = E := by
              rw [hEk]
              cases hm : 5 - k with
              | zero => rfl
              | succ m => rw [endF, if_neg hst]
            clear hEk hst
            subst hEk2
            obtain ⟨Y, hY⟩ : ∃ Y, Y = num v := ⟨_, rfl⟩
            obtain ⟨Z, hZ⟩ : ∃ Z, Z = num k := ⟨_, rfl⟩
            have lY : Y.length ≤ 4 := by rw [hY]; exact (num_ok (by omega)).len
            have lZ : Z.length ≤ 4 := by rw [hZ]; exact (num_ok (by omega)).len
            have HY := hid hY; have HZ := hid hZ; clear hY hZ
            have cc1 : ¬ 9223372036854775807 < X.length + 1 := by omega
            have cc2 : ¬ 9223372036854775807 < X.length + Y.length := by omega
            have cc3 : ¬ 9223372036854775807 < X.length + (Y.length + 1) := by omega
            have cc4 : ¬ 9223372036854775807 < X.length + Y.length + 1 := by omega
            have cc5 : ¬ 9223372036854775807 < X.length + (Y.length + 1) + 1 := by omega
            have cc6 : ¬ 9223372036854775807 < X.length + (Y.length + 1) + Z.length := by omega
            have cc7 : ¬ 9223372036854775807 < X.length + (Y.length + 1 + 1) + Z.length := by omega
            have cc8 : ¬ 9223372036854775807 < X.length + 1 + Y.length := by omega
            have hxe := hid (rfl : X.isEmpty = X.isEmpty)
            have hp1 : Hid (piece1 d v = Y ++ (if v < k then 45 :: Z else [])) := hid (by rw [← piece_eq (show v ≤ 5 by omega), HY.out, HZ.out]; unfold pieceT; rw [← HE.out])
            cases hxe2 : X.isEmpty
            all_goals
              cases hvk2 : decide (v < k)
              all_goals
                have hvk3 : decide ((v : Int) < (k : Int)) = decide (v < k) := by rw [Bool.eq_iff_iff, decide_eq_true_eq, decide_eq_true_eq]; omega
                rw [hvk2] at hvk3
                have Hvk := hid hvk2
                have Hxe := hid hxe2
                go_wp2_with (first
                  | (go_at_call 95; (with_reducible refine (sHas_c d ((k : Int) + 1) hd _).mono ?_); rintro e w2 ⟨rfl, rfl⟩; rw [hx])
                  | (go_at_call 96; (with_reducible refine (formatInt_c (v : Int) (by omega) _).mono ?_); rw [← HY.out]; rintro e w3 ⟨rfl, hg3⟩)
                  | (go_at_call 96; (with_reducible refine (formatInt_c (k : Int) (by omega) _).mono ?_); rw [← HZ.out]; rintro e w4 ⟨rfl, hg4⟩))
                refine ⟨⟨v + 1, by omega, by go_num, ?_, ?_⟩, by simp [intOf]; omega⟩
                · rw [hh.out, ← HX.out, hp1.out]
                  have hv := Hvk.out
                  have hz := Hxe.out
                  first | rw [if_pos (of_decide_eq_true hv)] | rw [if_neg (of_decide_eq_false hv)]
                  first
                    | (rw [if_pos (List.isEmpty_iff.1 hz), List.isEmpty_iff.1 hz])
                    | (rw [if_neg (by intro e; simp [e] at hz)])
                  try simp
                · first | exact (hg.trans hg3).trans hg4 | exact hg.trans hg3
    · have k6 : decide ((v : Int) ≤ 5) = false := decide_eq_false (by omega)
      have hv6 : v = 6 := by omega
      have hz := pj_fin0 ⟨d, hd⟩
      simp only [decide_eq_decide] at hz
      have hdT := hid (domT_pj (d := d))
      have hXz : X = [] ↔ d = 0 := by rw [HX.out, hv6]; exact hz.symm
      have HXz := hid hXz; have Hv6 := hid hv6
      clear hz hXz hv6
      cases hxe2 : X.isEmpty
      all_goals
        have Hxe := hid hxe2
        go_wp2_with fail
        go_ret
        refine ⟨?_, hg⟩
        rw [hdT.out]
        have hz := Hxe.out
      · rw [if_neg (fun e => by simp [HXz.out.2 e] at hz)]
        have e := HX.out
        rw [Hv6.out] at e
        rw [← e]; rfl
      · rw [if_pos (HXz.out.1 (List.isEmpty_iff.1 hz))]; rfl

theorem find_dom (s : Bs) (k : Nat) (hk : k ≤ 64) (h : ∀ j, j < k → domT j ≠ s) : decDom s = ((List.range 64).drop k).find? fun d => decide (domT d = s) := by
  unfold decDom
  conv => lhs; rw [← List.take_append_drop k (List.range 64)]
  rw [List.find?_append]
  have : ((List.range 64).take k).find? (fun d => decide (domT d = s)) = none := by
    rw [List.find?_eq_none]
    intro x hx
    rw [List.take_range] at hx
    have := List.mem_range.1 hx
    simpa using h x (by omega)
  rw [this]; rfl
theorem decDom_hit {s : Bs} {k : Nat} (hk : k < 64) (h : ∀ j, j < k → domT j ≠ s) (he : domT k = s) : decDom s = some k := by
  rw [find_dom s k (by omega) h, List.drop_eq_getElem_cons (by simpa using hk)]
  simp [he]
theorem decDom_miss {s : Bs} (h : ∀ j, j < 64 → domT j ≠ s) : decDom s = none := by
  rw [find_dom s 64 (Nat.le_refl _) h]; rfl

theorem specDecodeDomain_c (s : Bs) (w : World) :
    Calls Tryz.prog 27 #[.string ⟨s.toArray⟩] w fun e w' => e = .returned (.tuple #[.int .i64 (((decDom s).getD 0 : Nat) : Int), .bool (decDom s).isSome]) ∧ Gr [] w w' := by
  go_enter Tryz.func27, Tryz.ntmps27
  go_wp2_with fail
  go_loopw [4] (fun i wr => ∃ k : Nat, k ≤ 64 ∧ i = .int .i64 k ∧ (∀ j, j < k → domT j ≠ s) ∧ Gr [] w wr) (fun i _ => 64 - (intOf i).toNat)
  case atStart => exact ⟨0, Nat.zero_le _, rfl, by intro j hj; omega, Gr.refl _ _⟩
  case round =>
    obtain ⟨k, hk, rfl, hno, hg⟩ := hrel
    have Hno := hid hno; clear hno
    by_cases hlt : k < 64
    · have k6 : decide ((k : Int) ≤ 63) = true := decide_eq_true (by omega)
      obtain ⟨D, hD⟩ : ∃ D, D = domT k := ⟨_, rfl⟩
      by_cases he : D = s
      · have hb := beqL he
        have HD := hid hD; have He := hid he; clear hD he
        go_wp2_with (go_at_call 59; (with_reducible refine (formatDomain_c k hlt _).mono ?_); rw [← HD.out]; rintro e w1 ⟨rfl, hg1⟩)
        go_ret2
        have e := decDom_hit hlt Hno.out (HD.out.symm.trans He.out)
        refine ⟨?_, hg.trans hg1⟩
        rw [e]; rfl
      · have hb := bneL he
        have HD := hid hD; have He := hid he; clear hD he
        go_wp2_with (go_at_call 59; (with_reducible refine (formatDomain_c k hlt _).mono ?_); rw [← HD.out]; rintro e w1 ⟨rfl, hg1⟩)
        refine ⟨⟨k + 1, by omega, by go_num, ?_, hg.trans hg1⟩, by simp [intOf]; omega⟩
        intro j hj
        by_cases hjk : j = k
        · rw [hjk, ← HD.out]; exact He.out
        · exact Hno.out j (by omega)
    · have k6 : decide ((k : Int) ≤ 63) = false := decide_eq_false (by omega)
      have hk64 : k = 64 := by omega
      have e := decDom_miss (s := s) (by rw [hk64] at Hno; exact Hno.out)
      have He := hid e
      clear e hk64
      go_wp2_with fail
      go_ret2
      refine ⟨?_, hg⟩
      rw [He.out]; rfl
end Go.Proofs.YtmonhpoogfdpoaaGreatDoor
