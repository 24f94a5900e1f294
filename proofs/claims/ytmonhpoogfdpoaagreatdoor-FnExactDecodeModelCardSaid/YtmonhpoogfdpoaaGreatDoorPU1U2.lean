/-
  Walks of the reference's text functions: splitting, reading and writing numbers and lists.
  Walks of the reference's text functions: writing numbers and lists, reading lists.
-/
import Derived.Test.YtmonhpoogfdpoaaGreatDoorPA
import Derived.Test.YtmonhpoogfdpoaaGreatDoorPTxTs
import Derived.Deep.RegionHeldLaw
import Derived.Laws.BytesArg
set_option linter.unusedVariables false
set_option linter.unusedSimpArgs false
namespace Go.Proofs.YtmonhpoogfdpoaaGreatDoor
open Go.RowKit

theorem infoS : (Tryz.prog.info? 9).map (fun i => (i.zero, i.size, i.bytes)) = some (some (.string ByteArray.empty), 1, 16) := by kernel_rfl
theorem infoT : (Tryz.prog.info? 3).map (fun i => (i.zero, i.size, i.bytes)) = some (some (.int .i64 0), 1, 8) := by kernel_rfl

theorem splitN_c (c : UInt8) (k : Nat) (s : Bs) (w : World) (hs : s.length ≤ 1000000000) (hk : k ≤ 1000) :
    Calls Tryz.prog 26 #[.string ⟨s.toArray⟩, .int .u8 (c.toNat : Int), .int .i64 k] w fun e w' => ∃ v, e = .returned v ∧ OwnS w.heap.size w' 9 v (spN c k s) ∧ Gr [] w w' := by
  go_enter Tryz.func26, Tryz.ntmps26
  go_wp2_with fail
  go_loopw [7, 8, 9] (fun v f i wr => ∃ (n a : Nat) (ps : List Bs), n ≤ s.length ∧ a ≤ n ∧ i = .int .i64 n ∧ f = .int .i64 a ∧ ps.length ≤ k ∧ OwnS w.heap.size wr 9 v ps ∧ Gr [] w wr ∧ c ∉ (s.drop a).take (n - a) ∧ spN c k s = ps ++ spN c (k - ps.length) (s.drop a)) (fun _ _ i _ => s.length - (intOf i).toNat)
  case atStart => exact ⟨0, 0, [], Nat.zero_le _, Nat.le_refl _, rfl, rfl, Nat.zero_le _, OwnS.empty w 9 (Nat.le_refl _), (Gr.refl _ _).alloc _, by simp, by simp⟩
  case round =>
    obtain ⟨n, a, ps, hn, ha, rfl, rfl, hpk, hown, hg, hfr, hsp⟩ := hrel
    have hsz := hg.size
    have Hf := hid hfr; have Hsp := hid hsp; clear hfr hsp
    by_cases hlt : n < s.length
    · by_cases hk2 : ps.length < k
      · obtain ⟨po, pc, rfl⟩ := hown.form
        obtain ⟨b, hb⟩ : ∃ b, s[n]? = some b := ⟨_, List.getElem?_eq_getElem hlt⟩
        have hT : ((((⟨s.toArray⟩ : ByteArray)[n]'(bs_lt hlt)).toNat : Int) == (c.toNat : Int)) = (b == c) := by rw [bs_get hb, u8_eq]
        have HB := hid hb; clear hb
        cases hbc : (b == c)
        · rw [hbc] at hT
          go_wp2_with fail
          refine ⟨⟨n + 1, a, ps, by omega, by omega, by go_num, rfl, by omega, hown, hg, ?_, Hsp.out⟩, by simp [intOf]; omega⟩
          rw [take_snoc HB.out (by omega), List.mem_append, not_or]
          exact ⟨Hf.out, by simpa using fun e : c = b => by simp [e] at hbc⟩
        · rw [hbc] at hT
          have hown1 := hown
          go_wp2_with (at_builtin; refine wp_appS1 rfl _ _ 42 9 rfl w.heap.size 9 infoS Tryz.underlying42 _ ps rfl (hown1.alloc _) _ 1 ((s.drop a).take (n - a)) rfl (by rw [← str_extract]; exact cell_new _ _ _) (by omega) (by simp; omega) ?_; intro v' w4 hown4 hb4)
          have hbc' : b = c := by simpa using hbc
          subst hbc'
          refine ⟨⟨n + 1, n + 1, ps ++ [(s.drop a).take (n - a)], by omega, by omega, by go_num, by go_num, by simp; omega, hown4, (hg.alloc _).low hb4 (Nat.le_refl _), by simp, ?_⟩, by simp [intOf]; omega⟩
          rw [Hsp.out, drop_split HB.out ha]
          obtain ⟨m, hm⟩ : ∃ m, k - ps.length = m + 1 := ⟨k - ps.length - 1, by omega⟩
          rw [hm, spN_hit _ _ _ _ Hf.out, List.length_append, List.length_singleton, show k - (ps.length + 1) = m by omega, List.append_assoc]
          rw [← drop_split HB.out ha]
          rfl
      · have hke : k - ps.length = 0 := by omega
        obtain ⟨po, pc, rfl⟩ := hown.form
        have hown1 := hown
        go_wp2_with (at_builtin; refine wp_appS1 rfl _ _ 42 9 rfl w.heap.size 9 infoS Tryz.underlying42 _ ps rfl (hown1.alloc _) _ 1 (s.drop a) rfl (by rw [← str_rest]; exact cell_new _ _ _) (by omega) (by simp; omega) ?_; intro v' w4 hown4 hb4)
        go_ret
        refine ⟨_, rfl, ?_, (hg.alloc _).low hb4 (Nat.le_refl _)⟩
        rw [Hsp.out, hke, spN_zero]
        exact hown4
    · obtain ⟨po, pc, rfl⟩ := hown.form
      have hown1 := hown
      go_wp2_with (at_builtin; refine wp_appS1 rfl _ _ 42 9 rfl w.heap.size 9 infoS Tryz.underlying42 _ ps rfl (hown1.alloc _) _ 1 (s.drop a) rfl (by rw [← str_rest]; exact cell_new _ _ _) (by omega) (by simp; omega) ?_; intro v' w4 hown4 hb4)
      go_ret
      refine ⟨_, rfl, ?_, (hg.alloc _).low hb4 (Nat.le_refl _)⟩
      have hx : (s.drop a).take (n - a) = s.drop a := List.take_of_length_le (by rw [List.length_drop]; omega)
      have hf := Hf.out
      rw [hx] at hf
      rw [Hsp.out, spN_none _ _ _ hf]
      exact hown4

theorem parD_le : ∀ (t : Bs) (i m n : Nat), i ≤ 4 → m < 10 ^ i → parD i m t = some n → n < 10000
  | [], i, m, n, hi, hm, h => by
    have : m = n := by simpa [parD] using h
    subst this
    have : (10 : Nat) ^ i ≤ 10 ^ 4 := Nat.pow_le_pow_right (by decide) hi
    omega
  | b :: t, i, m, n, hi, hm, h => by
    rw [parD] at h
    split at h
    · cases h
    · rename_i hx
      simp only [not_or, UInt8.not_lt, Nat.not_le] at hx
      have h9 : b.toNat - 48 < 10 := by have := UInt8.le_iff_toNat_le.1 hx.2.1; have : (57 : UInt8).toNat = 57 := rfl; omega
      refine parD_le t (i + 1) _ n (by omega) ?_ h
      rw [Nat.pow_succ]; omega
theorem parM_bad {neg : Bool} {t : Bs} {m : Nat} (h : parD 0 0 t = some m) (b : t.length = 0 ∨ (1 < t.length ∧ t.head? = some 48) ∨ (neg = true ∧ m = 0)) : parM neg t = -100000 := by
  unfold parM; rw [h]; exact if_pos b
theorem parM_ok {neg : Bool} {t : Bs} {m : Nat} (h : parD 0 0 t = some m) (b : ¬ (t.length = 0 ∨ (1 < t.length ∧ t.head? = some 48) ∨ (neg = true ∧ m = 0))) : parM neg t = if neg then -(m : Int) else m := by
  unfold parM; rw [h]; exact if_neg b
theorem u8_lt (a b : UInt8) : decide ((a.toNat : Int) < (b.toNat : Int)) = decide (a < b) := by
  rw [Bool.eq_iff_iff, decide_eq_true_eq, decide_eq_true_eq, UInt8.lt_iff_toNat_lt]; omega

set_option maxHeartbeats 1600000 in
theorem parM_c (t : Bs) (neg : Bool) (w : World) (hs : t.length ≤ 1000000000) (s : Bs) (hx : s = if neg then 45 :: t else t) (hn : neg = false → t.head? ≠ some 45) :
    Calls Tryz.prog 62 #[.string ⟨s.toArray⟩] w fun e w' => e = .returned (.int .i64 (parM neg t)) ∧ w' = w := by
  cases neg
  · obtain rfl : s = t := hx
    by_cases h0 : s = []
    · subst h0
      go_enter Tryz.func62, Tryz.ntmps62
      go_wp2_with fail
      go_loop [4, 5] (fun p i => i = .int .i64 0 ∧ p = .int .i64 0) (fun _ i => 0 - (intOf i).toNat)
      case atStart => exact ⟨rfl, rfl⟩
      case round =>
        obtain ⟨rfl, rfl⟩ := hrel
        go_wp2_with fail
        go_ret
        exact ⟨rfl, rfl⟩
    · obtain ⟨b, hb0⟩ : ∃ b, s[0]? = some b := ⟨_, List.getElem?_eq_getElem (List.length_pos_iff.2 h0)⟩
      have hb : b ≠ 45 := by have := hn rfl; rw [List.head?_eq_getElem?, hb0] at this; simpa using this
      have hpos : 0 < s.length := List.length_pos_iff.2 h0
      have hG : (((⟨s.toArray⟩ : ByteArray)[0]'(bs_lt hpos)).toNat : Int) = (b.toNat : Int) := by rw [bs_get hb0]
      have hb2 : ((b.toNat : Int) == 45) = false := by rw [show (45 : Int) = ((45 : UInt8).toNat : Int) from rfl, u8_eq]; simpa using hb
      clear hn h0 hb0 hb
      go_enter Tryz.func62, Tryz.ntmps62
      go_wp2_with fail
      clear hG hb2 hpos
      obtain ⟨t, ht⟩ : ∃ t, t = s := ⟨_, rfl⟩
      subst ht
      go_loop [4, 5] (fun p i => ∃ (n m : Nat), n ≤ t.length ∧ i = .int .i64 n ∧ p = .int .i64 m ∧ (n ≤ 4 ∧ m < 10 ^ n) ∧ parD 0 0 t = parD n m (t.drop n)) (fun _ i => t.length - (intOf i).toNat)
      case atStart => exact ⟨0, 0, Nat.zero_le _, rfl, rfl, ⟨by decide, by decide⟩, rfl⟩
      case round =>
        obtain ⟨n, m, hn, rfl, rfl, ⟨hn4, hm4⟩, hsp⟩ := hrel
        have Hsp := hid hsp; clear hsp
        have hm5 : m < 10000 := Nat.lt_of_lt_of_le hm4 (Nat.pow_le_pow_right (by decide) hn4)
        have HM := hid hm4; clear hm4
        by_cases hlt : n < t.length
        · obtain ⟨b, hb⟩ : ∃ b, t[n]? = some b := ⟨_, List.getElem?_eq_getElem hlt⟩
          obtain ⟨B, hB⟩ : ∃ B : Nat, B = b.toNat := ⟨_, rfl⟩
          have hG : (((⟨t.toArray⟩ : ByteArray)[n]'(bs_lt hlt)).toNat : Int) = (B : Int) := by rw [bs_get hb, hB]
          have hB8 : B < 256 := by rw [hB]; exact b.toNat_lt
          have HD : Hid (t.drop n = b :: t.drop (n + 1)) := hid (by obtain ⟨hl, e⟩ := List.getElem?_eq_some_iff.1 hb; rw [List.drop_eq_getElem_cons hl, e])
          have k1 : decide ((B : Int) < 48) = decide (b < 48) := by rw [hB]; exact u8_lt b 48
          have k2 : decide ((57 : Int) < (B : Int)) = decide (57 < b) := by rw [hB]; exact u8_lt 57 b
          have k3 : decide ((4 : Int) ≤ (n : Int)) = decide (4 ≤ n) := by rw [Bool.eq_iff_iff, decide_eq_true_eq, decide_eq_true_eq]; omega
          have HB := hid hB; clear hB hb
          by_cases hbad : b < 48 ∨ 57 < b ∨ 4 ≤ n
          · have hnone : parD 0 0 t = none := by rw [Hsp.out, HD.out, parD, if_pos hbad]
            have Hnone := hid hnone; clear hnone
            cases e1 : decide (b < 48) <;> cases e2 : decide (57 < b) <;> cases e3 : decide (4 ≤ n)
            · exfalso; simp only [decide_eq_false_iff_not] at e1 e2 e3; exact hbad.elim e1 fun h => h.elim e2 e3
            all_goals
              rw [e1] at k1; rw [e2] at k2; rw [e3] at k3; clear e1 e2 e3 hbad
              go_wp2_with fail
              go_ret
              exact ⟨ret_int (by unfold parM; rw [Hnone.out]), rfl⟩
          · have hgood := hbad
            simp only [not_or] at hgood
            rw [decide_eq_false hgood.1] at k1; rw [decide_eq_false hgood.2.1] at k2; rw [decide_eq_false hgood.2.2] at k3
            have h48 : 48 ≤ B ∧ B ≤ 57 := by
              have h1 := of_decide_eq_false k1; have h2 := of_decide_eq_false k2
              omega
            have hsub : IntKind.u8.wrap ((B : Int) - 48) = (B : Int) - 48 := by rw [IntKind.wrap_u8]; omega
            go_wp2_with fail
            refine ⟨⟨n + 1, m * 10 + (B - 48), by omega, by go_num, by go_num, ⟨by omega, ?_⟩, ?_⟩, by simp [intOf]; omega⟩
            · have := HM.out; rw [Nat.pow_succ]; omega
            · rw [Hsp.out, HD.out, parD, if_neg hbad, HB.out]
        · have hnl : n = t.length := by omega
          have hfin : parD 0 0 t = some m := by rw [Hsp.out, hnl, List.drop_length]; rfl
          have Hfin := hid hfin; clear hfin
          clear hnl hn4
          by_cases z0 : t.length = 0
          · have z1 : ((t.length : Int) == 0) = true := by simp [z0]
            have z2 : (t.length == 0) = true := by simp [z0]
            have HZ := hid z0; clear z0
            go_wp2_with fail
            go_ret
            exact ⟨ret_int (parM_bad Hfin.out (.inl HZ.out)).symm, rfl⟩
          · have z1 : ((t.length : Int) == 0) = false := beq_eq_false_iff_ne.2 (by omega)
            have z2 : (t.length == 0) = false := beq_eq_false_iff_ne.2 (by omega)
            have hpos : 0 < t.length := by omega
            obtain ⟨y, hy⟩ : ∃ y, t[0]? = some y := ⟨_, List.getElem?_eq_getElem (by omega)⟩
            have hG : (((⟨t.toArray⟩ : ByteArray)[0]'(bs_lt hpos)).toNat : Int) = (y.toNat : Int) := by rw [bs_get hy]
            have hh : t.head? = some y := by rw [List.head?_eq_getElem?, hy]
            have k1 : ((y.toNat : Int) == 48) = decide (y = 48) := by rw [show (48 : Int) = ((48 : UInt8).toNat : Int) from rfl, u8_eq]; rfl
            have k2 : decide ((1 : Int) < (t.length : Int)) = decide (1 < t.length) := by rw [Bool.eq_iff_iff, decide_eq_true_eq, decide_eq_true_eq]; omega
            have k3 : ((m : Int) == 0) = decide (m = 0) := by rw [Bool.eq_iff_iff, beq_iff_eq, decide_eq_true_eq]; omega
            have k4 : (m == 0) = decide (m = 0) := by rw [Bool.eq_iff_iff, beq_iff_eq, decide_eq_true_eq]
            have Hh := hid hh; clear hh hy
            by_cases bad : t.length = 0 ∨ (1 < t.length ∧ t.head? = some 48) ∨ (false = true ∧ m = 0)
            · have HR : Hid (parM false t = -100000) := hid (parM_bad Hfin.out bad)
              have hb : (decide (y = 48) = true ∧ decide (1 < t.length) = true) ∨ (false = true ∧ decide (m = 0) = true) := by
                rcases bad with b | b | b
                · exact absurd b z0
                · rw [Hh.out] at b; exact .inl ⟨decide_eq_true (by simpa using b.2), decide_eq_true b.1⟩
                · exact .inr ⟨b.1, decide_eq_true b.2⟩
              clear bad
              rcases hb with ⟨e1, e2⟩ | ⟨e0, e3⟩
              · rw [e1] at k1; rw [e2] at k2
                clear e1 e2 z0
                go_wp2_with fail
                go_ret
                exact ⟨ret_int HR.out.symm, rfl⟩
              · cases e0
            · have HR : Hid (parM false t = if false then -(m : Int) else m) := hid (parM_ok Hfin.out bad)
              have hb : (decide (1 < t.length) = true → decide (y = 48) = false) ∧ (false = true → decide (m = 0) = false) := by
                simp only [not_or, not_and] at bad
                exact ⟨fun h1 => decide_eq_false fun h2 => bad.2.1 (of_decide_eq_true h1) (by rw [Hh.out, h2]), fun h1 => decide_eq_false fun h2 => bad.2.2 h1 h2⟩
              have hwr : wrap64 (-(m : Int)) = -(m : Int) := by unfold wrap64; omega
              clear bad
              have hb1 := hb.1
              clear hb
              cases e2 : decide (1 < t.length)
              · rw [e2] at k2
                clear e2 hb1 z0
                go_wp2_with fail
                go_ret
                exact ⟨ret_int HR.out.symm, rfl⟩
              · rw [hb1 e2] at k1
                rw [e2] at k2
                clear e2 hb1 z0
                go_wp2_with fail
                go_ret
                exact ⟨ret_int HR.out.symm, rfl⟩
  · obtain rfl : s = 45 :: t := hx
    have hG : (((⟨(45 :: t).toArray⟩ : ByteArray)[0]'(bs_lt (by simp))).toNat : Int) = 45 := by rw [bs_get (b := 45) rfl]; rfl
    have hE : (⟨(45 :: t).toArray⟩ : ByteArray).extract 1 (t.length + 1) = ⟨t.toArray⟩ := Value.string.inj (str_rest (45 :: t) 1)
    clear hn
    go_enter Tryz.func62, Tryz.ntmps62
    go_wp2_with fail
    clear hG hE
    go_loop [4, 5] (fun p i => ∃ (n m : Nat), n ≤ t.length ∧ i = .int .i64 n ∧ p = .int .i64 m ∧ (n ≤ 4 ∧ m < 10 ^ n) ∧ parD 0 0 t = parD n m (t.drop n)) (fun _ i => t.length - (intOf i).toNat)
    case atStart => exact ⟨0, 0, Nat.zero_le _, rfl, rfl, ⟨by decide, by decide⟩, rfl⟩
    case round =>
      obtain ⟨n, m, hn, rfl, rfl, ⟨hn4, hm4⟩, hsp⟩ := hrel
      have Hsp := hid hsp; clear hsp
      have hm5 : m < 10000 := Nat.lt_of_lt_of_le hm4 (Nat.pow_le_pow_right (by decide) hn4)
      have HM := hid hm4; clear hm4
      by_cases hlt : n < t.length
      · obtain ⟨b, hb⟩ : ∃ b, t[n]? = some b := ⟨_, List.getElem?_eq_getElem hlt⟩
        obtain ⟨B, hB⟩ : ∃ B : Nat, B = b.toNat := ⟨_, rfl⟩
        have hG : (((⟨t.toArray⟩ : ByteArray)[n]'(bs_lt hlt)).toNat : Int) = (B : Int) := by rw [bs_get hb, hB]
        have hB8 : B < 256 := by rw [hB]; exact b.toNat_lt
        have HD : Hid (t.drop n = b :: t.drop (n + 1)) := hid (by obtain ⟨hl, e⟩ := List.getElem?_eq_some_iff.1 hb; rw [List.drop_eq_getElem_cons hl, e])
        have k1 : decide ((B : Int) < 48) = decide (b < 48) := by rw [hB]; exact u8_lt b 48
        have k2 : decide ((57 : Int) < (B : Int)) = decide (57 < b) := by rw [hB]; exact u8_lt 57 b
        have k3 : decide ((4 : Int) ≤ (n : Int)) = decide (4 ≤ n) := by rw [Bool.eq_iff_iff, decide_eq_true_eq, decide_eq_true_eq]; omega
        have HB := hid hB; clear hB hb
        by_cases hbad : b < 48 ∨ 57 < b ∨ 4 ≤ n
        · have hnone : parD 0 0 t = none := by rw [Hsp.out, HD.out, parD, if_pos hbad]
          have Hnone := hid hnone; clear hnone
          cases e1 : decide (b < 48) <;> cases e2 : decide (57 < b) <;> cases e3 : decide (4 ≤ n)
          · exfalso; simp only [decide_eq_false_iff_not] at e1 e2 e3; exact hbad.elim e1 fun h => h.elim e2 e3
          all_goals
            rw [e1] at k1; rw [e2] at k2; rw [e3] at k3; clear e1 e2 e3 hbad
            go_wp2_with fail
            go_ret
            exact ⟨ret_int (by unfold parM; rw [Hnone.out]), rfl⟩
        · have hgood := hbad
          simp only [not_or] at hgood
          rw [decide_eq_false hgood.1] at k1; rw [decide_eq_false hgood.2.1] at k2; rw [decide_eq_false hgood.2.2] at k3
          have h48 : 48 ≤ B ∧ B ≤ 57 := by
            have h1 := of_decide_eq_false k1; have h2 := of_decide_eq_false k2
            omega
          have hsub : IntKind.u8.wrap ((B : Int) - 48) = (B : Int) - 48 := by rw [IntKind.wrap_u8]; omega
          go_wp2_with fail
          refine ⟨⟨n + 1, m * 10 + (B - 48), by omega, by go_num, by go_num, ⟨by omega, ?_⟩, ?_⟩, by simp [intOf]; omega⟩
          · have := HM.out; rw [Nat.pow_succ]; omega
          · rw [Hsp.out, HD.out, parD, if_neg hbad, HB.out]
      · have hnl : n = t.length := by omega
        have hfin : parD 0 0 t = some m := by rw [Hsp.out, hnl, List.drop_length]; rfl
        have Hfin := hid hfin; clear hfin
        clear hnl hn4
        by_cases z0 : t.length = 0
        · have z1 : ((t.length : Int) == 0) = true := by simp [z0]
          have z2 : (t.length == 0) = true := by simp [z0]
          have HZ := hid z0; clear z0
          go_wp2_with fail
          go_ret
          exact ⟨ret_int (parM_bad Hfin.out (.inl HZ.out)).symm, rfl⟩
        · have z1 : ((t.length : Int) == 0) = false := beq_eq_false_iff_ne.2 (by omega)
          have z2 : (t.length == 0) = false := beq_eq_false_iff_ne.2 (by omega)
          have hpos : 0 < t.length := by omega
          obtain ⟨y, hy⟩ : ∃ y, t[0]? = some y := ⟨_, List.getElem?_eq_getElem (by omega)⟩
          have hG : (((⟨t.toArray⟩ : ByteArray)[0]'(bs_lt hpos)).toNat : Int) = (y.toNat : Int) := by rw [bs_get hy]
          have hh : t.head? = some y := by rw [List.head?_eq_getElem?, hy]
          have k1 : ((y.toNat : Int) == 48) = decide (y = 48) := by rw [show (48 : Int) = ((48 : UInt8).toNat : Int) from rfl, u8_eq]; rfl
          have k2 : decide ((1 : Int) < (t.length : Int)) = decide (1 < t.length) := by rw [Bool.eq_iff_iff, decide_eq_true_eq, decide_eq_true_eq]; omega
          have k3 : ((m : Int) == 0) = decide (m = 0) := by rw [Bool.eq_iff_iff, beq_iff_eq, decide_eq_true_eq]; omega
          have k4 : (m == 0) = decide (m = 0) := by rw [Bool.eq_iff_iff, beq_iff_eq, decide_eq_true_eq]
          have Hh := hid hh; clear hh hy
          by_cases bad : t.length = 0 ∨ (1 < t.length ∧ t.head? = some 48) ∨ (true = true ∧ m = 0)
          · have HR : Hid (parM true t = -100000) := hid (parM_bad Hfin.out bad)
            have hb : (decide (y = 48) = true ∧ decide (1 < t.length) = true) ∨ (true = true ∧ decide (m = 0) = true) := by
              rcases bad with b | b | b
              · exact absurd b z0
              · rw [Hh.out] at b; exact .inl ⟨decide_eq_true (by simpa using b.2), decide_eq_true b.1⟩
              · exact .inr ⟨b.1, decide_eq_true b.2⟩
            clear bad
            rcases hb with ⟨e1, e2⟩ | ⟨e0, e3⟩
            · rw [e1] at k1; rw [e2] at k2
              clear e1 e2 z0
              go_wp2_with fail
              go_ret
              exact ⟨ret_int HR.out.symm, rfl⟩
            · rw [e3] at k3 k4
              clear e3 e0 z0
              cases e1 : decide (y = 48) <;> cases e2 : decide (1 < t.length)
              all_goals
                rw [e1] at k1; rw [e2] at k2
                clear e1 e2
                go_wp2_with fail
                go_ret
                exact ⟨ret_int HR.out.symm, rfl⟩
          · have HR : Hid (parM true t = if true then -(m : Int) else m) := hid (parM_ok Hfin.out bad)
            have hb : (decide (1 < t.length) = true → decide (y = 48) = false) ∧ (true = true → decide (m = 0) = false) := by
              simp only [not_or, not_and] at bad
              exact ⟨fun h1 => decide_eq_false fun h2 => bad.2.1 (of_decide_eq_true h1) (by rw [Hh.out, h2]), fun h1 => decide_eq_false fun h2 => bad.2.2 trivial h2⟩
            have hwr : wrap64 (-(m : Int)) = -(m : Int) := by unfold wrap64; omega
            clear bad
            rw [hb.2 rfl] at k3 k4
            have hb1 := hb.1
            clear hb
            cases e2 : decide (1 < t.length)
            · rw [e2] at k2
              clear e2 hb1 z0
              go_wp2_with fail
              go_ret
              exact ⟨ret_int HR.out.symm, rfl⟩
            · rw [hb1 e2] at k1
              rw [e2] at k2
              clear e2 hb1 z0
              go_wp2_with fail
              go_ret
              exact ⟨ret_int HR.out.symm, rfl⟩

theorem parseInt_c (s : Bs) (w : World) (hs : s.length ≤ 1000000000) :
    Calls Tryz.prog 62 #[.string ⟨s.toArray⟩] w fun e w' => e = .returned (.int .i64 (parI s)) ∧ w' = w := by
  unfold parI
  cases s with
  | nil => rw [if_neg (by simp)]; exact parM_c [] false w hs [] rfl (by simp)
  | cons b r =>
    by_cases hb : b = 45
    · subst hb
      rw [if_pos (show (45 :: r : Bs).head? = some 45 from rfl)]
      exact parM_c r true w (by simp at hs; omega) _ rfl (by simp)
    · rw [if_neg (by simpa using hb)]
      exact parM_c (b :: r) false w hs _ rfl (by simpa using hb)
theorem parI_small (s : Bs) : -100000 ≤ parI s ∧ parI s ≤ 100000 := by
  have key : ∀ neg t, -100000 ≤ parM neg t ∧ parM neg t ≤ 100000 := by
    intro neg t
    unfold parM
    split
    · omega
    · rename_i n h
      have := parD_le t 0 0 n (by decide) (by decide) h
      split
      · omega
      · split <;> omega
  unfold parI
  split <;> exact key _ _
end Go.Proofs.YtmonhpoogfdpoaaGreatDoor

set_option linter.unusedVariables false
set_option linter.unusedSimpArgs false
namespace Go.Proofs.YtmonhpoogfdpoaaGreatDoor
open Go.RowKit

attribute [local go_sem] ByteArray.mk_append_mk

theorem decDigits_step {u : Nat} (h : ¬ u < 10) : Lib.decDigits u = Lib.decDigits (u / 10) ++ [UInt8.ofNat (48 + u % 10)] := by rw [Lib.decDigits, dif_neg h]

theorem run_digit (W : World) (b : Nat) (u : Nat) (h : u < 10) (hc : W.cell? ⟨b, 0, none⟩ = some (.int .u8 (48 + (u : Int)))) :
    (convert 22 9 (.slice (some ⟨b, 0, none⟩) 1 1)).run Tryz.prog W = .ok (.string ⟨[UInt8.ofNat (48 + u)].toArray⟩) W := by
  have := run_convert_bytes_arg (P := Tryz.prog) W 22 5 Tryz.underlying22 Tryz.underlying5 b 0 1 1 [48 + (u : Int)] rfl (fun i hi => by
    obtain rfl : i = 0 := by omega
    exact hc) 9 Tryz.underlying9
  rw [this]
  have e : (48 + (u : Int)).toNat = 48 + u := by omega
  simp [strOfNums, e]
set_option maxRecDepth 100000 in
theorem formatNat_c (u : Nat) : ∀ (w : World), u ≤ 9223372036854775807 →
    Calls Tryz.prog 96 #[.int .i64 u] w fun e w' => e = .returned (.string ⟨(Lib.decDigits u).toArray⟩) ∧ Gr [] w w' := by
  induction u using Nat.strongRecOn with
  | ind u ih =>
    intro w hu
    have k0 : decide ((u : Int) < -9223372036854775807) = false := decide_eq_false (by omega)
    have k1 : decide ((u : Int) < 0) = false := decide_eq_false (by omega)
    by_cases h : u < 10
    · have k2 : decide ((u : Int) < 10) = true := decide_eq_true (by omega)
      obtain ⟨D, hD⟩ : ∃ D : Bs, D = [UInt8.ofNat (48 + u)] := ⟨_, rfl⟩
      have hcv := fun W : World => run_digit (W.alloc (.cells #[.int .u8 (48 + (u : Int))] 5)) W.heap.size u h (cell_new _ _ _)
      rw [← hD] at hcv
      have HD := hid hD
      clear ih hD
      go_enter Tryz.func96, Tryz.ntmps96
      go_wp2_with fail
      go_ret
      refine ⟨?_, (Gr.refl _ _).alloc _⟩
      rw [Lib.decDigits_one h, ← HD.out]
      rfl
    · have k2 : decide ((u : Int) < 10) = false := decide_eq_false (by omega)
      have IH := hid (ih (u / 10) (by omega)); clear ih
      have kd : (u : Int) / 10 = ((u / 10 : Nat) : Int) := by omega
      obtain ⟨r, hr⟩ : ∃ r, r = u % 10 := ⟨_, rfl⟩
      have hr10 : r < 10 := by omega
      have km : (u : Int).tmod 10 = (r : Int) := by rw [Int.tmod_eq_emod_of_nonneg (by omega)]; omega
      have kw : IntKind.u8.wrap (48 + (r : Int)) = 48 + (r : Int) := by rw [IntKind.wrap_u8]; omega
      have kw2 : IntKind.i64.wrap (48 + (r : Int)) = 48 + (r : Int) := by rw [IntKind.wrap_i64]; omega
      obtain ⟨q, hq⟩ : ∃ q, q = u / 10 := ⟨_, rfl⟩
      rw [← hq] at kd IH
      have kq : IntKind.i64.wrap (q : Int) = (q : Int) := by rw [IntKind.wrap_i64]; omega
      have kr : IntKind.i64.wrap (r : Int) = (r : Int) := by rw [IntKind.wrap_i64]; omega
      obtain ⟨D, hD⟩ : ∃ D : Bs, D = [UInt8.ofNat (48 + r)] := ⟨_, rfl⟩
      have Hq := hid hq; have Hr := hid hr; clear hq hr
      have hcv := fun W : World => run_digit (W.alloc (.cells #[.int .u8 (48 + (r : Int))] 5)) W.heap.size r hr10 (cell_new _ _ _)
      have hcv2 := fun W : World => run_digit (W.alloc (.cells #[.int .u8 (48 + (r : Int))] 5)).drew W.heap.size r hr10 (cell_new _ _ _)
      rw [← hD] at hcv hcv2
      have hDl : D.length ≤ 1 := by rw [hD]; simp
      have hql : (Lib.decDigits q).length ≤ 20 := by rw [Lib.decDigits_length]; exact Lib.nDigits_le20 q (by have := Hq.out; omega)
      have hcc : ¬ 9223372036854775807 < (Lib.decDigits q).length + D.length := by omega
      have HD := hid hD; clear hD hDl hql
      go_enter Tryz.func96, Tryz.ntmps96
      go_wp2_with fail
      go_region_law (go_simp; go_at_call 96; refine (IH.out _ (by omega)).mono ?_; rintro e wa ⟨rfl, hga⟩; (try (have hcw : (convert 22 9 (.slice (some ⟨w.heap.size, 0, none⟩) 1 1)).run Tryz.prog wa = .ok (.string ⟨D.toArray⟩) wa := by rw [HD.out]; exact run_digit wa w.heap.size r hr10 (hga.cell (cell_new _ _ _) (by simp)))); have HGa : Hid (Gr [] w wa) := hid (by first | exact ((Gr.refl [] w).drew).trans hga | exact (((Gr.refl [] w).alloc _).drew).trans hga); clear hga; (try dsimp only))
      all_goals
        go_wp2_with fail
        go_ret
        refine ⟨by rw [decDigits_step h, ← Hq.out, ← Hr.out, ← HD.out]; rfl, by first | exact HGa.out | exact HGa.out.alloc _⟩

theorem formatInt_c (n : Int) (hn : -999 ≤ n ∧ n ≤ 999) (w : World) :
    Calls Tryz.prog 96 #[.int .i64 n] w fun e w' => e = .returned (.string ⟨(num n).toArray⟩) ∧ Gr [] w w' := by
  unfold num Lib.itoa
  by_cases h : n < 0
  · rw [if_pos h]
    obtain ⟨u, hu⟩ : ∃ u : Nat, u = n.natAbs := ⟨_, rfl⟩
    have hne : -n = (u : Int) := by omega
    have hw : wrap64 (-n) = (u : Int) := by unfold wrap64; omega
    have hw2 : IntKind.i64.wrap (-n) = (u : Int) := by rw [IntKind.wrap_i64]; omega
    rw [← hu]
    have k0 : decide (n < -9223372036854775807) = false := decide_eq_false (by omega)
    have k1 : decide (n < 0) = true := decide_eq_true h
    have hl : (Lib.decDigits u).length ≤ 20 := by rw [Lib.decDigits_length]; exact Lib.nDigits_le20 u (by omega)
    have hcc : ¬ 9223372036854775807 < 1 + (Lib.decDigits u).length := by omega
    have hcc2 : ¬ 9223372036854775807 < (Lib.decDigits u).length + 1 := by omega
    have hub : u ≤ 999 := by omega
    have hap : (⟨#[45]⟩ : ByteArray) ++ ⟨(Lib.decDigits u).toArray⟩ = ⟨(45 :: Lib.decDigits u).toArray⟩ := bs_append [45] _
    clear hu hl hne
    go_enter Tryz.func96, Tryz.ntmps96
    go_wp2_with (go_at_call 96; (try rw [hw]); refine (formatNat_c u w (by omega)).mono ?_; rintro e w1 ⟨rfl, hg1⟩)
    go_ret
    exact ⟨rfl, hg1⟩
  · rw [if_neg h]
    obtain ⟨u, rfl⟩ := Int.eq_ofNat_of_zero_le (show 0 ≤ n by omega)
    exact formatNat_c u w (by omega)

theorem join_snoc (c : UInt8) : ∀ (xs : List Bs) (x : Bs), xs ≠ [] → Lib.join (xs ++ [x]) [c] = Lib.join xs [c] ++ c :: x
  | [y], x, _ => by rw [List.singleton_append, join_tail c y [x] (by simp), Lib.join_one, Lib.join_one]
  | y :: z :: r, x, _ => by
    rw [List.cons_append, join_tail c y ((z :: r) ++ [x]) (by simp), join_snoc c (z :: r) x (by simp), join_tail c y (z :: r) (by simp)]
    simp
/-- The numbers of a list, joined. -/
def numsT (l : List Int) : Bs := Lib.join (l.map num) [44]
theorem numsT_snoc (l : List Int) (x : Int) : numsT (l ++ [x]) = (if l = [] then [] else numsT l ++ [44]) ++ num x := by
  unfold numsT
  by_cases h : l = []
  · subst h; simp [Lib.join_one]
  · rw [List.map_append, List.map_cons, List.map_nil, join_snoc 44 _ _ (by simpa using h), if_neg h, List.append_assoc]; rfl
theorem numsT_len {l : List Int} (h : Sm l) : (numsT l).length ≤ 5 * l.length := by
  unfold numsT
  cases l with
  | nil => simp [Lib.join_nil]
  | cons n l =>
    have := lens_num (n :: l) h
    rw [List.map_cons] at this ⊢
    rw [Lib.join_length]
    simp only [List.length_cons, List.length_nil, List.length_map] at this ⊢
    omega
theorem numsT_ne {l : List Int} (h : Sm l) (h0 : l ≠ []) : numsT l ≠ [] := by
  match l, h0, h with
  | [n], _, h => unfold numsT; simp only [List.map_cons, List.map_nil]; rw [Lib.join_one]; exact (num_ok (h n (by simp))).ne'
  | n :: k :: l, _, h =>
    unfold numsT
    rw [List.map_cons, join_tail 44 _ _ (by simp)]
    simp
theorem formatInts_c (l : List Int) (v : Value) (w : World) (hv : Nums [] w .i64 v l) (hl : Sm l) (hll : l.length ≤ 1000) :
    Calls Tryz.prog 100 #[v] w fun e w' => e = .returned (.string ⟨(listT l).toArray⟩) ∧ Gr [] w w' := by
  obtain ⟨ao, cap, rfl, ⟨hlc, hcm, _⟩, hc⟩ := hv
  have Hc := hid hc; have Hl := hid hl; clear hc hl
  go_enter Tryz.func100, Tryz.ntmps100
  go_wp2_with fail
  go_loopw [3, 4] (fun o i wr => ∃ n : Nat, n ≤ l.length ∧ i = .int .i64 n ∧ o = .string ⟨(numsT (l.take n)).toArray⟩ ∧ Gr [] w wr) (fun _ i _ => l.length - (intOf i).toNat)
  case atStart => exact ⟨0, Nat.zero_le _, rfl, rfl, Gr.refl _ _⟩
  case round =>
    obtain ⟨n, hn, rfl, rfl, hg⟩ := hrel
    obtain ⟨X, hX⟩ : ∃ X, X = numsT (l.take n) := ⟨_, rfl⟩
    have hXl : X.length ≤ 5000 := by
      rw [hX]
      have := numsT_len (l := l.take n) (fun x hx => Hl.out x (List.mem_of_mem_take hx))
      rw [List.length_take] at this; omega
    rw [← hX]
    have HX := hid hX; clear hX
    by_cases hlt : n < l.length
    · obtain ⟨x, hx⟩ := get_some hlt
      obtain ⟨b, o, rfl, _, hcell⟩ := Hc.out n x hx
      have hcell' := hg.cell hcell (by simp)
      have hsm := Hl.out x (List.mem_of_getElem? hx)
      have hts : l.take (n + 1) = l.take n ++ [x] := by rw [List.take_add_one, hx]; rfl
      have Hts := hid hts; clear hts hx
      obtain ⟨Y, hY⟩ : ∃ Y, Y = num x := ⟨_, rfl⟩
      have hYl : Y.length ≤ 4 := by rw [hY]; exact (num_ok hsm).len
      have HY := hid hY; clear hY
      have cc1 : ¬ 9223372036854775807 < X.length + 1 := by omega
      have cc2 : ¬ 9223372036854775807 < X.length + 1 + Y.length := by omega
      have cc3 : ¬ 9223372036854775807 < X.length + Y.length := by omega
      have cc4 : ¬ 9223372036854775807 < X.length + (1 + Y.length) := by omega
      have h44 : (⟨X.toArray⟩ : ByteArray) ++ ⟨#[44]⟩ = ⟨(X ++ [44]).toArray⟩ := bs_append X [44]
      have h44l : (X ++ [44]).length = X.length + 1 := by simp
      have h44Y : (⟨(X ++ [44]).toArray⟩ : ByteArray) ++ ⟨Y.toArray⟩ = ⟨(X ++ [44] ++ Y).toArray⟩ := bs_append _ _
      have hXY : (⟨X.toArray⟩ : ByteArray) ++ ⟨Y.toArray⟩ = ⟨(X ++ Y).toArray⟩ := bs_append _ _
      by_cases h0 : n = 0
      · have hpos : decide ((0 : Int) < (n : Int)) = false := decide_eq_false (by omega)
        have hpos2 : decide (0 < n) = false := decide_eq_false (by omega)
        have h0' : Hid (l.take n = []) := hid (by rw [h0]; rfl)
        have hn1 : n + 1 ≤ l.length := by omega
        clear h0
        go_wp2_with (go_at_call 96; refine (formatInt_c x hsm _).mono ?_; rw [← HY.out]; rintro e w1 ⟨rfl, hg1⟩)
        refine ⟨⟨n + 1, hn1, by go_num, ?_, hg.trans hg1⟩, by simp [intOf]; omega⟩
        rw [Hts.out, numsT_snoc, if_pos h0'.out, HX.out, h0'.out, HY.out]
        first | rfl | (rw [hXY]; rfl)
      · have hpos : decide ((0 : Int) < (n : Int)) = true := decide_eq_true (by omega)
        have hpos2 : decide (0 < n) = true := decide_eq_true (by omega)
        have h0' : Hid (l.take n ≠ []) := hid (by intro e; rw [List.take_eq_nil_iff] at e; rcases e with e | e; exact h0 e; rw [e] at hlt; simp at hlt)
        go_wp2_with (go_at_call 96; refine (formatInt_c x hsm _).mono ?_; rw [← HY.out]; rintro e w1 ⟨rfl, hg1⟩)
        refine ⟨⟨n + 1, by omega, by go_num, ?_, hg.trans hg1⟩, by simp [intOf]; omega⟩
        rw [Hts.out, numsT_snoc, if_neg h0'.out, ← HX.out, ← HY.out, List.append_assoc]
        rfl
    · have hnl : n = l.length := by omega
      have hXn : X = numsT l := by rw [HX.out, hnl, List.take_length]
      by_cases h0 : l = []
      · have hXe : X = [] := by rw [hXn, h0]; rfl
        have hb : X.isEmpty = true := by rw [hXe]; rfl
        clear hXn hXe hnl
        go_wp2_with fail
        go_ret
        exact ⟨by unfold listT; rw [if_pos h0]; rfl, hg⟩
      · have hXne : X ≠ [] := by rw [hXn]; exact numsT_ne Hl.out h0
        have hb : X.isEmpty = false := by cases X with | nil => exact absurd rfl hXne | cons a b => rfl
        have HXn := hid hXn; clear hXn hXne hnl
        go_wp2_with fail
        go_ret
        refine ⟨?_, hg⟩
        unfold listT
        rw [if_neg h0]
        have e := HXn.out
        unfold numsT at e
        rw [← e]
        rfl

theorem beqL {a b : Bs} (h : a = b) : (a == b) = true := by simpa using h
theorem bneL {a b : Bs} (h : ¬ a = b) : (a == b) = false := by simpa using h
theorem parseInts_c (s : Bs) (w : World) (hs : s.length ≤ 1000000000) :
    Calls Tryz.prog 61 #[.string ⟨s.toArray⟩] w fun e w' => ∃ v, e = .returned v ∧ Own w.heap.size w' 3 v (parL s) ∧ Gr [] w w' := by
  by_cases h0 : s = [45]
  · have hb := beqL h0
    have hp : parL s = [] := by unfold parL; rw [if_pos h0]
    have HP := hid hp; clear hp h0
    go_enter Tryz.func61, Tryz.ntmps61
    go_wp2_with fail
    go_ret
    exact ⟨_, rfl, by rw [HP.out]; exact Own.empty w 3 (Nat.le_refl _), (Gr.refl _ _).alloc _⟩
  · have hb := bneL h0
    have hp : parL s = (spN 44 20 s).map parI := by unfold parL; rw [if_neg h0]
    have HP := hid hp; clear hp h0
    have hg0 : Gr [] w (w.alloc (Obj.cells #[] 3)) := (Gr.refl _ _).alloc _
    have hpl : ∀ x ∈ spN 44 20 s, x.length ≤ 1000000000 := fun x hx => Nat.le_trans (spN_piece 44 s 20 x hx) hs
    have Hpl := hid hpl; clear hpl
    have hsl := spN_len 44 s 20
    go_enter Tryz.func61, Tryz.ntmps61
    go_wp2_with (go_at_call 26; refine (splitN_c 44 20 s _ hs (by decide)).mono ?_; rintro e w1 ⟨v1, rfl, hown1, hg1⟩)
    have HE := hid ((Own.empty (B := w.heap.size) w 3 (Nat.le_refl _)).gr hg1 (by simp))
    obtain ⟨ps, hps⟩ : ∃ ps, ps = spN 44 20 s := ⟨_, rfl⟩
    rw [← hps] at hown1 Hpl hsl
    obtain ⟨po, pc, rfl, ⟨hpc1, hpc2, _⟩, hpc⟩ := hown1.strs (S := [w.heap.size]) (by simp)
    have Hpc := hid hpc; have Hps := hid hps; have hg01 := hg0.trans hg1
    have hsz1 := hg01.size
    clear hpc hps hown1 hg1
    have Hg1 := hid hg01; clear hg01
    have hz1 := hg0.size
    have hpl2 : ps.length ≤ 21 := hsl
    go_loopw [3, 5] (fun o i wr => ∃ n : Nat, n ≤ ps.length ∧ i = .int .i64 n ∧ Own w.heap.size wr 3 o ((ps.take n).map parI) ∧ (∀ g, o.ownBlock = some g → g = w.heap.size ∨ w1.heap.size ≤ g) ∧ Gr [w.heap.size] w1 wr) (fun _ i _ => ps.length - (intOf i).toNat)
    case atStart => exact ⟨0, Nat.zero_le _, rfl, by simpa using HE.out, by intro g hg; simp [Value.ownBlock] at hg; exact .inl hg.symm, Gr.refl _ _⟩
    case round =>
      obtain ⟨n, hn, rfl, hown, hob, hg⟩ := hrel
      have hsz := hg.size
      have Hob := hid hob; clear hob
      by_cases hlt : n < ps.length
      · obtain ⟨x, hx⟩ : ∃ x, ps[n]? = some x := ⟨_, List.getElem?_eq_getElem hlt⟩
        obtain ⟨b, o, rfl, hbs, hcell⟩ := Hpc.out n x hx
        have hcell' := hg.cell hcell hbs
        have hxl := Hpl.out x (List.mem_of_getElem? hx)
        have hts : (ps.take (n + 1)).map parI = (ps.take n).map parI ++ [parI x] := by rw [List.take_add_one, hx]; simp
        have Hts := hid hts; clear hts hx
        obtain ⟨y, hy⟩ : ∃ y, y = parI x := ⟨_, rfl⟩
        have hyb := parI_small x
        rw [← hy] at hyb
        have Hy := hid hy; clear hy
        have hml : ((ps.take n).map parI).length ≤ 21 := by simp; omega
        obtain ⟨zs, hzs⟩ : ∃ zs, zs = (ps.take n).map parI := ⟨_, rfl⟩
        rw [← hzs] at hown hml Hts
        clear hzs
        obtain ⟨mo, mc, rfl, -, -⟩ := hown.nums' (S := []) (by simp)
        have hown' := hown
        clear hown
        go_wp2_with (first
          | (go_at_call 62; refine (parseInt_c x _ hxl).mono ?_; rw [← Hy.out]; rintro e w2 ⟨rfl, rfl⟩)
          | (at_builtin; refine wp_appIL rfl _ _ 24 rfl w.heap.size 3 infoT Tryz.underlying24 (.slice mo zs.length mc) zs rfl (hown'.alloc _) _ 1 y rfl (cell_new _ _ _) (by omega) (by rw [World.size_alloc]; omega) ?_; intro g4 c4 w4 hown4 hg4 hwh4 hlt4))
        refine ⟨⟨n + 1, by omega, by go_num, by rw [Hts.out, ← Hy.out]; exact hown4, ?_, ?_⟩, by simp [intOf]; omega⟩
        · intro g hg5
          simp [Value.ownBlock] at hg5
          subst hg5
          rcases hwh4 with h | h
          · exact Hob.out _ h
          · rw [World.size_alloc] at h; exact .inr (by omega)
        · refine (hg.alloc _).step hg4 fun i hi => ?_
          rcases Hob.out i (by simpa using hi) with h | h
          · exact .inl (by simp [h])
          · exact .inr h
      · go_wp2_with fail
        go_ret
        have hnl : n = ps.length := by omega
        exact ⟨_, rfl, by rw [HP.out, ← Hps.out]; rw [hnl, List.take_length] at hown; exact hown, Hg1.out.step hg (by simp)⟩
end Go.Proofs.YtmonhpoogfdpoaaGreatDoor
