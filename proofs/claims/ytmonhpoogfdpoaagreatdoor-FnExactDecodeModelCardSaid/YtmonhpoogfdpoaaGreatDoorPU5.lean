/-
  Walks of the reference's text of a model.
-/
import Derived.Test.YtmonhpoogfdpoaaGreatDoorPU3
import Derived.Test.YtmonhpoogfdpoaaGreatDoorPU4
import Derived.Test.YtmonhpoogfdpoaaGreatDoorPVeG
set_option linter.unusedVariables false
set_option linter.unusedSimpArgs false
namespace Go.Proofs.YtmonhpoogfdpoaaGreatDoor
open Go.RowKit
attribute [local go_sem] ByteArray.mk_append_mk

theorem formatModel_c (m : Mod) (v : Value) (w : World) (hv : ModV [] w v m) (hm : ModOk m) :
    Calls Tryz.prog 30 #[v] w fun e w' => e = .returned (.string ⟨(encM m).toArray⟩) ∧ Gr [] w w' := by
  obtain ⟨dv, cv, rfl, hd, hc⟩ := hv
  obtain ⟨xo, xc, rfl, ⟨hd1, hd2, _⟩, -⟩ := id hd
  obtain ⟨ao, ac, rfl, ⟨hc1, hc2, _⟩, -⟩ := id hc
  obtain ⟨w0, hw0⟩ : ∃ w0, w0 = w.alloc (.cells #[.slice xo m.doms.length xc, .slice ao m.cons.length ac] 27) := ⟨_, rfl⟩
  have hg0 : Gr [] w w0 := by rw [hw0]; exact (Gr.refl _ _).alloc _
  have hb0 : w0.heap[w.heap.size]? = some (.cells #[.slice xo m.doms.length xc, .slice ao m.cons.length ac] 27 (0, 0)) := by rw [hw0]; exact heap_alloc_new _ _
  have Hd := hid (hd.gr hg0); have Hc := hid (hc.gr hg0); have Hb0 := hid hb0; have Hg0 := hid hg0; have Hm := hid hm
  have Hld := hid hm.ld; have Hlc := hid hm.lc
  obtain ⟨D, hD, hDb⟩ := hm.doms
  have HD := hid hD; have HDb := hid hDb
  have HDl : Hid (D.length = m.doms.length) := hid (by rw [hD]; simp [ints])
  clear hd hc hm hD hDb
  go_enter Tryz.func30, Tryz.ntmps30
  go_wp2_with fail
  rw [← hw0]
  clear hw0 hb0 hg0
  go_loopw [3, 4] (fun o i wr => ∃ n : Nat, n ≤ m.doms.length ∧ i = .int .i64 n ∧ o = .string ⟨(domsT (m.doms.take n)).toArray⟩ ∧ Gr [] w0 wr) (fun _ i _ => m.doms.length - (intOf i).toNat)
  case atStart => exact ⟨0, Nat.zero_le _, rfl, rfl, Gr.refl _ _⟩
  case round =>
    obtain ⟨n, hn, rfl, rfl, hg⟩ := hrel
    have hfl := fld (hg.obj Hb0.out (by simp))
    have hdl := Hld.out
    by_cases hlt : n < m.doms.length
    · obtain ⟨X, hX⟩ : ∃ X, X = domsT (m.doms.take n) := ⟨_, rfl⟩
      have lX : X.length ≤ 100 := by
        have := domsT_len (D.take n) (fun d hd => HDb.out d (List.mem_of_mem_take hd))
        have e : ints (D.take n) = m.doms.take n := by rw [HD.out]; simp [ints, List.map_take]
        rw [e, List.length_take] at this
        rw [hX]; omega
      rw [← hX]
      have HX := hid hX; clear hX
      obtain ⟨d, hdx⟩ : ∃ d, D[n]? = some d := ⟨_, List.getElem?_eq_getElem (by have := HDl.out; omega)⟩
      have hx : m.doms[n]? = some (d : Int) := by rw [HD.out, ints_get, hdx]; rfl
      obtain ⟨ao', cap', e, _, hcs⟩ := Hd.out
      cases e
      obtain ⟨b, o, rfl, _, hcell⟩ := (hcs.gr hg) n _ hx
      have hd64 := HDb.out d (List.mem_of_getElem? hdx)
      have hts : domsT (m.doms.take (n + 1)) = domsT (m.doms.take n) ++ (domL d ++ [10]) := by rw [List.take_add_one, hx]; exact domsT_snoc _ _
      obtain ⟨Y, hY⟩ : ∃ Y, Y = domT d := ⟨_, rfl⟩
      have lY : Y.length ≤ 20 := by rw [hY]; exact (domT_free hd64).2.2
      have HY := hid hY; have Hts := hid hts; clear hY hts hx hdx hcs
      have cc1 : ¬ 9223372036854775807 < X.length + 4 := by omega
      have cc2 : ¬ 9223372036854775807 < X.length + 4 + Y.length := by omega
      have cc3 : ¬ 9223372036854775807 < X.length + (Y.length + 1 + 1 + 1 + 1) := by omega
      have cc4 : ¬ 9223372036854775807 < X.length + (Y.length + 1 + 1 + 1 + 1) + 1 := by omega
      have cc5 : ¬ 9223372036854775807 < X.length + (Y.length + 4) + 1 := by omega
      go_wp2_with (go_at_call 59; (with_reducible refine (formatDomain_c d hd64 _).mono ?_); rw [← HY.out]; rintro e w1 ⟨rfl, hg1⟩)
      refine ⟨⟨n + 1, by omega, by go_num, ?_, hg.trans hg1⟩, by simp [intOf]; omega⟩
      rw [Hts.out, ← HX.out, show domL (d : Int) = varT ++ Y by rw [HY.out]; rfl]
      simp [varT]
    · obtain ⟨X, hX⟩ : ∃ X, X = domsT (m.doms.take n) := ⟨_, rfl⟩
      have hX2 : X = domsT m.doms := by rw [hX, show n = m.doms.length by omega, List.take_length]
      have lX : X.length ≤ 100 := by
        have := domsT_len D HDb.out
        rw [← HD.out] at this
        rw [hX2]; have := HDl.out; omega
      rw [← hX]
      have HX := hid hX2; clear hX hX2
      go_wp2_with fail
      go_loopw [3, 5] (fun o i wq => ∃ k : Nat, k ≤ m.cons.length ∧ i = .int .i64 k ∧ o = .string ⟨(X ++ consT (m.cons.take k)).toArray⟩ ∧ Gr [] wr wq) (fun _ i _ => m.cons.length - (intOf i).toNat)
      case atStart => exact ⟨0, Nat.zero_le _, rfl, by simp [consT], Gr.refl _ _⟩
      case round =>
        obtain ⟨k, hk, rfl, rfl, hgq⟩ := hrel
        have hcl := Hlc.out
        have hgt := hg.trans hgq
        have hft := fld (hgt.obj Hb0.out (by simp))
        obtain ⟨X2, hX2⟩ : ∃ X2, X2 = X ++ consT (m.cons.take k) := ⟨_, rfl⟩
        have lX2 : X2.length ≤ 7000 := by
          have := consT_len (m.cons.take k) (fun c hc => Hm.out.con c (List.mem_of_mem_take hc))
          rw [List.length_take] at this
          rw [hX2, List.length_append]; omega
        rw [← hX2]
        have HX2 := hid hX2; clear hX2
        by_cases hkl : k < m.cons.length
        · obtain ⟨c, hx⟩ := get_some hkl
          obtain ⟨ao', cap', e, _, hcs⟩ := Hc.out
          cases e
          obtain ⟨b, o, vv, av, rv, rfl, -, ⟨h0, h1, h2, h3, h4⟩, hvv, hav, hrv⟩ := (hcs.gr hgt) k c hx
          have hcon : ConV [] wr (.agg #[.int .i64 c.kind, vv, av, .int .i64 c.bound, rv]) c := ⟨vv, av, rv, rfl, hvv, hav, hrv⟩
          have hco := con_ok (Hm.out.con c (List.mem_of_getElem? hx))
          have hts : consT (m.cons.take (k + 1)) = consT (m.cons.take k) ++ (conT c ++ [10]) := by rw [List.take_add_one, hx]; exact consT_snoc _ _
          obtain ⟨Y, hY⟩ : ∃ Y, Y = conT c := ⟨_, rfl⟩
          have lY : Y.length ≤ 1000 := by rw [hY]; exact conT_len hco
          have Hcv := hid hcon; have Hco := hid hco; have HY := hid hY; have Hts := hid hts
          clear hcon hco hY hts hx hcs hvv hav hrv
          have cc1 : ¬ 9223372036854775807 < X2.length + Y.length := by omega
          have cc2 : ¬ 9223372036854775807 < X2.length + Y.length + 1 := by omega
          have cc3 : ¬ 9223372036854775807 < X2.length + (Y.length + 1) := by omega
          go_wp2_with (go_at_call 66; (with_reducible refine (formatConstraint_c c _ _ Hcv.out Hco.out).mono ?_); rw [← HY.out]; rintro e w1 ⟨rfl, hg1⟩)
          refine ⟨⟨k + 1, by omega, by go_num, ?_, hgq.trans hg1⟩, by simp [intOf]; omega⟩
          rw [Hts.out, HX2.out, ← HY.out]
          simp
        · go_wp2_with fail
          go_ret
          refine ⟨?_, Hg0.out.trans hgt⟩
          have hkn : k = m.cons.length := by omega
          have e := HX2.out
          rw [hkn, List.take_length, HX.out, ← encM_eq] at e
          rw [← e]; rfl
theorem specEncodeModel_c (m : Mod) (v : Value) (w : World) (hv : ModV [] w v m) (hs : m.Small) :
    Calls Tryz.prog 13 #[v] w fun e w' => e = .returned (.string ⟨(if validM m then encM m else []).toArray⟩) ∧ Gr [] w w' := by
  obtain ⟨dv, cv, rfl, hd, hc⟩ := id hv
  obtain ⟨w0, hw0⟩ : ∃ w0, w0 = w.alloc (.cells #[dv, cv] 27) := ⟨_, rfl⟩
  have hg0 : Gr [] w w0 := by rw [hw0]; exact (Gr.refl _ _).alloc _
  have hb0 : w0.heap[w.heap.size]? = some (.cells #[dv, cv] 27 (0, 0)) := by rw [hw0]; exact heap_alloc_new _ _
  have Hv := hid (hv.gr hg0); have Hb0 := hid hb0; have Hg0 := hid hg0
  clear hd hc hv
  have HE : Hid (∀ W, Gr [] w0 W → ∀ i, W.cell? ⟨w.heap.size, i, none⟩ = #[dv, cv][i]?) := hid fun W h => fld (h.obj Hb0.out (by simp))
  cases hvm : validM m
  · have Hvm := hid hvm
    have hfl0 := fld hb0
    go_enter Tryz.func13, Tryz.ntmps13
    go_wp2_with (go_at_call 29; rw [← hw0]; (with_reducible refine (specValidModel_c m _ _ Hv.out hs).mono ?_); rw [Hvm.out]; rintro e w1 ⟨rfl, hg1⟩; have hfl1 := HE.out w1 hg1)
    go_ret
    exact ⟨rfl, Hg0.out.trans hg1⟩
  · have Hvm := hid hvm
    have hfl0 := fld hb0
    go_enter Tryz.func13, Tryz.ntmps13
    go_wp2_with (first
      | (go_at_call 29; rw [← hw0]; (with_reducible refine (specValidModel_c m _ _ Hv.out hs).mono ?_); rw [Hvm.out]; rintro e w1 ⟨rfl, hg1⟩; have hfl1 := HE.out w1 hg1)
      | (go_at_call 30; (with_reducible refine (formatModel_c m _ _ (Hv.out.gr hg1) (mod_ok Hvm.out)).mono ?_); rintro e w2 ⟨rfl, hg2⟩))
    go_ret
    exact ⟨rfl, (Hg0.out.trans hg1).trans hg2⟩
end Go.Proofs.YtmonhpoogfdpoaaGreatDoor
