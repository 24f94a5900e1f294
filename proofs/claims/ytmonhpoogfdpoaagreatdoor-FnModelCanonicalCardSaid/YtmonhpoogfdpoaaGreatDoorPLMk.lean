/-
  Walk of FnModelCanonical.
-/
import Derived.Test.YtmonhpoogfdpoaaGreatDoorPV7
import Derived.Test.YtmonhpoogfdpoaaGreatDoorPSt
import Derived.Test.YtmonhpoogfdpoaaGreatDoorPMr
set_option linter.unusedVariables false
set_option linter.unusedSimpArgs false
namespace Go.Proofs.YtmonhpoogfdpoaaGreatDoor
open Go.RowKit


set_option maxRecDepth 100000 in
set_option maxHeartbeats 4000000 in
theorem FnModelCanonical_c (code : Value) (bs : List Int) (ao : Option Addr) (cap : Nat) (w : World) (hv : code = .slice ao bs.length cap) (hlen : bs.length ≤ 9223372036854775807) (hcap : bs.length ≤ cap) (hc : Cells [] w .u8 ao bs) (hb : ∀ b ∈ bs, 0 ≤ b ∧ b ≤ 255) (hT : TabT w) :
    Calls Tryz.prog 3 #[code] w (fun e w' => e = .returned (.bool true) ∧ Gr [] w w') := by
  subst hv
  have Hc := hid hc; have Hb := hid hb; have HT := hid hT; clear hc hb hT
  by_cases hbig : 1048576 < bs.length
  · go_enter Tryz.func3, Tryz.ntmps3
    go_wp2_with fail
    go_ret
    exact ⟨rfl, Gr.refl _ _⟩
  have hbig' : decide ((1048576 : Int) < (bs.length : Int)) = false := by simp; omega
  go_enter Tryz.func3, Tryz.ntmps3
  go_wp2_with fail
  have hcall := DrawDecodeModel_c _ bs w ao cap rfl hlen hcap Hc.out Hb.out
  (with_reducible refine hcall.mono ?_)
  clear hcall
  rintro e w1 ⟨⟨s, rfl, hsl⟩, hg1⟩
  have Hg1 := hid hg1
  clear hg1 hbig
  obtain ⟨o, ho⟩ : ∃ o, o = decS s := ⟨_, rfl⟩
  have Ho := hid ho
  clear ho
  go_wp2_with fail
  have hcall := DecodeModel_c s w1 (by omega) (HT.out.gr Hg1.out)
  (with_reducible refine hcall.mono ?_)
  clear hcall
  rw [dec_eq, ← Ho.out]
  rintro e w2 ⟨yo, yc, zo, zc, m, rfl, hm, hm2, -, hg2⟩
  have Hm := hid hm
  have HM2 := hid (hm2.mod (S := []) (by simp))
  have Hg2 := hid (Hg1.out.trans hg2)
  clear hg2 hm2 hm
  have ha3 : Gr [] w2 (w2.alloc (.cells #[.slice yo m.doms.length yc, .slice zo m.cons.length zc] 27)) := (Gr.refl _ _).alloc _
  have hx3 := heap_alloc_new w2 (.cells #[.slice yo m.doms.length yc, .slice zo m.cons.length zc] 27)
  have Hx3 := hid hx3; have HM3 := hid (HM2.out.gr ha3); have Hg3 := hid (Hg2.out.trans ha3)
  clear hx3 ha3
  go_wp2_with fail
  generalize w2.alloc (.cells #[.slice yo m.doms.length yc, .slice zo m.cons.length zc] 27) = w3 at *
  have hcall := specDecodeModel_c s w3 (by omega)
  (with_reducible refine hcall.mono ?_)
  clear hcall
  rw [← Ho.out]
  rintro e w4 ⟨mv, rfl, hm4, hg4⟩
  rw [← Hm.out] at hm4
  obtain ⟨xo, xc, co, cc, rfl⟩ := (New.mod hm4).slices
  have ha5 : Gr [] w4 (w4.alloc (.cells #[.slice xo m.doms.length xc, .slice co m.cons.length cc] 27)) := (Gr.refl _ _).alloc _
  have hx5 := heap_alloc_new w4 (.cells #[.slice xo m.doms.length xc, .slice co m.cons.length cc] 27)
  have Hx5 := hid hx5; have HY5 := hid (ha5.obj (hg4.obj Hx3.out (by simp)) (by simp)); have HN5 := hid ((hm4.mod (S := []) (by simp)).gr ha5); have HM5 := hid (HM3.out.gr (hg4.trans ha5)); have Hg5 := hid (Hg3.out.trans (hg4.trans ha5))
  have fx5 := fld hx5; have fy5 := fld HY5.out
  clear hx5 ha5 hm4 hg4
  cases hob : o with
  | none =>
    have Hob := hid hob
    have hso : o.isSome = false := by rw [hob]; rfl
    subst hob
    go_wp2_with fail
    generalize w4.alloc (.cells #[.slice xo m.doms.length xc, .slice co m.cons.length cc] 27) = w5 at *
    have hcall := equalModels_t m _ _ w5 HM5.out HN5.out
    (with_reducible refine hcall.mono ?_)
    clear hcall
    rintro e w6 ⟨rfl, hg6⟩
    have Hg6 := hid (Hg5.out.trans hg6)
    have fx6 := fld (hg6.obj Hx5.out (by simp)); have fy6 := fld (hg6.obj HY5.out (by simp))
    have HM6 := hid (HM5.out.gr hg6); have HN6 := hid (HN5.out.gr hg6)
    clear fx5 fy5 hg6
    go_wp2_with fail
    have hcall := equalModels_t m _ _ w6 HM6.out HN6.out
    (with_reducible refine hcall.mono ?_)
    clear hcall
    rintro e w7 ⟨rfl, hg7⟩
    go_wp2_with fail
    go_ret
    exact ⟨rfl, Hg6.out.trans hg7⟩
  | some m0 =>
    have hm0 : m = m0 := by rw [Hm.out, hob]; rfl
    have hd := decI_some (s := s) (m := m0) (by rw [dec_eq, ← Ho.out, hob])
    have Hd := hid (hm0 ▸ hd)
    subst hob
    clear hm0 hd
    go_wp2_with fail
    generalize w4.alloc (.cells #[.slice xo m.doms.length xc, .slice co m.cons.length cc] 27) = w5 at *
    have hcall := equalModels_t m _ _ w5 HM5.out HN5.out
    (with_reducible refine hcall.mono ?_)
    clear hcall
    rintro e w6 ⟨rfl, hg6⟩
    have Hg6 := hid (Hg5.out.trans hg6)
    have fx6 := fld (hg6.obj Hx5.out (by simp)); have fy6 := fld (hg6.obj HY5.out (by simp))
    have HY6 := hid (hg6.obj HY5.out (by simp))
    have HM6 := hid (HM5.out.gr hg6)
    clear fx5 fy5 hg6
    go_wp2_with fail
    have hcall := EncodeModel_c m _ w6 HM6.out (HT.out.gr Hg6.out)
    (with_reducible refine hcall.mono ?_)
    clear hcall
    rw [if_pos Hd.out.1, Hd.out.2]
    rintro e w7 ⟨rfl, hg7⟩
    have Hg7 := hid (Hg6.out.trans hg7)
    have fy7 := fld (hg7.obj HY6.out (by simp))
    have HM7 := hid (HM6.out.gr hg7)
    clear fx6 fy6 hg7
    go_wp2_with fail
    have hcall := ValidModel_c m _ w7 HM7.out
    (with_reducible refine hcall.mono ?_)
    clear hcall
    rw [Hd.out.1]
    rintro e w8 ⟨rfl, hg8⟩
    go_wp2_with fail
    go_ret
    exact ⟨rfl, Hg7.out.trans hg8⟩

end Go.Proofs.YtmonhpoogfdpoaaGreatDoor
