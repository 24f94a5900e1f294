/-
  Walk of FnCountSplit (under work).
-/
import Derived.Test.YthjmdcilfbgidaaLPS
import Derived.Test.YthjmdcilfbgidaaG11
import Derived.Test.YthjmdcilfbgidaaSpl
set_option linter.unusedVariables false
namespace Go.Proofs.Ythjmdcilfbgidaa
open Go.RowKit

set_option maxRecDepth 100000 in
set_option maxHeartbeats 4000000 in
theorem FnCountSplit_c (code : Value) (bs : List Int) (ao : Option Addr) (cap : Nat) (bo : Option Addr) (ml mc : Nat) (w : World) (hv : code = .slice ao bs.length cap) (hlen : bs.length ≤ 9223372036854775807) (hcap : bs.length ≤ cap) (hc : Cells [] w .u8 ao bs) (hb : ∀ b ∈ bs, 0 ≤ b ∧ b ≤ 255) (hml : ml ≤ 9223372036854775807) :
    Calls Try.prog 9 #[code, .slice bo ml mc] w (fun e w' => e = .returned (.bool true) ∧ Gr [] w w') := by
  subst hv
  have Hc := hid hc; have Hb := hid hb; clear hc hb
  by_cases hbig : 1048576 < bs.length
  · go_enter Try.func9, Try.ntmps9
    go_wp2_with fail
    go_ret
    exact ⟨rfl, Gr.refl _ _⟩
  have hbig' : decide ((1048576 : Int) < (bs.length : Int)) = false := by simp; omega
  by_cases hbig2 : 1048576 < ml
  · go_enter Try.func9, Try.ntmps9
    go_wp2_with fail
    go_ret
    exact ⟨rfl, Gr.refl _ _⟩
  have hbig2' : decide ((1048576 : Int) < (ml : Int)) = false := by simp; omega
  go_enter Try.func9, Try.ntmps9
  go_wp2_with fail
  have hcall := DrawCountSolutions_c _ bs w ao cap rfl hlen hcap Hc.out Hb.out
  (with_reducible refine hcall.mono ?_)
  clear hcall
  rintro e w1 ⟨m, mv, rfl, hmv, hms, hg1⟩
  obtain ⟨dv, cv, rfl, hdv, hcv⟩ := hmv
  have hmv : ModV [] w1 (.agg #[dv, cv]) m := ⟨dv, cv, rfl, hdv, hcv⟩
  obtain ⟨xo, xc, rfl, ⟨hx1, hx2, _⟩, _⟩ := hdv
  obtain ⟨co, cc, rfl, _, _⟩ := hcv
  have ha2 : Gr [] w1 (w1.alloc (.cells #[.slice xo m.doms.length xc, .slice co m.cons.length cc] 26)) := (Gr.refl _ _).alloc _
  have hb2 : (w1.alloc (.cells #[.slice xo m.doms.length xc, .slice co m.cons.length cc] 26)).heap[w1.heap.size]? = some (.cells #[.slice xo m.doms.length xc, .slice co m.cons.length cc] 26 (0, 0)) := heap_alloc_new _ _
  have HG2 := hid (hg1.trans ha2); have Hmv2 := hid (hmv.gr ha2); have Hms := hid hms; have Hb2 := hid hb2
  clear hmv hms ha2 hb2 hg1 hbig hbig2
  obtain ⟨D, hD⟩ : ∃ D, validM m = true → VM m D := by
    by_cases h : validM m = true
    · obtain ⟨D, h⟩ := validM_open h; exact ⟨D, fun _ => h⟩
    · exact ⟨[], fun h' => absurd h' h⟩
  have HD := hid hD; clear hD
  go_wp2_with fail
  have hcall := CountSolutions_c m _ _ Hmv2.out D HD.out
  (with_reducible refine hcall.mono ?_)
  clear hcall
  rintro e w3 ⟨rfl, hg3⟩
  have fl3 := fld (hg3.obj Hb2.out (by simp))
  have HG3 := hid hg3; clear hg3
  go_wp2_with fail
  have hcall := specCountSolutions_c m _ _ (Hmv2.out.gr HG3.out) Hms.out D HD.out
  (with_reducible refine hcall.mono ?_)
  clear hcall
  rintro e w4 ⟨rfl, hg4⟩
  have HG4 := hid (HG3.out.trans hg4)
  have fl4 := fld (HG4.out.obj Hb2.out (by simp))
  clear hg4 fl3
  cases hval : validM m
  · have hcnt : countI m D = -1 := by unfold countI; rw [hval]; rfl
    have Hcnt := hid hcnt
    rw [hcnt]
    clear hcnt hval
    go_wp2_with fail
    have hcall := specCountSolutions_c m _ _ (Hmv2.out.gr HG4.out) Hms.out D HD.out
    (with_reducible refine hcall.mono ?_)
    clear hcall
    rw [Hcnt.out]
    rintro e w5 ⟨rfl, hg5⟩
    go_wp2_with fail
    go_ret
    exact ⟨rfl, (HG2.out.trans HG4.out).trans hg5⟩
  · have hVM := HD.out hval
    have HVM := hid hVM
    have hcnt : countI m D = ((sols m.cons D).length : Int) := by unfold countI; rw [hval]; rfl
    rw [hcnt]
    obtain ⟨N, hN⟩ : ∃ N, N = (sols m.cons D).length := ⟨_, rfl⟩
    rw [← hN]
    have HN := hid hN; have Hval := hid hval
    have hdl : m.doms.length = D.length := by rw [hVM.doms, ints_len]
    have HDL := hid hdl
    have hd1 : 1 ≤ m.doms.length := by have := hVM.len; omega
    have hd4 : m.doms.length ≤ 4 := by have := hVM.len; omega
    clear hcnt hval hVM hN hdl
    have hN0 : decide ((N : Int) < 0) = false := decide_eq_false (by omega)
    go_wp2_with fail
    have e : ((ml : Int) % (m.doms.length : Int)) = ((ml % m.doms.length : Nat) : Int) := by simp
    rw [e]
    clear e
    obtain ⟨i, hi⟩ : ∃ i, i = ml % m.doms.length := ⟨_, rfl⟩
    rw [← hi]
    have hil : i < m.doms.length := by rw [hi]; exact Nat.mod_lt _ (by omega)
    obtain ⟨d, hd⟩ := get_some (xs := D) (k := i) (by have := HDL.out; omega)
    have hd64 := HVM.out.below d (List.mem_of_getElem? hd)
    have hdx : m.doms[i]? = some (d : Int) := by rw [HVM.out.doms, ints_get, hd]; rfl
    have Hd := hid hd; have Hdx := hid hdx
    have Hm4 := hid (Hmv2.out.gr HG4.out)
    have Hb4 := hid (HG4.out.obj Hb2.out (by simp))
    clear hi hd hdx
    go_loopw [8, 9] (fun sv v wr => ∃ k s : Nat, k ≤ 6 ∧ v = .int .i64 k ∧ sv = .int .i64 s ∧ s = ((valsBelow d k).map fun u => (sols m.cons (D.set i (2 ^ u.toNat))).length).sum ∧ s ≤ 1296 * k ∧ Gr [] w4 wr) (fun _ v _ => 6 - (intOf v).toNat)
    case atStart => exact ⟨0, 0, by omega, rfl, rfl, by simp [valsBelow], by omega, Gr.refl _ _⟩
    case round =>
      obtain ⟨k, s, hk, rfl, rfl, hs, hsb, hg⟩ := hrel
      have flr := fld (hg.obj Hb4.out (by simp))
      have hltm := lt_of_block (hg.obj Hb4.out (by simp))
      have Hs := hid hs; have Hg := hid hg
      clear hs hg
      have Hsucc := hid (valsBelow_succ d k)
      by_cases hlt : k < 6
      · have hk5 : k ≤ 5 := by omega
        obtain ⟨b, o, e1, _, hcell⟩ := (Hm4.out.gr Hg.out).parts.1.at Hdx.out
        subst e1
        have Hcell := hid hcell
        cases hb : d.testBit k
        · have Hb' := hid hb; clear hb
          go_wp2_with fail
          have hcall := DomainHas_c d k hd64 hlt wr
          (with_reducible refine hcall.mono ?_)
          clear hcall
          rw [Hb'.out]
          rintro e w' ⟨rfl, rfl⟩
          go_wp2_with fail
          refine ⟨⟨k + 1, s, by omega, by go_num, rfl, ?_, by omega, Hg.out⟩, by simp [intOf]; omega⟩
          rw [Hsucc.out, Hb'.out, Hs.out]; simp
        · have Hb' := hid hb; clear hb
          go_wp2_with fail
          have hcall := DomainHas_c d k hd64 hlt wr
          (with_reducible refine hcall.mono ?_)
          clear hcall
          rw [Hb'.out]
          rintro e w' ⟨rfl, rfl⟩
          have hns : Nums [] (w'.alloc (.cells #[] 3)) .i64 (.slice (some ⟨b, o, none⟩) m.doms.length xc) m.doms := (Hm4.out.gr Hg.out).parts.1.gr ((Gr.refl _ _).alloc _)
          have Hns := hid hns
          clear hns hcell
          go_wp2_with (at_builtin; refine wp_appN rfl _ _ 23 rfl w'.heap.size 3 infoInt Try.underlying23 _ [] m.doms rfl (Own.empty _ _ (Nat.le_refl _)) _ [] rfl Hns.out (by simp; omega) (by simp) ?_; intro v' w5 hown5 hb5; rw [List.nil_append] at hown5; have Hown5 := hid hown5; have Hb5 := hid hb5; obtain ⟨g, gc, rfl, ⟨hgB, hglt⟩, -, -⟩ := hown5.open (by omega); obtain ⟨hcg1, hcg2⟩ := hown5.at Hdx.out; have hg5 : Gr [] w' w5 := (((Gr.refl [] w').alloc (.cells #[] 3)).low hb5 (Nat.le_refl _)); have fl5 := fld (hg5.obj (Hg.out.obj Hb4.out (by simp)) (by simp)); have hlt5 := lt_of_block (hg5.obj (Hg.out.obj Hb4.out (by simp)) (by simp)); have fl6 := fld ((Gr.cell1 [g] w5 ⟨g, i, none⟩ (.int .i64 (wrap64 (2 ^ k))) (by simp)).obj (hg5.obj (Hg.out.obj Hb4.out (by simp)) (by simp)) (by simp; omega)); clear hown5 hb5)
          have Hg5 := hid hg5
          have hpw : wrap64 (2 ^ k) = ((2 ^ k : Nat) : Int) := by
            have h := pow_shl k hlt
            rw [Int.one_mul] at h
            rw [← IntWalk.i64_left]; exact h
          have Hpw := hid hpw
          have hset := Hown5.out.set i (wrap64 (2 ^ k)) hil
          have hg6 : Gr [] w' (w5.setCell ⟨g, i, none⟩ (.int .i64 (wrap64 (2 ^ k)))) := hg5.setCell _ _ (.inr hgB)
          have hds : m.doms.set i (wrap64 (2 ^ k)) = ints (D.set i (2 ^ k)) := by rw [HVM.out.doms, Hpw.out, ints_set]
          have HX : Hid (ModV [] (w5.setCell ⟨g, i, none⟩ (.int .i64 (wrap64 (2 ^ k)))) (.agg #[.slice (some ⟨g, 0, none⟩) m.doms.length gc, .slice co m.cons.length cc]) ⟨ints (D.set i (2 ^ k)), m.cons⟩) :=
            hid ⟨_, _, rfl, hds ▸ hset.nums (by simp), ((Hm4.out.gr Hg.out).parts.2).gr hg6⟩
          have hVX : VM ⟨ints (D.set i (2 ^ k)), m.cons⟩ (D.set i (2 ^ k)) := ⟨rfl, by rw [List.length_set]; exact HVM.out.len, (set_sub Hd.out Hb'.out).below HVM.out.below, by rw [List.length_set]; exact HVM.out.cons, HVM.out.many⟩
          have HVX := hid hVX
          have hcx : countI ⟨ints (D.set i (2 ^ k)), m.cons⟩ (D.set i (2 ^ k)) = ((sols m.cons (D.set i (2 ^ k))).length : Int) := by unfold countI; rw [hVX.valid]; rfl
          have Hcx := hid hcx
          have hcl := sols_length m.cons (D.set i (2 ^ k)) (by rw [List.length_set]; exact HVM.out.len.2)
          have Hg6 := hid hg6
          clear hpw hset hg6 hds hVX hcx hg5
          go_wp2_with fail
          have hcall := CountSolutions_c _ _ _ HX.out (D.set i (2 ^ k)) (fun _ => HVX.out)
          (with_reducible refine hcall.mono ?_)
          clear hcall
          rw [Hcx.out]
          rintro e w7 ⟨rfl, hg7⟩
          have hsum : ((valsBelow d (k + 1)).map fun u => (sols m.cons (D.set i (2 ^ u.toNat))).length).sum = s + (sols m.cons (D.set i (2 ^ k))).length := by
            rw [Hsucc.out, Hb'.out, Hs.out]; simp
          have Hsum := hid hsum
          obtain ⟨c, hc⟩ : ∃ c, c = (sols m.cons (D.set i (2 ^ k))).length := ⟨_, rfl⟩
          rw [← hc] at hcl Hsum ⊢
          clear hc hsum
          go_wp2_with fail
          exact ⟨⟨k + 1, s + c, by omega, by go_num, by go_num, Hsum.out.symm, by omega, (Hg.out.trans Hg6.out).trans hg7⟩, by simp [intOf]; omega⟩
      · have hk6 : k = 6 := by omega
        subst hk6
        have hfin : s = N := by rw [Hs.out, HN.out, sols_count_split m.cons D i d Hd.out]; rfl
        subst hfin
        go_wp2_with fail
        go_ret
        exact ⟨ret_bool (by simp), (HG2.out.trans HG4.out).trans Hg.out⟩
end Go.Proofs.Ythjmdcilfbgidaa
