/-
  Walk of FnVariableSymmetry.
-/
import Derived.Test.YtjmjjdgbkibdaaaGreatLPS
import Derived.Test.YtjmjjdgbkibdaaaGreatG13
import Derived.Test.YtjmjjdgbkibdaaaGreatSy4
import Derived.Test.YtjmjjdgbkibdaaaGreatSl
import Derived.Test.YtjmjjdgbkibdaaaGreatIsB
import Derived.Test.YtjmjjdgbkibdaaaGreatRpP
import Derived.Test.YtjmjjdgbkibdaaaGreatOrP
set_option linter.unusedVariables false
set_option linter.unusedSimpArgs false
namespace Go.Proofs.YtjmjjdgbkibdaaaGreat
open Go.RowKit


set_option maxRecDepth 100000 in
set_option maxHeartbeats 4000000 in
theorem FnVariableSymmetry_c (code : Value) (bs : List Int) (ao : Option Addr) (cap : Nat) (w : World) (hv : code = .slice ao bs.length cap) (hlen : bs.length ≤ 9223372036854775807) (hcap : bs.length ≤ cap) (hc : Cells [] w .u8 ao bs) (hb : ∀ b ∈ bs, 0 ≤ b ∧ b ≤ 255) :
    Calls Tryz.prog 16 #[code] w (fun e w' => e = .returned (.bool true) ∧ Gr [] w w') := by
  subst hv
  have Hc := hid hc; have Hb := hid hb; clear hc hb
  by_cases hbig : 1048576 < bs.length
  · go_enter Tryz.func16, Tryz.ntmps16
    go_wp2_with fail
    go_ret
    exact ⟨rfl, Gr.refl _ _⟩
  have hbig' : decide ((1048576 : Int) < (bs.length : Int)) = false := by simp; omega
  go_enter Tryz.func16, Tryz.ntmps16
  go_wp2_with fail
  have hcall := DrawIsVariableSymmetry_c _ bs w ao cap rfl hlen hcap Hc.out Hb.out
  (with_reducible refine hcall.mono ?_)
  clear hcall
  rintro e w1 ⟨m, mv, I, J, rfl, hmv, hms, hI, hJ, hg1⟩
  obtain ⟨xo, xc, co, cc, rfl⟩ := hmv.slices
  have ha2 : Gr [] w1 (w1.alloc (.cells #[.slice xo m.doms.length xc, .slice co m.cons.length cc] 31)) := (Gr.refl _ _).alloc _
  have hb2 : (w1.alloc (.cells #[.slice xo m.doms.length xc, .slice co m.cons.length cc] 31)).heap[w1.heap.size]? = some (.cells #[.slice xo m.doms.length xc, .slice co m.cons.length cc] 31 (0, 0)) := heap_alloc_new _ _
  have HG2 := hid (hg1.trans ha2); have Hmv2 := hid (hmv.gr ha2); have Hms := hid hms; have Hb2 := hid hb2
  clear hmv hms ha2 hb2 hg1 hbig
  obtain ⟨D, hD⟩ := openVM m
  have HD := hid hD; clear hD
  go_wp2_with fail
  have hcall := IsVariableSymmetry_c m I J _ _ Hmv2.out D HD.out
  (with_reducible refine hcall.mono ?_)
  clear hcall
  obtain ⟨ok, hok⟩ : ∃ ok, ok = symB m D I J := ⟨_, rfl⟩
  rw [← hok]
  have Hok := hid hok; clear hok
  rintro e w3 ⟨rfl, hg3⟩
  have fl3 := fld (hg3.obj Hb2.out (by simp))
  have HG3 := hid hg3; clear hg3
  go_wp2_with fail
  have hcall := specIsVariableSymmetry_c m I J _ _ (Hmv2.out.gr HG3.out) Hms.out D HD.out
  (with_reducible refine hcall.mono ?_)
  clear hcall
  rw [← Hok.out]
  rintro e w4 ⟨rfl, hg4⟩
  have HG4 := hid (HG3.out.trans hg4)
  have fl4 := fld (HG4.out.obj Hb2.out (by simp))
  have hne : (ok != ok) = false := by cases ok <;> rfl
  have heq : (ok == ok) = true := by cases ok <;> rfl
  clear hg4 fl3
  go_wp2_with fail
  have hcall := ValidModel_c m _ _ (Hmv2.out.gr HG4.out)
  (with_reducible refine hcall.mono ?_)
  clear hcall
  rintro e w5 ⟨rfl, hg5⟩
  have HG5 := hid (HG4.out.trans hg5)
  have fl5 := fld (HG5.out.obj Hb2.out (by simp))
  clear hg5 fl4
  cases hval : validM m
  · clear hval
    go_wp2_with fail
    have hcall := specIsVariableSymmetry_c m I J _ _ (Hmv2.out.gr HG5.out) Hms.out D HD.out
    (with_reducible refine hcall.mono ?_)
    clear hcall
    rw [← Hok.out]
    rintro e w6 ⟨rfl, hg6⟩
    go_wp2_with fail
    go_ret
    exact ⟨ret_bool (by cases ok <;> rfl), (HG2.out.trans HG5.out).trans hg6⟩
  have Hval := hid hval
  clear hval
  by_cases hI0 : I < 0
  · have hI0' : decide (I < 0) = true := decide_eq_true hI0
    go_wp2_with fail
    have hcall := specIsVariableSymmetry_c m I J _ _ (Hmv2.out.gr HG5.out) Hms.out D HD.out
    (with_reducible refine hcall.mono ?_)
    clear hcall
    rw [← Hok.out]
    rintro e w6 ⟨rfl, hg6⟩
    go_wp2_with fail
    go_ret
    exact ⟨ret_bool (by cases ok <;> rfl), (HG2.out.trans HG5.out).trans hg6⟩
  have hI0' : decide (I < 0) = false := decide_eq_false hI0
  by_cases hIn : (m.doms.length : Int) ≤ I
  · have hIn' : decide ((m.doms.length : Int) ≤ I) = true := decide_eq_true hIn
    go_wp2_with fail
    have hcall := specIsVariableSymmetry_c m I J _ _ (Hmv2.out.gr HG5.out) Hms.out D HD.out
    (with_reducible refine hcall.mono ?_)
    clear hcall
    rw [← Hok.out]
    rintro e w6 ⟨rfl, hg6⟩
    go_wp2_with fail
    go_ret
    exact ⟨ret_bool (by cases ok <;> rfl), (HG2.out.trans HG5.out).trans hg6⟩
  have hIn' : decide ((m.doms.length : Int) ≤ I) = false := decide_eq_false hIn
  have hJ0' : decide (J < 0) = false := decide_eq_false (by omega)
  by_cases hJn : (m.doms.length : Int) ≤ J
  · have hJn' : decide ((m.doms.length : Int) ≤ J) = true := decide_eq_true hJn
    go_wp2_with fail
    have hcall := specIsVariableSymmetry_c m I J _ _ (Hmv2.out.gr HG5.out) Hms.out D HD.out
    (with_reducible refine hcall.mono ?_)
    clear hcall
    rw [← Hok.out]
    rintro e w6 ⟨rfl, hg6⟩
    go_wp2_with fail
    go_ret
    exact ⟨ret_bool (by cases ok <;> rfl), (HG2.out.trans HG5.out).trans hg6⟩
  have hJn' : decide ((m.doms.length : Int) ≤ J) = false := decide_eq_false hJn
  obtain ⟨i, rfl⟩ := Int.eq_ofNat_of_zero_le (show 0 ≤ I by omega)
  obtain ⟨j, rfl⟩ := Int.eq_ofNat_of_zero_le (show 0 ≤ J by omega)
  have hin : i < m.doms.length := by omega
  have hjn : j < m.doms.length := by omega
  go_wp2_with fail
  have hcall := SolveAll_c m 20 _ _ (Hmv2.out.gr HG5.out) D HD.out
  (with_reducible refine hcall.mono ?_)
  clear hcall
  rintro e w6 ⟨v6, rfl, hr6, hg6⟩
  obtain ⟨zs, hzs⟩ : ∃ zs, zs = allO m 20 D := ⟨_, rfl⟩
  rw [← hzs] at hr6
  have Hzm : Hid (∀ x ∈ zs, x ∈ sols m.cons D) := hid (by rw [hzs]; unfold allO; split; exact fun x hx => List.mem_of_mem_take hx; simp)
  have HVM := hid (HD.out Hval.out)
  have HDL : Hid (m.doms.length = D.length) := hid (by rw [HVM.out.doms, ints_len])
  have Hr6 := hid hr6
  obtain ⟨ro, rc, rfl, ⟨hr1, hr2, -⟩, -⟩ := hr6
  have HG6 := hid (HG5.out.trans hg6)
  have Hb6 := hid (HG6.out.obj Hb2.out (by simp))
  have hM : m.doms.length ≤ 4 := by have := HVM.out.len.2; have := HDL.out; omega
  have Hpres : Hid (ok = presB m.cons D (swapL i j)) := hid (Hok.out.trans (symB_in Hval.out hin hjn))
  have Hji : Hid (symB m D j i = ok) := hid (by rw [symB_in Hval.out hjn hin, Hpres.out]; exact presB_comm (by have := HDL.out; omega) (by have := HDL.out; omega))
  have Hii : Hid (symB m D i i = true) := hid (by rw [symB_in Hval.out hin hin]; unfold presB; rw [List.all_eq_true]; intro x hx; rw [swapL_self]; exact decide_eq_true hx)
  clear hzs hg6 fl5 hI0 hI0' hIn hIn' hJ0' hJn hJn' hI hJ
  go_wp2_with fail
  go_loopw [8] (fun i' wr => ∃ n : Nat, n ≤ zs.length ∧ i' = .int .i64 n ∧ Gr [] w6 wr) (fun i' _ => zs.length - (intOf i').toNat)
  case atStart => exact ⟨0, Nat.zero_le _, rfl, Gr.refl _ _⟩
  case round =>
    obtain ⟨n, hn, rfl, hg⟩ := hrel
    have flr := fld (hg.obj Hb6.out (by simp))
    have Hg := hid hg
    by_cases hlt : n < zs.length
    · obtain ⟨x, hx⟩ := get_some hlt
      have hxs := Hzm.out x (List.mem_of_getElem? hx)
      have hxl : x.length = m.doms.length := by rw [tups_len (mem_sols.1 hxs).1]; exact HDL.out.symm
      obtain ⟨b, o, u, e1, hc0, hn0⟩ := (Hr6.out.gr hg).at0 hx
      subst e1
      obtain ⟨xo', xc', rfl, ⟨hx1, hx2, -⟩, -⟩ := id hn0
      obtain ⟨xi, hxi⟩ := get_some (xs := x) (k := i) (by omega)
      obtain ⟨xj, hxj⟩ := get_some (xs := x) (k := j) (by omega)
      obtain ⟨b1, o1, e2, -, hci⟩ := hn0.at hxi
      subst e2
      obtain ⟨b2, o2, e3, -, hcj⟩ := hn0.at hxj
      obtain ⟨rfl, rfl⟩ : b1 = b2 ∧ o1 = o2 := by simpa using e3
      have Hx := hid hx; have Hxs := hid hxs; have Hxl := hid hxl; have Hxi := hid hxi; have Hxj := hid hxj
      have Hc0 := hid hc0; have Hci := hid hci; have Hcj := hid hcj
      have hns : Nums [] (wr.alloc (.cells #[] 3)) .i64 (.slice (some ⟨b1, o1, none⟩) x.length xc') x := hn0.gr ((Gr.refl _ _).alloc _)
      have Hns := hid hns
      have hil : i < x.length := by omega
      have hjl : j < x.length := by omega
      have hx4 : x.length ≤ 4 := by omega
      have hlb := lt_of_block (hg.obj Hb6.out (by simp))
      have Hbr := hid (hg.obj Hb6.out (by simp))
      have hca : (wr.alloc (.cells #[] 3)).cell? ⟨b, o + n, none⟩ = some (.slice (some ⟨b1, o1, none⟩) x.length xc') := ((Gr.refl [] wr).alloc _).cell hc0 (by simp)
      clear hx hxs hxl hxi hxj hns hn0 hg e3 hci hcj
      cases ok
      all_goals go_wp2_with (at_builtin; refine wp_appN rfl _ _ 22 rfl wr.heap.size 3 infoInt Tryz.underlying22 _ [] x rfl (Own.empty _ _ (Nat.le_refl _)) _ [] rfl Hns.out (by simp; omega) (by simp) ?_; intro v' w7 hown7 hb7; rw [List.nil_append] at hown7; have Hown7 := hid hown7; obtain ⟨g, gc, rfl, ⟨hgB, hglt⟩, -, -⟩ := hown7.open (by omega); have hg7 : Gr [] wr w7 := (((Gr.refl [] wr).alloc (.cells #[] 3)).low hb7 (Nat.le_refl _)); have Hg7 := hid hg7; obtain ⟨hcg1, hcg2⟩ := hown7.at Hxi.out; obtain ⟨hcg3, hcg4⟩ := hown7.at Hxj.out; have fl7 := fld (hg7.obj Hbr.out (by simp)); have d0 := hg7.cell Hc0.out (by simp); have d1 := hg7.cell Hci.out (by simp); have d2 := hg7.cell Hcj.out (by simp); have hgs : Gr [g] wr (w7.setCell ⟨g, i, none⟩ (.int .i64 xj)) := (Gr.any hg7).trans (Gr.cell1 _ _ _ _ (by simp)); have d3 := hgs.cell Hc0.out (by have := World.block_lt_of_cell? _ _ Hc0.out; simp at this ⊢; omega); have d4 := hgs.cell Hci.out (by have := World.block_lt_of_cell? _ _ Hci.out; simp at this ⊢; omega); have hown8 := hown7.set i xj hil; have hj8 : j < (x.set i xj).length := (by rw [List.length_set]; exact hjl); obtain ⟨y8, hy8⟩ := get_some hj8; obtain ⟨hcg5, hcg6⟩ := hown8.at hy8; have Hown8 := hid hown8; clear hown7 hown8 hb7 hy8 hj8 hgs hg7)
      all_goals
        have hown9 := Hown8.out.set j xi (by rw [List.length_set]; exact hjl)
        have hg9 : Hid (Gr [] wr ((w7.setCell ⟨g, i, none⟩ (.int .i64 xj)).setCell ⟨g, j, none⟩ (.int .i64 xi))) := hid (((((Hg7.out.any (S := [g])).trans (Gr.cell1 _ _ _ _ (by simp))).trans (Gr.cell1 _ _ _ _ (by simp)))).new (by simp; omega))
        have HO9 := hid hown9
        clear hown9
      · exact ⟨⟨n + 1, by omega, by go_num, Hg.out.trans hg9.out⟩, by simp [intOf]; omega⟩
      · have hsol := presB_iff.1 Hpres.out.symm x Hxs.out
        have hsw : (x.set i xj).set j xi = swapL i j x := by
          unfold swapL
          rw [getD_here Hxi.out, getD_here Hxj.out]
        have hn9 := HO9.out.nums (S := []) (by simp)
        rw [hsw] at hn9
        have hlen : (x.set i xj).length = x.length := List.length_set
        have hHn := hid hn9; have Hsol := hid hsol
        clear hsol hsw hn9 hlen
        have hcall := IsSolution_b m D (swapL i j x) _ _ _ (Hmv2.out.gr ((HG6.out.trans Hg.out).trans hg9.out)) HVM.out hHn.out
        (with_reducible refine hcall.mono ?_)
        clear hcall
        rw [show isB m.cons D (swapL i j x) = true from decide_eq_true Hsol.out]
        rintro e w10 ⟨rfl, hg10⟩
        go_wp2_with fail
        exact ⟨⟨n + 1, by omega, by go_num, (Hg.out.trans hg9.out).trans hg10⟩, by simp [intOf]; omega⟩
    · have hnz : n = zs.length := by omega
      clear hg
      go_wp2_with fail
      have hcall := IsVariableSymmetry_c m j i _ _ (Hmv2.out.gr (HG6.out.trans Hg.out)) D HD.out
      (with_reducible refine hcall.mono ?_)
      clear hcall
      rw [Hji.out]
      rintro e w7 ⟨rfl, hg7⟩
      have HG7 := hid ((HG6.out.trans Hg.out).trans hg7)
      have fl7 := fld (HG7.out.obj Hb2.out (by simp))
      clear hg7 flr
      go_wp2_with fail
      have hcall := IsVariableSymmetry_c m i i _ _ (Hmv2.out.gr HG7.out) D HD.out
      (with_reducible refine hcall.mono ?_)
      clear hcall
      rw [Hii.out]
      rintro e w8 ⟨rfl, hg8⟩
      go_wp2_with fail
      go_ret
      exact ⟨rfl, (HG2.out.trans HG7.out).trans hg8⟩

end Go.Proofs.YtjmjjdgbkibdaaaGreat
