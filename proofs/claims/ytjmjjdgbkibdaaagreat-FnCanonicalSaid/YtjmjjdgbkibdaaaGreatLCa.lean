/-
  Walk of FnCanonical.
-/
import Derived.Test.YtjmjjdgbkibdaaaGreatLPS
import Derived.Test.YtjmjjdgbkibdaaaGreatG13
import Derived.Test.YtjmjjdgbkibdaaaGreatCa
import Derived.Test.YtjmjjdgbkibdaaaGreatCaP
import Derived.Test.YtjmjjdgbkibdaaaGreatSl
set_option linter.unusedVariables false
set_option linter.unusedSimpArgs false
namespace Go.Proofs.YtjmjjdgbkibdaaaGreat
open Go.RowKit

theorem lexLess_s (xs ys : List Int) (vx vy : Value) (w : World) (hx : Nums [] w .i64 vx xs) (hy : Nums [] w .i64 vy ys) (hl : xs.length = ys.length) (hb : lexB xs ys = true) :
    Calls Tryz.prog 48 #[vx, vy] w fun e w' => e = .returned (.bool true) ∧ Gr [] w w' := by
  have h := lexLess_c xs ys vx vy w hx hy hl
  rwa [hb] at h

set_option maxRecDepth 100000 in
set_option maxHeartbeats 8000000 in
theorem FnCanonical_c (code : Value) (bs : List Int) (ao : Option Addr) (cap : Nat) (w : World) (hv : code = .slice ao bs.length cap) (hlen : bs.length ≤ 9223372036854775807) (hcap : bs.length ≤ cap) (hc : Cells [] w .u8 ao bs) (hb : ∀ b ∈ bs, 0 ≤ b ∧ b ≤ 255) :
    Calls Tryz.prog 15 #[code] w (fun e w' => e = .returned (.bool true) ∧ Gr [] w w') := by
  subst hv
  have Hc := hid hc; have Hb := hid hb; clear hc hb
  by_cases hbig : 1048576 < bs.length
  · go_enter Tryz.func15, Tryz.ntmps15
    go_wp2_with fail
    go_ret
    exact ⟨rfl, Gr.refl _ _⟩
  have hbig' : decide ((1048576 : Int) < (bs.length : Int)) = false := by simp; omega
  go_enter Tryz.func15, Tryz.ntmps15
  go_wp2_with fail
  have hcall := DrawCanonicalSolutions_c _ bs w ao cap rfl hlen hcap Hc.out Hb.out
  (with_reducible refine hcall.mono ?_)
  clear hcall
  rintro e w1 ⟨m, mv, rfl, hmv, hms, hg1⟩
  obtain ⟨xo, xc, co, cc, rfl⟩ := hmv.slices
  have ha2 : Gr [] w1 (w1.alloc (.cells #[.slice xo m.doms.length xc, .slice co m.cons.length cc] 31)) := (Gr.refl _ _).alloc _
  have hb2 : (w1.alloc (.cells #[.slice xo m.doms.length xc, .slice co m.cons.length cc] 31)).heap[w1.heap.size]? = some (.cells #[.slice xo m.doms.length xc, .slice co m.cons.length cc] 31 (0, 0)) := heap_alloc_new _ _
  have HG2 := hid (hg1.trans ha2); have Hmv2 := hid (hmv.gr ha2); have Hms := hid hms; have Hb2 := hid hb2
  clear hmv hms ha2 hb2 hg1 hbig
  obtain ⟨D, hD⟩ := openVM m
  have HD := hid hD; clear hD
  go_wp2_with fail
  have hcall := CanonicalSolutions_c m _ _ Hmv2.out D HD.out
  (with_reducible refine hcall.mono ?_)
  clear hcall
  obtain ⟨zs, hzs⟩ : ∃ zs, zs = canO m D := ⟨_, rfl⟩
  rw [← hzs]
  have Hzs := hid hzs; clear hzs
  rintro e w3 ⟨v3, rfl, he3, hg3⟩
  have hr3 := he3.rows (S := []) (by simp)
  have Hr3 := hid hr3
  obtain ⟨zo, zc, rfl, ⟨hz1, hz2, -⟩, -⟩ := hr3
  have fl3 := fld (hg3.obj Hb2.out (by simp))
  have HG3 := hid hg3
  clear hg3 he3
  go_wp2_with fail
  have hcall := specCanonicalSolutions_c m _ _ (Hmv2.out.gr HG3.out) Hms.out D HD.out
  (with_reducible refine hcall.mono ?_)
  clear hcall
  rw [← Hzs.out]
  rintro e w4 ⟨v4, rfl, hr4, hg4⟩
  have Hr4 := hid hr4; have Hg4 := hid hg4
  clear hr4 hg4
  go_wp2_with fail
  have hcall := equalLists_t zs _ _ _ (Hr3.out.gr Hg4.out) Hr4.out
  (with_reducible refine hcall.mono ?_)
  clear hcall
  rintro e w5 ⟨rfl, hg5⟩
  have HG35 := hid (Hg4.out.trans hg5)
  have fl5 := fld ((HG3.out.trans HG35.out).obj Hb2.out (by simp))
  clear hg5 fl3
  go_wp2_with fail
  have hcall := ValidModel_c m _ _ (Hmv2.out.gr (HG3.out.trans HG35.out))
  (with_reducible refine hcall.mono ?_)
  clear hcall
  rintro e w6 ⟨rfl, hg6⟩
  have HG36 := hid (HG35.out.trans hg6)
  have HG26 := hid (HG3.out.trans HG36.out)
  have fl6 := fld (HG26.out.obj Hb2.out (by simp))
  clear hg6 fl5
  cases hval : validM m
  · clear hval
    go_wp2_with fail
    have hcall := specCanonicalSolutions_c m _ _ (Hmv2.out.gr HG26.out) Hms.out D HD.out
    (with_reducible refine hcall.mono ?_)
    clear hcall
    rw [← Hzs.out]
    rintro e w7 ⟨v7, rfl, hr7, hg7⟩
    have Hr7 := hid hr7; have Hg7 := hid hg7
    clear hr7 hg7
    go_wp2_with fail
    have hcall := equalLists_t zs _ _ _ (Hr3.out.gr (HG36.out.trans Hg7.out)) Hr7.out
    (with_reducible refine hcall.mono ?_)
    clear hcall
    rintro e w8 ⟨rfl, hg8⟩
    go_wp2_with fail
    go_ret
    exact ⟨rfl, ((HG2.out.trans HG26.out).trans Hg7.out).trans hg8⟩
  have HVM := hid (HD.out hval)
  have Hval := hid hval
  have HDL : Hid (m.doms.length = D.length) := hid (by rw [HVM.out.doms, ints_len])
  clear hval
  go_wp2_with fail
  have hcall := VariableOrbits_c m _ _ (Hmv2.out.gr HG26.out) D HD.out
  (with_reducible refine hcall.mono ?_)
  clear hcall
  obtain ⟨os, hos⟩ : ∃ os, os = (orbsO m D).getD [] := ⟨_, rfl⟩
  rw [← hos]
  have Hos : Hid (os = orbs m.cons D D.length) := hid (by rw [hos]; unfold orbsO; rw [Hval.out]; rfl)
  have Hol : Hid (os.length = D.length) := hid (by rw [Hos.out, orbs_len])
  clear hos
  rintro e w7 ⟨v7, rfl, hn7, hg7⟩
  have hn7 := hn7.nums (S := []) (by simp)
  have Hn7 := hid hn7
  obtain ⟨oo, oc, rfl, ⟨ho1, ho2, -⟩, -⟩ := hn7
  have HG27 := hid (HG26.out.trans hg7)
  have Hr7 := hid (Hr3.out.gr (HG36.out.trans hg7))
  have fl7 := fld (HG27.out.obj Hb2.out (by simp))
  clear hg7 fl6
  go_wp2_with fail
  have hcall := SolveAll_c m 20 _ _ (Hmv2.out.gr HG27.out) D HD.out
  (with_reducible refine hcall.mono ?_)
  clear hcall
  obtain ⟨als, has⟩ : ∃ als, als = allO m 20 D := ⟨_, rfl⟩
  rw [← has]
  have Hasm : Hid (∀ x ∈ als, x ∈ sols m.cons D) := hid (by rw [has]; unfold allO; split; exact fun x hx => List.mem_of_mem_take hx; simp)
  have Hase : Hid (als = [] → sols m.cons D = []) := hid (by
    rw [has]; unfold allO; rw [Hval.out, inB_iff.2 ⟨by omega, by omega⟩]
    intro h
    simp only [Bool.and_self, if_true] at h
    cases hs : sols m.cons D with
    | nil => rfl
    | cons a r => rw [hs] at h; simp at h)
  clear has
  rintro e w8 ⟨v8, rfl, hr8, hg8⟩
  have Hr8 := hid hr8
  obtain ⟨ro, rc, rfl, ⟨hr1, hr2, -⟩, -⟩ := hr8
  have HG28 := hid (HG27.out.trans hg8)
  have Hl8 := hid (Hr7.out.gr hg8); have Hn8 := hid (Hn7.out.gr hg8)
  have Hb8 := hid (HG28.out.obj Hb2.out (by simp))
  have hM : D.length ≤ 4 := HVM.out.len.2
  clear hg8 fl7
  go_wp2_with fail
  go_loopw [7] (fun i' wr => ∃ n : Nat, n ≤ als.length ∧ i' = .int .i64 n ∧ (0 < n → 0 < zs.length) ∧ Gr [] w8 wr) (fun i' _ => als.length - (intOf i').toNat)
  case atStart => exact ⟨0, Nat.zero_le _, rfl, by omega, Gr.refl _ _⟩
  case round =>
    obtain ⟨n, hn, rfl, hpos, hg⟩ := hrel
    have Hpos := hid hpos; have Hg := hid hg
    have flr := fld (hg.obj Hb8.out (by simp))
    clear hpos
    by_cases hlt : n < als.length
    · obtain ⟨x, hx⟩ := get_some hlt
      have hxs := Hasm.out x (List.mem_of_getElem? hx)
      have hxl : x.length = D.length := tups_len (mem_sols.1 hxs).1
      obtain ⟨b, o, u, e1, hc0, hn0⟩ := (Hr8.out.gr hg).at0 hx
      subst e1
      obtain ⟨xo', xc', rfl, ⟨hx1, hx2, -⟩, -⟩ := id hn0
      have Hxs := hid hxs; have Hxl := hid hxl
      have hns : Nums [] (wr.alloc (.cells #[] 3)) .i64 (.slice xo' x.length xc') x := hn0.gr ((Gr.refl _ _).alloc _)
      have hca : (wr.alloc (.cells #[] 3)).cell? ⟨b, o + n, none⟩ = some (.slice xo' x.length xc') := ((Gr.refl [] wr).alloc _).cell hc0 (by simp)
      have Hns := hid hns
      have hx4 : x.length ≤ 4 := by omega
      have hx0 : 1 ≤ x.length := by have := HVM.out.len.1; omega
      clear hx hxs hxl hns hn0 hg
      go_wp2_with (at_builtin; (refine wp_appN rfl _ _ 22 rfl wr.heap.size 3 infoInt Tryz.underlying22 _ [] x rfl (Own.empty _ _ (Nat.le_refl _)) _ [] rfl Hns.out (by simp; omega) (by simp) ?_; intro v' wb hownb hbb; rw [List.nil_append] at hownb; have Hownb := hid hownb; obtain ⟨g, gc, rfl, ⟨hgB, hglt⟩, -, -⟩ := hownb.open (by omega); have Hgb : Hid (Gr [] wr wb) := hid (((Gr.refl [] wr).alloc (.cells #[] 3)).low hbb (Nat.le_refl _)); clear hownb hbb))
      have Hk8 : Hid (∀ W, Gr [g] wb W → Gr [g] w8 W) := hid fun W h => (Gr.any (Hg.out.trans Hgb.out)).trans h
      have hsb := Hgb.out.size
      have hs8 := Hg.out.size
      have Hkb : Hid (∀ W, Gr [g] wb W → W.heap[w1.heap.size]? = some (.cells #[.slice xo m.doms.length xc, .slice co m.cons.length cc] 31 (0, 0))) := hid fun W h => (Hk8.out W h).obj Hb8.out (by have := lt_of_block Hb8.out; simp; omega)
      have Hok : Hid (∀ W, Gr [g] wb W → Nums [] W .i64 (.slice oo os.length oc) os) := hid fun W h => ((Hn8.out.sub (S' := [g]) (by intro b h1 h2; simp at h2; omega)).gr (Hk8.out W h)).sub (by simp)
      have Hlk : Hid (∀ W, Gr [g] wb W → RowsV [] W (.slice zo zs.length zc) zs) := hid fun W h => ((Hl8.out.sub (S' := [g]) (by intro b h1 h2; simp at h2; omega)).gr (Hk8.out W h)).sub (by simp)
      have Hxl4 := hid Hxl.out
      clear hc0 flr
      go_loopw [9] (fun i' wi => ∃ (i : Nat) (ys : List Int), i' = .int .i64 i ∧ i ≤ x.length ∧ ys.length = x.length ∧ ys ∈ sols m.cons D ∧ SortI os ys i 0 ∧ Own wr.heap.size wi 3 (.slice (some ⟨g, 0, none⟩) x.length gc) ys ∧ Gr [g] wb wi) (fun i' _ => x.length - (intOf i').toNat)
      case atStart => exact ⟨0, x, rfl, Nat.zero_le _, rfl, Hxs.out, SortI.start _ _, Hownb.out, Gr.refl _ _⟩
      case round =>
        obtain ⟨i, ys, rfl, hi, hyl, hys, hsort, hown, hgi⟩ := hrel
        obtain ⟨wi, rfl⟩ : ∃ wi, wi = wr := ⟨_, rfl⟩
        have Hys := hid hys; have Hso := hid hsort; have Hown := hid hown; have Hgi := hid hgi; have Hyl := hid hyl
        clear hys hsort hown hgi hyl
        by_cases hlt2 : i < x.length
        · go_wp2_with fail
          go_loopw [10] (fun j' wj => ∃ (j : Nat) (ys : List Int), j' = .int .i64 j ∧ j ≤ i ∧ ys.length = x.length ∧ ys ∈ sols m.cons D ∧ SortI os ys i j ∧ Own wr.heap.size wj 3 (.slice (some ⟨g, 0, none⟩) x.length gc) ys ∧ Gr [g] wb wj) (fun j' _ => i - (intOf j').toNat)
          case atStart => exact ⟨0, ys, rfl, Nat.zero_le _, Hyl.out, Hys.out, Hso.out, Hown.out, Hgi.out⟩
          case round =>
            clear Hys Hso Hown Hgi Hyl ys
            obtain ⟨j, ys, rfl, hj, hyl, hys, hsort, hown, hgj⟩ := hrel
            have Hys := hid hys; have Hso := hid hsort; have Hown := hid hown; have Hgj := hid hgj; have Hyl := hid hyl
            clear hys hsort hown hgj
            by_cases hlt3 : j < i
            · obtain ⟨oi, hoi⟩ := get_some (xs := os) (k := i) (by have := Hol.out; have := Hxl.out; omega)
              obtain ⟨oj, hoj⟩ := get_some (xs := os) (k := j) (by have := Hol.out; have := Hxl.out; omega)
              obtain ⟨yi, hyi⟩ := get_some (xs := ys) (k := i) (by omega)
              obtain ⟨yj, hyj⟩ := get_some (xs := ys) (k := j) (by omega)
              have HB := hid (badB_at hoi hoj hyi hyj)
              obtain ⟨b1, p1, e1, -, c1⟩ := (Hok.out _ Hgj.out).at hoi
              subst e1
              obtain ⟨b2, p2, e2, -, c2⟩ := (Hok.out _ Hgj.out).at hoj
              obtain ⟨rfl, rfl⟩ : b1 = b2 ∧ p1 = p2 := by simpa using e2
              obtain ⟨c3, c3'⟩ := Hown.out.at hyi
              obtain ⟨c4, c4'⟩ := Hown.out.at hyj
              have hil : i < os.length := by have := Hol.out; have := Hxl.out; omega
              have hjl : j < os.length := by omega
              have hiy : i < ys.length := by omega
              have hjy : j < ys.length := by omega
              have Hyi := hid hyi; have Hyj := hid hyj
              clear hoi hoj hyi hyj e2 hyl
              obtain ⟨wj, rfl⟩ : ∃ wj, wj = wr := ⟨_, rfl⟩
              have hm1 : ∀ k : GrW [] wj, k.val.cell? ⟨b1, p1 + i, none⟩ = some (.int .i64 oi) := fun k => k.gr.cell c1 (by simp)
              have hm2 : ∀ k : GrW [] wj, k.val.cell? ⟨b1, p1 + j, none⟩ = some (.int .i64 oj) := fun k => k.gr.cell c2 (by simp)
              have hm3 : ∀ k : GrW [] wj, k.val.cell? ⟨g, i, none⟩ = some (.int .i64 yi) := fun k => k.gr.cell c3 (by simp)
              have hm4 : ∀ k : GrW [] wj, k.val.cell? ⟨g, j, none⟩ = some (.int .i64 yj) := fun k => k.gr.cell c4 (by simp)
              clear c1 c2 c3 c4 c3' c4'
              cases h1 : (oi == oj)
              · have H1 := hid h1
                go_wp2_with fail
                refine wp_region_gr [] _ (by kernel_rfl) (by kernel_rfl) (Gr.refl _ _) ?_
                repeat (go_big_quiet_step (fail))
                refine wpQuiet_nil ?_
                rintro w9 ⟨n9, hw9⟩
                have hg9 : Gr [] wj w9 := hw9 ▸ n9.gr
                have Hg9 := hid hg9
                clear hw9 n9 hm1 hm2 hm3 hm4 hg9
                go_wp2_with fail
                exact ⟨⟨j + 1, ys, by go_num, by omega, Hyl.out, Hys.out, Hso.out.keep (by rw [HB.out, H1.out]; rfl), Hown.out.gr Hg9.out (by simp), Hgj.out.trans Hg9.out.any⟩, by simp [intOf]; omega⟩
              · have H1 := hid h1
                by_cases h2 : yi < yj
                · have h2' : decide (yi < yj) = true := decide_eq_true h2
                  have HBt : Hid (badB os ys i j = true) := hid (by rw [HB.out, H1.out, h2']; rfl)
                  clear h2
                  go_wp2_with fail
                  refine wp_region_gr [] _ (by kernel_rfl) (by kernel_rfl) (Gr.refl _ _) ?_
                  repeat (go_big_quiet_step (fail))
                  refine wpQuiet_nil ?_
                  rintro w9 ⟨n9, hw9⟩
                  have hg9 : Gr [] wj w9 := hw9 ▸ n9.gr
                  have Hg9 := hid hg9
                  clear hw9 n9 hm1 hm2 hm3 hm4 hg9
                  have hown9 := Hown.out.gr Hg9.out (by simp)
                  obtain ⟨a1, a2⟩ := hown9.at Hyi.out
                  obtain ⟨a3, a4⟩ := hown9.at Hyj.out
                  have hownA := hown9.set i yj hiy
                  have hyA : (ys.set i yj)[j]? = some yj := by rw [List.getElem?_set_ne (by omega)]; exact Hyj.out
                  obtain ⟨a5, a6⟩ := hownA.at hyA
                  have hownB := hownA.set j yi (by rw [List.length_set]; exact hjy)
                  have hswap : (ys.set i yj).set j yi = swapL i j ys := by unfold swapL; rw [getD_at Hyj.out, getD_at Hyi.out]
                  rw [hswap] at hownB
                  have HownB := hid hownB
                  clear hown9 hownA hownB hswap hyA
                  go_wp2_with fail
                  have hDL := Hxl.out
                  refine ⟨⟨j + 1, swapL i j ys, by go_num, by omega, by rw [swapL_len]; exact Hyl.out, swap_sol (by omega) (by omega) Hys.out (by rw [← Hos.out]; exact HBt.out), Hso.out.swap hlt3 hiy HBt.out, HownB.out, ((Hgj.out.trans Hg9.out.any).setCell _ _ (.inl (by simp))).setCell _ _ (.inl (by simp))⟩, by simp [intOf]; omega⟩
                · have h2' : decide (yi < yj) = false := decide_eq_false h2
                  have HBf : Hid (badB os ys i j = false) := hid (by rw [HB.out, H1.out, h2']; rfl)
                  clear h2
                  go_wp2_with fail
                  refine wp_region_gr [] _ (by kernel_rfl) (by kernel_rfl) (Gr.refl _ _) ?_
                  repeat (go_big_quiet_step (fail))
                  refine wpQuiet_nil ?_
                  rintro w9 ⟨n9, hw9⟩
                  have hg9 : Gr [] wj w9 := hw9 ▸ n9.gr
                  have Hg9 := hid hg9
                  clear hw9 n9 hm1 hm2 hm3 hm4 hg9
                  go_wp2_with fail
                  exact ⟨⟨j + 1, ys, by go_num, by omega, Hyl.out, Hys.out, Hso.out.keep HBf.out, Hown.out.gr Hg9.out (by simp), Hgj.out.trans Hg9.out.any⟩, by simp [intOf]; omega⟩
            · have hji : j = i := by omega
              subst hji
              clear hyl
              go_wp2_with fail
              exact ⟨⟨j + 1, ys, by go_num, by omega, Hyl.out, Hys.out, Hso.out.next, Hown.out, Hgj.out⟩, by simp [intOf]; omega⟩
        · have hix : i = x.length := by omega
          subst hix
          have hyz : ys ∈ zs := by
            rw [Hzs.out]
            refine (mem_canO Hval.out).2 ⟨Hys.out, ?_⟩
            rw [← Hos.out]
            have := Hso.out
            rw [← Hyl.out] at this
            exact this.done
          have Hyz := hid hyz
          have Hown0 := hid (Own.nums' (S := []) Hown.out (by simp))
          clear hyz
          go_wp2_with fail
          go_loopw [12, 13] (fun f' t' wt => ∃ (t : Nat) (f : Bool), f' = .bool f ∧ t' = .int .i64 t ∧ t ≤ zs.length ∧ f = decide (ys ∈ zs.take t) ∧ Gr [] wi wt) (fun _ t' _ => zs.length - (intOf t').toNat)
          case atStart => exact ⟨0, false, rfl, rfl, Nat.zero_le _, by simp, Gr.refl _ _⟩
          case round =>
            obtain ⟨t, f, rfl, rfl, ht, hf, hgt⟩ := hrel
            have Hf := hid hf; have Hgt := hid hgt
            clear hf
            by_cases hlt4 : t < zs.length
            · obtain ⟨z, hz⟩ := get_some hlt4
              have HS : Hid (decide (ys ∈ zs.take (t + 1)) = (decide (ys ∈ zs.take t) || decide (z = ys))) := hid (by
                rw [List.take_add_one, hz, ← Bool.decide_or]
                exact decide_eq_decide.2 (by simp only [Option.toList_some, List.mem_append, List.mem_singleton]; exact or_congr Iff.rfl eq_comm))
              obtain ⟨b5, o5, u5, e5, c5, n5⟩ := ((Hlk.out _ Hgi.out).gr hgt).at0 hz
              subst e5
              have Hn5 := hid n5
              clear hz n5 hgt
              cases f
              · go_wp2_with fail
                have hcall := lawEqualInts_c z ys _ _ _ Hn5.out (Hown0.out.gr Hgt.out)
                (with_reducible refine hcall.mono ?_)
                clear hcall
                rintro e w9 ⟨rfl, hg9⟩
                go_wp2_with fail
                exact ⟨⟨t + 1, _, rfl, by go_num, by omega, by rw [HS.out, ← Hf.out]; rfl, Hgt.out.trans hg9⟩, by simp [intOf]; omega⟩
              · go_wp2_with fail
                exact ⟨⟨t + 1, _, rfl, by go_num, by omega, by rw [HS.out, ← Hf.out]; rfl, Hgt.out⟩, by simp [intOf]; omega⟩
            · have hft : f = true := by rw [Hf.out, List.take_of_length_le (by omega)]; exact decide_eq_true Hyz.out
              subst hft
              clear hgt
              go_wp2_with fail
              exact ⟨⟨n + 1, by omega, by go_num, fun _ => List.length_pos_of_mem Hyz.out, ((Hg.out.trans Hgb.out).step Hgi.out (fun q hq => .inr (by simp at hq; omega))).trans Hgt.out⟩, by simp [intOf]; omega⟩
    · have hnz : n = als.length := by omega
      subst hnz
      clear hg
      have HG2r := hid Hg.out
      have Hbr := hid (Hg.out.obj Hb8.out (by simp))
      have Hlr := hid (Hl8.out.gr Hg.out)
      have Hmr := hid (Hmv2.out.gr (HG28.out.trans Hg.out))
      obtain ⟨wz, hwz⟩ : ∃ wz, wz = wr := ⟨_, rfl⟩
      go_wp2_with fail
      go_loopw [14] (fun i wt => ∃ n : Nat, n ≤ zs.length ∧ i = .int .i64 n ∧ Gr [] wr wt) (fun i _ => zs.length - (intOf i).toNat)
      case atStart => exact ⟨0, by omega, rfl, Gr.refl _ _⟩
      case round =>
        obtain ⟨n, hn, rfl, hg⟩ := hrel
        have Hgt := hid hg
        clear hg
        obtain ⟨wt, rfl⟩ : ∃ wt, wt = wr := ⟨_, rfl⟩
        by_cases hlt : n < zs.length
        · obtain ⟨x, hx⟩ := get_some hlt
          have hxs : x ∈ sols m.cons D := by
            have h := List.mem_of_getElem? hx
            rw [Hzs.out] at h
            exact ((mem_canO Hval.out).1 h).1
          obtain ⟨b1, o1, u1, rfl, hc1, hn1⟩ := (Hlr.out.gr Hgt.out).at hx
          have Hn1 := hid hn1; have Hxs := hid hxs; have Hx := hid hx
          clear hn1 hxs hx flr
          have hm0 : ∀ k : GrW [] wt, k.val.cell? ⟨w1.heap.size, 0, none⟩ = some (.slice xo m.doms.length xc) := fun k => fld (k.gr.obj (Hgt.out.obj Hbr.out (by simp)) (by simp)) 0
          have hm1 : ∀ k : GrW [] wt, k.val.cell? ⟨w1.heap.size, 1, none⟩ = some (.slice co m.cons.length cc) := fun k => fld (k.gr.obj (Hgt.out.obj Hbr.out (by simp)) (by simp)) 1
          have Hm6r := hid (Hmr.out.gr Hgt.out)
          rcases Nat.eq_zero_or_pos n with hn0 | hn0
          · subst hn0
            rw [Nat.add_zero] at hc1
            have hm2 : ∀ k : GrW [] wt, k.val.cell? ⟨b1, o1, none⟩ = some u1 := fun k => k.gr.cell hc1 (by simp)
            clear hc1
            go_wp2_with fail
            refine wp_region_gr [] _ (by kernel_rfl) (by kernel_rfl) (Gr.refl _ _) ?_
            repeat (go_big_quiet_step ((go_at_call 47; exact Calls.gr_of (IsSolution_t m D x _ _ _ (Hm6r.out.gr (GrW.gr _)) HVM.out (Hn1.out.gr (GrW.gr _)) Hxs.out))))
            refine wpQuiet_nil ?_
            rintro w7' ⟨n7, hw7⟩
            have hg7 : Gr [] wt w7' := hw7 ▸ n7.gr
            clear hw7 n7 hm0 hm1 hm2
            go_wp2_with fail
            exact ⟨⟨0 + 1, by omega, by go_num, Hgt.out.trans hg7⟩, by simp [intOf]; omega⟩
          · obtain ⟨p, rfl⟩ : ∃ p, n = p + 1 := ⟨n - 1, by omega⟩
            obtain ⟨x0, hx0⟩ := get_some (xs := zs) (k := p) (by omega)
            obtain ⟨b2, o2, u2, e2, hc2, hn2⟩ := (Hlr.out.gr Hgt.out).at hx0
            obtain ⟨rfl, rfl⟩ : b2 = b1 ∧ o2 = o1 := by simpa [eq_comm] using e2
            have hx0s : x0 ∈ sols m.cons D := by
              have h := List.mem_of_getElem? hx0
              rw [Hzs.out] at h
              exact ((mem_canO Hval.out).1 h).1
            have hlx : lexB x0 x = true := by
              have hp := canO_sorted m D
              rw [← Hzs.out] at hp
              have hxe := Hx.out
              obtain ⟨h1, h2⟩ := List.getElem?_eq_some_iff.1 hx0
              obtain ⟨h3, h4⟩ := List.getElem?_eq_some_iff.1 hxe
              have := List.pairwise_iff_getElem.1 hp p (p + 1) h1 h3 (by omega)
              rw [h2, h4] at this
              exact this
            have hll : x0.length = x.length := by rw [tups_len (mem_sols.1 hx0s).1, tups_len (mem_sols.1 Hxs.out).1]
            have Hlx := hid hlx; have Hll := hid hll; have Hn2 := hid hn2
            have hm2 : ∀ k : GrW [] wt, k.val.cell? ⟨b2, o2 + (p + 1), none⟩ = some u1 := fun k => k.gr.cell hc1 (by simp)
            have hm3 : ∀ k : GrW [] wt, k.val.cell? ⟨b2, o2 + p, none⟩ = some u2 := fun k => k.gr.cell hc2 (by simp)
            have hpl : p < zs.length := by omega
            clear hc1 hc2 hx0 hx0s hlx hll hn2 e2
            go_wp2_with fail
            refine wp_region_gr [] _ (by kernel_rfl) (by kernel_rfl) (Gr.refl _ _) ?_
            repeat (go_big_quiet_step ((first | (go_at_call 47; exact Calls.gr_of (IsSolution_t m D x _ _ _ (Hm6r.out.gr (GrW.gr _)) HVM.out (Hn1.out.gr (GrW.gr _)) Hxs.out)) | (go_at_call 48; exact Calls.gr_of (lexLess_s x0 x _ _ _ (Hn2.out.gr (GrW.gr _)) (Hn1.out.gr (GrW.gr _)) Hll.out Hlx.out)))))
            refine wpQuiet_nil ?_
            rintro w7' ⟨n7, hw7⟩
            have hg7 : Gr [] wt w7' := hw7 ▸ n7.gr
            clear hw7 n7 hm0 hm1 hm2 hm3
            go_wp2_with fail
            exact ⟨⟨p + 1 + 1, by omega, by go_num, Hgt.out.trans hg7⟩, by simp [intOf]; omega⟩
        · clear hn
          have HGf := hid ((HG2.out.trans HG28.out).trans (HG2r.out.trans Hgt.out))
          by_cases ha0 : als.length = 0
          · have hz0 : zs.length = 0 := by
              have h1 := Hase.out (List.length_eq_zero_iff.1 ha0)
              cases hzz : zs with
              | nil => rfl
              | cons z r =>
                have h2 : z ∈ canO m D := by rw [← Hzs.out, hzz]; simp
                have := ((mem_canO Hval.out).1 h2).1
                rw [h1] at this; cases this
            have h1 : decide (0 < ((als.length : Nat) : Int)) = false := decide_eq_false (by omega)
            have h1n : decide (0 < als.length) = false := decide_eq_false (by omega)
            have h2 : decide (0 < ((zs.length : Nat) : Int)) = false := decide_eq_false (by omega)
            have h2n : decide (0 < zs.length) = false := decide_eq_false (by omega)
            clear ha0 hz0
            go_wp2_with fail
            go_ret
            exact ⟨rfl, HGf.out⟩
          · have hz0 := Hpos.out (by omega)
            have h1 : decide (0 < ((als.length : Nat) : Int)) = true := decide_eq_true (by omega)
            have h1n : decide (0 < als.length) = true := decide_eq_true (by omega)
            have h2 : decide (0 < ((zs.length : Nat) : Int)) = true := decide_eq_true (by omega)
            have h2n : decide (0 < zs.length) = true := decide_eq_true (by omega)
            clear ha0 hz0
            go_wp2_with fail
            go_ret
            exact ⟨rfl, HGf.out⟩

end Go.Proofs.YtjmjjdgbkibdaaaGreat
