/-
  Walk of the reference's test of stores.
-/
import Derived.Test.YtihkeihnpiddoaaGreatXLi
set_option linter.unusedVariables false
set_option linter.unusedSimpArgs false
namespace Go.Proofs.YtihkeihnpiddoaaGreat
open Go.RowKit


set_option maxRecDepth 100000 in
set_option maxHeartbeats 4000000 in
theorem specValidStore_c (s : Sto) (v : Value) (w : World) (hv : StoV [] w v s) (hs : s.mod.Small) :
    Calls Tryz.prog 43 #[v] w fun e w' => e = .returned (.bool (validS s)) ∧ Gr [] w w' := by
  obtain ⟨xo, xc, co, cc, lo, lc, rfl, hm, hlv⟩ := hv.open
  have hg0 : Gr [] w (w.alloc (.cells #[.slice xo s.mod.doms.length xc, .slice co s.mod.cons.length cc, .slice lo s.lv.length lc] 29)) := (Gr.refl _ _).alloc _
  have hb0 := sto3 w (.slice xo s.mod.doms.length xc) (.slice co s.mod.cons.length cc) (.slice lo s.lv.length lc)
  have HM := hid (hm.gr hg0); have HL := hid (hlv.gr hg0); have Hs := hid hs
  obtain ⟨lo', lc', e, ⟨hl1, hl2, -⟩, -⟩ := id hlv
  cases e
  have Hb0 := hid hb0; have Hg0 := hid hg0
  clear hb0 hm hlv hv hg0 hs
  go_enter Tryz.func43, Tryz.ntmps43
  go_wp2_with fail
  generalize hW0 : w.alloc (.cells #[.slice xo s.mod.doms.length xc, .slice co s.mod.cons.length cc, .slice lo s.lv.length lc] 29) = w0 at *
  clear hW0
  go_loopw [3] (fun i wr => ∃ n : Nat, n ≤ s.lv.length ∧ i = .int .i64 n ∧ (∀ j r, j < n → s.lv[j]? = some r → lvOk s.mod.doms.length r = true) ∧ Gr [] w0 wr) (fun i _ => s.lv.length - (intOf i).toNat)
  case atStart => exact ⟨0, Nat.zero_le _, rfl, fun j r h => absurd h (by omega), Gr.refl _ _⟩
  case round =>
    obtain ⟨n, hn, rfl, hq, hg⟩ := hrel
    have Hg := hid hg; have Hq := hid hq
    have fbr := fld (hg.obj Hb0.out (by simp))
    clear hq
    by_cases hlt : n < s.lv.length
    · obtain ⟨r, hx⟩ := get_some hlt
      have hX := fun (k : GrW [] wr) => (HL.out.gr (hg.trans k.gr)).at0 hx
      obtain ⟨b, o, u, e1, hcell, hnu⟩ := (HL.out.gr hg).at0 hx
      subst e1
      obtain ⟨uo, uc, rfl⟩ : ∃ uo uc, u = .slice uo r.length uc := by obtain ⟨a, c, e, -⟩ := hnu; exact ⟨a, c, e⟩
      have ebx : ∀ (k : GrW [] wr) j, k.val.cell? ⟨w.heap.size, j, none⟩ = #[.slice xo s.mod.doms.length xc, .slice co s.mod.cons.length cc, .slice (some ⟨b, o, none⟩) s.lv.length lc][j]? := fun k => fld (k.gr.obj (hg.obj Hb0.out (by simp)) (by simp))
      have ecx : ∀ k : GrW [] wr, k.val.cell? ⟨b, o + n, none⟩ = some (.slice uo r.length uc) := fun k => k.gr.cell hcell (by simp)
      have hcv : ∀ k : GrW [] wr, Calls Tryz.prog 58 #[.slice uo r.length uc] k.val fun e w'' => e = .returned (.bool (domsOk r)) ∧ ∃ m : GrW [] wr, w'' = m.val := fun k =>
        Calls.gr_of (validDomains_c _ _ _ (hnu.gr k.gr))
      have Hcv := hid hcv; have Hx := hid hx
      clear hg hx hX hcell hnu hcv fbr
      have fbr : ∀ j, wr.cell? ⟨w.heap.size, j, none⟩ = #[.slice xo s.mod.doms.length xc, .slice co s.mod.cons.length cc, .slice (some ⟨b, o, none⟩) s.lv.length lc][j]? := fld (Hg.out.obj Hb0.out (by simp))
      have Hall : ∀ B : Bool, lvOk s.mod.doms.length r = false → B = false → B = validS s := fun B h hB => by
        rw [hB]; symm; unfold validS
        rw [Bool.and_eq_false_iff]; right
        rw [List.all_eq_false]
        exact ⟨r, List.mem_of_getElem? Hx.out, by rw [h]; simp⟩
      have HAll := hid Hall
      clear Hall
      cases hl : ((r.length : Int) != (s.mod.doms.length : Int))
      · have hl' : r.length = s.mod.doms.length := by
          have : (r.length : Int) = s.mod.doms.length := by simpa using hl
          omega
        have Hl := hid hl'
        clear hl'
        cases h2 : domsOk r
        all_goals
          go_wp2_with fail
          have HHv := Hcv.out
          rw [h2] at HHv
          refine wp_region_gr [] _ (by kernel_rfl) (by kernel_rfl) (Gr.refl _ _) ?_
          repeat (go_big_quiet_step ((go_at_call 58; exact HHv _)))
          refine wpQuiet_nil ?_
          rintro w9 ⟨n9, rfl⟩
          have hg9 := n9.gr
        · go_wp2_with fail
          go_ret
          exact ⟨ret_bool (HAll.out _ (by simp [lvOk, h2]) rfl), (Hg0.out.trans Hg.out).trans hg9⟩
        · go_wp2_with fail
          refine ⟨⟨n + 1, by omega, by go_num, fun j e hj he => ?_, Hg.out.trans hg9⟩, by simp [intOf]; omega⟩
          by_cases hjn : j = n
          · subst hjn; rw [Hx.out] at he; cases he; simp [lvOk, h2, Hl.out]
          · exact Hq.out j e (by omega) he
      · go_wp2_with fail
        refine wp_region_gr [] _ (by kernel_rfl) (by kernel_rfl) (Gr.refl _ _) ?_
        repeat (go_big_quiet_step ((go_at_call 58; exact Hcv.out _)))
        refine wpQuiet_nil ?_
        rintro w9 ⟨n9, rfl⟩
        have hg9 := n9.gr
        go_wp2_with fail
        go_ret
        have hl' : ¬ r.length = s.mod.doms.length := by intro h; rw [h] at hl; simp at hl
        exact ⟨ret_bool (HAll.out _ (by simp [lvOk, hl']) rfl), (Hg0.out.trans Hg.out).trans hg9⟩
    · have hall : s.lv.all (lvOk s.mod.doms.length) = true := List.all_eq_true.2 fun r hr => by
        obtain ⟨j, hj⟩ := List.mem_iff_getElem?.1 hr
        exact Hq.out j r (by have := (List.getElem?_eq_some_iff.1 hj).1; omega) hj
      have Hall := hid hall
      clear hall hg
      go_wp2_with fail
      have hcall := specValidModel_c s.mod _ _ (HM.out.gr Hg.out) Hs.out
      (with_reducible refine hcall.mono ?_)
      clear hcall
      rintro e w2 ⟨rfl, hg2⟩
      have fb2 := fld (hg2.obj (Hg.out.obj Hb0.out (by simp)) (by simp))
      clear fbr
      cases h1 : validM s.mod
      · go_wp2_with fail
        go_ret
        exact ⟨ret_bool (by simp [validS, h1]), (Hg0.out.trans Hg.out).trans hg2⟩
      · go_wp2_with fail
        refine (inRange_c _ _ _ _).mono ?_
        rintro e w3 ⟨rfl, rfl⟩
        go_wp2_with fail
        go_ret
        exact ⟨ret_bool (by simp [validS, h1, Hall.out]), (Hg0.out.trans Hg.out).trans hg2⟩

end Go.Proofs.YtihkeihnpiddoaaGreat
