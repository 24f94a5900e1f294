/-
  Validity of stores; walks of the program's ValidStore, current and CurrentDomains, and of the reference's NewStore.
-/
import Derived.Test.YtihkeihnpiddoaaGreatXSt
set_option linter.unusedVariables false
set_option linter.unusedSimpArgs false
namespace Go.Proofs.YtihkeihnpiddoaaGreat
open Go.RowKit

def lvOk (n : Nat) (r : List Int) : Bool := decide (r.length = n) && domsOk r
def validS (s : Sto) : Bool := validM s.mod && inB 1 12 s.lv.length && s.lv.all (lvOk s.mod.doms.length)
theorem sto3 (w : World) (a b c : Value) : (w.alloc (.cells #[a, b, c] 29)).heap[w.heap.size]? = some (.cells #[a, b, c] 29 (0, 0)) := heap_alloc_new _ _

set_option maxRecDepth 100000 in
set_option maxHeartbeats 1000000 in
theorem ValidStoreLit_c (r : List Int) (ds : List Int) (rv dv xv lv : Value) (b : Nat) (w : World) (hr : Nums [] w .i64 rv r) (hb : w.heap[b]? = some (.cells #[dv, xv, lv] 29 (0, 0))) (hd : Nums [] w .i64 dv ds) :
    Calls Tryz.prog 70 #[rv, .pointer (some ⟨b, 0, none⟩)] w fun e w' => e = .returned (.bool (!lvOk ds.length r)) ∧ Gr [] w w' := by
  have hblt := lt_of_block hb
  have Hr := hid hr
  obtain ⟨ro, rc, rfl, -, -⟩ := hr
  obtain ⟨xo, xc, rfl, -, -⟩ := hd
  have hfl := fld hb
  clear hb
  go_enter Tryz.func70, Tryz.ntmps70
  cases hl : ((r.length : Int) != (ds.length : Int))
  · go_wp2_with fail
    refine (domainsOk_c r _ _ Hr.out).mono ?_
    rintro e w1 ⟨rfl, hg1⟩
    go_wp2_with fail
    go_ret
    have hl' : r.length = ds.length := by have : (r.length : Int) = ds.length := by simpa using hl
                                          omega
    exact ⟨ret_bool (by simp [lvOk, hl']), hg1⟩
  · go_wp2_with fail
    go_ret
    have hl' : ¬ r.length = ds.length := by intro h; rw [h] at hl; simp at hl
    exact ⟨ret_bool (by simp [lvOk, hl']), Gr.refl _ _⟩

set_option maxRecDepth 100000 in
set_option maxHeartbeats 1000000 in
theorem ValidStore_c (s : Sto) (v : Value) (w : World) (hv : StoV [] w v s) :
    Calls Tryz.prog 23 #[v] w fun e w' => e = .returned (.bool (validS s)) ∧ Gr [] w w' := by
  obtain ⟨xo, xc, co, cc, lo, lc, rfl, hm, hl⟩ := hv.open
  have hg0 : Gr [] w (w.alloc (.cells #[.slice xo s.mod.doms.length xc, .slice co s.mod.cons.length cc, .slice lo s.lv.length lc] 29)) := (Gr.refl _ _).alloc _
  have hb0 := sto3 w (.slice xo s.mod.doms.length xc) (.slice co s.mod.cons.length cc) (.slice lo s.lv.length lc)
  have HM := hid (hm.gr hg0); have HL := hid (hl.gr hg0)
  have hfl := fld hb0
  have Hb0 := hid hb0
  clear hb0 hm hl hv
  go_enter Tryz.func23, Tryz.ntmps23
  go_wp2_with fail
  refine (ValidModel_c s.mod _ _ HM.out).mono ?_
  rintro e w1 ⟨rfl, hg1⟩
  have hb1 := hg1.obj Hb0.out (by simp)
  have hfl1 := fld hb1
  have Hb1 := hid hb1; clear hb1 hfl
  cases h1 : validM s.mod
  · go_wp2_with fail
    go_ret
    exact ⟨ret_bool (by simp [validS, h1]), hg0.trans hg1⟩
  · go_wp2_with fail
    refine (within_c _ _ _ _).mono ?_
    rintro e w2 ⟨rfl, rfl⟩
    cases h2 : inB 1 12 s.lv.length
    · go_wp2_with fail
      go_ret
      exact ⟨ret_bool (by simp [validS, h1, h2]), hg0.trans hg1⟩
    · go_wp2_with fail
      refine (containsRow_c s.lv (fun r => !lvOk s.mod.doms.length r) _ 70 _ _ (HL.out.gr hg1) (fun _ _ => by kernel_rfl) ?_).mono ?_
      · intro c cv w2 _ hg2 hcv
        exact ValidStoreLit_c c s.mod.doms cv _ _ _ _ w2 hcv (hg2.obj Hb1.out (by simp)) (((HM.out.parts).1.gr hg1).gr hg2)
      rintro e w2 ⟨rfl, hg2⟩
      go_wp2_with fail
      go_ret
      exact ⟨ret_bool (by simp only [validS, h1, h2, anyG, Bool.true_and]; rw [List.all_eq_not_any_not]), (hg0.trans hg1).trans hg2⟩

set_option maxRecDepth 100000 in
set_option maxHeartbeats 1000000 in
theorem current_c (s : Sto) (r : List Int) (v : Value) (w : World) (hv : StoV [] w v s) (hl : s.lv.length ≤ 12) (hr : s.lv[s.lv.length - 1]? = some r) :
    Calls Tryz.prog 41 #[v] w fun e w' => ∃ v', e = .returned v' ∧ Nums [] w' .i64 v' r ∧ Gr [] w w' := by
  obtain ⟨xo, xc, co, cc, lo, lc, rfl, hm, hlv⟩ := hv.open
  have hg0 : Gr [] w (w.alloc (.cells #[.slice xo s.mod.doms.length xc, .slice co s.mod.cons.length cc, .slice lo s.lv.length lc] 29)) := (Gr.refl _ _).alloc _
  have hb0 := sto3 w (.slice xo s.mod.doms.length xc) (.slice co s.mod.cons.length cc) (.slice lo s.lv.length lc)
  have hlt : s.lv.length - 1 < s.lv.length := (List.getElem?_eq_some_iff.1 hr).1
  obtain ⟨b, o, u, rfl, hu, hn⟩ := (hlv.gr hg0).at0 hr
  obtain ⟨n, hn1⟩ : ∃ n, s.lv.length = n + 1 := ⟨s.lv.length - 1, by omega⟩
  obtain ⟨uo, uc, rfl⟩ : ∃ uo uc, u = .slice uo r.length uc := by obtain ⟨a, c, e, -⟩ := hn; exact ⟨a, c, e⟩
  have hfl := fld hb0
  rw [show s.lv.length - 1 = n by omega] at hu
  have Hn := hid hn
  rw [hn1] at hu hfl hg0 hl ⊢
  rw [hn1] at Hn
  have Hg0 := hid hg0
  clear hb0 hm hlv hv hn hr hlt hn1 hg0
  go_enter Tryz.func41, Tryz.ntmps41
  go_wp2_with fail
  go_ret
  exact ⟨_, rfl, Hn.out, Hg0.out⟩

end Go.Proofs.YtihkeihnpiddoaaGreat
