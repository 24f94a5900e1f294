/-
  Walks of the checks of a solution, for whatever assignment: the program's and the reference's.
  Walks of the program's CountSolutions, SolveAll, DomainHas.
  Walks of the exchange of variables: the program's.
  Walk of FnExactCountSolutions.
  Rows that lie each in a block of its own: marks upon them; SolveAll's result.
-/
import Derived.Test.YtlekngkcifgonaaGreatXSiSf
import Derived.Test.YtlekngkcifgonaaGreatXEO
import Derived.Deep.RegionHeld3
import Derived.Test.YtlekngkcifgonaaGreatXSj
import Derived.StillTailTactics
import Derived.Test.YtlekngkcifgonaaGreatXEG
import Derived.Deep.RegionLaw
set_option linter.unusedVariables false
namespace Go.Proofs.YtlekngkcifgonaaGreat
open Go.RowKit

theorem ConsV.at2' {S : List Nat} {w : World} {ao : Option Addr} {n cap : Nat} {cs : List Con} (h : ConsV S w (.slice ao n cap) cs) {k : Nat} {c : Con} (hi : cs[k]? = some c) :
    ∃ b o vo vc xo xc ro rc, ao = some ⟨b, o, none⟩ ∧ b ∉ S ∧ (w.cell? ⟨b, o + k * 5, none⟩ = some (.int .i64 c.kind) ∧ w.cell? ⟨b, o + k * 5 + 1, none⟩ = some (.slice vo c.vars.length vc) ∧ w.cell? ⟨b, o + k * 5 + 2, none⟩ = some (.slice xo c.args.length xc) ∧
     w.cell? ⟨b, o + k * 5 + 3, none⟩ = some (.int .i64 c.bound) ∧ w.cell? ⟨b, o + k * 5 + 4, none⟩ = some (.slice ro c.rows.length rc)) ∧ ConV S w (.agg #[.int .i64 c.kind, .slice vo c.vars.length vc, .slice xo c.args.length xc, .int .i64 c.bound, .slice ro c.rows.length rc]) c := by
  obtain ⟨ao', cap', e, _, hc⟩ := h
  simp only [Value.slice.injEq] at e
  obtain ⟨rfl, _, _⟩ := e
  exact hc.at2 hi
/-- The values of the first n variables lie in their domains. -/
def okN (D : List Nat) (xs : List Int) (n : Nat) : Prop := ∀ (j d : Nat) (x : Int), j < n → D[j]? = some d → xs[j]? = some x → d.testBit x.toNat = true
theorem in_of_ok {D : List Nat} {xs : List Int} (hl : xs.length = D.length) (hr : ∀ x ∈ xs, 0 ≤ x ∧ x ≤ 5) (h : okN D xs xs.length) : In xs D := by
  refine In.of hl fun i hi => ?_
  obtain ⟨x, hx⟩ := get_some (xs := xs) (k := i) (by omega)
  obtain ⟨d, hd⟩ := get_some hi
  have h1 := hr x (List.mem_of_getElem? hx)
  obtain ⟨n, rfl⟩ := Int.eq_ofNat_of_zero_le h1.1
  refine ⟨n, hx, by omega, ?_⟩
  have := h i d n (by omega) hd hx
  simpa [List.getD_eq_getElem?_getD, hd] using this
theorem not_in {D : List Nat} {xs : List Int} {i d : Nat} {v : Nat} (hd : D[i]? = some d) (hx : xs[i]? = some (v : Int)) (hb : d.testBit v = false) : ¬ In xs D := by
  intro h
  obtain ⟨n, h1, _, h2⟩ := h.get (i := i) (List.getElem?_eq_some_iff.1 hd).1
  rw [hx] at h1
  have : v = n := by simp at h1; omega
  subst this
  rw [List.getD_eq_getElem?_getD, hd] at h2
  simp at h2
  rw [hb] at h2; cases h2
def isB (cs : List Con) (D : List Nat) (xs : List Int) : Bool := decide (xs ∈ sols cs D)
theorem isB_false {cs : List Con} {D : List Nat} {xs : List Int} (h : ¬ In xs D) : isB cs D xs = false := decide_eq_false fun hm => h (mem_sols.1 hm).1
theorem isB_in {cs : List Con} {D : List Nat} {xs : List Int} (h : In xs D) : isB cs D xs = solB cs xs := by
  unfold isB
  cases hs : solB cs xs
  · exact decide_eq_false fun hm => by have := solB_iff.2 (mem_sols.1 hm).2; rw [hs] at this; cases this
  · exact decide_eq_true (mem_sols.2 ⟨h, solB_iff.1 hs⟩)

set_option maxRecDepth 100000 in
set_option maxHeartbeats 1000000 in
theorem isSolutionG_c (m : Mod) (D : List Nat) (xs : List Int) (mv xv : Value) (w : World) (hv : ModV [] w mv m) (hVM : VM m D) (hx : Nums [] w .i64 xv xs) (hxl : xs.length = D.length) (hr : ∀ x ∈ xs, 0 ≤ x ∧ x ≤ 5) :
    Calls Tryz.prog 88 #[mv, xv] w fun e w' => e = .returned (.bool (isB m.cons D xs)) ∧ Gr [] w w' := by
  obtain ⟨dv, cv, rfl, hdv, hcv⟩ := hv
  have hdv : Nums [] w .i64 dv (ints D) := hVM.doms ▸ hdv
  obtain ⟨do_, dc, rfl, ⟨hd1, hd2, _⟩, _⟩ := id hdv
  have Hx := hid hx
  obtain ⟨xo, xc, rfl, ⟨hx1, hx2, _⟩, _⟩ := hx
  have hdl := ints_len D
  have hg0 : Gr [] w ((w.alloc (.cells #[.slice do_ (ints D).length dc, cv] 26)).alloc (.cells #[.slice xo xs.length xc] 23)) := ((Gr.refl _ _).alloc _).alloc _
  have hb0 : ((w.alloc (.cells #[.slice do_ (ints D).length dc, cv] 26)).alloc (.cells #[.slice xo xs.length xc] 23)).heap[w.heap.size]? = some (.cells #[.slice do_ (ints D).length dc, cv] 26 (0, 0)) := (heap_alloc_old _ _ (by simp)).trans (heap_alloc_new _ _)
  have hx0 : ((w.alloc (.cells #[.slice do_ (ints D).length dc, cv] 26)).alloc (.cells #[.slice xo xs.length xc] 23)).heap[w.heap.size + 1]? = some (.cells #[.slice xo xs.length xc] 23 (0, 0)) := by
    have := heap_alloc_new (w.alloc (.cells #[.slice do_ (ints D).length dc, cv] 26)) (.cells #[.slice xo xs.length xc] 23)
    rwa [World.size_alloc] at this
  have HG0 := hid hg0; have Hb0 := hid hb0; have Hx0 := hid hx0; have Hd := hid (hdv.gr hg0); have Hxx := hid (Hx.out.gr hg0); have Hcv := hid (hcv.gr hg0)
  have HV := hid hVM; have HXL := hid hxl; have HDL := hid hdl; have HR := hid hr
  have fl0 := fld hb0
  have flx := fld hx0
  have hl4 := hVM.len.2
  have hdn : (ints D).length ≤ 4 := by omega
  have hxn : xs.length ≤ 4 := by omega
  have hdx : xs.length ≤ (ints D).length := by omega
  have hxd : (ints D).length ≤ xs.length := by omega
  clear hg0 hb0 hx0 hdv hcv hVM hxl hdl hr hl4
  go_enter Tryz.func88, Tryz.ntmps88
  go_wp2_with fail
  go_loopw [9] (fun i wr => ∃ n : Nat, n ≤ xs.length ∧ i = .int .i64 n ∧ okN D xs n ∧ Gr [] ((w.alloc (.cells #[.slice do_ (ints D).length dc, cv] 26)).alloc (.cells #[.slice xo xs.length xc] 23)) wr) (fun i _ => xs.length - (intOf i).toNat)
  case atStart => exact ⟨0, by omega, rfl, fun j d x h => by omega, Gr.refl _ _⟩
  case round =>
    obtain ⟨n, hn, rfl, hok, hg⟩ := hrel
    have flr := fld (hg.obj Hb0.out (by simp))
    have flxr := fld (hg.obj Hx0.out (by simp))
    have Hg := hid hg; have Hok := hid hok
    clear hok
    by_cases hlt : n < xs.length
    · obtain ⟨y, hy⟩ := get_some hlt
      have hyr := HR.out y (List.mem_of_getElem? hy)
      obtain ⟨v, rfl⟩ := Int.eq_ofNat_of_zero_le hyr.1
      have hv6 : v < 6 := by omega
      obtain ⟨d, hd⟩ := get_some (xs := D) (k := n) (by have := HXL.out; omega)
      have hd64 := HV.out.below d (List.mem_of_getElem? hd)
      obtain ⟨b1, o1, rfl, _, hc1⟩ := (Hxx.out.gr hg).at hy
      obtain ⟨b2, o2, rfl, _, hc2⟩ := (Hd.out.gr hg).at (i := n) (x := (d : Int)) (by rw [ints_get, hd]; rfl)
      have hnd : n < (ints D).length := by omega
      have Hy := hid hy; have Hdd := hid hd
      clear hg hd hy hyr
      go_wp2_with fail
      have hcall := has_c d v hd64 hv6 wr
      (with_reducible refine hcall.mono ?_)
      clear hcall
      cases hvd : d.testBit v
      · have Hvd := hid hvd
        rintro e w' ⟨rfl, rfl⟩
        clear hvd
        go_wp2_with fail
        go_ret
        exact ⟨ret_bool (isB_false (not_in Hdd.out Hy.out Hvd.out)).symm, HG0.out.trans Hg.out⟩
      · have Hvd := hid hvd
        rintro e w' ⟨rfl, rfl⟩
        clear hvd
        go_wp2_with fail
        refine ⟨⟨n + 1, by omega, by go_num, ?_, Hg.out⟩, by simp [intOf]; omega⟩
        intro j d' x hj hd' hx'
        by_cases hjn : j = n
        · subst hjn
          have h1 := Hdd.out; rw [hd'] at h1; cases h1
          have h2 := Hy.out; rw [hx'] at h2; cases h2
          simpa using Hvd.out
        · exact Hok.out j d' x (by omega) hd' hx'
    · clear hg
      have hin : In xs D := in_of_ok HXL.out HR.out (by have := Hok.out; rwa [show n = xs.length by omega] at this)
      have HI := hid hin
      clear hin
      go_wp2_with fail
      have hcall := containsCon_c m.cons (fun c => !satB c (word c.vars xs)) _ 170 #[.pointer (some ⟨w.heap.size + 1, 0, none⟩)] wr (Hcv.out.gr Hg.out) (fun _ _ => by kernel_rfl) (fun c cv3 w3 hm hg3 hcv3 => isSolutionLit_c c xs cv3 _ _ w3 hcv3 ((Hg.out.trans hg3).obj Hx0.out (by simp)) ((Hxx.out.gr Hg.out).gr hg3) (by rw [HXL.out]; exact HV.out.cons c hm) HR.out)
      (with_reducible refine hcall.mono ?_)
      clear hcall
      rintro e w3 ⟨rfl, hg3⟩
      go_wp2_with fail
      go_ret
      exact ⟨ret_bool (by rw [isB_in HI.out, solB_any]), (HG0.out.trans Hg.out).trans hg3⟩

theorem project_c (c : Con) (x : List Int) (cv xv : Value) (w : World) (hv : ConV [] w cv c) (hx : Nums [] w .i64 xv x) (hl : c.vars.length ≤ 2000000) (hin : ∀ v ∈ c.vars, 0 ≤ v ∧ v < x.length) :
    Calls Tryz.prog 161 #[cv, xv] w fun e w' => ∃ v, e = .returned v ∧ Own w.heap.size w' 3 v (word c.vars x) ∧ Gr [] w w' := by
  obtain ⟨vv, av, rv, rfl, hvv, hav, hrv⟩ := hv
  have hg0 : Gr [] w (w.alloc (.cells #[.int .i64 c.kind, vv, av, .int .i64 c.bound, rv] 55)) := (Gr.refl _ _).alloc _
  have hb0 : (w.alloc (.cells #[.int .i64 c.kind, vv, av, .int .i64 c.bound, rv] 55)).heap[w.heap.size]? = some (.cells #[.int .i64 c.kind, vv, av, .int .i64 c.bound, rv] 55 (0, 0)) := heap_alloc_new _ _
  have Hvv := hid hvv; have Hxx := hid hx
  obtain ⟨vo, vc, rfl, ⟨hv1, hv2, _⟩, _⟩ := hvv
  obtain ⟨xo, xc, rfl, ⟨hx1, hx2, _⟩, _⟩ := hx
  have Hin := hid hin
  clear hin hav hrv
  have hfl := fld hb0
  have hfl1 := fld ((((Gr.refl [] _).alloc (.cells #[] 3))).obj hb0 (by simp))
  have Hb0 := hid hb0; have Hg0 := hid hg0; clear hb0 hg0
  go_enter Tryz.func161, Tryz.ntmps161
  go_wp2_with fail
  go_loopw [5, 6] (fun v i wr => ∃ n : Nat, n ≤ c.vars.length ∧ i = .int .i64 n ∧ Own (w.heap.size + 1) wr 3 v (word (c.vars.take n) x) ∧ Gr [] (w.alloc (.cells #[.int .i64 c.kind, .slice vo c.vars.length vc, av, .int .i64 c.bound, rv] 55)) wr) (fun _ i _ => c.vars.length - (intOf i).toNat)
  case atStart => exact ⟨0, Nat.zero_le _, rfl, by have h := Own.empty (B := w.heap.size + 1) (w.alloc (.cells #[.int .i64 c.kind, .slice vo c.vars.length vc, av, .int .i64 c.bound, rv] 55)) 3 (by simp); rw [World.size_alloc] at h; exact h, (Gr.refl _ _).alloc _⟩
  case round =>
    obtain ⟨n, hn, rfl, hown, hg⟩ := hrel
    have flr := fld (hg.obj Hb0.out (by simp))
    by_cases hlt : n < c.vars.length
    · obtain ⟨v, hv⟩ := get_some hlt
      have hvr := Hin.out v (List.mem_of_getElem? hv)
      obtain ⟨v, rfl⟩ := Int.eq_ofNat_of_zero_le hvr.1
      obtain ⟨y, hy⟩ := get_some (show v < x.length by omega)
      obtain ⟨b, o, rfl, _, h0⟩ := ((Hvv.out.gr Hg0.out).gr hg).at hv
      obtain ⟨b', o', rfl, _, h1⟩ := ((Hxx.out.gr Hg0.out).gr hg).at hy
      have HV := hid hv; have HY := hid hy; clear hv hy
      have hvx : v < x.length := by omega
      have hwl : (word (c.vars.take n) x).length ≤ 1000000000000 := by simp [word]; omega
      have Hwl := hid hwl; clear hwl
      have Hown := hid hown; have Hg := hid hg
      have hsz : w.heap.size + 1 ≤ wr.heap.size := by have := hg.size; simp at this; omega
      clear hown hg hfl hfl1
      go_wp2_with (at_builtin; refine wp_app1 rfl _ _ 23 rfl (w.heap.size + 1) 3 infoI Tryz.underlying23 _ (word (c.vars.take n) x) rfl (Hown.out.alloc _) _ 1 y rfl (cell_one _ _ _) Hwl.out (by simp; omega) ?_; intro v' w2 hown2 hb2)
      have hgn : Gr [] (w.alloc (.cells #[.int .i64 c.kind, .slice (some ⟨b, o, none⟩) c.vars.length vc, av, .int .i64 c.bound, rv] 55)) w2 := (Hg.out.alloc _).low hb2 (by simp)
      refine ⟨⟨n + 1, by omega, by go_num, ?_, hgn⟩, by simp [intOf]; omega⟩
      rw [word_snoc HV.out (by simpa using HY.out)]
      exact hown2
    · go_wp2_with fail
      go_ret
      refine ⟨_, rfl, ?_, Hg0.out.trans hg⟩
      rw [List.take_of_length_le (by omega)] at hown
      exact hown.le (by omega)

theorem domainHas_o {d : Nat} {v : Int} (hd : d < 64) (hv : ¬ (0 ≤ v ∧ v ≤ 5)) (w : World) : Calls Tryz.prog 159 #[.int .i64 d, .int .i64 v] w fun e w' => e = .returned (.bool false) ∧ w' = w := by
  have := domainHas_c d v hd w
  rwa [show hasB d v = false by unfold hasB; rw [show inB 0 5 v = false by rw [Bool.eq_false_iff]; intro h; exact hv (inB_iff.1 h)]; rfl] at this
set_option maxRecDepth 100000 in
set_option maxHeartbeats 1000000 in
theorem specIsSol_any (m : Mod) (D : List Nat) (xs : List Int) (mv xv : Value) (w : World) (hv : ModV [] w mv m) (hVM : VM m D) (hx : Nums [] w .i64 xv xs) (hxl : xs.length = D.length) :
    Calls Tryz.prog 77 #[mv, xv] w fun e w' => e = .returned (.bool (isB m.cons D xs)) ∧ Gr [] w w' := by
  obtain ⟨dv, cv, rfl, hdv, hcv⟩ := hv
  have hdv : Nums [] w .i64 dv (ints D) := hVM.doms ▸ hdv
  obtain ⟨do_, dc, rfl, ⟨hd1, hd2, _⟩, _⟩ := id hdv
  have Hx := hid hx
  obtain ⟨xo, xc, rfl, ⟨hx1, hx2, _⟩, _⟩ := hx
  have hdl := ints_len D
  have Hc0 := hid hcv
  obtain ⟨co, cc, rfl, ⟨hc1, hc2⟩, _⟩ := hcv.open
  have hg0 : Gr [] w (w.alloc (.cells #[.slice do_ (ints D).length dc, .slice co m.cons.length cc] 26)) := (Gr.refl _ _).alloc _
  have hb0 : (w.alloc (.cells #[.slice do_ (ints D).length dc, .slice co m.cons.length cc] 26)).heap[w.heap.size]? = some (.cells #[.slice do_ (ints D).length dc, .slice co m.cons.length cc] 26 (0, 0)) := heap_alloc_new _ _
  have HG0 := hid hg0; have Hb0 := hid hb0; have Hd := hid (hdv.gr hg0); have Hxx := hid (Hx.out.gr hg0); have Hcv := hid (Hc0.out.gr hg0)
  have HV := hid hVM; have HXL := hid hxl; have HDL := hid hdl
  have fl0 := fld hb0
  have hl4 := hVM.len.2
  have hdn : (ints D).length ≤ 4 := by omega
  have hxn : xs.length ≤ 4 := by omega
  have hdx : xs.length ≤ (ints D).length := by omega
  have hxd : (ints D).length ≤ xs.length := by omega
  clear hg0 hb0 hdv hcv hVM hxl hdl hl4
  go_enter Tryz.func77, Tryz.ntmps77
  go_wp2_with fail
  go_loopw [5] (fun i wr => ∃ n : Nat, n ≤ xs.length ∧ i = .int .i64 n ∧ (okN D xs n ∧ ∀ (j : Nat) (x : Int), j < n → xs[j]? = some x → 0 ≤ x ∧ x ≤ 5) ∧ Gr [] (w.alloc (.cells #[.slice do_ (ints D).length dc, .slice co m.cons.length cc] 26)) wr) (fun i _ => xs.length - (intOf i).toNat)
  case atStart => exact ⟨0, by omega, rfl, ⟨fun j d x h => by omega, fun j x h => by omega⟩, Gr.refl _ _⟩
  case round =>
    obtain ⟨n, hn, rfl, hok, hg⟩ := hrel
    have flr := fld (hg.obj Hb0.out (by simp))
    have Hg := hid hg; have Hok := hid hok
    clear hok
    by_cases hlt : n < xs.length
    · obtain ⟨y, hy⟩ := get_some hlt
      obtain ⟨d, hd⟩ := get_some (xs := D) (k := n) (by have := HXL.out; omega)
      have hd64 := HV.out.below d (List.mem_of_getElem? hd)
      by_cases hyr : 0 ≤ y ∧ y ≤ 5
      rotate_left
      · obtain ⟨b1, o1, rfl, _, hc1⟩ := (Hxx.out.gr hg).at hy
        obtain ⟨b2, o2, rfl, _, hc2⟩ := (Hd.out.gr hg).at (i := n) (x := (d : Int)) (by rw [ints_get, hd]; rfl)
        have hnd : n < (ints D).length := by omega
        have Hy := hid hy; have Hyr := hid hyr
        clear hg hd hy hyr
        go_wp2_with fail
        go_quiet ((go_at_call 159; exact Calls.quiet_of_same (domainHas_o hd64 Hyr.out _)))
        go_wp2_with fail
        go_ret
        exact ⟨ret_bool (isB_false (fun hin => Hyr.out (tups_val hin y (List.mem_of_getElem? Hy.out)))).symm, (HG0.out.trans Hg.out).drewN _⟩
      have Hyr := hid hyr
      obtain ⟨v, rfl⟩ := Int.eq_ofNat_of_zero_le hyr.1
      have hv6 : v < 6 := by omega
      obtain ⟨b1, o1, rfl, _, hc1⟩ := (Hxx.out.gr hg).at hy
      obtain ⟨b2, o2, rfl, _, hc2⟩ := (Hd.out.gr hg).at (i := n) (x := (d : Int)) (by rw [ints_get, hd]; rfl)
      have hnd : n < (ints D).length := by omega
      have Hy := hid hy; have Hdd := hid hd
      clear hg hd hy hyr
      cases hvd : d.testBit v
      · have Hvd := hid hvd
        clear hvd
        go_wp2_with fail
        go_quiet ((go_at_call 159; exact Calls.quiet_of_same (domainHas_f hd64 hv6 Hvd.out _)))
        go_wp2_with fail
        go_ret
        exact ⟨ret_bool (isB_false (not_in Hdd.out Hy.out Hvd.out)).symm, (HG0.out.trans Hg.out).drewN _⟩
      · have Hvd := hid hvd
        clear hvd
        go_wp2_with fail
        go_quiet ((go_at_call 159; exact Calls.quiet_of_same (domainHas_t hd64 hv6 Hvd.out _)))
        go_wp2_with fail
        refine ⟨⟨n + 1, by omega, by go_num, ⟨?_, ?_⟩, Hg.out.drewN _⟩, by simp [intOf]; omega⟩
        · intro j d' x hj hd' hx'
          by_cases hjn : j = n
          · subst hjn
            have h1 := Hdd.out; rw [hd'] at h1; cases h1
            have h2 := Hy.out; rw [hx'] at h2; cases h2
            simpa using Hvd.out
          · exact Hok.out.1 j d' x (by omega) hd' hx'
        · intro j x hj hx'
          by_cases hjn : j = n
          · subst hjn
            have h2 := Hy.out; rw [hx'] at h2; cases h2
            exact Hyr.out
          · exact Hok.out.2 j x (by omega) hx'
    · clear hg
      have hnx : n = xs.length := by omega
      have HR : Hid (∀ x ∈ xs, 0 ≤ x ∧ x ≤ 5) := hid fun x hx => by
        obtain ⟨j, hj⟩ := List.mem_iff_getElem?.1 hx
        exact Hok.out.2 j x (by have := (List.getElem?_eq_some_iff.1 hj).1; omega) hj
      have hin : In xs D := in_of_ok HXL.out HR.out (by have := Hok.out.1; rwa [hnx] at this)
      clear hnx
      have HI := hid hin
      have hgw : Gr [] w wr := HG0.out.trans Hg.out
      have HM := hid (Hcv.out.gr Hg.out); have HX := hid (Hxx.out.gr Hg.out); have Hbr := hid (Hg.out.obj Hb0.out (by simp)); have Hgw := hid hgw
      clear hin fl0 hgw
      generalize wr = wo at *
      go_wp2_with fail
      go_loopw [6] (fun i wq => ∃ n : Nat, n ≤ m.cons.length ∧ i = .int .i64 n ∧ (∀ c ∈ m.cons.take n, satB c (word c.vars xs) = true) ∧ Gr [] wo wq) (fun i _ => m.cons.length - (intOf i).toNat)
      case atStart => exact ⟨0, by omega, rfl, by simp, Gr.refl _ _⟩
      case round =>
        obtain ⟨k, hk, rfl, hok, hg⟩ := hrel
        have flq := fld (hg.obj Hbr.out (by simp))
        have hbq := hg.obj Hbr.out (by simp)
        have Hgi := hid hg; have Hok := hid hok
        clear hok flr
        by_cases hlt2 : k < m.cons.length
        · obtain ⟨c, hc⟩ := get_some hlt2
          have hvc := HV.out.cons c (List.mem_of_getElem? hc)
          obtain ⟨b, o, vo, vc, xo', xc', ro, rc, rfl, _, ⟨c0, c1, c2, c3, c4⟩, hcon⟩ := (HM.out.gr hg).at2' hc
          have HS : Hid (∀ w', Gr [] wr w' → (w'.cell? ⟨w.heap.size, 1, none⟩ = some (.slice (some ⟨b, o, none⟩) m.cons.length cc) ∧ w'.cell? ⟨b, o + k * 5, none⟩ = some (.int .i64 c.kind) ∧ w'.cell? ⟨b, o + k * 5 + 1, none⟩ = some (.slice vo c.vars.length vc) ∧ w'.cell? ⟨b, o + k * 5 + 2, none⟩ = some (.slice xo' c.args.length xc') ∧ w'.cell? ⟨b, o + k * 5 + 3, none⟩ = some (.int .i64 c.bound) ∧ w'.cell? ⟨b, o + k * 5 + 4, none⟩ = some (.slice ro c.rows.length rc)) ∧ Gr [] wr w') :=
            hid fun w' h => ⟨⟨by have := fld (h.obj hbq (by simp)) 1; exact this, h.cell c0 (by simp), h.cell c1 (by simp), h.cell c2 (by simp), h.cell c3 (by simp), h.cell c4 (by simp)⟩, h⟩
          have Hcon := hid hcon; have Hvc := hid hvc; have Hc := hid hc
          have hvc' : Hid (VC c xs.length) := hid (by rw [HXL.out]; exact hvc)
          have HXq := hid (HX.out.gr hg)
          clear hg hcon hvc hc hbq
          go_wp2_with fail
          go_region_held3 (fun w' => (w'.cell? ⟨w.heap.size, 1, none⟩ = some (.slice (some ⟨b, o, none⟩) m.cons.length cc) ∧ w'.cell? ⟨b, o + k * 5, none⟩ = some (.int .i64 c.kind) ∧ w'.cell? ⟨b, o + k * 5 + 1, none⟩ = some (.slice vo c.vars.length vc) ∧ w'.cell? ⟨b, o + k * 5 + 2, none⟩ = some (.slice xo' c.args.length xc') ∧ w'.cell? ⟨b, o + k * 5 + 3, none⟩ = some (.int .i64 c.bound) ∧ w'.cell? ⟨b, o + k * 5 + 4, none⟩ = some (.slice ro c.rows.length rc)) ∧ Gr [] wr w')
            (first | exact HS.out _ ((Gr.refl [] _).drew) | (go_split_ands; exact HS.out _ (Gr.trans (by assumption) hg3)) | (go_split_ands; exact HS.out _ (Gr.trans (by assumption) hg2)))
            (first
              | (go_at_call 161; go_split_ands; refine (project_c c xs _ _ _ (Hcon.out.gr (by assumption)) (HXq.out.gr (by assumption)) (by have := hvc'.out.k; have := hvc'.out.n4; omega) hvc'.out.rng).mono ?_; rintro e w2 ⟨v2, rfl, hown2, hg2⟩)
              | (go_at_call 160; go_split_ands; refine (satisfies_c c (word c.vars xs) _ _ _ (Hcon.out.gr (by assumption)) (hown2.nums (by simp)) (fit_word hvc'.out HR.out)).mono ?_; rintro e w3 ⟨rfl, hg3⟩))
          all_goals
            cases hsat : satB c (word c.vars xs)
            · have Hsat := hid hsat
              clear hsat
              go_wp2_with fail
              go_ret
              exact ⟨ret_bool (by rw [isB_in HI.out]; symm; unfold solB; rw [List.all_eq_false]; exact ⟨c, List.mem_of_getElem? Hc.out, by rw [Hsat.out]; simp⟩), (Hgw.out.trans Hgi.out).trans (Gr.trans (by assumption) hg3)⟩
            · have Hsat := hid hsat
              clear hsat
              go_wp2_with fail
              refine ⟨⟨k + 1, by omega, by go_num, ?_, Hgi.out.trans (Gr.trans (by assumption) hg3)⟩, by simp [intOf]; omega⟩
              intro c' hc'
              rw [List.take_add_one, Hc.out] at hc'
              rcases List.mem_append.1 hc' with h | h
              · exact Hok.out c' h
              · simp at h; subst h; exact Hsat.out
        · have hall : solB m.cons xs = true := by
            unfold solB
            rw [List.all_eq_true]
            have := Hok.out
            rwa [List.take_of_length_le (by omega)] at this
          have Hall := hid hall
          clear hg hall
          go_wp2_with fail
          go_ret
          exact ⟨ret_bool (by rw [isB_in HI.out, Hall.out]), Hgw.out.trans Hgi.out⟩
end Go.Proofs.YtlekngkcifgonaaGreat

set_option linter.unusedVariables false
namespace Go.Proofs.YtlekngkcifgonaaGreat
open Go.RowKit

end Go.Proofs.YtlekngkcifgonaaGreat

set_option linter.unusedVariables false
namespace Go.Proofs.YtlekngkcifgonaaGreat
open Go.RowKit

/-- A list of numbers in a block of its own, none of it frozen. -/
def InB (b : Nat) (W : World) (v : Value) (x : List Int) : Prop := NumsM (fun k => k = b) W v x

theorem RowsD.at {B : Nat} {w : World} {ao : Option Addr} {n cap : Nat} {rows : List (List Int)} (h : RowsD B w (.slice ao n cap) rows) :
    ∃ gs : List Nat, gs.Nodup ∧ gs.length = rows.length ∧ (∀ b ∈ gs, B ≤ b ∧ b < w.heap.size) ∧ ∀ (i : Nat) r, rows[i]? = some r → ∃ g b c, ao = some ⟨g, 0, none⟩ ∧ gs[i]? = some b ∧ (B ≤ g ∧ g < w.heap.size) ∧ (B ≤ b ∧ b < w.heap.size) ∧ g ∉ gs ∧
      w.cell? ⟨g, i, none⟩ = some (.slice (some ⟨b, 0, none⟩) r.length c) ∧ (∀ j, w.frozen? ⟨g, j, none⟩ = false) ∧ InB b w (.slice (some ⟨b, 0, none⟩) r.length c) r := by
  obtain ⟨ao', cap', e, hl, gs, h1, h2, h3⟩ := h
  simp only [Value.slice.injEq] at e
  obtain ⟨rfl, _, _⟩ := e
  refine ⟨gs, h1, h2, fun b hb => ?_, fun i r hi => ?_⟩
  · obtain ⟨i, hi⟩ := List.mem_iff_getElem?.1 hb
    obtain ⟨r, hr⟩ := get_some (xs := rows) (k := i) (by have := (List.getElem?_eq_some_iff.1 hi).1; omega)
    obtain ⟨g, b', c, _, e2, _, hbb, _⟩ := h3 i r hr
    rw [hi] at e2; cases e2; exact hbb
  · obtain ⟨g, b, c, e1, e2, k1, k2, k3, k4, k5, k6, k7, k8⟩ := h3 i r hi
    exact ⟨g, b, c, e1, e2, k1, k2, k3, k4, k6, _, _, rfl, ⟨k5.1, k5.2, by simp⟩, fun j y hy => ⟨b, 0, rfl, rfl, by rw [Nat.zero_add]; exact k8 j y hy, by rw [Nat.zero_add]; exact k7 j⟩⟩

end Go.Proofs.YtlekngkcifgonaaGreat

set_option linter.unusedVariables false
namespace Go.Proofs.YtlekngkcifgonaaGreat
open Go.RowKit

theorem ModV.slices {S : List Nat} {w : World} {v : Value} {m : Mod} (h : ModV S w v m) : ∃ a b c d, v = .agg #[.slice a m.doms.length b, .slice c m.cons.length d] := by
  obtain ⟨dv, cv, rfl, ⟨a, b, rfl, _⟩, ⟨c, d, rfl, _⟩⟩ := h; exact ⟨a, b, c, d, rfl⟩
theorem openVM (m : Mod) : ∃ D, validM m = true → VM m D := by
  by_cases h : validM m = true
  · obtain ⟨D, h⟩ := validM_open h; exact ⟨D, fun _ => h⟩
  · exact ⟨[], fun h' => absurd h' h⟩
theorem New.mod {B : Nat} {w : World} {v : Value} {m : Mod} (h : ModM (New B w) w v m) : ModV [] w v m := h.mod (by simp)

end Go.Proofs.YtlekngkcifgonaaGreat

set_option linter.unusedVariables false
namespace Go.Proofs.YtlekngkcifgonaaGreat
open Go.RowKit

/-- Rows, each in a block of its own, between B and E. -/
def RowsE (B E : Nat) (w : World) (v : Value) (rows : List (List Int)) : Prop :=
  ∃ ao cap, v = .slice ao rows.length cap ∧ (rows.length ≤ cap ∧ cap ≤ 9223372036854775807 ∧ (ao = none → cap = 0)) ∧ ∃ gs : List Nat, gs.Nodup ∧ gs.length = rows.length ∧
    ∀ (i : Nat) r, rows[i]? = some r → ∃ g b c, ao = some ⟨g, 0, none⟩ ∧ gs[i]? = some b ∧ (B ≤ g ∧ g < E) ∧ (B ≤ b ∧ b < E) ∧ g ∉ gs ∧ w.cell? ⟨g, i, none⟩ = some (.slice (some ⟨b, 0, none⟩) r.length c) ∧
      (∀ j, w.frozen? ⟨g, j, none⟩ = false) ∧ InB b w (.slice (some ⟨b, 0, none⟩) r.length c) r
theorem RowsD.e {B : Nat} {w : World} {v : Value} {rows : List (List Int)} (h : RowsD B w v rows) : RowsE B w.heap.size w v rows := by
  obtain ⟨ao, cap, rfl, hl, _⟩ := id h
  obtain ⟨gs, h1, h2, _, h3⟩ := h.at
  exact ⟨ao, cap, rfl, hl, gs, h1, h2, h3⟩
theorem RowsE.keep {B E : Nat} {S : List Nat} {w w' : World} {v : Value} {rows : List (List Int)} (h : RowsE B E w v rows) (hg : Gr S w w') (hS : ∀ b ∈ S, b < B ∨ E ≤ b) : RowsE B E w' v rows := by
  obtain ⟨ao, cap, e, hl, gs, h1, h2, h3⟩ := h
  refine ⟨ao, cap, e, hl, gs, h1, h2, fun i r hi => ?_⟩
  obtain ⟨g, b, c, e1, e2, k1, k2, k3, k4, k5, k6⟩ := h3 i r hi
  have hgS : g ∉ S := fun hm => by have := hS g hm; omega
  have hlt := World.block_lt_of_cell? w _ k4
  exact ⟨g, b, c, e1, e2, k1, k2, k3, hg.cell k4 hgS, fun j => (hg.frozen (a := ⟨g, j, none⟩) hlt hgS).trans (k5 j), k6.gr' hg (fun q hq e => by have := hS q hq; omega) (fun _ _ h => h)⟩
theorem RowsE.rows {B E : Nat} {S : List Nat} {w : World} {v : Value} {rows : List (List Int)} (h : RowsE B E w v rows) (hS : ∀ b ∈ S, b < B ∨ E ≤ b) : RowsV S w v rows := by
  obtain ⟨ao, cap, e, hl, gs, h1, h2, h3⟩ := h
  refine ⟨ao, cap, e, hl, fun i r hi => ?_⟩
  obtain ⟨g, b, c, e1, e2, k1, k2, k3, k4, k5, k6⟩ := h3 i r hi
  exact ⟨g, 0, _, e1, fun hm => by have := hS g hm; omega, by rw [Nat.zero_add]; exact k4, k6.nums fun q hq e => by have := hS q hq; omega⟩
end Go.Proofs.YtlekngkcifgonaaGreat
