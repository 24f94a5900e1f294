/-
  Walks of the checks of a solution, for whatever assignment: the program's and the reference's.
  Walks of the program's CountSolutions, SolveAll, DomainHas.
  Walks of the exchange of variables: the program's.
  Walk of FnExactCountSolutions.
  Rows that lie each in a block of its own: marks upon them; SolveAll's result.
-/
import Derived.Test.YtihkeihnpiddoaaGreatDSiSf
import Derived.Test.YtihkeihnpiddoaaGreatDEO
import Derived.Deep.RegionHeld3
import Derived.Test.YtihkeihnpiddoaaGreatDSj
import Derived.StillTailTactics
import Derived.Test.YtihkeihnpiddoaaGreatDEG
import Derived.Deep.RegionLaw
set_option linter.unusedVariables false
namespace Go.Proofs.YtihkeihnpiddoaaGreat
open Go.RowKit

/-- The values of the first n variables lie in their domains. -/
def okN (D : List Nat) (xs : List Int) (n : Nat) : Prop := ∀ (j d : Nat) (x : Int), j < n → D[j]? = some d → xs[j]? = some x → d.testBit x.toNat = true
theorem in_of_ok {D : List Nat} {xs : List Int} (hl : xs.length = D.length) (hr : ∀ x ∈ xs, 0 ≤ x ∧ x ≤ 5) (h : okN D xs xs.length) : In xs D := by
  refine In.of hl fun i hi => ?_
  obtain ⟨x, hx⟩ := get_some (xs := xs) (k := i) (by omega)
  obtain ⟨d, hd⟩ := get_some hi
  have h1 := hr x (List.mem_of_getElem? hx)
  obtain ⟨n, rfl⟩ := Int.eq_ofNat_of_zero_le h1.1
  refine ⟨n, hx, by omega, ?_⟩
  have := h i d n (by omega) hd hx
  simpa [List.getD_eq_getElem?_getD, hd] using this
theorem not_in {D : List Nat} {xs : List Int} {i d : Nat} {v : Nat} (hd : D[i]? = some d) (hx : xs[i]? = some (v : Int)) (hb : d.testBit v = false) : ¬ In xs D := by
  intro h
  obtain ⟨n, h1, _, h2⟩ := h.get (i := i) (List.getElem?_eq_some_iff.1 hd).1
  rw [hx] at h1
  have : v = n := by simp at h1; omega
  subst this
  rw [List.getD_eq_getElem?_getD, hd] at h2
  simp at h2
  rw [hb] at h2; cases h2
def isB (cs : List Con) (D : List Nat) (xs : List Int) : Bool := decide (xs ∈ sols cs D)
theorem isB_false {cs : List Con} {D : List Nat} {xs : List Int} (h : ¬ In xs D) : isB cs D xs = false := decide_eq_false fun hm => h (mem_sols.1 hm).1
theorem isB_in {cs : List Con} {D : List Nat} {xs : List Int} (h : In xs D) : isB cs D xs = solB cs xs := by
  unfold isB
  cases hs : solB cs xs
  · exact decide_eq_false fun hm => by have := solB_iff.2 (mem_sols.1 hm).2; rw [hs] at this; cases this
  · exact decide_eq_true (mem_sols.2 ⟨h, solB_iff.1 hs⟩)

set_option maxRecDepth 100000 in
set_option maxHeartbeats 1000000 in
theorem isSolutionG_c (m : Mod) (D : List Nat) (xs : List Int) (mv xv : Value) (w : World) (hv : ModV [] w mv m) (hVM : VM m D) (hx : Nums [] w .i64 xv xs) (hxl : xs.length = D.length) (hr : ∀ x ∈ xs, 0 ≤ x ∧ x ≤ 5) :
    Calls Tryz.prog 125 #[mv, xv] w fun e w' => e = .returned (.bool (isB m.cons D xs)) ∧ Gr [] w w' := by
  obtain ⟨dv, cv, rfl, hdv, hcv⟩ := hv
  have hdv : Nums [] w .i64 dv (ints D) := hVM.doms ▸ hdv
  obtain ⟨do_, dc, rfl, ⟨hd1, hd2, _⟩, _⟩ := id hdv
  have Hx := hid hx
  obtain ⟨xo, xc, rfl, ⟨hx1, hx2, _⟩, _⟩ := hx
  have hdl := ints_len D
  have hg0 : Gr [] w ((w.alloc (.cells #[.slice do_ (ints D).length dc, cv] 26)).alloc (.cells #[.slice xo xs.length xc] 23)) := ((Gr.refl _ _).alloc _).alloc _
  have hb0 : ((w.alloc (.cells #[.slice do_ (ints D).length dc, cv] 26)).alloc (.cells #[.slice xo xs.length xc] 23)).heap[w.heap.size]? = some (.cells #[.slice do_ (ints D).length dc, cv] 26 (0, 0)) := (heap_alloc_old _ _ (by simp)).trans (heap_alloc_new _ _)
  have hx0 : ((w.alloc (.cells #[.slice do_ (ints D).length dc, cv] 26)).alloc (.cells #[.slice xo xs.length xc] 23)).heap[w.heap.size + 1]? = some (.cells #[.slice xo xs.length xc] 23 (0, 0)) := by
    have := heap_alloc_new (w.alloc (.cells #[.slice do_ (ints D).length dc, cv] 26)) (.cells #[.slice xo xs.length xc] 23)
    rwa [World.size_alloc] at this
  have HG0 := hid hg0; have Hb0 := hid hb0; have Hx0 := hid hx0; have Hd := hid (hdv.gr hg0); have Hxx := hid (Hx.out.gr hg0); have Hcv := hid (hcv.gr hg0)
  have HV := hid hVM; have HXL := hid hxl; have HDL := hid hdl; have HR := hid hr
  have fl0 := fld hb0
  have flx := fld hx0
  have hl4 := hVM.len.2
  have hdn : (ints D).length ≤ 4 := by omega
  have hxn : xs.length ≤ 4 := by omega
  have hdx : xs.length ≤ (ints D).length := by omega
  have hxd : (ints D).length ≤ xs.length := by omega
  clear hg0 hb0 hx0 hdv hcv hVM hxl hdl hr hl4
  go_enter Tryz.func125, Tryz.ntmps125
  go_wp2_with fail
  go_loopw [9] (fun i wr => ∃ n : Nat, n ≤ xs.length ∧ i = .int .i64 n ∧ okN D xs n ∧ Gr [] ((w.alloc (.cells #[.slice do_ (ints D).length dc, cv] 26)).alloc (.cells #[.slice xo xs.length xc] 23)) wr) (fun i _ => xs.length - (intOf i).toNat)
  case atStart => exact ⟨0, by omega, rfl, fun j d x h => by omega, Gr.refl _ _⟩
  case round =>
    obtain ⟨n, hn, rfl, hok, hg⟩ := hrel
    have flr := fld (hg.obj Hb0.out (by simp))
    have flxr := fld (hg.obj Hx0.out (by simp))
    have Hg := hid hg; have Hok := hid hok
    clear hok
    by_cases hlt : n < xs.length
    · obtain ⟨y, hy⟩ := get_some hlt
      have hyr := HR.out y (List.mem_of_getElem? hy)
      obtain ⟨v, rfl⟩ := Int.eq_ofNat_of_zero_le hyr.1
      have hv6 : v < 6 := by omega
      obtain ⟨d, hd⟩ := get_some (xs := D) (k := n) (by have := HXL.out; omega)
      have hd64 := HV.out.below d (List.mem_of_getElem? hd)
      obtain ⟨b1, o1, rfl, _, hc1⟩ := (Hxx.out.gr hg).at hy
      obtain ⟨b2, o2, rfl, _, hc2⟩ := (Hd.out.gr hg).at (i := n) (x := (d : Int)) (by rw [ints_get, hd]; rfl)
      have hnd : n < (ints D).length := by omega
      have Hy := hid hy; have Hdd := hid hd
      clear hg hd hy hyr
      go_wp2_with fail
      have hcall := has_c d v hd64 hv6 wr
      (with_reducible refine hcall.mono ?_)
      clear hcall
      cases hvd : d.testBit v
      · have Hvd := hid hvd
        rintro e w' ⟨rfl, rfl⟩
        clear hvd
        go_wp2_with fail
        go_ret
        exact ⟨ret_bool (isB_false (not_in Hdd.out Hy.out Hvd.out)).symm, HG0.out.trans Hg.out⟩
      · have Hvd := hid hvd
        rintro e w' ⟨rfl, rfl⟩
        clear hvd
        go_wp2_with fail
        refine ⟨⟨n + 1, by omega, by go_num, ?_, Hg.out⟩, by simp [intOf]; omega⟩
        intro j d' x hj hd' hx'
        by_cases hjn : j = n
        · subst hjn
          have h1 := Hdd.out; rw [hd'] at h1; cases h1
          have h2 := Hy.out; rw [hx'] at h2; cases h2
          simpa using Hvd.out
        · exact Hok.out j d' x (by omega) hd' hx'
    · clear hg
      have hin : In xs D := in_of_ok HXL.out HR.out (by have := Hok.out; rwa [show n = xs.length by omega] at this)
      have HI := hid hin
      clear hin
      go_wp2_with fail
      have hcall := containsCon_c m.cons (fun c => !satB c (word c.vars xs)) _ 161 #[.pointer (some ⟨w.heap.size + 1, 0, none⟩)] wr (Hcv.out.gr Hg.out) (fun _ _ => by kernel_rfl) (fun c cv3 w3 hm hg3 hcv3 => isSolutionLit_c c xs cv3 _ _ w3 hcv3 ((Hg.out.trans hg3).obj Hx0.out (by simp)) ((Hxx.out.gr Hg.out).gr hg3) (by rw [HXL.out]; exact HV.out.cons c hm) HR.out)
      (with_reducible refine hcall.mono ?_)
      clear hcall
      rintro e w3 ⟨rfl, hg3⟩
      go_wp2_with fail
      go_ret
      exact ⟨ret_bool (by rw [isB_in HI.out, solB_any]), (HG0.out.trans Hg.out).trans hg3⟩

end Go.Proofs.YtihkeihnpiddoaaGreat

set_option linter.unusedVariables false
namespace Go.Proofs.YtihkeihnpiddoaaGreat
open Go.RowKit

theorem implValidDomain_c (d : Int) (w : World) : Calls Tryz.prog 71 #[.int .i64 d] w fun e w' => e = .returned (.bool (inB 0 63 d)) ∧ w' = w := by
  go_enter Tryz.func71, Tryz.ntmps71
  go_wp2_with fail
  have hcall := within_c d 0 63 w
  (with_reducible refine hcall.mono ?_)
  clear hcall
  rintro e w2 ⟨rfl, rfl⟩
  go_wp2_with fail
  go_ret
  exact ⟨rfl, rfl⟩
theorem valueOk_c (d : Int) (w : World) : Calls Tryz.prog 72 #[.int .i64 d] w fun e w' => e = .returned (.bool (inB 0 5 d)) ∧ w' = w := by
  go_enter Tryz.func72, Tryz.ntmps72
  go_wp2_with fail
  have hcall := within_c d 0 5 w
  (with_reducible refine hcall.mono ?_)
  clear hcall
  rintro e w2 ⟨rfl, rfl⟩
  go_wp2_with fail
  go_ret
  exact ⟨rfl, rfl⟩
theorem DomainHas_c (d v : Nat) (hd : d < 64) (hv : v < 6) (w : World) :
    Calls Tryz.prog 25 #[.int .i64 d, .int .i64 v] w fun e w' => e = .returned (.bool (d.testBit v)) ∧ w' = w := by
  have h1 : inB 0 63 (d : Int) = true := inB_iff.2 ⟨by omega, by omega⟩
  have h2 : inB 0 5 (v : Int) = true := inB_iff.2 ⟨by omega, by omega⟩
  have H1 := hid h1; have H2 := hid h2
  clear h1 h2
  go_enter Tryz.func25, Tryz.ntmps25
  go_wp2_with fail
  have hcall := implValidDomain_c d w
  (with_reducible refine hcall.mono ?_)
  clear hcall
  rw [H1.out]
  rintro e w2 ⟨rfl, rfl⟩
  go_wp2_with fail
  have hcall := valueOk_c v w2
  (with_reducible refine hcall.mono ?_)
  clear hcall
  rw [H2.out]
  rintro e w3 ⟨rfl, rfl⟩
  go_wp2_with fail
  have hcall := has_c d v hd hv w3
  (with_reducible refine hcall.mono ?_)
  clear hcall
  rintro e w4 ⟨rfl, rfl⟩
  go_wp2_with fail
  go_ret
  exact ⟨rfl, rfl⟩
end Go.Proofs.YtihkeihnpiddoaaGreat

set_option linter.unusedVariables false
namespace Go.Proofs.YtihkeihnpiddoaaGreat
open Go.RowKit

end Go.Proofs.YtihkeihnpiddoaaGreat

set_option linter.unusedVariables false
namespace Go.Proofs.YtihkeihnpiddoaaGreat
open Go.RowKit

theorem ModV.slices {S : List Nat} {w : World} {v : Value} {m : Mod} (h : ModV S w v m) : ∃ a b c d, v = .agg #[.slice a m.doms.length b, .slice c m.cons.length d] := by
  obtain ⟨dv, cv, rfl, ⟨a, b, rfl, _⟩, ⟨c, d, rfl, _⟩⟩ := h; exact ⟨a, b, c, d, rfl⟩
end Go.Proofs.YtihkeihnpiddoaaGreat

set_option linter.unusedVariables false
namespace Go.Proofs.YtihkeihnpiddoaaGreat
open Go.RowKit

end Go.Proofs.YtihkeihnpiddoaaGreat
