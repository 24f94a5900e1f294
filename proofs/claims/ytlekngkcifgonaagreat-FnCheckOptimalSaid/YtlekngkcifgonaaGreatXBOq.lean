/-
  Walks: the generator of CheckOptimal's arguments, and the comparison of two proofs.
-/
import Derived.Test.YtlekngkcifgonaaGreatXBOm
import Derived.Test.YtlekngkcifgonaaGreatXBBx
import Derived.Test.YtlekngkcifgonaaGreatXBPzGc
import Derived.Test.YtlekngkcifgonaaGreatXBSy4ToIsB
import Derived.Test.YtlekngkcifgonaaGreatXBCh
set_option linter.unusedVariables false
set_option linter.unusedSimpArgs false
namespace Go.Proofs.YtlekngkcifgonaaGreat
open Go.RowKit

theorem optO_short {m : Mod} {D : List Nat} {o x : List Int} (hD : validM m = true → VM m D) : ((optO m D o x).getD []).length ≤ 200 ∧ ∀ c ∈ (optO m D o x).getD [], c.length ≤ 100 := by
  cases hb : betB m D o x
  · unfold optO; rw [hb]; simp
  · have h1 := betB_open hb
    have h2 : VM (lowM m o x) D := low_vm (hD h1.1) h1.2.2.2
    have h3 := provO_short (m := lowM m o x) (D := D) (fun _ => h2)
    rw [provO_yes h1.2.2.2] at h3
    unfold optO
    rw [hb]
    exact h3


set_option maxRecDepth 100000 in
set_option maxHeartbeats 8000000 in
theorem DrawCheckOptimal_c (v : Value) (bs : List Int) (w : World) (ao : Option Addr) (cap : Nat) (hv : v = .slice ao bs.length cap) (hlen : bs.length ≤ 9223372036854775807) (hcap : bs.length ≤ cap) (hc : Cells [] w .u8 ao bs) (hb : ∀ b ∈ bs, 0 ≤ b ∧ b ≤ 255) :
    Calls Tryz.prog 20 #[v] w fun e w' => ∃ (m : Mod) (mv ov xv kv : Value) (O X : List Int) (cls : List Cls), e = .returned (.tuple #[mv, ov, xv, kv]) ∧ ModV [] w' mv m ∧ m.Small ∧ (1 ≤ m.doms.length ∧ m.doms.length ≤ 4) ∧ Nums [] w' .i64 ov O ∧ Nums [] w' .i64 xv X ∧
      ClsV [] w' kv cls ∧ cls.length ≤ 1001 ∧ (∀ c ∈ cls, c.length ≤ 100) ∧ Gr [] w w' := by
  subst hv
  have Hc := hid hc; have Hb := hid hb; clear hc hb
  have hg0 : Gr [] w (w.alloc (.cells #[.slice none 0 0, .slice none 0 0] 26)) := (Gr.refl _ _).alloc _
  have hr0 : (w.alloc (.cells #[.slice none 0 0, .slice none 0 0] 26)).heap[w.heap.size]? = some (.cells #[.slice none 0 0, .slice none 0 0] 26 (0, 0)) := heap_alloc_new _ _
  have Hr0 := hid hr0; have Hg0 := hid hg0; clear hr0 hg0
  go_enter Tryz.func20, Tryz.ntmps20
  go_wp2_with fail
  have hcall := DrawProveOptimal_s [w.heap.size] _ bs _ ao cap rfl hlen hcap (Hc.out.gr Hg0.out) Hb.out (by intro b hb; simp at hb; simp; omega)
  (with_reducible refine hcall.mono ?_)
  clear hcall
  rintro e w1 ⟨m, mv, ov, xv, O, X, rfl, hmv, hms, ⟨hd1, hd4⟩, hO, hX, hOl, hXl, hg1⟩
  have Hr1 := hid (hg1.obj Hr0.out (by simp)); have HG1 := hid (Hg0.out.trans hg1)
  have Hmv := hid hmv; have HX := hid hX; have HO := hid hO; have Hms := hid hms
  have hs1 := hg1.size
  rw [World.size_alloc] at hs1
  obtain ⟨xo, xc, co, cc, rfl⟩ := hmv.slices
  obtain ⟨yo, yc, rfl, -, -⟩ := hX
  obtain ⟨oo, oc, rfl, -, -⟩ := hO
  clear hmv hg1 hms hXl hOl
  obtain ⟨D, hD⟩ := openVM m
  have HD := hid hD
  clear hD
  go_wp2_with fail
  have ha2 : Gr [] w1 (w1.alloc (.cells #[.slice xo m.doms.length xc, .slice co m.cons.length cc] 26)) := (Gr.refl _ _).alloc _
  have hb2 : (w1.alloc (.cells #[.slice xo m.doms.length xc, .slice co m.cons.length cc] 26)).heap[w1.heap.size]? = some (.cells #[.slice xo m.doms.length xc, .slice co m.cons.length cc] 26 (0, 0)) := heap_alloc_new _ _
  have hs2 : (w1.alloc (.cells #[.slice xo m.doms.length xc, .slice co m.cons.length cc] 26)).heap.size = w1.heap.size + 1 := by simp
  generalize hW2 : w1.alloc (.cells #[.slice xo m.doms.length xc, .slice co m.cons.length cc] 26) = w2 at *
  clear hW2
  have Ha2 := hid ha2; have Hb2 := hid hb2
  clear ha2 hb2
  have hcall := newReader_c _ bs _ ao cap rfl hlen hcap (Hc.out.gr (HG1.out.trans Ha2.out)) Hb.out
  (with_reducible refine hcall.mono ?_)
  clear hcall
  rintro e w3 ⟨⟨R, cs, rfl, hR, hrd3⟩, hg3⟩
  have hRl := hrd3.lt
  obtain ⟨ro, rcap, p, hRb, hcR, hab, hpq, hbl, hbb⟩ := hrd3
  have fR := fld hRb; have fRF := fldF hRb
  have HRb := hid hRb; have HcR := hid hcR; have Hab := hid hab; have Hbb := hid hbb
  have Hg3 := hid (Ha2.out.trans hg3)
  have hs3 := hg3.size
  have Hb3 := hid (hg3.obj Hb2.out (by simp))
  have fl3 := fld Hb3.out
  clear hRb hcR hab hbb hg3
  have hrd4 : Rd (w3.setCell ⟨R, 1, none⟩ (.int .i64 50)) R cs 50 :=
    ⟨ro, rcap, 50, by rw [two_set1 HRb.out]; rfl, HcR.out.gr ((Gr.refl _ _).setCell _ _ (.inl (by simp))), Hab.out, Nat.le_refl _, hbl, Hbb.out⟩
  have hg4 : Gr [R] w3 (w3.setCell ⟨R, 1, none⟩ (.int .i64 50)) := (Gr.refl _ _).setCell _ _ (.inl (by simp))
  have Hrd4 := hid hrd4
  have hgs4 : Gr [R] w1 (w3.setCell ⟨R, 1, none⟩ (.int .i64 50)) := (Gr.any Hg3.out).trans hg4
  have hb4 := hg4.obj Hb3.out (by simp; omega)
  have Hb4 := hid hb4
  have Hr4 := hid (hgs4.obj Hr1.out (by simp; omega))
  have Hgs4 := hid hgs4
  have hs4 := hg4.size
  have up : ∀ b, b < w1.heap.size → b ∈ [w.heap.size, R, w1.heap.size] → b ∈ [w.heap.size] := fun b hb hm => by
    simp at hm ⊢
    omega
  have hg4T : Gr [w.heap.size, R, w1.heap.size] w1 (w3.setCell ⟨R, 1, none⟩ (.int .i64 50)) := hgs4.sub (fun k _ hk => by simp at hk ⊢; exact .inr (.inl hk))
  have Hmv4 := hid ((Hmv.out.sub up).gr hg4T); have HO4 := hid ((HO.out.sub up).gr hg4T); have HX4 := hid ((HX.out.sub up).gr hg4T)
  have HG4 : Hid (Gr [] w (w3.setCell ⟨R, 1, none⟩ (.int .i64 50))) := hid (HG1.out.step hgs4 (fun i hi => .inr (by simp at hi; omega)))
  have fl4 := fld hb4
  clear hrd4 hg4 hgs4 up hg4T hb4 fl3
  go_wp2_with fail
  generalize hW4 : w3.setCell ⟨R, 1, none⟩ (.int .i64 50) = w4 at *
  clear hW4 fR fRF
  have hcall := specProveOptimal_c m D O X _ _ _ w4 (Hmv4.out.sub (by simp)) HD.out Hms.out (HO4.out.sub (by simp)) (HX4.out.sub (by simp))
  (with_reducible refine hcall.mono ?_)
  clear hcall
  rintro e w5 ⟨v5, rfl, hk5, hg5⟩
  obtain ⟨P, hP⟩ : ∃ P, P = (optO m D O X).getD [] := ⟨_, rfl⟩
  have hsh := optO_short (o := O) (x := X) HD.out
  rw [← hP] at hk5 hsh
  obtain ⟨hP2, hPc⟩ := hsh
  have hs5 := hg5.size
  have hk5' := hk5 [R, w.heap.size, w1.heap.size] (by intro b hb; simp at hb; omega)
  obtain ⟨ko, kc, rfl, ⟨hkc1, hkc2⟩⟩ := hk5'.slice
  have HPc := hid hPc
  have Hr5 := hid (hg5.obj Hr4.out (by simp)); have Hrd5 := hid (Hrd4.out.gr hg5); have Hb5 := hid (hg5.obj Hb4.out (by simp)); have Hmv5 := hid (Hmv4.out.gr hg5.any); have HO5 := hid (HO4.out.gr hg5.any); have HX5 := hid (HX4.out.gr hg5.any); have HG5 : Hid (Gr [] w w5) := hid (HG4.out.trans hg5)
  have Hk5 := hid hk5'
  have fl5 := fld Hb5.out
  clear hk5 hk5' hg5 fl4 hP hPc
  go_wp2_with fail
  have hcall := pick_c R cs 50 3 _ Hrd5.out (by omega) (by omega)
  (with_reducible refine hcall.mono ?_)
  clear hcall
  rintro e w6 ⟨⟨r6, rfl, hr60, hr6n⟩, hrd6, hg6⟩
  have HG6 : Hid (Gr [] w w6) := hid (HG5.out.step hg6 (fun i hi => .inr (by simp at hi; omega)))
  have hg6T : Gr [w.heap.size, R, w1.heap.size] w5 w6 := hg6.sub (fun k _ hk => by simp at hk ⊢; exact .inr (.inl hk))
  have Hr6 := hid (hg6.obj Hr5.out (by simp; omega)); have Hb6 := hid (hg6.obj Hb5.out (by simp; omega)); have Hmv6 := hid (Hmv5.out.gr hg6T); have HO6 := hid (HO5.out.gr hg6T); have HX6 := hid (HX5.out.gr hg6T)
  have Hk6 : Hid (ClsV [R, w.heap.size, w1.heap.size] w6 (.slice ko P.length kc) P) := hid (Hk5.out.gr (hg6.sub (fun k _ h => by simp at h; simp [h])))
  have Hrd6 := hid hrd6
  have fl6 := fld Hb6.out
  have hs6 := hg6.size
  have frW := fld Hr6.out; have ffrW := fldF Hr6.out
  have hgt : decide ((0 : Int) < (m.doms.length : Int)) = true := decide_eq_true (by omega)
  clear hrd6 hg6 hg6T hr60 hr6n fl5
  cases h6 : (r6 == 0)
  · obtain ⟨w7, hw7⟩ : ∃ w7, w7 = w6 := ⟨_, rfl⟩
    obtain ⟨ko', hko⟩ : ∃ ko', ko' = ko := ⟨_, rfl⟩
    obtain ⟨kc', hkc⟩ : ∃ kc', kc' = kc := ⟨_, rfl⟩
    obtain ⟨Q, hQe⟩ : ∃ Q, Q = P := ⟨_, rfl⟩
    rw [← hw7] at Hr6 Hb6 Hmv6 HO6 HX6 Hk6 HG6 fl6 frW ffrW ⊢
    rw [← hko, ← hkc, ← hQe] at Hk6 ⊢
    rw [← hQe] at HPc hP2
    have hQ : Q.length ≤ 1001 := by omega
    have HQc := HPc; have Hr7 := Hr6; have Hmv7 := Hmv6; have HO7 := HO6; have HX7 := HX6; have Hk7 := Hk6; have HG7 := HG6
    clear hw7 hko hkc hQe
    go_wp2_with fail
    have hr7 := Hr7.out
    have hbE := block_cells (cur' := #[]) (block_cells (cur' := #[]) hr7 0 (.slice xo m.doms.length xc)) 1 (.slice co m.cons.length cc)
    have flE := fld hbE
    refine bodyPost_ret (v := .tuple #[.agg #[.slice xo m.doms.length xc, .slice co m.cons.length cc], .slice oo O.length oc, .slice yo X.length yc, .slice ko' Q.length kc']) ?_ rfl ?_
    · simp [results, Tryz.results20, go_sem, flE]
    · have hgE : Gr [w.heap.size] w7 ((w7.setCell ⟨w.heap.size, 0, none⟩ (.slice xo m.doms.length xc)).setCell ⟨w.heap.size, 1, none⟩ (.slice co m.cons.length cc)) :=
        ((Gr.refl _ _).setCell _ _ (.inl (by simp))).setCell _ _ (.inl (by simp))
      exact ⟨m, _, _, _, _, O, X, Q, rfl, (Hmv7.out.gr (hgE.sub (fun k _ h => by simp at h; simp [h]))).sub (by simp), Hms.out, ⟨hd1, hd4⟩, (HO7.out.gr (hgE.sub (fun k _ h => by simp at h; simp [h]))).sub (by simp), (HX7.out.gr (hgE.sub (fun k _ h => by simp at h; simp [h]))).sub (by simp), (Hk7.out.gr (hgE.sub (fun k _ h => by simp at h; simp [h]))).sub (by simp), hQ, HQc.out, HG7.out.step hgE (fun i hi => .inr (by simp at hi; omega))⟩
  · go_wp2_with fail
    have hcall := bend_c R cs (50 + 1) m.doms.length [w.heap.size, w1.heap.size] P _ w6 Hrd6.out (by omega) (by omega) Hk6.out (by omega) (by intro b hb; simp at hb; omega) HPc.out
    (with_reducible refine hcall.mono ?_)
    clear hcall
    rintro e w7 ⟨kv7, Q, rfl, hk7, hQ, hQc, hg7⟩
    obtain ⟨ko', kc', rfl, -⟩ := hk7.slice
    have HQc := hid hQc
    have Hr7 := hid (hg7.obj Hr6.out (by simp; omega)); have Hb7 := hid (hg7.obj Hb6.out (by simp; omega))
    have hg7T : Gr [w.heap.size, R, w1.heap.size] w6 w7 := hg7.sub (fun k _ hk => by simp at hk ⊢; exact .inr (.inl hk))
    have Hmv7 := hid (Hmv6.out.gr hg7T); have HO7 := hid (HO6.out.gr hg7T); have HX7 := hid (HX6.out.gr hg7T)
    have Hk7 : Hid (ClsV [R, w.heap.size, w1.heap.size] w7 (.slice ko' Q.length kc') Q) := hid hk7
    have HG7 : Hid (Gr [] w w7) := hid (HG6.out.step hg7 (fun i hi => .inr (by simp at hi; omega)))
    have fl7 := fld Hb7.out; have fr7 := fld Hr7.out; have ffr7 := fldF Hr7.out
    clear hk7 hQc hg7 hg7T fl6 frW ffrW
    go_wp2_with fail
    have hr7 := Hr7.out
    have hbE := block_cells (cur' := #[]) (block_cells (cur' := #[]) hr7 0 (.slice xo m.doms.length xc)) 1 (.slice co m.cons.length cc)
    have flE := fld hbE
    refine bodyPost_ret (v := .tuple #[.agg #[.slice xo m.doms.length xc, .slice co m.cons.length cc], .slice oo O.length oc, .slice yo X.length yc, .slice ko' Q.length kc']) ?_ rfl ?_
    · simp [results, Tryz.results20, go_sem, flE]
    · have hgE : Gr [w.heap.size] w7 ((w7.setCell ⟨w.heap.size, 0, none⟩ (.slice xo m.doms.length xc)).setCell ⟨w.heap.size, 1, none⟩ (.slice co m.cons.length cc)) :=
        ((Gr.refl _ _).setCell _ _ (.inl (by simp))).setCell _ _ (.inl (by simp))
      exact ⟨m, _, _, _, _, O, X, Q, rfl, (Hmv7.out.gr (hgE.sub (fun k _ h => by simp at h; simp [h]))).sub (by simp), Hms.out, ⟨hd1, hd4⟩, (HO7.out.gr (hgE.sub (fun k _ h => by simp at h; simp [h]))).sub (by simp), (HX7.out.gr (hgE.sub (fun k _ h => by simp at h; simp [h]))).sub (by simp), (Hk7.out.gr (hgE.sub (fun k _ h => by simp at h; simp [h]))).sub (by simp), hQ, HQc.out, HG7.out.step hgE (fun i hi => .inr (by simp at hi; omega))⟩



end Go.Proofs.YtlekngkcifgonaaGreat
