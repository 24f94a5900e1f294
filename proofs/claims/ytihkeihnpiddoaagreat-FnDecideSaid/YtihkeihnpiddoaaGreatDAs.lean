/-
  Walk of the generator of stores.
-/
import Derived.Test.YtihkeihnpiddoaaGreatDDd
import Derived.Test.YtihkeihnpiddoaaGreatDCu
import Derived.Test.YtihkeihnpiddoaaGreatDRv
import Derived.Test.YtihkeihnpiddoaaGreatDSf2
import Derived.Deep.RegionHeldLaw
import Derived.Deep.CutRange
set_option linter.unusedVariables false
set_option linter.unusedSimpArgs false
namespace Go.Proofs.YtihkeihnpiddoaaGreat
open Go.RowKit

/-- An append of a number in a region that draws, and where the new list lies. -/
theorem step_app1X {P : Program} {w : World} {ops : Array Oper} {o : Oper} {a : Act} {K : Act → World → Prop} {Q : Exit → Act → World → Prop} {E : Prop} (hgd : o.guard = none) (s x : Operand) (t : TypeId)
    (ho : o.op = .call { callee := .builtin .append, args := #[s, x], argTypes := #[t, t] }) (B : Nat) (e : TypeId) (hinfo : (P.info? e).map (fun i => (i.zero, i.size, i.bytes)) = some (some (.int .i64 0), 1, 8))
    (ht : P.underlying t = some (.slice e)) (v : Value) (xs : List Int) (hs : a.eval s = v) (hown : Own B w e v xs) (g c : Nat) (n : Int) (hx : a.eval x = .slice (some ⟨g, 0, none⟩) 1 c) (hn : w.cell? ⟨g, 0, none⟩ = some (.int .i64 n))
    (hlen : xs.length ≤ 1000000000000) (hB : B ≤ w.heap.size)
    (h : ∀ g' c' w', Own B w' e (.slice (some ⟨g', 0, none⟩) (xs.length + 1) c') (xs ++ [n]) → Gr v.ownBlock.toList w w' → (v.ownBlock = some g' ∨ w.heap.size ≤ g') → K (a.put o.dst (.slice (some ⟨g', 0, none⟩) (xs.length + 1) c')) w') : if Region.wanted o (yielded ops a.tmps) = true then Oper.wp P o a w K Q else E := by
  obtain ⟨i0, hi, hz0, hz1, hz2⟩ := info_parts hinfo
  refine step_append_lies w hgd s x t ho B e i0 (.int .i64 0) 1 8 ht hi hz0 hz1 hz2 rfl (by decide) v xs.length _ hs hown ⟨g, 0, none⟩ 1 c [.int .i64 n] hx rfl ?_ (by simp [Value.oneCell']) (by omega) (by simp only [maxLen]; omega) (by omega) hB w.heap.size rfl ?_
  · intro j u hj
    match j, hj with
    | 0, hj => simp at hj; subst hj; simpa [Addr.add] using hn
    | j + 1, hj => simp at hj
  · intro g' cap' w' hown' hgrow hwh hlt
    exact h g' cap' w' (by simpa [Own] using hown') ⟨hgrow.os, hgrow.tape, hgrow.output, hgrow.size, fun k hk hs => hgrow.block k hk (fun e => hs (by rw [← e]; simp))⟩ (hwh.imp id (fun e => by omega))

/-- The first level of such a store, and what a change of it leaves. -/
theorem StoE.first {B E : Nat} {w : World} {v : Value} {s : Sto} (h : StoE B E w v s) (h0 : 1 ≤ s.lv.length) :
    ∃ (gl lc g0 c0 : Nat) (r0 : List Int) (dv cv : Value), v = .agg #[dv, cv, .slice (some ⟨gl, 0, none⟩) s.lv.length lc] ∧ s.lv[0]? = some r0 ∧ (B ≤ gl ∧ gl < E) ∧ (B ≤ g0 ∧ g0 < E) ∧ g0 ≠ gl ∧
      w.cell? ⟨gl, 0, none⟩ = some (.slice (some ⟨g0, 0, none⟩) r0.length c0) ∧ (∀ j, w.frozen? ⟨gl, j, none⟩ = false) ∧ Own 0 w 3 (.slice (some ⟨g0, 0, none⟩) r0.length c0) r0 ∧
      ∀ (T : List Nat) (w' : World) (u' : Value) (r' : List Int) (S : List Nat), Gr T w w' → (∀ b ∈ T, b = g0 ∨ b = gl ∨ b < B ∨ E ≤ b) → (∀ j u, 0 < j → w.cell? ⟨gl, j, none⟩ = some u → w'.cell? ⟨gl, j, none⟩ = some u) → w'.cell? ⟨gl, 0, none⟩ = some u' →
        (∀ b ∈ S, b < B ∨ E ≤ b) → Nums S w' .i64 u' r' → StoV S w' v ⟨s.mod, s.lv.set 0 r'⟩ := by
  obtain ⟨M, dv, cv, lo, lc, xs, rfl, h1, h2, h3, h4, h5, h6⟩ := h
  have hxl : xs.length = s.lv.length := by rw [← h3, List.length_map]
  obtain ⟨x0, hx0⟩ := get_some (xs := xs) (k := 0) (by omega)
  obtain ⟨gl, cap, cs, e1, ⟨k1, k2, k3⟩, k4, k5, k6, k7⟩ := h6.at hx0
  simp only [Value.slice.injEq] at e1
  obtain ⟨rfl, -, rfl⟩ := e1
  obtain ⟨c0, rfl, ho, hn⟩ := k7 [gl] (fun b hb => by simp at hb; exact .inr (.inr hb))
  have hgm : x0.2 ∈ xs.map Prod.snd := List.mem_map_of_mem (List.mem_of_getElem? hx0)
  refine ⟨gl, lc, x0.2, c0, x0.1, dv, cv, by rw [hxl], ?_, by omega, h5 _ hgm, fun e => hn (by simp [e]), ?_, k6, ho, ?_⟩
  · rw [← h3, List.getElem?_map, hx0]; rfl
  · have := k5 0 _ rfl; simpa using this
  intro T w' u' r' S hg hT hc hu hS hr
  refine StoV.mk ((h1.gr' (M' := M) hg (fun b hb hm => ?_) (fun _ _ h => h)).mod fun b hb hm => by have := (h2 b hm).1; have := hS b hb; omega) ?_
  · obtain ⟨m1, m2, m3⟩ := h2 b hm
    rcases hT b hb with e | e | e
    · subst e; exact m3 hgm
    · subst e; exact m2 rfl
    · omega
  · have hll : (s.lv.set 0 r').length = xs.length := by rw [List.length_set, hxl]
    obtain ⟨ao', cap', e2, q1, q2⟩ := h6.slice
    simp only [Value.slice.injEq] at e2
    obtain ⟨rfl, -, rfl⟩ := e2
    refine ⟨some ⟨gl, 0, none⟩, lc, by rw [hll], ⟨by rw [hll]; exact q1, q2, by simp⟩, fun i r hi => ?_⟩
    have hgS : gl ∉ S := fun hm => by have := hS gl hm; omega
    by_cases hi0 : i = 0
    · subst hi0
      rw [List.getElem?_set_self (by omega)] at hi
      cases hi
      exact ⟨gl, 0, u', rfl, hgS, hu, hr⟩
    · rw [List.getElem?_set_ne (by omega), ← h3, List.getElem?_map] at hi
      obtain ⟨x, hx, rfl⟩ := Option.map_eq_some_iff.1 hi
      obtain ⟨gl', cap', cs', e3, _, j4, j5, j6, j7⟩ := h6.at hx
      simp only [Value.slice.injEq, Option.some.injEq, Addr.mk.injEq] at e3
      obtain ⟨⟨rfl, -⟩, -⟩ := e3
      obtain ⟨c', rfl, ho', hn'⟩ := j7 [gl] (fun b hb => by simp at hb; exact .inr (.inr hb))
      have hxm : x.2 ∈ xs.map Prod.snd := List.mem_map_of_mem (List.mem_of_getElem? hx)
      have hne : x.2 ≠ x0.2 := fun e => hi0 (by
        have a1 : (xs.map Prod.snd)[i]? = some x.2 := by rw [List.getElem?_map, hx]; rfl
        have a2 : (xs.map Prod.snd)[0]? = some x.2 := by rw [List.getElem?_map, hx0, e]; rfl
        have b1 := List.getElem?_eq_some_iff.1 a1
        have b2 := List.getElem?_eq_some_iff.1 a2
        exact (List.getElem_inj h4).1 (b1.2.trans b2.2.symm))
      have hcell := j5 0 _ rfl
      simp only [Nat.mul_one, Nat.add_zero] at hcell
      refine ⟨gl, 0, _, rfl, hgS, ?_, (ho'.keep hg (fun hm => ?_)).numsS (fun hm => by have := hS _ hm; have := h5 _ hxm; omega)⟩
      · rw [Nat.zero_add]; exact hc i _ (by omega) hcell
      · rcases hT _ hm with e | e | e
        · exact hne e
        · exact hn' (by simp [e])
        · have := h5 _ hxm; omega

theorem Gr.subL {S : List Nat} {r : Nat} {a b : World} (h : Gr [r] a b) (hr : r ∈ S) : Gr S a b := h.sub (fun k _ hk => by simp at hk; subst hk; exact hr)
theorem Gr.set3n {S : List Nat} {a w : World} {r : Nat} (h : Gr S a w) (hr : a.heap.size ≤ r) (x0 x1 x2 : Value) : Gr S a (((w.setCell ⟨r, 0, none⟩ x0).setCell ⟨r, 1, none⟩ x1).setCell ⟨r, 2, none⟩ x2) :=
  ((h.setCell _ _ (.inr hr)).setCell _ _ (.inr hr)).setCell _ _ (.inr hr)
theorem Gr.set3s {S : List Nat} {a w : World} {r : Nat} (h : Gr S a w) (hr : r ∈ S) (x0 x1 x2 : Value) : Gr S a (((w.setCell ⟨r, 0, none⟩ x0).setCell ⟨r, 1, none⟩ x1).setCell ⟨r, 2, none⟩ x2) :=
  ((h.setCell _ _ (.inl hr)).setCell _ _ (.inl hr)).setCell _ _ (.inl hr)
theorem rowsV_nil0 (S : List Nat) (w : World) : RowsV S w (.slice none 0 0) [] := ⟨none, 0, rfl, by simp, fun i x h => by simp at h⟩
/-- What a round of the generator has drawn: a literal, and the store that it leads to. -/
def AsCut (R : Nat) (bs : List Int) (Q : Nat) (s : Sto) (C : List Nat) (wr wx : World) (p v : Value) : Prop :=
  ∃ (l : Lit) (X : Nat) (xo' : Option Addr) (xc' : Nat) (yo' : Option Addr) (yc' : Nat) (lo' : Option Addr) (lc' B' E' : Nat), p = .pointer (some ⟨X, 0, none⟩) ∧ v = .bool (decB s l) ∧ wx.heap[X]? = some (.cells #[.slice xo' (decR s l C).mod.doms.length xc', .slice yo' (decR s l C).mod.cons.length yc', .slice lo' (decR s l C).lv.length lc'] 29 (0, 0)) ∧ wr.heap.size ≤ X ∧
    (decB s l = true → StoE B' E' wx (.agg #[.slice xo' (decR s l C).mod.doms.length xc', .slice yo' (decR s l C).mod.cons.length yc', .slice lo' (decR s l C).lv.length lc']) (decS s l C)) ∧ (wr.heap.size ≤ B' ∧ E' ≤ wx.heap.size) ∧ Rd wx R bs (Q + 3) ∧ Gr [R] wr wx
theorem as_meet {R : Nat} {bs : List Int} {Q : Nat} {s : Sto} {C : List Nat} {wr wd WE : World} {X : Nat} (l : Lit) {xo' : Option Addr} {xc' : Nat} {yo' : Option Addr} {yc' : Nat} {lo' : Option Addr} {lc' B' E' : Nat}
    (hg : Gr [R] wr wd) (hse : decB s l = true → StoE B' E' wd (.agg #[.slice xo' (decR s l C).mod.doms.length xc', .slice yo' (decR s l C).mod.cons.length yc', .slice lo' (decR s l C).lv.length lc']) (decS s l C)) (hBE : wr.heap.size ≤ B' ∧ E' ≤ wd.heap.size) (hrd : Rd wd R bs (Q + 1 + 1 + 1)) (hgE : Gr [X] wd WE)
    (hX : WE.heap[X]? = some (.cells #[.slice xo' (decR s l C).mod.doms.length xc', .slice yo' (decR s l C).mod.cons.length yc', .slice lo' (decR s l C).lv.length lc'] 29 (0, 0))) (hXr : wr.heap.size ≤ X) (hX2 : X < B' ∨ E' ≤ X) (hR : R < wr.heap.size) : AsCut R bs Q s C wr WE (.pointer (some ⟨X, 0, none⟩)) (.bool (decB s l)) :=
  ⟨l, X, xo', xc', yo', yc', lo', lc', B', E', rfl, rfl, hX, hXr, fun h => (hse h).gr hgE (by simp; omega), ⟨hBE.1, Nat.le_trans hBE.2 hgE.size⟩, hrd.grS hgE (by simp; omega), hg.step hgE (fun i hi => .inr (by simp at hi; omega))⟩
def AnyPost (R : Nat) (bs : List Int) (q : Nat) (w : World) (e : Ending) (w' : World) : Prop :=
  ∃ (s : Sto) (sv : Value), e = .returned sv ∧ (∀ S : List Nat, (∀ b ∈ S, b < w.heap.size) → StoV S w' sv s) ∧ s.mod.Small ∧ s.mod.doms.length ≤ 4 ∧ Rd w' R bs q ∧ Gr [R] w w'


set_option maxRecDepth 100000 in
set_option maxHeartbeats 4000000 in
theorem anyStore_c (R : Nat) (bs : List Int) (q : Nat) (w : World) (hr : Rd w R bs q) (hq : q ≤ 100000) :
    Calls Tryz.prog 35 #[.pointer (some ⟨R, 0, none⟩)] w (AnyPost R bs (q + 2000) w) := by
  have hRw := hr.lt
  have hg0 : Gr [] w (w.alloc (.cells #[.slice none 0 0, .slice none 0 0, .slice none 0 0] 29)) := (Gr.refl _ _).alloc _
  have hr0 := sto3 w (.slice none 0 0) (.slice none 0 0) (.slice none 0 0)
  have Hg0 := hid hg0; have Hr0 := hid hr0; have Hr := hid hr
  clear hg0 hr0 hr
  go_enter Tryz.func35, Tryz.ntmps35
  go_wp2_with fail
  have hcall := randomModel_v R bs q _ (Hr.out.gr Hg0.out) (by omega)
  (with_reducible refine hcall.mono ?_)
  clear hcall
  rintro e w1 ⟨m, M, mo, mc, co, cc, rfl, hown, hdM, ⟨hM1, hM2⟩, hcs, ⟨hd1, hd4⟩, hc4, htv, hrd1, hg1, hval⟩
  simp only [World.size_alloc] at hM1
  obtain ⟨D, hVM⟩ := validM_open hval
  have hmv := ModPost.modv (S := []) (by simp) (by simp; omega) hown hcs
  have hms : m.Small := mod_small hd4 hc4 (fun c hc => ⟨(htv c hc).1.small, (htv c hc).2⟩)
  have Hmv := hid hmv; have Hms := hid hms; have HVM := hid hVM; have Hrd1 := hid hrd1
  have Hr1 := hid (hg1.obj Hr0.out (by simp; omega))
  have HG1 : Hid (Gr [R] w w1) := hid (Hg0.out.any.trans hg1)
  clear hown hdM hcs htv hmv hms hVM hrd1 hg1 hval hM2 hM1
  go_wp2_with fail
  have hcall := specNewStore_e m D _ _ Hmv.out HVM.out Hms.out
  (with_reducible refine hcall.mono ?_)
  clear hcall
  rintro e w2 ⟨sv, rfl, hse, hg2⟩
  have hs2 := hg2.size
  have hR1 := Hrd1.out.lt
  obtain ⟨xo, xc, yo, yc, lo, lc, rfl, -, -⟩ := (hse.sto [] (by simp)).open
  have ha3 : Gr [] w2 (w2.alloc (.cells #[.slice xo m.doms.length xc, .slice yo m.cons.length yc, .slice lo 1 lc] 29)) := (Gr.refl _ _).alloc _
  have hb3 := sto3 w2 (.slice xo m.doms.length xc) (.slice yo m.cons.length yc) (.slice lo 1 lc)
  have hrz := lt_of_block Hr1.out
  have HB3 := hid hb3; have HE3 := hid (hse.gr ha3 (by simp)); have HRd3 := hid ((Hrd1.out.gr hg2).gr ha3); have HG3 : Hid (Gr [R] w (w2.alloc (.cells #[.slice xo m.doms.length xc, .slice yo m.cons.length yc, .slice lo 1 lc] 29))) := hid (HG1.out.trans (hg2.trans ha3).any); have HR3 := hid ((hg2.trans ha3).obj Hr1.out (by simp))
  have hlt3 := lt_of_block hb3
  have HS3 : Hid (validS ⟨m, [ints (fix m.cons D)]⟩ = true) := hid (newS_ok HVM.out)
  clear hse hg2 ha3 hb3 Hr1 Hrd1
  go_wp2_with fail
  generalize hW3 : w2.alloc (.cells #[.slice xo m.doms.length xc, .slice yo m.cons.length yc, .slice lo 1 lc] 29) = w3 at *
  clear hW3
  have hcall := pick_c R bs (q + 1000) 4 _ HRd3.out (by omega) (by omega)
  (with_reducible refine hcall.mono ?_)
  clear hcall
  rintro e w4 ⟨⟨r4, rfl, hr40, hr4n⟩, hrd4, hg4⟩
  obtain ⟨r4, rfl⟩ := Int.eq_ofNat_of_zero_le hr40
  have hr44 : r4 < 4 := by omega
  have HB4 := hid (hg4.obj HB3.out (by simp; omega)); have HE4 := hid (HE3.out.gr hg4 (by simp; omega)); have HRd4 := hid hrd4; have HG4 := hid (HG3.out.trans hg4); have HR4 := hid (hg4.obj HR3.out (by simp; omega))
  have hs4 := hg4.size
  clear hrd4 hg4 hr40 hr4n HB3 HE3 HRd3 HG3 HR3
  go_wp2_with fail
  go_loopw [4] (fun i wr => ∃ (k : Nat) (s : Sto) (xo : Option Addr) (xc : Nat) (yo : Option Addr) (yc : Nat) (lo : Option Addr) (lc B E : Nat), k ≤ 3 ∧ i = .int .i64 k ∧ wr.heap[w2.heap.size]? = some (.cells #[.slice xo s.mod.doms.length xc, .slice yo s.mod.cons.length yc, .slice lo s.lv.length lc] 29 (0, 0)) ∧
      StoE B E wr (.agg #[.slice xo s.mod.doms.length xc, .slice yo s.mod.cons.length yc, .slice lo s.lv.length lc]) s ∧ (w.heap.size < B ∧ E ≤ wr.heap.size ∧ (w2.heap.size < B ∨ E ≤ w2.heap.size)) ∧ (validS s = true ∧ s.mod.Small) ∧ Rd wr R bs (q + 1001 + 3 * (3 - k)) ∧ Gr [R, w2.heap.size] w4 wr) (fun i _ => (intOf i).toNat)
  case atStart => exact ⟨r4, _, xo, xc, yo, yc, lo, lc, _, _, by omega, rfl, HB4.out, HE4.out, ⟨by omega, by omega, .inr (Nat.le_refl _)⟩, ⟨HS3.out, Hms.out⟩, HRd4.out.le (by omega), Gr.refl _ _⟩
  case round =>
    obtain ⟨k, s, xo, xc, yo, yc, lo, lc, B, E, hk, rfl, hb, hse, ⟨hB1, hB2, hB3⟩, ⟨hval, hsm⟩, hrd, hL⟩ := hrel
    have hsr := hL.size
    have hltr := lt_of_block hb
    obtain ⟨C, hC⟩ := cur_of hval
    have hd := hC.len; have hsm4 := hC.small; have hmany := hC.many
    have Hb := hid hb; have Hse := hid hse; have Hval := hid hval; have Hsm := hid hsm; have Hrd := hid hrd; have HL := hid hL; have HC := hid hC
    obtain ⟨nd, hnd⟩ : ∃ nd, nd = s.mod.doms.length := ⟨_, rfl⟩
    have hn4 : nd ≤ 4 := by omega
    have hn1 : 1 ≤ nd := by omega
    have Hnd := hid hnd
    clear hse hval hsm hrd hL hC hd hsm4 hnd
    by_cases hlt : 0 < k
    · have HBX : Hid (∀ W, Gr [R] wr W → W.heap[w2.heap.size]? = some (.cells #[.slice xo s.mod.doms.length xc, .slice yo s.mod.cons.length yc, .slice lo s.lv.length lc] 29 (0, 0))) := hid fun W h => h.obj Hb.out (by simp; omega)
      have HS : Hid (∀ W, Gr [R] wr W → (W.cell? ⟨w2.heap.size, 0, none⟩ = some (.slice xo s.mod.doms.length xc) ∧ W.cell? ⟨w2.heap.size, 1, none⟩ = some (.slice yo s.mod.cons.length yc) ∧ W.cell? ⟨w2.heap.size, 2, none⟩ = some (.slice lo s.lv.length lc)) ∧ Gr [R] wr W) :=
        hid fun W h => ⟨⟨fld (HBX.out W h) 0, fld (HBX.out W h) 1, fld (HBX.out W h) 2⟩, h⟩
      have HRD0 := hid (Hrd.out.drew)
      have hRr : R < wr.heap.size := by omega
      clear hb
      go_wp2_with fail
      go_cut [5, 6] from 17 to 33 (fun p v wx => AsCut R bs (q + 1001 + 3 * (3 - k)) s C wr wx p v)
      case first =>
        go_region_held_law (fun W => (W.cell? ⟨w2.heap.size, 0, none⟩ = some (.slice xo s.mod.doms.length xc) ∧ W.cell? ⟨w2.heap.size, 1, none⟩ = some (.slice yo s.mod.cons.length yc) ∧ W.cell? ⟨w2.heap.size, 2, none⟩ = some (.slice lo s.lv.length lc)) ∧ Gr [R] wr W)
          ((refine HS.out _ ?_; first | (with_reducible first | exact ((Gr.refl [R] wr).alloc _).drew | exact (Gr.refl [R] wr).drew | exact ((Gr.refl [R] wr).drew).alloc _ | exact HGa.out | exact HGa.out.alloc _ | exact HGb.out | exact HGb.out.alloc _ | exact HGc.out | exact HGc.out.alloc _ | exact HGd.out | exact HGd.out.alloc _ | exact (HGd.out.alloc _).set3n HGd.out.size _ _ _ | exact HGd.out.set3n (Nat.le_refl _) _ _ _ | exact HGd.out.set3n HGa.out.size _ _ _ | exact HGd.out.set3n HGb.out.size _ _ _ | exact HGd.out.set3n HGc.out.size _ _ _ | assumption) | exact (Gr.refl [R] wr).drew | exact ((Gr.refl [R] wr).drew).alloc _ | exact HGa.out | exact HGa.out.alloc _ | exact HGb.out | exact HGb.out.alloc _ | exact HGc.out | exact HGc.out.alloc _ | exact HGd.out | exact HGd.out.alloc _ | exact (HGd.out.alloc _).set3n HGd.out.size _ _ _ | exact HGd.out.set3n (Nat.le_refl _) _ _ _ | exact HGd.out.set3n HGa.out.size _ _ _ | exact HGd.out.set3n HGb.out.size _ _ _ | exact HGd.out.set3n HGc.out.size _ _ _ | assumption))
          (first
          | (go_simp; go_at_call 36; have hrdx := HRD0.out; clear hrdx; refine (pick_c R bs (q + 1001 + 3 * (3 - k)) s.mod.doms.length _ (by first | exact HRD0.out | exact HRD0.out.gr ((Gr.refl [] _).alloc _)) (by omega) (by have := Hnd.out; omega)).mono ?_; rintro e wa ⟨⟨r1, rfl, hr1⟩, hrda, hga⟩; have hgx : Gr [R] wr wa := (by first | exact ((Gr.refl [R] wr).drew).trans hga | exact (((Gr.refl [R] wr).drew).alloc _).trans hga); have hsa := hgx.size; (try (have hz : wa.heap[wr.heap.size]? = some (.cells #[.slice none 0 0, .slice none 0 0, .slice none 0 0] 29 (0, 0)) := hga.obj (heap_alloc_new wr.drew (.cells #[.slice none 0 0, .slice none 0 0, .slice none 0 0] 29)) (by first | (simp; done) | (simp; omega)); have HZ := hid hz; have hzl := lt_of_block hz; have fz := fld hz; have ffz := fldF hz; clear hz)); have HGa := hid hgx; have HRD1 := hid hrda; clear HRD0 hrda hga hgx hr1; (try dsimp only))
          | (go_simp; go_at_call 36; have hrdx := HRD1.out; clear hrdx; refine (pick_c R bs (q + 1001 + 3 * (3 - k) + 1) 6 _ (by first | exact HRD1.out | exact HRD1.out.gr ((Gr.refl [] _).alloc _)) (by omega) (by omega)).mono ?_; rintro e wb ⟨⟨r2, rfl, hr2⟩, hrdb, hgb⟩; have hgx : Gr [R] wr wb := (by first | exact HGa.out.trans hgb | exact (HGa.out.alloc _).trans hgb); have hsb := hgb.size; (try simp at hsb); (try (have hz : wb.heap[wa.heap.size]? = some (.cells #[.slice none 0 0, .slice none 0 0, .slice none 0 0] 29 (0, 0)) := hgb.obj (heap_alloc_new wa (.cells #[.slice none 0 0, .slice none 0 0, .slice none 0 0] 29)) (by first | (simp; done) | (simp; omega)); have HZ := hid hz; have hzl := lt_of_block hz; have fz := fld hz; have ffz := fldF hz; clear hz)); (try (have hz : wb.heap[wr.heap.size]? = some (.cells #[.slice none 0 0, .slice none 0 0, .slice none 0 0] 29 (0, 0)) := hgb.obj HZ.out (by first | (simp; done) | (simp; omega)); have HZ := hid hz; have hzl := lt_of_block hz; have fz := fld hz; have ffz := fldF hz; clear hz)); have HGb := hid hgx; have HRD2 := hid hrdb; clear HRD1 hrdb hgb hgx hr2; (try dsimp only))
          | (go_simp; go_at_call 36; have hrdx := HRD2.out; clear hrdx; refine (pick_c R bs (q + 1001 + 3 * (3 - k) + 1 + 1) 2 _ (by first | exact HRD2.out | exact HRD2.out.gr ((Gr.refl [] _).alloc _)) (by omega) (by omega)).mono ?_; rintro e wc ⟨⟨r3, rfl, hr3⟩, hrdc, hgc⟩; have hgx : Gr [R] wr wc := (by first | exact HGb.out.trans hgc | exact (HGb.out.alloc _).trans hgc); have hsc := hgc.size; (try simp at hsc); (try (have hz : wc.heap[wb.heap.size]? = some (.cells #[.slice none 0 0, .slice none 0 0, .slice none 0 0] 29 (0, 0)) := hgc.obj (heap_alloc_new wb (.cells #[.slice none 0 0, .slice none 0 0, .slice none 0 0] 29)) (by first | (simp; done) | (simp; omega)); have HZ := hid hz; have hzl := lt_of_block hz; have fz := fld hz; have ffz := fldF hz; clear hz)); (try (have hz : wc.heap[wr.heap.size]? = some (.cells #[.slice none 0 0, .slice none 0 0, .slice none 0 0] 29 (0, 0)) := hgc.obj HZ.out (by first | (simp; done) | (simp; omega)); have HZ := hid hz; have hzl := lt_of_block hz; have fz := fld hz; have ffz := fldF hz; clear hz)); (try (have hz : wc.heap[wa.heap.size]? = some (.cells #[.slice none 0 0, .slice none 0 0, .slice none 0 0] 29 (0, 0)) := hgc.obj HZ.out (by first | (simp; done) | (simp; omega)); have HZ := hid hz; have hzl := lt_of_block hz; have fz := fld hz; have ffz := fldF hz; clear hz)); have HGc := hid hgx; have HRD3 := hid hrdc; clear HRD2 hrdc hgc hgx hr3; (try dsimp only))
          | (go_simp; go_at_call 9; have hrdx := HRD3.out; clear hrdx; obtain ⟨l, hl⟩ : ∃ l : Lit, l = ⟨r1, r2, r3 == 0⟩ := ⟨_, rfl⟩; refine (specDecide_c s ⟨r1, r2, r3 == 0⟩ C _ _ ((Hse.out.gr (by first | exact HGc.out | exact HGc.out.alloc _) (by simp; omega)).sto [] (by simp)) Hsm.out (fun _ => HC.out)).mono ?_; rw [← hl]; rintro e wd ⟨vd, rfl, hstd, hsed, hgd⟩; obtain ⟨xo', xc', yo', yc', lo', lc', rfl, -, -⟩ := hstd.open; have hgx : Gr [R] wr wd := (by first | exact HGc.out.trans hgd.any | exact (HGc.out.alloc _).trans hgd.any); have hsd := hgd.size; (try simp at hsd); (try (have hz : wd.heap[wc.heap.size]? = some (.cells #[.slice none 0 0, .slice none 0 0, .slice none 0 0] 29 (0, 0)) := hgd.obj (heap_alloc_new wc (.cells #[.slice none 0 0, .slice none 0 0, .slice none 0 0] 29)) (by first | (simp; done) | (simp; omega)); have HZ := hid hz; have hzl := lt_of_block hz; have fz := fld hz; have ffz := fldF hz; clear hz)); (try (have hz : wd.heap[wr.heap.size]? = some (.cells #[.slice none 0 0, .slice none 0 0, .slice none 0 0] 29 (0, 0)) := hgd.obj HZ.out (by first | (simp; done) | (simp; omega)); have HZ := hid hz; have hzl := lt_of_block hz; have fz := fld hz; have ffz := fldF hz; clear hz)); (try (have hz : wd.heap[wa.heap.size]? = some (.cells #[.slice none 0 0, .slice none 0 0, .slice none 0 0] 29 (0, 0)) := hgd.obj HZ.out (by first | (simp; done) | (simp; omega)); have HZ := hid hz; have hzl := lt_of_block hz; have fz := fld hz; have ffz := fldF hz; clear hz)); (try (have hz : wd.heap[wb.heap.size]? = some (.cells #[.slice none 0 0, .slice none 0 0, .slice none 0 0] 29 (0, 0)) := hgd.obj HZ.out (by first | (simp; done) | (simp; omega)); have HZ := hid hz; have hzl := lt_of_block hz; have fz := fld hz; have ffz := fldF hz; clear hz)); have HGd := hid hgx; have HSed := hid hsed; have HRD4 : Hid (Rd wd R bs (q + 1001 + 3 * (3 - k) + 1 + 1 + 1)) := hid (by first | exact HRD3.out.gr hgd | exact (HRD3.out.gr ((Gr.refl [] _).alloc _)).gr hgd); clear HRD3 hstd hsed hgd hgx hl; (try dsimp only)))
        all_goals
          go_wp2_with fail
          go_meet
          first
          | exact as_meet (X := wd.heap.size) l HGd.out (fun h => HSed.out h) (by (try simp); omega) HRD4.out (Gr.any ((Gr.refl [] wd).alloc _)) (sto3 _ _ _ _) HGd.out.size (.inr (Nat.le_refl _)) hRr
          | exact as_meet (X := wc.heap.size) l HGd.out (fun h => HSed.out h) (by (try simp); omega) HRD4.out (set3 _ _ _ HZ.out).2 (set3 _ _ _ HZ.out).1 HGc.out.size (.inl (by (try simp); (try omega))) hRr
          | exact as_meet (X := wb.heap.size) l HGd.out (fun h => HSed.out h) (by (try simp); omega) HRD4.out (set3 _ _ _ HZ.out).2 (set3 _ _ _ HZ.out).1 HGb.out.size (.inl (by (try simp); (try omega))) hRr
          | exact as_meet (X := wa.heap.size) l HGd.out (fun h => HSed.out h) (by (try simp); omega) HRD4.out (set3 _ _ _ HZ.out).2 (set3 _ _ _ HZ.out).1 HGa.out.size (.inl (by (try simp); (try omega))) hRr
          | exact as_meet (X := wr.heap.size) l HGd.out (fun h => HSed.out h) (by (try simp); omega) HRD4.out (set3 _ _ _ HZ.out).2 (set3 _ _ _ HZ.out).1 (Nat.le_refl _) (.inl (by (try simp); (try omega))) hRr
      case rest =>
        obtain ⟨l, X, xo', xc', yo', yc', lo', lc', B', E', rfl, rfl, hx6, hXr, hse6, hBE, hrd6, hg6⟩ := hcut
        have hb6 := HBX.out _ hg6
        have HB6 := hid hb6; have HX6 := hid hx6; have HG6 := hid hg6; have HRD6 := hid hrd6; have HSE6 := hid hse6
        have hsx := hg6.size
        have fb6 := fld hb6; have ffb6 := fldF hb6; have fx6 := fld hx6
        clear hb6 hx6 hg6 hrd6 hse6
        cases hdb : decB s l
        · clear fx6
          go_wp2_with fail
          exact ⟨⟨k - 1, s, xo, xc, yo, yc, lo, lc, B, E, by omega, by go_num, HB6.out, Hse.out.gr HG6.out (by simp; omega), ⟨hB1, by omega, hB3⟩, ⟨Hval.out, Hsm.out⟩, HRD6.out.le (by omega), HL.out.trans (HG6.out.subL (by simp))⟩, by simp [intOf]; omega⟩
        · have hdr := decR_of (C := C) hdb
          rw [hdr] at HX6 fx6
          have hse6 := HSE6.out hdb
          rw [hdr] at hse6
          have HVal6 := hid (decS_valid hdb HC.out)
          have HSe6 := hid hse6
          have Hdb := hid hdb
          clear hdr hse6 hdb
          go_wp2_with fail
          obtain ⟨h7, hG7⟩ := set3 (.slice xo' (decS s l C).mod.doms.length xc') (.slice yo' (decS s l C).mod.cons.length yc') (.slice lo' (decS s l C).lv.length lc') HB6.out
          exact ⟨⟨k - 1, decS s l C, xo', xc', yo', yc', lo', lc', B', E', by omega, by go_num, h7, HSe6.out.gr hG7 (by simp; omega), ⟨by omega, by have := hG7.size; omega, .inl (by omega)⟩, ⟨HVal6.out, Hsm.out⟩, (HRD6.out.grS hG7 (by simp; omega)).le (by omega), (HL.out.trans (HG6.out.subL (by simp))).trans (hG7.subL (by simp))⟩, by simp [intOf]; omega⟩
    · have hk0 : k = 0 := by omega
      subst hk0
      clear hlt
      go_wp2_with fail
      have hcall := pick_c R bs (q + 1001 + 3 * (3 - 0)) 16 _ Hrd.out (by omega) (by omega)
      (with_reducible refine hcall.mono ?_)
      clear hcall
      rintro e w8 ⟨⟨r8, rfl, hr80, hr8n⟩, hrd8, hg8⟩
      have HE8 := hid (Hse.out.gr hg8 (by simp; omega)); have HB8 := hid (hg8.obj Hb.out (by simp; omega)); have HRd8 := hid hrd8
      have HR8 := hid (hg8.obj (HL.out.obj HR4.out (by simp; omega)) (by simp; omega))
      have HG8 : Hid (Gr [R] w w8) := hid (HG4.out.step (HL.out.trans (hg8.subL (by simp))) (fun i hi => by simp at hi; rcases hi with h | h; exact .inl (by simp [h]); exact .inr (by omega)))
      have hs8 := hg8.size
      obtain ⟨gl, lc', g0, c0, r0, dv, cv, e1, hr0, hgl, hg0, hne, hcell, hfz, hown, hset⟩ := HE8.out.first (by omega)
      simp only [Value.agg.injEq, Array.mk.injEq, List.cons.injEq, Value.slice.injEq, and_true, true_and] at e1
      obtain ⟨rfl, rfl, rfl, rfl⟩ := e1
      have hbk : gl ≠ w2.heap.size ∧ g0 ≠ w2.heap.size := by omega
      have Hset := hid hset; have Hown := hid hown; have Hcell := hid hcell; have Hfz := hid hfz; have Hr0 := hid hr0
      have HCr := hid HC.out.rows
      have hlv0 : 0 < s.lv.length := by omega
      have hlv1 : (0 : Int) < (s.lv.length : Int) := by omega
      have hrl0 : 0 < r0.length := (HC.out.rows r0 (List.mem_of_getElem? hr0)).1
      have hrl1 : (0 : Int) < (r0.length : Int) := by omega
      have HD4 : Hid (s.mod.doms.length ≤ 4) := hid (by rw [← Hnd.out]; exact hn4)
      clear hrd8 hg8 hset hown hr80 hr8n hb hr0 hcell hfz
      have fb8 := fld HB8.out; have fr8 := fld HR8.out; have ffr8 := fldF HR8.out; have ffb8 := fldF HB8.out
      cases h0 : (r8 == 0)
      · cases h1 : (r8 == 1)
        · cases h2 : (r8 == 2)
          · go_wp2_with fail
            obtain ⟨h5, hG5⟩ := set3 (.slice xo s.mod.doms.length xc) (.slice yo s.mod.cons.length yc) (.slice (some ⟨gl, 0, none⟩) s.lv.length lc) HR8.out
            have flE := fld h5
            refine bodyPost_ret (v := .agg #[.slice xo s.mod.doms.length xc, .slice yo s.mod.cons.length yc, .slice (some ⟨gl, 0, none⟩) s.lv.length lc]) (by simp [results, Tryz.results35, go_sem, flE]) rfl ⟨s, _, rfl, fun S hS => ?_, Hsm.out, HD4.out, (HRd8.out.grS hG5 (by simp; omega)).le (by omega), HG8.out.step hG5 (fun i hi => .inr (by simp at hi; omega))⟩
            exact ((HE8.out.sto (w.heap.size :: S) (fun b hb => by simp at hb; rcases hb with h | h; omega; (have := hS b h; omega))).gr (hG5.subL (by simp))).sub (fun b _ h => List.mem_cons_of_mem _ h)
          · obtain ⟨x0, hx0⟩ : ∃ x0, r0[0]? = some x0 := get_some (by
              have := (HCr.out r0 (List.mem_of_getElem? Hr0.out)).1; omega)
            have HX0 := hid hx0
            have HS8 : Hid (∀ W, Gr [R] w8 W → (W.cell? ⟨w2.heap.size, 2, none⟩ = some (.slice (some ⟨gl, 0, none⟩) s.lv.length lc) ∧ W.cell? ⟨gl, 0, none⟩ = some (.slice (some ⟨g0, 0, none⟩) r0.length c0)) ∧ Gr [R] w8 W) :=
              hid fun W h => ⟨⟨fld (h.obj HB8.out (by simp; omega)) 2, h.cell Hcell.out (by simp; omega)⟩, h⟩
            obtain ⟨⟨ca1, ca2⟩, -⟩ := HS8.out _ (Gr.refl [R] w8)
            obtain ⟨⟨cb1, cb2⟩, -⟩ := HS8.out _ (Gr.refl [R] w8).drew
            obtain ⟨⟨cc1, cc2⟩, -⟩ := HS8.out _ ((Gr.refl [R] w8).alloc (.cells #[.int .i64 1, .int .i64 64, .int .i64 3] 3))
            obtain ⟨⟨cd1, cd2⟩, -⟩ := HS8.out _ (((Gr.refl [R] w8).drew).alloc (.cells #[.int .i64 1, .int .i64 64, .int .i64 3] 3))
            clear hx0
            go_wp2_with fail
            go_region_law (first
              | (go_simp; go_at_call 86; refine (one_c R bs (q + 1001 + 3 * (3 - 0) + 1) _ [1, 64, 3] _ (by first | exact HRd8.out.gr (((Gr.refl [] w8).drew).alloc _) | exact HRd8.out.gr ((Gr.refl [] w8).alloc _)) (nums_new _ _ _ (by simp <;> omega)) (by omega) (by simp) (by simp)).mono ?_; rintro e w9 ⟨⟨r9, rfl, hr9⟩, hrd9, hg9⟩; have hgx : Gr [R] w8 w9 := (by first | exact (((Gr.refl [R] w8).drew).alloc _).trans hg9 | exact ((Gr.refl [R] w8).alloc _).trans hg9); have HG9 := hid hgx; have HRd9 := hid hrd9; obtain ⟨hca, hcb⟩ := (HS8.out w9 hgx).1; have ho9 := Hown.out.keep hgx (by simp; omega); obtain ⟨hcc, hcd⟩ := ho9.at HX0.out; have HO9 := hid ho9; have fb9 := fld (hgx.obj HB8.out (by simp; omega)); clear hr9 hrd9 hg9 hgx ho9; (try dsimp only)))
            all_goals
              have hgs : Gr [g0] w9 (w9.setCell ⟨g0, 0, none⟩ (.int .i64 r9)) := (Gr.refl _ _).setCell _ _ (.inl (by simp))
              have hgR : Gr [R, g0] w8 (w9.setCell ⟨g0, 0, none⟩ (.int .i64 r9)) := (HG9.out.subL (by simp)).trans (hgs.subL (by simp))
              have HGR := hid hgR; have Hgs := hid hgs
              have HRE := hid (hgR.obj HR8.out (by simp; omega)); have HBE := hid (hgR.obj HB8.out (by simp; omega))
              have HCE := hid (hgR.cell Hcell.out (by simp; omega))
              have fbE := fld HBE.out; have frE := fld HRE.out; have ffrE := fldF HRE.out
              clear hgs hgR
              go_wp2_with fail
              obtain ⟨h5, hG5⟩ := set3 (.slice xo s.mod.doms.length xc) (.slice yo s.mod.cons.length yc) (.slice (some ⟨gl, 0, none⟩) s.lv.length lc) HRE.out
              have flE := fld h5
              refine bodyPost_ret (v := .agg #[.slice xo s.mod.doms.length xc, .slice yo s.mod.cons.length yc, .slice (some ⟨gl, 0, none⟩) s.lv.length lc]) (by simp [results, Tryz.results35, go_sem, flE]) rfl ⟨⟨s.mod, s.lv.set 0 (r0.set 0 r9)⟩, _, rfl, fun S hS => ?_, Hsm.out, HD4.out, (((HRd9.out).grS Hgs.out (by simp; omega)).grS hG5 (by simp; omega)).le (by omega), (HG8.out.step HGR.out (fun i hi => by simp at hi; rcases hi with h | h; exact .inl (by simp [h]); exact .inr (by omega))).step hG5 (fun i hi => .inr (by simp at hi; omega))⟩
              have hon : Own 0 (w9.setCell ⟨g0, 0, none⟩ (.int .i64 r9)) 3 (.slice (some ⟨g0, 0, none⟩) r0.length c0) (r0.set 0 r9) := HO9.out.set 0 r9 (List.getElem?_eq_some_iff.1 HX0.out).1
              have hst := Hset.out [R, g0] _ _ (r0.set 0 r9) (w.heap.size :: S) HGR.out (fun b hb => by simp at hb; omega) (fun j u hj hu => HGR.out.cell hu (by simp; omega)) HCE.out (fun b hb => by simp at hb; rcases hb with h | h; omega; (have := hS b h; omega)) (hon.numsS (fun hm => by simp at hm; rcases hm with h | h; omega; (have := hS g0 h; omega)))
              have hst2 := (hst.gr (hG5.subL (by simp))).sub (S' := S) (fun b _ h => List.mem_cons_of_mem _ h)
              simpa using hst2
        · have hX9 := block_cells (cur' := #[]) HB8.out 2 (.slice none 0 0)
          have hg9 : Gr [w2.heap.size] w8 (w8.setCell ⟨w2.heap.size, 2, none⟩ (.slice none 0 0)) := (Gr.refl _ _).setCell _ _ (.inl (by simp))
          have hR9 := hg9.obj HR8.out (by simp; omega)
          have Hg9 := hid hg9; have HR9 := hid hR9
          have fb9 := fld hX9; have fr9 := fld hR9; have ffr9 := fldF hR9
          clear hX9 hg9 hR9
          go_wp2_with fail
          obtain ⟨h5, hG5⟩ := set3 (.slice xo s.mod.doms.length xc) (.slice yo s.mod.cons.length yc) (.slice none 0 0) HR9.out
          have flE := fld h5
          refine bodyPost_ret (v := .agg #[.slice xo s.mod.doms.length xc, .slice yo s.mod.cons.length yc, .slice none 0 0]) (by simp [results, Tryz.results35, go_sem, flE]) rfl ⟨⟨s.mod, []⟩, _, rfl, fun S hS => ?_, Hsm.out, HD4.out, ((HRd8.out.grS Hg9.out (by simp; omega)).grS hG5 (by simp; omega)).le (by omega), (HG8.out.step Hg9.out (fun i hi => .inr (by simp at hi; omega))).step hG5 (fun i hi => .inr (by simp at hi; omega))⟩
          have hst := HE8.out.sto (w.heap.size :: w2.heap.size :: S) (fun b hb => by simp at hb; rcases hb with h | h | h; omega; omega; (have := hS b h; omega))
          obtain ⟨_, _, _, _, _, _, e9, hm9, -⟩ := hst.open
          simp only [Value.agg.injEq, Array.mk.injEq, List.cons.injEq, Value.slice.injEq, and_true, true_and] at e9
          obtain ⟨⟨rfl, rfl⟩, ⟨rfl, rfl⟩, -⟩ := e9
          exact (StoV.mk (s := ⟨s.mod, []⟩) ((hm9.gr (Hg9.out.subL (by simp))).gr (hG5.subL (by simp))) (rowsV_nil0 _ _)).sub (fun b _ h => List.mem_cons_of_mem _ (List.mem_cons_of_mem _ h))
      · have HS8 : Hid (∀ W, Gr [] w8 W → (W.cell? ⟨w2.heap.size, 2, none⟩ = some (.slice (some ⟨gl, 0, none⟩) s.lv.length lc) ∧ W.cell? ⟨gl, 0, none⟩ = some (.slice (some ⟨g0, 0, none⟩) r0.length c0)) ∧ Gr [] w8 W) :=
          hid fun W h => ⟨⟨fld (h.obj HB8.out (by simp)) 2, h.cell Hcell.out (by simp)⟩, h⟩
        have hr04 := (HCr.out r0 (List.mem_of_getElem? Hr0.out)).2
        obtain ⟨⟨ca1, ca2⟩, -⟩ := HS8.out _ (Gr.refl [] w8)
        obtain ⟨⟨cb1, cb2⟩, -⟩ := HS8.out _ (Gr.refl [] w8).drew
        obtain ⟨⟨cc1, cc2⟩, -⟩ := HS8.out _ ((Gr.refl [] w8).alloc (.cells #[.int .i64 1] 3))
        obtain ⟨⟨cd1, cd2⟩, -⟩ := HS8.out _ (((Gr.refl [] w8).drew).alloc (.cells #[.int .i64 1] 3))
        go_wp2_with fail
        go_region_law (first
          | (refine step_app1X rfl _ _ 23 rfl 0 3 infoInt Tryz.underlying23 (.slice (some ⟨g0, 0, none⟩) r0.length c0) r0 rfl (by first | exact Hown.out.alloc _ | exact Hown.out.drew.alloc _) w8.heap.size 1 1 rfl (cell_new _ _ _) (by omega) (by simp) ?_; intro g7 c7 w7 hown7 hg7 hwh7; have hgx : Gr [g0] w8 w7 := (by first | exact (Gr.any ((Gr.refl [] w8).alloc _)).trans hg7 | exact (Gr.any (((Gr.refl [] w8).drew).alloc _)).trans hg7); have HG7 := hid hgx; have HO7 := hid hown7; have hwh8 : g0 = g7 ∨ w8.heap.size < g7 := (by rcases hwh7 with h | h; exact .inl (by simpa [Value.ownBlock] using h); exact .inr (by simp at h; omega)); have fb7 := fld (hgx.obj HB8.out (by simp; omega)); have hc7 := hgx.cell Hcell.out (by simp; omega); have hf7 : ∀ j, w7.frozen? ⟨gl, j, none⟩ = false := (fun j => (hgx.frozen (a := ⟨gl, j, none⟩) (by show gl < _; omega) (by simp; omega)).trans (Hfz.out j)); clear hown7 hg7 hwh7 hgx))
        all_goals
          have hgs : Gr [gl] w7 (w7.setCell ⟨gl, 0, none⟩ (.slice (some ⟨g7, 0, none⟩) (r0.length + 1) c7)) := (Gr.refl _ _).setCell _ _ (.inl (by simp))
          have hgR : Gr [g0, gl] w8 (w7.setCell ⟨gl, 0, none⟩ (.slice (some ⟨g7, 0, none⟩) (r0.length + 1) c7)) := (HG7.out.subL (by simp)).trans (hgs.subL (by simp))
          have HGR := hid hgR; have Hgs := hid hgs
          have HRE := hid (hgR.obj HR8.out (by simp; omega)); have HBE := hid (hgR.obj HB8.out (by simp; omega))
          have fbE := fld HBE.out; have frE := fld HRE.out; have ffrE := fldF HRE.out
          have Hc7 := hid hc7
          clear hgs hgR
          go_wp2_with fail
          obtain ⟨h5, hG5⟩ := set3 (.slice xo s.mod.doms.length xc) (.slice yo s.mod.cons.length yc) (.slice (some ⟨gl, 0, none⟩) s.lv.length lc) HRE.out
          have flE := fld h5
          refine bodyPost_ret (v := .agg #[.slice xo s.mod.doms.length xc, .slice yo s.mod.cons.length yc, .slice (some ⟨gl, 0, none⟩) s.lv.length lc]) (by simp [results, Tryz.results35, go_sem, flE]) rfl ⟨⟨s.mod, s.lv.set 0 (r0 ++ [1])⟩, _, rfl, fun S hS => ?_, Hsm.out, HD4.out, (((HRd8.out).grS HGR.out (by simp; omega)).grS hG5 (by simp; omega)).le (by omega), (HG8.out.step HGR.out (fun i hi => .inr (by simp at hi; omega))).step hG5 (fun i hi => .inr (by simp at hi; omega))⟩
          have hon := HO7.out.keep Hgs.out (by simp; omega)
          have hst := Hset.out [g0, gl] _ _ (r0 ++ [1]) (w.heap.size :: S) HGR.out (fun b hb => by simp at hb; omega) (fun j u hj hu => (World.cell?_setCell_other _ _ _ _ (by intro e; simp at e; (try omega))).trans (HG7.out.cell hu (by simp; omega))) (World.cell?_setCell_same _ _ _ Hc7.out) (fun b hb => by simp at hb; rcases hb with h | h; omega; (have := hS b h; omega)) (hon.numsS (fun hm => by simp at hm; rcases hm with h | h; omega; (have := hS g7 h; omega)))
          have hst2 := (hst.gr (hG5.subL (by simp))).sub (S' := S) (fun b _ h => List.mem_cons_of_mem _ h)
          simpa using hst2

end Go.Proofs.YtihkeihnpiddoaaGreat
