/-
  Walks of the generators DrawPropagate and DrawIsConsistent.
-/
import Derived.Test.YthjmdcilfbgidaaG7
import Derived.Test.YthjmdcilfbgidaaM5
set_option linter.unusedVariables false
namespace Go.Proofs.Ythjmdcilfbgidaa
open Go.RowKit

/-- A model in memory. -/
def DrawPost (w : World) (e : Ending) (w' : World) : Prop := ∃ (m : Mod) (mv : Value), e = .returned mv ∧ ModV [] w' mv m ∧ m.Small ∧ Gr [] w w'
theorem ModPost.modv {S : List Nat} {B : Nat} {w' : World} {m : Mod} {M ac cc : Nat} {ao co : Option Addr} (hS : ∀ b ∈ S, b < B ∨ w'.heap.size ≤ b) (hBM : B ≤ M) (h1 : Own B w' 3 (.slice ao m.doms.length ac) m.doms) (h2 : OwnG 5 elCon M w' 34 (.slice co m.cons.length cc) m.cons) :
    ModV S w' (.agg #[.slice ao m.doms.length ac, .slice co m.cons.length cc]) m := ⟨_, _, rfl, h1.nums' hS, h2.cons fun b hb => (hS b hb).imp (by omega) id⟩
theorem ModV.sub0 {S : List Nat} {w : World} {v : Value} {m : Mod} (h : ModV S w v m) : ModV [] w v m := ModV.sub h (by simp)
theorem Nums.eq {S : List Nat} {w : World} {k : IntKind} {v : Value} {xs ys : List Int} (h : Nums S w k v xs) (e : xs = ys) : Nums S w k v ys := e ▸ h
theorem ModV.parts {S : List Nat} {w : World} {dv cv : Value} {m : Mod} (h : ModV S w (.agg #[dv, cv]) m) : Nums S w .i64 dv m.doms ∧ ConsV S w cv m.cons := by
  obtain ⟨dv', cv', e, h1, h2⟩ := h
  simp only [Value.agg.injEq] at e
  have e1 := congrArg (fun a => a[0]?) e
  have e2 := congrArg (fun a => a[1]?) e
  simp at e1 e2
  subst e1 e2
  exact ⟨h1, h2⟩
theorem mod_small {m : Mod} (h1 : m.doms.length ≤ 4) (h2 : m.cons.length ≤ 4) (h3 : ∀ c ∈ m.cons, SmallV c) : m.Small := ⟨by omega, by omega, fun c hc => (h3 c hc).1⟩

set_option maxRecDepth 100000 in
theorem DrawPropagate_c (v : Value) (bs : List Int) (w : World) (ao : Option Addr) (cap : Nat) (hv : v = .slice ao bs.length cap) (hlen : bs.length ≤ 9223372036854775807) (hcap : bs.length ≤ cap) (hc : Cells [] w .u8 ao bs) (hb : ∀ b ∈ bs, 0 ≤ b ∧ b ≤ 255) :
    Calls Try.prog 17 #[v] w (DrawPost w) := by
  subst hv
  have Hc := hid hc; have Hb := hid hb; clear hc hb
  have hg0 : Gr [] w (w.alloc (.cells #[.slice none 0 0, .slice none 0 0] 26)) := (Gr.refl _ _).alloc _
  have hr0 : (w.alloc (.cells #[.slice none 0 0, .slice none 0 0] 26)).heap[w.heap.size]? = some (.cells #[.slice none 0 0, .slice none 0 0] 26 (0, 0)) := heap_alloc_new _ _
  have Hr0 := hid hr0; have Hg0 := hid hg0; clear hr0 hg0
  go_enter Try.func17, Try.ntmps17
  go_wp2_with fail
  have hcall := newReader_c _ bs _ ao cap rfl hlen hcap (Hc.out.gr Hg0.out) Hb.out
  (with_reducible refine hcall.mono ?_)
  clear hcall
  rintro e w1 ⟨⟨R, cs, rfl, hR, hrd1⟩, hg1⟩
  go_wp2_with fail
  have hcall := anyModel_c R cs 0 _ hrd1 (by omega)
  (with_reducible refine hcall.mono ?_)
  clear hcall
  rintro e w2 ⟨m, M, bo, ac, co, cc, rfl, hown, hdM, ⟨hM1, hM2⟩, hcs, ⟨hd1, hd4⟩, hc4, htv, hrd2, hg2⟩
  simp only [World.size_alloc] at hR
  have hr2 := hg2.obj (hg1.obj Hr0.out (by simp)) (by simp; omega)
  have Hown := hid hown; have Hcs := hid hcs; have Htv := hid htv; have Hr2 := hid hr2
  have HG : Hid (Gr [] w w2) := hid ((Hg0.out.trans hg1).step hg2 (fun i hi => .inr (by simp at hi; omega)))
  have hsz := (hg1.trans (Gr.refl _ _)).size
  simp only [World.size_alloc] at hsz
  clear hown hcs htv hr2 hg1 hg2 hrd1 hrd2
  go_wp2_with ((with_reducible show wpList _ _ _ (⟨none, Op.store _ (Operand.tmp 2) (Operand.tmp 5), _, _, _, none⟩ :: _) _ _); refine wp_storeT 26 2 5 w.heap.size #[.slice bo m.doms.length ac, .slice co m.cons.length cc] 26 #[.slice none 0 0, .slice none 0 0] Hr2.out ⟨sizeM, rfl, rfl, rfl, one2 _ _ _ _ _ _⟩ ?_; intro wE hbE hgE)
  have flE := fld hbE
  refine bodyPost_ret (v := .agg #[.slice bo m.doms.length ac, .slice co m.cons.length cc]) ?_ rfl ?_
  · simp [results, Try.results17, go_sem, flE]
  · exact ⟨m, _, rfl, ModPost.modv (by simp) hM1 (Hown.out.gr hgE (by simp; omega)) (Hcs.out.gr elCon_ok hgE (by simp; omega)), mod_small hd4 hc4 Htv.out, HG.out.step hgE (fun i hi => .inr (by simp at hi; omega))⟩

set_option maxRecDepth 100000 in
set_option maxHeartbeats 1000000 in
theorem DrawIsConsistent_c (v : Value) (bs : List Int) (w : World) (ao : Option Addr) (cap : Nat) (hv : v = .slice ao bs.length cap) (hlen : bs.length ≤ 9223372036854775807) (hcap : bs.length ≤ cap) (hc : Cells [] w .u8 ao bs) (hb : ∀ b ∈ bs, 0 ≤ b ∧ b ≤ 255) :
    Calls Try.prog 11 #[v] w (DrawPost w) := by
  subst hv
  have Hc := hid hc; have Hb := hid hb; clear hc hb
  have hg0 : Gr [] w (w.alloc (.cells #[.slice none 0 0, .slice none 0 0] 26)) := (Gr.refl _ _).alloc _
  have hr0 : (w.alloc (.cells #[.slice none 0 0, .slice none 0 0] 26)).heap[w.heap.size]? = some (.cells #[.slice none 0 0, .slice none 0 0] 26 (0, 0)) := heap_alloc_new _ _
  have Hr0 := hid hr0; have Hg0 := hid hg0; clear hr0 hg0
  go_enter Try.func11, Try.ntmps11
  go_wp2_with fail
  have hcall := newReader_c _ bs _ ao cap rfl hlen hcap (Hc.out.gr Hg0.out) Hb.out
  (with_reducible refine hcall.mono ?_)
  clear hcall
  rintro e w1 ⟨⟨R, cs, rfl, hR, hrd1⟩, hg1⟩
  go_wp2_with fail
  have hcall := anyModel_c R cs 0 _ hrd1 (by omega)
  (with_reducible refine hcall.mono ?_)
  clear hcall
  rintro e w2 ⟨m, M, bo, ac, co, cc, rfl, hown, hdM, ⟨hM1, hM2⟩, hcs, ⟨hd1, hd4⟩, hc4, htv, hrd2, hg2⟩
  simp only [World.size_alloc] at hR
  have hRw1 := hrd1.lt
  have hr2 := hg2.obj (hg1.obj Hr0.out (by simp)) (by simp; omega)
  have hmv := ModPost.modv (S := [w.heap.size, w2.heap.size, R]) (by have := hg1.size; simp at this ⊢; omega) hM1 hown hcs
  have hcv := hcs.cons (S := [w.heap.size, w2.heap.size, R]) (by have := hg1.size; simp at this hM1 ⊢; omega)
  have hms := mod_small hd4 hc4 htv
  have HG : Hid (Gr [] w w2) := hid ((Hg0.out.trans hg1).step hg2 (fun i hi => .inr (by simp at hi; omega)))
  have hsz := (hg1.trans (Gr.refl _ _)).size
  simp only [World.size_alloc] at hsz
  have hRl := hrd2.lt
  have ha3 : Gr [] w2 (w2.alloc (.cells #[.slice bo m.doms.length ac, .slice co m.cons.length cc] 26)) := (Gr.refl _ _).alloc _
  have hb3 : (w2.alloc (.cells #[.slice bo m.doms.length ac, .slice co m.cons.length cc] 26)).heap[w2.heap.size]? = some (.cells #[.slice bo m.doms.length ac, .slice co m.cons.length cc] 26 (0, 0)) := heap_alloc_new _ _
  have Hmv := hid (hmv.gr ha3.any); have Hcv := hid (hcv.gr ha3.any); have Hms := hid hms; have Hr3 := hid (ha3.obj hr2 (by simp)); have Hrd3 := hid (hrd2.gr ha3); have Hb3 := hid hb3
  have HG3 := hid (HG.out.trans ha3)
  have hwl := lt_of_block hr2
  clear hown hcs htv hr2 hg1 hg2 hrd1 hrd2 hmv hcv hms ha3 hb3 HG hdM
  go_wp2_with fail
  have hcall := specValidModel_c m _ _ Hmv.out.sub0 Hms.out
  (with_reducible refine hcall.mono ?_)
  clear hcall
  rintro e w4 ⟨rfl, hg4⟩
  have HG4 := hid (HG3.out.trans hg4)
  have Hmv4 := hid (Hmv.out.gr hg4.any); have Hcv4 := hid (Hcv.out.gr hg4.any); have Hr4 := hid (hg4.obj Hr3.out (by simp)); have Hb4 := hid (hg4.obj Hb3.out (by simp)); have Hrd4 := hid (Hrd3.out.gr hg4)
  have fl4 := fld Hb4.out
  have hs4 := lt_of_block Hb4.out
  clear hg4 Hmv Hcv Hr3 Hrd3 Hb3 HG3
  cases hval : validM m
  · go_wp2_with ((with_reducible show wpList _ _ _ (⟨none, Op.store _ (Operand.tmp 2) (Operand.tmp 21), _, _, _, none⟩ :: _) _ _); refine wp_storeT 26 2 21 w.heap.size #[.slice bo m.doms.length ac, .slice co m.cons.length cc] 26 #[.slice none 0 0, .slice none 0 0] Hr4.out ⟨sizeM, rfl, rfl, rfl, one2 _ _ _ _ _ _⟩ ?_; intro wE hbE hgE)
    have flE := fld hbE
    refine bodyPost_ret (v := .agg #[.slice bo m.doms.length ac, .slice co m.cons.length cc]) ?_ rfl ?_
    · simp [results, Try.results11, go_sem, flE]
    · exact ⟨m, _, rfl, (Hmv4.out.gr (hgE.sub (fun k _ hk => by simp at hk ⊢; exact .inl hk))).sub0, Hms.out, HG4.out.step hgE (fun i hi => .inr (by simp at hi; omega))⟩
  · obtain ⟨D, hVM⟩ := validM_open hval
    have HVM := hid hVM; clear hVM
    have Hval := hid hval; clear hval
    go_wp2_with fail
    have hcall := pick_c R cs (0 + 2000) 2 _ Hrd4.out (by omega) (by omega)
    (with_reducible refine hcall.mono ?_)
    clear hcall
    rintro e w5 ⟨⟨r5, rfl, hr50, hr5n⟩, hrd5, hg5⟩
    have HG5 := hid (HG4.out.step hg5 (fun i hi => .inr (by simp at hi; omega)))
    have HR5 : Hid (Gr [w.heap.size, w2.heap.size, R] _ w5) := hid (hg5.sub (fun k _ hk => by simp at hk ⊢; exact .inr (.inr hk)))
    have Hmv5 := hid (Hmv4.out.gr HR5.out); have Hcv5 := hid (Hcv4.out.gr HR5.out); have Hr5 := hid (hg5.obj Hr4.out (by simp; omega)); have Hb5 := hid (hg5.obj Hb4.out (by simp; omega))
    have fl5 := fld Hb5.out
    have ff5 := fldF Hb5.out
    have hs5 := lt_of_block Hb5.out
    clear Hmv4 Hcv4 Hr4 Hb4 Hrd4 HR5 hg5 hrd5 fl4 HG4
    cases h0 : (r5 == 0)
    · go_wp2_with ((with_reducible show wpList _ _ _ (⟨none, Op.store _ (Operand.tmp 2) (Operand.tmp 21), _, _, _, none⟩ :: _) _ _); refine wp_storeT 26 2 21 w.heap.size #[.slice bo m.doms.length ac, .slice co m.cons.length cc] 26 #[.slice none 0 0, .slice none 0 0] Hr5.out ⟨sizeM, rfl, rfl, rfl, one2 _ _ _ _ _ _⟩ ?_; intro wE hbE hgE)
      have flE := fld hbE
      refine bodyPost_ret (v := .agg #[.slice bo m.doms.length ac, .slice co m.cons.length cc]) ?_ rfl ?_
      · simp [results, Try.results11, go_sem, flE]
      · exact ⟨m, _, rfl, (Hmv5.out.gr (hgE.sub (fun k _ hk => by simp at hk ⊢; exact .inl hk))).sub0, Hms.out, HG5.out.step hgE (fun i hi => .inr (by simp at hi; omega))⟩
    · go_wp2_with fail
      have hcall := specFixpoint_c m D _ _ _ Hmv5.out.sub0 (Nums.eq Hmv5.out.sub0.parts.1 HVM.out.doms) HVM.out.cons HVM.out.below (by have := HVM.out.len; omega)
      (with_reducible refine hcall.mono ?_)
      clear hcall
      rintro e w6 ⟨v6, rfl, hown6, hg6⟩
      have hil : (ints (fix m.cons D)).length ≤ 4 := by rw [ints_len, fix_len HVM.out.cons]; have := HVM.out.len; omega
      obtain ⟨xo6, xc6, rfl⟩ := hown6.c.form
      have Hown6 := hid hown6
      have Hil := hid hil
      have Hcv6 := hid (Hcv5.out.gr hg6.any); have Hr6 := hid (hg6.obj Hr5.out (by simp)); have Hb6 := hid (hg6.obj Hb5.out (by simp))
      have HG6 := hid (HG5.out.trans hg6)
      have fl6 := fld Hb6.out
      have ff6 := fldF Hb6.out
      have hs6 := lt_of_block Hb6.out
      clear hown6 hil hg6 fl5 ff5
      have hgS : Gr [w2.heap.size] w6 (w6.setCell ⟨w2.heap.size, 0, none⟩ (.slice xo6 (ints (fix m.cons D)).length xc6)) := Gr.cell1 _ _ _ _ (by simp)
      have Hr7 := hid (hgS.obj Hr6.out (by simp; omega))
      have HgS := hid hgS; clear hgS
      go_wp2_with ((with_reducible show wpList _ _ _ (⟨none, Op.store _ (Operand.tmp 2) (Operand.tmp 21), _, _, _, none⟩ :: _) _ _); refine wp_storeT 26 2 21 w.heap.size #[.slice xo6 (ints (fix m.cons D)).length xc6, .slice co m.cons.length cc] 26 #[.slice none 0 0, .slice none 0 0] Hr7.out ⟨sizeM, rfl, rfl, rfl, one2 _ _ _ _ _ _⟩ ?_; intro wE hbE hgE)
      have flE := fld hbE
      refine bodyPost_ret (v := .agg #[.slice xo6 (ints (fix m.cons D)).length xc6, .slice co m.cons.length cc]) ?_ rfl ?_
      · simp [results, Try.results11, go_sem, flE]
      · have hgSE : Gr [w.heap.size, w2.heap.size, R] w6 wE := (HgS.out.sub (fun k _ hk => by simp at hk ⊢; exact .inr (.inl hk))).trans (hgE.sub (fun k _ hk => by simp at hk ⊢; exact .inl hk))
        refine ⟨⟨ints (fix m.cons D), m.cons⟩, _, rfl, ⟨_, _, rfl, ?_, ?_⟩, ⟨by have := Hil.out; show (ints (fix m.cons D)).length ≤ _; omega, Hms.out.cons, Hms.out.con⟩, (HG6.out.step HgS.out (fun i hi => .inr (by simp at hi; omega))).step hgE (fun i hi => .inr (by simp at hi; omega))⟩
        · exact ((Hown6.out.gr HgS.out (by simp; omega)).gr hgE (by simp; omega)).nums (by simp)
        · exact (Hcv6.out.gr hgSE).sub (by simp)
end Go.Proofs.Ythjmdcilfbgidaa
