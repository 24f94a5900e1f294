/-
  Walk of the program's test whether all tuples satisfy a constraint.
-/
import Derived.Test.YtngpcoilgilmjaaH
import Derived.Test.YtngpcoilgilmjaaFP
import Derived.Test.YtngpcoilgilmjaaLib
import Derived.Test.YtngpcoilgilmjaaQ
import Derived.Test.YtngpcoilgilmjaaJ
import Derived.Test.YtngpcoilgilmjaaCF
import Derived.Test.YtngpcoilgilmjaaEnt
import Derived.TacticsInMore
import Derived.LoopNIn
import Derived.LoopIn
import Derived.RangeFuncCalls
import Derived.RangeFuncLeaves
import Derived.Shelf.RegionOpen
import Derived.Laws.EntriesVeiled
set_option linter.unusedVariables false
namespace Go.Proofs.Ytngpcoilgilmjaa
open Go.RowKit
attribute [local go_sem] Oper.semAt_some

theorem cells1_set {w : World} {b : Nat} {u : Value} {t : TypeId} (h : w.heap[b]? = some (.cells #[u] t (0, 0))) (v : Value) : (w.setCell ⟨b, 0, none⟩ v).heap[b]? = some (.cells #[v] t (0, 0)) := by
  simp [World.setCell, Array.getElem?_modify, h]


set_option maxRecDepth 100000 in
set_option maxHeartbeats 1000000 in
theorem IsEntailed_c (c : Con) (ds : List Int) (D : List Nat) (cv dv : Value) (w : World) (hv : ConV [] w cv c) (hx : Nums [] w .i64 dv ds) (hD : domsOk ds = true → ds = ints D ∧ Below64 D) :
    Calls Try.prog 9 #[cv, dv] w fun e w' => e = .returned (.bool (domsOk ds && validCon c ds.length && entB c D)) ∧ Gr [] w w' := by
  have Hv := hid hv
  have Hx := hid hx
  obtain ⟨vo, vc, ao, ac, ro, rc, rfl⟩ := hv.slices
  obtain ⟨dO, dc, rfl, ⟨hd1, hd2, _⟩, _⟩ := hx
  have hb0 := (heap2' w (.cells #[.int .i64 c.kind, .slice vo c.vars.length vc, .slice ao c.args.length ac, .int .i64 c.bound, .slice ro c.rows.length rc] 26) (.cells #[.bool false] 4)).1
  have hr0 := (heap2' w (.cells #[.int .i64 c.kind, .slice vo c.vars.length vc, .slice ao c.args.length ac, .int .i64 c.bound, .slice ro c.rows.length rc] 26) (.cells #[.bool false] 4)).2
  have hg0 : Gr [] w ((w.alloc (.cells #[.int .i64 c.kind, .slice vo c.vars.length vc, .slice ao c.args.length ac, .int .i64 c.bound, .slice ro c.rows.length rc] 26)).alloc (.cells #[.bool false] 4)) := ((Gr.refl _ _).alloc _).alloc _
  have hfl := fld hb0; have hfr := fld hr0; have hff := fldF hr0
  have Hb0 := hid hb0; have Hg0 := hid hg0; have HD := hid hD; have Hr0 := hid hr0
  clear hv hb0 hg0 hD hr0
  refine (callsIn_wide (n := 0)).1 ?_
  refine callsIn_of_wp_marks Try.func9 rfl trivial ?_ rfl
  simp only [Try.ntmps9, List.size_toArray, List.length_cons, List.length_nil, Nat.reduceAdd, Nat.reduceSub, Array.replicate_succ, Array.replicate_zero, List.push_toArray, List.append_toArray, List.nil_append, List.cons_append]
  gi_wp2_with fail
  have hcall := (callsIn_wide (n := 0)).2 (domainsOk_c ds _ _ (Hx.out.gr Hg0.out))
  refine ⟨trivial, rfl, ?_⟩
  (with_reducible refine hcall.mono ?_)
  clear hcall
  rintro e w1 ⟨rfl, hg1⟩
  dsimp only
  have hb1 := hg1.obj Hb0.out (by simp); have hr1 := hg1.obj Hr0.out (by simp)
  have hfl1 := fld hb1; have hfr1 := fld hr1; have hff1 := fldF hr1
  have Hg1 := hid (Hg0.out.trans hg1); have Hb1 := hid hb1; have Hr1 := hid hr1
  clear hg1 hfl hfr hff hb1 hr1
  cases hok : domsOk ds
  · gi_wp2_with fail
    refine ⟨trivial, ?_⟩
    gi_wp2_with fail
    have flE := fld (cells1_set Hr1.out (.bool false))
    refine ⟨.bool false, ?_, ret_bool (by rw [hok]; rfl), (Hg1.out.setCell _ _ (.inr (by simp)))⟩
    simp [results, Try.results9, go_sem, flE]
  obtain ⟨rfl, hb64⟩ := HD.out hok
  have hn4 : 1 ≤ D.length ∧ D.length ≤ 4 := by
    unfold domsOk at hok
    rw [Bool.and_eq_true, inB_iff, ints_len] at hok
    omega
  have hdl := ints_len D
  rw [hdl] at hd1 ⊢
  rw [hdl] at Hx
  have HB64 := hid hb64
  have HOK := hid hok
  clear hok hb64 HD hdl
  gi_wp2_with fail
  have hcall := (callsIn_wide (n := 0)).2 (ValidConstraint_c c (D.length : Int) _ _ (Hv.out.gr Hg1.out))
  refine ⟨trivial, rfl, ?_⟩
  (with_reducible refine hcall.mono ?_)
  clear hcall
  rintro e w2 ⟨rfl, hg2⟩
  dsimp only
  have hb2 := hg2.obj Hb1.out (by simp); have hr2 := hg2.obj Hr1.out (by simp)
  have hfl2 := fld hb2; have hfr2 := fld hr2; have hff2 := fldF hr2
  have Hg2 := hid (Hg1.out.trans hg2); have Hb2 := hid hb2; have Hr2 := hid hr2
  clear hg2 hfl1 hfr1 hff1 hb2 hr2
  cases hvc : validCon c (D.length : Int)
  · gi_wp2_with fail
    have flE := fld (cells1_set Hr2.out (.bool false))
    refine ⟨.bool false, ?_, ret_bool (by rw [HOK.out, ints_len, hvc]; rfl), (Hg2.out.setCell _ _ (.inr (by simp)))⟩
    simp [results, Try.results9, go_sem, flE]
  have hc : VC c D.length := validCon_iff.1 hvc
  have HC := hid hc
  have hl : c.vars.length ≤ 4 := by have := hc.k; have := hc.n4; omega
  have HVC := hid hvc
  clear hc hvc
  gi_wp2_with fail
  have hcall := (callsIn_wide (n := 0)).2 (word_c c (ints D) _ _ _ (Hv.out.gr Hg2.out) (Hx.out.gr Hg2.out) (by omega) (by have := HC.out.rng; simpa [ints] using this))
  refine ⟨trivial, rfl, ?_⟩
  (with_reducible refine hcall.mono ?_)
  clear hcall
  rintro e w3 ⟨wv, rfl, hown3, hg3⟩
  rw [wordN_ints] at hown3
  have Hown3 := hid hown3
  have hwl : (ints (wordN c.vars D)).length = c.vars.length := by rw [ints_len, wordN_len]
  obtain ⟨wo, wc, rfl, ⟨hw1, hw2, _⟩, _⟩ := hown3.nums (S := []) (by simp)
  have Hg3 := hid hg3
  have hb3 := hg3.obj Hb2.out (by simp); have hr3 := hg3.obj Hr2.out (by simp)
  have Hb3 := hid hb3; have Hr3 := hid hr3
  clear hown3 hg3 hfl2 hfr2 hff2 hb3 hr3
  rw [hwl] at hw1 Hown3 ⊢
  clear hwl
  dsimp only
  gi_wp2_with fail
  refine ⟨trivial, rfl, (callsIn_wide.2 (tuples_c _ _ _ _ _ rfl)).mono ?_⟩
  rintro e w4 ⟨rfl, rfl⟩
  dsimp only
  gi_wp2_with fail
  obtain ⟨wT, hwT⟩ : ∃ wT, wT = w3.alloc (.cells #[.slice wo c.vars.length wc] 23) := ⟨_, rfl⟩
  rw [← hwT]
  have hg3T : Gr [] w3 wT := by rw [hwT]; exact (Gr.refl _ _).alloc _
  have hgT : Gr [] w wT := (Hg2.out.trans Hg3.out).trans hg3T
  have hbT : wT.heap[w3.heap.size]? = some (.cells #[.slice wo c.vars.length wc] 23 (0, 0)) := by rw [hwT]; exact heap_alloc_new _ _
  have hcT := hg3T.obj Hb3.out (by simp)
  have hrT := hg3T.obj Hr3.out (by simp)
  have hsT : wT.heap.size = w3.heap.size + 1 := by rw [hwT]; simp
  have hs3 : w.heap.size + 1 < w3.heap.size := lt_of_block Hr3.out
  have hnT : Nums [w.heap.size + 1] wT .i64 (.slice wo c.vars.length wc) (ints (wordN c.vars D)) := by
    have h1 : Nums [w.heap.size + 1] w3 .i64 (.slice wo c.vars.length wc) (ints (wordN c.vars D)) := Hown3.out.nums' (by intro b hb; simp at hb; subst hb; left; have := lt_of_block Hr2.out; omega)
    exact h1.gr hg3T.any
  have hit := tuples_iter [w.heap.size + 1] wT w3.heap.size _ (wordN c.vars D) hbT hnT (by simp; omega) (by intro s hs; simp at hs; subst hs; omega) (by rw [wordN_len]; omega) (HB64.out.word c.vars)
  have Hit := hid hit
  have HgT := hid hgT; have HcT := hid hcT; have HrT := hid hrT
  clear hit hgT hcT hrT hbT hnT hg3T hwT
  refine' wp_rangeIter [w.heap.size + 1] rfl (fun _ _ => by kernel_rfl) _ _ Hit.out ?hS ?hrd ?hrs
    (fun pre ms W => ms = [] ∧ Gr [w.heap.size + 1] wT W ∧ W.heap[w.heap.size + 1]? = some (.cells #[.bool false] 4 (0, 0)) ∧ ∀ t ∈ pre, satB c t = true)
    (fun cd pre ms W => cd = .ret ∧ ms = [] ∧ Gr [w.heap.size + 1] wT W ∧ W.heap[w.heap.size + 1]? = some (.cells #[.bool false] 4 (0, 0)) ∧ entB c D = false) ?hI ?hIx ?hms ?h0 _ ?hmsx ?hassign ?hbody ?hdone ?hstop
  case hassign =>
    intro l v W K hK
    gi_wp2_with fail
    exact hK
  case hS => intro s hs; simp at hs; subst hs; omega
  case hrd => intro A W W' v x _ h hg; exact h.gr hg
  case hrs => intro A B W v x h hb; exact h.sub fun b _ hm => hb b hm
  case hI =>
    rintro pre ms W W' T ⟨rfl, h1, h2, h3⟩ hg hT
    exact ⟨rfl, h1.step hg (fun i hi => .inr (hT i hi).1), hg.obj h2 (fun hm => by have := (hT _ hm).1; omega), h3⟩
  case hIx =>
    rintro cd pre ms W W' T ⟨rfl, rfl, h1, h2, h3⟩ hg hT
    exact ⟨rfl, rfl, h1.step hg (fun i hi => .inr (hT i hi).1), hg.obj h2 (fun hm => by have := (hT _ hm).1; omega), h3⟩
  case hms => rintro pre ms W ⟨rfl, _⟩ m hm; simp at hm
  case hmsx => rintro cd pre ms W ⟨_, rfl, _⟩ m hm; simp at hm
  case h0 => exact ⟨rfl, Gr.refl _ _, HrT.out, by simp⟩
  case hbody =>
    rintro l pre rest x v ms W hxs ⟨rfl, hg, hr0, hpre⟩ hr
    have hxm : x ∈ tups (wordN c.vars D) := by
      have : x ∈ tupsL ((wordN c.vars D).map vals) := by rw [hxs]; simp
      exact this
    have hxl : x.length = c.vars.length := by rw [tups_len hxm, wordN_len]
    have hF : Fit c x := ⟨HC.out.fits, hxl, by have := HC.out.k; omega, by omega, tups_val hxm⟩
    have hgw : Gr [] w W := HgT.out.step hg (fun i hi => .inr (by simp at hi; omega))
    have hfc := fld (hg.obj HcT.out (by simp))
    have Hr := hid (hr.sub (S' := []) (by simp))
    obtain ⟨xo, xc, rfl, ⟨hx1, hx2, _⟩, _⟩ := hr
    have HF := hid hF; have Hgw := hid hgw; have Hxm := hid hxm; have Hpre := hid hpre; have Hg := hid hg; have Hr0 := hid hr0
    clear hF hgw hxm hxs hpre hg hr0 hxl
    gi_wp2_with fail
    have hcall := CallsIn.inRound l ((callsIn_wide (n := 0)).2 (satisfied_c c x _ _ W (Hv.out.gr Hgw.out) Hr.out HF.out))
    refine ⟨trivial, rfl, ?_⟩
    (with_reducible refine hcall.mono ?_)
    clear hcall
    rintro e W1 ⟨rfl, hg1⟩
    dsimp only
    have Hg1 := hid hg1
    have hr1 := hg1.obj Hr0.out (by simp)
    have hfr1 := fld hr1; have hff1 := fldF hr1
    have Hr1 := hid hr1
    clear hfc hg1 hr1
    cases hb : satB c x
    · have Hb := hid hb; clear hb
      gi_wp2_with fail
      have hset := cells1_set Hr1.out (.bool false)
      refine ⟨[], ⟨rfl, rfl, (Hg.out.trans Hg1.out.any).setCell _ _ (.inl (by simp)), hset, ?_⟩, (Hg1.out.any).setCell _ _ (.inl (by simp))⟩
      unfold entB
      exact List.all_eq_false.2 ⟨x, Hxm.out, by rw [Hb.out]; simp⟩
    · have Hb := hid hb; clear hb
      gi_wp2_with fail
      refine ⟨[], ⟨rfl, Hg.out.trans Hg1.out.any, Hr1.out, fun t ht => ?_⟩, Hg1.out.any, by simp⟩
      rcases List.mem_append.1 ht with ht | ht
      · exact Hpre.out t ht
      · rw [List.mem_singleton.1 ht]; exact Hb.out
  case hdone =>
    rintro Dq ms W ⟨rfl, hg, hr0, hall⟩ hD hD1 _
    have hgw : Gr [] w W := HgT.out.step hg (fun i hi => .inr (by simp at hi; omega))
    have hfr := fld hr0; have hff := fldF hr0
    have Hgw := hid hgw; have Hr0 := hid hr0; have HD0 := hid hD; have HD1 := hid hD1
    have Hent : Hid (entB c D = true) := hid (by unfold entB; exact List.all_eq_true.2 hall)
    clear hgw hg hr0 hD hD1 hall
    gi_wp2_with fail
    have hset := cells1_set Hr0.out (.bool true)
    have hDl := lt_of_block HD0.out
    have hK : (W.setCell ⟨w.heap.size + 1, 0, none⟩ (.bool true)).heap[Dq]? = some (.deferred (some [])) := ((Gr.refl [w.heap.size + 1] W).setCell _ _ (.inl (by simp))).obj HD0.out (by simp; have := HD1.out; omega)
    refine ⟨by simp, .inl ⟨_, _, rfl, run_takeDeferred hK, ?_⟩⟩
    have flE := fld ((Gr.putObj _ Dq (.deferred none)).obj hset (by simp; have := HD1.out; omega))
    refine ⟨.bool true, ?_, ret_bool (by rw [HOK.out, ints_len, HVC.out, Hent.out]; rfl), ?_⟩
    · simp [results, Try.results9, go_sem, flE]
    · exact ((Hgw.out.setCell _ _ (.inr (by simp)))).step (Gr.putObj _ Dq _) (fun i hi => .inr (by simp at hi; subst hi; have := HD1.out; omega))
  case hstop =>
    rintro Dq cd pre ms W _ ⟨rfl, rfl, hg, hr0, hent⟩ hD hD1 _
    have hgw : Gr [] w W := HgT.out.step hg (fun i hi => .inr (by simp at hi; omega))
    have hDl := lt_of_block hD
    gi_wp2_with fail
    refine ⟨by simp, .inl ⟨_, _, rfl, run_takeDeferred hD, ?_⟩⟩
    have flE := fld ((Gr.putObj W Dq (.deferred none)).obj hr0 (by simp; omega))
    refine ⟨.bool false, ?_, ret_bool (by rw [hent]; simp), ?_⟩
    · simp [results, Try.results9, go_sem, flE]
    · exact hgw.step (Gr.putObj _ Dq _) (fun i hi => .inr (by simp at hi; subst hi; omega))

end Go.Proofs.Ytngpcoilgilmjaa
