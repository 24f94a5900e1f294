/-
  Walk of (impl.Constraint).filter.
-/
import Derived.Test.YtpfelbbmgbfkeaaGreatH
import Derived.Test.YtpfelbbmgbfkeaaGreatFP
import Derived.Test.YtpfelbbmgbfkeaaGreatLib
import Derived.Test.YtpfelbbmgbfkeaaGreatQ
import Derived.Test.YtpfelbbmgbfkeaaGreatJ
import Derived.TacticsInMore
import Derived.LoopNIn
import Derived.LoopIn
import Derived.RangeFuncCalls
import Derived.RangeFuncLeaves
import Derived.Shelf.RegionOpen
import Derived.Laws.EntriesVeiled
set_option linter.unusedVariables false
namespace Go.Proofs.YtpfelbbmgbfkeaaGreat
open Go.RowKit
attribute [local go_sem] Oper.semAt_some

set_option maxRecDepth 100000 in
set_option maxHeartbeats 1000000 in
theorem filter_c (c : Con) (d : List Nat) (cv dv : Value) (w : World) (hv : ConV [] w cv c) (hx : Nums [] w .i64 dv (ints d)) (hc : VC c d.length) (hd : Below64 d) :
    Calls Tryz.prog 167 #[cv, dv] w fun e w' => ∃ v', e = .returned v' ∧ OwnC w.heap.size w' 3 v' (ints (filt c d)) ∧ Gr [] w w' := by
  have Hv := hid hv
  have Hx := hid hx
  have HC := hid hc
  have HD := hid hd
  have hl : c.vars.length ≤ 4 := by have := hc.k; have := hc.n4; omega
  obtain ⟨vv, av, rv, rfl, hvv, hav, hrv⟩ := hv
  obtain ⟨vo, vc, rfl, ⟨hv1, hv2, _⟩, hvvc⟩ := hvv
  have Hvvc := hid hvvc
  clear hvvc
  have hb0 : (w.alloc (.cells #[.int .i64 c.kind, .slice vo c.vars.length vc, av, .int .i64 c.bound, rv] 111)).heap[w.heap.size]? = some (.cells #[.int .i64 c.kind, .slice vo c.vars.length vc, av, .int .i64 c.bound, rv] 111 (0, 0)) := heap_alloc_new _ _
  have hfl := fld hb0
  clear hx hc hd hav hrv
  refine (callsIn_wide (n := 0)).1 ?_
  refine callsIn_of_wp_marks Tryz.func167 rfl trivial ?_ rfl
  simp only [Tryz.ntmps167, List.size_toArray, List.length_cons, List.length_nil, Nat.reduceAdd, Nat.reduceSub, Array.replicate_succ, Array.replicate_zero, List.push_toArray, List.append_toArray, List.nil_append, List.cons_append]
  gi_wp2_with (gi_at_make; go_loud (refine wpi_mkN rfl _ _ 23 rfl (w.heap.size + 1) 3 infoI Tryz.underlying23 c.vars.length rfl rfl (by omega) (by simp) ?_; intro w2 hown2 hg2; have hfl2 := fld (((Gr.refl [] w2).alloc (.cells #[.slice (some ⟨w.heap.size + 1, 0, none⟩) c.vars.length c.vars.length] 23)).obj (hg2.obj hb0 (by simp)) (by simp)); have Hown2 := hid hown2; have Hg2 := hid hg2; have Hb0 := hid hb0; clear hown2 hg2 hb0 hfl))
  have hgW : Gr [] w (w2.alloc (.cells #[.slice (some ⟨w.heap.size + 1, 0, none⟩) c.vars.length c.vars.length] 23)) := (((Gr.refl [] w).alloc _).trans Hg2.out).alloc _
  have HgW := hid hgW; clear hgW
  refine ⟨trivial, rfl, (callsIn_wide.2 (word_c c (ints d) _ _ _ (Hv.out.gr HgW.out) (Hx.out.gr HgW.out) (by omega) (by have := HC.out.rng; simpa [ints] using this))).mono ?_⟩
  rintro e w3 ⟨wv, rfl, hown3, hg3⟩
  rw [wordN_ints] at hown3
  have Hown3 := hid hown3
  have hwl : (ints (wordN c.vars d)).length = c.vars.length := by rw [ints_len, wordN_len]
  obtain ⟨wo, wc, rfl, ⟨hw1, hw2, _⟩, _⟩ := hown3.nums (S := []) (by simp)
  have Hg3 := hid hg3
  clear hown3 hg3
  rw [hwl] at hw1 Hown3 ⊢
  clear hwl
  dsimp only
  gi_wp2_with fail
  refine ⟨trivial, rfl, (callsIn_wide.2 (tuples_c _ _ _ _ _ rfl)).mono ?_⟩
  rintro e w4 ⟨rfl, rfl⟩
  dsimp only
  gi_wp2_with fail
  -- the loop over the tuples
  obtain ⟨wT, hwT⟩ : ∃ wT, wT = w3.alloc (.cells #[.slice wo c.vars.length wc] 23) := ⟨_, rfl⟩
  rw [← hwT]
  have hgT : Gr [] w wT := by rw [hwT]; exact ((HgW.out.trans Hg3.out)).alloc _
  have hg2T : Gr [] w2 wT := by rw [hwT]; exact (((Gr.refl [] w2).alloc _).trans Hg3.out).alloc _
  have hbT : wT.heap[w3.heap.size]? = some (.cells #[.slice wo c.vars.length wc] 23 (0, 0)) := by rw [hwT]; exact heap_alloc_new _ _
  have hcT := hg2T.obj (Hg2.out.obj Hb0.out (by simp)) (by simp)
  have hlT : wT.heap[w2.heap.size]? = some (.cells #[.slice (some ⟨w.heap.size + 1, 0, none⟩) c.vars.length c.vars.length] 23 (0, 0)) := by
    rw [hwT]; exact (Hg3.out.alloc _).obj (heap_alloc_new _ _) (by simp)
  have hs2 : w.heap.size + 1 < w2.heap.size := by
    have hkp : 0 < c.vars.length := by have := HC.out.k; omega
    obtain ⟨g, cap, e1, ⟨_, h2⟩, _⟩ := Hown2.out.open (by simpa using hkp)
    simp only [Value.slice.injEq, Option.some.injEq, Addr.mk.injEq] at e1
    omega
  have hs3 : w2.heap.size < w3.heap.size := by have := Hg3.out.size; simp at this; omega
  have hsT : wT.heap.size = w3.heap.size + 1 := by rw [hwT]; simp
  have hownT : Own (w.heap.size + 1) wT 3 (.slice (some ⟨w.heap.size + 1, 0, none⟩) c.vars.length c.vars.length) (ints (List.replicate c.vars.length 0)) := by
    have : ints (List.replicate c.vars.length 0) = List.replicate c.vars.length (0 : Int) := by simp [ints]
    have h2 := Hown2.out.gr hg2T (by simp)
    rw [World.size_alloc] at h2
    rw [this]; exact h2
  have hnT : Nums [w.heap.size + 1] wT .i64 (.slice wo c.vars.length wc) (ints (wordN c.vars d)) := by
    have h1 : Nums [w.heap.size + 1] w3 .i64 (.slice wo c.vars.length wc) (ints (wordN c.vars d)) := Hown3.out.nums' (by intro b hb; simp at hb; subst hb; left; simp; omega)
    rw [hwT]; exact h1.gr ((Gr.refl _ _).alloc _)
  have hit := tuples_iter [w.heap.size + 1] wT w3.heap.size _ (wordN c.vars d) hbT hnT (by simp; omega) (by intro s hs; simp at hs; subst hs; omega) (by rw [wordN_len]; omega) (HD.out.word c.vars)
  have Hit := hid hit
  have HgT := hid hgT; have HcT := hid hcT; have HlT := hid hlT; have HownT := hid hownT
  clear hit hgT hcT hlT hownT hbT hnT hg2T hwT
  refine' wp_rangeIter [w.heap.size + 1] rfl (fun _ _ => by kernel_rfl) _ _ Hit.out ?hS ?hrd ?hrs
    (fun pre ms W => ms = [] ∧ Gr [w.heap.size + 1] wT W ∧ Own (w.heap.size + 1) W 3 (.slice (some ⟨w.heap.size + 1, 0, none⟩) c.vars.length c.vars.length) (ints (supp (satB c) c.vars.length pre)))
    (fun _ _ _ _ => False) ?hI (fun _ _ _ _ _ _ h _ _ => h) ?hms ?h0 _ (fun _ _ _ _ h => h.elim) ?hassign ?hbody ?hdone (fun _ _ _ _ _ _ h => h.elim)
  case hassign =>
    intro l v W K hK
    gi_wp2_with fail
    exact hK
  case hS => intro s hs; simp at hs; subst hs; omega
  case hrd => intro A W W' v x _ h hg; exact h.gr hg
  case hrs => intro A B W v x h hb; exact h.sub fun b _ hm => hb b hm
  case hI =>
    rintro pre ms W W' T ⟨rfl, h1, h2⟩ hg hT
    refine ⟨rfl, h1.step hg (fun i hi => .inr (hT i hi).1), h2.keep hg (fun hm => ?_)⟩
    have := (hT _ hm).1; omega
  case hms => rintro pre ms W ⟨rfl, _⟩ m hm; simp at hm
  case h0 => exact ⟨rfl, Gr.refl _ _, HownT.out⟩
  case hbody =>
    rintro l pre rest x v ms W hxs ⟨rfl, hg, hown⟩ hr
    have hxm : x ∈ tups (wordN c.vars d) := by
      have : x ∈ tupsL ((wordN c.vars d).map vals) := by rw [hxs]; simp
      exact this
    have Hpre : Hid (∀ t ∈ pre, t ∈ tups (wordN c.vars d)) := hid fun t ht => by
      have : t ∈ tupsL ((wordN c.vars d).map vals) := by rw [hxs]; simp [ht]
      exact this
    have hxl : x.length = c.vars.length := by rw [tups_len hxm, wordN_len]
    have hF : Fit c x := ⟨HC.out.fits, hxl, by have := HC.out.k; omega, by omega, tups_val hxm⟩
    have hgw : Gr [] w W := HgT.out.step hg (fun i hi => .inr (by simp at hi; omega))
    have hfc := fld (hg.obj HcT.out (by simp))
    have hfl := fld (hg.obj HlT.out (by simp; omega))
    have Hr := hid (hr.sub (S' := []) (by simp))
    have Hrb := hid (hr.sub (S' := [w.heap.size + 1]) (by simp))
    obtain ⟨xo, xc, rfl, ⟨hx1, hx2, _⟩, _⟩ := hr
    have hxk : x.length ≤ c.vars.length := by omega
    have hxk2 : c.vars.length ≤ x.length := by omega
    have HF := hid hF; have Hxl := hid hxl; have Hgw := hid hgw; have Hxm := hid hxm; have Hxs := hid hxs; have Hown := hid hown; have Hg := hid hg
    clear hF hxl hgw hxm hxs hown hg
    gi_wp2_with fail
    have hcall := CallsIn.inRound l ((callsIn_wide (n := 0)).2 (satisfied_c c x _ _ W (Hv.out.gr Hgw.out) Hr.out HF.out))
    refine ⟨trivial, rfl, ?_⟩
    (with_reducible refine hcall.mono ?_)
    clear hcall
    rintro e W1 ⟨rfl, hg1⟩
    dsimp only
    have Hg1 := hid hg1
    clear hfc
    have hfl1 := fld (hg1.obj ((Hg.out).obj HlT.out (by simp; omega)) (by simp))
    clear hg1 hfl
    have hbl : w.heap.size + 1 < W.heap.size := by have := Hg.out.size; omega
    have hsn := supp_snoc (satB c) c.vars.length pre x
    have Hsn := hid hsn; clear hsn
    cases hb : satB c x
    · gi_wp2_with fail
      refine ⟨[], ⟨rfl, Hg.out.trans Hg1.out.any, ?_⟩, Hg1.out.any, by simp⟩
      rw [Hsn.out, hb]
      exact Hown.out.gr Hg1.out (by simp)
    · have Hb := hid hb; clear hb
      gi_wp2_with fail
      have hsl : (supp (satB c) c.vars.length pre).length = c.vars.length := by
        refine (suppFold_len _ _ _ fun t ht => ?_).trans (by simp)
        rw [tups_len (Hpre.out t ht), wordN_len]; simp
      have Hsl := hid hsl; clear hsl
      have Hsb : Hid (Below64 (supp (satB c) c.vars.length pre)) := hid (supp_below fun t ht => tups_val (Hpre.out t ht))
      gi_loopw [26] (fun i wr => ∃ n : Nat, n ≤ c.vars.length ∧ i = .int .i64 n ∧ Own (w.heap.size + 1) wr 3 (.slice (some ⟨w.heap.size + 1, 0, none⟩) c.vars.length c.vars.length) (ints (addN n (supp (satB c) c.vars.length pre) x)) ∧ Gr [w.heap.size + 1] W1 wr) (fun i _ => c.vars.length - (intOf i).toNat)
      case atStart => exact ⟨0, Nat.zero_le _, rfl, by rw [addN_zero]; exact Hown.out.gr Hg1.out (by simp), Gr.refl _ _⟩
      case round =>
        obtain ⟨n, hn, rfl, hown, hgr⟩ := hrel
        by_cases hlt : n < c.vars.length
        · obtain ⟨y, hy⟩ := get_some (show n < x.length by omega)
          have hyr := tups_val Hxm.out y (List.mem_of_getElem? hy)
          obtain ⟨y, rfl⟩ := Int.eq_ofNat_of_zero_le hyr.1
          have hac : x.length = (supp (satB c) c.vars.length pre).length := by rw [Hsl.out]; exact Hxl.out
          obtain ⟨z, hz⟩ := get_some (xs := supp (satB c) c.vars.length pre) (k := n) (by rw [Hsl.out]; exact hlt)
          have hzb := Hsb.out z (List.mem_of_getElem? hz)
          obtain ⟨hc1, hc2⟩ := hown.at (i := n) (x := z) (by rw [ints_get, addN_get hac (by rw [Hsl.out]; exact hlt), hz]; rfl)
          obtain ⟨bx, ox, rfl, hxs, hxn0⟩ := Hrb.out.at hy
          have hxn := (hgr.cell (Hg1.out.cell hxn0 (by simp)) hxs)
          have hflr := fld (hgr.obj (Hg1.out.obj ((Hg.out).obj HlT.out (by simp; omega)) (by simp)) (by simp; omega))
          have hset := hown.set n ((z ||| 2 ^ y : Nat) : Int) (by rw [ints_len, addN_len hac, Hsl.out]; exact hlt)
          rw [← ints_set, addN_succ hac hz hy] at hset
          have Hset := hid hset; have Hown2 := hid hown; have Hgr := hid hgr
          clear hset hown hgr hxn0 hfl1 hy hz hac hxs
          have hyr2 : y ≤ 5 := by omega
          clear hyr
          gi_wp2_with fail
          gi_region
          all_goals gi_wp2_with fail
          all_goals
            refine ⟨⟨n + 1, by omega, by go_num, ?_, (Hgr.out.setCell _ _ (.inl (by simp))).drew⟩, by simp [intOf]; omega⟩
            rw [or_shl hzb (by omega)]
            exact Hset.out.drew
        · gi_wp2_with fail
          refine ⟨[], ⟨rfl, (Hg.out.trans Hg1.out.any).trans hgr, ?_⟩, Hg1.out.any.trans (by simpa using hgr), by simp⟩
          have hac : x.length = (supp (satB c) c.vars.length pre).length := by rw [Hsl.out]; exact Hxl.out
          rw [Hsn.out, Hb.out, if_pos rfl, ← addN_all (n := n) hac (by rw [Hsl.out]; omega)]
          exact hown
  case hdone =>
    rintro D ms W ⟨rfl, hg, hown⟩ hD hD1 _
    have hgw : Gr [] w W := HgT.out.step hg (fun i hi => .inr (by simp at hi; omega))
    have Hgw := hid hgw; have Hg := hid hg; have Hown := hid hown; have HD0 := hid hD; have HD1 := hid hD1
    clear hgw hg hown hD hD1
    gi_wp2_with fail
    have hcall := (callsIn_wide (n := 0)).2 (copied_c _ (ints d) _ (Hx.out.gr Hgw.out) (by rw [ints_len]; have := HC.out.n4; omega))
    refine ⟨trivial, rfl, ?_⟩
    (with_reducible refine hcall.mono ?_)
    clear hcall
    rintro e W1 ⟨v1, rfl, hown1, hg1⟩
    dsimp only
    have hdp : 0 < (ints d).length := by rw [ints_len]; have := HC.out.n4; omega
    obtain ⟨go, goc, rfl⟩ := hown1.open hdp
    have hgo := hown1.block
    have hWs : w2.heap.size < W.heap.size := by have := Hg.out.size; omega
    have Hown1 := hid hown1; have Hg1 := hid hg1
    have hfc := fld (hg1.obj (Hg.out.obj HcT.out (by simp)) (by simp))
    clear hown1 hg1 hdp
    rw [ints_len] at Hown1 ⊢
    gi_wp2_with fail
    gi_loopw [45] (fun i wr => ∃ n : Nat, n ≤ c.vars.length ∧ i = .int .i64 n ∧ OwnC W.heap.size wr 3 (.slice (some ⟨go, 0, none⟩) d.length goc) (ints (setAll (c.vars.take n) ((supp (satB c) c.vars.length (tups (wordN c.vars d))).take n) d)) ∧ Gr [go] W1 wr) (fun i _ => c.vars.length - (intOf i).toNat)
    case atStart => exact ⟨0, Nat.zero_le _, rfl, by simpa [setAll] using Hown1.out, Gr.refl _ _⟩
    case round =>
      obtain ⟨n, hn, rfl, hown, hgr⟩ := hrel
      by_cases hlt : n < c.vars.length
      · obtain ⟨v, hv⟩ := get_some hlt
        have hvr := HC.out.rng v (List.mem_of_getElem? hv)
        obtain ⟨v, rfl⟩ := Int.eq_ofNat_of_zero_le hvr.1
        have hsl := supp_len (satB c) (wordN c.vars d)
        rw [wordN_len] at hsl
        obtain ⟨s, hs⟩ := get_some (xs := supp (satB c) c.vars.length (tups (wordN c.vars d))) (k := n) (by rw [hsl]; exact hlt)
        obtain ⟨a, ha⟩ := get_some (xs := setAll (c.vars.take n) ((supp (satB c) c.vars.length (tups (wordN c.vars d))).take n) d) (k := v) (by rw [setAll_len]; omega)
        obtain ⟨hc1, hc2⟩ := hown.at (i := v) (x := a) (by rw [ints_get, ha]; rfl)
        have hgW1 : Gr [go] W wr := Hg1.out.any.trans hgr
        obtain ⟨hc3, hc4⟩ := (Hown.out.keep hgW1 (by simp; omega)).at (i := n) (x := s) (by rw [ints_get]; exact congrArg _ hs)
        have hgw1 : Gr [] w wr := Hgw.out.step hgW1 (fun i hi => .inr (by simp at hi; omega))
        obtain ⟨bv, ov, rfl, _, hvc0⟩ := (Hvvc.out.gr hgw1) n _ hv
        have hlb := fld (hgW1.obj (Hg.out.obj HlT.out (by simp; omega)) (by simp; omega))
        have hset := hown.set v (s : Int)
        rw [← ints_set] at hset
        have hsn := setAll_snoc (D := d) hv hs
        rw [Int.toNat_natCast] at hsn
        have hvd : v < d.length := by omega
        have Hset := hid hset; have Hsn := hid hsn; have Hgr := hid hgr
        clear hset hsn hgr hgw1 hgW1 hv hs ha hown hsl
        gi_wp2_with fail
        refine ⟨⟨n + 1, by omega, by go_num, ?_, Hgr.out.setCell _ _ (.inl (by simp))⟩, by simp [intOf]; omega⟩
        rw [Hsn.out]; exact Hset.out
      · gi_wp2_with fail
        have hK : wr.heap[D]? = some (.deferred (some [])) := hgr.obj (Hg1.out.obj HD0.out (by simp)) (by simp; have := lt_of_block HD0.out; omega)
        refine ⟨by simp, .inl ⟨_, _, rfl, run_takeDeferred hK, ?_⟩⟩
        refine ⟨_, results_tmp rfl _ _ _, ?_⟩
        refine ⟨_, rfl, ?_, ?_⟩
        · have hsl := supp_len (satB c) (wordN c.vars d)
          rw [wordN_len] at hsl
          rw [List.take_of_length_le (by omega), List.take_of_length_le (by omega)] at hown
          exact (hown.keep (Gr.putObj wr D _) (by simp; have := lt_of_block HD0.out; omega)).le (by omega)
        · exact (((Hgw.out.trans Hg1.out).step hgr (fun i hi => .inr (by simp at hi; omega))).step (Gr.putObj wr D _) (fun i hi => .inr (by simp at hi; subst hi; have := HD1.out; omega)))
end Go.Proofs.YtpfelbbmgbfkeaaGreat
