/-
  Walks: the reference's building of a proof.
-/
import Derived.Test.YtlekngkcifgonaaGreatXTrPrPv
import Derived.Test.YtlekngkcifgonaaGreatXSiSf
import Derived.Test.YtlekngkcifgonaaGreatXBVlMg
import Derived.Test.YtlekngkcifgonaaGreatXBLEToLM
set_option linter.unusedVariables false
set_option linter.unusedSimpArgs false
namespace Go.Proofs.YtlekngkcifgonaaGreat
open Go.RowKit

def elC (S : List Nat) (w : World) (cs : List Value) (c : Cls) : Prop := ∃ u, cs = [u] ∧ LitsV S w u c
theorem elC_ok : ElOk elC := ⟨fun ⟨u, e, h⟩ hg => ⟨u, e, h.gr hg⟩, fun ⟨u, e, h⟩ hs => ⟨u, e, h.sub hs⟩⟩
theorem OwnG.clsC {B : Nat} {w : World} {e : TypeId} {v : Value} {cls : List Cls} (h : OwnG 1 elC B w e v cls) {S : List Nat} (hS : ∀ b ∈ S, b < B ∨ w.heap.size ≤ b) : ClsV S w v cls := by
  obtain ⟨ao, cap, rfl, h1, h2, h3⟩ := h.slice
  refine ⟨ao, cap, rfl, ⟨h1, h2, h3⟩, fun i r hi => ?_⟩
  obtain ⟨g, cap', cs, e1, hb, hlt, hl, hc, hf, hel⟩ := h.cell hi
  cases e1
  obtain ⟨u, rfl, hn⟩ := hel S (fun b hb => (hS b hb).imp id .inl)
  refine ⟨g, 0, u, rfl, fun hm => by rcases hS g hm with h | h <;> omega, ?_, hn⟩
  have := hc 0 u rfl
  simpa using this
theorem merge_neg (p : Cls) (l : Lit) : mergeL (negsL p) [negL l] = negsL (p ++ [l]) := by
  refine asc_ext (insL_asc (sortL_asc _)) (sortL_asc _) fun x => ?_
  show x ∈ insL (negL l) (negsL p) ↔ x ∈ negsL (p ++ [l])
  rw [mem_insL, mem_negsL, mem_negsL, List.mem_append, List.mem_singleton]
  constructor
  · rintro (h | h)
    · subst h; exact .inr (negL_negL l)
    · exact .inl h
  · rintro (h | h)
    · exact .inr h
    · exact .inl (by rw [← h, negL_negL])
theorem lit1_newX (w : World) (l : Lit) (e : TypeId) : LitsV [] (w.alloc (.cells #[.int .i64 l.var, .int .i64 l.val, .bool l.neg] e)) (.slice (some ⟨w.heap.size, 0, none⟩) 1 1) [l] := by
  have h := fld (heap_alloc_new w (.cells #[.int .i64 l.var, .int .i64 l.val, .bool l.neg] e))
  refine ⟨_, _, rfl, by simp, fun i x hi => ?_⟩
  have hi0 : i = 0 := by have := (List.getElem?_eq_some_iff.1 hi).1; simp at this; omega
  subst hi0
  simp at hi; subst hi
  exact ⟨_, _, rfl, by simp, by simp [h], h 1, h 2⟩

/-- The prover in memory. -/
def PS (W : World) (F : Nat) (dv cv sv : Value) (b : Bool) : Prop := W.heap[F]? = some (.cells #[dv, cv, sv, .bool b] 150 (0, 0))
theorem PS.gr {W W' : World} {F : Nat} {dv cv sv : Value} {b : Bool} {S : List Nat} (h : PS W F dv cv sv b) (hg : Gr S W W') (hS : F ∉ S) : PS W' F dv cv sv b := hg.obj h hS
def BpPost (F : Nat) (dv cv : Value) (Ls : List Cls) (sv : Value) (r : Option (List Cls)) (W : World) (e : Ending) (w' : World) : Prop :=
  (∃ v, e = .returned v) ∧ ∃ sv', PS w' F dv cv sv' (okP Ls.length r) ∧ Gr (F :: sv.ownBlock.toList) W w' ∧ (∀ b, sv'.ownBlock = some b → sv.ownBlock = some b ∨ W.heap.size ≤ b) ∧
    (∀ a, r = some a → okP Ls.length r = true → OwnG 1 elC (F + 1) w' 110 sv' (Ls ++ a))

set_option maxRecDepth 100000 in
set_option maxHeartbeats 8000000 in
theorem proverBranch_c (m : Mod) (F : Nat) (dv cv : Value) (k : Nat) : ∀ (D : List Nat) (W : World) (sv dom kv : Value) (Ls : List Cls) (p : Cls), D.sum < k → VCs m.cons D.length → Below64 D → 1 ≤ D.length → D.length ≤ 4 → PathOk D p → Ls.length ≤ 200 →
    (∀ S : List Nat, (∀ b ∈ S, F ≤ b) → ModV S W (.agg #[dv, cv]) m) → PS W F dv cv sv true → OwnG 1 elC (F + 1) W 110 sv Ls → Nums [F] W .i64 dom (ints D) →
    (∀ S : List Nat, (∀ b ∈ S, b < F + 1 ∨ W.heap.size ≤ b ∨ sv.ownBlock = some b) → LitsV S W kv (negsL p)) →
    Calls Tryz.prog 133 #[.pointer (some ⟨F, 0, none⟩), dom, kv] W (BpPost F dv cv Ls sv (prf m.cons D p) W) := by
  induction k with
  | zero => intro D W sv dom kv Ls p h; omega
  | succ k ih =>
    intro D W sv dom kv Ls p hk hc hb hl1 hl4 hpo hL hM hF hfo hdom hkv
    obtain ⟨fo, fc, rfl, hfc1, hfc2, _⟩ := hfo.slice
    obtain ⟨ko, kc, rfl, ⟨hkc1, hkc2⟩⟩ := (hkv [] (by simp)).slice
    obtain ⟨E, hE⟩ : ∃ E, E = fix m.cons D := ⟨_, rfl⟩
    have hEl : E.length = D.length := by rw [hE, fix_len hc]
    have hEb : Below64 E := by rw [hE]; exact fix_below hc hb
    have hp4 : p.length ≤ 4 := by have := hpo.len; omega
    have hn4 := negsL_len p
    have HE := hid hE; have HEl := hid hEl; have HEb := hid hEb; have HC := hid hc; have HB := hid hb; have HM := hid hM; have HF := hid hF; have HFo := hid hfo; have Hdom := hid hdom; have Hih := hid ih; have Hpo := hid hpo; have Hkv := hid hkv
    have hE4 : E.length ≤ 4 := by omega
    have hE1 : 1 ≤ E.length := by omega
    have fE := fld hF
    have ffE := fldF hF
    have hFl := lt_of_block hF
    have HfoW : Hid (∀ b, (Value.slice fo Ls.length fc).ownBlock = some b → F + 1 ≤ b ∧ b < W.heap.size) := hid fun b hb => HFo.out.ownB hb
    clear hE hEl hEb hc hb hM hF hfo hdom ih hpo hkv
    go_enter Tryz.func133, Tryz.ntmps133
    go_wp2_with fail
    have hcall := specFixpoint_c m D _ _ _ (HM.out [] (by simp)) (Hdom.out.sub0) HC.out HB.out hl4
    (with_reducible refine hcall.mono ?_)
    clear hcall
    rintro e w2 ⟨v2, rfl, hown2, hg2⟩
    rw [← HE.out] at hown2
    obtain ⟨go, gc, rfl, ⟨hgo1, hgo2⟩, -, -⟩ := hown2.open (by rw [ints_len]; omega)
    rw [ints_len] at hown2 ⊢
    have hF2 : PS w2 F dv cv (.slice fo Ls.length fc) true := PS.gr HF.out hg2 (by simp)
    have hs2 := hg2.size
    have HF2 := hid hF2; have Hown2 := hid hown2; have Hg02 := hid hg2
    have hFo2 := hid (HFo.out.gr elC_ok hg2 (by simp))
    have hM2 : Hid (∀ S : List Nat, (∀ b ∈ S, F ≤ b) → ModV S w2 (.agg #[dv, cv]) m) := hid fun S hS => (HM.out S hS).gr (Gr.any hg2)
    have hcell2 : Hid (∀ (i : Nat) d, E[i]? = some d → ∀ w', Gr [] w2 w' → w'.cell? ⟨go, i, none⟩ = some (.int .i64 (d : Int)) ∧ w'.frozen? ⟨go, i, none⟩ = false) := hid fun i d hd w' hg => (Hown2.out.gr hg (by simp)).at (by rw [ints_get, hd]; rfl)
    have hgoF : go ≠ F := by omega
    have hgoW : W.heap.size ≤ go := hgo1
    clear hown2 hg2 fE ffE hgo1 Hdom hF2
    go_wp2_with fail
    have hcall := hasEmpty_c _ _ w2 (Hown2.out.nums (S := []) (by simp))
    (with_reducible refine hcall.mono ?_)
    clear hcall
    rw [memB_ints]
    rintro e w' ⟨rfl, rfl⟩
    cases h0 : decide (0 ∈ E)
    rotate_left
    · have h0' : 0 ∈ E := by simpa using h0
      obtain ⟨qs, hqs⟩ : ∃ qs : List Cls, qs = [] := ⟨_, rfl⟩
      have Hpf : Hid (prf m.cons D p = some (qs ++ [negsL p])) := hid (by rw [hqs]; exact prf_zero (by rw [← HE.out]; exact h0'))
      obtain ⟨zs, hzs⟩ : ∃ zs, zs = Ls ++ qs := ⟨_, rfl⟩
      obtain ⟨zn, hzn⟩ : ∃ zn, zn = Ls.length := ⟨_, rfl⟩
      have hzl : zn = zs.length := by rw [hzn, hzs, hqs]; simp
      have Hzn := hid hzl
      have Hzs := hid hzs
      have hz2 : zs.length ≤ 1000000 := by omega
      obtain ⟨wt, hwt⟩ : ∃ wt, wt = w2 := ⟨_, rfl⟩
      obtain ⟨lt, hlt⟩ : ∃ lt, lt = fo := ⟨_, rfl⟩
      obtain ⟨ct, hct⟩ : ∃ ct, ct = fc := ⟨_, rfl⟩
      have Hwt : Hid (OwnG 1 elC (F + 1) wt 110 (.slice lt zn ct) zs) := hid (by rw [hwt, hlt, hct, hzs, hqs, List.append_nil, hzn]; exact hFo2.out)
      have Hft : Hid (PS wt F dv cv (.slice lt zn ct) true) := hid (by rw [hwt, hlt, hct, hzn]; exact HF2.out)
      have HWt : Hid (Gr (F :: (Value.slice fo Ls.length fc).ownBlock.toList) W wt) := hid (by rw [hwt]; exact Gr.any Hg02.out)
      have Hot : Hid (∀ b, (Value.slice lt zn ct).ownBlock = some b → (Value.slice fo Ls.length fc).ownBlock = some b ∨ W.heap.size ≤ b) := hid (by rw [hlt, hct, hzn]; exact fun b hb => .inl hb)
      have Hzb : Hid (∀ b, (Value.slice lt zn ct).ownBlock = some b → F + 1 ≤ b) := hid (by rw [hlt, hct, hzn]; exact fun b hb => (HfoW.out b hb).1)
      have Hkt : Hid (∀ S : List Nat, (∀ b ∈ S, b < F + 1 ∨ wt.heap.size ≤ b ∨ (Value.slice lt zn ct).ownBlock = some b) → LitsV S wt (.slice ko (negsL p).length kc) (negsL p)) := hid (by
        rw [hwt, hlt, hct, hzn]
        exact fun S hS => (Hkv.out S (fun b hb => by rcases hS b hb with h | h | h; exact .inl h; exact .inr (.inl (by omega)); exact .inr (.inr h))).gr (Gr.any Hg02.out))
      have flt := fld Hft.out; have fft := fldF Hft.out
      subst hwt
      clear h0 h0' hqs hzs hzn hzl hlt hct
      by_cases hz200 : zn < 200
      · go_wp2_with (at_builtin; go_loud (refine wp_appGw rfl _ _ 29 rfl 1 elC elC_ok (F + 1) 110 (.slice none 0 0) 24 infoK rfl (by omega) (by omega) Tryz.underlying29 (.slice lt zn ct) zs rfl (Hwt.out.gr elC_ok ((Gr.refl [] _).alloc _) (by simp)) wt.heap.size 1 (negsL p) [.slice ko (negsL p).length kc] rfl rfl (by simp [Value.oneCell']) (fun j u hj => by rw [fld (heap_alloc_new wt (.cells #[.slice ko (negsL p).length kc] 110))]; simpa using hj) (fun S hS => ⟨_, rfl, (Hkt.out S (fun b hb => by rcases hS b hb with h | h | h; exact .inl h; exact .inr (.inl (by simp at h; omega)); exact .inr (.inr h))).gr ((Gr.refl _ _).alloc _)⟩) (by omega) (by simp; omega) ?_; intro v8 w8 hown8 hg8 hwh8; have hb8 := hg8.obj (((Gr.refl [] wt).alloc (.cells #[.slice ko (negsL p).length kc] 110)).obj Hft.out (by simp)) (fun hm => by have := Hzb.out F (by simpa using hm); omega); have fl8 := fld hb8; have ff8 := fldF hb8; have Hb8 := hid hb8; have Hown8 := hid hown8; have Hg8 := hid hg8; have Hwh8 := hid hwh8; obtain ⟨vo8, vc8, rfl, -, -, -⟩ := hown8.slice; have hs8 := hg8.size; have hl8 := lt_of_block hb8; clear hown8 hg8 hwh8 hb8))
        refine bodyPost_end (results_none rfl _ _ _) rfl ?_
        have e9 : (zs ++ [negsL p]).length = zs.length + 1 := by simp
        rw [e9] at Hown8 Hwh8
        have hzz : okP Ls.length (prf m.cons D p) = true := by
          rw [Hpf.out]
          have h1 := Hzs.out
          have h2 := congrArg List.length h1
          rw [List.length_append] at h2
          refine okP_iff.2 ⟨_, rfl, ?_⟩
          rw [List.length_append, List.length_singleton]
          have := Hzn.out
          omega
        have hgs : ∀ v, Gr [F] w8 (w8.setCell ⟨F, 2, none⟩ v) := fun v => Gr.cell1 _ _ _ _ (by simp)
        have hs8' : wt.heap.size + 1 ≤ w8.heap.size := by simpa using hs8
        refine ⟨⟨_, rfl⟩, _, by rw [hzz]; exact cells_set Hb8.out 2 _, ?_, fun b hb => ?_, fun a ha _ => ?_⟩
        · refine ((HWt.out.trans (Gr.any ((Gr.refl [] wt).alloc (.cells #[.slice ko (negsL p).length kc] 110)))).step Hg8.out (fun i hi => ?_)).step (hgs _) (fun i hi => .inl (by simp at hi; subst hi; simp))
          rcases Hot.out i (by simpa using hi) with h | h
          · exact .inl (by simp [h])
          · exact .inr h
        · rcases Hwh8.out b hb with h | h
          · exact Hot.out b h
          · exact .inr (by simp at h; have := HWt.out.size; omega)
        · rw [Hpf.out] at ha
          cases ha
          rw [← List.append_assoc, ← Hzs.out]
          exact Hown8.out.gr elC_ok (hgs _) (by simp)
      · go_wp2_with fail
        refine bodyPost_end (results_none rfl _ _ _) rfl ?_
        have hzz : okP Ls.length (prf m.cons D p) = false := by
          rw [Hpf.out]
          have h2 := congrArg List.length Hzs.out
          rw [List.length_append] at h2
          show decide _ = false
          rw [decide_eq_false_iff_not]
          simp only [List.length_append, List.length_cons, List.length_nil]
          have := Hzn.out
          omega
        have hgs : Gr [F] wt (wt.setCell ⟨F, 3, none⟩ (.bool false)) := Gr.cell1 _ _ _ _ (by simp)
        refine ⟨⟨_, rfl⟩, _, by rw [hzz]; exact cells_set Hft.out 3 _, HWt.out.step hgs (fun i hi => .inl (by simp at hi; subst hi; simp)), Hot.out, fun a ha h => ?_⟩
        rw [hzz] at h; cases h
    have h0' : 0 ∉ E := by simpa using h0
    have H0 := hid h0'
    clear h0 h0'
    go_wp2_with fail
    go_loopw [7] (fun i wr => ∃ n : Nat, n ≤ E.length ∧ i = .int .i64 n ∧ (∀ (j : Nat) d, j < n → E[j]? = some d → (vals d).length = 1) ∧ Gr [] w2 wr) (fun i _ => E.length - (intOf i).toNat)
    case atStart => exact ⟨0, by omega, rfl, by intro j d hj; omega, Gr.refl _ _⟩
    case round =>
      obtain ⟨n, hn, rfl, hbef, hg⟩ := hrel
      have Hbef := hid hbef
      have hF3 := (PS.gr HF2.out hg (by simp))
      have HF3 := hid hF3
      have hsr := hg.size
      have fl3 := fld hF3
      have ff3 := fldF hF3
      clear hbef hF3
      by_cases hlt : n < E.length
      · obtain ⟨d, hd⟩ := get_some hlt
        have hd64 := HEb.out d (List.mem_of_getElem? hd)
        obtain ⟨hc1, hc2⟩ := hcell2.out n d hd wr hg
        have Hd := hid hd; have Hg := hid hg; clear hd hg
        go_wp2_with fail
        have hcall := domainValues_c d hd64 wr
        (with_reducible refine hcall.mono ?_)
        clear hcall
        rintro e w3 ⟨v3, rfl, hown3, hg3⟩
        obtain ⟨vo3, vc3, rfl⟩ := hown3.c.form
        have hvl : (vals d).length ≤ 6 := vals_length d
        have Hg3 := hid (Hg.out.trans hg3)
        clear hown3 hg3
        cases h1 : (((vals d).length : Int) == 1)
        · have h1' : (vals d).length ≠ 1 := by simp at h1; omega
          have hop : openAt E = n := openAt_of Hbef.out hn (fun d' hd' => by rw [Hd.out] at hd'; cases hd'; exact h1')
          have Hop := hid hop
          have Hopv : Hid (opv E = vals d) := hid (by unfold opv; rw [hop, List.getD_eq_getElem?_getD, Hd.out]; rfl)
          clear h1' hop
          obtain ⟨hc31, hc32⟩ := hcell2.out n d Hd.out w3 Hg3.out
          have hne : ¬ (n = E.length) := by omega
          go_wp2_with fail
          have hcall := domainValues_c d hd64 w3
          (with_reducible refine hcall.mono ?_)
          clear hcall
          rintro e w4 ⟨v4, rfl, hown4, hg4⟩
          have hg24 := Hg3.out.trans hg4
          have hsz4 := hg24.size
          obtain ⟨vo4, vc4, rfl⟩ := hown4.c.form
          have HF4 := hid (PS.gr HF2.out hg24 (by simp)); have HFo4 := hid (hFo2.out.gr elC_ok hg24 (by simp)); have Hown4 := hid hown4; have Hg24 := hid hg24
          have hM4 : Hid (∀ S : List Nat, (∀ b ∈ S, F ≤ b) → ModV S w4 (.agg #[dv, cv]) m) := hid fun S hS => (hM2.out S hS).gr (Gr.any hg24)
          have hw3 : W.heap.size ≤ w3.heap.size := by have := Hg3.out.size; omega
          have hs34 := hg4.size
          have HopE : Hid (openAt (fix m.cons D) ≠ D.length) := hid (by rw [← HE.out, Hop.out]; have := HEl.out; omega)
          clear hown4 hg4 hg24 hc31 hc32 hc1 hc2
          go_wp2_with fail
          go_loopw [9] (fun i wr => ∃ (j : Nat) (sv' : Value) (b : Bool), j ≤ (vals d).length ∧ i = .int .i64 j ∧ Hid (PS wr F dv cv sv' b) ∧ Hid (b = okP Ls.length (coll (fun v => prf m.cons (kid E v) (p ++ [dcs E v])) ((vals d).take j))) ∧
            Hid (∀ a, coll (fun v => prf m.cons (kid E v) (p ++ [dcs E v])) ((vals d).take j) = some a → b = true → OwnG 1 elC (F + 1) wr 110 sv' (Ls ++ a)) ∧
            Hid (Gr (F :: (Value.slice fo Ls.length fc).ownBlock.toList) w4 wr) ∧ Hid (∀ b, sv'.ownBlock = some b → (Value.slice fo Ls.length fc).ownBlock = some b ∨ w4.heap.size ≤ b)) (fun i _ => (vals d).length - (intOf i).toNat)
          case atStart => exact ⟨0, _, true, by omega, rfl, HF4, hid (by simp [coll, okP]; omega), hid (fun a ha _ => by simp [coll] at ha; subst ha; rw [List.append_nil]; exact HFo4.out), hid (Gr.refl _ _), hid (fun b hb => .inl hb)⟩
          case round =>
            obtain ⟨j, svj, b, hj, rfl, HFr, Hbb, Hor, HGr, Hfb⟩ := hrel
            have hFr := HFr.out
            have fFr := fld hFr
            have ffFr := fldF hFr
            have hFlr := lt_of_block hFr
            have hsr2 := HGr.out.size
            obtain ⟨wt, rfl⟩ : ∃ wt, wt = wr := ⟨_, rfl⟩
            clear hFr
            cases hbc : b
            · -- the reference has given up
              have hko : okP Ls.length (prf m.cons D p) = false := by
                rw [prf_more HC.out (by rw [← HE.out]; exact H0.out) HopE.out, ← HE.out, Hopv.out]
                have h := Hbb.out
                rw [hbc] at h
                exact okP_no (okP_take h.symm)
              have Hko := hid hko
              subst hbc
              clear hko
              by_cases hjl : j < (vals d).length
              all_goals
                go_wp2_with fail
                refine bodyPost_end (results_none rfl _ _ _) rfl ?_
                have hgs : Gr [F] wt (wt.setCell ⟨F, 3, none⟩ (.bool false)) := Gr.cell1 _ _ _ _ (by simp)
                refine ⟨⟨_, rfl⟩, _, by rw [Hko.out]; exact cells_set HFr.out 3 _, ((Gr.any (Hg02.out.trans Hg24.out)).trans HGr.out).step hgs (fun i hi => .inl (by simp at hi; subst hi; simp)), fun b hb => (Hfb.out b hb).imp id (by omega), fun a ha h => ?_⟩
                rw [Hko.out] at h; cases h
            · subst hbc
              obtain ⟨qs, hcl, hq200⟩ := okP_iff.1 Hbb.out.symm
              have hor := Hor.out qs hcl rfl
              obtain ⟨zs, hzs⟩ : ∃ zs, zs = Ls ++ qs := ⟨_, rfl⟩
              rw [← hzs] at hor
              have hzl : zs.length = Ls.length + qs.length := by rw [hzs, List.length_append]
              obtain ⟨lt, ct, rfl, hct1, hct2, -⟩ := hor.slice
              have Hzs := hid hzs; have Hor2 := hid hor; have Hcl := hid hcl
              obtain ⟨zn, hzn⟩ : ∃ zn, zn = zs.length := ⟨_, rfl⟩
              rw [← hzn] at HFr Hor2 Hfb fFr
              have Hzn := hid hzn
              have hzn2 : zn ≤ 200 := by omega
              have Hzb : Hid (∀ b, (Value.slice lt zn ct).ownBlock = some b → F + 1 ≤ b ∧ b < wt.heap.size) := hid fun b hb => Hor2.out.ownB hb
              clear hor hcl hzs hzl hct1 Hor hzn
              by_cases hjl : j < (vals d).length
              · obtain ⟨v, hv⟩ := get_some hjl
                obtain ⟨u, rfl, hu6, hub⟩ := mem_vals.1 (List.mem_of_getElem? hv)
                have hvm := List.mem_of_getElem? hv
                have hvo : (u : Int) ∈ opv E := by rw [Hopv.out]; exact hvm
                have hvo' : (u : Int) ∈ opv (fix m.cons D) := by rw [← HE.out]; exact hvo
                have hpw : wrap64 (2 ^ u) = ((2 ^ u : Nat) : Int) := by
                  have h := pow_shl u hu6
                  rw [Int.one_mul] at h
                  rw [← IntWalk.i64_left]; exact h
                have hKe : E.set n (2 ^ u) = kid E u := by unfold kid; rw [Hop.out]; rfl
                have Hlt : Hid ((kid E u).sum < k) := hid (by have := fix_kid_lt HC.out hvo'; rw [← HE.out] at this; omega)
                have Hkb : Hid (Below64 (kid E u)) := hid (by have := kid_below HC.out HB.out hvo'; rwa [← HE.out] at this)
                have Hkp : Hid (PathOk (kid E u) (p ++ [dcs E u])) := hid (by have := kid_path Hpo.out HC.out HB.out (by rw [← HE.out]; exact H0.out) hvo'; rwa [← HE.out] at this)
                have Hkl : Hid ((kid E (u : Int)).length = D.length) := hid (by rw [kid_len, HEl.out])
                have Hctk := hid (coll_take (f := fun v => prf m.cons (kid E v) (p ++ [dcs E v])) hv)
                have HKe := hid hKe; have Hpw := hid hpw; have Hv := hid hv
                have hT0 : ∀ b, b ∈ F :: (Value.slice fo Ls.length fc).ownBlock.toList → b < W.heap.size ∧ F ≤ b := fun b hb => by
                  rcases List.mem_cons.1 hb with h | h
                  · subst h; exact ⟨hFl, Nat.le_refl _⟩
                  · have := HfoW.out b (by simpa using h); omega
                have HT := hid hT0
                have HG2r : Hid (Gr (F :: (Value.slice fo Ls.length fc).ownBlock.toList) w2 wt) := hid ((Gr.any Hg24.out).trans HGr.out)
                have hn4 : Nums (F :: (Value.slice fo Ls.length fc).ownBlock.toList) w4 .i64 (.slice vo4 (vals d).length vc4) (vals d) := Hown4.out.nums' fun b hb => .inl (by have := HT.out b hb; omega)
                have Hn4 := hid (hn4.gr HGr.out)
                have hown2r := Hown2.out.keep HG2r.out (fun hm => by have := HT.out go hm; omega)
                have Hown2r := hid hown2r
                clear hv hub hvm hvo hvo' hpw hKe hT0 hn4 hown2r
                go_wp2_with fail
                have hcall := copyInts_c _ (ints E) _ (Hown2r.out.nums (by simp)) (by rw [ints_len]; omega)
                (with_reducible refine hcall.mono ?_)
                clear hcall
                rintro e w5 ⟨v5, rfl, hown5, hg5⟩
                obtain ⟨g5, c5, rfl, ⟨h51, h52⟩, -, -⟩ := hown5.open (by rw [ints_len]; omega)
                rw [ints_len] at hown5 ⊢
                obtain ⟨hc51, hc52⟩ := hown5.at (i := n) (x := (d : Int)) (by rw [ints_get, Hd.out]; rfl)
                obtain ⟨b4, o4, rfl, _, hc4⟩ := (Hn4.out.gr (Gr.any hg5)).at Hv.out
                have hlt5 := Nat.lt_of_lt_of_le hFlr hg5.size
                have hs5 := hg5.size
                have HG6 : Hid (Gr [] wt (w5.setCell ⟨g5, n, none⟩ (.int .i64 (wrap64 (2 ^ u))))) := hid (hg5.setCell _ _ (.inr h51))
                have Hset : Hid (Own wt.heap.size (w5.setCell ⟨g5, n, none⟩ (.int .i64 (wrap64 (2 ^ u)))) 3 (.slice (some ⟨g5, 0, none⟩) E.length c5) (ints (E.set n (2 ^ u)))) := hid (by
                  have h := hown5.set n (wrap64 (2 ^ u)) (by rw [ints_len]; exact hlt)
                  rwa [Hpw.out, ← ints_set, ← Hpw.out] at h)
                have hne5 : b4 ≠ g5 := fun e => by
                  subst e
                  have := World.block_lt_of_cell? _ _ hc4
                  obtain ⟨b9, o9, e9, _, hc9⟩ := Hn4.out.at Hv.out
                  cases e9
                  have := World.block_lt_of_cell? _ _ hc9
                  simp at this; omega
                have hc46 : (w5.setCell ⟨g5, n, none⟩ (.int .i64 (wrap64 (2 ^ u)))).cell? ⟨b4, o4 + j, none⟩ = some (.int .i64 (u : Int)) := by
                  rw [World.cell?_setCell_other _ _ _ _ (by intro e; exact hne5 (congrArg Addr.block e).symm)]; exact hc4
                have Hne5 := hid hne5
                clear hown5 hg5 hne5
                go_wp2_with fail
                have hs65 : (w5.setCell ⟨g5, n, none⟩ (.int .i64 (wrap64 (2 ^ u)))).heap.size = w5.heap.size := by simp
                generalize hW6 : w5.setCell ⟨g5, n, none⟩ (.int .i64 (wrap64 (2 ^ u))) = w6 at *
                clear hW6
                have Hs65 := hid hs65
                clear hs65
                have hs6 := HG6.out.size
                have ha6 : Gr [] w6 (w6.alloc (.cells #[.int .i64 (n : Int), .int .i64 (u : Int), .bool true] 45)) := (Gr.refl _ _).alloc _
                have HA6 := hid ha6
                have HKT : Hid (∀ W', Gr [] wt W' → ∀ S : List Nat, (∀ b ∈ S, b < F + 1 ∨ wt.heap.size ≤ b ∨ (Value.slice lt zn ct).ownBlock = some b) → LitsV S W' (.slice ko (negsL p).length kc) (negsL p)) := hid fun W' h S hS => by
                  have h1 := Hkv.out (F :: (Value.slice fo Ls.length fc).ownBlock.toList ++ S) (fun b hb => by
                    rcases List.mem_append.1 hb with hb | hb
                    · rcases List.mem_cons.1 hb with h | h
                      · exact .inl (by omega)
                      · exact .inr (.inr (by simpa using h))
                    · rcases hS b hb with h | h | h
                      · exact .inl h
                      · exact .inr (.inl (by omega))
                      · rcases Hfb.out b h with h | h
                        · exact .inr (.inr h)
                        · exact .inr (.inl (by omega)))
                  exact ((h1.gr (Gr.any (Hg02.out.trans Hg24.out))).gr ((HGr.out.trans (Gr.any h)).sub (fun k _ h => List.mem_append.2 (.inl h)))).sub (fun b _ h => List.mem_append.2 (.inr h))
                clear ha6
                have hcall := mergeClauses_c (negsL p) [(⟨(n : Int), (u : Int), true⟩ : Lit)] _ _ _ (HKT.out _ (HG6.out.trans HA6.out) [] (by simp)) (by have := lit1_newX w6 ⟨(n : Int), (u : Int), true⟩ 45; rw [Hs65.out] at this; exact this) (by simp; omega)
                (with_reducible refine hcall.mono ?_)
                clear hcall
                rintro e w7 ⟨g7, c7, rfl, hown7, hg7⟩
                have hmn : mergeL (negsL p) [(⟨(n : Int), (u : Int), true⟩ : Lit)] = negsL (p ++ [dcs E u]) := by
                  have : (⟨(n : Int), (u : Int), true⟩ : Lit) = negL (dcs E u) := by unfold dcs negL; rw [Hop.out]; rfl
                  rw [this, merge_neg]
                rw [hmn] at hown7 ⊢
                have HG7 : Hid (Gr [] wt w7) := hid ((HG6.out.trans HA6.out).trans hg7)
                have hs7 := hg7.size
                have hs76 : w6.heap.size + 1 ≤ w7.heap.size := by simpa using hs7
                have Hown7 := hid hown7
                have HG67 : Hid (Gr [] w6 w7) := hid (HA6.out.trans hg7)
                clear hown7 hg7 hmn
                go_wp2_with fail
                have hcall := Hih.out (kid E u) w7 (.slice lt zn ct) (.slice (some ⟨g5, 0, none⟩) E.length c5) (.slice (some ⟨g7, 0, none⟩) (negsL (p ++ [dcs E u])).length c7) zs (p ++ [dcs E u]) Hlt.out
                  (by rw [Hkl.out]; exact HC.out) Hkb.out (by rw [Hkl.out]; exact hl1) (by rw [Hkl.out]; exact hl4) Hkp.out (by rw [← Hzn.out]; exact hzn2)
                  (fun S hS => (((hM4.out ((F :: (Value.slice fo Ls.length fc).ownBlock.toList) ++ S) (by intro b hb; rcases List.mem_append.1 hb with h | h; exact (HT.out b h).2; exact hS b h)).gr ((HGr.out.trans (Gr.any HG7.out)).sub (fun k _ h => List.mem_append.2 (.inl h)))).sub (fun b _ h => List.mem_append.2 (.inr h))))
                  (PS.gr HFr.out HG7.out (by simp)) (Hor2.out.gr elC_ok HG7.out (by simp)) (by rw [← HKe.out]; exact ((Hset.out.gr HG67.out (by simp)).nums' (by intro b hb; simp at hb; subst hb; exact .inl hFlr)))
                  (fun S hS => Hown7.out.litsM.lits (fun b hb hM => by
                    obtain ⟨hm1, hm2⟩ := hM
                    simp at hm1
                    rcases hS b hb with h | h | h
                    · omega
                    · omega
                    · have := Hzb.out b h; omega))
                (with_reducible refine hcall.mono ?_)
                clear hcall
                rintro e w8 ⟨⟨ev, rfl⟩, sv8, hF8, hg8, hfb8, hor8⟩
                have HF8 := hid hF8; have Hg8 := hid hg8; have Hfb8 := hid hfb8; have Hor8 := hid hor8
                clear hF8 hg8 hfb8 hor8
                go_wp2_with fail
                have hst : okP zs.length (prf m.cons (kid E (u : Int)) (p ++ [dcs E u])) = okP Ls.length (coll (fun v => prf m.cons (kid E v) (p ++ [dcs E v])) ((vals d).take (j + 1))) := by
                  rw [Hctk.out, Hcl.out, okP_cat, Hzs.out, List.length_append]
                refine ⟨⟨j + 1, sv8, _, by omega, by go_num, HF8, hid hst, hid ?_, hid ?_, hid ?_⟩, by simp [intOf]; omega⟩
                · intro a ha hok
                  rw [Hctk.out, Hcl.out] at ha
                  obtain ⟨x, y, h1, h2, rfl⟩ := cat2_some ha
                  cases h1
                  have := Hor8.out y h2 hok
                  rwa [Hzs.out, List.append_assoc] at this
                · refine (HGr.out.trans (Gr.any HG7.out)).step Hg8.out fun i hi => ?_
                  rcases List.mem_cons.1 hi with h | h
                  · exact .inl (by simp [h])
                  · rcases Hfb.out i (by simpa using h) with h | h
                    · exact .inl (by simp [h])
                    · exact .inr h
                · intro b hb
                  rcases Hfb8.out b hb with h | h
                  · exact Hfb.out b h
                  · exact .inr (by omega)
              · have hz2 : zs.length ≤ 1000000 := by have := Hzn.out; omega
                have Hpf : Hid (prf m.cons D p = some (qs ++ [negsL p])) := hid (by
                  rw [prf_more HC.out (by rw [← HE.out]; exact H0.out) HopE.out, ← HE.out, Hopv.out]
                  have := Hcl.out
                  rw [List.take_of_length_le (by omega)] at this
                  rw [this]; rfl)
                have Hwt := Hor2
                have Hft := HFr
                have HWt : Hid (Gr (F :: (Value.slice fo Ls.length fc).ownBlock.toList) W wt) := hid ((Gr.any (Hg02.out.trans Hg24.out)).trans HGr.out)
                have Hot : Hid (∀ b, (Value.slice lt zn ct).ownBlock = some b → (Value.slice fo Ls.length fc).ownBlock = some b ∨ W.heap.size ≤ b) := hid fun b hb => (Hfb.out b hb).imp id (by omega)
                have Hzb' := Hzb
                have Hzb : Hid (∀ b, (Value.slice lt zn ct).ownBlock = some b → F + 1 ≤ b) := hid fun b hb => (Hzb'.out b hb).1
                have Hkt : Hid (∀ S : List Nat, (∀ b ∈ S, b < F + 1 ∨ wt.heap.size ≤ b ∨ (Value.slice lt zn ct).ownBlock = some b) → LitsV S wt (.slice ko (negsL p).length kc) (negsL p)) := hid fun S hS => by
                  have h1 := Hkv.out (F :: (Value.slice fo Ls.length fc).ownBlock.toList ++ S) (fun b hb => by
                    rcases List.mem_append.1 hb with hb | hb
                    · rcases List.mem_cons.1 hb with h | h
                      · exact .inl (by omega)
                      · exact .inr (.inr (by simpa using h))
                    · rcases hS b hb with h | h | h
                      · exact .inl h
                      · exact .inr (.inl (by omega))
                      · rcases Hfb.out b h with h | h
                        · exact .inr (.inr h)
                        · exact .inr (.inl (by omega)))
                  exact ((h1.gr (Gr.any (Hg02.out.trans Hg24.out))).gr (HGr.out.sub (fun k _ h => List.mem_append.2 (.inl h)))).sub (fun b _ h => List.mem_append.2 (.inr h))
                have flt := fFr; have fft := ffFr
                clear fFr ffFr
                by_cases hz200 : zn < 200
                · go_wp2_with (at_builtin; go_loud (refine wp_appGw rfl _ _ 29 rfl 1 elC elC_ok (F + 1) 110 (.slice none 0 0) 24 infoK rfl (by omega) (by omega) Tryz.underlying29 (.slice lt zn ct) zs rfl (Hwt.out.gr elC_ok ((Gr.refl [] _).alloc _) (by simp)) wt.heap.size 1 (negsL p) [.slice ko (negsL p).length kc] rfl rfl (by simp [Value.oneCell']) (fun j u hj => by rw [fld (heap_alloc_new wt (.cells #[.slice ko (negsL p).length kc] 110))]; simpa using hj) (fun S hS => ⟨_, rfl, (Hkt.out S (fun b hb => by rcases hS b hb with h | h | h; exact .inl h; exact .inr (.inl (by simp at h; omega)); exact .inr (.inr h))).gr ((Gr.refl _ _).alloc _)⟩) (by omega) (by simp; omega) ?_; intro v8 w8 hown8 hg8 hwh8; have hb8 := hg8.obj (((Gr.refl [] wt).alloc (.cells #[.slice ko (negsL p).length kc] 110)).obj Hft.out (by simp)) (fun hm => by have := Hzb.out F (by simpa using hm); omega); have fl8 := fld hb8; have ff8 := fldF hb8; have Hb8 := hid hb8; have Hown8 := hid hown8; have Hg8 := hid hg8; have Hwh8 := hid hwh8; obtain ⟨vo8, vc8, rfl, -, -, -⟩ := hown8.slice; have hs8 := hg8.size; have hl8 := lt_of_block hb8; clear hown8 hg8 hwh8 hb8))
                  refine bodyPost_end (results_none rfl _ _ _) rfl ?_
                  have e9 : (zs ++ [negsL p]).length = zs.length + 1 := by simp
                  rw [e9] at Hown8 Hwh8
                  have hzz : okP Ls.length (prf m.cons D p) = true := by
                    rw [Hpf.out]
                    have h1 := Hzs.out
                    have h2 := congrArg List.length h1
                    rw [List.length_append] at h2
                    refine okP_iff.2 ⟨_, rfl, ?_⟩
                    rw [List.length_append, List.length_singleton]
                    have := Hzn.out
                    omega
                  have hgs : ∀ v, Gr [F] w8 (w8.setCell ⟨F, 2, none⟩ v) := fun v => Gr.cell1 _ _ _ _ (by simp)
                  have hs8' : wt.heap.size + 1 ≤ w8.heap.size := by simpa using hs8
                  refine ⟨⟨_, rfl⟩, _, by rw [hzz]; exact cells_set Hb8.out 2 _, ?_, fun b hb => ?_, fun a ha _ => ?_⟩
                  · refine ((HWt.out.trans (Gr.any ((Gr.refl [] wt).alloc (.cells #[.slice ko (negsL p).length kc] 110)))).step Hg8.out (fun i hi => ?_)).step (hgs _) (fun i hi => .inl (by simp at hi; subst hi; simp))
                    rcases Hot.out i (by simpa using hi) with h | h
                    · exact .inl (by simp [h])
                    · exact .inr h
                  · rcases Hwh8.out b hb with h | h
                    · exact Hot.out b h
                    · exact .inr (by simp at h; have := HWt.out.size; omega)
                  · rw [Hpf.out] at ha
                    cases ha
                    rw [← List.append_assoc, ← Hzs.out]
                    exact Hown8.out.gr elC_ok (hgs _) (by simp)
                · go_wp2_with fail
                  refine bodyPost_end (results_none rfl _ _ _) rfl ?_
                  have hzz : okP Ls.length (prf m.cons D p) = false := by
                    rw [Hpf.out]
                    have h2 := congrArg List.length Hzs.out
                    rw [List.length_append] at h2
                    show decide _ = false
                    rw [decide_eq_false_iff_not]
                    simp only [List.length_append, List.length_cons, List.length_nil]
                    have := Hzn.out
                    omega
                  have hgs : Gr [F] wt (wt.setCell ⟨F, 3, none⟩ (.bool false)) := Gr.cell1 _ _ _ _ (by simp)
                  refine ⟨⟨_, rfl⟩, _, by rw [hzz]; exact cells_set Hft.out 3 _, HWt.out.step hgs (fun i hi => .inl (by simp at hi; subst hi; simp)), Hot.out, fun a ha h => ?_⟩
                  rw [hzz] at h; cases h
        · have h1' : (vals d).length = 1 := by simp at h1; omega
          have H1 := hid h1'
          clear h1'
          go_wp2_with fail
          refine ⟨⟨n + 1, by omega, by go_num, ?_, Hg3.out⟩, by simp [intOf]; omega⟩
          intro j d' hj hd'
          by_cases hjn : j < n
          · exact Hbef.out j d' hjn hd'
          · have : j = n := by omega
            subst this
            rw [Hd.out] at hd'; cases hd'; exact H1.out
      · have hnE : n = E.length := by omega
        have hop : openAt E = E.length := openAt_of (fun j d hj hd => Hbef.out j d (by omega) hd) (Nat.le_refl _) (fun d' hd' => by simp at hd')
        have Hpf : Hid (prf m.cons D p = none) := hid (prf_none (by rw [← HE.out]; exact H0.out) (by rw [← HE.out, hop, HEl.out]))
        have Hg := hid hg
        have hltr := lt_of_block HF3.out
        subst hnE
        clear hop hg
        go_wp2_with fail
        refine bodyPost_end (results_none rfl _ _ _) rfl ?_
        have hgs : Gr [F] wr (wr.setCell ⟨F, 3, none⟩ (.bool false)) := Gr.cell1 _ _ _ _ (by simp)
        have hko : okP Ls.length (prf m.cons D p) = false := by rw [Hpf.out]; rfl
        refine ⟨⟨_, rfl⟩, _, by rw [hko]; exact cells_set HF3.out 3 _, (Gr.any (Hg02.out.trans Hg.out)).step hgs (fun i hi => .inl (by simp at hi; subst hi; simp)), fun b hb => .inl hb, fun a ha h => ?_⟩
        rw [hko] at h; cases h
end Go.Proofs.YtlekngkcifgonaaGreat
