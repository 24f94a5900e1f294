/-
  Walks: the program's building of a proof.
-/
import Derived.Test.YtlekngkcifgonaaGreatXTrPrPv
import Derived.Test.YtlekngkcifgonaaGreatXALEToLM
import Derived.Test.YtlekngkcifgonaaGreatXG13
import Derived.Test.YtlekngkcifgonaaGreatXLySrNg
import Derived.Test.YtlekngkcifgonaaGreatXAUn
import Derived.Test.YtlekngkcifgonaaGreatXM4M5
import Derived.Deep.RegionHeldLaw
import Derived.Deep.CutRange
set_option linter.unusedVariables false
set_option linter.unusedSimpArgs false
namespace Go.Proofs.YtlekngkcifgonaaGreat
open Go.RowKit

/-! ### The first open variable -/
theorem size_c (x : Nat) (hx : x < 64) (w : World) :
    Calls Tryz.prog 258 #[.int .i64 (x : Int)] w fun e w' => e = .returned (.int .i64 (vals x).length) ∧ w' = w := by
  go_enter Tryz.func258, Tryz.ntmps258
  go_wp2_with fail
  refine (OnesCount_c x hx _).mono ?_
  rintro e w1 ⟨rfl, rfl⟩
  go_wp2_with fail
  go_ret
  exact ⟨rfl, rfl⟩
theorem openLit_c (x : Nat) (hx : x < 64) (w : World) :
    Calls Tryz.prog 257 #[.int .i64 (x : Int)] w fun e w' => e = .returned (.bool (decide (1 < ((vals x).length : Int)))) ∧ w' = w := by
  go_enter Tryz.func257, Tryz.ntmps257
  go_wp2_with fail
  have hcall := size_c x hx w
  (with_reducible refine hcall.mono ?_)
  clear hcall
  rintro e w1 ⟨rfl, rfl⟩
  go_wp2_with fail
  go_ret
  exact ⟨rfl, rfl⟩
def opnI (E : List Nat) : Int := if openAt E = E.length then -1 else (openAt E : Int)
theorem vals_pos {d : Nat} (h0 : d ≠ 0) (h : d < 64) : 1 ≤ (vals d).length := by
  obtain ⟨n, hn⟩ := Nat.exists_testBit_of_ne_zero h0
  exact List.length_pos_of_mem (mem_vals.2 ⟨n, rfl, lt64_iff.1 h n hn, hn⟩)
theorem open_c (E : List Nat) (v : Value) (w : World) (hv : Nums [] w .i64 v (ints E)) (h0 : 0 ∉ E) (hb : Below64 E) :
    Calls Tryz.prog 222 #[v] w fun e w' => e = .returned (.int .i64 (opnI E)) ∧ Gr [] w w' := by
  have Hv := hid hv; have H0 := hid h0; have Hb := hid hb
  have one : Hid (∀ d ∈ E, ((vals d).length : Int) ≤ 1 → (vals d).length = 1) := hid fun d hd hn => by
    have := vals_pos (d := d) (fun e => h0 (e ▸ hd)) (hb d hd); omega
  clear hv h0 hb
  go_enter Tryz.func222, Tryz.ntmps222
  go_wp2_with fail
  refine (idx_c [] (ints E) (fun x => decide (1 < ((vals x.toNat).length : Int))) v 257 #[] _ Hv.out (fun _ _ => by kernel_rfl) ?_).mono ?_
  · intro x w1 hx _
    obtain ⟨d, hd, rfl⟩ := ints_mem.1 hx
    refine (openLit_c d (Hb.out d hd) w1).mono ?_
    rintro e w2 ⟨rfl, rfl⟩
    exact ⟨by simp, Gr.refl _ _⟩
  · rintro e w1 ⟨⟨i, rfl, h1, h2, h3⟩, hg1⟩
    have hi : i = opnI E := by
      unfold opnI
      by_cases hi : 0 ≤ i
      · obtain ⟨⟨x, hx, hpx⟩, hbef⟩ := h3 hi
        rw [ints_get] at hx
        cases hd : E[i.toNat]? with
        | none => rw [hd] at hx; cases hx
        | some d =>
          rw [hd] at hx; cases hx
          have hil := (List.getElem?_eq_some_iff.1 hd).1
          have e : openAt E = i.toNat := openAt_of (fun j d' hj hd' => one.out d' (List.mem_of_getElem? hd') (Int.not_lt.1 fun h => by
            have := hbef j (d' : Int) hj (by rw [ints_get, hd']; rfl)
            simp only [Int.toNat_natCast, decide_eq_false_iff_not] at this
            exact this h)) (by omega) (fun d' hd' => by
            rw [hd] at hd'; cases hd'
            simp only [Int.toNat_natCast, decide_eq_true_eq] at hpx
            omega)
          rw [if_neg (by omega), e]; omega
      · have e1 : anyB (fun x : Int => decide (1 < ((vals x.toNat).length : Int))) (ints E) = false := by
          cases hb : anyB (fun x : Int => decide (1 < ((vals x.toNat).length : Int))) (ints E)
          · rfl
          · exact absurd (h2.2 hb) hi
        have e : openAt E = E.length := openAt_of (fun j d' hj hd' => one.out d' (List.mem_of_getElem? hd') (Int.not_lt.1 fun h => by
          have := List.any_eq_false.1 (show (ints E).any _ = false from e1) (d' : Int) (ints_mem.2 ⟨d', List.mem_of_getElem? hd', rfl⟩)
          simp only [Int.toNat_natCast, decide_eq_true_eq] at this
          exact this h)) (Nat.le_refl _) (fun d' hd' => by simp at hd')
        rw [if_pos e]; omega
    have Hi := hid hi
    clear hi h1 h2 h3
    go_wp2_with fail
    go_ret
    exact ⟨ret_int Hi.out, hg1⟩

/-- 'append(out, ys...)' on a list of literals of the call's own, nil or not, in a region that draws its order. -/
theorem step_appLv {P : Program} {w : World} {ops : Array Oper} {o : Oper} {a : Act} {K : Act → World → Prop} {Q : Exit → Act → World → Prop} {E : Prop} (hgd : o.guard = none) (s x : Operand) (t : TypeId)
    (ho : o.op = .call { callee := .builtin .append, args := #[s, x], argTypes := #[t, t] }) (B : Nat) (e : TypeId) (z : Value) (bytes : Nat) (hinfo : (P.info? e).map (fun i => (i.zero, i.size, i.bytes)) = some (some z, 3, bytes)) (hzs : z.cells.size = 3) (hby : bytes ≤ 100)
    (ht : P.underlying t = some (.slice e)) (v : Value) (xs ys : Cls) (hs : a.eval s = v) (hown : OwnL B w e v xs) (ad : Addr) (m c2 : Nat) (S : List Nat) (hx : a.eval x = .slice (some ad) m c2) (hn : LitsV S w (.slice (some ad) m c2) ys)
    (hlen : xs.length + ys.length ≤ 10000000) (hB : B ≤ w.heap.size)
    (h : ∀ v' w', OwnL B w' e v' (xs ++ ys) → Gr v.ownBlock.toList w w' → K (a.put o.dst v') w') : if Region.wanted o (yielded ops a.tmps) = true then Oper.wp P o a w K Q else E := by
  rw [if_pos (by simp [Region.wanted, hgd])]
  obtain ⟨i0, hi, hz0, hz1, hz2⟩ := info_parts hinfo
  have Hn := hid hn
  obtain ⟨ao, cap, e1, ⟨hlc, hcm, hnil⟩, hc⟩ := hn
  simp only [Value.slice.injEq] at e1
  obtain ⟨rfl, hm, rfl⟩ := e1
  subst hm
  have hbb : (xs.length + ys.length) * bytes ≤ (xs.length + ys.length) * 100 := Nat.mul_le_mul_left _ hby
  refine wp_append_own w s x t ho B e i0 z 3 bytes ht hi hz0 hz1 hz2 hzs (by decide) v xs.length _ hs hown ad ys.length c2 (ys.map litC).flatten hx (by rw [flatten_length' (litC3 ys), List.length_map]) (lits_cells Hn.out) (flat_one ys) (by simp only [maxLen]; omega) (by omega) hB ?_
  intro v' w' hown' hgrow hnil'
  exact h v' w' (by unfold OwnL; rw [List.length_append, List.map_append, List.flatten_append]; exact hown') ⟨hgrow.os, hgrow.tape, hgrow.output, hgrow.size, fun k hk hs => hgrow.block k hk (fun e => hs (by rw [← e]; simp))⟩
theorem lit1_new (w : World) (l : Lit) (e : TypeId) : LitsV [] (w.alloc (.cells #[.int .i64 l.var, .int .i64 l.val, .bool l.neg] e)) (.slice (some ⟨w.heap.size, 0, none⟩) 1 1) [l] := by
  have h := fld (heap_alloc_new w (.cells #[.int .i64 l.var, .int .i64 l.val, .bool l.neg] e))
  refine ⟨_, _, rfl, by simp, fun i x hi => ?_⟩
  have hi0 : i = 0 := by have := (List.getElem?_eq_some_iff.1 hi).1; simp at this; omega
  subst hi0
  simp at hi; subst hi
  exact ⟨_, _, rfl, by simp, by simp [h], h 1, h 2⟩
theorem LitsV.far {S S' : List Nat} {w w' : World} {v : Value} {ls : Cls} (h : LitsV S w v ls) (hg : Gr S w w') (hS : ∀ b ∈ S', b ∈ S ∨ w.heap.size ≤ b) : LitsV S' w' v ls :=
  let ⟨ao, cap, e, hl, hc⟩ := h
  ⟨ao, cap, e, hl, fun i l hi => let ⟨b, o, e, hs, h0, h1, h2⟩ := hc i l hi; ⟨b, o, e, fun hm => by
    rcases hS b hm with h | h
    · exact hs h
    · have := World.block_lt_of_cell? w _ h0
      have h' : b < w.heap.size := this
      omega, hg.cell h0 hs, hg.cell h1 hs, hg.cell h2 hs⟩⟩
theorem coll_no {f : Int → Option (List Cls)} {vs : List Int} {j : Nat} {v : Int} (hv : vs[j]? = some v) (h : f v = none) : coll f vs = none := by
  rw [coll_drop f vs (j + 1), coll_take hv, h, cat2_none]; rfl
theorem fix_head {cs : List Con} {D : List Nat} (h : VCs cs D.length) (hl : 1 ≤ D.length) : ∃ d, (fix cs D)[0]? = some d ∧ (d = 0 ↔ 0 ∈ fix cs D) := by
  obtain ⟨d, hd⟩ := get_some (xs := fix cs D) (k := 0) (by rw [fix_len h]; omega)
  refine ⟨d, hd, fun e => by subst e; exact List.mem_of_getElem? hd, fun h0 => ?_⟩
  rcases fix_end h with hz | ⟨hn, _⟩
  · rw [hz] at hd
    unfold zeros at hd
    rw [List.getElem?_replicate] at hd
    split at hd
    · cases hd; rfl
    · cases hd
  · exact absurd h0 hn
theorem kid_and {E : List Nat} {u : Nat} (h : (u : Int) ∈ opv E) : andAt E (openAt E) (2 ^ u) = kid E u := by
  obtain ⟨u', e, hu, hb⟩ := opv_mem h
  have : u' = u := by omega
  subst this
  unfold andAt kid
  congr 1
  refine Nat.eq_of_testBit_eq fun n => ?_
  rw [Nat.testBit_and, Int.toNat_natCast, Nat.testBit_two_pow]
  by_cases hn : u' = n
  · subst hn; rw [hb]; simp
  · simp [hn]

/-! ### The search -/
def RfPost (m : Mod) (B P : Nat) (ps : List (Nat × Cls)) (lv : Value) (r : Option (List Cls)) (W : World) (e : Ending) (w' : World) : Prop :=
  e = .returned (.bool r.isSome) ∧ ∃ lv', w'.heap[P]? = some (.cells #[lv'] 29 (0, 0)) ∧ Gr (P :: lv.ownBlock.toList) W w' ∧ (∀ b, lv'.ownBlock = some b → lv.ownBlock = some b ∨ W.heap.size ≤ b) ∧
    (∀ a, r = some a → ∃ qs, qs.map Prod.snd = a ∧ OwnGX (fun b => b < B ∨ b = P) 1 elKB B w' 110 lv' (ps ++ qs) ∧ Apart B w'.heap.size (ps ++ qs))

/-- What a child leaves. -/
def RfCut (B P : Nat) (T : List Nat) (zs : List (Nat × Cls)) (lv : Value) (r : Option (List Cls)) (w0 : World) (v : Value) (wx : World) : Prop :=
  v = .bool (!r.isSome) ∧ ∃ lv', wx.heap[P]? = some (.cells #[lv'] 29 (0, 0)) ∧ Gr T w0 wx ∧ (∀ b, lv'.ownBlock = some b → lv.ownBlock = some b ∨ w0.heap.size ≤ b) ∧
    (∀ a, r = some a → ∃ qs, qs.map Prod.snd = a ∧ OwnGX (fun b => b < B ∨ b = P) 1 elKB B wx 110 lv' (zs ++ qs) ∧ Apart B wx.heap.size (zs ++ qs))

set_option maxRecDepth 100000 in
set_option maxHeartbeats 8000000 in
theorem refuteM_c (m : Mod) (B P : Nat) (mdv mcv : Value) (hBP : B ≤ P) (k : Nat) : ∀ (D : List Nat) (W : World) (lv dom pv : Value) (ps : List (Nat × Cls)) (p : Cls), D.sum < k → VCs m.cons D.length → Below64 D → 1 ≤ D.length → D.length ≤ 4 →
    PathOk D p → ps.length + 7 ^ (D.length - p.length) ≤ 100000 →
    (∀ S : List Nat, (∀ b ∈ S, B ≤ b) → ModV S W (.agg #[mdv, mcv]) m) → W.heap[P]? = some (.cells #[lv] 29 (0, 0)) → OwnGX (fun b => b < B ∨ b = P) 1 elKB B W 110 lv ps → Apart B W.heap.size ps →
    Nums [] W .i64 dom (ints D) → LitsV (P :: lv.ownBlock.toList) W pv p →
    Calls Tryz.prog 154 #[.agg #[mdv, mcv], dom, pv, .pointer (some ⟨P, 0, none⟩)] W (RfPost m B P ps lv (prf m.cons D p) W) := by
  induction k with
  | zero => intro D W lv dom pv ps p h; omega
  | succ k ih =>
    intro D W lv dom pv ps p hk hc hb hl1 hl4 hpo hps hM hP hown hap hdom hpv
    obtain ⟨E, hE⟩ : ∃ E, E = fix m.cons D := ⟨_, rfl⟩
    have hEl : E.length = D.length := by rw [hE, fix_len hc]
    have hEb : Below64 E := by rw [hE]; exact fix_below hc hb
    obtain ⟨e0, he0, he1⟩ := fix_head hc hl1
    rw [← hE] at he0 he1
    obtain ⟨po, pc, rfl, ⟨hp1, hp2⟩⟩ := hpv.slice
    obtain ⟨lo, lc, rfl, hlc1, hlc2⟩ := hown.slice
    have hp4 : p.length ≤ 4 := by have := hpo.len; omega
    have hPl := lt_of_block hP
    have hg0 : Gr [] W (W.alloc (.cells #[mdv, mcv] 26)) := (Gr.refl _ _).alloc _
    have hb0 : (W.alloc (.cells #[mdv, mcv] 26)).heap[W.heap.size]? = some (.cells #[mdv, mcv] 26 (0, 0)) := heap_alloc_new _ _
    have fl0 := fld hb0
    have HE := hid hE; have HEl := hid hEl; have HEb := hid hEb; have HC := hid hc; have HB := hid hb; have HM := hid hM; have HP := hid hP; have Hown := hid hown; have Hap := hid hap; have Hdom := hid hdom; have Hpv := hid hpv; have Hih := hid ih; have Hpo := hid hpo; have He0 := hid he0; have He1 := hid he1; have Hg0 := hid hg0; have Hb0 := hid hb0; have Hps := hid hps
    have hT0 : Hid (∀ b, (Value.slice lo ps.length lc).ownBlock = some b → B ≤ b ∧ b < W.heap.size ∧ b ≠ P) := hid fun b hb => by
      have h := hown.own hb
      exact ⟨h.2.1, h.2.2, fun e => h.1 (.inr e)⟩
    have hE4 : E.length ≤ 4 := by omega
    have hE1 : 1 ≤ E.length := by omega
    have hps2 : ps.length ≤ 100000 := Nat.le_trans (Nat.le_add_right _ _) hps
    clear hE hEl hEb hc hb hM hP hown hap hdom hpv ih hpo he0 he1 hg0 hb0 hps
    go_enter Tryz.func154, Tryz.ntmps154
    go_wp2_with fail
    generalize hW0 : W.alloc (.cells #[mdv, mcv] 26) = w0 at *
    clear hW0
    have hcall := propagate_c m D _ _ _ ((HM.out [] (by simp)).gr Hg0.out) (Hdom.out.gr Hg0.out) HC.out HB.out hl4
    (with_reducible refine hcall.mono ?_)
    clear hcall
    rintro e w2 ⟨v2, rfl, hown2, hg2⟩
    rw [← HE.out] at hown2
    obtain ⟨go, gc, rfl⟩ := hown2.open (by rw [ints_len]; omega)
    rw [ints_len] at hown2 ⊢
    have hgo := hown2.block
    have Hg02 := hid (Hg0.out.trans hg2)
    have Hb2 := hid (hg2.obj Hb0.out (by simp))
    have hs02 := Hg0.out.size
    have Hown2 := hid hown2
    obtain ⟨hc01, hc02⟩ := hown2.at (i := 0) (x := (e0 : Int)) (by rw [ints_get, He0.out]; rfl)
    have hs2 := Hg02.out.size
    clear hown2 hg2 fl0
    by_cases h0 : e0 = 0
    · have h0m := He1.out.1 h0
      have Hpf : Hid (prf m.cons D p = some (([] : List (Nat × Cls)).map Prod.snd ++ [negsL p])) := hid (prf_zero (by rw [← HE.out]; exact h0m))
      obtain ⟨qs, hqs⟩ : ∃ qs : List (Nat × Cls), qs = [] := ⟨_, rfl⟩
      rw [← hqs] at Hpf
      obtain ⟨zs, hzs⟩ : ∃ zs, zs = ps ++ qs := ⟨_, rfl⟩
      have hzl : ps.length = zs.length := by rw [hzs, hqs]; simp
      have hz2 : zs.length ≤ 10000000 := by omega
      have Hzs := hid hzs
      obtain ⟨zn, hzn⟩ : ∃ zn, zn = ps.length := ⟨_, rfl⟩
      obtain ⟨lt, hlt⟩ : ∃ lt, lt = lo := ⟨_, rfl⟩
      obtain ⟨ct, hct⟩ : ∃ ct, ct = lc := ⟨_, rfl⟩
      have Hwt : Hid (OwnGX (fun b => b < B ∨ b = P) 1 elKB B w2 110 (.slice lt zn ct) zs) := hid (by rw [hlt, hct, hzs, hqs, List.append_nil, hzn]; exact Hown.out.gr elKB_ok Hg02.out (by simp))
      have Hat : Hid (Apart B w2.heap.size zs) := hid (by rw [hzs, hqs, List.append_nil]; exact Hap.out.le hs2)
      have Hbt : Hid (w2.heap[P]? = some (.cells #[.slice lt zn ct] 29 (0, 0))) := hid (by rw [hlt, hct, hzn]; exact Hg02.out.obj HP.out (by simp))
      have HPt : Hid (LitsV [] w2 (.slice po p.length pc) p) := hid ((Hpv.out.sub (by simp)).gr Hg02.out)
      have HWt : Hid (Gr (P :: (Value.slice lo ps.length lc).ownBlock.toList) W w2) := hid (Gr.any Hg02.out)
      have Hot : Hid (∀ b, (Value.slice lt zn ct).ownBlock = some b → (Value.slice lo ps.length lc).ownBlock = some b ∨ W.heap.size ≤ b) := hid (by rw [hlt, hct, hzn]; exact fun b hb => .inl hb)
      have h0' : ((e0 : Int) != 0) = false := by rw [h0]; rfl
      have flt := fld Hbt.out; have fft := fldF Hbt.out; have hltt := lt_of_block Hbt.out
      obtain ⟨wt, hwt⟩ : ∃ wt, wt = w2 := ⟨_, rfl⟩
      subst hwt
      clear h0 h0m hzs hqs hlt hct hzl hzn
      go_wp2_with fail
      go_region_law (first
        | (go_simp; go_at_call 217; refine (negations_c p _ _ (HPt.out.gr ((Gr.refl [] wt).drew)) (by omega) Hpo.out.nodup).mono ?_; rintro e wn ⟨vn, rfl, hn, hgn⟩; obtain ⟨no, nc, rfl, -⟩ := hn.slice; obtain ⟨nb, hn1, hn2⟩ := hn.one; (try simp only [World.size_drew] at hn2); have HG : Hid (Gr [] wt wn) := hid (((Gr.refl [] wt).drew).trans hgn); have Hbn := hid (HG.out.obj Hbt.out (by simp)); have fln := fld Hbn.out; have ffn := fldF Hbn.out; have hltn := lt_of_block Hbn.out; have hsn := HG.out.size; have Hn1 := hid hn1; have Hn2 := hid hn2; clear hgn hn hn1 hn2)
        | (refine step_appGX rfl _ _ 29 rfl 1 elKB elKB_ok B 110 (.slice none 0 0) 24 infoK rfl (by omega) (by omega) Tryz.underlying29 (.slice lt zn ct) zs rfl (fun b => b < B ∨ b = P) (fun b hb => by rcases hb with h | h; (simp; omega); (simp; omega)) ((Hwt.out.gr elKB_ok HG.out (by simp)).gr elKB_ok ((Gr.refl [] _).alloc _) (by simp)) wn.heap.size 1 (nb, negsL p) [.slice no (negsL p).length nc] rfl rfl (by simp [Value.oneCell']) (fun j u hj => by rw [fld (heap_alloc_new wn (.cells #[.slice no (negsL p).length nc] 110))]; simpa using hj) (fun S hS => ⟨_, rfl, Hn1.out.gr' (M' := fun b => At nb (negsL p) b ∧ b ∉ S) ((Gr.refl [] wn).alloc _) (by simp) (fun b hb hM => ⟨hM, fun hbS => by obtain ⟨hM1, hM2⟩ := hM; have h2 := Hn2.out hM1; rcases hS b hbS with (h | h) | h | h; omega; omega; (simp at h; omega); (have := (Hwt.out.own h).2.2; omega)⟩)⟩) (by omega) (by simp; omega) ?_; intro g8 c8 w8 hown8 hg8 hwh8 hlt8; have HGn : Hid (Gr [] wn (wn.alloc (.cells #[.slice no (negsL p).length nc] 110))) := hid ((Gr.refl [] wn).alloc _); have hb8 := hg8.obj (HGn.out.obj Hbn.out (by simp)) (fun hm => (Hwt.out.own (b := P) (by simpa using hm)).1 (.inr rfl)); have Hb8 := hid hb8; have fl8 := fld hb8; have ff8 := fldF hb8; have Hown8 := hid hown8; have Hg8 := hid hg8; have Hwh8 := hid hwh8; have hsn8 := hg8.size; clear hown8 hg8 hb8 hwh8))
      all_goals
        go_wp2_with fail
        go_ret
        have hgs : Gr [P] w8 (w8.setCell ⟨P, 0, none⟩ (.slice (some ⟨g8, 0, none⟩) (zs.length + 1) c8)) := Gr.cell1 _ _ _ _ (by simp)
        have hsn8' : wn.heap.size + 1 ≤ w8.heap.size := by simpa using hsn8
        have hH : ∀ b, (Value.slice lt zn ct).ownBlock = some b → (Value.slice lo ps.length lc).ownBlock = some b ∨ W.heap.size ≤ b := Hot.out
        have hgW : Gr (P :: (Value.slice lo ps.length lc).ownBlock.toList) W (w8.setCell ⟨P, 0, none⟩ (.slice (some ⟨g8, 0, none⟩) (zs.length + 1) c8)) := by
          refine (((HWt.out.trans (Gr.any (HG.out.trans HGn.out))).step Hg8.out (fun i hi => ?_)).step hgs (fun i hi => .inl (by simp at hi; subst hi; simp)))
          rcases hH i (by simpa using hi) with h | h
          · exact .inl (by simp [h])
          · exact .inr h
        refine ⟨by rw [Hpf.out]; rfl, _, cells_set Hb8.out 0 _, hgW, fun b hb => ?_, fun a ha => ?_⟩
        · simp [Value.ownBlock] at hb
          subst hb
          rcases Hwh8.out with h | h
          · exact hH _ h
          · exact .inr (by simp at h; have := HWt.out.size; omega)
        · rw [Hpf.out] at ha
          cases ha
          refine ⟨qs ++ [(nb, negsL p)], by simp, ?_, ?_⟩
          · rw [← List.append_assoc, ← Hzs.out]
            exact Hown8.out.gr elKB_ok hgs (fun b hb => .inr (by simpa using hb))
          · rw [← List.append_assoc, ← Hzs.out]
            refine Hat.out.snoc (by omega) (by simp; omega) (fun h => ?_)
            have := Hn2.out h
            simp
            omega
    have h0m : 0 ∉ E := fun h => h0 (He1.out.2 h)
    have H0 := hid h0m
    have h0' : ((e0 : Int) != 0) = true := by simp; omega
    clear h0 h0m
    go_wp2_with fail
    have hcall := open_c E _ _ (Hown2.out.nums' (by simp)) H0.out HEb.out
    (with_reducible refine hcall.mono ?_)
    clear hcall
    rintro e w3 ⟨rfl, hg3⟩
    have Hg03 := hid (Hg02.out.trans hg3)
    have hs3 := Hg03.out.size
    have Hown3 := hid (Hown2.out.gr hg3 (by simp)); have Hb3 := hid (hg3.obj Hb2.out (by simp))
    have hs23 := hg3.size
    have Hg23 := hid hg3
    clear hg3 hc01 hc02 h0'
    by_cases hop : openAt E = E.length
    · have e1 : opnI E = -1 := by unfold opnI; rw [if_pos hop]
      have Hpf : Hid (prf m.cons D p = none) := hid (prf_none (by rw [← HE.out]; exact H0.out) (by rw [← HE.out, hop, HEl.out]))
      rw [e1]
      clear e1 hop
      go_wp2_with fail
      go_ret
      refine ⟨by rw [Hpf.out]; rfl, _, Hg03.out.obj HP.out (by simp), Gr.any Hg03.out, fun b hb => .inl hb, fun a ha => ?_⟩
      rw [Hpf.out] at ha; cases ha
    have e1 : opnI E = (openAt E : Int) := by unfold opnI; rw [if_neg hop]
    rw [e1]
    have hopl : openAt E < E.length := by have := openAt_le E; omega
    have Hop := hid hop
    obtain ⟨i, hi⟩ : ∃ i, i = openAt E := ⟨_, rfl⟩
    rw [← hi] at hopl ⊢
    have Hi := hid hi
    obtain ⟨d, hd⟩ := get_some hopl
    have hd64 : d < 64 := HEb.out d (List.mem_of_getElem? hd)
    have Hd := hid hd
    have Hopv : Hid (opv E = vals d) := hid (by unfold opv; rw [← hi, List.getD_eq_getElem?_getD, hd]; rfl)
    obtain ⟨hci1, hci2⟩ := Hown3.out.at (i := i) (x := (d : Int)) (by rw [ints_get, hd]; rfl)
    clear e1 hop hi hd
    go_wp2_with fail
    have hcall := valuesOf_c d hd64 w3
    (with_reducible refine hcall.mono ?_)
    clear hcall
    rintro e w4 ⟨v4, rfl, hown4, hg4⟩
    obtain ⟨vo4, vc4, rfl⟩ := hown4.c.form
    have hvl : (vals d).length ≤ 6 := vals_length d
    have Hg04 := hid (Hg03.out.trans hg4)
    have hs4 := Hg04.out.size
    have hs34 := hg4.size
    have Hown4e := hid (Hown3.out.gr hg4 (by simp)); have Hb4 := hid (hg4.obj Hb3.out (by simp)); have HV4 := hid hown4
    have HP4 := hid (Hg04.out.obj HP.out (by simp))
    have Hpv4 := hid (Hpv.out.gr (Gr.any Hg04.out))
    clear hown4 hg4 hci1 hci2
    obtain ⟨N7, hN7⟩ : ∃ N7, N7 = 7 ^ (D.length - (p.length + 1)) := ⟨_, rfl⟩
    have HN7 := hid hN7
    have HF : Hid (∀ v ∈ vals d, ∀ a, prf m.cons (kid E v) (p ++ [dcs E v]) = some a → a.length ≤ N7) := hid fun v hv a ha => by
      have hv' : v ∈ opv (fix m.cons D) := by rw [← HE.out, Hopv.out]; exact hv
      have := prf_len _ _ _ (Nat.lt_succ_self _) (by rw [kid_len, HEl.out]; exact HC.out) (by rw [HE.out]; exact kid_below HC.out HB.out hv') (by rw [HE.out]; exact kid_path Hpo.out HC.out HB.out (by rw [← HE.out]; exact H0.out) hv') a ha
      rw [kid_len, HEl.out, List.length_append, List.length_singleton, ← hN7] at this
      exact this
    have hpos : 1 ≤ (vals d).length := vals_pos (fun e => H0.out (by rw [← e]; exact List.mem_of_getElem? Hd.out)) hd64
    have hN : ps.length + 6 * N7 + N7 ≤ 100000 := by
      obtain ⟨v, hv⟩ := get_some (xs := vals d) (k := 0) (by omega)
      have hv' : v ∈ opv (fix m.cons D) := by rw [← HE.out, Hopv.out]; exact List.mem_of_getElem? hv
      have h1 := (kid_path Hpo.out HC.out HB.out (by rw [← HE.out]; exact H0.out) hv').len
      rw [List.length_append, List.length_singleton, fix_kid_len HC.out] at h1
      have h2 := Hps.out
      have e : D.length - p.length = (D.length - (p.length + 1)) + 1 := by omega
      rw [e, Nat.pow_succ, ← hN7] at h2
      omega
    clear hN7
    go_wp2_with fail
    go_loopw [29] (fun i' wr => ∃ (j : Nat) (lv' : Value) (qs : List (Nat × Cls)), j ≤ (vals d).length ∧ i' = .int .i64 j ∧ Hid (wr.heap[P]? = some (.cells #[lv'] 29 (0, 0))) ∧ Hid (OwnGX (fun b => b < B ∨ b = P) 1 elKB B wr 110 lv' (ps ++ qs)) ∧ Hid (Apart B wr.heap.size (ps ++ qs)) ∧
      Hid (coll (fun v => prf m.cons (kid E v) (p ++ [dcs E v])) ((vals d).take j) = some (qs.map Prod.snd)) ∧ Hid (Gr (P :: (Value.slice lo ps.length lc).ownBlock.toList) w4 wr) ∧ Hid (∀ b, lv'.ownBlock = some b → (Value.slice lo ps.length lc).ownBlock = some b ∨ w4.heap.size ≤ b)) (fun i' _ => (vals d).length - (intOf i').toNat)
    case atStart => exact ⟨0, _, [], Nat.zero_le _, rfl, HP4, hid (by rw [List.append_nil]; exact Hown.out.gr elKB_ok Hg04.out (by simp)), hid (by rw [List.append_nil]; exact Hap.out.le hs4), hid (by simp [coll]), hid (Gr.refl _ _), hid (fun b hb => .inl hb)⟩
    case round =>
      obtain ⟨j, lvj, qs, hj, rfl, HPr, Hor, Har, Hcl, HGr, Hfb⟩ := hrel
      obtain ⟨zs, hzs⟩ : ∃ zs, zs = ps ++ qs := ⟨_, rfl⟩
      rw [← hzs] at Hor Har
      obtain ⟨lt, ct, rfl, hct1, hct2⟩ := Hor.out.slice
      have Hzs := hid hzs
      have hql : Hid (qs.length ≤ 6 * N7) := hid (by
        have := coll_len (B := N7) (fun v hv => HF.out v (List.mem_of_mem_take hv)) _ Hcl.out
        rw [List.length_map, List.length_take] at this
        have h6 : min j (vals d).length ≤ 6 := by omega
        exact Nat.le_trans this (Nat.mul_le_mul_right _ h6))
      have hzl : zs.length = ps.length + qs.length := by rw [hzs, List.length_append]
      have HZl := hid hzl
      have hPr := HPr.out
      have hltr := lt_of_block hPr
      have hsr := HGr.out.size
      obtain ⟨wt, rfl⟩ : ∃ wt, wt = wr := ⟨_, rfl⟩
      obtain ⟨zn, hzn⟩ : ∃ zn, zn = zs.length := ⟨_, rfl⟩
      rw [← hzn] at Hor HPr hPr Hfb hct1
      have Hzn := hid hzn
      have HTb : Hid (∀ b, (Value.slice lt zn ct).ownBlock = some b → B ≤ b ∧ b < wt.heap.size ∧ b ≠ P) := hid fun b hb => by
        have h := Hor.out.own hb
        exact ⟨h.2.1, h.2.2, fun e => h.1 (.inr e)⟩
      clear hzs hzl hzn
      by_cases hjl : j < (vals d).length
      · obtain ⟨v, hv⟩ := get_some hjl
        obtain ⟨u, rfl, hu6, hub⟩ := mem_vals.1 (List.mem_of_getElem? hv)
        have hvm := List.mem_of_getElem? hv
        have hvo : (u : Int) ∈ opv E := by rw [Hopv.out]; exact hvm
        have hvo' : (u : Int) ∈ opv (fix m.cons D) := by rw [← HE.out]; exact hvo
        obtain ⟨a, ha⟩ : ∃ a : Nat, a = 2 ^ u := ⟨_, rfl⟩
        have hpw : IntKind.i64.wrap (2 ^ u) = (a : Int) := by
          have h := pow_shl u hu6
          rw [Int.one_mul] at h
          rw [ha]; exact h
        have ha64 : a < 64 := by rw [ha]; exact Nat.lt_of_lt_of_le (Nat.pow_lt_pow_right (by omega) hu6) (by decide)
        have HKA : Hid (andAt E i a = kid E u) := hid (by rw [ha, Hi.out]; exact kid_and hvo)
        have Hlt : Hid ((kid E u).sum < k) := hid (by have := fix_kid_lt HC.out hvo'; rw [← HE.out] at this; omega)
        have Hkb : Hid (Below64 (kid E u)) := hid (by have := kid_below HC.out HB.out hvo'; rwa [← HE.out] at this)
        have Hkp : Hid (PathOk (kid E u) (p ++ [dcs E u])) := hid (by have := kid_path Hpo.out HC.out HB.out (by rw [← HE.out]; exact H0.out) hvo'; rwa [← HE.out] at this)
        have Hkl : Hid ((kid E (u : Int)).length = D.length) := hid (by rw [kid_len, HEl.out])
        have Hctk := hid (coll_take (f := fun v => prf m.cons (kid E v) (p ++ [dcs E v])) hv)
        have Hvm := hid hvm; have Hpw := hid hpw; have Hv := hid hv
        obtain ⟨b4, o4, rfl, _, hc4⟩ := ((HV4.out.nums' (S := P :: (Value.slice lo ps.length lc).ownBlock.toList) (fun b hb => .inl (by
          rcases List.mem_cons.1 hb with h | h
          · omega
          · have := hT0.out b (by simpa using h); omega))).gr HGr.out).at hv
        obtain ⟨T, hT⟩ : ∃ T, T = P :: (Value.slice lt zn ct).ownBlock.toList := ⟨_, rfl⟩
        have HT := hid hT
        have HTe : Hid (∀ b ∈ T, B ≤ b ∧ b < wt.heap.size) := hid fun b hb => by
          rw [hT] at hb
          rcases List.mem_cons.1 hb with h | h
          · omega
          · have := HTb.out b (by simpa using h); omega
        have HTW : Hid (∀ b ∈ T, b ∈ P :: (Value.slice lo ps.length lc).ownBlock.toList ∨ w4.heap.size ≤ b) := hid fun b hb => by
          rw [hT] at hb
          rcases List.mem_cons.1 hb with h | h
          · exact .inl (by simp [h])
          · rcases Hfb.out b (by simpa using h) with h | h
            · exact .inl (by simp [h])
            · exact .inr h
        have HNE : Hid (∀ W', Gr T wt W' → Nums [] W' .i64 (.slice (some ⟨go, 0, none⟩) E.length gc) (ints E)) := hid fun W' h => by
          have h1 := Hown4e.out.nums' (S := (P :: (Value.slice lo ps.length lc).ownBlock.toList) ++ T) (fun b hb => by
            rcases List.mem_append.1 hb with hb | hb
            · refine .inl ?_
              rcases List.mem_cons.1 hb with h | h
              · omega
              · have := hT0.out b (by simpa using h); omega
            · rcases HTW.out b hb with h | h
              · refine .inl ?_
                rcases List.mem_cons.1 h with h | h
                · omega
                · have := hT0.out b (by simpa using h); omega
              · exact .inr h)
          exact ((h1.gr (HGr.out.sub (fun k _ h => List.mem_append.2 (.inl h)))).gr (h.sub (fun k _ h => List.mem_append.2 (.inr h)))).sub (by simp)
        have HPT : Hid (LitsV T wt (.slice po p.length pc) p) := hid (Hpv.out.far ((Gr.any Hg04.out).trans HGr.out) (fun b hb => (HTW.out b hb).imp id (by omega)))
        have HPTW : Hid (∀ W', Gr T wt W' → LitsV [] W' (.slice po p.length pc) p) := hid fun W' h => (HPT.out.gr h).sub (by simp)
        have Hb4r : Hid (wt.heap[W.heap.size]? = some (.cells #[mdv, mcv] 26 (0, 0))) := hid (HGr.out.obj Hb4.out (fun hm => by
          rcases List.mem_cons.1 hm with h | h
          · omega
          · have := hT0.out _ (by simpa using h); omega))
        have HMT : Hid (∀ W', Gr [] wt W' → ∀ S : List Nat, (∀ b ∈ S, B ≤ b) → ModV S W' (.agg #[mdv, mcv]) m) := hid fun W' h S hS => by
          have h1 := HM.out ((P :: (Value.slice lo ps.length lc).ownBlock.toList) ++ S) (fun b hb => by
            rcases List.mem_append.1 hb with hb | hb
            · rcases List.mem_cons.1 hb with h | h
              · omega
              · exact (hT0.out b (by simpa using h)).1
            · exact hS b hb)
          exact ((h1.gr (Gr.any Hg04.out)).gr ((HGr.out.trans (Gr.any h)).sub (fun k _ h => List.mem_append.2 (.inl h)))).sub (fun b _ h => List.mem_append.2 (.inr h))
        have hWT : W.heap.size ∉ T := fun hm => by
          rcases HTW.out _ hm with h | h
          · rcases List.mem_cons.1 h with h | h
            · omega
            · have := hT0.out _ (by simpa using h); omega
          · omega
        have HK : Hid (∀ W', Gr T wt W' → W'.cell? ⟨W.heap.size, 0, none⟩ = some mdv ∧ W'.cell? ⟨W.heap.size, 1, none⟩ = some mcv) := hid fun W' h => by
          have := fld (h.obj Hb4r.out hWT)
          exact ⟨this 0, this 1⟩
        have HPo : Hid (∀ W', Gr [] wt W' → W'.heap[P]? = some (.cells #[.slice lt zn ct] 29 (0, 0))) := hid fun W' h => h.obj HPr.out (by simp)
        have HL0 : Hid (p ++ [(⟨(i : Int), (u : Int), false⟩ : Lit)] = p ++ [dcs E u]) := hid (by rw [Hi.out]; rfl)
        have HzB : Hid (zs.length + 7 ^ ((kid E (u : Int)).length - (p ++ [dcs E u]).length) ≤ 100000) := hid (by
          rw [Hkl.out, List.length_append, List.length_singleton, ← HN7.out, HZl.out]
          have := hql.out; omega)
        have hwT : ∀ b ∈ T, b < wt.heap.size := fun b hb => (HTe.out b hb).2
        have HwT := hid hwT
        have hp6 : p.length ≤ 100000 := by omega
        clear hv hub hvm hvo hvo' ha hT hWT hwT
        go_wp2_with fail
        go_cut [48] from 33 to 48 (fun b wx => RfCut B P T zs (.slice lt zn ct) (prf m.cons (kid E u) (p ++ [dcs E u])) wt b wx)
        case first =>
          go_region_held_law (fun w' => w'.cell? ⟨W.heap.size, 0, none⟩ = some mdv ∧ w'.cell? ⟨W.heap.size, 1, none⟩ = some mcv) (first | exact HK.out _ (Gr.any ((Gr.refl [] wt).drew)) | exact HK.out _ (Gr.any (((Gr.refl [] wt).drew).alloc _)) | exact HK.out _ HGe.out | exact HK.out _ (Gr.any HGd.out) | exact HK.out _ (Gr.any HGa.out) | exact HK.out _ (Gr.any HGb.out) | exact HK.out _ (Gr.any (HGa.out.alloc _)) | exact HK.out _ (Gr.any (HGb.out.alloc _))) (first
            | (go_simp; go_at_call 224; (try rw [Hpw.out]); refine (limited_c E i a _ _ (HNE.out _ (Gr.any (by first | exact (Gr.refl [] wt).drew | exact ((Gr.refl [] wt).drew).alloc _ | exact HGb.out | exact HGb.out.alloc _ | exact HGd.out))) hopl hE4 HEb.out ha64).mono ?_; rw [HKA.out]; rintro e wa ⟨va, rfl, hoa, hga⟩; have HGa : Hid (Gr [] wt wa) := hid (Gr.trans (by first | exact (Gr.refl [] wt).drew | exact ((Gr.refl [] wt).drew).alloc _ | exact HGb.out | exact HGb.out.alloc _ | exact HGd.out) hga); have Hga := hid hga; have Hoa := hid hoa; have hsa := hga.size; (try simp only [World.size_alloc, World.size_drew] at hsa); clear hoa hga; (try dsimp only))
            | (go_simp; go_at_call 225; refine (cloneLit_c _ p _ (HPTW.out _ (Gr.any (by first | exact (Gr.refl [] wt).drew | exact ((Gr.refl [] wt).drew).alloc _ | exact HGa.out | exact HGa.out.alloc _))) hp6).mono ?_; rintro e wb ⟨vb, rfl, hob, hgb⟩; have HGb : Hid (Gr [] wt wb) := hid (Gr.trans (by first | exact (Gr.refl [] wt).drew | exact ((Gr.refl [] wt).drew).alloc _ | exact HGa.out | exact HGa.out.alloc _) hgb); have Hgb := hid hgb; have Hob := hid hob; have hBb := fun (b : Nat) (hb : vb.ownBlock = some b) => ownsRow_ownBlock hob hb; have hsb := hgb.size; (try simp only [World.size_alloc, World.size_drew] at hsb); (try simp only [World.size_alloc, World.size_drew] at hBb); have HBb := hid hBb; clear hob hgb hBb; (try dsimp only))
            | (refine step_appLv rfl _ _ 110 rfl wt.heap.size 45 (.agg #[.int .i64 0, .int .i64 0, .bool false]) 24 infoL3 rfl (by omega) Tryz.underlying110 vb p [(⟨(i : Int), (u : Int), false⟩ : Lit)] rfl ((Hob.out.le (by first | omega | (simp; omega))).gr (S := []) (by first | exact Gr.refl [] _ | exact (Gr.refl [] _).alloc _ | exact Hga.out | exact Hga.out.alloc _ | exact ((Gr.refl [] _).alloc _).trans Hga.out) (by simp)) _ 1 1 [] rfl (by first | exact lit1_new _ ⟨(i : Int), (u : Int), false⟩ _ | exact (lit1_new wt.drew ⟨(i : Int), (u : Int), false⟩ 45).gr Hgb.out | exact (lit1_new wt.drew ⟨(i : Int), (u : Int), false⟩ 45).gr (Hga.out.trans Hgb.out) | exact (lit1_new wt.drew ⟨(i : Int), (u : Int), false⟩ 45).gr (Hgb.out.trans Hga.out) | exact (lit1_new _ ⟨(i : Int), (u : Int), false⟩ _).gr Hga.out | exact (lit1_new _ ⟨(i : Int), (u : Int), false⟩ _).gr Hgb.out | exact (lit1_new _ ⟨(i : Int), (u : Int), false⟩ _).gr (Hgb.out.trans Hga.out) | exact (lit1_new _ ⟨(i : Int), (u : Int), false⟩ _).gr (Hga.out.trans Hgb.out)) (by simp; omega) (by first | exact HGa.out.size | exact HGb.out.size | exact (HGa.out.alloc _).size | exact (HGb.out.alloc _).size) ?_; intro vd wd hod hgd; have HGd : Hid (Gr [] wt wd) := hid (Gr.step (by first | exact HGa.out | exact HGb.out | exact HGa.out.alloc _ | exact HGb.out.alloc _) hgd (fun b hb => .inr (by have := HBb.out b (by simpa using hb); omega))); have Hgd := hid hgd; have Hod := hid hod; clear hod hgd)
            | (go_simp; go_at_call 154; refine (Hih.out (kid E u) _ (.slice lt zn ct) va vd zs (p ++ [dcs E u]) Hlt.out (by rw [Hkl.out]; exact HC.out) Hkb.out (by rw [Hkl.out]; exact hl1) (by rw [Hkl.out]; exact hl4) Hkp.out HzB.out (HMT.out _ (by first | exact HGa.out | exact HGd.out)) (HPo.out _ (by first | exact HGa.out | exact HGd.out)) (Hor.out.gr elKB_ok (S := []) (by first | exact HGa.out | exact HGd.out) (by simp)) (Har.out.le (Gr.size (S := []) (by first | exact HGa.out | exact HGd.out))) (by first | exact Hoa.out.nums' (S := []) (by simp) | exact ((Hoa.out.nums' (S := vb.ownBlock.toList) (fun b hb => by have h1 := HBb.out b (by simpa using hb); simp; omega)).gr (Gr.trans (by first | exact Gr.refl _ _ | exact (Gr.refl _ _).alloc _ | exact Gr.any Hgb.out | exact Gr.any (Hgb.out.alloc _) | exact Gr.any ((((Gr.refl [] _).alloc _)).trans Hgb.out)) Hgd.out)).sub0) (by rw [← HT.out, ← HL0.out]; first | exact Hod.out.lits HwT.out | exact (Hod.out.lits HwT.out).gr (Gr.any Hga.out))).mono ?_; rintro e we ⟨rfl, lve, hPe, hge, hfe, hqe⟩; rw [← HT.out] at hge; have HGe : Hid (Gr T wt we) := hid (Gr.trans (Gr.any (by first | exact HGa.out | exact HGd.out)) hge); have HPe := hid hPe; have Hfe : Hid (∀ b, lve.ownBlock = some b → (Value.slice lt zn ct).ownBlock = some b ∨ wt.heap.size ≤ b) := hid (fun b hb => (hfe b hb).imp id (fun h => Nat.le_trans (Gr.size (S := []) (by first | exact HGa.out | exact HGd.out)) h)); have Hqe := hid hqe; clear hPe hge hfe hqe; (try dsimp only)))
          all_goals
            go_wp2_with fail
            go_meet
            exact ⟨by generalize prf m.cons (kid E (u : Int)) (p ++ [dcs E (u : Int)]) = r; cases r <;> rfl, lve, HPe.out, HGe.out, Hfe.out, Hqe.out⟩
        case rest =>
          obtain ⟨rfl, lve, hPe, hge, hfe, hqe⟩ := hcut
          have HPe := hid hPe; have HGe := hid hge; have Hfe := hid hfe; have Hqe := hid hqe
          clear hPe hge hfe hqe
          have HGx : Hid (Gr (P :: (Value.slice lo ps.length lc).ownBlock.toList) w4 wc) := hid (HGr.out.step HGe.out (fun b hb => HTW.out b hb))
          have Hfx : Hid (∀ b, lve.ownBlock = some b → (Value.slice lo ps.length lc).ownBlock = some b ∨ w4.heap.size ≤ b) := hid fun b hb => by
            rcases Hfe.out b hb with h | h
            · exact Hfb.out b h
            · exact .inr (by omega)
          cases hr : prf m.cons (kid E (u : Int)) (p ++ [dcs E u]) with
          | none =>
            have Hpf : Hid (prf m.cons D p = none) := hid (by
              rw [prf_more HC.out (by rw [← HE.out]; exact H0.out) (by rw [← HE.out, ← HEl.out]; exact Hop.out), ← HE.out, Hopv.out, coll_no Hv.out hr]; rfl)
            have hrn := hr
            clear hr
            go_wp2_with fail
            go_ret
            refine ⟨by rw [Hpf.out]; rfl, _, HPe.out, (Gr.any Hg04.out).trans HGx.out, fun b hb => (Hfx.out b hb).imp id (by omega), fun a ha => ?_⟩
            rw [Hpf.out] at ha; cases ha
          | some a' =>
            obtain ⟨qs', hq1, hq2, hq3⟩ := Hqe.out a' hr
            have Hr := hid hr; have Hq1 := hid hq1; have Hq2 := hid hq2; have Hq3 := hid hq3
            clear hr hq1 hq2 hq3
            go_wp2_with fail
            refine ⟨⟨j + 1, lve, qs ++ qs', by omega, by go_num, HPe, hid ?_, hid ?_, hid ?_, HGx, Hfx⟩, by simp [intOf]; omega⟩
            · rw [← List.append_assoc, ← Hzs.out]; exact Hq2.out
            · rw [← List.append_assoc, ← Hzs.out]; exact Hq3.out
            · rw [Hctk.out, Hcl.out]
              show cat2 _ (prf m.cons (kid E (u : Int)) (p ++ [dcs E u])) = _
              rw [Hr.out, List.map_append, Hq1.out]; rfl
      · have Hpf : Hid (prf m.cons D p = some (qs.map Prod.snd ++ [negsL p])) := hid (by
          rw [prf_more HC.out (by rw [← HE.out]; exact H0.out) (by rw [← HE.out, ← HEl.out]; exact Hop.out), ← HE.out, Hopv.out]
          have := Hcl.out
          rw [List.take_of_length_le (by omega)] at this
          rw [this]; rfl)
        have hz2 : zs.length ≤ 10000000 := by have := HZl.out; have := hql.out; omega
        have Hwt := Hor
        have Hat := Har
        have Hbt := HPr
        have HWt : Hid (Gr (P :: (Value.slice lo ps.length lc).ownBlock.toList) W wt) := hid ((Gr.any Hg04.out).trans HGr.out)
        have HPt : Hid (LitsV [] wt (.slice po p.length pc) p) := hid ((Hpv.out.gr HWt.out).sub (by simp))
        have Hot : Hid (∀ b, (Value.slice lt zn ct).ownBlock = some b → (Value.slice lo ps.length lc).ownBlock = some b ∨ W.heap.size ≤ b) := hid fun b hb => (Hfb.out b hb).imp id (by omega)
        have flt := fld Hbt.out; have fft := fldF Hbt.out; have hltt := lt_of_block Hbt.out
        clear hPr
        go_wp2_with fail
        go_region_law (first
          | (go_simp; go_at_call 217; refine (negations_c p _ _ (HPt.out.gr ((Gr.refl [] wt).drew)) (by omega) Hpo.out.nodup).mono ?_; rintro e wn ⟨vn, rfl, hn, hgn⟩; obtain ⟨no, nc, rfl, -⟩ := hn.slice; obtain ⟨nb, hn1, hn2⟩ := hn.one; (try simp only [World.size_drew] at hn2); have HG : Hid (Gr [] wt wn) := hid (((Gr.refl [] wt).drew).trans hgn); have Hbn := hid (HG.out.obj Hbt.out (by simp)); have fln := fld Hbn.out; have ffn := fldF Hbn.out; have hltn := lt_of_block Hbn.out; have hsn := HG.out.size; have Hn1 := hid hn1; have Hn2 := hid hn2; clear hgn hn hn1 hn2)
          | (refine step_appGX rfl _ _ 29 rfl 1 elKB elKB_ok B 110 (.slice none 0 0) 24 infoK rfl (by omega) (by omega) Tryz.underlying29 (.slice lt zn ct) zs rfl (fun b => b < B ∨ b = P) (fun b hb => by rcases hb with h | h; (simp; omega); (simp; omega)) ((Hwt.out.gr elKB_ok HG.out (by simp)).gr elKB_ok ((Gr.refl [] _).alloc _) (by simp)) wn.heap.size 1 (nb, negsL p) [.slice no (negsL p).length nc] rfl rfl (by simp [Value.oneCell']) (fun j u hj => by rw [fld (heap_alloc_new wn (.cells #[.slice no (negsL p).length nc] 110))]; simpa using hj) (fun S hS => ⟨_, rfl, Hn1.out.gr' (M' := fun b => At nb (negsL p) b ∧ b ∉ S) ((Gr.refl [] wn).alloc _) (by simp) (fun b hb hM => ⟨hM, fun hbS => by obtain ⟨hM1, hM2⟩ := hM; have h2 := Hn2.out hM1; rcases hS b hbS with (h | h) | h | h; omega; omega; (simp at h; omega); (have := (Hwt.out.own h).2.2; omega)⟩)⟩) (by omega) (by simp; omega) ?_; intro g8 c8 w8 hown8 hg8 hwh8 hlt8; have HGn : Hid (Gr [] wn (wn.alloc (.cells #[.slice no (negsL p).length nc] 110))) := hid ((Gr.refl [] wn).alloc _); have hb8 := hg8.obj (HGn.out.obj Hbn.out (by simp)) (fun hm => (Hwt.out.own (b := P) (by simpa using hm)).1 (.inr rfl)); have Hb8 := hid hb8; have fl8 := fld hb8; have ff8 := fldF hb8; have Hown8 := hid hown8; have Hg8 := hid hg8; have Hwh8 := hid hwh8; have hsn8 := hg8.size; clear hown8 hg8 hb8 hwh8))
        all_goals
          go_wp2_with fail
          go_ret
          have hgs : Gr [P] w8 (w8.setCell ⟨P, 0, none⟩ (.slice (some ⟨g8, 0, none⟩) (zs.length + 1) c8)) := Gr.cell1 _ _ _ _ (by simp)
          have hsn8' : wn.heap.size + 1 ≤ w8.heap.size := by simpa using hsn8
          have hH : ∀ b, (Value.slice lt zn ct).ownBlock = some b → (Value.slice lo ps.length lc).ownBlock = some b ∨ W.heap.size ≤ b := Hot.out
          have hgW : Gr (P :: (Value.slice lo ps.length lc).ownBlock.toList) W (w8.setCell ⟨P, 0, none⟩ (.slice (some ⟨g8, 0, none⟩) (zs.length + 1) c8)) := by
            refine (((HWt.out.trans (Gr.any (HG.out.trans HGn.out))).step Hg8.out (fun i hi => ?_)).step hgs (fun i hi => .inl (by simp at hi; subst hi; simp)))
            rcases hH i (by simpa using hi) with h | h
            · exact .inl (by simp [h])
            · exact .inr h
          refine ⟨by rw [Hpf.out]; rfl, _, cells_set Hb8.out 0 _, hgW, fun b hb => ?_, fun a ha => ?_⟩
          · simp [Value.ownBlock] at hb
            subst hb
            rcases Hwh8.out with h | h
            · exact hH _ h
            · exact .inr (by simp at h; have := HWt.out.size; omega)
          · rw [Hpf.out] at ha
            cases ha
            refine ⟨qs ++ [(nb, negsL p)], by simp, ?_, ?_⟩
            · rw [← List.append_assoc, ← Hzs.out]
              exact Hown8.out.gr elKB_ok hgs (fun b hb => .inr (by simpa using hb))
            · rw [← List.append_assoc, ← Hzs.out]
              refine Hat.out.snoc (by omega) (by simp; omega) (fun h => ?_)
              have := Hn2.out h
              simp
              omega
end Go.Proofs.YtlekngkcifgonaaGreat
