/-
  Walk of the program's Decide.
-/
import Derived.Test.YtihkeihnpiddoaaGreatDSx
set_option linter.unusedVariables false
set_option linter.unusedSimpArgs false
namespace Go.Proofs.YtihkeihnpiddoaaGreat
open Go.RowKit

def decS (s : Sto) (l : Lit) (C : List Nat) : Sto := ⟨s.mod, s.lv ++ [ints (fix s.mod.cons (andAt C l.var.toNat (litD l)))]⟩
def decB (s : Sto) (l : Lit) : Bool := validS s && (litOk s.mod.doms.length l && !decide (s.lv.length = 12))
def decR (s : Sto) (l : Lit) (C : List Nat) : Sto := if validS s then (if decB s l then decS s l C else s) else zeroSto
structure Cur (s : Sto) (C : List Nat) : Prop where
  row : s.lv[s.lv.length - 1]? = some (ints C)
  len : C.length = s.mod.doms.length
  below : Below64 C
  cons : VCs s.mod.cons C.length
  small : 1 ≤ C.length ∧ C.length ≤ 4
  many : 1 ≤ s.lv.length ∧ s.lv.length ≤ 12
  rows : ∀ r ∈ s.lv, 1 ≤ r.length ∧ r.length ≤ 4
theorem RowsM.clip {M : Nat → Prop} {w : World} {ao : Option Addr} {n cap : Nat} {rows : List (List Int)} (h : RowsM M w (.slice ao n cap) rows) : RowsM M w (.slice ao n n) rows := by
  obtain ⟨ao', cap', e, ⟨h1, h2, h3⟩, hc⟩ := h
  cases e
  exact ⟨ao, _, rfl, ⟨Nat.le_refl _, by omega, fun h => by have := h3 h; omega⟩, hc⟩
theorem lits_new (w : World) (l : Lit) (S : List Nat) (hS : ∀ b ∈ S, b < w.heap.size) : LitsV S (w.alloc (.cells #[.int .i64 l.var, .int .i64 l.val, .bool l.neg] 31)) (.slice (some ⟨w.heap.size, 0, none⟩) 1 1) [l] := by
  have h := fld (heap_alloc_new w (.cells #[.int .i64 l.var, .int .i64 l.val, .bool l.neg] 31))
  refine ⟨_, _, rfl, by simp, fun i x hi => ?_⟩
  have hi0 : i = 0 := by have := (List.getElem?_eq_some_iff.1 hi).1; simp at this; omega
  subst hi0
  simp at hi; subst hi
  exact ⟨_, _, rfl, fun hm => by have := hS _ hm; omega, by simp [h], h 1, h 2⟩

/-- An append, and where the new list lies. -/
theorem wp_appGX {α : Type} {P : Program} {w : World} {ops : Array Oper} {rest : List Oper} {o : Oper} {a : Act} {Q : Exit → Act → World → Prop} (hgd : o.guard = none) (s x : Operand) (t : TypeId)
    (ho : o.op = .call { callee := .builtin .append, args := #[s, x], argTypes := #[t, t] }) (size : Nat) (el : List Nat → World → List Value → α → Prop) (ok : ElOk el) (B : Nat) (e : TypeId) (z : Value) (bytes : Nat)
    (hinfo : (P.info? e).map (fun i => (i.zero, i.size, i.bytes)) = some (some z, size, bytes)) (hzs : z.cells.size = size) (hsz : 0 < size) (hby : bytes ≤ 100)
    (ht : P.underlying t = some (.slice e)) (v : Value) (xs : List α) (hs : a.eval s = v) (X : Nat → Prop) (hX : ∀ b, X b → b < w.heap.size) (hown : OwnGX X size el B w e v xs) (g c : Nat) (y : α) (cs : List Value) (hx : a.eval x = .slice (some ⟨g, 0, none⟩) 1 c)
    (hl : cs.length = size) (h1 : ∀ u ∈ cs, u.oneCell' = true) (hn : ∀ j u, cs[j]? = some u → w.cell? ⟨g, j, none⟩ = some u) (hel : ∀ S : List Nat, (∀ b ∈ S, X b ∨ w.heap.size ≤ b ∨ v.ownBlock = some b) → el S w cs y)
    (hlen : xs.length ≤ 10000000) (hB : B ≤ w.heap.size)
    (h : ∀ g' c' w', OwnGX X size el B w' e (.slice (some ⟨g', 0, none⟩) (xs.length + 1) c') (xs ++ [y]) → Gr v.ownBlock.toList w w' → (v.ownBlock = some g' ∨ w.heap.size ≤ g') → g' < w'.heap.size → wpList P ops Q rest (a.put o.dst (.slice (some ⟨g', 0, none⟩) (xs.length + 1) c')) w') : wpList P ops Q (o :: rest) a w := by
  obtain ⟨css, k1, k2, k3, k5, k4⟩ := hown
  obtain ⟨i0, hi, hz0, hz1, hz2⟩ := info_parts hinfo
  have hbb : (xs.length + 1) * bytes ≤ (xs.length + 1) * 100 := Nat.mul_le_mul_left _ hby
  refine wpList_append_lies w hgd s x t ho B e i0 z size bytes ht hi hz0 hz1 hz2 hzs hsz v xs.length css.flatten hs k3 ⟨g, 0, none⟩ 1 c cs hx (by rw [hl]; simp) ?_ h1 (by omega) (by simp only [maxLen]; omega) (by omega) hB w.heap.size rfl ?_
  · intro j u hj
    have : (⟨g, 0, none⟩ : Addr).add j = ⟨g, j, none⟩ := by unfold Addr.add; split <;> simp_all
    rw [this]; exact hn j u hj
  · intro g' cap' w' hown' hgrow hwhere hlt
    have hgr : Gr v.ownBlock.toList w w' := ⟨hgrow.os, hgrow.tape, hgrow.output, hgrow.size, fun k hk hs => hgrow.block k hk (fun e => hs (by rw [← e]; simp))⟩
    refine h _ _ _ ⟨css ++ [cs], by simp [k1], ?_, ?_, ?_, ?_⟩ hgr (hwhere.imp id (fun e => by omega)) hlt
    · intro c hc
      rcases List.mem_append.1 hc with hc | hc
      · exact k2 c hc
      · simp at hc; subst hc; exact ⟨hl, h1⟩
    · rw [List.flatten_append]; simpa using hown'
    · intro b hb hXb
      simp [Value.ownBlock] at hb; subst hb
      rcases hwhere with h | h
      · exact k5 _ h hXb
      · have := hX _ hXb; omega
    · have hcond : ∀ S : List Nat, (∀ b ∈ S, X b ∨ w'.heap.size ≤ b ∨ (Value.slice (some ⟨g', 0, none⟩) (xs.length + 1) cap').ownBlock = some b) → ∀ b ∈ v.ownBlock.toList ++ S, X b ∨ w.heap.size ≤ b ∨ v.ownBlock = some b := by
        intro S hS b hb
        rcases List.mem_append.1 hb with hb | hb
        · exact .inr (.inr (by simpa using hb))
        · rcases hS b hb with h | h | h
          · exact .inl h
          · exact .inr (.inl (Nat.le_trans hgr.size h))
          · simp [Value.ownBlock] at h
            subst h
            rcases hwhere with h | h
            · exact .inr (.inr h)
            · exact .inr (.inl (by omega))
      intro i c' x' hc hx' S hS
      have fin : ∀ c'' x'', el (v.ownBlock.toList ++ S) w c'' x'' → el S w' c'' x'' := fun c'' x'' h0 =>
        ok.sub (ok.gr h0 (hgr.sub (fun k _ hk => by simp at hk ⊢; exact .inl hk))) (fun b _ hb => by simp [hb])
      by_cases hlt : i < xs.length
      · rw [List.getElem?_append_left (by omega)] at hc
        rw [List.getElem?_append_left hlt] at hx'
        exact fin _ _ (k4 i c' x' hc hx' _ (hcond S hS))
      · have hi' : i = xs.length := by
          have := (List.getElem?_eq_some_iff.1 hx').1
          simp at this; omega
        subst hi'
        rw [List.getElem?_append_right (by omega), k1, Nat.sub_self] at hc
        rw [List.getElem?_append_right (by omega), Nat.sub_self] at hx'
        simp at hc hx'
        subst hc hx'
        exact fin _ _ (hel _ (hcond S hS))

end Go.Proofs.YtihkeihnpiddoaaGreat

set_option linter.unusedVariables false
namespace Go.Proofs.YtihkeihnpiddoaaGreat
open Go.RowKit
set_option maxRecDepth 100000 in
theorem ClipSS_c (ao : Option Addr) (n cap : Nat) (w : World) (h1 : n ≤ cap) (h2 : cap ≤ 9223372036854775807) :
    Calls Tryz.prog 42 #[.slice ao n cap] w fun e w' => e = .returned (.slice ao n n) ∧ w' = w := by
  go_enter Tryz.func42, Tryz.ntmps42
  go_wp2_with fail
  go_ret
  exact ⟨rfl, rfl⟩


set_option maxRecDepth 100000 in
set_option maxHeartbeats 8000000 in
theorem Decide_c (s : Sto) (l : Lit) (C : List Nat) (sv : Value) (w : World) (hv : StoV [] w sv s) (hs : s.mod.Small) (hC : validS s = true → Cur s C) :
    Calls Tryz.prog 8 #[sv, .agg #[.int .i64 l.var, .int .i64 l.val, .bool l.neg]] w fun e w' => ∃ v', e = .returned (.tuple #[v', .bool (decB s l)]) ∧ StoV [] w' v' (decR s l C) ∧ Gr [] w w' := by
  obtain ⟨xo, xc, co, cc, lo, lc, rfl, hm0, -⟩ := hv.open
  have HM0 := hid hm0
  have h20 := heap2 w (.cells #[.slice xo s.mod.doms.length xc, .slice co s.mod.cons.length cc, .slice lo s.lv.length lc] 29) (.cells #[.int .i64 l.var, .int .i64 l.val, .bool l.neg] 31)
  have hg2 : Gr [] w ((w.alloc (.cells #[.slice xo s.mod.doms.length xc, .slice co s.mod.cons.length cc, .slice lo s.lv.length lc] 29)).alloc (.cells #[.int .i64 l.var, .int .i64 l.val, .bool l.neg] 31)) := ((Gr.refl [] w).alloc _).alloc _
  have hs2 : ((w.alloc (.cells #[.slice xo s.mod.doms.length xc, .slice co s.mod.cons.length cc, .slice lo s.lv.length lc] 29)).alloc (.cells #[.int .i64 l.var, .int .i64 l.val, .bool l.neg] 31)).heap.size = w.heap.size + 2 := by simp
  have h3 := heap_alloc_new ((w.alloc (.cells #[.slice xo s.mod.doms.length xc, .slice co s.mod.cons.length cc, .slice lo s.lv.length lc] 29)).alloc (.cells #[.int .i64 l.var, .int .i64 l.val, .bool l.neg] 31)) (.cells #[.slice none 0 0, .slice none 0 0, .slice none 0 0] 29)
  rw [hs2] at h3
  have ha3 := (Gr.refl [] ((w.alloc (.cells #[.slice xo s.mod.doms.length xc, .slice co s.mod.cons.length cc, .slice lo s.lv.length lc] 29)).alloc (.cells #[.int .i64 l.var, .int .i64 l.val, .bool l.neg] 31))).alloc (.cells #[.slice none 0 0, .slice none 0 0, .slice none 0 0] 29)
  have HA := hid (ha3.obj h20.1 (by simp)); have HB := hid (ha3.obj h20.2 (by simp)); have HZ := hid h3; have HG0 := hid (hg2.trans ha3); have HV := hid (hv.gr (hg2.trans ha3)); have HC := hid hC; have Hs := hid hs
  have fa := fld HA.out
  clear hv h20 hg2 hs2 h3 ha3 hC hs
  go_enter Tryz.func8, Tryz.ntmps8
  go_wp2_with fail
  generalize hW0 : ((w.alloc (.cells #[.slice xo s.mod.doms.length xc, .slice co s.mod.cons.length cc, .slice lo s.lv.length lc] 29)).alloc (.cells #[.int .i64 l.var, .int .i64 l.val, .bool l.neg] 31)).alloc (.cells #[.slice none 0 0, .slice none 0 0, .slice none 0 0] 29) = w0 at *
  clear hW0
  have hcall := ValidStore_c s _ _ HV.out
  (with_reducible refine hcall.mono ?_)
  clear hcall
  rintro e w1 ⟨rfl, hg1⟩
  have HA1 := hid (hg1.obj HA.out (by simp)); have HB1 := hid (hg1.obj HB.out (by simp)); have HZ1 := hid (hg1.obj HZ.out (by simp)); have HG1 := hid (HG0.out.trans hg1); have HV1 := hid (HV.out.gr hg1)
  have fz1 := fld HZ1.out; have ffz1 := fldF HZ1.out; have fa1 := fld HA1.out
  clear hg1 fa HA HB HZ HG0 HV
  cases hb : validS s
  · go_wp2_with fail
    obtain ⟨h5, hG5⟩ := set3 (.slice none 0 0) (.slice none 0 0) (.slice none 0 0) HZ1.out
    have flE := fld h5
    refine bodyPost_ret (v := .tuple #[.agg #[.slice none 0 0, .slice none 0 0, .slice none 0 0], .bool false]) (by simp [results, Tryz.results8, go_sem, flE]) rfl ⟨.agg #[.slice none 0 0, .slice none 0 0, .slice none 0 0], by simp [decB, hb], by unfold decR; rw [hb]; exact StoV.zero _ _, HG1.out.step hG5 (fun i hi => .inr (by simp at hi; omega))⟩
  have hcur := HC.out hb
  have hmany := hcur.many; have hsm := hcur.small; have hlen := hcur.len
  have HCur := hid hcur; have Hb := hid hb
  clear hcur hb HC
  go_wp2_with fail
  have hcall := stoCopied_c s _ _ HV1.out Hs.out (by omega) (fun r hr => by have := HCur.out.rows r hr; omega)
  (with_reducible refine hcall.mono ?_)
  clear hcall
  rintro e w2 ⟨yo, yc, zo, zc, po, pc, M, rfl, hM, hMr, hown, hg2⟩
  have ha3 : Gr [] w2 (w2.alloc (.cells #[.slice yo s.mod.doms.length yc, .slice zo s.mod.cons.length zc, .slice po s.lv.length pc] 29)) := (Gr.refl _ _).alloc _
  have hx3 := sto3 w2 (.slice yo s.mod.doms.length yc) (.slice zo s.mod.cons.length zc) (.slice po s.lv.length pc)
  have hlt12 := hg2.size
  have hlz := lt_of_block HZ1.out
  have HA3 := hid (ha3.obj (hg2.obj HA1.out (by simp)) (by simp)); have HB3 := hid (ha3.obj (hg2.obj HB1.out (by simp)) (by simp)); have HZ3 := hid (ha3.obj (hg2.obj HZ1.out (by simp)) (by simp)); have HX3 := hid hx3
  have HG3 := hid (HG1.out.trans (hg2.trans ha3)); have HV3 := hid (HV1.out.gr (hg2.trans ha3))
  have HM3 := hid (hM.gr' (M' := M) ha3 (by simp) (fun _ _ h => h)); have HMr := hid hMr; have HO3 := hid (hown.gr elRowM_ok ha3 (by simp))
  have hs3 : (w2.alloc (.cells #[.slice yo s.mod.doms.length yc, .slice zo s.mod.cons.length zc, .slice po s.lv.length pc] 29)).heap.size = w2.heap.size + 1 := by simp
  have fa3 := fld HA3.out; have fb3 := fld HB3.out
  have fa4 := fld (((Gr.refl [] (w2.alloc (.cells #[.slice yo s.mod.doms.length yc, .slice zo s.mod.cons.length zc, .slice po s.lv.length pc] 29))).alloc (.cells #[.int .i64 l.var, .int .i64 l.val, .bool l.neg] 31)).obj HA3.out (by simp))
  have HPO : Hid (∀ b, (Value.slice po s.lv.length pc).ownBlock = some b → w1.heap.size ≤ b ∧ b < w2.heap.size) := hid fun b h => hown.own h
  have HOX3 : Hid (OwnGX (fun b => b < w1.heap.size ∨ b = w2.heap.size) 1 elRowM w1.heap.size (w2.alloc (.cells #[.slice yo s.mod.doms.length yc, .slice zo s.mod.cons.length zc, .slice po s.lv.length pc] 29)) 23 (.slice po s.lv.length pc) s.lv) := hid ((OwnGX.ofG hown (fun b h => by rcases h with h | h; (exact .inl h); (exact .inr (by omega)))).gr elRowM_ok ha3 (by simp))
  clear hM hMr hown hg2 ha3 hx3 fz1 ffz1 fa1
  have HL4 : Hid (LitsV [] ((w2.alloc (.cells #[.slice yo s.mod.doms.length yc, .slice zo s.mod.cons.length zc, .slice po s.lv.length pc] 29)).alloc (.cells #[.int .i64 l.var, .int .i64 l.val, .bool l.neg] 31)) (.slice (some ⟨w2.heap.size + 1, 0, none⟩) 1 1) [l]) := hid (by
    have := lits_new (w2.alloc (.cells #[.slice yo s.mod.doms.length yc, .slice zo s.mod.cons.length zc, .slice po s.lv.length pc] 29)) l [] (by simp)
    rwa [hs3] at this)
  clear hm0
  go_wp2_with fail
  generalize hW3 : w2.alloc (.cells #[.slice yo s.mod.doms.length yc, .slice zo s.mod.cons.length zc, .slice po s.lv.length pc] 29) = w3 at *
  clear hW3
  have ha4 : Gr [] w3 (w3.alloc (.cells #[.int .i64 l.var, .int .i64 l.val, .bool l.neg] 31)) := (Gr.refl _ _).alloc _
  have Ha4 := hid ha4
  clear ha4
  generalize hW4 : w3.alloc (.cells #[.int .i64 l.var, .int .i64 l.val, .bool l.neg] 31) = w4 at *
  clear hW4
  have hcall := ValidClause1_c l s.mod.doms.length _ _ HL4.out (by omega)
  (with_reducible refine hcall.mono ?_)
  clear hcall
  rintro e w5 ⟨rfl, hg5⟩
  have HG35 := hid (Ha4.out.trans hg5)
  have HA5 := hid (HG35.out.obj HA3.out (by simp)); have HB5 := hid (HG35.out.obj HB3.out (by simp)); have HZ5 := hid (HG35.out.obj HZ3.out (by simp)); have HX5 := hid (HG35.out.obj HX3.out (by simp))
  have HG5 := hid (HG3.out.trans HG35.out); have HV5 := hid (HV3.out.gr HG35.out)
  have HM5 := hid (HM3.out.gr' (M' := M) HG35.out (by simp) (fun _ _ h => h)); have HO5 := hid (HO3.out.gr elRowM_ok HG35.out (by simp)); have HOX5 := hid (HOX3.out.gr elRowM_ok HG35.out (by simp))
  have fa5 := fld HA5.out; have fx5 := fld HX5.out; have fz5 := fld HZ5.out; have ffz5 := fldF HZ5.out
  have hs5 := HG35.out.size
  clear hg5 fa3 fb3 fa4 Ha4 HA3 HB3 HZ3 HX3 HG3 HV3 HM3 HO3 HL4 HOX3
  have Hcopy : Hid (∀ W, Gr [] w5 W → StoV [] (((W.setCell ⟨w.heap.size + 2, 0, none⟩ (.slice yo s.mod.doms.length yc)).setCell ⟨w.heap.size + 2, 1, none⟩ (.slice zo s.mod.cons.length zc)).setCell ⟨w.heap.size + 2, 2, none⟩ (.slice po s.lv.length pc)) (.agg #[.slice yo s.mod.doms.length yc, .slice zo s.mod.cons.length zc, .slice po s.lv.length pc]) s) := hid fun W h => by
    have hZ := h.obj HZ5.out (by simp)
    have hG := (set3 (.slice yo s.mod.doms.length yc) (.slice zo s.mod.cons.length zc) (.slice po s.lv.length pc) hZ).2
    have hm := (HM5.out.gr' (M' := M) h (by simp) (fun _ _ h => h)).gr' (M' := M) hG (fun b hb hm => by have := (HMr.out b hm).1.1; simp at hb; omega) (fun _ _ h => h)
    have ho := (HO5.out.gr elRowM_ok h (by simp)).gr elRowM_ok hG (by simp; omega)
    exact StoV.mk (hm.mod (by simp)) (ho.rowsM.rows (by simp))
  cases h1 : litOk (s.mod.doms.length : Int) l
  · have hdb : decB s l = false := by simp [decB, h1]
    go_wp2_with fail
    obtain ⟨h5, hG5⟩ := set3 (.slice yo s.mod.doms.length yc) (.slice zo s.mod.cons.length zc) (.slice po s.lv.length pc) HZ5.out
    have flE := fld h5
    refine bodyPost_ret (v := .tuple #[.agg #[.slice yo s.mod.doms.length yc, .slice zo s.mod.cons.length zc, .slice po s.lv.length pc], .bool false]) (by simp [results, Tryz.results8, go_sem, flE]) rfl ⟨.agg #[.slice yo s.mod.doms.length yc, .slice zo s.mod.cons.length zc, .slice po s.lv.length pc], by rw [hdb], by unfold decR; rw [Hb.out, if_pos rfl, hdb]; exact Hcopy.out w5 (Gr.refl _ _), HG5.out.step hG5 (fun i hi => .inr (by simp at hi; omega))⟩
  cases h2 : ((s.lv.length : Int) == 12)
  rotate_left
  · have hdb : decB s l = false := by
      have : s.lv.length = 12 := by have := of_decide_eq_true (p := ((s.lv.length : Int) = 12)) (by simpa using h2); omega
      simp [decB, this]
    go_wp2_with fail
    obtain ⟨h5, hG5⟩ := set3 (.slice yo s.mod.doms.length yc) (.slice zo s.mod.cons.length zc) (.slice po s.lv.length pc) HZ5.out
    have flE := fld h5
    refine bodyPost_ret (v := .tuple #[.agg #[.slice yo s.mod.doms.length yc, .slice zo s.mod.cons.length zc, .slice po s.lv.length pc], .bool false]) (by simp [results, Tryz.results8, go_sem, flE]) rfl ⟨.agg #[.slice yo s.mod.doms.length yc, .slice zo s.mod.cons.length zc, .slice po s.lv.length pc], by rw [hdb], by unfold decR; rw [Hb.out, if_pos rfl, hdb]; exact Hcopy.out w5 (Gr.refl _ _), HG5.out.step hG5 (fun i hi => .inr (by simp at hi; omega))⟩
  have hdb : decB s l = true := by
    have : ¬ s.lv.length = 12 := by intro h; rw [h] at h2; simp at h2
    simp [decB, Hb.out, h1, this]
  have Hdb := hid hdb
  have HOK : Hid (∀ x ∈ [l], litOk (C.length : Int) x = true) := hid (by rw [hlen]; intro x hx; simp at hx; subst hx; exact h1)
  clear hdb
  go_wp2_with fail
  have HSW : Hid (∀ W, Gr [] w5 W → ((W.cell? ⟨w.heap.size, 0, none⟩ = some (.slice xo s.mod.doms.length xc) ∧ W.cell? ⟨w.heap.size, 1, none⟩ = some (.slice co s.mod.cons.length cc) ∧ W.cell? ⟨w.heap.size, 2, none⟩ = some (.slice lo s.lv.length lc)) ∧ (W.cell? ⟨w.heap.size + 1, 0, none⟩ = some (.int .i64 l.var) ∧ W.cell? ⟨w.heap.size + 1, 1, none⟩ = some (.int .i64 l.val) ∧ W.cell? ⟨w.heap.size + 1, 2, none⟩ = some (.bool l.neg))) ∧ Gr [] w5 W) :=
    hid fun W h => ⟨⟨⟨fld (h.obj HA5.out (by simp)) 0, fld (h.obj HA5.out (by simp)) 1, fld (h.obj HA5.out (by simp)) 2⟩, fld (h.obj HB5.out (by simp)) 0, fld (h.obj HB5.out (by simp)) 1, fld (h.obj HB5.out (by simp)) 2⟩, h⟩
  clear fa5 fx5 fz5 ffz5
  go_region_held_law (fun W => ((W.cell? ⟨w.heap.size, 0, none⟩ = some (.slice xo s.mod.doms.length xc) ∧ W.cell? ⟨w.heap.size, 1, none⟩ = some (.slice co s.mod.cons.length cc) ∧ W.cell? ⟨w.heap.size, 2, none⟩ = some (.slice lo s.lv.length lc)) ∧ (W.cell? ⟨w.heap.size + 1, 0, none⟩ = some (.int .i64 l.var) ∧ W.cell? ⟨w.heap.size + 1, 1, none⟩ = some (.int .i64 l.val) ∧ W.cell? ⟨w.heap.size + 1, 2, none⟩ = some (.bool l.neg))) ∧ Gr [] w5 W)
    ((refine HSW.out _ ?_; first | exact (Gr.refl [] w5).drew | exact ((Gr.refl [] w5).drew).alloc _ | exact HGa.out | exact HGa.out.alloc _ | exact HGb.out | exact HGc.out | assumption))
    (first
    | (go_simp; go_at_call 41; refine (current_c s (ints C) _ _ (HV5.out.gr (by first | exact (Gr.refl [] w5).drew | exact ((Gr.refl [] w5).drew).alloc _)) (by omega) HCur.out.row).mono ?_; rintro e wa ⟨va, rfl, hna, hga⟩; have hgx : Gr [] w5 wa := Gr.trans (by first | exact (Gr.refl [] w5).drew | exact ((Gr.refl [] w5).drew).alloc _) hga; have HGa := hid hgx; have Hga := hid hga; have HNa := hid hna; clear hna hga hgx; (try dsimp only))
    | (go_simp; go_at_call 40; refine (restricted_c C [l] _ _ _ (by first | exact HNa.out.gr ((Gr.refl [] wa).alloc _) | exact HNa.out) (by first | exact lits_new wa l [] (by simp) | exact (lits_new w5.drew l [] (by simp)).gr Hga.out) HOK.out HCur.out.small HCur.out.below (by simp)).mono ?_; rintro e wb ⟨vb, rfl, hob, hgb⟩; have hgx : Gr [] w5 wb := Gr.trans (by first | exact HGa.out.alloc _ | exact HGa.out) hgb; have HGb := hid hgx; have HOb := hid hob; clear hob hgb hgx; (try dsimp only))
    | (go_simp; go_at_call 39; refine (propagate_c s.mod (restL C [l]) _ _ _ (HM0.out.gr (HG5.out.trans HGb.out)) (HOb.out.nums' (S := []) (by simp)) (by rw [restL_len]; exact HCur.out.cons) (restL_below _ HCur.out.below) (by rw [restL_len]; exact HCur.out.small.2)).mono ?_; rintro e wc ⟨vc, rfl, hoc, hgc⟩; obtain ⟨vco, vcc, rfl⟩ := hoc.form; have hgx : Gr [] w5 wc := HGb.out.trans hgc; have HGc := hid hgx; have HOc := hid (OwnC.numsM hoc); clear hoc hgc hgx; (try dsimp only)))
  all_goals
    have fxc := fld (HGc.out.obj HX5.out (by simp))
    have fxd := fld ((HGc.out.alloc (.cells #[.slice vco (ints (fix s.mod.cons (restL C [l]))).length vcc] 23)).obj HX5.out (by simp))
    have hsc := HGc.out.size
    have hsb := HGb.out.size
    go_wp2_with (at_builtin; go_loud (refine wp_appGX rfl _ _ 27 rfl 1 elRowM elRowM_ok w1.heap.size 23 (.slice none 0 0) 24 infoR rfl (by omega) (by omega) Tryz.underlying27 (.slice po s.lv.length pc) s.lv rfl (fun b => b < w1.heap.size ∨ b = w2.heap.size) (fun b hb => by simp; omega) ((HOX5.out.gr elRowM_ok HGc.out (by simp)).gr elRowM_ok ((Gr.refl [] wc).alloc _) (by simp)) wc.heap.size 1 (ints (fix s.mod.cons (restL C [l]))) [.slice vco (ints (fix s.mod.cons (restL C [l]))).length vcc] rfl rfl (by simp [Value.oneCell']) (fun j q hj => by match j, hj with | 0, hj => (simp at hj; subst hj; exact cell_one _ _ _) | j + 1, hj => simp at hj) (fun S hS => ⟨_, rfl, HOc.out.gr' ((Gr.refl [] wc).alloc _) (by simp) (fun b hlt hb hm => by rcases hS b hm with h | h | h; (have := hb.1; omega); (simp at h; omega); (have := (HPO.out b h).2; have := hb.1; omega))⟩) (by omega) (by simp; omega) ?_; intro g7 c7 w7 hown7 hg7 hwh7 hlt7; have HO7 := hid hown7; have HG7 := hid hg7; clear hown7 hg7))
    obtain ⟨hq1, hq2⟩ : s.lv.length + 1 ≤ c7 ∧ c7 ≤ 9223372036854775807 := by
      obtain ⟨a, c, e, h1, h2⟩ := HO7.out.slice
      simp at e h1
      omega
    have hX7 := HG7.out.obj ((HGc.out.alloc (.cells #[.slice vco (ints (fix s.mod.cons (restL C [l]))).length vcc] 23)).obj HX5.out (by simp)) (fun hm => by have := (HPO.out _ (by simpa using hm)).2; omega)
    have hZ7 := HG7.out.obj ((HGc.out.alloc (.cells #[.slice vco (ints (fix s.mod.cons (restL C [l]))).length vcc] 23)).obj HZ5.out (by simp)) (fun hm => by have := (HPO.out _ (by simpa using hm)).1; omega)
    have hX8 := block_cells (cur' := #[]) hX7 2 (.slice (some ⟨g7, 0, none⟩) (s.lv.length + 1) (s.lv.length + 1))
    have hg8 : Gr [w2.heap.size] w7 (w7.setCell ⟨w2.heap.size, 2, none⟩ (.slice (some ⟨g7, 0, none⟩) (s.lv.length + 1) (s.lv.length + 1))) := (Gr.refl _ _).setCell _ _ (.inl (by simp))
    have hZ8 := hg8.obj hZ7 (by simp; omega)
    have HZ8 := hid hZ8; have Hg8 := hid hg8
    have fx7 := fld hX7; have ffx7 := fldF hX7
    have fx8 := fld hX8; have fz8 := fld hZ8; have ffz8 := fldF hZ8
    clear hX7 hZ7 hX8 hg8 hZ8 fxc fxd
    go_wp2_with fail
    refine (ClipSS_c (some ⟨g7, 0, none⟩) (s.lv.length + 1) c7 _ hq1 hq2).mono ?_
    rintro e w8 ⟨rfl, rfl⟩
    go_wp2_with fail
    obtain ⟨h5, hG5⟩ := set3 (.slice yo s.mod.doms.length yc) (.slice zo s.mod.cons.length zc) (.slice (some ⟨g7, 0, none⟩) (s.lv.length + 1) (s.lv.length + 1)) HZ8.out
    have flE := fld h5
    refine bodyPost_ret (v := .tuple #[.agg #[.slice yo s.mod.doms.length yc, .slice zo s.mod.cons.length zc, .slice (some ⟨g7, 0, none⟩) (s.lv.length + 1) (s.lv.length + 1)], .bool true]) (by simp [results, Tryz.results8, go_sem, flE]) rfl ⟨.agg #[.slice yo s.mod.doms.length yc, .slice zo s.mod.cons.length zc, .slice (some ⟨g7, 0, none⟩) (s.lv.length + 1) (s.lv.length + 1)], by rw [Hdb.out], ?_, ?_⟩
    · unfold decR
      rw [Hb.out, if_pos rfl, Hdb.out, if_pos rfl]
      have hm := ((((HM5.out.gr' (M' := M) HGc.out (by simp) (fun _ _ h => h)).gr' (M' := M) ((Gr.refl [] wc).alloc _) (by simp) (fun _ _ h => h)).gr' (M' := M) HG7.out (fun b hb hm => (HMr.out b hm).2 (by simpa using hb)) (fun _ _ h => h)).gr' (M' := M) Hg8.out (fun b hb hm => by have := (HMr.out b hm).1.2; simp at hb; omega) (fun _ _ h => h)).gr' (M' := M) hG5 (fun b hb hm => by have := (HMr.out b hm).1.1; simp at hb; omega) (fun _ _ h => h)
      have ho := ((HO7.out.gr elRowM_ok Hg8.out (by simp)).gr elRowM_ok hG5 (by simp; omega)).g (fun b h => .inl h)
      have hr := ho.rowsM.clip
      exact StoV.mk (hm.mod (by simp)) (by have := hr.rows (S := []) (by simp); exact this)
    · exact ((((HG5.out.trans HGc.out).alloc _).step HG7.out (fun i hi => .inr (by have := (HPO.out i (by simpa using hi)).1; omega))).step Hg8.out (fun i hi => .inr (by simp at hi; omega))).step hG5 (fun i hi => .inr (by simp at hi; omega))

end Go.Proofs.YtihkeihnpiddoaaGreat
