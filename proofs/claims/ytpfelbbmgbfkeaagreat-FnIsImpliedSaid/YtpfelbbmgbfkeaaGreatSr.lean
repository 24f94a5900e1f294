/-
  Walks: sorted lists of literals, the negations of literals.
-/
import Derived.Test.YtpfelbbmgbfkeaaGreatCm
import Derived.Test.YtpfelbbmgbfkeaaGreatLo
import Derived.Test.YtpfelbbmgbfkeaaGreatLy
set_option linter.unusedVariables false
set_option linter.unusedSimpArgs false
namespace Go.Proofs.YtpfelbbmgbfkeaaGreat
open Go.RowKit

theorem infoL : (Tryz.prog.info? 31).map (fun i => (i.zero, i.size, i.bytes)) = some (some (.agg #[.int .i64 0, .int .i64 0, .bool false]), 3, 24) := by kernel_rfl
theorem eqLit (a b : Lit) (w : World) : (binOp .eql 31 (.agg #[.int .i64 a.var, .int .i64 a.val, .bool a.neg]) (.agg #[.int .i64 b.var, .int .i64 b.val, .bool b.neg])).run Tryz.prog w = .ok (.bool (decide (a = b))) w := by
  have u3 := Tryz.underlying3
  have u4 := Tryz.underlying4
  have a3 := Tryz.isAgg3
  have z3 := Tryz.sizeOf3
  have a4 := Tryz.isAgg4
  have z4 := Tryz.sizeOf4
  have hS : Tryz.prog.underlying 31 = some (.struct (Tryz.prog.fieldsOf 31)) := by kernel_rfl
  have hp : Tryz.prog.stoodInHeld 31 = false := by kernel_rfl
  rw [run_eql_struct, show (10000 : Nat) = 9999 + 1 from rfl, run_equalIn_agg w 9999 31 _ _ hS hp]
  simp only [Program.fieldsOf, Tryz.underlying31]
  go_simp
  obtain ⟨a0, a1, a2⟩ := a
  obtain ⟨b0, b1, b2⟩ := b
  by_cases h1 : a0 = b0 <;> by_cases h2 : a1 = b1 <;> by_cases h3 : a2 = b2 <;> simp [h1, h2, h3]

theorem run_eql_slice_nilL {P : Program} (w : World) (t e : TypeId) (a : Option Addr) (l c : Nat) (h : P.underlying t = some (.slice e)) : (binOp .eql t (.slice a l c) (.slice none 0 0)).run P w = .ok (.bool a.isNone) w := by
  simp only [binOp]
  simp [run_equal_slice_nil w t e a l c h]
section
attribute [local go_sem] run_eql_slice_nilL
set_option maxRecDepth 100000 in
theorem cloneLit_c (v : Value) (ls : Cls) (w : World) (hx : LitsV [] w v ls) (hl : ls.length ≤ 100000) :
    Calls Tryz.prog 192 #[v] w fun e w' => ∃ v', e = .returned v' ∧ OwnL w.heap.size w' 31 v' ls ∧ Gr [] w w' := by
  have hund := Tryz.underlying56
  have Hx := hid hx
  obtain ⟨ao, cap, rfl, ⟨h1, h2, h3⟩, _⟩ := hx
  cases ao with
  | none =>
    have hcap := h3 rfl
    have hxs : ls = [] := List.eq_nil_of_length_eq_zero (by omega)
    clear Hx
    subst hcap hxs
    clear h1 h2 h3
    go_enter Tryz.func192, Tryz.ntmps192
    go_wp2_with fail
    go_ret
    exact ⟨_, rfl, OwnL.nil _ _ _, Gr.refl _ _⟩
  | some ad =>
    have Hy : Hid (LitsV [] (w.alloc (.cells #[] 31)) (.slice (some ad) ls.length cap) ls) := hid (Hx.out.gr ((Gr.refl [] w).alloc _))
    clear h3 Hx
    go_enter Tryz.func192, Tryz.ntmps192
    go_wp2_with (at_builtin; refine wp_appL rfl _ _ 56 rfl w.heap.size 31 (.agg #[.int .i64 0, .int .i64 0, .bool false]) 24 infoL rfl (by omega) Tryz.underlying56 (.slice (some ⟨w.heap.size, 0, none⟩) 0 0) [] ls rfl (OwnL.empty w 31 (Nat.le_refl _)) (.slice (some ad) ls.length cap) [] rfl Hy.out (by simp; omega) (by simp) ?_; intro v' w' hown' hgr')
    go_ret
    exact ⟨_, rfl, by simpa using hown', ((Gr.refl [] w).alloc _).step hgr' (fun i hi => .inr (by simp [Value.ownBlock] at hi; omega))⟩
end
set_option maxRecDepth 100000 in
theorem compactLit_c (ls : Cls) (ao : Option Addr) (cap : Nat) (w : World) (hx : LitsV [] w (.slice ao ls.length cap) ls) (hl : ls.length ≤ 100000) (hs : ls.Pairwise fun a b => litLt a b = true) :
    Calls Tryz.prog 202 #[.slice ao ls.length cap] w fun e w' => e = .returned (.slice ao ls.length cap) ∧ Gr [] w w' := by
  obtain ⟨_, _, e1, ⟨h1, h2⟩⟩ := hx.slice
  cases e1
  have Hx := hid hx; have Hs := hid hs
  clear hx hs
  go_enter Tryz.func202, Tryz.ntmps202
  by_cases hlt : ls.length < 2
  · have hlt' : decide ((ls.length : Int) < 2) = true := by simp; omega
    go_wp2_with fail
    go_ret
    exact ⟨rfl, Gr.refl _ _⟩
  have hlt' : decide ((ls.length : Int) < 2) = false := by simp; omega
  go_wp2_with fail
  go_loopw [3] (fun i wr => ∃ m : Nat, m + 1 ≤ ls.length ∧ i = .int .i64 ((m : Int) + 1) ∧ Gr [] w wr) (fun i _ => ls.length - (intOf i).toNat)
  case atStart => exact ⟨0, by omega, rfl, Gr.refl _ _⟩
  case round =>
    obtain ⟨m, hn, rfl, hg⟩ := hrel
    by_cases hlt : m + 1 < ls.length
    · obtain ⟨x, hx⟩ := get_some hlt
      obtain ⟨y, hy⟩ := get_some (xs := ls) (k := m) (by omega)
      obtain ⟨b, o, rfl, _, c0, c1, c2⟩ := (Hx.out.gr hg).at hx
      obtain ⟨b', o', e2, _, d0, d1, d2⟩ := (Hx.out.gr hg).at hy
      cases e2
      have hne : decide (x = y) = false := by
        have := List.pairwise_iff_getElem.1 Hs.out m (m + 1) (by omega) (by omega) (by omega)
        rw [← Option.some.inj ((List.getElem?_eq_getElem (by omega)).symm.trans hx), ← Option.some.inj ((List.getElem?_eq_getElem (by omega)).symm.trans hy)]
        refine decide_eq_false fun e => ?_
        rw [e, litLt_irrefl] at this; cases this
      have hq := eqLit x y
      rw [hne] at hq
      have e0 : ∀ k : GrW [] wr, k.val.cell? ⟨b, o + (m + 1) * 3, none⟩ = some (.int .i64 x.var) := fun k => k.gr.cell c0 (by simp)
      have e1 : ∀ k : GrW [] wr, k.val.cell? ⟨b, o + (m + 1) * 3 + 1, none⟩ = some (.int .i64 x.val) := fun k => k.gr.cell c1 (by simp)
      have e2 : ∀ k : GrW [] wr, k.val.cell? ⟨b, o + (m + 1) * 3 + 2, none⟩ = some (.bool x.neg) := fun k => k.gr.cell c2 (by simp)
      have e0' : ∀ k : GrW [] wr, k.val.cell? ⟨b, o + m * 3, none⟩ = some (.int .i64 y.var) := fun k => k.gr.cell d0 (by simp)
      have e1' : ∀ k : GrW [] wr, k.val.cell? ⟨b, o + m * 3 + 1, none⟩ = some (.int .i64 y.val) := fun k => k.gr.cell d1 (by simp)
      have e2' : ∀ k : GrW [] wr, k.val.cell? ⟨b, o + m * 3 + 2, none⟩ = some (.bool y.neg) := fun k => k.gr.cell d2 (by simp)
      have hmm : m < 100000 := by omega
      have hwr : IntKind.i64.wrap (m : Int) = (m : Int) := by rw [IntKind.wrap_i64]; omega
      have hwr1 : IntKind.i64.wrap ((m : Int) + 1 - 1) = (m : Int) := by rw [IntKind.wrap_i64]; omega
      have htn : ((m : Int) + 1).toNat = m + 1 := by omega
      have Hg := hid hg
      clear hx hy hne hg c0 c1 c2 d0 d1 d2
      go_wp2_with fail
      refine wp_region_gr [] _ (by kernel_rfl) (by kernel_rfl) (Gr.refl _ _) ?_
      repeat (go_big_quiet_step (fail))
      refine wpQuiet_nil ?_
      rintro w6 ⟨n6, rfl⟩
      have hg6 := n6.gr
      clear e0 e1 e2 e0' e1' e2' hq
      go_wp2_with fail
      exact ⟨⟨m + 1, by omega, by go_num, Hg.out.trans hg6⟩, by simp [intOf]; omega⟩
    · have hnl : (m : Int) + 1 = ls.length := by omega
      have hnl2 : decide ((m : Int) + 1 < (ls.length : Int)) = false := by simp; omega
      have Hnl := hid hnl
      clear hnl
      go_wp2_with fail
      go_ret
      exact ⟨rfl, hg⟩

set_option maxRecDepth 100000 in
theorem clipLit_c (ao : Option Addr) (n cap : Nat) (w : World) (h1 : n ≤ cap) (h2 : cap ≤ 9223372036854775807) :
    Calls Tryz.prog 201 #[.slice ao n cap] w fun e w' => e = .returned (.slice ao n n) ∧ w' = w := by
  go_enter Tryz.func201, Tryz.ntmps201
  go_wp2_with fail
  go_ret
  exact ⟨rfl, rfl⟩
theorem LitsM.clip {M : Nat → Prop} {w : World} {ao : Option Addr} {n cap : Nat} {ls : Cls} (h : LitsM M w (.slice ao n cap) ls) : LitsM M w (.slice ao n n) ls := by
  obtain ⟨ao', cap', e, ⟨h1, h2, h3⟩, hc⟩ := h
  cases e
  exact ⟨ao, _, rfl, ⟨Nat.le_refl _, by omega, fun h => by have := h3 h; omega⟩, hc⟩
theorem cmpLays (blk off size : Nat) (w : World) : Go.Proofs.CmpLays Tryz.prog 94 #[] litC 3 cmpL blk off size w := fun m os dk _ x y => by
  refine (compare_c x y _).mono ?_
  rintro e w' ⟨rfl, hg, hd⟩
  exact ⟨rfl, grow_of_gr hg hd⟩
/-- The sort, on a list of the call's own without doubles. -/
theorem sortFunc_c (ls : Cls) (v : Value) (B : Nat) (w : World) (ho : OwnL B w 31 v ls) (hl : ls.length ≤ 100000) (hn : ls.Nodup) :
    Calls Tryz.prog 200 #[v, .func (.func 94) #[] #[]] w fun e w' => e = .returned (.tuple #[]) ∧ LitsM (New B w') w' v (sortL ls) ∧ Gr v.ownBlock.toList w w' := by
  have hm := ho.litsM
  obtain ⟨ao, cap, rfl, ⟨h1, h2, h3⟩⟩ := hm.slice
  rcases Nat.eq_zero_or_pos ls.length with h0 | h0
  · have hls : ls = [] := List.eq_nil_of_length_eq_zero h0
    subst hls
    have hcon := AnyF.slices_SortFunc_none (P := Tryz.prog) (ρ := sortLit_ren) { sortLit with } ao cap (.func (.func 94) #[] #[]) w
    change Calls Tryz.prog 200 _ _ _ at hcon
    refine hcon.mono ?_
    rintro e w' ⟨rfl, rfl⟩
    exact ⟨rfl, hm, Gr.refl _ _⟩
  · obtain ⟨l, hl0⟩ := get_some h0
    obtain ⟨b, o, rfl, hM, _⟩ := hm.at hl0
    have eg : ∀ args w, (callFunc 94 args).run Tryz.prog w = .ok (.enter 94 args) w := enters_of Tryz.func94 (by kernel_rfl) rfl
    have hH := hm.holds
    have hsz : ls.toArray.size = ls.length := by simp
    have hblk : b < w.heap.size := hM.2
    have hcon := AnyQ.slices_SortFunc_total (P := Tryz.prog) (ρ := sortLit_ren) sortLit 3 Tryz.isAgg31 Tryz.sizeOf31 litC (fun _ => rfl) litC_one cmpL (by rw [ltOf_cmpL]; exact swo_litLt) 94 #[] b o cap ls.toArray w eg (cmpLays b o _ w) hH hblk (by rw [hsz]; omega) (fun x y h1 h2 => by rw [ltOf_cmpL] at h1 h2; exact total_litLt x y h1 h2)
    change Calls Tryz.prog 200 _ _ _ at hcon
    rw [hsz] at hcon
    refine hcon.mono ?_
    rintro e w' ⟨rfl, n, os, rfl⟩
    have e1 : (ls.toArray.toList.mergeSort fun x y => !(ltOf cmpL) y x) = sortL ls := by rw [ltOf_cmpL]; exact merge_lits hn
    rw [e1]
    have hlen : (sortL ls).length = ls.length := by rw [← merge_lits hn]; exact List.length_mergeSort _
    have hH2 : Go.Sort.HoldsK litC 3 (Go.Proofs.sortWorldK litC 3 w b o n (sortL ls).toArray os) b o (sortL ls).toArray := holdsK_sortWorldK_c litC 3 w b o ls.toArray _ n os hH hblk (by simp [hlen])
    have hg : Gr [b] w (Go.Proofs.sortWorldK litC 3 w b o n (sortL ls).toArray os) := sortWorld_gr
    refine ⟨rfl, ?_, ?_⟩
    · have := litsM_of_holds (M := New B (Go.Proofs.sortWorldK litC 3 w b o n (sortL ls).toArray os)) (cap := cap) hH2 ⟨hM.1, Nat.lt_of_lt_of_le hblk hg.size⟩ (by rw [hlen]; exact ⟨h1, h2⟩)
      rwa [hlen] at this
    · refine hg.sub fun k _ hk => ?_
      rcases ho.2 with ⟨e1, _⟩ | ⟨g, c, cur, e1, _⟩
      · cases e1
      · simp only [Value.slice.injEq, Option.some.injEq, Addr.mk.injEq] at e1
        obtain ⟨⟨rfl, rfl, -⟩, -, -⟩ := e1
        simpa [Value.ownBlock] using hk
theorem sortL_length {c : Cls} (h : c.Nodup) : (sortL c).length = c.length := by rw [← merge_lits h]; exact List.length_mergeSort _
set_option maxRecDepth 100000 in
theorem sorted_c (ls : Cls) (v : Value) (w : World) (hv : LitsV [] w v ls) (hl : ls.length ≤ 100000) (hn : ls.Nodup) :
    Calls Tryz.prog 175 #[v] w fun e w' => ∃ v', e = .returned v' ∧ LitsM (New w.heap.size w') w' v' (sortL ls) ∧ Gr [] w w' := by
  have Hv := hid hv; have Hn := hid hn
  obtain ⟨ao, cap, rfl, ⟨h1, h2⟩⟩ := hv.slice
  clear hv hn
  go_enter Tryz.func175, Tryz.ntmps175
  go_wp2_with fail
  have hcall := cloneLit_c _ ls _ Hv.out hl
  (with_reducible refine hcall.mono ?_)
  clear hcall
  rintro e w1 ⟨v1, rfl, ho, hg1⟩
  obtain ⟨ao1, cap1, rfl, ⟨k1, k2, k3⟩⟩ := ho.litsM.slice
  have Ho := hid ho; have Hg1 := hid hg1
  clear ho hg1
  go_wp2_with fail
  have hcall := sortFunc_c ls _ _ w1 Ho.out hl Hn.out
  (with_reducible refine hcall.mono ?_)
  clear hcall
  rintro e w2 ⟨rfl, hm2, hg2⟩
  have hb : ∀ b ∈ (Value.slice ao1 ls.length cap1).ownBlock.toList, w.heap.size ≤ b := fun b hb => (ownsRow_ownBlock Ho.out (by simpa using hb)).1
  have Hg2 := hid (Hg1.out.step hg2 (fun i hi => .inr (hb i hi)))
  have hlen := sortL_length Hn.out
  have Hm2 := hid hm2; have Hlen := hid hlen
  clear hm2 hg2 hb hlen
  go_wp2_with fail
  have hcall := compactLit_c (sortL ls) ao1 cap1 w2 (by rw [Hlen.out]; exact Hm2.out.lits (by simp)) (by rw [Hlen.out]; exact hl) (sortL_asc ls)
  rw [Hlen.out] at hcall
  (with_reducible refine hcall.mono ?_)
  clear hcall
  rintro e w3 ⟨rfl, hg3⟩
  have Hm3 := hid (Hm2.out.new hg3); have Hg3 := hid (Hg2.out.trans hg3)
  clear hg3
  go_wp2_with fail
  have hcall := clipLit_c ao1 ls.length cap1 w3 k1 k2
  (with_reducible refine hcall.mono ?_)
  clear hcall
  rintro e w4 ⟨rfl, rfl⟩
  go_wp2_with fail
  go_ret
  exact ⟨_, rfl, Hm3.out.clip, Hg3.out⟩
end Go.Proofs.YtpfelbbmgbfkeaaGreat
