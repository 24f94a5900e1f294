/-
  The library's sort at lists of literals: its bodies compared with those that the library's contract was proved of.
  Walks: sorted lists of literals, the negations of literals.
  Walks: the negations of literals, validity of clauses, merged clauses; NegateAll of the program and of the reference.
-/
import Derived.Test.YtlekngkcifgonaaGreatRows
import Derived.Shelf.SlSortCmp.NoneTotal
import Derived.WalkKit
import Derived.Test.YtlekngkcifgonaaGreatXRkCm
import Derived.Test.YtlekngkcifgonaaGreatXLnLo
import Derived.Test.YtlekngkcifgonaaGreatXA
set_option linter.unusedVariables false
namespace Go.Proofs.YtlekngkcifgonaaGreat
open Go.Shelf Go.RowKit
def sortLit_ren : Go.Shelf.Ren := ⟨fun | 6 => 263 | 15 => 269 | 14 => 268 | 28 => 278 | 29 => 279 | 20 => 270 | 21 => 271 | 22 => 272 | 23 => 273 | 24 => 274 | 25 => 275 | 26 => 276 | 27 => 277 | 46 => 280 | 47 => 281 | 48 => 282 | 49 => 283 | 50 => 284 | 57 => 285 | n => n, fun | 22 => 110 | 24 => 45 | 25 => 240 | 3 => 3 | 39 => 238 | 0 => 0 | 53 => 242 | 55 => 244 | 4 => 4 | 46 => 248 | 45 => 247 | 50 => 188 | 5 => 5 | 9 => 9 | 66 => 253 | 70 => 257 | 76 => 259 | 77 => 260 | n => n, fun | n => n⟩
theorem sortLit : Go.Proofs.SlLaysF0.n6 Tryz.prog sortLit_ren := {
  mixed := by kernel_rfl
  f6 := ⟨Tryz.f263.name, by decide, Tryz.func263.trans (congrArg some (by kernel_rfl))⟩
  f14 := ⟨Tryz.f268.name, by decide, Tryz.func268.trans (congrArg some (by kernel_rfl))⟩
  f15 := Tryz.func269.trans (congrArg some (by kernel_rfl))
  f20 := ⟨Tryz.f270.name, by decide, Tryz.func270.trans (congrArg some (by kernel_rfl))⟩
  f21 := ⟨Tryz.f271.name, by decide, Tryz.func271.trans (congrArg some (by kernel_rfl))⟩
  f22 := ⟨Tryz.f272.name, by decide, Tryz.func272.trans (congrArg some (by kernel_rfl))⟩
  f23 := ⟨Tryz.f273.name, by decide, Tryz.func273.trans (congrArg some (by kernel_rfl))⟩
  f24 := ⟨Tryz.f274.name, by decide, Tryz.func274.trans (congrArg some (by kernel_rfl))⟩
  f25 := ⟨Tryz.f275.name, by decide, Tryz.func275.trans (congrArg some (by kernel_rfl))⟩
  f26 := ⟨Tryz.f276.name, by decide, Tryz.func276.trans (congrArg some (by kernel_rfl))⟩
  f27 := ⟨Tryz.f277.name, by decide, Tryz.func277.trans (congrArg some (by kernel_rfl))⟩
  f28 := Tryz.func278.trans (congrArg some (by kernel_rfl))
  f29 := Tryz.func279.trans (congrArg some (by kernel_rfl))
  f46 := ⟨Tryz.f280.name, by decide, Tryz.func280.trans (congrArg some (by kernel_rfl))⟩
  f47 := Tryz.func281.trans (congrArg some (by kernel_rfl))
  f48 := Tryz.func282.trans (congrArg some (by kernel_rfl))
  f49 := ⟨Tryz.f283.name, by decide, Tryz.func283.trans (congrArg some (by kernel_rfl))⟩
  f50 := ⟨Tryz.f284.name, by decide, Tryz.func284.trans (congrArg some (by kernel_rfl))⟩
  f57 := ⟨Tryz.f285.name, by decide, Tryz.func285.trans (congrArg some (by kernel_rfl))⟩
  t0 := Tryz.underlying0
  a0 := Tryz.isAgg0
  z0 := Tryz.sizeOf0
  v0 := Tryz.zeroValue0
  t3 := Tryz.underlying3
  a3 := Tryz.isAgg3
  z3 := Tryz.sizeOf3
  v3 := Tryz.zeroValue3
  t4 := Tryz.underlying4
  a4 := Tryz.isAgg4
  z4 := Tryz.sizeOf4
  v4 := Tryz.zeroValue4
  t5 := Tryz.underlying5
  a5 := Tryz.isAgg5
  z5 := Tryz.sizeOf5
  v5 := Tryz.zeroValue5
  t9 := Tryz.underlying9
  a9 := Tryz.isAgg9
  z9 := Tryz.sizeOf9
  v9 := Tryz.zeroValue9
  t22 := Tryz.underlying110
  a22 := Tryz.isAgg110
  z22 := Tryz.sizeOf110
  v22 := Tryz.zeroValue110
  t25 := Tryz.underlying240
  a25 := Tryz.isAgg240
  z25 := Tryz.sizeOf240
  v25 := Tryz.zeroValue240
  t39 := Tryz.underlying238
  a39 := Tryz.isAgg238
  z39 := Tryz.sizeOf238
  v39 := Tryz.zeroValue238
  t45 := Tryz.underlying247
  a45 := Tryz.isAgg247
  z45 := Tryz.sizeOf247
  v45 := Tryz.zeroValue247
  t46 := Tryz.underlying248
  a46 := Tryz.isAgg248
  z46 := Tryz.sizeOf248
  v46 := Tryz.zeroValue248
  t50 := Tryz.underlying188
  a50 := Tryz.isAgg188
  z50 := Tryz.sizeOf188
  v50 := Tryz.zeroValue188
  t53 := Tryz.underlying242
  a53 := Tryz.isAgg242
  z53 := Tryz.sizeOf242
  v53 := Tryz.zeroValue242
  t55 := Tryz.underlying244
  a55 := Tryz.isAgg244
  z55 := Tryz.sizeOf244
  v55 := Tryz.zeroValue244
  t66 := Tryz.underlying253
  a66 := Tryz.isAgg253
  z66 := Tryz.sizeOf253
  v66 := Tryz.zeroValue253
  t70 := Tryz.underlying257
  a70 := Tryz.isAgg257
  z70 := Tryz.sizeOf257
  v70 := Tryz.zeroValue257
  t76 := Tryz.underlying259
  a76 := Tryz.isAgg259
  z76 := Tryz.sizeOf259
  v76 := Tryz.zeroValue259
  t77 := Tryz.underlying260
  a77 := Tryz.isAgg260
  z77 := Tryz.sizeOf260
  v77 := Tryz.zeroValue260 }
end Go.Proofs.YtlekngkcifgonaaGreat

set_option linter.unusedVariables false
set_option linter.unusedSimpArgs false
namespace Go.Proofs.YtlekngkcifgonaaGreat
open Go.RowKit

theorem infoL : (Tryz.prog.info? 45).map (fun i => (i.zero, i.size, i.bytes)) = some (some (.agg #[.int .i64 0, .int .i64 0, .bool false]), 3, 24) := by kernel_rfl
theorem eqLit (a b : Lit) (w : World) : (binOp .eql 45 (.agg #[.int .i64 a.var, .int .i64 a.val, .bool a.neg]) (.agg #[.int .i64 b.var, .int .i64 b.val, .bool b.neg])).run Tryz.prog w = .ok (.bool (decide (a = b))) w := by
  have u3 := Tryz.underlying3
  have u4 := Tryz.underlying4
  have a3 := Tryz.isAgg3
  have z3 := Tryz.sizeOf3
  have a4 := Tryz.isAgg4
  have z4 := Tryz.sizeOf4
  have hS : Tryz.prog.underlying 45 = some (.struct (Tryz.prog.fieldsOf 45)) := by kernel_rfl
  have hp : Tryz.prog.stoodInHeld 45 = false := by kernel_rfl
  rw [run_eql_struct, show (10000 : Nat) = 9999 + 1 from rfl, run_equalIn_agg w 9999 45 _ _ hS hp]
  simp only [Program.fieldsOf, Tryz.underlying45]
  go_simp
  obtain ⟨a0, a1, a2⟩ := a
  obtain ⟨b0, b1, b2⟩ := b
  by_cases h1 : a0 = b0 <;> by_cases h2 : a1 = b1 <;> by_cases h3 : a2 = b2 <;> simp [h1, h2, h3]

theorem run_eql_slice_nilL {P : Program} (w : World) (t e : TypeId) (a : Option Addr) (l c : Nat) (h : P.underlying t = some (.slice e)) : (binOp .eql t (.slice a l c) (.slice none 0 0)).run P w = .ok (.bool a.isNone) w := by
  simp only [binOp]
  simp [run_equal_slice_nil w t e a l c h]
section
attribute [local go_sem] run_eql_slice_nilL
set_option maxRecDepth 100000 in
theorem cloneLit_c (v : Value) (ls : Cls) (w : World) (hx : LitsV [] w v ls) (hl : ls.length ≤ 100000) :
    Calls Tryz.prog 225 #[v] w fun e w' => ∃ v', e = .returned v' ∧ OwnL w.heap.size w' 45 v' ls ∧ Gr [] w w' := by
  have hund := Tryz.underlying110
  have Hx := hid hx
  obtain ⟨ao, cap, rfl, ⟨h1, h2, h3⟩, _⟩ := hx
  cases ao with
  | none =>
    have hcap := h3 rfl
    have hxs : ls = [] := List.eq_nil_of_length_eq_zero (by omega)
    clear Hx
    subst hcap hxs
    clear h1 h2 h3
    go_enter Tryz.func225, Tryz.ntmps225
    go_wp2_with fail
    go_ret
    exact ⟨_, rfl, OwnL.nil _ _ _, Gr.refl _ _⟩
  | some ad =>
    have Hy : Hid (LitsV [] (w.alloc (.cells #[] 45)) (.slice (some ad) ls.length cap) ls) := hid (Hx.out.gr ((Gr.refl [] w).alloc _))
    clear h3 Hx
    go_enter Tryz.func225, Tryz.ntmps225
    go_wp2_with (at_builtin; refine wp_appL rfl _ _ 110 rfl w.heap.size 45 (.agg #[.int .i64 0, .int .i64 0, .bool false]) 24 infoL rfl (by omega) Tryz.underlying110 (.slice (some ⟨w.heap.size, 0, none⟩) 0 0) [] ls rfl (OwnL.empty w 45 (Nat.le_refl _)) (.slice (some ad) ls.length cap) [] rfl Hy.out (by simp; omega) (by simp) ?_; intro v' w' hown' hgr')
    go_ret
    exact ⟨_, rfl, by simpa using hown', ((Gr.refl [] w).alloc _).step hgr' (fun i hi => .inr (by simp [Value.ownBlock] at hi; omega))⟩
end
set_option maxRecDepth 100000 in
theorem compactLit_c (ls : Cls) (ao : Option Addr) (cap : Nat) (w : World) (hx : LitsV [] w (.slice ao ls.length cap) ls) (hl : ls.length ≤ 100000) (hs : ls.Pairwise fun a b => litLt a b = true) :
    Calls Tryz.prog 265 #[.slice ao ls.length cap] w fun e w' => e = .returned (.slice ao ls.length cap) ∧ Gr [] w w' := by
  obtain ⟨_, _, e1, ⟨h1, h2⟩⟩ := hx.slice
  cases e1
  have Hx := hid hx; have Hs := hid hs
  clear hx hs
  go_enter Tryz.func265, Tryz.ntmps265
  by_cases hlt : ls.length < 2
  · have hlt' : decide ((ls.length : Int) < 2) = true := by simp; omega
    go_wp2_with fail
    go_ret
    exact ⟨rfl, Gr.refl _ _⟩
  have hlt' : decide ((ls.length : Int) < 2) = false := by simp; omega
  go_wp2_with fail
  go_loopw [3] (fun i wr => ∃ m : Nat, m + 1 ≤ ls.length ∧ i = .int .i64 ((m : Int) + 1) ∧ Gr [] w wr) (fun i _ => ls.length - (intOf i).toNat)
  case atStart => exact ⟨0, by omega, rfl, Gr.refl _ _⟩
  case round =>
    obtain ⟨m, hn, rfl, hg⟩ := hrel
    by_cases hlt : m + 1 < ls.length
    · obtain ⟨x, hx⟩ := get_some hlt
      obtain ⟨y, hy⟩ := get_some (xs := ls) (k := m) (by omega)
      obtain ⟨b, o, rfl, _, c0, c1, c2⟩ := (Hx.out.gr hg).at hx
      obtain ⟨b', o', e2, _, d0, d1, d2⟩ := (Hx.out.gr hg).at hy
      cases e2
      have hne : decide (x = y) = false := by
        have := List.pairwise_iff_getElem.1 Hs.out m (m + 1) (by omega) (by omega) (by omega)
        rw [← Option.some.inj ((List.getElem?_eq_getElem (by omega)).symm.trans hx), ← Option.some.inj ((List.getElem?_eq_getElem (by omega)).symm.trans hy)]
        refine decide_eq_false fun e => ?_
        rw [e, litLt_irrefl] at this; cases this
      have hq := eqLit x y
      rw [hne] at hq
      have e0 : ∀ k : GrW [] wr, k.val.cell? ⟨b, o + (m + 1) * 3, none⟩ = some (.int .i64 x.var) := fun k => k.gr.cell c0 (by simp)
      have e1 : ∀ k : GrW [] wr, k.val.cell? ⟨b, o + (m + 1) * 3 + 1, none⟩ = some (.int .i64 x.val) := fun k => k.gr.cell c1 (by simp)
      have e2 : ∀ k : GrW [] wr, k.val.cell? ⟨b, o + (m + 1) * 3 + 2, none⟩ = some (.bool x.neg) := fun k => k.gr.cell c2 (by simp)
      have e0' : ∀ k : GrW [] wr, k.val.cell? ⟨b, o + m * 3, none⟩ = some (.int .i64 y.var) := fun k => k.gr.cell d0 (by simp)
      have e1' : ∀ k : GrW [] wr, k.val.cell? ⟨b, o + m * 3 + 1, none⟩ = some (.int .i64 y.val) := fun k => k.gr.cell d1 (by simp)
      have e2' : ∀ k : GrW [] wr, k.val.cell? ⟨b, o + m * 3 + 2, none⟩ = some (.bool y.neg) := fun k => k.gr.cell d2 (by simp)
      have hmm : m < 100000 := by omega
      have hwr : IntKind.i64.wrap (m : Int) = (m : Int) := by rw [IntKind.wrap_i64]; omega
      have hwr1 : IntKind.i64.wrap ((m : Int) + 1 - 1) = (m : Int) := by rw [IntKind.wrap_i64]; omega
      have htn : ((m : Int) + 1).toNat = m + 1 := by omega
      have Hg := hid hg
      clear hx hy hne hg c0 c1 c2 d0 d1 d2
      go_wp2_with fail
      refine wp_region_gr [] _ (by kernel_rfl) (by kernel_rfl) (Gr.refl _ _) ?_
      repeat (go_big_quiet_step (fail))
      refine wpQuiet_nil ?_
      rintro w6 ⟨n6, rfl⟩
      have hg6 := n6.gr
      clear e0 e1 e2 e0' e1' e2' hq
      go_wp2_with fail
      exact ⟨⟨m + 1, by omega, by go_num, Hg.out.trans hg6⟩, by simp [intOf]; omega⟩
    · have hnl : (m : Int) + 1 = ls.length := by omega
      have hnl2 : decide ((m : Int) + 1 < (ls.length : Int)) = false := by simp; omega
      have Hnl := hid hnl
      clear hnl
      go_wp2_with fail
      go_ret
      exact ⟨rfl, hg⟩

set_option maxRecDepth 100000 in
theorem clipLit_c (ao : Option Addr) (n cap : Nat) (w : World) (h1 : n ≤ cap) (h2 : cap ≤ 9223372036854775807) :
    Calls Tryz.prog 264 #[.slice ao n cap] w fun e w' => e = .returned (.slice ao n n) ∧ w' = w := by
  go_enter Tryz.func264, Tryz.ntmps264
  go_wp2_with fail
  go_ret
  exact ⟨rfl, rfl⟩
theorem LitsM.clip {M : Nat → Prop} {w : World} {ao : Option Addr} {n cap : Nat} {ls : Cls} (h : LitsM M w (.slice ao n cap) ls) : LitsM M w (.slice ao n n) ls := by
  obtain ⟨ao', cap', e, ⟨h1, h2, h3⟩, hc⟩ := h
  cases e
  exact ⟨ao, _, rfl, ⟨Nat.le_refl _, by omega, fun h => by have := h3 h; omega⟩, hc⟩
theorem cmpLays (blk off size : Nat) (w : World) : Go.Proofs.CmpLays Tryz.prog 174 #[] litC 3 cmpL blk off size w := fun m os dk _ x y => by
  refine (compare_c x y _).mono ?_
  rintro e w' ⟨rfl, hg, hd⟩
  exact ⟨rfl, grow_of_gr hg hd⟩
/-- The sort, on a list of the call's own without doubles. -/
theorem sortFunc_c (ls : Cls) (v : Value) (B : Nat) (w : World) (ho : OwnL B w 45 v ls) (hl : ls.length ≤ 100000) (hn : ls.Nodup) :
    Calls Tryz.prog 263 #[v, .func (.func 174) #[] #[]] w fun e w' => e = .returned (.tuple #[]) ∧ LitsM (New B w') w' v (sortL ls) ∧ Gr v.ownBlock.toList w w' := by
  have hm := ho.litsM
  obtain ⟨ao, cap, rfl, ⟨h1, h2, h3⟩⟩ := hm.slice
  rcases Nat.eq_zero_or_pos ls.length with h0 | h0
  · have hls : ls = [] := List.eq_nil_of_length_eq_zero h0
    subst hls
    have hcon := AnyF.slices_SortFunc_none (P := Tryz.prog) (ρ := sortLit_ren) { sortLit with } ao cap (.func (.func 174) #[] #[]) w
    change Calls Tryz.prog 263 _ _ _ at hcon
    refine hcon.mono ?_
    rintro e w' ⟨rfl, rfl⟩
    exact ⟨rfl, hm, Gr.refl _ _⟩
  · obtain ⟨l, hl0⟩ := get_some h0
    obtain ⟨b, o, rfl, hM, _⟩ := hm.at hl0
    have eg : ∀ args w, (callFunc 174 args).run Tryz.prog w = .ok (.enter 174 args) w := enters_of Tryz.func174 (by kernel_rfl) rfl
    have hH := hm.holds
    have hsz : ls.toArray.size = ls.length := by simp
    have hblk : b < w.heap.size := hM.2
    have hcon := AnyQ.slices_SortFunc_total (P := Tryz.prog) (ρ := sortLit_ren) sortLit 3 Tryz.isAgg45 Tryz.sizeOf45 litC (fun _ => rfl) litC_one cmpL (by rw [ltOf_cmpL]; exact swo_litLt) 174 #[] b o cap ls.toArray w eg (cmpLays b o _ w) hH hblk (by rw [hsz]; omega) (fun x y h1 h2 => by rw [ltOf_cmpL] at h1 h2; exact total_litLt x y h1 h2)
    change Calls Tryz.prog 263 _ _ _ at hcon
    rw [hsz] at hcon
    refine hcon.mono ?_
    rintro e w' ⟨rfl, n, os, rfl⟩
    have e1 : (ls.toArray.toList.mergeSort fun x y => !(ltOf cmpL) y x) = sortL ls := by rw [ltOf_cmpL]; exact merge_lits hn
    rw [e1]
    have hlen : (sortL ls).length = ls.length := by rw [← merge_lits hn]; exact List.length_mergeSort _
    have hH2 : Go.Sort.HoldsK litC 3 (Go.Proofs.sortWorldK litC 3 w b o n (sortL ls).toArray os) b o (sortL ls).toArray := holdsK_sortWorldK_c litC 3 w b o ls.toArray _ n os hH hblk (by simp [hlen])
    have hg : Gr [b] w (Go.Proofs.sortWorldK litC 3 w b o n (sortL ls).toArray os) := sortWorld_gr
    refine ⟨rfl, ?_, ?_⟩
    · have := litsM_of_holds (M := New B (Go.Proofs.sortWorldK litC 3 w b o n (sortL ls).toArray os)) (cap := cap) hH2 ⟨hM.1, Nat.lt_of_lt_of_le hblk hg.size⟩ (by rw [hlen]; exact ⟨h1, h2⟩)
      rwa [hlen] at this
    · refine hg.sub fun k _ hk => ?_
      rcases ho.2 with ⟨e1, _⟩ | ⟨g, c, cur, e1, _⟩
      · cases e1
      · simp only [Value.slice.injEq, Option.some.injEq, Addr.mk.injEq] at e1
        obtain ⟨⟨rfl, rfl, -⟩, -, -⟩ := e1
        simpa [Value.ownBlock] using hk
theorem sortL_length {c : Cls} (h : c.Nodup) : (sortL c).length = c.length := by rw [← merge_lits h]; exact List.length_mergeSort _
set_option maxRecDepth 100000 in
theorem sorted_c (ls : Cls) (v : Value) (w : World) (hv : LitsV [] w v ls) (hl : ls.length ≤ 100000) (hn : ls.Nodup) :
    Calls Tryz.prog 254 #[v] w fun e w' => ∃ v', e = .returned v' ∧ LitsM (New w.heap.size w') w' v' (sortL ls) ∧ Gr [] w w' := by
  have Hv := hid hv; have Hn := hid hn
  obtain ⟨ao, cap, rfl, ⟨h1, h2⟩⟩ := hv.slice
  clear hv hn
  go_enter Tryz.func254, Tryz.ntmps254
  go_wp2_with fail
  have hcall := cloneLit_c _ ls _ Hv.out hl
  (with_reducible refine hcall.mono ?_)
  clear hcall
  rintro e w1 ⟨v1, rfl, ho, hg1⟩
  obtain ⟨ao1, cap1, rfl, ⟨k1, k2, k3⟩⟩ := ho.litsM.slice
  have Ho := hid ho; have Hg1 := hid hg1
  clear ho hg1
  go_wp2_with fail
  have hcall := sortFunc_c ls _ _ w1 Ho.out hl Hn.out
  (with_reducible refine hcall.mono ?_)
  clear hcall
  rintro e w2 ⟨rfl, hm2, hg2⟩
  have hb : ∀ b ∈ (Value.slice ao1 ls.length cap1).ownBlock.toList, w.heap.size ≤ b := fun b hb => (ownsRow_ownBlock Ho.out (by simpa using hb)).1
  have Hg2 := hid (Hg1.out.step hg2 (fun i hi => .inr (hb i hi)))
  have hlen := sortL_length Hn.out
  have Hm2 := hid hm2; have Hlen := hid hlen
  clear hm2 hg2 hb hlen
  go_wp2_with fail
  have hcall := compactLit_c (sortL ls) ao1 cap1 w2 (by rw [Hlen.out]; exact Hm2.out.lits (by simp)) (by rw [Hlen.out]; exact hl) (sortL_asc ls)
  rw [Hlen.out] at hcall
  (with_reducible refine hcall.mono ?_)
  clear hcall
  rintro e w3 ⟨rfl, hg3⟩
  have Hm3 := hid (Hm2.out.new hg3); have Hg3 := hid (Hg2.out.trans hg3)
  clear hg3
  go_wp2_with fail
  have hcall := clipLit_c ao1 ls.length cap1 w3 k1 k2
  (with_reducible refine hcall.mono ?_)
  clear hcall
  rintro e w4 ⟨rfl, rfl⟩
  go_wp2_with fail
  go_ret
  exact ⟨_, rfl, Hm3.out.clip, Hg3.out⟩
end Go.Proofs.YtlekngkcifgonaaGreat

set_option linter.unusedVariables false
set_option linter.unusedSimpArgs false
namespace Go.Proofs.YtlekngkcifgonaaGreat
open Go.RowKit

theorem heap2L (w : World) (o1 o2 : Obj) : ((w.alloc o1).alloc o2).heap[w.heap.size]? = some o1 ∧ ((w.alloc o1).alloc o2).heap[w.heap.size + 1]? = some o2 := by
  refine ⟨(heap_alloc_old _ _ (by simp)).trans (heap_alloc_new _ _), ?_⟩
  have := heap_alloc_new (w.alloc o1) o2
  rwa [World.size_alloc] at this
set_option maxRecDepth 100000 in
theorem negated_c (l : Lit) (w : World) :
    Calls Tryz.prog 253 #[.agg #[.int .i64 l.var, .int .i64 l.val, .bool l.neg]] w fun e w' => e = .returned (.agg #[.int .i64 l.var, .int .i64 l.val, .bool (!l.neg)]) ∧ Gr [] w w' := by
  obtain ⟨W, hW⟩ : ∃ W, (w.alloc (.cells #[.int .i64 l.var, .int .i64 l.val, .bool l.neg] 45)).alloc (.cells #[.int .i64 0, .int .i64 0, .bool false] 45) = W := ⟨_, rfl⟩
  have h2 := heap2L w (.cells #[.int .i64 l.var, .int .i64 l.val, .bool l.neg] 45) (.cells #[.int .i64 0, .int .i64 0, .bool false] 45)
  have hg : Gr [] w W := by rw [← hW]; exact ((Gr.refl _ _).alloc _).alloc _
  rw [hW] at h2
  have fa := fld h2.1; have ffa := fldF h2.1; have fb := fld h2.2; have ffb := fldF h2.2
  have H1 := hid h2.1; have H2 := hid h2.2; have HG := hid hg
  clear h2 hg
  go_enter Tryz.func253, Tryz.ntmps253
  go_wp2_with fail
  have hgX : Gr [w.heap.size] W (W.setCell ⟨w.heap.size, 2, none⟩ (.bool (!l.neg))) := (Gr.refl _ _).setCell _ _ (.inl (by simp))
  have hbE := block_cells (cur' := #[]) (block_cells (cur' := #[]) (block_cells (cur' := #[]) (hgX.obj H2.out (by simp)) 0 (.int .i64 l.var)) 1 (.int .i64 l.val)) 2 (.bool (!l.neg))
  have flE := fld hbE
  refine bodyPost_ret (v := .agg #[.int .i64 l.var, .int .i64 l.val, .bool (!l.neg)]) ?_ rfl ⟨rfl, ?_⟩
  · simp [results, Tryz.results253, go_sem, flE]
  · exact (((HG.out.setCell _ _ (.inr (Nat.le_refl _))).setCell _ _ (.inr (by simp))).setCell _ _ (.inr (by simp))).setCell _ _ (.inr (by simp))
theorem litsNew (w : World) (l : Lit) (t : TypeId) (S : List Nat) (hS : ∀ b ∈ S, b < w.heap.size) : LitsV S (w.alloc (.cells #[.int .i64 l.var, .int .i64 l.val, .bool l.neg] t)) (.slice (some ⟨w.heap.size, 0, none⟩) 1 1) [l] := by
  have h := fld (heap_alloc_new w (.cells #[.int .i64 l.var, .int .i64 l.val, .bool l.neg] t))
  refine ⟨_, _, rfl, by simp, fun i x hi => ?_⟩
  have hi0 : i = 0 := by have := (List.getElem?_eq_some_iff.1 hi).1; simp at this; omega
  subst hi0
  simp at hi; subst hi
  exact ⟨_, _, rfl, fun hm => by have := hS _ hm; omega, by simp [h], h 1, h 2⟩
theorem OwnL.block {B : Nat} {w : World} {e : TypeId} {v : Value} {ls : Cls} (h : OwnL B w e v ls) : ∀ b ∈ v.ownBlock.toList, B ≤ b := fun b hb => (ownsRow_ownBlock h (by simpa using hb)).1
set_option maxRecDepth 100000 in
set_option maxHeartbeats 1000000 in
theorem negations_c (ls : Cls) (v : Value) (w : World) (hv : LitsV [] w v ls) (hl : ls.length ≤ 100000) (hn : ls.Nodup) :
    Calls Tryz.prog 217 #[v] w fun e w' => ∃ v', e = .returned v' ∧ LitsM (New w.heap.size w') w' v' (negsL ls) ∧ Gr [] w w' := by
  have Hv := hid hv; have Hn := hid hn
  obtain ⟨ao, cap, rfl, ⟨h1, h2⟩⟩ := hv.slice
  clear hv hn
  obtain ⟨i0, hi, hz0, hz1, hz2⟩ := info_parts infoL
  go_enter Tryz.func217, Tryz.ntmps217
  go_wp2_with (at_make; refine wpList_make_own w rfl _ _ 110 rfl w.heap.size 45 i0 (.agg #[.int .i64 0, .int .i64 0, .bool false]) 3 Tryz.underlying110 hi hz0 hz1 .i64 .i64 ls.length ls.length rfl rfl rfl (by rw [hz2]; omega) (by simp only [maxLen]; omega) (Nat.le_refl _) ?_; intro w1 hown1 hg1)
  have HO1 : Hid (OwnL w.heap.size w1 45 (.slice (some ⟨w.heap.size, 0, none⟩) 0 ls.length) []) := hid hown1
  have HG1 : Hid (Gr [] w w1) := hid ((Gr.refl _ _).grown hg1 (by simp))
  clear hown1 hg1 hz0 hz1 hz2 hi
  go_loopw [3, 11] (fun sv i wr => ∃ n : Nat, n ≤ ls.length ∧ i = .int .i64 n ∧ OwnL w.heap.size wr 45 sv ((ls.take n).map negL) ∧ Gr [] w wr) (fun _ i _ => ls.length - (intOf i).toNat)
  case atStart => exact ⟨0, Nat.zero_le _, rfl, by simpa using HO1.out, HG1.out⟩
  case round =>
    obtain ⟨n, hn, rfl, hown, hg⟩ := hrel
    obtain ⟨so, sc, hsv, ⟨k1, k2, -⟩⟩ := hown.litsM.slice
    have hlen : ((ls.take n).map negL).length = n := by simp; omega
    rw [hlen] at hsv k1
    subst hsv
    have Hlen := hid hlen
    clear hlen
    by_cases hlt : n < ls.length
    · obtain ⟨x, hx⟩ := get_some hlt
      obtain ⟨b, o, rfl, -, c0, c1, c2⟩ := (Hv.out.gr hg).at hx
      have hsn : (ls.take (n + 1)).map negL = (ls.take n).map negL ++ [negL x] := by rw [List.take_add_one, hx]; simp
      have ha : Gr [] wr (wr.alloc (.cells #[.int .i64 x.var, .int .i64 x.val, .bool x.neg] 45)) := (Gr.refl _ _).alloc _
      have Hown := hid (hown.gr ha (by simp)); have Hg := hid (hg.trans ha); have Hsn := hid hsn
      have fb := fld (heap_alloc_new wr (.cells #[.int .i64 x.var, .int .i64 x.val, .bool x.neg] 45))
      clear hx hown hg hsn ha
      go_wp2_with fail
      generalize hWa : wr.alloc (.cells #[.int .i64 x.var, .int .i64 x.val, .bool x.neg] 45) = wa at *
      clear hWa
      have hcall := negated_c x wa
      (with_reducible refine hcall.mono ?_)
      clear hcall
      rintro e w2 ⟨rfl, hg2⟩
      have hs2 : w.heap.size ≤ w2.heap.size := (Hg.out.trans hg2).size
      have Ho2 := hid (Hown.out.gr (hg2.alloc (.cells #[.int .i64 x.var, .int .i64 x.val, .bool (!x.neg)] 45)) (by simp))
      have Hg2 := hid (Hg.out.trans (hg2.alloc (.cells #[.int .i64 x.var, .int .i64 x.val, .bool (!x.neg)] 45)))
      have Hl2 := hid (litsNew w2 (negL x) 45 [] (by simp))
      clear hg2 fb c0 c1 c2
      go_wp2_with (at_builtin; refine wp_appL rfl _ _ 110 rfl w.heap.size 45 (.agg #[.int .i64 0, .int .i64 0, .bool false]) 24 infoL rfl (by omega) Tryz.underlying110 _ _ [negL x] rfl Ho2.out (.slice (some ⟨w2.heap.size, 0, none⟩) 1 1) [] rfl Hl2.out (by rw [Hlen.out]; simp; omega) (by simp; omega) ?_; intro v4 w4 hown4 hg4)
      exact ⟨⟨n + 1, by omega, by go_num, by rw [Hsn.out]; exact hown4, Hg2.out.step hg4 (fun i hi => .inr (Ho2.out.block i hi))⟩, by simp [intOf]; omega⟩
    · have e1 : ls.take n = ls := List.take_of_length_le (by omega)
      rw [e1] at hown
      have hnl : n = ls.length := by omega
      have Hown := hid hown; have Hg := hid hg; have Hnl := hid hnl
      clear hown hg e1 hnl
      go_wp2_with fail
      have hcall := sorted_c (ls.map negL) _ wr (Hown.out.lits (by simp)) (by rw [List.length_map]; exact hl) (map_negL_nodup Hn.out)
      (with_reducible refine hcall.mono ?_)
      clear hcall
      rintro e w2 ⟨v2, rfl, hm2, hg2⟩
      go_wp2_with fail
      go_ret
      exact ⟨_, rfl, hm2.le Hg.out.size, Hg.out.trans hg2⟩

/-! ### The reference's order -/
set_option maxRecDepth 100000 in
theorem literalLess_c (a b : Lit) (w : World) : Calls Tryz.prog 179 #[.agg #[.int .i64 a.var, .int .i64 a.val, .bool a.neg], .agg #[.int .i64 b.var, .int .i64 b.val, .bool b.neg]] w fun e w' => e = .returned (.bool (litLt a b)) ∧ Gr [] w w' := by
  have hg0 : Gr [] w ((w.alloc (.cells #[.int .i64 a.var, .int .i64 a.val, .bool a.neg] 45)).alloc (.cells #[.int .i64 b.var, .int .i64 b.val, .bool b.neg] 45)) := ((Gr.refl _ _).alloc _).alloc _
  have h2 := heap2L w (.cells #[.int .i64 a.var, .int .i64 a.val, .bool a.neg] 45) (.cells #[.int .i64 b.var, .int .i64 b.val, .bool b.neg] 45)
  have f1 := fld h2.1; have f2 := fld h2.2
  have Hg0 := hid hg0
  clear hg0 h2
  unfold litLt
  by_cases h1 : a.var = b.var
  · rw [if_neg (by simpa using h1)]
    obtain ⟨v1, l1, n1⟩ := a
    obtain ⟨v2, l2, n2⟩ := b
    dsimp only at h1
    subst h1
    by_cases h2 : l1 = l2
    · rw [if_neg (by simpa using h2)]
      subst h2
      cases n1 <;> cases n2
      all_goals
        go_enter Tryz.func179, Tryz.ntmps179
        go_wp2_with fail
        go_ret
        exact ⟨rfl, Hg0.out⟩
    · rw [if_pos (by simpa using h2)]
      have hz : (l1 != l2) = true := by simpa using h2
      have H2 := hid h2
      clear h2
      go_enter Tryz.func179, Tryz.ntmps179
      go_wp2_with fail
      go_ret
      exact ⟨rfl, Hg0.out⟩
  · rw [if_pos (by simpa using h1)]
    have hz1 : (a.var != b.var) = true := by simpa using h1
    have H1 := hid h1
    clear h1
    go_enter Tryz.func179, Tryz.ntmps179
    go_wp2_with fail
    go_ret
    exact ⟨rfl, Hg0.out⟩

/-! ### Validity, as the reference has it -/
theorem validClS_step {c : Cls} {n : Int} {k : Nat} {l : Lit} (h : c[k]? = some l) : (∀ x ∈ c.take (k + 1), litOk n x = true) ∧ ascB (c.take (k + 1)) = true ↔ ((∀ x ∈ c.take k, litOk n x = true) ∧ ascB (c.take k) = true) ∧ litOk n l = true ∧ (∀ j y, k = j + 1 → c[j]? = some y → litLt y l = true) := by
  rw [List.take_add_one, h, ascB_iff, ascB_iff]
  simp only [Option.toList_some, List.mem_append, List.mem_singleton, List.pairwise_append, List.pairwise_cons, List.Pairwise.nil, List.not_mem_nil]
  constructor
  · rintro ⟨h1, h2, -, h3⟩
    refine ⟨⟨fun x hx => h1 x (.inl hx), h2⟩, h1 l (.inr rfl), fun j y hj hy => h3 y ?_ l rfl⟩
    subst hj
    exact List.mem_of_getElem? (i := j) (by rw [List.getElem?_take, if_pos (by omega)]; exact hy)
  · rintro ⟨⟨h1, h2⟩, h3, h4⟩
    refine ⟨?_, h2, ⟨by simp, trivial⟩, ?_⟩
    · rintro x (hx | rfl)
      · exact h1 x hx
      · exact h3
    · rintro a ha b rfl
      obtain ⟨i, hi⟩ := List.mem_iff_getElem?.1 ha
      have hik : i < k := by have := (List.getElem?_eq_some_iff.1 hi).1; rw [List.length_take] at this; omega
      obtain ⟨j, rfl⟩ : ∃ j, k = j + 1 := ⟨k - 1, by omega⟩
      obtain ⟨y, hy⟩ := get_some (xs := c) (k := j) (by have := (List.getElem?_eq_some_iff.1 h).1; omega)
      have h5 := h4 j y rfl hy
      by_cases hij : i = j
      · subst hij
        rw [List.getElem?_take, if_pos hik, hy] at hi
        cases hi; exact h5
      · refine litLt_trans ?_ h5
        have hj2 : (c.take (j + 1))[j]? = some y := by rw [List.getElem?_take, if_pos (by omega)]; exact hy
        have := List.pairwise_iff_getElem.1 h2 i j (by have := (List.getElem?_eq_some_iff.1 hi).1; omega) (by have := (List.getElem?_eq_some_iff.1 hj2).1; omega) (by omega)
        rw [(List.getElem?_eq_some_iff.1 hi).2, (List.getElem?_eq_some_iff.1 hj2).2] at this
        exact this
end Go.Proofs.YtlekngkcifgonaaGreat
