/-
  Walk of FnExactDecide.
-/
import Derived.Test.YtihkeihnpiddoaaGreatXDcl
import Derived.Test.YtihkeihnpiddoaaGreatXDds
import Derived.Test.YtihkeihnpiddoaaGreatXCu
import Derived.Test.YtihkeihnpiddoaaGreatXLhToStO
import Derived.Deep.RegionHeldLaw
import Derived.Deep.CutRange
set_option linter.unusedVariables false
set_option linter.unusedSimpArgs false
namespace Go.Proofs.YtihkeihnpiddoaaGreat
open Go.RowKit

theorem Gr.set3w {S : List Nat} {a w : World} {r : Nat} (h : Gr S a w) (hr : a.heap.size ≤ r) (x0 x1 x2 : Value) : Gr S a (((w.setCell ⟨r, 0, none⟩ x0).setCell ⟨r, 1, none⟩ x1).setCell ⟨r, 2, none⟩ x2) :=
  ((h.setCell _ _ (.inr hr)).setCell _ _ (.inr hr)).setCell _ _ (.inr hr)
/-- What the reference's answer leaves: a box with the store, and the truth value. -/
def XdS (wr wx : World) (R : Sto) (bd : Bool) (p v : Value) : Prop :=
  ∃ (X : Nat) (rao : Option Addr) (rac : Nat) (rbo : Option Addr) (rbc : Nat) (rco : Option Addr) (rcc : Nat), p = .pointer (some ⟨X, 0, none⟩) ∧ v = .bool bd ∧ wx.heap[X]? = some (.cells #[.slice rao R.mod.doms.length rac, .slice rbo R.mod.cons.length rbc, .slice rco R.lv.length rcc] 29 (0, 0)) ∧ wr.heap.size ≤ X ∧ StoV [] wx (.agg #[.slice rao R.mod.doms.length rac, .slice rbo R.mod.cons.length rbc, .slice rco R.lv.length rcc]) R ∧ Gr [] wr wx
theorem xdS_meet {wr wd WE : World} {R : Sto} {bd : Bool} {X B : Nat} {rao : Option Addr} {rac : Nat} {rbo : Option Addr} {rbc : Nat} {rco : Option Addr} {rcc : Nat} (hg : Gr [] wr wd) (hst : ∀ S : List Nat, (∀ b ∈ S, b < B) → StoV S wd (.agg #[.slice rao R.mod.doms.length rac, .slice rbo R.mod.cons.length rbc, .slice rco R.lv.length rcc]) R) (hB : B ≤ wd.heap.size)
    (hgE : Gr [X] wd WE) (hX : WE.heap[X]? = some (.cells #[.slice rao R.mod.doms.length rac, .slice rbo R.mod.cons.length rbc, .slice rco R.lv.length rcc] 29 (0, 0))) (hXr : wr.heap.size ≤ X) (hX2 : X < B ∨ wd.heap.size ≤ X) : XdS wr WE R bd (.pointer (some ⟨X, 0, none⟩)) (.bool bd) := by
  refine ⟨X, _, _, _, _, _, _, rfl, rfl, hX, hXr, ?_, hg.step hgE (fun i hi => .inr (by simp at hi; omega))⟩
  rcases hX2 with h | h
  · exact ((hst [X] (by simp; omega)).gr hgE).sub (by simp)
  · exact (hst [] (by simp)).gr (hgE.sub (fun k hk h' => by simp at h'; omega))
/-- What the program's answer leaves. -/
def XdF (wr wx : World) (R : Sto) (bd : Bool) (p v : Value) : Prop :=
  ∃ (X B E : Nat) (rao : Option Addr) (rac : Nat) (rbo : Option Addr) (rbc : Nat) (rco : Option Addr) (rcc : Nat), p = .pointer (some ⟨X, 0, none⟩) ∧ v = .bool bd ∧ wx.heap[X]? = some (.cells #[.slice rao R.mod.doms.length rac, .slice rbo R.mod.cons.length rbc, .slice rco R.lv.length rcc] 29 (0, 0)) ∧ wr.heap.size ≤ X ∧ StoF B E wx (.agg #[.slice rao R.mod.doms.length rac, .slice rbo R.mod.cons.length rbc, .slice rco R.lv.length rcc]) R ∧ (wr.heap.size ≤ B ∧ E ≤ wx.heap.size ∧ (X < B ∨ E ≤ X)) ∧ Gr [] wr wx
theorem xdF_meet {wr wd WE : World} {R : Sto} {bd : Bool} {X B E : Nat} {rao : Option Addr} {rac : Nat} {rbo : Option Addr} {rbc : Nat} {rco : Option Addr} {rcc : Nat} (hg : Gr [] wr wd) (hst : StoF B E wd (.agg #[.slice rao R.mod.doms.length rac, .slice rbo R.mod.cons.length rbc, .slice rco R.lv.length rcc]) R) (hB : wr.heap.size ≤ B ∧ E ≤ wd.heap.size)
    (hgE : Gr [X] wd WE) (hX : WE.heap[X]? = some (.cells #[.slice rao R.mod.doms.length rac, .slice rbo R.mod.cons.length rbc, .slice rco R.lv.length rcc] 29 (0, 0))) (hXr : wr.heap.size ≤ X) (hX2 : X < B ∨ E ≤ X) : XdF wr WE R bd (.pointer (some ⟨X, 0, none⟩)) (.bool bd) :=
  ⟨X, B, E, _, _, _, _, _, _, rfl, rfl, hX, hXr, hst.gr hgE (by simp; omega), ⟨hB.1, Nat.le_trans hB.2 hgE.size, hX2⟩, hg.step hgE (fun i hi => .inr (by simp at hi; omega))⟩
theorem decR_mo (s : Sto) (l : Lit) (C : List Nat) : mkMo (decR s l C).mod ≤ mkMo s.mod := by
  unfold decR
  split
  · split <;> exact Nat.le_refl _
  · simp [zeroSto, mkMo, mkCs]
theorem decR_k (s : Sto) (l : Lit) (C : List Nat) (hC : validS s = true → Cur s C) : mkR (decR s l C).lv ≤ mkR s.lv + 1000 := by
  unfold decR
  split
  · rename_i hv
    split
    · have hc := hC hv
      show mkR (s.lv ++ [ints (nxt s l C)]) ≤ _
      unfold mkR
      rw [List.map_append, List.sum_append]
      have := nxt_len (l := l) hc
      have := hc.small
      simp [ints_len]; omega
    · omega
  · simp [zeroSto, mkR]
theorem szSto_small {s : Sto} (h : szSto s ≤ 1048576) : s.mod.Small ∧ s.lv.length ≤ 2000000 ∧ (∀ r ∈ s.lv, r.length ≤ 2000000) ∧ mkMo s.mod ≤ 2097152 ∧ mkR s.lv ≤ 1048576 := by
  unfold szSto at h
  have h1 : szR s.lv ≤ 1048576 := by omega
  unfold szR at h1
  refine ⟨small_of_sz (by omega), by omega, fun r hr => ?_, mk_le (by omega), by unfold mkR; omega⟩
  have := sum_mem List.length hr
  omega


set_option maxRecDepth 100000 in
set_option maxHeartbeats 8000000 in
theorem FnExactDecide_c (s : Sto) (l : Lit) (v : Value) (w : World) (hv : StoV [] w v s) :
    Calls Tryz.prog 6 #[v, .agg #[.int .i64 l.var, .int .i64 l.val, .bool l.neg]] w (fun e w' => e = .returned (.bool true) ∧ Gr [] w w') := by
  have Hv := hid hv
  obtain ⟨xo, xc, yo, yc, lo, lc, rfl, -, -⟩ := hv.open
  have h20 := heap2 w (.cells #[.slice xo s.mod.doms.length xc, .slice yo s.mod.cons.length yc, .slice lo s.lv.length lc] 61) (.cells #[.int .i64 l.var, .int .i64 l.val, .bool l.neg] 62)
  have hg0 : Gr [] w ((w.alloc (.cells #[.slice xo s.mod.doms.length xc, .slice yo s.mod.cons.length yc, .slice lo s.lv.length lc] 61)).alloc (.cells #[.int .i64 l.var, .int .i64 l.val, .bool l.neg] 62)) := ((Gr.refl [] w).alloc _).alloc _
  have Hg0 := hid hg0; have Hb0 := hid h20.1; have Hl0 := hid h20.2
  have fl0 := fld h20.1
  clear hv hg0 h20
  go_enter Tryz.func6, Tryz.ntmps6
  go_wp2_with fail
  have hcall := szStore_c s 1048576 _ _ (Hv.out.gr Hg0.out) (by omega)
  (with_reducible refine hcall.mono ?_)
  clear hcall
  rintro e w1 ⟨rfl, hg1⟩
  have Hb1 := hid (hg1.obj Hb0.out (by simp)); have Hl1 := hid (hg1.obj Hl0.out (by simp)); have Hg1 := hid (Hg0.out.trans hg1)
  clear fl0 hg1
  obtain ⟨Q, hQ⟩ : ∃ Q, Q = szSto s := ⟨_, rfl⟩
  rw [← hQ]
  by_cases hbig : (1048576 : Int) < (Q : Int)
  · rw [cut_neg hbig]
    go_wp2_with fail
    go_ret
    exact ⟨rfl, Hg1.out⟩
  rw [cut_pos (by omega)]
  obtain ⟨z, hz⟩ : ∃ z : Int, z = 1048576 - (Q : Int) := ⟨_, rfl⟩
  rw [← hz]
  have hz0 : 0 ≤ z ∧ z ≤ 1048576 := by omega
  obtain ⟨k1, k2, k3, k4, k5⟩ := szSto_small (s := s) (by omega)
  have Hs := hid k1; have HlL := hid k2; have HlR := hid k3; have Hmo := hid k4; have HmR := hid k5
  obtain ⟨C, hC⟩ := cur_any s
  obtain ⟨R, hR⟩ : ∃ R, R = decR s l C := ⟨_, rfl⟩
  obtain ⟨bd, hbd⟩ : ∃ bd, bd = decB s l := ⟨_, rfl⟩
  have HRk : Hid (mkR R.lv ≤ 2000000) := hid (by rw [hR]; have := decR_k s l C hC; omega)
  have HRm : Hid (mkMo R.mod ≤ 2097152) := hid (by rw [hR]; have := decR_mo s l C; omega)
  have HC := hid hC; have HR := hid hR; have Hbd := hid hbd
  clear hz hbig hC hR hbd hQ k1 k2 k3 k4 k5
  go_wp2_with fail
  have HVR := hid (Hv.out.gr Hg1.out)
  go_cut [6, 7] from 22 to 29 (fun p v wx => XdS w1 wx R bd p v)
  case first =>
    have HK0 : Hid True := hid trivial
    have HS : Hid (∀ W, Gr [] w1 W → ((W.cell? ⟨w.heap.size, 0, none⟩ = some (.slice xo s.mod.doms.length xc) ∧ W.cell? ⟨w.heap.size, 1, none⟩ = some (.slice yo s.mod.cons.length yc) ∧ W.cell? ⟨w.heap.size, 2, none⟩ = some (.slice lo s.lv.length lc)) ∧ (W.cell? ⟨w.heap.size + 1, 0, none⟩ = some (.int .i64 l.var) ∧ W.cell? ⟨w.heap.size + 1, 1, none⟩ = some (.int .i64 l.val) ∧ W.cell? ⟨w.heap.size + 1, 2, none⟩ = some (.bool l.neg))) ∧ Gr [] w1 W) := hid fun W h => ⟨⟨⟨fld (h.obj Hb1.out (by simp)) 0, fld (h.obj Hb1.out (by simp)) 1, fld (h.obj Hb1.out (by simp)) 2⟩, ⟨fld (h.obj Hl1.out (by simp)) 0, fld (h.obj Hl1.out (by simp)) 1, fld (h.obj Hl1.out (by simp)) 2⟩⟩, h⟩
    go_region_held_law (fun W => ((W.cell? ⟨w.heap.size, 0, none⟩ = some (.slice xo s.mod.doms.length xc) ∧ W.cell? ⟨w.heap.size, 1, none⟩ = some (.slice yo s.mod.cons.length yc) ∧ W.cell? ⟨w.heap.size, 2, none⟩ = some (.slice lo s.lv.length lc)) ∧ (W.cell? ⟨w.heap.size + 1, 0, none⟩ = some (.int .i64 l.var) ∧ W.cell? ⟨w.heap.size + 1, 1, none⟩ = some (.int .i64 l.val) ∧ W.cell? ⟨w.heap.size + 1, 2, none⟩ = some (.bool l.neg))) ∧ Gr [] w1 W)
      ((refine HS.out _ ?_; first | (with_reducible first | exact (Gr.refl [] w1).drew | exact ((Gr.refl [] w1).drew).alloc _ | exact ((Gr.refl [] w1).alloc _).drew | exact HG1.out | exact HG1.out.alloc _ | exact HG2.out | exact HG2.out.alloc _ | exact HG3.out | exact HG3.out.alloc _ | exact (HG3.out.alloc _).set3w HG3.out.size _ _ _ | exact HG3.out.set3w (Nat.le_refl _) _ _ _ | exact HG3.out.set3w HG1.out.size _ _ _ | exact HG3.out.set3w HG2.out.size _ _ _ | assumption) | exact (Gr.refl [] w1).drew | exact ((Gr.refl [] w1).drew).alloc _ | exact ((Gr.refl [] w1).alloc _).drew | exact HG1.out | exact HG1.out.alloc _ | exact HG2.out | exact HG2.out.alloc _ | exact HG3.out | exact HG3.out.alloc _ | exact (HG3.out.alloc _).set3w HG3.out.size _ _ _ | exact HG3.out.set3w (Nat.le_refl _) _ _ _ | exact HG3.out.set3w HG1.out.size _ _ _ | exact HG3.out.set3w HG2.out.size _ _ _ | assumption))
      (first
      | (have hq := HK0.out; clear hq; go_simp; go_at_call 29; refine (toStore_c s _ _ (HVR.out.gr (by first | exact (Gr.refl [] w1).drew | exact ((Gr.refl [] w1).drew).alloc _)) Hs.out HlL.out HlR.out).mono ?_; rintro e wa ⟨dva, cva, lva, rfl, hma, hra, hgn⟩; have hgx : Gr [] w1 wa := (by first | exact ((Gr.refl [] w1).drew).trans hgn | exact (((Gr.refl [] w1).drew).alloc _).trans hgn); have hsz0 := hgn.size; (try simp at hsz0); (try (have hz : wa.heap[w1.heap.size]? = some (.cells #[.slice none 0 0, .slice none 0 0, .slice none 0 0] 29 (0, 0)) := hgn.obj (heap_alloc_new w1.drew (.cells #[.slice none 0 0, .slice none 0 0, .slice none 0 0] 29)) (by simp); have HZ := hid hz; have hzl := lt_of_block hz; have fz := fld hz; have ffz := fldF hz; clear hz)); have HG1 := hid hgx; have HGN1 := hid hgn; have HK1 : Hid True := hid trivial; have HSA := hid (StoV.mk (S := []) (hma.mod (by simp)) (hra.rows (by simp))); clear HK0 hma hra hgn hgx; (try dsimp only))
      | (have hq := HK1.out; clear hq; go_simp; go_at_call 30; refine (toLiteral_c l _).mono ?_; rintro e wb ⟨rfl, hgn⟩; have hgx : Gr [] w1 wb := (by first | exact (HG1.out).trans hgn | exact (HG1.out.alloc _).trans hgn); have hsz1 := hgn.size; (try simp at hsz1); (try (have hz : wb.heap[wa.heap.size]? = some (.cells #[.slice none 0 0, .slice none 0 0, .slice none 0 0] 29 (0, 0)) := hgn.obj (heap_alloc_new wa (.cells #[.slice none 0 0, .slice none 0 0, .slice none 0 0] 29)) (by simp); have HZ := hid hz; have hzl := lt_of_block hz; have fz := fld hz; have ffz := fldF hz; clear hz)); (try (have hz : wb.heap[w1.heap.size]? = some (.cells #[.slice none 0 0, .slice none 0 0, .slice none 0 0] 29 (0, 0)) := hgn.obj HZ.out (by simp); have HZ := hid hz; have hzl := lt_of_block hz; have fz := fld hz; have ffz := fldF hz; clear hz)); have HG2 := hid hgx; have HGN2 := hid hgn; have HK2 : Hid True := hid trivial; have HSA2 := hid (HSA.out.gr (by first | exact hgn | exact ((Gr.refl [] _).alloc _).trans hgn)); clear HK1 hgn hgx; (try dsimp only))
      | (have hq := HK2.out; clear hq; go_simp; go_at_call 9; refine (specDecide_s s l C _ _ (HSA2.out.gr (by first | exact Gr.refl [] _ | exact (Gr.refl [] _).alloc _)) Hs.out HC.out).mono ?_; rw [← HR.out, ← Hbd.out]; rintro e wc ⟨vd, rfl, hst, hgn⟩; obtain ⟨rao, rac, rbo, rbc, rco, rcc, rfl, -, -⟩ := (hst [] (by simp)).open; have hgx : Gr [] w1 wc := (by first | exact (HG2.out).trans hgn | exact (HG2.out.alloc _).trans hgn); have hsz2 := hgn.size; (try simp at hsz2); (try (have hz : wc.heap[wb.heap.size]? = some (.cells #[.slice none 0 0, .slice none 0 0, .slice none 0 0] 29 (0, 0)) := hgn.obj (heap_alloc_new wb (.cells #[.slice none 0 0, .slice none 0 0, .slice none 0 0] 29)) (by simp); have HZ := hid hz; have hzl := lt_of_block hz; have fz := fld hz; have ffz := fldF hz; clear hz)); (try (have hz : wc.heap[w1.heap.size]? = some (.cells #[.slice none 0 0, .slice none 0 0, .slice none 0 0] 29 (0, 0)) := hgn.obj HZ.out (by simp); have HZ := hid hz; have hzl := lt_of_block hz; have fz := fld hz; have ffz := fldF hz; clear hz)); (try (have hz : wc.heap[wa.heap.size]? = some (.cells #[.slice none 0 0, .slice none 0 0, .slice none 0 0] 29 (0, 0)) := hgn.obj HZ.out (by simp); have HZ := hid hz; have hzl := lt_of_block hz; have fz := fld hz; have ffz := fldF hz; clear hz)); have HG3 := hid hgx; have HGN3 := hid hgn; have HK3 : Hid True := hid trivial; have HST := hid hst; clear HK2 hst hgn hgx; (try dsimp only)))
    all_goals
      go_wp2_with fail
      go_meet
      first
      | exact xdS_meet (X := wc.heap.size) HG3.out HST.out (by (try simp); (try omega)) (Gr.any ((Gr.refl [] wc).alloc _)) (sto3 _ _ _ _) HG3.out.size (.inr (Nat.le_refl _))
      | exact xdS_meet (X := wb.heap.size) HG3.out HST.out (by (try simp); (try omega)) (set3 _ _ _ HZ.out).2 (set3 _ _ _ HZ.out).1 HG2.out.size (.inl (by (try simp); (try omega)))
      | exact xdS_meet (X := wa.heap.size) HG3.out HST.out (by (try simp); (try omega)) (set3 _ _ _ HZ.out).2 (set3 _ _ _ HZ.out).1 HG1.out.size (.inl (by (try simp); (try omega)))
      | exact xdS_meet (X := w1.heap.size) HG3.out HST.out (by (try simp); (try omega)) (set3 _ _ _ HZ.out).2 (set3 _ _ _ HZ.out).1 (Nat.le_refl _) (.inl (by (try simp); (try omega)))
  case rest =>
    obtain ⟨XA, aao, aac, abo, abc, aco, acc, rfl, rfl, hxa, hXa1, hsa, hg4⟩ := hcut
    have HA4 := hid hxa; have Hr4 := hid hsa; have Hg14 := hid hg4
    have Hg4 := hid (Hg1.out.trans hg4)
    have Hb4 := hid (hg4.obj Hb1.out (by simp)); have Hl4 := hid (hg4.obj Hl1.out (by simp))
    have hA4 := lt_of_block hxa
    have hs14 := hg4.size
    have fb4 := fld Hb4.out
    clear hxa hsa hg4
    obtain ⟨w4, rfl⟩ : ∃ w4 : World, w4 = wc := ⟨_, rfl⟩
    go_wp2_with fail
    have hcall := toStore_c s _ w4 (Hv.out.gr Hg4.out) Hs.out HlL.out HlR.out
    (with_reducible refine hcall.mono ?_)
    clear hcall
    rintro e w5 ⟨dv5, cv5, lv5, rfl, hm5, hrr5, hg5⟩
    obtain ⟨xao, xac, xbo, xbc, e5⟩ := ModV.slices (hm5.mod (S := []) (by simp))
    simp only [Value.agg.injEq, Array.mk.injEq, List.cons.injEq, and_true] at e5
    obtain ⟨rfl, rfl⟩ := e5
    obtain ⟨xco, xcc, rfl, -, -⟩ := id hrr5
    have ha6 : Gr [] w5 (w5.alloc (.cells #[.slice xao s.mod.doms.length xac, .slice xbo s.mod.cons.length xbc, .slice xco s.lv.length xcc] 29)) := (Gr.refl _ _).alloc _
    have hx6 := sto3 w5 (.slice xao s.mod.doms.length xac) (.slice xbo s.mod.cons.length xbc) (.slice xco s.lv.length xcc)
    have hs6 : (w5.alloc (.cells #[.slice xao s.mod.doms.length xac, .slice xbo s.mod.cons.length xbc, .slice xco s.lv.length xcc] 29)).heap.size = w5.heap.size + 1 := by simp
    have hs45 := hg5.size
    have HX6 := hid hx6; have Hg46 := hid (hg5.trans ha6)
    have HX0 : Hid (StoV [] (w5.alloc (.cells #[.slice xao s.mod.doms.length xac, .slice xbo s.mod.cons.length xbc, .slice xco s.lv.length xcc] 29)) (.agg #[.slice xao s.mod.doms.length xac, .slice xbo s.mod.cons.length xbc, .slice xco s.lv.length xcc]) s) := hid ((StoV.mk (hm5.mod (by simp)) (hrr5.rows (by simp))).gr ha6)
    have Hh6 := hid (hm5.gr' (M' := New w4.heap.size w5) ha6 (by simp) (fun _ _ h => h)); have Hk6 := hid (hrr5.gr' (M' := New w4.heap.size w5) ha6 (by simp) (fun _ _ h => h))
    have Hl6 := hid ((hg5.trans ha6).obj Hl4.out (by simp))
    clear hm5 hrr5 hg5 ha6 hx6 fb4
    go_wp2_with fail
    generalize hW6 : w5.alloc (.cells #[.slice xao s.mod.doms.length xac, .slice xbo s.mod.cons.length xbc, .slice xco s.lv.length xcc] 29) = w6 at *
    clear hW6
    have Hs6 := hid hs6; clear hs6
    go_cut [9, 10] from 32 to 38 (fun p v wx => XdF w6 wx R bd p v)
    case first =>
      have HK0 : Hid True := hid trivial
      have HS : Hid (∀ W, Gr [] w6 W → ((W.cell? ⟨w5.heap.size, 0, none⟩ = some (.slice xao s.mod.doms.length xac) ∧ W.cell? ⟨w5.heap.size, 1, none⟩ = some (.slice xbo s.mod.cons.length xbc) ∧ W.cell? ⟨w5.heap.size, 2, none⟩ = some (.slice xco s.lv.length xcc)) ∧ (W.cell? ⟨w.heap.size + 1, 0, none⟩ = some (.int .i64 l.var) ∧ W.cell? ⟨w.heap.size + 1, 1, none⟩ = some (.int .i64 l.val) ∧ W.cell? ⟨w.heap.size + 1, 2, none⟩ = some (.bool l.neg))) ∧ Gr [] w6 W) := hid fun W h => ⟨⟨⟨fld (h.obj HX6.out (by simp)) 0, fld (h.obj HX6.out (by simp)) 1, fld (h.obj HX6.out (by simp)) 2⟩, ⟨fld (h.obj Hl6.out (by simp)) 0, fld (h.obj Hl6.out (by simp)) 1, fld (h.obj Hl6.out (by simp)) 2⟩⟩, h⟩
      go_region_held_law (fun W => ((W.cell? ⟨w5.heap.size, 0, none⟩ = some (.slice xao s.mod.doms.length xac) ∧ W.cell? ⟨w5.heap.size, 1, none⟩ = some (.slice xbo s.mod.cons.length xbc) ∧ W.cell? ⟨w5.heap.size, 2, none⟩ = some (.slice xco s.lv.length xcc)) ∧ (W.cell? ⟨w.heap.size + 1, 0, none⟩ = some (.int .i64 l.var) ∧ W.cell? ⟨w.heap.size + 1, 1, none⟩ = some (.int .i64 l.val) ∧ W.cell? ⟨w.heap.size + 1, 2, none⟩ = some (.bool l.neg))) ∧ Gr [] w6 W)
        ((refine HS.out _ ?_; first | (with_reducible first | exact (Gr.refl [] w6).drew | exact ((Gr.refl [] w6).drew).alloc _ | exact ((Gr.refl [] w6).alloc _).drew | exact HG1.out | exact HG1.out.alloc _ | exact HG2.out | exact HG2.out.alloc _ | exact (HG2.out.alloc _).set3w HG2.out.size _ _ _ | exact HG2.out.set3w (Nat.le_refl _) _ _ _ | exact HG2.out.set3w HG1.out.size _ _ _ | assumption) | exact (Gr.refl [] w6).drew | exact ((Gr.refl [] w6).drew).alloc _ | exact ((Gr.refl [] w6).alloc _).drew | exact HG1.out | exact HG1.out.alloc _ | exact HG2.out | exact HG2.out.alloc _ | exact (HG2.out.alloc _).set3w HG2.out.size _ _ _ | exact HG2.out.set3w (Nat.le_refl _) _ _ _ | exact HG2.out.set3w HG1.out.size _ _ _ | assumption))
        (first
        | (have hq := HK0.out; clear hq; go_simp; go_at_call 30; refine (toLiteral_c l _).mono ?_; rintro e wa ⟨rfl, hgn⟩; have hgx : Gr [] w6 wa := (by first | exact ((Gr.refl [] w6).drew).trans hgn | exact (((Gr.refl [] w6).drew).alloc _).trans hgn); have hsz0 := hgn.size; (try simp at hsz0); (try (have hz : wa.heap[w6.heap.size]? = some (.cells #[.slice none 0 0, .slice none 0 0, .slice none 0 0] 29 (0, 0)) := hgn.obj (heap_alloc_new w6.drew (.cells #[.slice none 0 0, .slice none 0 0, .slice none 0 0] 29)) (by simp); have HZ := hid hz; have hzl := lt_of_block hz; have fz := fld hz; have ffz := fldF hz; clear hz)); have HG1 := hid hgx; have HGN1 := hid hgn; have HK1 : Hid True := hid trivial; clear HK0 hgn hgx; (try dsimp only))
        | (have hq := HK1.out; clear hq; go_simp; go_at_call 8; refine (Decide_l s l C _ _ (HX0.out.gr (by first | exact HG1.out | exact HG1.out.alloc _)) Hs.out HC.out).mono ?_; rw [← HR.out, ← Hbd.out]; rintro e wb ⟨vd, rfl, hst, hgn⟩; obtain ⟨rao, rac, rbo, rbc, rco, rcc, rfl, -, -⟩ := (hst.sto (S := []) (by simp)).open; have hgx : Gr [] w6 wb := (by first | exact (HG1.out).trans hgn | exact (HG1.out.alloc _).trans hgn); have hsz1 := hgn.size; (try simp at hsz1); (try (have hz : wb.heap[wa.heap.size]? = some (.cells #[.slice none 0 0, .slice none 0 0, .slice none 0 0] 29 (0, 0)) := hgn.obj (heap_alloc_new wa (.cells #[.slice none 0 0, .slice none 0 0, .slice none 0 0] 29)) (by simp); have HZ := hid hz; have hzl := lt_of_block hz; have fz := fld hz; have ffz := fldF hz; clear hz)); (try (have hz : wb.heap[w6.heap.size]? = some (.cells #[.slice none 0 0, .slice none 0 0, .slice none 0 0] 29 (0, 0)) := hgn.obj HZ.out (by simp); have HZ := hid hz; have hzl := lt_of_block hz; have fz := fld hz; have ffz := fldF hz; clear hz)); have HG2 := hid hgx; have HGN2 := hid hgn; have HK2 : Hid True := hid trivial; have HST := hid hst; clear HK1 hst hgn hgx; (try dsimp only)))
      all_goals
        go_wp2_with fail
        go_meet
        first
        | exact xdF_meet (X := wb.heap.size) HG2.out HST.out (by (try simp); (try omega)) (Gr.any ((Gr.refl [] wb).alloc _)) (sto3 _ _ _ _) HG2.out.size (.inr (Nat.le_refl _))
        | exact xdF_meet (X := wa.heap.size) HG2.out HST.out (by (try simp); (try omega)) (set3 _ _ _ HZ.out).2 (set3 _ _ _ HZ.out).1 HG1.out.size (.inl (by (try simp); (try omega)))
        | exact xdF_meet (X := w6.heap.size) HG2.out HST.out (by (try simp); (try omega)) (set3 _ _ _ HZ.out).2 (set3 _ _ _ HZ.out).1 (Nat.le_refl _) (.inl (by (try simp); (try omega)))
    case rest =>
      obtain ⟨XG, BG, EG, gao, gac, gbo, gbc, gco, gcc, rfl, rfl, hxg, hXg1, hfg, ⟨hBE1, hBE2, hBE3⟩, hg8⟩ := hcut
      obtain ⟨w8, rfl⟩ : ∃ w8 : World, w8 = wc := ⟨_, rfl⟩
      have hs6 := Hs6.out; clear Hs6
      have HG8 := hid hxg; have Hf8 := hid hfg; have Hg68 := hid hg8; have Hg48 := hid (Hg46.out.trans hg8)
      have hG8 := lt_of_block hxg
      have HA8 := hid (Hg48.out.obj HA4.out (by simp)); have HX8 := hid (Hg68.out.obj HX6.out (by simp)); have Hb8 := hid (Hg48.out.obj Hb4.out (by simp)); have Hl8 := hid (Hg48.out.obj Hl4.out (by simp))
      have fa8 := fld HA8.out; have fg8 := fld HG8.out
      have hs68 := hg8.size
      have Hg8 := hid (Hg4.out.trans Hg48.out)
      have hbb : (bd != bd) = false := by simp
      clear hxg hfg hg8
      go_wp2_with fail
      have hcall := eqStore_t R _ _ w8 (Hf8.out.sto (S := []) (by simp)) (Hr4.out.gr Hg48.out)
      (with_reducible refine hcall.mono ?_)
      clear hcall
      rintro e w9 ⟨rfl, hg9⟩
      have Hg89 := hid hg9; have Hg9 := hid (Hg8.out.trans hg9)
      have HA9 := hid (hg9.obj HA8.out (by simp)); have HX9 := hid (hg9.obj HX8.out (by simp)); have Hb9 := hid (hg9.obj Hb8.out (by simp)); have HG9 := hid (hg9.obj HG8.out (by simp)); have Hl9 := hid (hg9.obj Hl8.out (by simp))
      have Hm9 := hid (HX0.out.gr (Hg68.out.trans hg9)); have Hf9 := hid (Hf8.out.gr hg9 (by simp)); have Hr9 := hid (Hr4.out.gr (Hg48.out.trans hg9))
      have Hh9 := hid (Hh6.out.gr' (M' := New w4.heap.size w5) (Hg68.out.trans hg9) (by simp) (fun _ _ h => h)); have Hk9 := hid (Hk6.out.gr' (M' := New w4.heap.size w5) (Hg68.out.trans hg9) (by simp) (fun _ _ h => h))
      have hs9 := hg9.size
      clear hg9 fa8 fg8
      go_wp2_with fail
      have HS9 : Hid (∀ W, Gr [] w9 W → ((W.cell? ⟨w5.heap.size, 0, none⟩ = some (.slice xao s.mod.doms.length xac) ∧ W.cell? ⟨w5.heap.size, 1, none⟩ = some (.slice xbo s.mod.cons.length xbc) ∧ W.cell? ⟨w5.heap.size, 2, none⟩ = some (.slice xco s.lv.length xcc)) ∧ (W.cell? ⟨w.heap.size, 0, none⟩ = some (.slice xo s.mod.doms.length xc) ∧ W.cell? ⟨w.heap.size, 1, none⟩ = some (.slice yo s.mod.cons.length yc) ∧ W.cell? ⟨w.heap.size, 2, none⟩ = some (.slice lo s.lv.length lc))) ∧ Gr [] w9 W) := hid fun W h => ⟨⟨⟨fld (h.obj HX9.out (by simp)) 0, fld (h.obj HX9.out (by simp)) 1, fld (h.obj HX9.out (by simp)) 2⟩, fld (h.obj Hb9.out (by simp)) 0, fld (h.obj Hb9.out (by simp)) 1, fld (h.obj Hb9.out (by simp)) 2⟩, h⟩
      go_region_held_law (fun W => ((W.cell? ⟨w5.heap.size, 0, none⟩ = some (.slice xao s.mod.doms.length xac) ∧ W.cell? ⟨w5.heap.size, 1, none⟩ = some (.slice xbo s.mod.cons.length xbc) ∧ W.cell? ⟨w5.heap.size, 2, none⟩ = some (.slice xco s.lv.length xcc)) ∧ (W.cell? ⟨w.heap.size, 0, none⟩ = some (.slice xo s.mod.doms.length xc) ∧ W.cell? ⟨w.heap.size, 1, none⟩ = some (.slice yo s.mod.cons.length yc) ∧ W.cell? ⟨w.heap.size, 2, none⟩ = some (.slice lo s.lv.length lc))) ∧ Gr [] w9 W)
        ((refine HS9.out _ ?_; with_reducible first | exact (Gr.refl [] w9).drew | exact Gr.refl [] w9 | exact HGa.out | exact HGb.out | assumption))
        (first
        | (go_simp; go_at_call 29; refine (toStore_c s _ _ (Hv.out.gr (Hg9.out.trans (Gr.refl [] w9).drew)) Hs.out HlL.out HlR.out).mono ?_; rintro e w10 ⟨dva, cva, lva, rfl, hm10, hr10, hg10⟩; have HGa := hid (((Gr.refl [] w9).drew).trans hg10); have Hm10 := hid (StoV.mk (S := []) (hm10.mod (by simp)) (hr10.rows (by simp))); clear hm10 hr10 hg10; (try dsimp only))
        | (go_simp; go_at_call 31; refine (eqStore_t s _ _ _ (Hm9.out.gr HGa.out) Hm10.out).mono ?_; rintro e w11 ⟨rfl, hg11⟩; have HGb := hid (HGa.out.trans hg11); clear hg11; (try dsimp only)))
      all_goals
        obtain ⟨LX, hLX⟩ : ∃ L : List Nat, ∀ i, i ∈ L ↔ w4.heap.size ≤ i ∧ i < w5.heap.size :=
          ⟨List.range' w4.heap.size (w5.heap.size - w4.heap.size), fun i => by rw [List.mem_range'_1]; omega⟩
        obtain ⟨L, hL⟩ : ∃ L : List Nat, ∀ i, i ∈ L ↔ (w4.heap.size ≤ i ∧ i < w5.heap.size) ∨ (BG ≤ i ∧ i < EG) :=
          ⟨LX ++ List.range' BG (EG - BG), fun i => by rw [List.mem_append, hLX, List.mem_range'_1]; omega⟩
        have HLX := hid hLX; have HL := hid hL
        have hw4 : w.heap.size < w4.heap.size := lt_of_block Hb4.out
        have hw4l : w.heap.size + 1 < w4.heap.size := lt_of_block Hl4.out
        have HrL := hid ((StoV.sub (S' := L) Hr4.out (fun b hb hm => by have := (HL.out b).1 hm; omega)).gr (Hg48.out.trans (Hg89.out.trans HGb.out)).any)
        have HvL := hid ((StoV.sub (S' := L) Hv.out (fun b hb hm => by have := (HL.out b).1 hm; omega)).gr (Hg9.out.trans HGb.out).any)
        have Hh11 := hid (Hh9.out.gr' (M' := New w4.heap.size w5) HGb.out (by simp) (fun _ _ h => h)); have Hk11 := hid (Hk9.out.gr' (M' := New w4.heap.size w5) HGb.out (by simp) (fun _ _ h => h))
        have Hf11 := hid (Hf9.out.gr HGb.out (by simp))
        have HA11 := hid (HGb.out.obj HA9.out (by simp)); have Hb11 := hid (HGb.out.obj Hb9.out (by simp)); have Hl11 := hid (HGb.out.obj Hl9.out (by simp)); have HG11 := hid (HGb.out.obj HG9.out (by simp)); have Hg11 := hid (Hg9.out.trans HGb.out)
        have fx11 := fld (HGb.out.obj HX9.out (by simp))
        clear hLX hL
        go_wp2_with fail
        have hcall := markStore_w (New w4.heap.size w5) s.mod s.lv 1 _ _ _ _ Hh11.out Hk11.out (by omega) (by have := Hmo.out; omega) (by have := HmR.out; omega)
        (with_reducible refine hcall.mono ?_)
        clear hcall
        rintro e w12 ⟨rfl, hmk12, -⟩
        have hg12 := hmk12.grL (L := LX) (fun k hk => (HLX.out k).2 ⟨hk.1, hk.2⟩)
        have hgL12 : Gr L _ w12 := hg12.sub (fun k _ hk => (HL.out k).2 (.inl ((HLX.out k).1 hk)))
        obtain ⟨K, hK⟩ : ∃ K : Int, K = 1 + (mkMo s.mod : Int) + (mkR s.lv : Int) := ⟨_, rfl⟩
        rw [← hK]
        have hK0 : 0 ≤ K := by omega
        have HA12 := hid (hg12.obj HA11.out (fun h => by have := (HLX.out _).1 h; omega)); have Hb12 := hid (hg12.obj Hb11.out (fun h => by have := (HLX.out _).1 h; omega)); have Hl12 := hid (hg12.obj Hl11.out (fun h => by have := (HLX.out _).1 h; omega)); have HG12 := hid (hg12.obj HG11.out (fun h => by have := (HLX.out _).1 h; omega))
        have Hf12 := hid (Hf11.out.gr hg12 (fun b hb => .inl (by have := (HLX.out b).1 hb; omega)))
        have HrM := hid (HrL.out.gr hgL12); have HvM := hid (HvL.out.gr hgL12)
        have Hg12 := hid (Hg11.out.step hg12 (fun i hi => .inr (by have := (HLX.out i).1 hi; omega)))
        have fa12 := fld HA12.out; have fg12 := fld HG12.out
        clear hmk12 hg12 hgL12 hK fx11
        go_wp2_with fail
        have hcall := eqStore_t R _ _ w12 (Hf12.out.sto (S := []) (by simp)) (HrM.out.sub (by simp))
        (with_reducible refine hcall.mono ?_)
        clear hcall
        rintro e w13 ⟨rfl, hg13⟩
        have HA13 := hid (hg13.obj HA12.out (by simp)); have Hb13 := hid (hg13.obj Hb12.out (by simp)); have Hl13 := hid (hg13.obj Hl12.out (by simp)); have HG13 := hid (hg13.obj HG12.out (by simp))
        have Hf13 := hid (Hf12.out.gr hg13 (by simp)); have HrN := hid (HrM.out.gr hg13.any); have HvN := hid (HvM.out.gr hg13.any); have Hg13 := hid (Hg12.out.trans hg13)
        have fg13 := fld HG13.out
        clear hg13 fa12 fg12
        go_wp2_with fail
        obtain ⟨dv0, cv0, lv0, e13, hM13, hR13, hN13⟩ := Hf13.out
        simp only [Value.agg.injEq, Array.mk.injEq, List.cons.injEq, and_true] at e13
        obtain ⟨rfl, rfl, rfl⟩ := e13
        have HM13 := hid hM13; have HR13 := hid hR13; have HN13 := hid hN13
        obtain ⟨za, hza⟩ : ∃ z, z = mkMo R.mod := ⟨_, rfl⟩
        obtain ⟨zb, hzb⟩ : ∃ z, z = mkR R.lv := ⟨_, rfl⟩
        have Hza := hid hza; have Hzb := hid hzb
        have hza0 : za ≤ 2097152 := by rw [hza]; exact HRm.out
        have hzb0 : zb ≤ 2000000 := by rw [hzb]; exact HRk.out
        clear hM13 hR13 hN13 hza hzb
        have hcall := markStore_w (fun b => BG ≤ b ∧ b < EG) R.mod R.lv 1 _ _ _ w13 HM13.out HR13.out (by omega) (by have := HRm.out; omega) (by have := HRk.out; omega)
        (with_reducible refine hcall.mono ?_)
        clear hcall
        rw [← Hza.out, ← Hzb.out]
        rintro e w14 ⟨rfl, hmk14, hw14⟩
        have HMd := hid (Marked.of HM13.out HR13.out HN13.out hmk14 hw14)
        rw [← Hza.out, ← Hzb.out] at HMd
        have hgL14 : Gr L w13 w14 := hmk14.grL (L := L) (fun k hk => (HL.out k).2 (.inr hk))
        have HA14 := hid (hgL14.obj HA13.out (fun h => by have := (HL.out _).1 h; omega)); have Hb14 := hid (hgL14.obj Hb13.out (fun h => by have := (HL.out _).1 h; omega)); have Hl14 := hid (hgL14.obj Hl13.out (fun h => by have := (HL.out _).1 h; omega)); have HG14 := hid (hgL14.obj HG13.out (fun h => by have := (HL.out _).1 h; omega))
        have HrO := hid (HrN.out.gr hgL14); have HvO := hid (HvN.out.gr hgL14)
        have Hg14 := hid (Hg13.out.step hgL14 (fun i hi => .inr (by have := (HL.out i).1 hi; omega)))
        have fg14 := fld HG14.out
        clear hmk14 hw14 hgL14 fg13
        go_wp2_with fail
        have hcall := heldStore_m _ za zb _ _ _ w14 HMd.out (by omega) (by omega)
        (with_reducible refine hcall.mono ?_)
        clear hcall
        rintro e w15 ⟨rfl, hg15⟩
        have HA15 := hid (hg15.obj HA14.out (by simp)); have Hb15 := hid (hg15.obj Hb14.out (by simp)); have Hl15 := hid (hg15.obj Hl14.out (by simp)); have HG15 := hid (hg15.obj HG14.out (by simp))
        have HMe := hid (HMd.out.gr hg15); have HrP := hid (HrO.out.gr hg15.any); have HvP := hid (HvO.out.gr hg15.any); have Hg15 := hid (Hg14.out.trans hg15)
        have HVR := hid (HvP.out.sub (S' := []) (by simp))
        clear hg15 fg14
        go_wp2_with fail
        go_cut [14, 15] from 80 to 87 (fun p v wx => XdF w15 wx R bd p v)
        case first =>
          have HK0 : Hid True := hid trivial
          have HS : Hid (∀ W, Gr [] w15 W → ((W.cell? ⟨w.heap.size, 0, none⟩ = some (.slice xo s.mod.doms.length xc) ∧ W.cell? ⟨w.heap.size, 1, none⟩ = some (.slice yo s.mod.cons.length yc) ∧ W.cell? ⟨w.heap.size, 2, none⟩ = some (.slice lo s.lv.length lc)) ∧ (W.cell? ⟨w.heap.size + 1, 0, none⟩ = some (.int .i64 l.var) ∧ W.cell? ⟨w.heap.size + 1, 1, none⟩ = some (.int .i64 l.val) ∧ W.cell? ⟨w.heap.size + 1, 2, none⟩ = some (.bool l.neg))) ∧ Gr [] w15 W) := hid fun W h => ⟨⟨⟨fld (h.obj Hb15.out (by simp)) 0, fld (h.obj Hb15.out (by simp)) 1, fld (h.obj Hb15.out (by simp)) 2⟩, ⟨fld (h.obj Hl15.out (by simp)) 0, fld (h.obj Hl15.out (by simp)) 1, fld (h.obj Hl15.out (by simp)) 2⟩⟩, h⟩
          go_region_held_law (fun W => ((W.cell? ⟨w.heap.size, 0, none⟩ = some (.slice xo s.mod.doms.length xc) ∧ W.cell? ⟨w.heap.size, 1, none⟩ = some (.slice yo s.mod.cons.length yc) ∧ W.cell? ⟨w.heap.size, 2, none⟩ = some (.slice lo s.lv.length lc)) ∧ (W.cell? ⟨w.heap.size + 1, 0, none⟩ = some (.int .i64 l.var) ∧ W.cell? ⟨w.heap.size + 1, 1, none⟩ = some (.int .i64 l.val) ∧ W.cell? ⟨w.heap.size + 1, 2, none⟩ = some (.bool l.neg))) ∧ Gr [] w15 W)
            ((refine HS.out _ ?_; first | (with_reducible first | exact (Gr.refl [] w15).drew | exact ((Gr.refl [] w15).drew).alloc _ | exact ((Gr.refl [] w15).alloc _).drew | exact HG1.out | exact HG1.out.alloc _ | exact HG2.out | exact HG2.out.alloc _ | exact HG3.out | exact HG3.out.alloc _ | exact (HG3.out.alloc _).set3w HG3.out.size _ _ _ | exact HG3.out.set3w (Nat.le_refl _) _ _ _ | exact HG3.out.set3w HG1.out.size _ _ _ | exact HG3.out.set3w HG2.out.size _ _ _ | assumption) | exact (Gr.refl [] w15).drew | exact ((Gr.refl [] w15).drew).alloc _ | exact ((Gr.refl [] w15).alloc _).drew | exact HG1.out | exact HG1.out.alloc _ | exact HG2.out | exact HG2.out.alloc _ | exact HG3.out | exact HG3.out.alloc _ | exact (HG3.out.alloc _).set3w HG3.out.size _ _ _ | exact HG3.out.set3w (Nat.le_refl _) _ _ _ | exact HG3.out.set3w HG1.out.size _ _ _ | exact HG3.out.set3w HG2.out.size _ _ _ | assumption))
            (first
            | (have hq := HK0.out; clear hq; go_simp; go_at_call 29; refine (toStore_c s _ _ (HVR.out.gr (by first | exact (Gr.refl [] w15).drew | exact ((Gr.refl [] w15).drew).alloc _)) Hs.out HlL.out HlR.out).mono ?_; rintro e wa ⟨dva, cva, lva, rfl, hma, hra, hgn⟩; have hgx : Gr [] w15 wa := (by first | exact ((Gr.refl [] w15).drew).trans hgn | exact (((Gr.refl [] w15).drew).alloc _).trans hgn); have hsz0 := hgn.size; (try simp at hsz0); (try (have hz : wa.heap[w15.heap.size]? = some (.cells #[.slice none 0 0, .slice none 0 0, .slice none 0 0] 29 (0, 0)) := hgn.obj (heap_alloc_new w15.drew (.cells #[.slice none 0 0, .slice none 0 0, .slice none 0 0] 29)) (by simp); have HZ := hid hz; have hzl := lt_of_block hz; have fz := fld hz; have ffz := fldF hz; clear hz)); have HG1 := hid hgx; have HGN1 := hid hgn; have HK1 : Hid True := hid trivial; have HSA := hid (StoV.mk (S := []) (hma.mod (by simp)) (hra.rows (by simp))); clear HK0 hma hra hgn hgx; (try dsimp only))
            | (have hq := HK1.out; clear hq; go_simp; go_at_call 30; refine (toLiteral_c l _).mono ?_; rintro e wb ⟨rfl, hgn⟩; have hgx : Gr [] w15 wb := (by first | exact (HG1.out).trans hgn | exact (HG1.out.alloc _).trans hgn); have hsz1 := hgn.size; (try simp at hsz1); (try (have hz : wb.heap[wa.heap.size]? = some (.cells #[.slice none 0 0, .slice none 0 0, .slice none 0 0] 29 (0, 0)) := hgn.obj (heap_alloc_new wa (.cells #[.slice none 0 0, .slice none 0 0, .slice none 0 0] 29)) (by simp); have HZ := hid hz; have hzl := lt_of_block hz; have fz := fld hz; have ffz := fldF hz; clear hz)); (try (have hz : wb.heap[w15.heap.size]? = some (.cells #[.slice none 0 0, .slice none 0 0, .slice none 0 0] 29 (0, 0)) := hgn.obj HZ.out (by simp); have HZ := hid hz; have hzl := lt_of_block hz; have fz := fld hz; have ffz := fldF hz; clear hz)); have HG2 := hid hgx; have HGN2 := hid hgn; have HK2 : Hid True := hid trivial; have HSA2 := hid (HSA.out.gr (by first | exact hgn | exact ((Gr.refl [] _).alloc _).trans hgn)); clear HK1 hgn hgx; (try dsimp only))
            | (have hq := HK2.out; clear hq; go_simp; go_at_call 8; refine (Decide_l s l C _ _ (HSA2.out.gr (by first | exact Gr.refl [] _ | exact (Gr.refl [] _).alloc _)) Hs.out HC.out).mono ?_; rw [← HR.out, ← Hbd.out]; rintro e wc ⟨vd, rfl, hst, hgn⟩; obtain ⟨rao, rac, rbo, rbc, rco, rcc, rfl, -, -⟩ := (hst.sto (S := []) (by simp)).open; have hgx : Gr [] w15 wc := (by first | exact (HG2.out).trans hgn | exact (HG2.out.alloc _).trans hgn); have hsz2 := hgn.size; (try simp at hsz2); (try (have hz : wc.heap[wb.heap.size]? = some (.cells #[.slice none 0 0, .slice none 0 0, .slice none 0 0] 29 (0, 0)) := hgn.obj (heap_alloc_new wb (.cells #[.slice none 0 0, .slice none 0 0, .slice none 0 0] 29)) (by simp); have HZ := hid hz; have hzl := lt_of_block hz; have fz := fld hz; have ffz := fldF hz; clear hz)); (try (have hz : wc.heap[w15.heap.size]? = some (.cells #[.slice none 0 0, .slice none 0 0, .slice none 0 0] 29 (0, 0)) := hgn.obj HZ.out (by simp); have HZ := hid hz; have hzl := lt_of_block hz; have fz := fld hz; have ffz := fldF hz; clear hz)); (try (have hz : wc.heap[wa.heap.size]? = some (.cells #[.slice none 0 0, .slice none 0 0, .slice none 0 0] 29 (0, 0)) := hgn.obj HZ.out (by simp); have HZ := hid hz; have hzl := lt_of_block hz; have fz := fld hz; have ffz := fldF hz; clear hz)); have HG3 := hid hgx; have HGN3 := hid hgn; have HK3 : Hid True := hid trivial; have HST := hid hst; clear HK2 hst hgn hgx; (try dsimp only)))
          all_goals
            go_wp2_with fail
            go_meet
            first
            | exact xdF_meet (X := wc.heap.size) HG3.out HST.out (by (try simp); (try omega)) (Gr.any ((Gr.refl [] wc).alloc _)) (sto3 _ _ _ _) HG3.out.size (.inr (Nat.le_refl _))
            | exact xdF_meet (X := wb.heap.size) HG3.out HST.out (by (try simp); (try omega)) (set3 _ _ _ HZ.out).2 (set3 _ _ _ HZ.out).1 HG2.out.size (.inl (by (try simp); (try omega)))
            | exact xdF_meet (X := wa.heap.size) HG3.out HST.out (by (try simp); (try omega)) (set3 _ _ _ HZ.out).2 (set3 _ _ _ HZ.out).1 HG1.out.size (.inl (by (try simp); (try omega)))
            | exact xdF_meet (X := w15.heap.size) HG3.out HST.out (by (try simp); (try omega)) (set3 _ _ _ HZ.out).2 (set3 _ _ _ HZ.out).1 (Nat.le_refl _) (.inl (by (try simp); (try omega)))
        case rest =>
          obtain ⟨XH, BH, EH, hao, hac, hbo, hbc, hco, hcc, rfl, rfl, hxh, -, hfh, -, hg18⟩ := hcut
          obtain ⟨w18, rfl⟩ : ∃ w18 : World, w18 = wc := ⟨_, rfl⟩
          have Hg18 := hid hg18; have Hs18 := hid (hfh.sto (S := []) (by simp))
          have fh18 := fld hxh; have fa18 := fld (Hg18.out.obj HA15.out (by simp))
          clear hxh hfh hg18
          go_wp2_with fail
          have hcall := eqStore_t R _ _ w18 Hs18.out ((HrP.out.gr Hg18.out.any).sub (by simp))
          (with_reducible refine hcall.mono ?_)
          clear hcall
          rintro e w19 ⟨rfl, hg19⟩
          have Hg19 := hid (Hg18.out.trans hg19)
          have fg19 := fld (Hg19.out.obj HG15.out (by simp))
          have HMf := hid (HMe.out.gr Hg19.out)
          clear hg19 fh18 fa18
          go_wp2_with fail
          have hcall := heldStore_m _ za zb _ _ _ w19 HMf.out (by omega) (by omega)
          (with_reducible refine hcall.mono ?_)
          clear hcall
          rintro e w20 ⟨rfl, hg20⟩
          go_wp2_with fail
          go_ret
          exact ⟨rfl, (Hg15.out.trans Hg19.out).trans hg20⟩

end Go.Proofs.YtihkeihnpiddoaaGreat
