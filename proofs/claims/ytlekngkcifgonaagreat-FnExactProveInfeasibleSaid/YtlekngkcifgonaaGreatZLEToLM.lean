/-
  Literals that came in as arguments: walks of the exact laws' conversions of lists of them: sizes, copies, comparisons, marks.
  How lists of literals that came in as an argument are read.
  Lists of clauses that came in as an argument: how they are read; walks of the exact laws' conversions of them.
  Clauses that lie each in a block of its own: marks upon them; own lists of them.
-/
import Derived.Test.YtlekngkcifgonaaGreatZLnLo
import Derived.Test.YtlekngkcifgonaaGreatZEE
import Derived.Test.YtlekngkcifgonaaGreatZEO
import Derived.Lib.SmallJoins
import Derived.Deep.Slices
import Derived.ChangeArms
import Derived.Test.YtlekngkcifgonaaGreatZEG
import Derived.Test.YtlekngkcifgonaaGreatZSy1ToRe
set_option linter.unusedVariables false
set_option linter.unusedSimpArgs false
namespace Go.Proofs.YtlekngkcifgonaaGreat
open Go.RowKit

theorem set3L_cell (w : World) (b p : Nat) (a0 a1 a2 : Value) (hc : ∀ j, j < 3 → ∃ u, w.cell? ⟨b, p + j, none⟩ = some u) :
    (∀ j x, [a0, a1, a2][j]? = some x → (((w.setCell ⟨b, p, none⟩ a0).setCell ⟨b, p + 1, none⟩ a1).setCell ⟨b, p + 2, none⟩ a2).cell? ⟨b, p + j, none⟩ = some x) ∧
    ∀ q : Addr, (q.block ≠ b ∨ q.off < p ∨ p + 3 ≤ q.off) → (((w.setCell ⟨b, p, none⟩ a0).setCell ⟨b, p + 1, none⟩ a1).setCell ⟨b, p + 2, none⟩ a2).cell? q = w.cell? q := by
  have ne : ∀ i j : Nat, i ≠ j → (⟨b, p + i, none⟩ : Addr) ≠ ⟨b, p + j, none⟩ := fun i j h e => h (Nat.add_left_cancel (congrArg Addr.off e))
  obtain ⟨u0, h0⟩ := hc 0 (by omega)
  obtain ⟨u1, h1⟩ := hc 1 (by omega)
  obtain ⟨u2, h2⟩ := hc 2 (by omega)
  have e0 : (⟨b, p, none⟩ : Addr) = ⟨b, p + 0, none⟩ := rfl
  rw [e0]
  have oth : ∀ (W : World) (i j : Nat) (v : Value), i ≠ j → (W.setCell ⟨b, p + i, none⟩ v).cell? ⟨b, p + j, none⟩ = W.cell? ⟨b, p + j, none⟩ := fun W i j v h => World.cell?_setCell_other _ _ _ _ (ne i j h)
  constructor
  · intro j x hj
    match j, hj with
    | 0, hj => cases hj; rw [oth _ 2 0 _ (by omega), oth _ 1 0 _ (by omega)]; exact World.cell?_setCell_same _ _ _ h0
    | 1, hj => cases hj; rw [oth _ 2 1 _ (by omega)]; exact World.cell?_setCell_same _ _ _ ((oth _ 0 1 _ (by omega)).trans h1)
    | 2, hj => cases hj; exact World.cell?_setCell_same _ _ _ (by rw [oth _ 1 2 _ (by omega), oth _ 0 2 _ (by omega)]; exact h2)
    | j + 3, hj => simp at hj
  · intro q hq
    have o2 : ∀ (W : World) (i : Nat) (v : Value), i < 3 → (W.setCell ⟨b, p + i, none⟩ v).cell? q = W.cell? q := fun W i v hi => World.cell?_setCell_other _ _ _ _ (by
      rintro rfl
      rcases hq with h | h | h
      · exact h rfl
      · simp at h; omega
      · simp at h; omega)
    rw [o2 _ 2 _ (by omega), o2 _ 1 _ (by omega), o2 _ 0 _ (by omega)]
theorem LitsM.set3 {M : Nat → Prop} {w : World} {b o n cap : Nat} {ls : Cls} (h : LitsM M w (.slice (some ⟨b, o, none⟩) n cap) ls) {k : Nat} (hk : k < ls.length) (x : Lit) :
    LitsM M (((w.setCell ⟨b, o + k * 3, none⟩ (.int .i64 x.var)).setCell ⟨b, o + k * 3 + 1, none⟩ (.int .i64 x.val)).setCell ⟨b, o + k * 3 + 2, none⟩ (.bool x.neg)) (.slice (some ⟨b, o, none⟩) n cap) (ls.set k x) := by
  obtain ⟨ao, cap', e, hl, h⟩ := h
  cases e
  obtain ⟨c0, hc0⟩ := get_some hk
  obtain ⟨b', o', e1, hm0, ⟨k0, k1, k2⟩, hf0⟩ := h k c0 hc0
  cases e1
  obtain ⟨s1, s2⟩ := set3L_cell w b (o + k * 3) (.int .i64 x.var) (.int .i64 x.val) (.bool x.neg) (fun j hj => by
    match j, hj with
    | 0, _ => exact ⟨_, k0⟩
    | 1, _ => exact ⟨_, k1⟩
    | 2, _ => exact ⟨_, k2⟩
    | j + 3, hj => omega)
  obtain ⟨W, hW⟩ : ∃ W, W = ((w.setCell ⟨b, o + k * 3, none⟩ (.int .i64 x.var)).setCell ⟨b, o + k * 3 + 1, none⟩ (.int .i64 x.val)).setCell ⟨b, o + k * 3 + 2, none⟩ (.bool x.neg) := ⟨_, rfl⟩
  have hfr : ∀ a, W.frozen? a = w.frozen? a := fun a => by rw [hW]; simp
  rw [← hW] at s1 s2 ⊢
  refine ⟨some ⟨b, o, none⟩, cap, by simp, by simpa using hl, fun i c' hi => ?_⟩
  by_cases hik : k = i
  · subst hik
    rw [List.getElem?_set_self hk] at hi
    cases hi
    exact ⟨b, o, rfl, hm0, ⟨s1 0 _ rfl, s1 1 _ rfl, s1 2 _ rfl⟩, fun r hr => (hfr _).trans (hf0 r hr)⟩
  · rw [List.getElem?_set_ne hik] at hi
    obtain ⟨b', o', e1, hm, ⟨j0, j1, j2⟩, hf⟩ := h i c' hi
    cases e1
    exact ⟨b, o, rfl, hm, ⟨(s2 _ (by right; dsimp only; omega)).trans j0, (s2 _ (by right; dsimp only; omega)).trans j1, (s2 _ (by right; dsimp only; omega)).trans j2⟩, fun r hr => (hfr _).trans (hf r hr)⟩
theorem LitsV.open {S : List Nat} {w : World} {v : Value} {ls : Cls} (h : LitsV S w v ls) : ∃ ao cap, v = .slice ao ls.length cap ∧ (ls.length ≤ cap ∧ cap ≤ 9223372036854775807) ∧ LitsV S w (.slice ao ls.length cap) ls := by
  have h' := h
  obtain ⟨ao, cap, rfl, ⟨h1, h2, -⟩, -⟩ := h
  exact ⟨ao, cap, rfl, ⟨h1, h2⟩, h'⟩



/-! ### Copies -/
theorem infoL3 : (Tryz.prog.info? 45).map (fun i => (i.zero, i.size, i.bytes)) = some (some (.agg #[.int .i64 0, .int .i64 0, .bool false]), 3, 24) := by kernel_rfl




/-! ### Comparisons -/

set_option maxRecDepth 100000 in
theorem eqLiteral_t (s : Lit) (w : World) :
    Calls Tryz.prog 209 #[.agg #[.int .i64 s.var, .int .i64 s.val, .bool s.neg], .agg #[.int .i64 s.var, .int .i64 s.val, .bool s.neg]] w fun e w' => e = .returned (.bool true) ∧ Gr [] w w' := by
  have hg0 : Gr [] w ((w.alloc (.cells #[.int .i64 s.var, .int .i64 s.val, .bool s.neg] 45)).alloc (.cells #[.int .i64 s.var, .int .i64 s.val, .bool s.neg] 45)) := ((Gr.refl _ _).alloc _).alloc _
  have hb1 : ((w.alloc (.cells #[.int .i64 s.var, .int .i64 s.val, .bool s.neg] 45)).alloc (.cells #[.int .i64 s.var, .int .i64 s.val, .bool s.neg] 45)).heap[w.heap.size]? = some (.cells #[.int .i64 s.var, .int .i64 s.val, .bool s.neg] 45 (0, 0)) := (heap_alloc_old _ _ (by simp)).trans (heap_alloc_new _ _)
  have hb2 : ((w.alloc (.cells #[.int .i64 s.var, .int .i64 s.val, .bool s.neg] 45)).alloc (.cells #[.int .i64 s.var, .int .i64 s.val, .bool s.neg] 45)).heap[w.heap.size + 1]? = some (.cells #[.int .i64 s.var, .int .i64 s.val, .bool s.neg] 45 (0, 0)) := by
    have := heap_alloc_new (w.alloc (.cells #[.int .i64 s.var, .int .i64 s.val, .bool s.neg] 45)) (.cells #[.int .i64 s.var, .int .i64 s.val, .bool s.neg] 45)
    rwa [World.size_alloc] at this
  have Hg0 := hid hg0
  have f1 := fld hb1; have f2 := fld hb2
  clear hg0 hb1 hb2
  go_enter Tryz.func209, Tryz.ntmps209
  go_wp2_with fail
  go_ret
  exact ⟨rfl, Hg0.out⟩


set_option maxRecDepth 100000 in
theorem eqLiteralS_t (cs : Cls) (vx vy : Value) (w : World) (hx : LitsV [] w vx cs) (hy : LitsV [] w vy cs) :
    Calls Tryz.prog 135 #[vx, vy] w fun e w' => e = .returned (.bool true) ∧ Gr [] w w' := by
  have Hx := hid hx; have Hy := hid hy
  obtain ⟨xo, xc, rfl, ⟨hx1, hx2, _⟩, _⟩ := hx
  obtain ⟨yo, yc, rfl, ⟨hy1, hy2, _⟩, _⟩ := hy
  go_enter Tryz.func135, Tryz.ntmps135
  go_wp2_with fail
  go_loopw [5] (fun i wr => ∃ n : Nat, n ≤ cs.length ∧ i = .int .i64 n ∧ Gr [] w wr) (fun i _ => cs.length - (intOf i).toNat)
  case atStart => exact ⟨0, Nat.zero_le _, rfl, Gr.refl _ _⟩
  case round =>
    obtain ⟨n, hn, rfl, hg⟩ := hrel
    by_cases hlt : n < cs.length
    · obtain ⟨x, hx⟩ := get_some hlt
      obtain ⟨b, o, rfl, _, c0, c1, c2⟩ := (Hx.out.gr hg).at hx
      obtain ⟨b', o', rfl, _, d0, d1, d2⟩ := (Hy.out.gr hg).at hx
      have e0 : ∀ k : GrW [] wr, k.val.cell? ⟨b, o + n * 3, none⟩ = some (.int .i64 x.var) := fun k => k.gr.cell c0 (by simp)
      have e1 : ∀ k : GrW [] wr, k.val.cell? ⟨b, o + n * 3 + 1, none⟩ = some (.int .i64 x.val) := fun k => k.gr.cell c1 (by simp)
      have e2 : ∀ k : GrW [] wr, k.val.cell? ⟨b, o + n * 3 + 2, none⟩ = some (.bool x.neg) := fun k => k.gr.cell c2 (by simp)
      have e0' : ∀ k : GrW [] wr, k.val.cell? ⟨b', o' + n * 3, none⟩ = some (.int .i64 x.var) := fun k => k.gr.cell d0 (by simp)
      have e1' : ∀ k : GrW [] wr, k.val.cell? ⟨b', o' + n * 3 + 1, none⟩ = some (.int .i64 x.val) := fun k => k.gr.cell d1 (by simp)
      have e2' : ∀ k : GrW [] wr, k.val.cell? ⟨b', o' + n * 3 + 2, none⟩ = some (.bool x.neg) := fun k => k.gr.cell d2 (by simp)
      have Hg := hid hg
      clear hx hg c0 c1 c2 d0 d1 d2
      go_wp2_with fail
      refine wp_region_gr [] _ (by kernel_rfl) (by kernel_rfl) (Gr.refl _ _) ?_
      repeat (go_big_quiet_step ((go_at_call 209; exact Calls.gr_of (eqLiteral_t x _))))
      refine wpQuiet_nil ?_
      rintro w7 ⟨n7, hw7⟩
      have hg7 : Gr [] wr w7 := hw7 ▸ n7.gr
      clear hw7 n7 e0 e1 e2 e0' e1' e2'
      go_wp2_with fail
      exact ⟨⟨n + 1, by omega, by go_num, Hg.out.trans hg7⟩, by simp [intOf]; omega⟩
    · go_wp2_with fail
      go_ret
      exact ⟨rfl, hg⟩

/-! ### Marks -/
def mkL (k : Int) : Lit := ⟨k, k + 1, (k + 1 + 1) % 3 == 0⟩
def mkLs (k : Int) (n : Nat) : Cls := (List.range n).map fun i : Nat => mkL (k + 3 * (i : Int))
theorem mkLs_len (k : Int) (n : Nat) : (mkLs k n).length = n := by simp [mkLs]
theorem mkLs_succ (k : Int) (n : Nat) : mkLs k (n + 1) = mkLs k n ++ [mkL (k + 3 * (n : Int))] := by unfold mkLs; rw [List.range_succ, List.map_append]; rfl
theorem mkLs_get (k : Int) (n j : Nat) (h : j < n) : (mkLs k n)[j]? = some (mkL (k + 3 * (j : Int))) := by unfold mkLs; rw [List.getElem?_map, List.getElem?_range h]; rfl

set_option maxRecDepth 100000 in
theorem markLiteralS_c (M : Nat → Prop) (cs : Cls) (k : Int) (v : Value) (w : World) (hv : LitsM M w v cs) (hk : 0 ≤ k ∧ k ≤ 1000000000) (hl : cs.length ≤ 10000000) :
    Calls Tryz.prog 138 #[v, .int .i64 k] w fun e w' => e = .returned (.int .i64 (k + 3 * cs.length)) ∧ LitsM M w' v (mkLs k cs.length) ∧ (∀ S : List Nat, (∀ b, M b → b ∈ S) → Gr S w w') := by
  have Hv := hid hv
  obtain ⟨ao, cap, rfl, ⟨h1, h2, _⟩, _⟩ := hv
  go_enter Tryz.func138, Tryz.ntmps138
  go_wp2_with fail
  go_loopw [1, 5] (fun kv i wr => ∃ n : Nat, n ≤ cs.length ∧ i = .int .i64 n ∧ kv = .int .i64 (k + 3 * n) ∧ LitsM M wr (.slice ao cs.length cap) (mkLs k n ++ cs.drop n) ∧ (∀ S : List Nat, (∀ b, M b → b ∈ S) → Gr S w wr)) (fun _ i _ => cs.length - (intOf i).toNat)
  case atStart => exact ⟨0, Nat.zero_le _, rfl, by simp, by simpa [mkLs] using Hv.out, fun S _ => Gr.refl _ _⟩
  case round =>
    obtain ⟨n, hn, rfl, rfl, hw, hg⟩ := hrel
    by_cases hlt : n < cs.length
    · obtain ⟨x, hx⟩ := get_some hlt
      have hx' : (mkLs k n ++ cs.drop n)[n]? = some x := by rw [List.getElem?_append_right (by rw [mkLs_len]; exact Nat.le_refl _), mkLs_len, Nat.sub_self, List.getElem?_drop, Nat.add_zero, hx]
      obtain ⟨b, o, rfl, hm, ⟨c0, c1, c2⟩, hf⟩ := hw.at hx'
      have hset := hw.set3 (k := n) (by simp [mkLs_len]; omega) (mkL (k + 3 * n))
      have e1 : (mkLs k n ++ cs.drop n).set n (mkL (k + 3 * n)) = mkLs k (n + 1) ++ cs.drop (n + 1) := by
        rw [List.set_append_right _ _ (by rw [mkLs_len]; exact Nat.le_refl _), mkLs_len, Nat.sub_self, drop_cons hx, List.set_cons_zero, mkLs_succ]; simp
      rw [e1] at hset
      have f0 := hf 0 (by omega); have f1 := hf 1 (by omega); have f2 := hf 2 (by omega)
      rw [Nat.add_zero] at f0
      have Hset := hid hset; have Hg := hid hg; have Hm := hid hm
      clear hset e1 hx hx' hw hg hm hf
      go_wp2_with fail
      exact ⟨⟨n + 1, by omega, by go_num, by go_num, Hset.out, fun S hS => (((Hg.out S hS).setCell _ _ (.inl (hS _ Hm.out))).setCell _ _ (.inl (hS _ Hm.out))).setCell _ _ (.inl (hS _ Hm.out))⟩, by simp [intOf]; omega⟩
    · have hnl : n = cs.length := by omega
      have e1 : mkLs k n ++ cs.drop n = mkLs k cs.length := by rw [drop_end (by omega), hnl]; simp
      rw [e1] at hw
      have Hw := hid hw; have Hg := hid hg; have Hnl := hid hnl
      clear hw hg e1 hnl
      go_wp2_with fail
      go_ret
      exact ⟨ret_int (by rw [Hnl.out]), Hw.out, Hg.out⟩


set_option maxRecDepth 100000 in
theorem heldLiteralS_t (n : Nat) (k : Int) (v : Value) (w : World) (hv : LitsV [] w v (mkLs k n)) (hk : 0 ≤ k ∧ k ≤ 1000000000) (hl : n ≤ 10000000) :
    Calls Tryz.prog 139 #[v, .int .i64 k] w fun e w' => e = .returned (.int .i64 (k + 3 * n)) ∧ Gr [] w w' := by
  have Hv := hid hv
  obtain ⟨ao, cap, rfl, ⟨h1, h2, _⟩, _⟩ := hv
  rw [mkLs_len] at h1 Hv ⊢
  go_enter Tryz.func139, Tryz.ntmps139
  go_wp2_with fail
  go_loopw [1, 5] (fun kv i wr => ∃ j : Nat, j ≤ n ∧ i = .int .i64 j ∧ kv = .int .i64 (k + 3 * j) ∧ Gr [] w wr) (fun _ i _ => n - (intOf i).toNat)
  case atStart => exact ⟨0, Nat.zero_le _, rfl, by simp, Gr.refl _ _⟩
  case round =>
    obtain ⟨j, hj, rfl, rfl, hg⟩ := hrel
    by_cases hlt : j < n
    · obtain ⟨b, o, rfl, _, c0, c1, c2⟩ := (Hv.out.gr hg).at (mkLs_get k n j hlt)
      simp only [mkL] at c0 c1 c2
      go_wp2_with fail
      exact ⟨⟨j + 1, by omega, by go_num, by go_num, hg⟩, by simp [intOf]; omega⟩
    · have hnl : j = n := by omega
      have Hnl := hid hnl
      clear hnl
      go_wp2_with fail
      go_ret
      exact ⟨ret_int (by rw [Hnl.out]), hg⟩

end Go.Proofs.YtlekngkcifgonaaGreat

set_option linter.unusedVariables false
set_option linter.unusedSimpArgs false
namespace Go.Proofs.YtlekngkcifgonaaGreat
open Go.RowKit Go.ChangeShapes Go.WideShapes

section
variable {H : Type} {enc : TypeId × Value → H} {W : World} {held : Bool}
set_option maxRecDepth 100000
end
end Go.Proofs.YtlekngkcifgonaaGreat

set_option linter.unusedVariables false
set_option linter.unusedSimpArgs false
namespace Go.Proofs.YtlekngkcifgonaaGreat
open Go.RowKit Go.ChangeShapes Go.WideShapes

section
variable {H : Type} {enc : TypeId × Value → H} {W : World} {held : Bool}
set_option maxRecDepth 100000
end

/-! ### Copies -/
theorem infoK : (Tryz.prog.info? 110).map (fun i => (i.zero, i.size, i.bytes)) = some (some (.slice none 0 0), 1, 24) := by kernel_rfl
/-- A new list of clauses, of which the first n are there. -/
def KNew (g : Nat) (e : TypeId) (w : World) (N n : Nat) (cls : List Cls) : Prop :=
  ∃ cur, w.heap[g]? = some (.cells cur e (0, 0)) ∧ cur.size = N ∧ ∀ i c, i < n → cls[i]? = some c → ∃ u, cur[i]? = some u ∧ LitsM (fun b => g < b) w u c
theorem KNew.gr {g : Nat} {e : TypeId} {w w' : World} {N n : Nat} {cls : List Cls} (h : KNew g e w N n cls) (hg : Gr [] w w') : KNew g e w' N n cls := by
  obtain ⟨cur, h1, h2, h3⟩ := h
  refine ⟨cur, hg.obj h1 (by simp), h2, fun i c hi hc => ?_⟩
  obtain ⟨u, k1, k2⟩ := h3 i c hi hc
  exact ⟨u, k1, k2.gr hg⟩
theorem KNew.cell {g : Nat} {e : TypeId} {w : World} {N n : Nat} {cls : List Cls} (h : KNew g e w N n cls) {i : Nat} (hi : i < N) : (∃ u, w.cell? ⟨g, i, none⟩ = some u) ∧ w.frozen? ⟨g, i, none⟩ = false := by
  obtain ⟨cur, h1, h2, -⟩ := h
  have : i < cur.size := by omega
  exact ⟨⟨cur[i], by rw [fld h1 i]; exact Array.getElem?_eq_getElem this⟩, fldF h1 i⟩
theorem KNew.set {g : Nat} {e : TypeId} {w : World} {N n : Nat} {cls : List Cls} (h : KNew g e w N n cls) {c : Cls} (hc : cls[n]? = some c) (hn : n < N) {u : Value} (hu : LitsM (fun b => g < b) w u c) : KNew g e (w.setCell ⟨g, n, none⟩ u) N (n + 1) cls := by
  obtain ⟨cur, h1, h2, h3⟩ := h
  have mv : ∀ {v c}, LitsM (fun b => g < b) w v c → LitsM (fun b => g < b) (w.setCell ⟨g, n, none⟩ u) v c := fun h => h.move fun a x ha hx => ⟨by
    rw [World.cell?_setCell_other _ _ _ _ (by rintro rfl; simp at ha)]; exact hx, by simp, ha⟩
  refine ⟨cur.setIfInBounds n u, block_cells (cur' := #[]) h1 n u, by simpa using h2, fun i d hi hd => ?_⟩
  by_cases e : i = n
  · subst e
    rw [hc] at hd
    cases hd
    exact ⟨u, by simp [h2, hn], mv hu⟩
  · obtain ⟨u', k1, k2⟩ := h3 i d (by omega) hd
    exact ⟨u', by rw [Array.getElem?_setIfInBounds_ne (by omega)]; exact k1, mv k2⟩
set_option maxRecDepth 100000 in
theorem eqLiteralSS_t (xs : List Cls) (vx vy : Value) (w : World) (hx : ClsV [] w vx xs) (hy : ClsV [] w vy xs) :
    Calls Tryz.prog 54 #[vx, vy] w fun e w' => e = .returned (.bool true) ∧ Gr [] w w' := by
  have Hx := hid hx; have Hy := hid hy
  obtain ⟨xo, xc, rfl, ⟨hx1, hx2, _⟩, _⟩ := hx
  obtain ⟨yo, yc, rfl, ⟨hy1, hy2, _⟩, _⟩ := hy
  go_enter Tryz.func54, Tryz.ntmps54
  go_wp2_with fail
  go_loopw [5] (fun i wr => ∃ n : Nat, n ≤ xs.length ∧ i = .int .i64 n ∧ Gr [] w wr) (fun i _ => xs.length - (intOf i).toNat)
  case atStart => exact ⟨0, Nat.zero_le _, rfl, Gr.refl _ _⟩
  case round =>
    obtain ⟨n, hn, rfl, hg⟩ := hrel
    by_cases hlt : n < xs.length
    · obtain ⟨x, hx⟩ := get_some hlt
      obtain ⟨b1, o1, p1, q1, rfl, -, hc1, hn1⟩ := (Hx.out.gr hg).at hx
      obtain ⟨b2, o2, p2, q2, rfl, -, hc2, hn2⟩ := (Hy.out.gr hg).at hx
      have HS : Hid (∀ w', Gr [] wr w' → w'.cell? ⟨b1, o1 + n, none⟩ = some (.slice p1 x.length q1) ∧ w'.cell? ⟨b2, o2 + n, none⟩ = some (.slice p2 x.length q2) ∧ Gr [] wr w') := hid fun w' h => ⟨h.cell hc1 (by simp), h.cell hc2 (by simp), h⟩
      have Hn1 := hid hn1; have Hn2 := hid hn2; have Hg := hid hg
      clear hx hn1 hn2 hg
      go_wp2_with fail
      go_region_held3 (fun w' => w'.cell? ⟨b1, o1 + n, none⟩ = some (.slice p1 x.length q1) ∧ w'.cell? ⟨b2, o2 + n, none⟩ = some (.slice p2 x.length q2) ∧ Gr [] wr w')
        (first | exact HS.out _ ((Gr.refl [] _).drew) | (go_split_ands; exact HS.out _ (Gr.trans (by assumption) hg3)))
        (first
          | (go_at_call 135; go_split_ands; refine (eqLiteralS_t x _ _ _ (Hn1.out.gr (by assumption)) (Hn2.out.gr (by assumption))).mono ?_; rintro e w3 ⟨rfl, hg3⟩))
      all_goals
        go_wp2_with fail
        exact ⟨⟨n + 1, by omega, by go_num, (Hg.out.trans ((Gr.refl _ _).drew)).trans hg3⟩, by simp [intOf]; omega⟩
    · go_wp2_with fail
      go_ret
      exact ⟨rfl, hg⟩
end Go.Proofs.YtlekngkcifgonaaGreat

set_option linter.unusedVariables false
set_option linter.unusedSimpArgs false
namespace Go.Proofs.YtlekngkcifgonaaGreat
open Go.RowKit

/-- The home of one clause. -/
def At (b : Nat) (c : Cls) : Nat → Prop := fun k => c ≠ [] ∧ k = b
theorem At.cong {b : Nat} {c d : Cls} (h : d.length = c.length) : At b d = At b c := by
  funext k
  unfold At
  have : (d ≠ []) = (c ≠ []) := by
    rw [eq_iff_iff, ← List.length_pos_iff, ← List.length_pos_iff, h]
  rw [this]
/-- Clauses, each in a block of its own, between B and E. -/
def RowsK (B E : Nat) (w : World) (v : Value) (cls : List Cls) : Prop :=
  ∃ ao cap, v = .slice ao cls.length cap ∧ (cls.length ≤ cap ∧ cap ≤ 9223372036854775807 ∧ (ao = none → cap = 0)) ∧ ∃ f : Nat → Nat,
    (∀ i j c d, cls[i]? = some c → cls[j]? = some d → c ≠ [] → d ≠ [] → f i = f j → i = j) ∧
    ∀ i c, cls[i]? = some c → ∃ g u, ao = some ⟨g, 0, none⟩ ∧ (B ≤ g ∧ g < E) ∧ (∀ j d, cls[j]? = some d → d ≠ [] → f j ≠ g) ∧ (c ≠ [] → B ≤ f i ∧ f i < E) ∧ w.cell? ⟨g, i, none⟩ = some u ∧
      (∀ j, w.frozen? ⟨g, j, none⟩ = false) ∧ LitsM (At (f i) c) w u c
theorem RowsK.nil (B E : Nat) (w : World) : RowsK B E w (.slice none 0 0) [] := ⟨none, 0, rfl, by simp, fun i => i, by simp, by simp⟩
theorem RowsK.keep {B E : Nat} {S : List Nat} {w w' : World} {v : Value} {cls : List Cls} (h : RowsK B E w v cls) (hg : Gr S w w') (hS : ∀ b ∈ S, b < B ∨ E ≤ b) : RowsK B E w' v cls := by
  obtain ⟨ao, cap, e, hl, f, h1, h2⟩ := h
  refine ⟨ao, cap, e, hl, f, h1, fun i c hi => ?_⟩
  obtain ⟨g, u, e1, k1, k2, k3, k4, k5, k6⟩ := h2 i c hi
  have hgS : g ∉ S := fun hm => by have := hS g hm; omega
  have hlt := World.block_lt_of_cell? w _ k4
  exact ⟨g, u, e1, k1, k2, k3, hg.cell k4 hgS, fun j => (hg.frozen (a := ⟨g, j, none⟩) hlt hgS).trans (k5 j), k6.gr' hg (fun b hb hM => by obtain ⟨hc, rfl⟩ := hM; have := k3 hc; have := hS _ hb; omega) (fun _ _ h => h)⟩
theorem RowsK.imp {B E B' E' : Nat} {w : World} {v : Value} {cls : List Cls} (h : RowsK B E w v cls) (hB : B' ≤ B) (hE : E ≤ E') : RowsK B' E' w v cls := by
  obtain ⟨ao, cap, e, hl, f, h1, h2⟩ := h
  refine ⟨ao, cap, e, hl, f, h1, fun i c hi => ?_⟩
  obtain ⟨g, u, e1, k1, k2, k3, k4, k5, k6⟩ := h2 i c hi
  exact ⟨g, u, e1, by omega, k2, fun hc => by have := k3 hc; omega, k4, k5, k6⟩
theorem RowsK.clss {B E : Nat} {S : List Nat} {w : World} {v : Value} {cls : List Cls} (h : RowsK B E w v cls) (hS : ∀ b ∈ S, b < B ∨ E ≤ b) : ClsV S w v cls := by
  obtain ⟨ao, cap, e, hl, f, h1, h2⟩ := h
  refine ⟨ao, cap, e, hl, fun i c hi => ?_⟩
  obtain ⟨g, u, e1, k1, k2, k3, k4, k5, k6⟩ := h2 i c hi
  exact ⟨g, 0, u, e1, fun hm => by have := hS g hm; omega, by rw [Nat.zero_add]; exact k4, k6.lits fun b hb hM => by obtain ⟨hc, rfl⟩ := hM; have := k3 hc; have := hS _ hb; omega⟩
theorem RowsK.clip {B E : Nat} {w : World} {ao : Option Addr} {n cap : Nat} {cls : List Cls} (h : RowsK B E w (.slice ao n cap) cls) : RowsK B E w (.slice ao n n) cls := by
  obtain ⟨ao', cap', e, hl, r⟩ := h
  simp only [Value.slice.injEq] at e
  obtain ⟨rfl, rfl, rfl⟩ := e
  exact ⟨_, _, rfl, ⟨Nat.le_refl _, by omega, fun h => by have := hl.2.2 h; omega⟩, r⟩
theorem LitsM.apart {M M' : Nat → Prop} {w w' : World} {v : Value} {ls : Cls} (h : LitsM M w v ls) (k : Mk M' w w') (hd : ∀ b, M b → ¬ M' b) : LitsM M w' v ls :=
  h.move fun a u hm hu => by
    have hlt := World.block_lt_of_cell? w _ hu
    exact ⟨(World.cell?_of_block (k.block a.block hlt (hd _ hm))).trans hu, k.frozen a hlt, hm⟩
theorem RowsK.apart {M : Nat → Prop} {B E : Nat} {w w' : World} {v : Value} {cls : List Cls} (h : RowsK B E w v cls) (k : Mk M w w') (hd : ∀ b, B ≤ b → b < E → ¬ M b) : RowsK B E w' v cls := by
  obtain ⟨ao, cap, e, hl, f, h1, h2⟩ := h
  refine ⟨ao, cap, e, hl, f, h1, fun i c hi => ?_⟩
  obtain ⟨g, u, e1, k1, k2, k3, k4, k5, k6⟩ := h2 i c hi
  have hlt := World.block_lt_of_cell? w _ k4
  exact ⟨g, u, e1, k1, k2, k3, (World.cell?_of_block (k.block g hlt (hd g k1.1 k1.2))).trans k4, fun j => (k.frozen ⟨g, j, none⟩ hlt).trans (k5 j), k6.apart k fun b hM => by obtain ⟨hc, rfl⟩ := hM; exact hd _ (k3 hc).1 (k3 hc).2⟩
theorem RowsK.row {B E : Nat} {w : World} {ao : Option Addr} {n cap : Nat} {cls : List Cls} (h : RowsK B E w (.slice ao n cap) cls) {i : Nat} {c : Cls} (hi : cls[i]? = some c) :
    ∃ g u b, ao = some ⟨g, 0, none⟩ ∧ (c ≠ [] → B ≤ b ∧ b < E) ∧ w.cell? ⟨g, i, none⟩ = some u ∧ LitsM (At b c) w u c ∧
      ∀ (w' : World) (c' : Cls), c'.length = c.length → (∀ S : List Nat, (∀ k, At b c k → k ∈ S) → Gr S w w') → LitsM (At b c) w' u c' → RowsK B E w' (.slice ao n cap) (cls.set i c') := by
  obtain ⟨ao', cap', e, hl, f, h1, h2⟩ := h
  simp only [Value.slice.injEq] at e
  obtain ⟨rfl, rfl, rfl⟩ := e
  obtain ⟨g, u, e1, k1, k2, k3, k4, k5, k6⟩ := h2 i c hi
  have hil := (List.getElem?_eq_some_iff.1 hi).1
  refine ⟨g, u, f i, e1, k3, k4, k6, fun w' c' hc' hgS hin => ?_⟩
  obtain ⟨S, hS1, hS2⟩ : ∃ S : List Nat, (∀ k, At (f i) c k → k ∈ S) ∧ (∀ k ∈ S, c ≠ [] ∧ k = f i) := by
    by_cases hc : c = []
    · exact ⟨[], fun k hk => absurd hc hk.1, by simp⟩
    · exact ⟨[f i], fun k hk => by rw [hk.2]; simp, fun k hk => ⟨hc, by simpa using hk⟩⟩
  have hg := hgS S hS1
  have hne : ∀ {j : Nat} {d : Cls}, (cls.set i c')[j]? = some d → ∃ d', cls[j]? = some d' ∧ d.length = d'.length := by
    intro j d hj
    by_cases hij : i = j
    · subst hij
      rw [List.getElem?_set_self hil] at hj
      cases hj
      exact ⟨c, hi, hc'⟩
    · rw [List.getElem?_set_ne hij] at hj
      exact ⟨d, hj, rfl⟩
  have hnn : ∀ {d d' : Cls}, d.length = d'.length → d ≠ [] → d' ≠ [] := fun h hd e => hd (by subst e; exact List.eq_nil_of_length_eq_zero (by simpa using h))
  refine ⟨_, _, by rw [List.length_set], by rw [List.length_set]; exact hl, f, ?_, fun j s hj => ?_⟩
  · intro a b' x y ha hb hx hy e
    obtain ⟨x', hx', ex⟩ := hne ha
    obtain ⟨y', hy', ey⟩ := hne hb
    exact h1 a b' x' y' hx' hy' (hnn ex hx) (hnn ey hy) e
  · have hgb : g ∉ S := fun hm => by obtain ⟨hc, e⟩ := hS2 g hm; exact k2 i c hi hc e.symm
    have hlt := World.block_lt_of_cell? w _ k4
    have hk2 : ∀ (j : Nat) (d : Cls), (cls.set i c')[j]? = some d → d ≠ [] → f j ≠ g := fun j d hd hn => by
      obtain ⟨d', hd', ed⟩ := hne hd
      exact k2 j d' hd' (hnn ed hn)
    by_cases hij : i = j
    · subst hij
      rw [List.getElem?_set_self hil] at hj
      cases hj
      refine ⟨g, u, e1, k1, hk2, fun hn => k3 (hnn hc' hn), hg.cell k4 hgb, fun q => (hg.frozen (a := ⟨g, q, none⟩) hlt hgb).trans (k5 q), ?_⟩
      rw [At.cong hc']; exact hin
    · rw [List.getElem?_set_ne hij] at hj
      obtain ⟨g', u', f1, m1, m2, m3, m4, m5, m6⟩ := h2 j s hj
      have : g' = g := by rw [e1] at f1; simp at f1; exact f1.symm
      subst this
      refine ⟨g', u', e1, m1, hk2, m3, hg.cell m4 hgb, fun q => (hg.frozen (a := ⟨g', q, none⟩) hlt hgb).trans (m5 q), m6.gr' hg (fun q hq hM => ?_) (fun _ _ h => h)⟩
      obtain ⟨hs, e⟩ := hM
      obtain ⟨hc, e2⟩ := hS2 q hq
      exact hij (h1 i j c s hi hj hc hs (by rw [← e2, e]))

/-! ### Marks -/
def markK (k : Int) : List Cls → List Cls
  | [] => []
  | r :: rs => mkLs k r.length :: markK (k + 3 * (r.length : Int)) rs
def sumK (cls : List Cls) : Nat := (cls.map List.length).sum
theorem markK_len (k : Int) (rows : List Cls) : (markK k rows).length = rows.length := by
  induction rows generalizing k with
  | nil => rfl
  | cons r rs ih => simp [markK, ih]
theorem markK_app (k : Int) (xs ys : List Cls) : markK k (xs ++ ys) = markK k xs ++ markK (k + 3 * (sumK xs : Int)) ys := by
  induction xs generalizing k with
  | nil => simp [markK, sumK]
  | cons r rs ih =>
    simp only [List.cons_append, markK, ih, List.cons.injEq, true_and]
    congr 2
    simp [sumK]; omega
theorem markK_get {k : Int} {rows : List Cls} {n : Nat} {r : Cls} (h : rows[n]? = some r) : (markK k rows)[n]? = some (mkLs (k + 3 * (sumK (rows.take n) : Int)) r.length) := by
  induction rows generalizing k n with
  | nil => simp at h
  | cons x rs ih =>
    cases n with
    | zero => simp at h; subst h; simp [markK, sumK]
    | succ n =>
      simp at h
      simp only [markK, List.getElem?_cons_succ, List.take_succ_cons, ih h]
      congr 2
      simp [sumK]; omega
theorem markK_step {k : Int} {rows : List Cls} {n : Nat} {r : Cls} (h : rows[n]? = some r) :
    (markK k (rows.take n) ++ rows.drop n).set n (mkLs (k + 3 * (sumK (rows.take n) : Int)) r.length) = markK k (rows.take (n + 1)) ++ rows.drop (n + 1) := by
  have hn := (List.getElem?_eq_some_iff.1 h).1
  have hl : (markK k (rows.take n)).length = n := by rw [markK_len, List.length_take]; omega
  rw [List.set_append_right _ _ (by omega), hl, Nat.sub_self, drop_cons h, List.set_cons_zero, List.take_add_one, h, Option.toList_some, markK_app]
  simp [markK]
theorem sumK_take {rows : List Cls} {n : Nat} {r : Cls} (h : rows[n]? = some r) : sumK (rows.take (n + 1)) = sumK (rows.take n) + r.length := sum_take List.length h
theorem sumK_take_le (rows : List Cls) (n : Nat) : sumK (rows.take n) ≤ sumK rows := sum_take_le List.length rows n


set_option maxRecDepth 100000 in
theorem markLiteralSS_e (B E : Nat) (rows : List Cls) (k : Int) (v : Value) (w : World) (hv : RowsK B E w v rows) (hk : 0 ≤ k ∧ k ≤ 1000000) (hl : sumK rows ≤ 1000000) :
    Calls Tryz.prog 57 #[v, .int .i64 k] w fun e w' => e = .returned (.int .i64 (k + 3 * (sumK rows : Int))) ∧ RowsK B E w' v (markK k rows) ∧ (∀ L : List Nat, (∀ b, B ≤ b → b < E → b ∈ L) → Gr L w w') := by
  have Hv := hid hv
  obtain ⟨ao, cap, rfl, ⟨h1, h2, _⟩, _⟩ := hv
  go_enter Tryz.func57, Tryz.ntmps57
  go_wp2_with fail
  go_loopw [1, 5] (fun kv i wr => ∃ (n : Nat) (q : Nat), n ≤ rows.length ∧ i = .int .i64 n ∧ kv = .int .i64 (k + 3 * (q : Int)) ∧ q = sumK (rows.take n) ∧ RowsK B E wr (.slice ao rows.length cap) (markK k (rows.take n) ++ rows.drop n) ∧ (∀ L : List Nat, (∀ b, B ≤ b → b < E → b ∈ L) → Gr L w wr)) (fun _ i _ => rows.length - (intOf i).toNat)
  case atStart => exact ⟨0, 0, Nat.zero_le _, rfl, by simp, by simp [sumK], by simpa [markK] using Hv.out, fun _ _ => Gr.refl _ _⟩
  case round =>
    obtain ⟨n, q, hn, rfl, rfl, hq, hrw, hg⟩ := hrel
    have hq2 : q ≤ 1000000 := by have := sumK_take_le rows n; omega
    have Hq := hid hq; clear hq
    by_cases hlt : n < rows.length
    · obtain ⟨r, hr⟩ := get_some hlt
      have hr' : (markK k (rows.take n) ++ rows.drop n)[n]? = some r := by
        have hl : (markK k (rows.take n)).length = n := by rw [markK_len, List.length_take]; omega
        rw [List.getElem?_append_right (by omega), hl, Nat.sub_self, List.getElem?_drop, Nat.add_zero, hr]
      obtain ⟨g, u, b, rfl, hbE, h0, hin, hset⟩ := hrw.row hr'
      obtain ⟨uo, uc, rfl, -⟩ := hin.slice
      have hst := sumK_take hr
      have hsl := sumK_take_le rows (n + 1)
      have hrl2 : r.length ≤ 1000000 := by omega
      have Hin := hid hin; have Hg := hid hg; have Hst := hid hst; have Hset := hid hset; have Hr := hid hr; have HbE := hid hbE
      clear hin hg hst hsl hr hr' hrw hset hbE
      go_wp2_with fail
      have hcall := markLiteralS_c (At b r) r (k + 3 * (q : Int)) _ wr Hin.out (by omega) (by omega)
      (with_reducible refine hcall.mono ?_)
      clear hcall
      rintro e w2 ⟨rfl, hin2, hmk⟩
      have Hr2 := hid (Hset.out w2 (mkLs (k + 3 * (q : Int)) r.length) (mkLs_len _ _) hmk hin2)
      have Hmk : Hid (∀ L : List Nat, (∀ b, B ≤ b → b < E → b ∈ L) → Gr L w w2) := hid fun L hL => (Hg.out L hL).trans (hmk L fun k hk => by obtain ⟨hc, rfl⟩ := hk; exact hL _ (HbE.out hc).1 (HbE.out hc).2)
      clear hmk hin2
      go_wp2_with fail
      refine ⟨⟨n + 1, q + r.length, by omega, by go_num, by go_num, by rw [Hst.out, Hq.out], ?_, Hmk.out⟩, by simp [intOf]; omega⟩
      have := Hr2.out
      rwa [Hq.out, markK_step Hr.out] at this
    · have hnl : q = sumK rows := by rw [Hq.out, List.take_of_length_le (by omega)]
      have e1 : markK k (rows.take n) ++ rows.drop n = markK k rows := by rw [List.take_of_length_le (by omega), drop_end (by omega), List.append_nil]
      rw [e1] at hrw
      have Hnl := hid hnl; have Hg := hid hg; have Hrw := hid hrw
      clear hnl hg hrw e1
      go_wp2_with fail
      go_ret
      exact ⟨ret_int (by rw [Hnl.out]), Hrw.out, Hg.out⟩


theorem heldLiteralSS_t (rows : List Cls) (k : Int) (v : Value) (w : World) (hv : ClsV [] w v (markK k rows)) (hk : 0 ≤ k ∧ k ≤ 1000000) (hl : sumK rows ≤ 1000000) :
    Calls Tryz.prog 58 #[v, .int .i64 k] w fun e w' => e = .returned (.int .i64 (k + 3 * (sumK rows : Int))) ∧ Gr [] w w' := by
  have Hv := hid hv
  obtain ⟨ao, cap, rfl, ⟨h1, h2⟩⟩ := hv.slice
  rw [markK_len] at h1 Hv ⊢
  clear hv
  go_enter Tryz.func58, Tryz.ntmps58
  go_wp2_with fail
  go_loopw [1, 5] (fun kv i wr => ∃ (n : Nat) (q : Nat), n ≤ rows.length ∧ i = .int .i64 n ∧ kv = .int .i64 (k + 3 * (q : Int)) ∧ q = sumK (rows.take n) ∧ Gr [] w wr) (fun _ i _ => rows.length - (intOf i).toNat)
  case atStart => exact ⟨0, 0, Nat.zero_le _, rfl, by simp, by simp [sumK], Gr.refl _ _⟩
  case round =>
    obtain ⟨n, q, hn, rfl, rfl, hq, hg⟩ := hrel
    have hq2 : q ≤ 1000000 := by have := sumK_take_le rows n; omega
    have Hq := hid hq; clear hq
    by_cases hlt : n < rows.length
    · obtain ⟨r, hr⟩ := get_some hlt
      obtain ⟨b, o, uo, uc, rfl, -, hc0, hn0⟩ := (Hv.out.gr hg).at (markK_get (k := k) hr)
      rw [mkLs_len] at hc0
      rw [← Hq.out] at hn0
      have hst := sumK_take hr
      have hsl := sumK_take_le rows (n + 1)
      have hrl2 : r.length ≤ 1000000 := by omega
      have Hn0 := hid hn0; have Hg := hid hg; have Hst := hid hst
      clear hn0 hg hst hsl hr
      go_wp2_with fail
      have hcall := heldLiteralS_t r.length (k + 3 * (q : Int)) _ wr (by have := Hn0.out; rwa [mkLs_len] at this) (by omega) (by omega)
      (with_reducible refine hcall.mono ?_)
      clear hcall
      rintro e w2 ⟨rfl, hg2⟩
      go_wp2_with fail
      exact ⟨⟨n + 1, q + r.length, by omega, by go_num, by go_num, by rw [Hst.out, Hq.out], Hg.out.trans hg2⟩, by simp [intOf]; omega⟩
    · have hnl : q = sumK rows := by rw [Hq.out, List.take_of_length_le (by omega)]
      have Hnl := hid hnl; have Hg := hid hg
      clear hnl hg
      go_wp2_with fail
      go_ret
      exact ⟨ret_int (by rw [Hnl.out]), Hg.out⟩


theorem ClipK_c (B E : Nat) (v : Value) (cls : List Cls) (w : World) (hx : RowsK B E w v cls) :
    Calls Tryz.prog 155 #[v] w fun e w' => ∃ v', e = .returned v' ∧ RowsK B E w' v' cls ∧ Gr [] w w' := by
  have Hx := hid hx
  obtain ⟨ao, cap, rfl, ⟨h1, h2, h3⟩, -⟩ := hx
  clear h3
  go_enter Tryz.func155, Tryz.ntmps155
  go_wp2_with fail
  go_ret
  exact ⟨_, rfl, Hx.out.clip, Gr.refl _ _⟩

/-! ### Own lists of clauses, each with the block in which it lies -/
def elKB (S : List Nat) (w : World) (cs : List Value) (x : Nat × Cls) : Prop := ∃ u, cs = [u] ∧ LitsM (fun b => At x.1 x.2 b ∧ b ∉ S) w u x.2
theorem elKB_ok : ElOk elKB :=
  ⟨fun ⟨u, e, h⟩ hg => ⟨u, e, h.gr' hg (fun b hb hM => hM.2 hb) (fun _ _ h => h)⟩,
   fun {S S' w cs x} ⟨u, e, h⟩ hs => ⟨u, e, h.move fun a v hm hv => ⟨hv, rfl, hm.1, fun hS => hm.2 (hs _ (World.block_lt_of_cell? w _ hv) hS)⟩⟩⟩
/-- The blocks of the clauses are each another's. -/
def Apart (B E : Nat) (ps : List (Nat × Cls)) : Prop := (ps.Pairwise fun x y => x.2 ≠ [] → y.2 ≠ [] → x.1 ≠ y.1) ∧ ∀ x ∈ ps, x.2 ≠ [] → B ≤ x.1 ∧ x.1 < E
theorem Apart.nil (B E : Nat) : Apart B E [] := ⟨List.Pairwise.nil, by simp⟩
theorem Apart.le {B E E' : Nat} {ps : List (Nat × Cls)} (h : Apart B E ps) (hE : E ≤ E') : Apart B E' ps := ⟨h.1, fun x hx hn => by have := h.2 x hx hn; omega⟩
theorem Apart.snoc {B E E' : Nat} {ps : List (Nat × Cls)} {x : Nat × Cls} (h : Apart B E ps) (hB : B ≤ E) (hE : E ≤ E') (hx : x.2 ≠ [] → E ≤ x.1 ∧ x.1 < E') : Apart B E' (ps ++ [x]) := by
  refine ⟨?_, fun y hy hn => ?_⟩
  · rw [List.pairwise_append]
    refine ⟨h.1, by simp, fun a ha b hb h1 h2 e => ?_⟩
    simp at hb; subst hb
    have := h.2 a ha h1
    have := hx h2
    omega
  · rcases List.mem_append.1 hy with hy | hy
    · have := h.2 y hy hn; omega
    · simp at hy; subst hy; have := hx hn; omega
theorem LitsM.one {s : Nat} {w : World} {v : Value} {c : Cls} (h : LitsM (New s w) w v c) : ∃ b, LitsM (At b c) w v c ∧ (c ≠ [] → s ≤ b ∧ b < w.heap.size) := by
  obtain ⟨ao, cap, e, hl, hc⟩ := h
  cases c with
  | nil => exact ⟨0, ⟨ao, cap, e, hl, fun i l h => by simp at h⟩, fun h => absurd rfl h⟩
  | cons l r =>
    obtain ⟨b, o, e0, hm0, -, -⟩ := hc 0 l rfl
    refine ⟨b, ⟨ao, cap, e, hl, fun i x hi => ?_⟩, fun _ => hm0⟩
    obtain ⟨b', o', e1, hm1, h2, h3⟩ := hc i x hi
    have : b' = b := by rw [e0] at e1; simp at e1; exact e1.1.symm
    subst this
    exact ⟨b', o', e1, ⟨by simp, rfl⟩, h2, h3⟩
theorem OwnG.rowsK {B E : Nat} {w : World} {e : TypeId} {v : Value} {ps : List (Nat × Cls)} (h : OwnG 1 elKB B w e v ps) (ha : Apart B E ps) (hE : w.heap.size ≤ E) : RowsK B E w v (ps.map Prod.snd) := by
  obtain ⟨ao, cap, rfl, h1, h2, h3⟩ := h.slice
  refine ⟨ao, cap, by rw [List.length_map], by rw [List.length_map]; exact ⟨h1, h2, h3⟩, fun i => (ps.getD i (0, [])).1, ?_, fun i c hi => ?_⟩
  · intro i j c d hi hj hc hd e
    rw [List.getElem?_map] at hi hj
    cases hx : ps[i]? with
    | none => rw [hx] at hi; cases hi
    | some x =>
      cases hy : ps[j]? with
      | none => rw [hy] at hj; cases hj
      | some y =>
        rw [hx] at hi; rw [hy] at hj
        cases hi; cases hj
        simp only [List.getD_eq_getElem?_getD, hx, hy, Option.getD_some] at e
        obtain ⟨hil, rfl⟩ := List.getElem?_eq_some_iff.1 hx
        obtain ⟨hjl, rfl⟩ := List.getElem?_eq_some_iff.1 hy
        have hp := List.pairwise_iff_getElem.1 ha.1
        rcases Nat.lt_trichotomy i j with h | h | h
        · exact absurd e (hp i j hil hjl h hc hd)
        · exact h
        · exact absurd e.symm (hp j i hjl hil h hd hc)
  · rw [List.getElem?_map] at hi
    cases hx : ps[i]? with
    | none => rw [hx] at hi; cases hi
    | some x =>
      rw [hx] at hi; cases hi
      obtain ⟨g, cap', cs, e1, hb, hlt, hl, hc, hf, hel⟩ := h.cell hx
      cases e1
      obtain ⟨u, rfl, hn⟩ := hel [] (by simp)
      have hxm := List.mem_of_getElem? hx
      refine ⟨g, u, rfl, ⟨hb, by omega⟩, fun j d hj hd e => ?_, fun hn => ?_, by have := hc 0 u rfl; simpa using this, fun j => hf j, ?_⟩
      · rw [List.getElem?_map] at hj
        cases hy : ps[j]? with
        | none => rw [hy] at hj; cases hj
        | some y =>
          rw [hy] at hj; cases hj
          simp only [List.getD_eq_getElem?_getD, hy, Option.getD_some] at e
          obtain ⟨g', cap'', cs', e1', -, -, -, -, -, hel'⟩ := h.cell hy
          cases e1'
          obtain ⟨u', rfl, hn'⟩ := hel' [g] (by intro b hb; simp at hb; subst hb; right; simp [Value.ownBlock])
          obtain ⟨ao', c', -, -, hcc⟩ := hn'
          cases hyc : y.2 with
          | nil => exact hd hyc
          | cons l r =>
            obtain ⟨b, o, -, hm, -, -⟩ := hcc 0 l (by rw [hyc]; rfl)
            have := hm.1.2
            subst this
            exact hm.2 (by rw [e]; simp)
      · simp only [List.getD_eq_getElem?_getD, hx, Option.getD_some]
        have := ha.2 x hxm hn
        omega
      · simp only [List.getD_eq_getElem?_getD, hx, Option.getD_some]
        exact hn.move fun a v hm hv => ⟨hv, rfl, hm.1⟩
end Go.Proofs.YtlekngkcifgonaaGreat
