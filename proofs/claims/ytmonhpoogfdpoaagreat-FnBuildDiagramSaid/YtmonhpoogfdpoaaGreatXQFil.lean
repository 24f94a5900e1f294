/-
  The iterator over all tuples: what it owes to a range loop, and that it pays. The iterator over all tuples: every level. The iterator over all tuples, as a range loop calls it. The iterator over all tuples, as it is made.
  Walk of (impl.Constraint).filter.
-/
import Derived.Test.YtmonhpoogfdpoaaGreatXHJ
import Derived.Test.YtmonhpoogfdpoaaGreatXLib
import Derived.Shelf.Abstract
import Derived.Shelf.RegionOpen
import Derived.OwnWalkIn
import Derived.TacticsInMore
import Derived.LoopNIn
import Derived.LoopIn
import Derived.Laws.EntriesVeiled
import Derived.Test.YtmonhpoogfdpoaaGreatXFP
import Derived.RangeFuncCalls
import Derived.RangeFuncLeaves
set_option linter.unusedVariables false
namespace Go.Proofs.YtmonhpoogfdpoaaGreat
open Go.RowKit
attribute [local go_sem] Oper.semAt_some

/-- What the iterator's blocks hold when the first numbers are p. Blocks from n1 on were made by the iterator or later. -/
structure TS (W : World) (S : List Nat) (n1 l n bx xb bd yb bf : Nat) (D : List Nat) (p : List Int) : Prop where
  x : W.heap[bx]? = some (.cells #[.slice (some ⟨xb, 0, none⟩) p.length n] 23 (0, 0))
  arr : ∃ cs : Array Value, W.heap[xb]? = some (.cells cs 3 (0, 0)) ∧ cs.size = n ∧ cs.toList.take p.length = p.map (Value.int .i64)
  dom : ∃ dv, W.heap[bd]? = some (.cells #[dv] 23 (0, 0)) ∧ ∀ A : List Nat, (∀ a ∈ A, a = l ∨ a ∈ S ∨ n1 ≤ a) → Nums A W .i64 dv (D.map fun d : Nat => (d : Int))
  yv : W.heap[yb]? = some (.cells #[.func (.yield l) #[] #[]] 45 (0, 0))
  fv : W.heap[bf]? = some (.cells #[.func (.func 83) #[] #[.pointer (some ⟨bx, 0, none⟩), .pointer (some ⟨bd, 0, none⟩), .pointer (some ⟨yb, 0, none⟩), .pointer (some ⟨bf, 0, none⟩)]] 72 (0, 0))

theorem from_base (n1 l n bx xb bd yb bf : Nat) (S : List Nat) (D : List Nat) (p : List Int) (W : World) (hT : TS W S n1 l n bx xb bd yb bf D p) (hD : D.length = n) (hp : p.length = n)
    (hn : n ≤ 1000) (R : Ending → World → Prop)
    (hy : ∃ fn tmps assign body, (Instr.yield l #[.slice (some ⟨xb, 0, none⟩) p.length n]).run Tryz.prog W = .ok (.round l fn tmps assign body) W ∧ RoundIn Fence.wide 0 Tryz.prog l fn tmps assign body W fun e W' => (∃ b, e = .returned (.bool b)) ∧ R e W') :
    CallsIn Fence.wide 0 Tryz.prog 83 #[.pointer (some ⟨bx, 0, none⟩), .pointer (some ⟨bd, 0, none⟩), .pointer (some ⟨yb, 0, none⟩), .pointer (some ⟨bf, 0, none⟩)] W R := by
  obtain ⟨dv, hd1, hd2'⟩ := hT.dom
  have hd2 := hd2' [] (by simp)
  clear hd2'
  obtain ⟨dO, dc, rfl, ⟨hd3, hd4, _⟩, hd5⟩ := hd2
  have fx := fld hT.x; have fd := fld hd1; have fy := fld hT.yv
  have hdl : ((D.map fun d : Nat => (d : Int)).length) = n := by simpa using hD
  obtain ⟨fn, tmps, assign, body, hrun, hround⟩ := hy
  clear hT hd5 hd1
  rw [hdl] at fd hd3
  rw [hp] at fx hrun
  refine callsIn_of_wp Tryz.func83 rfl trivial ?_ rfl
  simp only [Tryz.ntmps83, List.size_toArray, List.length_cons, List.length_nil, Nat.reduceAdd, Nat.reduceSub, Array.replicate_succ, Array.replicate_zero, List.push_toArray, List.append_toArray, List.nil_append, List.cons_append]
  have Hr := hid hround; clear hround
  gi_wp2_with fail
  refine ⟨rfl, Hr.out.mono ?_⟩
  rintro e W' ⟨⟨b, rfl⟩, hR⟩
  dsimp only
  gi_wp2_with fail
  exact hR

theorem TS.own {W : World} {S : List Nat} {n1 l n bx xb bd yb bf : Nat} {D : List Nat} {p : List Int} (h : TS W S n1 l n bx xb bd yb bf D p) (hp : p.length ≤ n) (hn : n ≤ 1000) :
    W.ownsRow xb 3 1 (.slice (some ⟨xb, 0, none⟩) p.length n) p.length (p.map (Value.int .i64)) := by
  obtain ⟨cs, h1, h2, h3⟩ := h.arr
  exact ⟨by simp, .inr ⟨xb, n, cs, rfl, Nat.le_refl _, h1, hp, by simp only [maxLen]; omega, by omega, by simpa using h3⟩⟩
theorem TS.nums {W : World} {S : List Nat} {n1 l n bx xb bd yb bf : Nat} {D : List Nat} {p : List Int} (h : TS W S n1 l n bx xb bd yb bf D p) (hp : p.length ≤ n) (hn : n ≤ 1000) (A : List Nat) (hA : xb ∉ A) :
    Nums A W .i64 (.slice (some ⟨xb, 0, none⟩) p.length n) p := by
  have : Own xb W 3 (.slice (some ⟨xb, 0, none⟩) p.length n) p := h.own hp hn
  obtain ⟨cs, h1, h2, h3⟩ := h.arr
  refine ⟨some ⟨xb, 0, none⟩, n, rfl, ⟨hp, by omega, by simp⟩, fun i x hi => ⟨xb, 0, rfl, hA, ?_⟩⟩
  have hlt : i < p.length := (List.getElem?_eq_some_iff.1 hi).1
  have e1 : cs.toList[i]? = some (.int .i64 x) := by
    have := congrArg (fun t => t[i]?) h3
    simp only [List.getElem?_take, hlt, if_true, List.getElem?_map, hi] at this
    simpa using this
  have e2 : cs[i]? = some (.int .i64 x) := by simpa using e1
  simp [World.cell?, h1, e2]
theorem TS.gr {W W' : World} {S : List Nat} {n1 l n bx xb bd yb bf : Nat} {D : List Nat} {p : List Int} (h : TS W S n1 l n bx xb bd yb bf D p) {A : List Nat} (hg : Gr A W W')
    (h1 : bx ∉ A) (h2 : xb ∉ A) (h3 : bd ∉ A) (h4 : yb ∉ A) (h5 : bf ∉ A) (h6 : ∀ a ∈ A, a = l ∨ a ∈ S ∨ n1 ≤ a) :
    TS W' S n1 l n bx xb bd yb bf D p := by
  obtain ⟨cs, a1, a2, a3⟩ := h.arr
  obtain ⟨dv, d1, d2⟩ := h.dom
  refine ⟨hg.obj h.x h1, ⟨cs, hg.obj a1 h2, a2, a3⟩, ⟨dv, hg.obj d1 h3, fun B hB => ?_⟩, hg.obj h.yv h4, hg.obj h.fv h5⟩
  exact ((d2 (A ++ B) (by intro a ha; rcases List.mem_append.1 ha with ha | ha; exact h6 a ha; exact hB a ha)).gr (hg.sub fun k _ hk => by simp [hk])).sub fun k _ hk => by simp [hk]

/-- What the closure needs to know of the caller. -/
structure TCaller (xs : List (List Int)) (S : List Nat) (n1 l : Nat) (J Jx : List (List Int) → List Nat → World → Prop) : Prop where
  sj : Stable n1 J
  sx : Stable n1 Jx
  hjm : ∀ pre ms W1, J pre ms W1 → ∀ m ∈ ms, n1 ≤ m ∧ m < W1.heap.size
  rnd : ∀ pre x rest v ms W1, xs = pre ++ x :: rest → J pre ms W1 → Nums (l :: S ++ ms) W1 .i64 v x → ∃ fn tmps assign body, (Instr.yield l #[v]).run Tryz.prog W1 = .ok (.round l fn tmps assign body) W1 ∧
      RoundIn Fence.wide 0 Tryz.prog l fn tmps assign body W1 fun e W' =>
        (e = .returned (.bool true) ∧ ∃ ms', J (pre ++ [x]) ms' W' ∧ Gr (l :: S ++ ms) W1 W' ∧ ∀ m ∈ ms', m ∈ ms ∨ W1.heap.size ≤ m) ∨
        (e = .returned (.bool false) ∧ ∃ ms', Jx (pre ++ [x]) ms' W' ∧ Gr (l :: S ++ ms) W1 W')

/-- What the iterator's blocks are to each other. -/
structure TApart (S : List Nat) (n1 l bx xb bd yb bf : Nat) : Prop where
  h1 : n1 ≤ bx ∧ n1 ≤ xb ∧ n1 ≤ yb ∧ n1 ≤ bf ∧ bd < n1 ∧ l < n1
  h2 : bx ≠ xb ∧ bx ≠ yb ∧ bx ≠ bf ∧ xb ≠ yb ∧ xb ≠ bf
  h3 : bd ∉ l :: S
  h4 : ∀ s ∈ S, s < n1

/-- What a call of the closure gives. -/
def TPost (xs : List (List Int)) (S : List Nat) (n1 l n bx xb bd yb bf : Nat) (D : List Nat) (J Jx : List (List Int) → List Nat → World → Prop) (pre : List (List Int)) (p : List Int) (ms : List Nat) (W : World) (e : Ending) (W' : World) : Prop :=
  (e = .returned (.bool true) ∧ ∃ ms', J (pre ++ tupsFrom p ((D.drop p.length).map vals)) ms' W' ∧ TS W' S n1 l n bx xb bd yb bf D p ∧ Gr (l :: S ++ ms ++ [bx, xb]) W W' ∧ ∀ m ∈ ms', m ∈ ms ∨ W.heap.size ≤ m) ∨
  (e = .returned (.bool false) ∧ ∃ pre' ms', pre' <+: xs ∧ Jx pre' ms' W')

theorem from_end {xs : List (List Int)} {S : List Nat} {n1 l n bx xb bd yb bf : Nat} {D : List Nat} {J Jx : List (List Int) → List Nat → World → Prop} (hc : TCaller xs S n1 l J Jx) (ha : TApart S n1 l bx xb bd yb bf)
    (hD : D.length = n) (hn : n ≤ 1000) (p : List Int) (pre rest : List (List Int)) (ms : List Nat) (W : World) (hp : p.length = n) (hxs : xs = pre ++ tupsFrom p ((D.drop p.length).map vals) ++ rest) (hj : J pre ms W)
    (hT : TS W S n1 l n bx xb bd yb bf D p) (hbm : bx ∉ ms ∧ xb ∉ ms ∧ yb ∉ ms ∧ bf ∉ ms) :
    CallsIn Fence.wide 0 Tryz.prog 83 #[.pointer (some ⟨bx, 0, none⟩), .pointer (some ⟨bd, 0, none⟩), .pointer (some ⟨yb, 0, none⟩), .pointer (some ⟨bf, 0, none⟩)] W
      (TPost xs S n1 l n bx xb bd yb bf D J Jx pre p ms W) := by
  have e0 : tupsFrom p ((D.drop p.length).map vals) = [p] := by rw [drop_end (by omega)]; exact tupsFrom_nil p
  have hmm := hc.hjm _ _ _ hj
  obtain ⟨a1, a2, a3, a4, a5, a6⟩ := ha.h1
  have hS := ha.h4
  have hbd := ha.h3
  have not1 : ∀ b, n1 ≤ b → b ∉ ms → b ∉ l :: S ++ ms := by
    intro b hb hm h
    simp only [List.cons_append, List.mem_cons, List.mem_append] at h
    rcases h with h | h | h
    · omega
    · have := hS _ h; omega
    · exact hm h
  have notd : bd ∉ l :: S ++ ms := by
    intro h
    rcases List.mem_append.1 h with h | h
    · exact hbd h
    · have := (hmm _ h).1; omega
  rw [e0] at hxs
  obtain ⟨fn, tmps, assign, body, hr, hR⟩ := hc.rnd pre p rest _ ms W (by simpa using hxs) hj (hT.nums (by omega) hn _ (not1 _ a2 hbm.2.1))
  refine from_base n1 l n bx xb bd yb bf S D p W hT hD hp hn _ ⟨fn, tmps, assign, body, hr, hR.mono ?_⟩
  rintro e W' (⟨rfl, ms', h1, h2, h3⟩ | ⟨rfl, ms', h1, h2⟩)
  · refine ⟨⟨_, rfl⟩, .inl ⟨rfl, ms', by rw [e0]; exact h1, hT.gr h2 (not1 _ a1 hbm.1) (not1 _ a2 hbm.2.1) notd (not1 _ a3 hbm.2.2.1) (not1 _ a4 hbm.2.2.2) ?_, h2.sub (fun k _ hk => by simp only [List.mem_append] at hk ⊢; exact .inl hk), h3⟩⟩
    intro a h
    simp only [List.cons_append, List.mem_cons, List.mem_append] at h
    rcases h with h | h | h
    · exact .inl h
    · exact .inr (.inl h)
    · exact .inr (.inr (hmm _ h).1)
  · exact ⟨⟨_, rfl⟩, .inr ⟨rfl, pre ++ [p], ms', by rw [hxs]; exact ⟨rest, by simp⟩, h1⟩⟩
end Go.Proofs.YtmonhpoogfdpoaaGreat

namespace Go.Proofs.YtmonhpoogfdpoaaGreat
open Go.RowKit
attribute [local go_sem] Oper.semAt_some

theorem box_set {W : World} {B : Nat} {t : TypeId} {v : Value} (v' : Value) (h : W.heap[B]? = some (.cells #[v] t (0, 0))) : (W.setCell ⟨B, 0, none⟩ v').heap[B]? = some (.cells #[v'] t (0, 0)) := by
  obtain ⟨hlt, hk⟩ := Array.getElem?_eq_some_iff.1 h
  show (W.heap.modify B _)[B]? = _
  rw [Array.getElem?_eq_getElem (by rw [Array.size_modify]; exact hlt), Array.getElem_modify_self, hk]
  rfl
theorem TS.push {W W3 : World} {S : List Nat} {n1 l n bx xb bd yb bf : Nat} {D : List Nat} {p : List Int} (h : TS W S n1 l n bx xb bd yb bf D p) (ha : TApart S n1 l bx xb bd yb bf) (g : Gr [xb] W W3) (v : Int) (B : Nat)
    (hown : W3.ownsRow B 3 1 (.slice (some ⟨xb, 0, none⟩) (p.length + 1) n) (p.length + 1) (p.map (Value.int .i64) ++ [.int .i64 v])) :
    TS (W3.setCell ⟨bx, 0, none⟩ (.slice (some ⟨xb, 0, none⟩) (p.length + 1 : Nat) n)) S n1 l n bx xb bd yb bf D (p ++ [v]) := by
  obtain ⟨a1, a2, a3, a4, a5, a6⟩ := ha.h1
  obtain ⟨b1, b2, b3, b4, b5⟩ := ha.h2
  have g2 : Gr [bx, xb] W (W3.setCell ⟨bx, 0, none⟩ (.slice (some ⟨xb, 0, none⟩) (p.length + 1 : Nat) n)) := (g.sub fun k _ hk => by simp at hk ⊢; exact .inr hk).setCell _ _ (.inl (by simp))
  obtain ⟨dv, d1, d2⟩ := h.dom
  have hx3 := g.obj h.x (by simpa using b1)
  refine ⟨by simpa using box_set _ hx3, ?_, ⟨dv, g2.obj d1 (by simp; omega), fun A hA => ?_⟩, g2.obj h.yv (by simp; omega), g2.obj h.fv (by simp; omega)⟩
  · rcases hown.2 with ⟨h3, _⟩ | ⟨g', cap', cur, e1, hb, hgg, hnc, hcm, hcs, htake⟩
    · cases h3
    · cases e1
      have hgs : Gr [bx] W3 (W3.setCell ⟨bx, 0, none⟩ (.slice (some ⟨xb, 0, none⟩) (p.length + 1 : Nat) n)) := (Gr.refl _ _).setCell _ _ (.inl (by simp))
      exact ⟨cur, hgs.obj hgg (by simp; omega), by simpa using hcs, by simpa using htake⟩
  · exact ((d2 ([bx, xb] ++ A) (by intro a h; simp at h; rcases h with rfl | rfl | h; exact .inr (.inr a1); exact .inr (.inr a2); exact hA a h)).gr (g2.sub fun k _ hk => by simp only [List.mem_append]; exact .inl hk)).sub fun k _ hk => by simp only [List.mem_append]; exact .inr hk
theorem TS.pop {W : World} {S : List Nat} {n1 l n bx xb bd yb bf : Nat} {D : List Nat} {p : List Int} {v : Int} (h : TS W S n1 l n bx xb bd yb bf D (p ++ [v])) (ha : TApart S n1 l bx xb bd yb bf) :
    TS (W.setCell ⟨bx, 0, none⟩ (.slice (some ⟨xb, 0, none⟩) p.length n)) S n1 l n bx xb bd yb bf D p := by
  obtain ⟨a1, a2, a3, a4, a5, a6⟩ := ha.h1
  obtain ⟨b1, b2, b3, b4, b5⟩ := ha.h2
  have g2 : Gr [bx] W (W.setCell ⟨bx, 0, none⟩ (.slice (some ⟨xb, 0, none⟩) p.length n)) := (Gr.refl _ _).setCell _ _ (.inl (by simp))
  obtain ⟨dv, d1, d2⟩ := h.dom
  obtain ⟨cs, c1, c2, c3⟩ := h.arr
  refine ⟨box_set _ h.x, ⟨cs, g2.obj c1 (by simp; omega), c2, ?_⟩, ⟨dv, g2.obj d1 (by simp; omega), fun A hA => ?_⟩, g2.obj h.yv (by simp; omega), g2.obj h.fv (by simp; omega)⟩
  · have := congrArg (List.take p.length) c3
    rw [List.take_take] at this
    simpa [Nat.min_eq_left] using this
  · exact ((d2 ([bx] ++ A) (by intro a h; simp at h; rcases h with rfl | h; exact .inr (.inr a1); exact hA a h)).gr (g2.sub fun k _ hk => by simp only [List.mem_append]; exact .inl hk)).sub fun k _ hk => by simp only [List.mem_append]; exact .inr hk

set_option maxRecDepth 100000 in
set_option maxHeartbeats 1000000 in
theorem from_c {xs : List (List Int)} {S : List Nat} {n1 l n bx xb bd yb bf : Nat} {D : List Nat} {J Jx : List (List Int) → List Nat → World → Prop} (hc : TCaller xs S n1 l J Jx) (ha : TApart S n1 l bx xb bd yb bf)
    (hD : D.length = n) (hn : n ≤ 1000) (hd6 : ∀ d ∈ D, d < 64) (k : Nat) : ∀ (p : List Int) (pre rest : List (List Int)) (ms : List Nat) (W : World), p.length + k = n → xs = pre ++ tupsFrom p ((D.drop p.length).map vals) ++ rest → J pre ms W →
    TS W S n1 l n bx xb bd yb bf D p → (bx ∉ ms ∧ xb ∉ ms ∧ yb ∉ ms ∧ bf ∉ ms) →
    CallsIn Fence.wide 0 Tryz.prog 83 #[.pointer (some ⟨bx, 0, none⟩), .pointer (some ⟨bd, 0, none⟩), .pointer (some ⟨yb, 0, none⟩), .pointer (some ⟨bf, 0, none⟩)] W
      (TPost xs S n1 l n bx xb bd yb bf D J Jx pre p ms W) := by
  induction k with
  | zero => intro p pre rest ms W hp hxs hj hT hbm; exact from_end hc ha hD hn p pre rest ms W hp hxs hj hT hbm
  | succ k ih =>
  intro p pre rest ms W hp hxs hj hT hbm
  have hlt : p.length < D.length := by omega
  obtain ⟨d, hd⟩ := get_some hlt
  have hd64 := hd6 d (List.mem_of_getElem? hd)
  have Hvs : Hid (tupsFrom p ((D.drop p.length).map vals) = (vals d).flatMap fun v => tupsFrom (p ++ [v]) ((D.drop (p.length + 1)).map vals)) := hid (by
    rw [drop_cons hd, List.map_cons, tupsFrom_cons])
  obtain ⟨dv, hd1, hd2'⟩ := hT.dom
  have hd2 := hd2' [] (by simp)
  clear hd2'
  obtain ⟨dO, dc, rfl, ⟨hd3, hd4, _⟩, hd5⟩ := hd2
  obtain ⟨db, dof, rfl, _, hdc⟩ := hd5 p.length (d : Int) (by simp [hd])
  clear hd5
  have fx := fld hT.x; have fd := fld hd1; have fy := fld hT.yv; have ff := fld hT.fv
  have hdl : ((D.map fun d : Nat => (d : Int)).length) = n := by simpa using hD
  rw [hdl] at fd hd3
  have Hxs := hid hxs
  have Hj := hid hj
  have HT := hid hT
  have Hp := hid hp
  have Hd1 := hid hd1
  clear hxs hj hT hd1 hdl hd
  have hne : ((p.length : Int) == (n : Int)) = false := by simp; omega
  refine callsIn_of_wp Tryz.func83 rfl trivial ?_ rfl
  simp only [Tryz.ntmps83, List.size_toArray, List.length_cons, List.length_nil, Nat.reduceAdd, Nat.reduceSub, Array.replicate_succ, Array.replicate_zero, List.push_toArray, List.append_toArray, List.nil_append, List.cons_append]
  gi_wp2_with fail
  refine ⟨trivial, rfl, (callsIn_wide.2 (valuesOf_c d hd64 W)).mono ?_⟩
  rintro e w1 ⟨uv, rfl, hu, hgu⟩
  obtain ⟨a1, a2, a3, a4, a5, a6⟩ := ha.h1
  obtain ⟨b1, b2, b3, b4, b5⟩ := ha.h2
  have hmm := hc.hjm _ _ _ Hj.out
  have hbxl : bx < W.heap.size := (Array.getElem?_eq_some_iff.1 HT.out.x).1
  have hbfl : bf < W.heap.size := (Array.getElem?_eq_some_iff.1 HT.out.fv).1
  have hybl : yb < W.heap.size := (Array.getElem?_eq_some_iff.1 HT.out.yv).1
  have hxbl : xb < W.heap.size := (Array.getElem?_eq_some_iff.1 HT.out.arr.choose_spec.1).1
  have hvl : (vals d).length ≤ 6 := valsBelow_len d 6
  have HT1 := hid (HT.out.gr hgu (by simp) (by simp) (by simp) (by simp) (by simp) (by simp))
  have Hj1 := hid (hc.sj _ _ _ _ [] Hj.out hgu (by simp))
  have hun : Nums (l :: S ++ ms ++ [bx, xb]) w1 .i64 uv (vals d) := hu.nums' (by
    intro b hb
    simp only [List.cons_append, List.mem_cons, List.mem_append] at hb
    have hS := ha.h4
    rcases hb with h | (h | h) | h | h | h
    · left; omega
    · left; have := hS _ h; omega
    · left; exact (hmm _ h).2
    · left; omega
    · left; omega
    · simp at h)
  clear hu
  have Hun := hid hun
  obtain ⟨uo, uc, rfl, ⟨hu3, hu4, _⟩, _⟩ := hun
  dsimp only
  gi_wp2_with fail
  try simp only [hne]
  gi_loopw [22] (fun i wr => ∃ j : Nat, ∃ ms', j ≤ (vals d).length ∧ i = .int .i64 j ∧ J (pre ++ ((vals d).take j).flatMap fun v => tupsFrom (p ++ [v]) ((D.drop (p.length + 1)).map vals)) ms' wr ∧ TS wr S n1 l n bx xb bd yb bf D p ∧
    Nums (l :: S ++ ms' ++ [bx, xb]) wr .i64 (.slice uo (vals d).length uc) (vals d) ∧ Gr (l :: S ++ ms ++ [bx, xb]) W wr ∧ ∀ m ∈ ms', m ∈ ms ∨ W.heap.size ≤ m) (fun i _ => (vals d).length - (intOf i).toNat)
  case atStart => exact ⟨0, ms, Nat.zero_le _, rfl, by simpa using Hj1.out, HT1.out, Hun.out, hgu.any, fun m h => .inl h⟩
  case round =>
    obtain ⟨j, ms', hj, rfl, hjj, hTr, hunr, hgr, hms'⟩ := hrel
    have hsz := hgr.size
    have HTr := hid hTr
    by_cases hjl : j < (vals d).length
    · obtain ⟨v, hv⟩ := get_some hjl
      have Hunr := hid hunr
      obtain ⟨uo', uc', e, _, hcells⟩ := hunr
      cases e
      obtain ⟨ub, uof, rfl, _, hcell⟩ := hcells j v hv
      have Hv := hid hv
      have Hjj := hid hjj
      clear hcells hv hjj
      obtain ⟨i0, hi, _, hz1, _⟩ := info_parts infoI
      have fx := fld hTr.x
      have hown := hTr.own (by omega) hn
      clear hTr
      gi_wp2_with (gi_at_builtin; go_loud (refine wpListIn_append_fits _ rfl _ _ 23 rfl xb 3 i0 1 Tryz.underlying23 hi hz1 xb p.length n (p.map (Value.int .i64)) rfl (hown.alloc _) ⟨_, 0, none⟩ 1 1 [.int .i64 v] rfl rfl (fun j u hj => by cases j with | zero => simp at hj; subst hj; simp [Addr.add] | succ j => simp at hj) (fun x hx => by simp at hx; subst hx; rfl) (by omega) ?_; intro w3 hown3 hgrow3; have g3 := ((Gr.refl [xb] _).alloc _).grown hgrow3 (by rintro k hk; cases hk; left; simp); have fx3 := fld (g3.obj HTr.out.x (by simp; omega)); have fx3F := fldF (g3.obj HTr.out.x (by simp; omega)); have ff3 := fld (g3.obj HTr.out.fv (by simp; omega)); have HT3 := hid (HTr.out.push ha g3 v xb hown3); have G3 := hid g3; clear g3 hown3 hgrow3 hown fx))
      have hvd : vals d = (vals d).take j ++ v :: (vals d).drop (j + 1) := by
        have := List.take_append_drop j (vals d)
        rw [drop_cons Hv.out] at this
        exact this.symm
      have hnm : ∀ t, t < W.heap.size → t ∉ ms → t ∉ ms' := fun t h1 h2 h3 => by
        rcases hms' t h3 with h | h
        · exact h2 h
        · omega
      have nm1 := hnm bx hbxl hbm.1
      have nm2 := hnm xb hxbl hbm.2.1
      have nm3 := hnm yb hybl hbm.2.2.1
      have nm4 := hnm bf hbfl hbm.2.2.2
      have G4 := hid ((G3.out.sub (S' := [bx, xb]) fun k _ hk => by simp at hk ⊢; exact .inr hk).setCell ⟨bx, 0, none⟩ (.slice (some ⟨xb, 0, none⟩) (p.length + 1) n) (.inl (by simp)))
      have hjj3 := hc.sj _ _ _ _ [bx, xb] Hjj.out G4.out (by intro t ht; simp at ht; rcases ht with rfl | rfl; exact ⟨a1, nm1⟩; exact ⟨a2, nm2⟩)
      have e1 : ((D.drop (p ++ [v]).length).map vals) = (D.drop (p.length + 1)).map vals := by simp
      have hxs' : xs = (pre ++ ((vals d).take j).flatMap fun v => tupsFrom (p ++ [v]) ((D.drop (p.length + 1)).map vals)) ++ tupsFrom (p ++ [v]) ((D.drop (p ++ [v]).length).map vals) ++
          (((vals d).drop (j + 1)).flatMap (fun v => tupsFrom (p ++ [v]) ((D.drop (p.length + 1)).map vals)) ++ rest) := by
        rw [e1, Hxs.out, Hvs.out]
        conv => lhs; rw [hvd]
        simp
      have hcall := ih (p ++ [v]) _ _ ms' _ (by simp; omega) hxs' hjj3 HT3.out ⟨nm1, nm2, nm3, nm4⟩
      refine ⟨trivial, rfl, hcall.mono ?_⟩
      have Hvd := hid hvd
      have HTP := HT3.out.x
      clear hcall hxs' e1 hvd hjj3 HTP
      rintro e W' (⟨rfl, ms'', k1, k2, k3, k4⟩ | ⟨rfl, pre', ms'', k1, k2⟩)
      · dsimp only
        have e2 : (p ++ [v]).length = p.length + 1 := by simp
        have fx4 := fld k2.x
        have fx4F := fldF k2.x
        rw [e2] at fx4
        have K1 := hid k1
        have K2 := hid k2
        clear k1 k2 e2
        have Gt := (G4.out.sub (S' := l :: S ++ ms' ++ [bx, xb]) (fun k _ h => by simp only [List.mem_append]; exact .inr h)).trans k3
        have hs4 := G4.out.size
        have hs3 := k3.size
        clear k3
        gi_wp2_with fail
        go_roundw
        case measure => simp [intOf]; omega
        case rel =>
          have G5 := (Gr.refl [bx] W').setCell ⟨bx, 0, none⟩ (.slice (some ⟨xb, 0, none⟩) p.length n) (.inl (by simp))
          have Gt2 := Gt.trans (G5.sub fun k _ h => by simp only [List.mem_append]; right; simp at h; simp [h])
          have nb : bx ∉ ms'' := fun h => by
            rcases k4 _ h with h | h
            · exact nm1 h
            · omega
          refine ⟨j + 1, ms'', by omega, by go_num, ?_, K2.out.pop ha, ?_, hgr.step Gt2 ?_, ?_⟩
          · have e3 : ((vals d).take (j + 1)).flatMap (fun v => tupsFrom (p ++ [v]) ((D.drop (p.length + 1)).map vals)) = ((vals d).take j).flatMap (fun v => tupsFrom (p ++ [v]) ((D.drop (p.length + 1)).map vals)) ++ tupsFrom (p ++ [v]) ((D.drop (p.length + 1)).map vals) := by
              rw [List.take_add_one, Hv.out]
              simp
            rw [e3]
            refine hc.sj _ _ _ _ [bx] ?_ G5 (by intro t ht; simp at ht; subst ht; exact ⟨a1, nb⟩)
            have := K1.out
            rw [List.length_append, List.length_singleton, List.append_assoc] at this
            exact this
          · have q1 := Hunr.out.sub (S' := (l :: S ++ ms' ++ [bx, xb]) ++ ms'') (fun b hb h => by
              rcases List.mem_append.1 h with h | h
              · exact h
              · rcases k4 _ h with h | h
                · simp [h]
                · omega)
            refine (q1.gr (Gt2.sub fun k _ h => by simp only [List.mem_append] at h ⊢; exact .inl h)).sub fun b _ h => ?_
            simp only [List.mem_append] at h ⊢
            rcases h with (h | h) | h
            · exact .inl (.inl (.inl h))
            · exact .inr h
            · exact .inl (.inr h)
          · intro i hi
            simp only [List.mem_append] at hi ⊢
            rcases hi with (h | h) | h
            · exact .inl (.inl (.inl h))
            · rcases hms' _ h with h | h
              · exact .inl (.inl (.inr h))
              · exact .inr h
            · exact .inl (.inr h)
          · intro m hm
            rcases k4 _ hm with h | h
            · exact hms' _ h
            · right; omega
      · dsimp only
        gi_wp2_with fail
        go_ret
        exact .inr ⟨rfl, pre', ms'', k1, k2⟩
    · have : j = (vals d).length := by omega
      subst this
      have Hjj := hid hjj
      clear hjj hTr
      gi_wp2_with fail
      go_ret
      refine .inl ⟨rfl, ms', ?_, HTr.out, hgr, hms'⟩
      have := Hjj.out
      rw [List.take_length] at this
      rw [Hvs.out]
      exact this
end Go.Proofs.YtmonhpoogfdpoaaGreat

namespace Go.Proofs.YtmonhpoogfdpoaaGreat
open Go.RowKit
attribute [local go_sem] Oper.semAt_some

set_option maxRecDepth 100000 in
set_option maxHeartbeats 1000000 in
theorem tuples_iter (S : List Nat) (w0 : World) (bd : Nat) (dv : Value) (D : List Nat) (hd1 : w0.heap[bd]? = some (.cells #[dv] 23 (0, 0))) (hdn : Nums S w0 .i64 dv (D.map fun d : Nat => (d : Int))) (hbS : bd ∉ S)
    (hS : ∀ s ∈ S, s < w0.heap.size) (hn : D.length ≤ 1000) (hd6 : ∀ d ∈ D, d < 64) :
    Iter Tryz.prog 82 #[.pointer (some ⟨bd, 0, none⟩)] S w0 (tupsL (D.map vals)) (fun A W v x => Nums A W .i64 v x) := by
  intro l J Jx W hgr hl0 hlW hsj hsx hjm hrnd hj0
  have hbd0 : bd < w0.heap.size := (Array.getElem?_eq_some_iff.1 hd1).1
  have hsz := hgr.size
  have hdW := hgr.obj hd1 hbS
  have hdN : ∀ A : List Nat, (∀ a ∈ A, a = l ∨ a ∈ S ∨ W.heap.size ≤ a) → Nums A W .i64 dv (D.map fun d : Nat => (d : Int)) := fun A hA =>
    (((hdn.sub (S' := l :: S) (fun b hb h => by
      rcases List.mem_cons.1 h with rfl | h
      · omega
      · exact h)).gr (hgr.sub fun k _ h => by simp [h])).sub (S' := A) fun b hb h => by
        rcases hA b h with rfl | h | h
        · simp
        · simp [h]
        · omega)
  have HdN := hid hdN
  obtain ⟨dO, dc, rfl, ⟨hd3, hd4, _⟩, _⟩ := hdN [] (by simp)
  have hdl : ((D.map fun d : Nat => (d : Int)).length) = D.length := by simp
  rw [hdl] at hdW hd3
  have fd := fld ((((Gr.refl [] W).alloc (.cells #[.func (.yield l) #[] #[]] 45)).obj hdW (by simp)))
  have HdW := hid hdW
  have Hrnd := hid hrnd
  have Hjm := hid hjm
  have Hj0 := hid hj0
  clear hdW hrnd hjm hj0 hdl hdN hd1 hdn
  obtain ⟨i0, hi, hz0, hz1, hz2⟩ := info_parts infoI
  refine callsIn_of_wp Tryz.func82 rfl trivial ?_ rfl
  simp only [Tryz.ntmps82, List.size_toArray, List.length_cons, List.length_nil, Nat.reduceAdd, Nat.reduceSub, Array.replicate_succ, Array.replicate_zero, List.push_toArray, List.append_toArray, List.nil_append, List.cons_append]
  gi_wp2_with (gi_at_make; go_loud (refine wpListIn_make_own _ rfl _ _ 23 rfl (W.heap.size + 1) 3 i0 (.int .i64 0) 1 Tryz.underlying23 hi hz0 hz1 .i64 .i64 (D.length : Int) D.length rfl rfl rfl (by rw [hz2]; omega) (by simp only [maxLen]; omega) (by simp) ?_; intro w2 hown2 hgrow2; have Hown2 := hid hown2; have Hgr2 := hid hgrow2; clear hown2 hgrow2))
  have hown2 := Hown2.out
  have g12 := (Gr.refl [] (W.alloc (.cells #[.func (.yield l) #[] #[]] 45))).grown Hgr2.out (by simp)
  have hbW : bd < W.heap.size := by omega
  obtain ⟨cur, hcur, hcs⟩ : ∃ cur : Array Value, w2.heap[W.heap.size + 1]? = some (.cells cur 3 (0, 0)) ∧ cur.size = D.length := by
    rcases hown2.2 with ⟨h3, _⟩ | ⟨g', cap', cur, e1, hb, hgg, hnc, hcm, hcs, htake⟩
    · cases h3
    · cases e1
      exact ⟨cur, by simpa using hgg, by simpa using hcs⟩
  have hx2 : W.heap.size + 1 < w2.heap.size := (Array.getElem?_eq_some_iff.1 hcur).1
  obtain ⟨bA, hA⟩ : ∃ bA, bA = Obj.cells #[.slice (some ⟨W.heap.size + 1, 0, none⟩) 0 D.length] 23 := ⟨_, rfl⟩
  obtain ⟨bB, hB⟩ : ∃ bB, bB = Obj.cells #[.func (.func 83) #[] #[.pointer (some ⟨w2.heap.size, 0, none⟩), .pointer (some ⟨bd, 0, none⟩), .pointer (some ⟨W.heap.size, 0, none⟩), .pointer (some ⟨w2.heap.size + 1, 0, none⟩)]] 72 := ⟨_, rfl⟩
  rw [← hA, ← hB]
  have g23 : Gr [] w2 ((w2.alloc bA).alloc bB) := ((Gr.refl _ _).alloc _).alloc _
  have g13 := g12.trans g23
  have g03 := ((Gr.refl [] W).alloc (.cells #[.func (.yield l) #[] #[]] 45)).trans g13
  have hT : TS ((w2.alloc bA).alloc bB) S W.heap.size l D.length w2.heap.size (W.heap.size + 1) bd W.heap.size (w2.heap.size + 1) D [] := by
    refine ⟨?_, ⟨cur, g23.obj hcur (by simp), hcs, by simp⟩, ⟨_, g03.obj HdW.out (by simp), fun A hA => by have := (HdN.out A hA).gr g03.any; rw [List.length_map] at this; exact this⟩, g13.obj (World.alloc_heap_new W _) (by simp), ?_⟩
    · have := ((Gr.refl [] (w2.alloc bA)).alloc bB).obj (World.alloc_heap_new w2 bA) (by simp)
      rw [this, hA]; rfl
    · have := World.alloc_heap_new (w2.alloc bA) bB
      rw [World.size_alloc] at this
      rw [this, hB]
  have hc : TCaller (tupsL (D.map vals)) S W.heap.size l J Jx := ⟨hsj, hsx, Hjm.out, Hrnd.out⟩
  have ha : TApart S W.heap.size l w2.heap.size (W.heap.size + 1) bd W.heap.size (w2.heap.size + 1) := ⟨by omega, by omega, by
    intro h
    rcases List.mem_cons.1 h with h | h
    · omega
    · exact hbS h, fun s h => by have := hS s h; omega⟩
  have e1 : tupsFrom [] ((D.drop ([] : List Int).length).map vals) = tupsL (D.map vals) := by simp [tupsFrom]
  have hcall := from_c hc ha rfl hn hd6 D.length [] [] [] [] _ (by simp) (by rw [e1]; simp) (hsj _ _ _ _ [] Hj0.out g03 (by simp)) hT (by simp)
  have E1 := hid e1
  clear hT hA hB e1 hcur hcs hown2
  refine ⟨trivial, rfl, hcall.mono ?_⟩
  clear hcall
  rintro e W' (⟨rfl, ms', k1, k2, k3, k4⟩ | ⟨rfl, pre', ms', k1, k2⟩)
  · dsimp only
    have K1 := hid k1
    clear k1 k2 k3
    gi_wp2_with fail
    refine bodyPost_end (results_none rfl _ _ _) rfl ?_
    refine ⟨⟨_, rfl⟩, .inl ⟨ms', ?_⟩⟩
    have := K1.out
    rw [E1.out] at this
    exact this
  · dsimp only
    gi_wp2_with fail
    refine bodyPost_end (results_none rfl _ _ _) rfl ?_
    exact ⟨⟨_, rfl⟩, .inr ⟨pre', ms', k1, k2⟩⟩
end Go.Proofs.YtmonhpoogfdpoaaGreat

namespace Go.Proofs.YtmonhpoogfdpoaaGreat
open Go.RowKit

theorem tuples_c (dv : Value) (w : World) (ao : Option Addr) (ln cap : Nat) (hdv : dv = .slice ao ln cap) :
    Calls Tryz.prog 56 #[dv] w fun e w' => e = .returned (.func (.func 82) #[] #[.pointer (some ⟨w.heap.size, 0, none⟩)]) ∧ w' = w.alloc (.cells #[dv] 23) := by
  subst hdv
  go_enter Tryz.func56, Tryz.ntmps56
  go_wp2_with fail
  go_ret
  exact ⟨rfl, rfl⟩
end Go.Proofs.YtmonhpoogfdpoaaGreat

set_option linter.unusedVariables false
namespace Go.Proofs.YtmonhpoogfdpoaaGreat
open Go.RowKit
attribute [local go_sem] Oper.semAt_some

set_option maxRecDepth 100000 in
set_option maxHeartbeats 1000000 in
theorem filter_c (c : Con) (d : List Nat) (cv dv : Value) (w : World) (hv : ConV [] w cv c) (hx : Nums [] w .i64 dv (ints d)) (hc : VC c d.length) (hd : Below64 d) :
    Calls Tryz.prog 26 #[cv, dv] w fun e w' => ∃ v', e = .returned v' ∧ OwnC w.heap.size w' 3 v' (ints (filt c d)) ∧ Gr [] w w' := by
  have Hv := hid hv
  have Hx := hid hx
  have HC := hid hc
  have HD := hid hd
  have hl : c.vars.length ≤ 4 := by have := hc.k; have := hc.n4; omega
  obtain ⟨vv, av, rv, rfl, hvv, hav, hrv⟩ := hv
  obtain ⟨vo, vc, rfl, ⟨hv1, hv2, _⟩, hvvc⟩ := hvv
  have Hvvc := hid hvvc
  clear hvvc
  have hb0 : (w.alloc (.cells #[.int .i64 c.kind, .slice vo c.vars.length vc, av, .int .i64 c.bound, rv] 26)).heap[w.heap.size]? = some (.cells #[.int .i64 c.kind, .slice vo c.vars.length vc, av, .int .i64 c.bound, rv] 26 (0, 0)) := heap_alloc_new _ _
  have hfl := fld hb0
  clear hx hc hd hav hrv
  refine (callsIn_wide (n := 0)).1 ?_
  refine callsIn_of_wp_marks Tryz.func26 rfl trivial ?_ rfl
  simp only [Tryz.ntmps26, List.size_toArray, List.length_cons, List.length_nil, Nat.reduceAdd, Nat.reduceSub, Array.replicate_succ, Array.replicate_zero, List.push_toArray, List.append_toArray, List.nil_append, List.cons_append]
  gi_wp2_with (gi_at_make; go_loud (refine wpi_mkN rfl _ _ 23 rfl (w.heap.size + 1) 3 infoI Tryz.underlying23 c.vars.length rfl rfl (by omega) (by simp) ?_; intro w2 hown2 hg2; have hfl2 := fld (((Gr.refl [] w2).alloc (.cells #[.slice (some ⟨w.heap.size + 1, 0, none⟩) c.vars.length c.vars.length] 23)).obj (hg2.obj hb0 (by simp)) (by simp)); have Hown2 := hid hown2; have Hg2 := hid hg2; have Hb0 := hid hb0; clear hown2 hg2 hb0 hfl))
  have hgW : Gr [] w (w2.alloc (.cells #[.slice (some ⟨w.heap.size + 1, 0, none⟩) c.vars.length c.vars.length] 23)) := (((Gr.refl [] w).alloc _).trans Hg2.out).alloc _
  have HgW := hid hgW; clear hgW
  refine ⟨trivial, rfl, (callsIn_wide.2 (word_c c (ints d) _ _ _ (Hv.out.gr HgW.out) (Hx.out.gr HgW.out) (by omega) (by have := HC.out.rng; simpa [ints] using this))).mono ?_⟩
  rintro e w3 ⟨wv, rfl, hown3, hg3⟩
  rw [wordN_ints] at hown3
  have Hown3 := hid hown3
  have hwl : (ints (wordN c.vars d)).length = c.vars.length := by rw [ints_len, wordN_len]
  obtain ⟨wo, wc, rfl, ⟨hw1, hw2, _⟩, _⟩ := hown3.nums (S := []) (by simp)
  have Hg3 := hid hg3
  clear hown3 hg3
  rw [hwl] at hw1 Hown3 ⊢
  clear hwl
  dsimp only
  gi_wp2_with fail
  refine ⟨trivial, rfl, (callsIn_wide.2 (tuples_c _ _ _ _ _ rfl)).mono ?_⟩
  rintro e w4 ⟨rfl, rfl⟩
  dsimp only
  gi_wp2_with fail
  -- the loop over the tuples
  obtain ⟨wT, hwT⟩ : ∃ wT, wT = w3.alloc (.cells #[.slice wo c.vars.length wc] 23) := ⟨_, rfl⟩
  rw [← hwT]
  have hgT : Gr [] w wT := by rw [hwT]; exact ((HgW.out.trans Hg3.out)).alloc _
  have hg2T : Gr [] w2 wT := by rw [hwT]; exact (((Gr.refl [] w2).alloc _).trans Hg3.out).alloc _
  have hbT : wT.heap[w3.heap.size]? = some (.cells #[.slice wo c.vars.length wc] 23 (0, 0)) := by rw [hwT]; exact heap_alloc_new _ _
  have hcT := hg2T.obj (Hg2.out.obj Hb0.out (by simp)) (by simp)
  have hlT : wT.heap[w2.heap.size]? = some (.cells #[.slice (some ⟨w.heap.size + 1, 0, none⟩) c.vars.length c.vars.length] 23 (0, 0)) := by
    rw [hwT]; exact (Hg3.out.alloc _).obj (heap_alloc_new _ _) (by simp)
  have hs2 : w.heap.size + 1 < w2.heap.size := by
    have hkp : 0 < c.vars.length := by have := HC.out.k; omega
    obtain ⟨g, cap, e1, ⟨_, h2⟩, _⟩ := Hown2.out.open (by simpa using hkp)
    simp only [Value.slice.injEq, Option.some.injEq, Addr.mk.injEq] at e1
    omega
  have hs3 : w2.heap.size < w3.heap.size := by have := Hg3.out.size; simp at this; omega
  have hsT : wT.heap.size = w3.heap.size + 1 := by rw [hwT]; simp
  have hownT : Own (w.heap.size + 1) wT 3 (.slice (some ⟨w.heap.size + 1, 0, none⟩) c.vars.length c.vars.length) (ints (List.replicate c.vars.length 0)) := by
    have : ints (List.replicate c.vars.length 0) = List.replicate c.vars.length (0 : Int) := by simp [ints]
    have h2 := Hown2.out.gr hg2T (by simp)
    rw [World.size_alloc] at h2
    rw [this]; exact h2
  have hnT : Nums [w.heap.size + 1] wT .i64 (.slice wo c.vars.length wc) (ints (wordN c.vars d)) := by
    have h1 : Nums [w.heap.size + 1] w3 .i64 (.slice wo c.vars.length wc) (ints (wordN c.vars d)) := Hown3.out.nums' (by intro b hb; simp at hb; subst hb; left; simp; omega)
    rw [hwT]; exact h1.gr ((Gr.refl _ _).alloc _)
  have hit := tuples_iter [w.heap.size + 1] wT w3.heap.size _ (wordN c.vars d) hbT hnT (by simp; omega) (by intro s hs; simp at hs; subst hs; omega) (by rw [wordN_len]; omega) (HD.out.word c.vars)
  have Hit := hid hit
  have HgT := hid hgT; have HcT := hid hcT; have HlT := hid hlT; have HownT := hid hownT
  clear hit hgT hcT hlT hownT hbT hnT hg2T hwT
  refine' wp_rangeIter [w.heap.size + 1] rfl (fun _ _ => by kernel_rfl) _ _ Hit.out ?hS ?hrd ?hrs
    (fun pre ms W => ms = [] ∧ Gr [w.heap.size + 1] wT W ∧ Own (w.heap.size + 1) W 3 (.slice (some ⟨w.heap.size + 1, 0, none⟩) c.vars.length c.vars.length) (ints (supp (satB c) c.vars.length pre)))
    (fun _ _ _ _ => False) ?hI (fun _ _ _ _ _ _ h _ _ => h) ?hms ?h0 _ (fun _ _ _ _ h => h.elim) ?hassign ?hbody ?hdone (fun _ _ _ _ _ _ h => h.elim)
  case hassign =>
    intro l v W K hK
    gi_wp2_with fail
    exact hK
  case hS => intro s hs; simp at hs; subst hs; omega
  case hrd => intro A W W' v x _ h hg; exact h.gr hg
  case hrs => intro A B W v x h hb; exact h.sub fun b _ hm => hb b hm
  case hI =>
    rintro pre ms W W' T ⟨rfl, h1, h2⟩ hg hT
    refine ⟨rfl, h1.step hg (fun i hi => .inr (hT i hi).1), h2.keep hg (fun hm => ?_)⟩
    have := (hT _ hm).1; omega
  case hms => rintro pre ms W ⟨rfl, _⟩ m hm; simp at hm
  case h0 => exact ⟨rfl, Gr.refl _ _, HownT.out⟩
  case hbody =>
    rintro l pre rest x v ms W hxs ⟨rfl, hg, hown⟩ hr
    have hxm : x ∈ tups (wordN c.vars d) := by
      have : x ∈ tupsL ((wordN c.vars d).map vals) := by rw [hxs]; simp
      exact this
    have Hpre : Hid (∀ t ∈ pre, t ∈ tups (wordN c.vars d)) := hid fun t ht => by
      have : t ∈ tupsL ((wordN c.vars d).map vals) := by rw [hxs]; simp [ht]
      exact this
    have hxl : x.length = c.vars.length := by rw [tups_len hxm, wordN_len]
    have hF : Fit c x := ⟨HC.out.fits, hxl, by have := HC.out.k; omega, by omega, tups_val hxm⟩
    have hgw : Gr [] w W := HgT.out.step hg (fun i hi => .inr (by simp at hi; omega))
    have hfc := fld (hg.obj HcT.out (by simp))
    have hfl := fld (hg.obj HlT.out (by simp; omega))
    have Hr := hid (hr.sub (S' := []) (by simp))
    have Hrb := hid (hr.sub (S' := [w.heap.size + 1]) (by simp))
    obtain ⟨xo, xc, rfl, ⟨hx1, hx2, _⟩, _⟩ := hr
    have hxk : x.length ≤ c.vars.length := by omega
    have hxk2 : c.vars.length ≤ x.length := by omega
    have HF := hid hF; have Hxl := hid hxl; have Hgw := hid hgw; have Hxm := hid hxm; have Hxs := hid hxs; have Hown := hid hown; have Hg := hid hg
    clear hF hxl hgw hxm hxs hown hg
    gi_wp2_with fail
    have hcall := CallsIn.inRound l ((callsIn_wide (n := 0)).2 (satisfied_c c x _ _ W (Hv.out.gr Hgw.out) Hr.out HF.out))
    refine ⟨trivial, rfl, ?_⟩
    (with_reducible refine hcall.mono ?_)
    clear hcall
    rintro e W1 ⟨rfl, hg1⟩
    dsimp only
    have Hg1 := hid hg1
    clear hfc
    have hfl1 := fld (hg1.obj ((Hg.out).obj HlT.out (by simp; omega)) (by simp))
    clear hg1 hfl
    have hbl : w.heap.size + 1 < W.heap.size := by have := Hg.out.size; omega
    have hsn := supp_snoc (satB c) c.vars.length pre x
    have Hsn := hid hsn; clear hsn
    cases hb : satB c x
    · gi_wp2_with fail
      refine ⟨[], ⟨rfl, Hg.out.trans Hg1.out.any, ?_⟩, Hg1.out.any, by simp⟩
      rw [Hsn.out, hb]
      exact Hown.out.gr Hg1.out (by simp)
    · have Hb := hid hb; clear hb
      gi_wp2_with fail
      have hsl : (supp (satB c) c.vars.length pre).length = c.vars.length := by
        refine (suppFold_len _ _ _ fun t ht => ?_).trans (by simp)
        rw [tups_len (Hpre.out t ht), wordN_len]; simp
      have Hsl := hid hsl; clear hsl
      have Hsb : Hid (Below64 (supp (satB c) c.vars.length pre)) := hid (supp_below fun t ht => tups_val (Hpre.out t ht))
      gi_loopw [26] (fun i wr => ∃ n : Nat, n ≤ c.vars.length ∧ i = .int .i64 n ∧ Own (w.heap.size + 1) wr 3 (.slice (some ⟨w.heap.size + 1, 0, none⟩) c.vars.length c.vars.length) (ints (addN n (supp (satB c) c.vars.length pre) x)) ∧ Gr [w.heap.size + 1] W1 wr) (fun i _ => c.vars.length - (intOf i).toNat)
      case atStart => exact ⟨0, Nat.zero_le _, rfl, by rw [addN_zero]; exact Hown.out.gr Hg1.out (by simp), Gr.refl _ _⟩
      case round =>
        obtain ⟨n, hn, rfl, hown, hgr⟩ := hrel
        by_cases hlt : n < c.vars.length
        · obtain ⟨y, hy⟩ := get_some (show n < x.length by omega)
          have hyr := tups_val Hxm.out y (List.mem_of_getElem? hy)
          obtain ⟨y, rfl⟩ := Int.eq_ofNat_of_zero_le hyr.1
          have hac : x.length = (supp (satB c) c.vars.length pre).length := by rw [Hsl.out]; exact Hxl.out
          obtain ⟨z, hz⟩ := get_some (xs := supp (satB c) c.vars.length pre) (k := n) (by rw [Hsl.out]; exact hlt)
          have hzb := Hsb.out z (List.mem_of_getElem? hz)
          obtain ⟨hc1, hc2⟩ := hown.at (i := n) (x := z) (by rw [ints_get, addN_get hac (by rw [Hsl.out]; exact hlt), hz]; rfl)
          obtain ⟨bx, ox, rfl, hxs, hxn0⟩ := Hrb.out.at hy
          have hxn := (hgr.cell (Hg1.out.cell hxn0 (by simp)) hxs)
          have hflr := fld (hgr.obj (Hg1.out.obj ((Hg.out).obj HlT.out (by simp; omega)) (by simp)) (by simp; omega))
          have hset := hown.set n ((z ||| 2 ^ y : Nat) : Int) (by rw [ints_len, addN_len hac, Hsl.out]; exact hlt)
          rw [← ints_set, addN_succ hac hz hy] at hset
          have Hset := hid hset; have Hown2 := hid hown; have Hgr := hid hgr
          clear hset hown hgr hxn0 hfl1 hy hz hac hxs
          have hyr2 : y ≤ 5 := by omega
          clear hyr
          gi_wp2_with fail
          gi_region
          all_goals gi_wp2_with fail
          all_goals
            refine ⟨⟨n + 1, by omega, by go_num, ?_, (Hgr.out.setCell _ _ (.inl (by simp))).drew⟩, by simp [intOf]; omega⟩
            rw [or_shl hzb (by omega)]
            exact Hset.out.drew
        · gi_wp2_with fail
          refine ⟨[], ⟨rfl, (Hg.out.trans Hg1.out.any).trans hgr, ?_⟩, Hg1.out.any.trans (by simpa using hgr), by simp⟩
          have hac : x.length = (supp (satB c) c.vars.length pre).length := by rw [Hsl.out]; exact Hxl.out
          rw [Hsn.out, Hb.out, if_pos rfl, ← addN_all (n := n) hac (by rw [Hsl.out]; omega)]
          exact hown
  case hdone =>
    rintro D ms W ⟨rfl, hg, hown⟩ hD hD1 _
    have hgw : Gr [] w W := HgT.out.step hg (fun i hi => .inr (by simp at hi; omega))
    have Hgw := hid hgw; have Hg := hid hg; have Hown := hid hown; have HD0 := hid hD; have HD1 := hid hD1
    clear hgw hg hown hD hD1
    gi_wp2_with fail
    have hcall := (callsIn_wide (n := 0)).2 (copied_c _ (ints d) _ (Hx.out.gr Hgw.out) (by rw [ints_len]; have := HC.out.n4; omega))
    refine ⟨trivial, rfl, ?_⟩
    (with_reducible refine hcall.mono ?_)
    clear hcall
    rintro e W1 ⟨v1, rfl, hown1, hg1⟩
    dsimp only
    have hdp : 0 < (ints d).length := by rw [ints_len]; have := HC.out.n4; omega
    obtain ⟨go, goc, rfl⟩ := hown1.open hdp
    have hgo := hown1.block
    have hWs : w2.heap.size < W.heap.size := by have := Hg.out.size; omega
    have Hown1 := hid hown1; have Hg1 := hid hg1
    have hfc := fld (hg1.obj (Hg.out.obj HcT.out (by simp)) (by simp))
    clear hown1 hg1 hdp
    rw [ints_len] at Hown1 ⊢
    gi_wp2_with fail
    gi_loopw [45] (fun i wr => ∃ n : Nat, n ≤ c.vars.length ∧ i = .int .i64 n ∧ OwnC W.heap.size wr 3 (.slice (some ⟨go, 0, none⟩) d.length goc) (ints (setAll (c.vars.take n) ((supp (satB c) c.vars.length (tups (wordN c.vars d))).take n) d)) ∧ Gr [go] W1 wr) (fun i _ => c.vars.length - (intOf i).toNat)
    case atStart => exact ⟨0, Nat.zero_le _, rfl, by simpa [setAll] using Hown1.out, Gr.refl _ _⟩
    case round =>
      obtain ⟨n, hn, rfl, hown, hgr⟩ := hrel
      by_cases hlt : n < c.vars.length
      · obtain ⟨v, hv⟩ := get_some hlt
        have hvr := HC.out.rng v (List.mem_of_getElem? hv)
        obtain ⟨v, rfl⟩ := Int.eq_ofNat_of_zero_le hvr.1
        have hsl := supp_len (satB c) (wordN c.vars d)
        rw [wordN_len] at hsl
        obtain ⟨s, hs⟩ := get_some (xs := supp (satB c) c.vars.length (tups (wordN c.vars d))) (k := n) (by rw [hsl]; exact hlt)
        obtain ⟨a, ha⟩ := get_some (xs := setAll (c.vars.take n) ((supp (satB c) c.vars.length (tups (wordN c.vars d))).take n) d) (k := v) (by rw [setAll_len]; omega)
        obtain ⟨hc1, hc2⟩ := hown.at (i := v) (x := a) (by rw [ints_get, ha]; rfl)
        have hgW1 : Gr [go] W wr := Hg1.out.any.trans hgr
        obtain ⟨hc3, hc4⟩ := (Hown.out.keep hgW1 (by simp; omega)).at (i := n) (x := s) (by rw [ints_get]; exact congrArg _ hs)
        have hgw1 : Gr [] w wr := Hgw.out.step hgW1 (fun i hi => .inr (by simp at hi; omega))
        obtain ⟨bv, ov, rfl, _, hvc0⟩ := (Hvvc.out.gr hgw1) n _ hv
        have hlb := fld (hgW1.obj (Hg.out.obj HlT.out (by simp; omega)) (by simp; omega))
        have hset := hown.set v (s : Int)
        rw [← ints_set] at hset
        have hsn := setAll_snoc (D := d) hv hs
        rw [Int.toNat_natCast] at hsn
        have hvd : v < d.length := by omega
        have Hset := hid hset; have Hsn := hid hsn; have Hgr := hid hgr
        clear hset hsn hgr hgw1 hgW1 hv hs ha hown hsl
        gi_wp2_with fail
        refine ⟨⟨n + 1, by omega, by go_num, ?_, Hgr.out.setCell _ _ (.inl (by simp))⟩, by simp [intOf]; omega⟩
        rw [Hsn.out]; exact Hset.out
      · gi_wp2_with fail
        have hK : wr.heap[D]? = some (.deferred (some [])) := hgr.obj (Hg1.out.obj HD0.out (by simp)) (by simp; have := lt_of_block HD0.out; omega)
        refine ⟨by simp, .inl ⟨_, _, rfl, run_takeDeferred hK, ?_⟩⟩
        refine ⟨_, results_tmp rfl _ _ _, ?_⟩
        refine ⟨_, rfl, ?_, ?_⟩
        · have hsl := supp_len (satB c) (wordN c.vars d)
          rw [wordN_len] at hsl
          rw [List.take_of_length_le (by omega), List.take_of_length_le (by omega)] at hown
          exact (hown.keep (Gr.putObj wr D _) (by simp; have := lt_of_block HD0.out; omega)).le (by omega)
        · exact (((Hgw.out.trans Hg1.out).step hgr (fun i hi => .inr (by simp at hi; omega))).step (Gr.putObj wr D _) (fun i hi => .inr (by simp at hi; subst hi; have := HD1.out; omega)))
end Go.Proofs.YtmonhpoogfdpoaaGreat
