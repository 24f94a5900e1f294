/-
  Small lemmas on worlds and readings of integer slices, used by the walks of this seat. No program is mentioned.
  Memory laws inside a fence.
  A range over a function whose iterator keeps state of its own in memory: the law for the caller, and what the iterator owes. No program is mentioned.
  Models and constraints as plain data; how they are read in memory; the plain meaning of the checks on them. No program is mentioned.
  The objective, in plain mathematics.
  When a constraint is satisfied, in plain mathematics.
  All lists with a value of each domain, the least ones first, in plain mathematics.
-/
import Derived.WalkKit
import Derived.Deep.QuietTactic
import Derived.BigQuiet
import Derived.Laws.AppendOwnNone
import Derived.OwnWalkIn
import Derived.RangeFuncRecord
import Derived.RangeFuncOwn
set_option linter.unusedVariables false
namespace Go.Proofs.YtmonhpoogfdpoaaGreat
open Go.RowKit

/-- A fact kept from the walk. -/
theorem hid {p : Prop} (h : p) : Hid p := h
/-- The world has grown: of the blocks that were there, those outside the list S hold what they held. -/
structure Gr (S : List Nat) (w w' : World) : Prop where
  os : w'.os = w.os
  tape : w'.tape = w.tape
  output : w'.output = w.output
  size : w.heap.size ≤ w'.heap.size
  block : ∀ k, k < w.heap.size → k ∉ S → w'.heap[k]? = w.heap[k]?

theorem Gr.refl (S : List Nat) (w : World) : Gr S w w := ⟨rfl, rfl, rfl, Nat.le_refl _, fun _ _ _ => rfl⟩
theorem Gr.trans {S : List Nat} {a b c : World} (h : Gr S a b) (k : Gr S b c) : Gr S a c :=
  ⟨k.os.trans h.os, k.tape.trans h.tape, k.output.trans h.output, Nat.le_trans h.size k.size,
   fun i hi hs => (k.block i (Nat.lt_of_lt_of_le hi h.size) hs).trans (h.block i hi hs)⟩
theorem Gr.sub {S S' : List Nat} {a b : World} (h : Gr S a b) (hs : ∀ k, k < a.heap.size → k ∈ S → k ∈ S') : Gr S' a b :=
  ⟨h.os, h.tape, h.output, h.size, fun i hi hn => h.block i hi fun hm => hn (hs i hi hm)⟩
theorem Gr.any {S : List Nat} {a b : World} (h : Gr [] a b) : Gr S a b := h.sub fun _ _ hm => by simp at hm
/-- Blocks that were not there at the beginning need not be named. -/
theorem Gr.new {S : List Nat} {a b : World} (h : Gr S a b) (hs : ∀ k ∈ S, a.heap.size ≤ k) : Gr [] a b :=
  h.sub fun k hk hm => absurd (hs k hm) (by omega)
/-- Two steps, the second one writing also to blocks that were not there at the beginning. -/
theorem Gr.step {S S' : List Nat} {a b c : World} (h : Gr S a b) (k : Gr S' b c) (hs : ∀ i ∈ S', i ∈ S ∨ a.heap.size ≤ i) : Gr S a c :=
  ⟨k.os.trans h.os, k.tape.trans h.tape, k.output.trans h.output, Nat.le_trans h.size k.size,
   fun i hi hn => (k.block i (Nat.lt_of_lt_of_le hi h.size) (fun hm => (hs i hm).elim hn (by omega))).trans (h.block i hi hn)⟩
theorem Gr.drew {S : List Nat} {a w : World} (h : Gr S a w) : Gr S a w.drew := ⟨h.os, h.tape, h.output, h.size, h.block⟩
theorem Gr.drewN {S : List Nat} {a w : World} (h : Gr S a w) (n : Nat) : Gr S a (w.drewN n) := ⟨h.os, h.tape, h.output, h.size, h.block⟩
theorem Gr.alloc {S : List Nat} {a w : World} (h : Gr S a w) (o : Obj) : Gr S a (w.alloc o) :=
  ⟨h.os, h.tape, h.output, by have := h.size; simp; omega, fun k hk hs => (Below.heap_alloc w o k (Nat.lt_of_lt_of_le hk h.size)).trans (h.block k hk hs)⟩
theorem Gr.setCell {S : List Nat} {a w : World} (h : Gr S a w) (p : Addr) (u : Value) (hp : p.block ∈ S ∨ a.heap.size ≤ p.block) : Gr S a (w.setCell p u) :=
  ⟨h.os, h.tape, h.output, by have := h.size; simp; omega,
   fun k hk hs => (Below.heap_setCell w p u k (fun e => by subst e; rcases hp with hp | hp; exact hs hp; omega)).trans (h.block k hk hs)⟩
theorem Gr.grown {S : List Nat} {a w w' : World} {row : Option Nat} (h : Gr S a w) (hg : w.grownBy w' row) (hr : ∀ k, row = some k → k ∈ S ∨ a.heap.size ≤ k) : Gr S a w' :=
  ⟨hg.os.trans h.os, hg.tape.trans h.tape, hg.output.trans h.output, Nat.le_trans h.size hg.size,
   fun k hk hs => (hg.block k (Nat.lt_of_lt_of_le hk h.size) (fun e => by rcases hr k e.symm with h' | h'; exact hs h'; omega)).trans (h.block k hk hs)⟩
theorem Gr.below {w w' : World} (h : Gr [] w w') : Below w.heap.size w w' := ⟨h.os, h.tape, h.output, h.size, fun k hk => h.block k hk (by simp)⟩
theorem Gr.low {S : List Nat} {B : Nat} {a w w' : World} (h : Gr S a w) (hb : Below B w w') (hB : a.heap.size ≤ B) : Gr S a w' :=
  ⟨hb.os.trans h.os, hb.tape.trans h.tape, hb.output.trans h.output, Nat.le_trans h.size hb.size, fun k hk hs => (hb.block k (by omega)).trans (h.block k hk hs)⟩
theorem Gr.cell {S : List Nat} {w w' : World} (h : Gr S w w') {a : Addr} {v : Value} (hc : w.cell? a = some v) (hs : a.block ∉ S) : w'.cell? a = some v :=
  (World.cell?_of_block (h.block a.block (World.block_lt_of_cell? w a hc) hs)).trans hc
theorem Gr.frozen {S : List Nat} {w w' : World} (h : Gr S w w') {a : Addr} (hb : a.block < w.heap.size) (hs : a.block ∉ S) : w'.frozen? a = w.frozen? a :=
  World.frozen?_of_block (h.block a.block hb hs)
theorem Gr.obj {S : List Nat} {w w' : World} (h : Gr S w w') {b : Nat} {o : Obj} (hb : w.heap[b]? = some o) (hs : b ∉ S) : w'.heap[b]? = some o :=
  (h.block b (lt_of_block hb) hs).trans hb

theorem Gr.ownsRow {S : List Nat} {w w' : World} {B e size n : Nat} {v : Value} {xs : List Value} (hg : Gr S w w') (h : w.ownsRow B e size v n xs) (hS : ∀ b ∈ S, b < B) : w'.ownsRow B e size v n xs := by
  refine ⟨h.1, ?_⟩
  rcases h.2 with hn | ⟨g, cap, cur, rfl, hb, hgg, rest⟩
  · exact .inl hn
  · exact .inr ⟨g, cap, cur, rfl, hb, hg.obj hgg (fun hm => by have := hS g hm; omega), rest⟩
/-- A list of numbers in a block of its own, from block B on. -/
def Own (B : Nat) (w : World) (e : TypeId) (v : Value) (xs : List Int) : Prop := w.ownsRow B e 1 v xs.length (xs.map (Value.int .i64))
theorem Own.gr {S : List Nat} {B : Nat} {w w' : World} {e : TypeId} {v : Value} {xs : List Int} (h : Own B w e v xs) (hg : Gr S w w') (hS : ∀ b ∈ S, b < B) : Own B w' e v xs := hg.ownsRow h hS
theorem Own.alloc {B : Nat} {w : World} {e : TypeId} {v : Value} {xs : List Int} (h : Own B w e v xs) (o : Obj) : Own B (w.alloc o) e v xs := World.ownsRow.alloc h o
theorem Own.drew {B : Nat} {w : World} {e : TypeId} {v : Value} {xs : List Int} (h : Own B w e v xs) : Own B w.drew e v xs := World.ownsRow.drew h
theorem Own.nil (B : Nat) (w : World) (e : TypeId) : Own B w e (.slice none 0 0) [] := World.ownsRow_nil _ _ _ _
theorem Own.le {B B' : Nat} {w : World} {e : TypeId} {v : Value} {xs : List Int} (h : Own B w e v xs) (hB : B' ≤ B) : Own B' w e v xs := by
  refine ⟨h.1, ?_⟩
  rcases h.2 with hn | ⟨g, cap, cur, rfl, hb, rest⟩
  · exact .inl hn
  · exact .inr ⟨g, cap, cur, rfl, by omega, rest⟩
/-- What 'buildSlice' of no element makes: an empty block. -/
theorem Own.empty {B : Nat} (w : World) (e : TypeId) (hB : B ≤ w.heap.size) : Own B (w.alloc (.cells #[] e)) e (.slice (some ⟨w.heap.size, 0, none⟩) 0 0) [] :=
  World.ownsRow_made w #[] 0 hB (by simp [maxLen]) rfl

/-- The cells from the address on hold the numbers; the blocks are none of S. -/
def Cells (S : List Nat) (w : World) (k : IntKind) (ao : Option Addr) (xs : List Int) : Prop :=
  ∀ i x, xs[i]? = some x → ∃ b o, ao = some ⟨b, o, none⟩ ∧ b ∉ S ∧ w.cell? ⟨b, o + i, none⟩ = some (.int k x)
/-- A slice that reads as a list of numbers. -/
def Nums (S : List Nat) (w : World) (k : IntKind) (v : Value) (xs : List Int) : Prop :=
  ∃ ao cap, v = .slice ao xs.length cap ∧ (xs.length ≤ cap ∧ cap ≤ 9223372036854775807 ∧ (ao = none → cap = 0)) ∧ Cells S w k ao xs
theorem Cells.gr {S : List Nat} {w w' : World} {k : IntKind} {ao : Option Addr} {xs : List Int} (h : Cells S w k ao xs) (hg : Gr S w w') : Cells S w' k ao xs :=
  fun i x hi => let ⟨b, o, e, hs, hc⟩ := h i x hi; ⟨b, o, e, hs, hg.cell hc hs⟩
theorem Cells.low {S : List Nat} {B : Nat} {w w' : World} {k : IntKind} {ao : Option Addr} {xs : List Int} (h : Cells S w k ao xs) (hg : Below B w w') (ha : ∀ a, ao = some a → 0 < xs.length → a.block < B) : Cells S w' k ao xs :=
  fun i x hi => let ⟨b, o, e, hs, hc⟩ := h i x hi; ⟨b, o, e, hs, (hg.cell (p := ⟨b, o + i, none⟩) (show b < B from ha ⟨b, o, none⟩ e (Nat.lt_of_le_of_lt (Nat.zero_le _) (List.getElem?_eq_some_iff.1 hi).1))).trans hc⟩
theorem Nums.gr {S : List Nat} {w w' : World} {k : IntKind} {v : Value} {xs : List Int} (h : Nums S w k v xs) (hg : Gr S w w') : Nums S w' k v xs :=
  let ⟨ao, cap, e, hl, hc⟩ := h; ⟨ao, cap, e, hl, hc.gr hg⟩
theorem Cells.sub {S S' : List Nat} {w : World} {k : IntKind} {ao : Option Addr} {xs : List Int} (h : Cells S w k ao xs) (hs : ∀ b, b < w.heap.size → b ∈ S' → b ∈ S) : Cells S' w k ao xs :=
  fun i x hi => let ⟨b, o, e, hn, hc⟩ := h i x hi; ⟨b, o, e, fun hm => hn (hs b (World.block_lt_of_cell? w _ hc) hm), hc⟩
theorem Nums.sub {S S' : List Nat} {w : World} {k : IntKind} {v : Value} {xs : List Int} (h : Nums S w k v xs) (hs : ∀ b, b < w.heap.size → b ∈ S' → b ∈ S) : Nums S' w k v xs :=
  let ⟨ao, cap, e, hl, hc⟩ := h; ⟨ao, cap, e, hl, hc.sub hs⟩

theorem Own.nums' {S : List Nat} {B : Nat} {w : World} {e : TypeId} {v : Value} {xs : List Int} (h : Own B w e v xs) (hS : ∀ b ∈ S, b < B ∨ w.heap.size ≤ b) : Nums S w .i64 v xs := by
  obtain ⟨h1, h2⟩ := h
  rcases h2 with ⟨rfl, hl⟩ | ⟨g, cap, cur, rfl, hb, hgg, hnc, hcm, hcs, htake⟩
  · have : xs = [] := List.eq_nil_of_length_eq_zero hl
    subst this
    exact ⟨none, 0, rfl, by simp, fun i x hi => by simp at hi⟩
  · have hlt := lt_of_block hgg
    refine ⟨_, _, rfl, ⟨hnc, by simp only [maxLen] at hcm; omega, by simp⟩, fun i x hi => ⟨g, 0, rfl, fun hm => by have := hS g hm; omega, ?_⟩⟩
    have h3 : (cur.toList.take (xs.length * 1))[i]? = some (.int .i64 x) := by rw [htake, List.getElem?_map, hi]; rfl
    rw [List.getElem?_take] at h3
    split at h3
    · simp only [World.cell?, hgg]; simpa using h3
    · cases h3
theorem Own.nums {S : List Nat} {B : Nat} {w : World} {e : TypeId} {v : Value} {xs : List Int} (h : Own B w e v xs) (hS : ∀ b ∈ S, b < B) : Nums S w .i64 v xs :=
  h.nums' fun b hb => .inl (hS b hb)
/-- An owned list that is not empty: its block. -/
theorem Own.open {B : Nat} {w : World} {e : TypeId} {v : Value} {xs : List Int} (h : Own B w e v xs) (h0 : 0 < xs.length) :
    ∃ g cap, v = .slice (some ⟨g, 0, none⟩) xs.length cap ∧ (B ≤ g ∧ g < w.heap.size) ∧ (∀ i x, xs[i]? = some x → w.cell? ⟨g, i, none⟩ = some (.int .i64 x)) ∧ (∀ i, w.frozen? ⟨g, i, none⟩ = false) := by
  have hn := h.nums (S := []) (by simp)
  obtain ⟨h1, h2⟩ := h
  rcases h2 with ⟨rfl, hl⟩ | ⟨g, cap, cur, rfl, hb, hgg, hnc, hcm, hcs, htake⟩
  · omega
  · refine ⟨g, cap, rfl, ⟨hb, lt_of_block hgg⟩, fun i x hi => ?_, fun i => by simp [World.frozen?, hgg]⟩
    obtain ⟨ao, cap', e', _, hc⟩ := hn
    cases e'
    obtain ⟨b, o, e2, _, hcell⟩ := hc i x hi
    cases e2
    simpa using hcell
theorem Own.set {B : Nat} {w : World} {e : TypeId} {g cap n : Nat} {xs : List Int} (h : Own B w e (.slice (some ⟨g, 0, none⟩) n cap) xs) (i : Nat) (x : Int) (_hi : i < xs.length) :
    Own B (w.setCell ⟨g, i, none⟩ (.int .i64 x)) e (.slice (some ⟨g, 0, none⟩) n cap) (xs.set i x) := by
  obtain ⟨h1, h2⟩ := h
  rcases h2 with ⟨h3, _⟩ | ⟨g', cap', cur, e1, hb, hgg, hnc, hcm, hcs, htake⟩
  · cases h3
  · cases e1
    refine ⟨by simp, .inr ⟨g, cap, cur.setIfInBounds i (.int .i64 x), by simp, hb, ?_, by simpa using hnc, hcm, by simpa using hcs, ?_⟩⟩
    · simp [World.setCell, Array.getElem?_modify, hgg]
    · simp only [List.length_set, Nat.mul_one] at htake ⊢
      rw [Array.toList_setIfInBounds, List.take_set, htake, List.map_set]
/-- 'append(out, n)' on a list of the call's own. -/
theorem wp_app1 {P : Program} {w : World} {ops : Array Oper} {rest : List Oper} {o : Oper} {a : Act} {Q : Exit → Act → World → Prop} (hgd : o.guard = none) (s x : Operand) (t : TypeId)
    (ho : o.op = .call { callee := .builtin .append, args := #[s, x], argTypes := #[t, t] }) (B : Nat) (e : TypeId) (hinfo : (P.info? e).map (fun i => (i.zero, i.size, i.bytes)) = some (some (.int .i64 0), 1, 8))
    (ht : P.underlying t = some (.slice e)) (v : Value) (xs : List Int) (hs : a.eval s = v) (hown : Own B w e v xs) (g c : Nat) (n : Int) (hx : a.eval x = .slice (some ⟨g, 0, none⟩) 1 c) (hn : w.cell? ⟨g, 0, none⟩ = some (.int .i64 n))
    (hlen : xs.length ≤ 1000000000000) (hB : B ≤ w.heap.size)
    (h : ∀ v' w', Own B w' e v' (xs ++ [n]) → Below B w w' → wpList P ops Q rest (a.put o.dst v') w') : wpList P ops Q (o :: rest) a w := by
  obtain ⟨i0, hi, hz0, hz1, hz2⟩ := info_parts hinfo
  refine wpList_append_own w hgd s x t ho B e i0 (.int .i64 0) 1 8 ht hi hz0 hz1 hz2 rfl (by decide) v xs.length _ hs hown ⟨g, 0, none⟩ 1 c [.int .i64 n] hx rfl ?_ (by simp [Value.oneCell']) (by simp only [maxLen]; omega) (by omega) hB ?_
  · intro j u hj
    match j, hj with
    | 0, hj => simp at hj; subst hj; simpa [Addr.add] using hn
    | j + 1, hj => simp at hj
  · intro v' w' hown' hgrow _
    exact h v' w' (by simpa [Own] using hown') ((Below.refl _ _).grown hgrow hB fun k hk => (World.ownsRow.lt hown k hk).1)

/-- 'append(out, ys...)' on a list of the call's own. -/
theorem wp_appN {P : Program} {w : World} {ops : Array Oper} {rest : List Oper} {o : Oper} {a : Act} {Q : Exit → Act → World → Prop} (hgd : o.guard = none) (s x : Operand) (t : TypeId)
    (ho : o.op = .call { callee := .builtin .append, args := #[s, x], argTypes := #[t, t] }) (B : Nat) (e : TypeId) (hinfo : (P.info? e).map (fun i => (i.zero, i.size, i.bytes)) = some (some (.int .i64 0), 1, 8))
    (ht : P.underlying t = some (.slice e)) (v : Value) (xs ys : List Int) (hs : a.eval s = v) (hown : Own B w e v xs) (u : Value) (S : List Nat) (hx : a.eval x = u) (hn : Nums S w .i64 u ys)
    (hlen : xs.length + ys.length ≤ 1000000000000) (hB : B ≤ w.heap.size)
    (h : ∀ v' w', Own B w' e v' (xs ++ ys) → Below B w w' → wpList P ops Q rest (a.put o.dst v') w') : wpList P ops Q (o :: rest) a w := by
  obtain ⟨i0, hi, hz0, hz1, hz2⟩ := info_parts hinfo
  obtain ⟨ao, cap, rfl, ⟨hlc, hcm, hnil⟩, hc⟩ := hn
  cases ao with
  | none =>
    have hy : ys = [] := List.eq_nil_of_length_eq_zero (by have := hnil rfl; omega)
    have hcap := hnil rfl
    subst hy hcap
    exact wpList_append_own_none hgd s x t ho B e i0 1 ht hi v xs.length _ hs hown hx (h _ _ (by simpa using hown) (Below.refl _ _))
  | some ad =>
    refine wpList_append_own w hgd s x t ho B e i0 (.int .i64 0) 1 8 ht hi hz0 hz1 hz2 rfl (by decide) v xs.length _ hs hown ad ys.length cap (ys.map (Value.int .i64)) hx (by simp) ?_ ?_ (by simp only [maxLen]; omega) (by omega) hB ?_
    · intro j u hj
      rw [List.getElem?_map] at hj
      obtain ⟨y, hy, rfl⟩ := Option.map_eq_some_iff.1 hj
      obtain ⟨b, o', e', _, hcell⟩ := hc j y hy
      cases e'
      have : (⟨b, o', none⟩ : Addr).add j = ⟨b, o' + j, none⟩ := by unfold Addr.add; split <;> simp_all
      rw [this]; exact hcell
    · intro u hu
      obtain ⟨y, _, rfl⟩ := List.mem_map.1 hu
      rfl
    · intro v' w' hown' hgrow _
      exact h v' w' (by simpa [Own] using hown') ((Below.refl _ _).grown hgrow hB fun k hk => (World.ownsRow.lt hown k hk).1)

/-- 'make([]int, 0, n)'. -/
theorem wp_mk0 {P : Program} {w : World} {ops : Array Oper} {rest : List Oper} {o : Oper} {a : Act} {Q : Exit → Act → World → Prop} (hgd : o.guard = none) (l c : Operand) (t : TypeId)
    (ho : o.op = Op.makeSlice t l c) (B : Nat) (e : TypeId) (hinfo : (P.info? e).map (fun i => (i.zero, i.size, i.bytes)) = some (some (.int .i64 0), 1, 8))
    (ht : P.underlying t = some (.slice e)) (n : Nat) (hl : a.eval l = .int .i64 0) (hc : a.eval c = .int .i64 (n : Int)) (hn : n ≤ 1000000000000) (hB : B ≤ w.heap.size)
    (h : ∀ w', Own B w' e (.slice (some ⟨w.heap.size, 0, none⟩) 0 n) [] → Gr [] w w' → wpList P ops Q rest (a.put o.dst (.slice (some ⟨w.heap.size, 0, none⟩) 0 n)) w') : wpList P ops Q (o :: rest) a w := by
  obtain ⟨i0, hi, hz0, hz1, hz2⟩ := info_parts hinfo
  refine wpList_make_own w hgd l c t ho B e i0 (.int .i64 0) 1 ht hi hz0 hz1 .i64 .i64 n n hl hc rfl (by rw [hz2]; omega) (by simp only [maxLen]; omega) hB ?_
  intro w' hown hg
  exact h w' hown ((Gr.refl _ _).grown hg (by simp))
/-- A new block of numbers. -/
theorem nums_new (w : World) (t : TypeId) (xs : List Int) {S : List Nat} (hS : w.heap.size ∉ S) (hl : xs.length ≤ 9223372036854775807 := by simp) :
    Nums S (w.alloc (.cells (xs.map (Value.int .i64)).toArray t)) .i64 (.slice (some ⟨w.heap.size, 0, none⟩) xs.length xs.length) xs :=
  ⟨_, _, rfl, ⟨Nat.le_refl _, hl, by simp⟩, fun i x hi => ⟨w.heap.size, 0, rfl, hS, by
    rw [World.cell?_alloc_at _ _ _ _ rfl]; simp [hi]⟩⟩

/-- The worlds that have grown out of a world. -/
def GrW (S : List Nat) (w0 : World) : Type := { w' : World // Gr S w0 w' }
instance GrW.nonempty (S : List Nat) (w0 : World) : Nonempty (GrW S w0) := ⟨⟨w0, Gr.refl _ _⟩⟩
theorem GrW.gr {S : List Nat} {w0 : World} (n : GrW S w0) : Gr S w0 n.val := n.property
/-- A region that draws its order, each operation of which yields one value in every world that has grown out of w0. -/
theorem wp_region_gr {P : Program} {id : Nat} {Q : Exit → Act → World → Prop} {a : Act} {w : World} {l : List Oper} (S : List Nat) (w0 : World) (hm : P.follows .mixedOrders = true) (hB : Region.lexB .any l.toArray = true) (hC : Gr S w0 w)
    (h : wpQuiet P l.toArray (fun w' => ∃ n : GrW S w0, w' = n.val) (fun a' => ∀ w', (∃ n : GrW S w0, w' = n.val) → Q .normal a' w') l a) : (Code.region id l.toArray true).wp P Q a w :=
  wp_region_quiet (C := fun w' => ∃ n : GrW S w0, w' = n.val) hm hB ⟨⟨_, hC.drew⟩, rfl⟩ (by simpa using h)
theorem Calls.gr_of {P : Program} {f : FuncId} {args : Array Value} {S : List Nat} {w0 : World} {n : GrW S w0} {v : Value}
    (h : Calls P f args n.val fun e w' => e = .returned v ∧ Gr S n.val w') : Calls P f args n.val fun e w'' => e = .returned v ∧ ∃ m : GrW S w0, w'' = m.val :=
  h.mono fun _ _ ⟨he, hg⟩ => ⟨he, ⟨_, Gr.trans n.property hg⟩, rfl⟩

def inB (lo hi x : Int) : Bool := decide (lo ≤ x) && decide (x ≤ hi)
def anyB (p : Int → Bool) (xs : List Int) : Bool := xs.any p
def allB (lo hi : Int) (xs : List Int) : Bool := xs.all (inB lo hi)

theorem inB_iff {lo hi x : Int} : inB lo hi x = true ↔ lo ≤ x ∧ x ≤ hi := by unfold inB; rw [Bool.and_eq_true, decide_eq_true_eq, decide_eq_true_eq]
theorem allB_iff {lo hi : Int} {xs : List Int} : allB lo hi xs = true ↔ ∀ x ∈ xs, lo ≤ x ∧ x ≤ hi := by
  unfold allB; rw [List.all_eq_true]; exact ⟨fun h x hx => inB_iff.1 (h x hx), fun h x hx => inB_iff.2 (h x hx)⟩

theorem ret_bool {a b : Bool} (h : a = b) : Ending.returned (.bool a) = Ending.returned (.bool b) := by rw [h]
theorem ret_int {k : IntKind} {a b : Int} (h : a = b) : Ending.returned (.int k a) = Ending.returned (.int k b) := by rw [h]

theorem ofInt_toNat (a : Nat) (ha : a < 9223372036854775808) : (BitVec.ofInt 64 (a : Int)).toNat = a := by
  rw [BitVec.ofInt_natCast, BitVec.toNat_ofNat]; exact Nat.mod_eq_of_lt (by omega)
theorem i64_xor (a b : Nat) (ha : a < 9223372036854775808) (hb : b < 9223372036854775808) : bits .xor .i64 (a : Int) (b : Int) = ((a ^^^ b : Nat) : Int) := by
  have hx : a ^^^ b < 2 ^ 63 := Nat.xor_lt_two_pow (by omega) (by omega)
  show IntKind.i64.wrap ((BitVec.ofInt 64 (a : Int) ^^^ BitVec.ofInt 64 (b : Int)).toNat : Int) = _
  rw [BitVec.toNat_xor, ofInt_toNat a ha, ofInt_toNat b hb, IntKind.wrap_i64]
  omega
theorem i64_or (a b : Nat) (ha : a < 9223372036854775808) (hb : b < 9223372036854775808) : bits .or .i64 (a : Int) (b : Int) = ((a ||| b : Nat) : Int) := by
  have hx : a ||| b < 2 ^ 63 := Nat.or_lt_two_pow (by omega) (by omega)
  show IntKind.i64.wrap ((BitVec.ofInt 64 (a : Int) ||| BitVec.ofInt 64 (b : Int)).toNat : Int) = _
  rw [BitVec.toNat_or, ofInt_toNat a ha, ofInt_toNat b hb, IntKind.wrap_i64]
  omega
theorem i64_and (a b : Nat) (ha : a < 9223372036854775808) (hb : b < 9223372036854775808) : bits .and .i64 (a : Int) (b : Int) = ((a &&& b : Nat) : Int) := by
  have hx : a &&& b < 2 ^ 63 := Nat.and_lt_two_pow _ (by omega)
  show IntKind.i64.wrap ((BitVec.ofInt 64 (a : Int) &&& BitVec.ofInt 64 (b : Int)).toNat : Int) = _
  rw [BitVec.toNat_and, ofInt_toNat a ha, ofInt_toNat b hb, IntKind.wrap_i64]
  omega
theorem i64_xor_nn (a b : Int) (ha : 0 ≤ a ∧ a < 9223372036854775808) (hb : 0 ≤ b ∧ b < 9223372036854775808) : 0 ≤ bits .xor .i64 a b := by
  obtain ⟨x, rfl⟩ := Int.eq_ofNat_of_zero_le ha.1
  obtain ⟨y, rfl⟩ := Int.eq_ofNat_of_zero_le hb.1
  rw [i64_xor x y (by omega) (by omega)]; omega

theorem drop_cons {α : Type} {xs : List α} {k : Nat} {x : α} (h : xs[k]? = some x) : xs.drop k = x :: xs.drop (k + 1) := by
  obtain ⟨hk, rfl⟩ := List.getElem?_eq_some_iff.1 h
  exact List.drop_eq_getElem_cons hk
theorem get_some {α : Type} {xs : List α} {k : Nat} (h : k < xs.length) : ∃ x, xs[k]? = some x := ⟨xs[k], List.getElem?_eq_getElem h⟩
theorem drop_end {α : Type} {xs : List α} {k : Nat} (h : xs.length ≤ k) : xs.drop k = [] := List.drop_eq_nil_of_le h
end Go.Proofs.YtmonhpoogfdpoaaGreat

namespace Go.Proofs.YtmonhpoogfdpoaaGreat
open Go.RowKit

/-- 'make([]int, n)', fenced. -/
theorem wpi_mkN {F : Fence} {m : Nat} {P : Program} {w : World} {ops : Array Oper} {rest : List Oper} {o : Oper} {a : Act} {Q : Exit → Act → World → Prop} (hgd : o.guard = none) (l c : Operand) (t : TypeId)
    (ho : o.op = Op.makeSlice t l c) (B : Nat) (e : TypeId) (hinfo : (P.info? e).map (fun i => (i.zero, i.size, i.bytes)) = some (some (.int .i64 0), 1, 8))
    (ht : P.underlying t = some (.slice e)) (n : Nat) (hl : a.eval l = .int .i64 (n : Int)) (hc : a.eval c = .int .i64 (n : Int)) (hn : n ≤ 1000000000000) (hB : B ≤ w.heap.size)
    (h : ∀ w', Own B w' e (.slice (some ⟨w.heap.size, 0, none⟩) n n) (List.replicate n 0) → Gr [] w w' → wpListIn F m P ops Q rest (a.put o.dst (.slice (some ⟨w.heap.size, 0, none⟩) n n)) w') : wpListIn F m P ops Q (o :: rest) a w := by
  obtain ⟨i0, hi, hz0, hz1, hz2⟩ := info_parts hinfo
  refine wpListIn_plain hgd fun K hK' => ?_
  obtain ⟨w', hrun, r1, r2⟩ := run_make_full (P := P) w B t e i0 (.int .i64 0) 1 ht hi hz0 hz1 .i64 .i64 n (by rw [hz2]; omega) (by simp only [maxLen]; omega) hB
  have e1 : (madeCells (Value.cells (.int .i64 0)) (n * 1)).toList = (List.replicate n (0 : Int)).map (Value.int .i64) := by
    rw [List.map_replicate, Nat.mul_one]; exact toList_madeCells_one _ _
  rw [e1] at r1
  have h' := h w' (by simpa [Own] using r1) ((Gr.refl _ _).grown r2 (by simp))
  unfold Oper.wpIn
  refine ⟨?_, ?_⟩
  · simp [Oper.about, ho]
  · rw [Oper.semAt_plain F _ _ (by rw [ho]; intro c hc'; cases hc')]
    simp [execOp, ho, hl, hc, hrun, Result.andThen]
    exact hK' _ _ h'
end Go.Proofs.YtmonhpoogfdpoaaGreat

namespace Go.Proofs.YtmonhpoogfdpoaaGreat
open Go.RowKit

/-- A family of facts that abides whatever the iterator does to blocks of its own: those from n on that are none of ms. -/
def Stable {α : Type} (n : Nat) (J : List α → List Nat → World → Prop) : Prop :=
  ∀ pre ms W W' T, J pre ms W → Gr T W W' → (∀ t ∈ T, n ≤ t ∧ t ∉ ms) → J pre ms W'

/-- What an iterator owes: it hands each of xs to yield, in this order, until yield says no. 'S': the caller's blocks that a round may write; 'ms': those that were made since. -/
def Iter {α : Type} (P : Program) (g : Nat) (lb : Array Value) (S : List Nat) (w0 : World) (xs : List α) (rd : List Nat → World → Value → α → Prop) : Prop :=
  ∀ (l : Nat) (J Jx : List α → List Nat → World → Prop) (W : World), Gr S w0 W → w0.heap.size ≤ l → l < W.heap.size → Stable W.heap.size J → Stable W.heap.size Jx →
    (∀ pre ms W1, J pre ms W1 → ∀ m ∈ ms, W.heap.size ≤ m ∧ m < W1.heap.size) →
    (∀ pre x rest v ms W1, xs = pre ++ x :: rest → J pre ms W1 → rd (l :: S ++ ms) W1 v x → ∃ fn tmps assign body, (Instr.yield l #[v]).run P W1 = .ok (.round l fn tmps assign body) W1 ∧
      RoundIn Fence.wide 0 P l fn tmps assign body W1 fun e W' =>
        (e = .returned (.bool true) ∧ ∃ ms', J (pre ++ [x]) ms' W' ∧ Gr (l :: S ++ ms) W1 W' ∧ ∀ m ∈ ms', m ∈ ms ∨ W1.heap.size ≤ m) ∨
        (e = .returned (.bool false) ∧ ∃ ms', Jx (pre ++ [x]) ms' W' ∧ Gr (l :: S ++ ms) W1 W')) →
    J [] [] W →
    CallsIn Fence.wide 0 P g (#[.func (.yield l) #[] #[]] ++ lb) W fun e W' => (∃ v, e = .returned v) ∧ ((∃ ms, J xs ms W') ∨ (∃ pre ms, pre <+: xs ∧ Jx pre ms W'))

theorem Gr.putObj (W : World) (l : Nat) (o : Obj) : Gr [l] W (W.putObj l o) :=
  ⟨rfl, rfl, rfl, by simp, fun k _ hk => World.putObj_heap_other (by simpa using hk)⟩

/-- How the body of a round may be left. -/
def roundEnd {α : Type} (S : List Nat) (I : List α → List Nat → World → Prop) (Ix : Code → List α → List Nat → World → Prop) (xs : List α) (ms : List Nat) (W : World) : Exit → Act → World → Prop
  | .normal, _, W' => ∃ ms', I xs ms' W' ∧ Gr (S ++ ms) W W' ∧ ∀ m ∈ ms', m ∈ ms ∨ W.heap.size ≤ m
  | .ret, _, W' => ∃ ms', Ix .ret xs ms' W' ∧ Gr (S ++ ms) W W'
  | .exit id, _, W' => ∃ ms', Ix (.exit id) xs ms' W' ∧ Gr (S ++ ms) W W'
  | .goto t, _, W' => ∃ ms', Ix (.goto t) xs ms' W' ∧ Gr (S ++ ms) W W'
  | .panic _, _, _ => False
  | .outgrown, _, _ => False

theorem wp_rangeIter {α : Type} {P : Program} {g : Operand} {p : Tmp} {assign body : Code} {Q : Exit → Act → World → Prop} {a : Act} {w : World} (S : List Nat)
    {gf : Nat} {lb : Array Value} (hg : a.eval g = .func (.func gf) #[] lb) (eg : ∀ args w, (callFunc gf args).run P w = .ok (.enter gf args) w)
    (xs : List α) (rd : List Nat → World → Value → α → Prop) (hit : Iter P gf lb S w xs rd) (hS : ∀ s ∈ S, s < w.heap.size)
    (hrd : ∀ (A : List Nat) W W' v x, (∀ t ∈ A, t < W.heap.size) → rd A W v x → Gr A W W' → rd A W' v x) (hrs : ∀ (A B : List Nat) W v x, rd A W v x → (∀ b ∈ B, b ∈ A) → rd B W v x)
    (I : List α → List Nat → World → Prop) (Ix : Code → List α → List Nat → World → Prop) (hI : Stable w.heap.size I) (hIx : ∀ c, Stable w.heap.size (Ix c))
    (hms : ∀ pre ms W, I pre ms W → ∀ m ∈ ms, w.heap.size + 2 ≤ m ∧ m < W.heap.size) (h0 : I [] [] w) (a₁ : Value → Act)
    (hmsx : ∀ c pre ms W, Ix c pre ms W → ∀ m ∈ ms, w.heap.size + 2 ≤ m)
    (hassign : ∀ (l : Nat) (v : Value) (W : World) (K : Act → World → Prop), K (a₁ v) W →
      assign.wpIn (Fence.wide.inRound l) 0 P (Exit.then K (fun _ _ _ => False)) { tmps := a.tmps.setIfInBounds p v, defers := [] } W)
    (hbody : ∀ (l : Nat) (pre rest : List α) (x : α) (v : Value) (ms : List Nat) (W : World), xs = pre ++ x :: rest → I pre ms W → rd (S ++ ms) W v x →
      body.wpIn (Fence.wide.inRound l) 0 P (roundEnd S I Ix (pre ++ [x]) ms W) (a₁ v) W)
    (hdone : ∀ (D : Nat) (ms : List Nat) (W : World), I xs ms W → W.heap[D]? = some (.deferred (some [])) → w.heap.size ≤ D → D ∉ ms → Q .normal { a with defers := { target := .collected D, args := #[] } :: a.defers } W)
    (hstop : ∀ (D : Nat) (c : Code) (pre : List α) (ms : List Nat) (W : World), pre <+: xs → Ix c pre ms W → W.heap[D]? = some (.deferred (some [])) → w.heap.size ≤ D → D ∉ ms →
      c.wpIn Fence.wide 0 P Q { a with defers := { target := .collected D, args := #[] } :: a.defers } W) :
    (Code.rangeFunc g #[p] assign body).wpIn Fence.wide 0 P Q a w := by
  refine wpIn_rangeFunc ?_
  intro fn hfn
  obtain ⟨rec, hrec⟩ : ∃ rec : LoopState → Option Code → Loop, rec = fun st pe => { state := st, pending := pe, fn, tmps := a.tmps, params := #[p], assign, body, defers := w.heap.size } := ⟨_, rfl⟩
  obtain ⟨W1, hW1⟩ : ∃ W1, (w.alloc (.deferred (some []))).alloc (.loop (rec .ready none)) = W1 := ⟨_, rfl⟩
  have hL1 : W1.heap[w.heap.size + 1]? = some (.loop (rec .ready none)) := by
    rw [← hW1]; have := World.alloc_heap_new (w.alloc (.deferred (some []))) (.loop (rec .ready none)); rwa [World.size_alloc] at this
  have hK1 : W1.heap[w.heap.size]? = some (.deferred (some [])) := by
    rw [← hW1]; exact (Below.heap_alloc _ _ _ (by simp)).trans (World.alloc_heap_new w _)
  have hg1 : Gr [] w W1 := by rw [← hW1]; exact ((Gr.refl _ _).alloc _).alloc _
  have hs1 : W1.heap.size = w.heap.size + 2 := by rw [← hW1]; simp
  have hI1 : I [] [] W1 := hI _ _ _ _ [] h0 hg1 (by simp)
  refine ⟨w.heap.size + 1, [{ target := .collected w.heap.size, args := #[] }], W1, { target := .fn (.func gf) lb, args := #[.func (.yield (w.heap.size + 1)) #[] #[]] }, W1, gf,
    #[.func (.yield (w.heap.size + 1)) #[] #[]] ++ lb, W1, ?_, ?_, ?_, ?_, fun h => by simp [Fence.wide] at h, ?_⟩
  · rw [← hW1, hrec]; exact run_enterLoop_outer _ _ _ _ _
  · simp only [resolve, hg]
    simp [go_sem]
  · intro f' _; trivial
  · simp [invoke, go_sem, eg]
  · have hn0 : (0 : Nat) - 1 = 0 := rfl
    refine (hit (w.heap.size + 1)
      (fun pre ms W => I pre ms W ∧ W.heap[w.heap.size + 1]? = some (.loop (rec .ready none)) ∧ W.heap[w.heap.size]? = some (.deferred (some [])))
      (fun pre ms W => ∃ c, Ix c pre ms W ∧ W.heap[w.heap.size + 1]? = some (.loop (rec .done (some c))) ∧ W.heap[w.heap.size]? = some (.deferred (some [])) ∧ (∀ m ∈ ms, w.heap.size + 2 ≤ m))
      W1 hg1.any (by omega) (by omega) ?_ ?_ ?_ ?_ ⟨hI1, hL1, hK1⟩).mono ?_
    · rintro pre ms A B T ⟨h1, h2, h3⟩ hgr hT
      exact ⟨hI _ _ _ _ T h1 hgr (fun t ht => ⟨by have := (hT t ht).1; omega, (hT t ht).2⟩), hgr.obj h2 (fun hm => by have := (hT _ hm).1; omega), hgr.obj h3 (fun hm => by have := (hT _ hm).1; omega)⟩
    · rintro pre ms A B T ⟨c, h1, h2, h3, h4⟩ hgr hT
      exact ⟨c, hIx c _ _ _ _ T h1 hgr (fun t ht => ⟨by have := (hT t ht).1; omega, (hT t ht).2⟩), hgr.obj h2 (fun hm => by have := (hT _ hm).1; omega), hgr.obj h3 (fun hm => by have := (hT _ hm).1; omega), h4⟩
    · rintro pre ms A ⟨h1, _, _⟩ m hm
      have := hms _ _ _ h1 m hm
      omega
    · rintro pre x rest v ms W hxs ⟨hi, hl, hk⟩ hr
      have hlt : w.heap.size + 1 < W.heap.size := (Array.getElem?_eq_some_iff.1 hl).1
      have hy := run_yield (P := P) (args := #[v]) hl (by rw [hrec]; rfl)
      rw [hrec] at hy
      have hmm := hms _ _ _ hi
      refine ⟨fn, _, assign, body, hy, roundIn_of_wpIn hfn ?_⟩
      have e1 : (Array.zip #[p] #[v]).foldl (fun tmps (x : Tmp × Value) => tmps.setIfInBounds x.1 x.2) a.tmps = a.tmps.setIfInBounds p v := by simp
      have e2 : (fun (tmps : Array Value) (x : Tmp × Value) => match x with | (t, a) => tmps.setIfInBounds t a) = (fun tmps (x : Tmp × Value) => tmps.setIfInBounds x.1 x.2) := by funext t ⟨x, y⟩; rfl
      have e3 : (Array.zip #[p] #[v]).foldl (fun (tmps : Array Value) (x : Tmp × Value) => match x with | (t, a) => tmps.setIfInBounds t a) a.tmps = a.tmps.setIfInBounds p v := by rw [e2, e1]
      rw [e3]
      refine hassign _ v W _ ⟨_, run_beginRound hl (by rw [hrec]), ?_⟩
      have hl2 : (W.putObj (w.heap.size + 1) (.loop { rec .ready none with state := .busy })).heap[w.heap.size + 1]? = some (.loop { rec .ready none with state := .busy }) := World.putObj_heap_same hlt
      have hk2 : (W.putObj (w.heap.size + 1) (.loop { rec .ready none with state := .busy })).heap[w.heap.size]? = some (.deferred (some [])) := (World.putObj_heap_other (by omega)).trans hk
      have hgb : Gr [w.heap.size + 1] W (W.putObj (w.heap.size + 1) (.loop { rec .ready none with state := .busy })) := Gr.putObj _ _ _
      have hnm : w.heap.size + 1 ∉ ms := fun hm => by have := hmm _ hm; omega
      have hnd : w.heap.size ∉ S ++ ms := fun hm => by rcases List.mem_append.1 hm with hm | hm; have := hS _ hm; omega; have := hmm _ hm; omega
      have hnl : w.heap.size + 1 ∉ S ++ ms := fun hm => by rcases List.mem_append.1 hm with hm | hm; have := hS _ hm; omega; have := hmm _ hm; omega
      have hi2 : I pre ms (W.putObj (w.heap.size + 1) (.loop { rec .ready none with state := .busy })) := hI _ _ _ _ _ hi hgb (by simpa using hnm)
      have hr2 := hrd (((w.heap.size + 1) :: S) ++ ms) W _ v x (by
        intro t ht
        rcases List.mem_append.1 ht with ht | ht
        · rcases List.mem_cons.1 ht with rfl | ht
          · exact hlt
          · have := hS _ ht; omega
        · exact (hmm _ ht).2) hr (hgb.sub (fun k _ h => by simp at h ⊢; exact .inl h))
      refine wpIn_mono (hbody _ pre rest x v ms _ hxs hi2 (hrs _ _ _ _ _ hr2 (by intro b hb; simp at hb ⊢; exact .inr hb))) ?_
      have fin : ∀ (jump : Option Code) (W3 : World), Gr (S ++ ms) (W.putObj (w.heap.size + 1) (.loop { rec .ready none with state := .busy })) W3 →
          (Instr.endRound (w.heap.size + 1) jump).run P W3 = .ok (.bool jump.isNone) (W3.putObj (w.heap.size + 1) (.loop (rec (if jump.isNone then .ready else .done) jump))) ∧
          (W3.putObj (w.heap.size + 1) (.loop (rec (if jump.isNone then .ready else .done) jump))).heap[w.heap.size + 1]? = some (.loop (rec (if jump.isNone then .ready else .done) jump)) ∧
          (W3.putObj (w.heap.size + 1) (.loop (rec (if jump.isNone then .ready else .done) jump))).heap[w.heap.size]? = some (.deferred (some [])) ∧
          Gr (((w.heap.size + 1) :: S) ++ ms) W (W3.putObj (w.heap.size + 1) (.loop (rec (if jump.isNone then .ready else .done) jump))) := fun jump W3 hk3 => by
        have hl3 := hk3.obj hl2 hnl
        have := run_endRound (P := P) jump hl3
        rw [hrec] at this ⊢
        refine ⟨this, World.putObj_heap_same (Array.getElem?_eq_some_iff.1 hl3).1, (World.putObj_heap_other (by omega)).trans (hk3.obj hk2 hnd), ?_⟩
        rw [hrec] at hgb hk3
        exact ((hgb.sub (fun k _ h => by simp at h ⊢; exact .inl h)).trans (hk3.sub (by intro k _ hk; simp at hk ⊢; exact .inr hk))).trans ((Gr.putObj _ _ _).sub (fun k _ h => by simp at h ⊢; exact .inl h))
      have hsz : (W.putObj (w.heap.size + 1) (.loop { rec .ready none with state := .busy })).heap.size = W.heap.size := by simp
      rintro e a3 W3 hp
      cases e with
      | normal =>
        obtain ⟨ms', hi3, hg3, hn3⟩ := hp
        obtain ⟨hr3, hl4, hk4, hg4⟩ := fin none W3 hg3
        have hnm' : w.heap.size + 1 ∉ ms' := fun hm => by rcases hn3 _ hm with hm | hm; exact hnm hm; rw [hsz] at hm; omega
        exact ⟨_, _, hr3, .inl ⟨rfl, ms', ⟨hI _ _ _ _ _ hi3 (Gr.putObj _ _ _) (by simpa using hnm'), hl4, hk4⟩, hg4, fun m hm => (hn3 m hm).imp id (fun h => by rw [hsz] at h; exact h)⟩⟩
      | ret =>
        obtain ⟨ms', hi3, hg3⟩ := hp
        obtain ⟨hr3, hl4, hk4, hg4⟩ := fin (some .ret) W3 hg3
        exact ⟨_, _, hr3, .inr ⟨rfl, ms', ⟨.ret, hIx _ _ _ _ _ _ hi3 (Gr.putObj _ _ _) (by have := hmsx _ _ _ _ hi3; intro t ht; simp at ht; subst ht; exact ⟨by omega, fun hm => by have := this _ hm; omega⟩), hl4, hk4, hmsx _ _ _ _ hi3⟩, hg4⟩⟩
      | exit id =>
        obtain ⟨ms', hi3, hg3⟩ := hp
        obtain ⟨hr3, hl4, hk4, hg4⟩ := fin (some (.exit id)) W3 hg3
        exact ⟨_, _, hr3, .inr ⟨rfl, ms', ⟨.exit id, hIx _ _ _ _ _ _ hi3 (Gr.putObj _ _ _) (by have := hmsx _ _ _ _ hi3; intro t ht; simp at ht; subst ht; exact ⟨by omega, fun hm => by have := this _ hm; omega⟩), hl4, hk4, hmsx _ _ _ _ hi3⟩, hg4⟩⟩
      | goto t =>
        obtain ⟨ms', hi3, hg3⟩ := hp
        obtain ⟨hr3, hl4, hk4, hg4⟩ := fin (some (.goto t)) W3 hg3
        exact ⟨_, _, hr3, .inr ⟨rfl, ms', ⟨.goto t, hIx _ _ _ _ _ _ hi3 (Gr.putObj _ _ _) (by have := hmsx _ _ _ _ hi3; intro t ht; simp at ht; subst ht; exact ⟨by omega, fun hm => by have := this _ hm; omega⟩), hl4, hk4, hmsx _ _ _ _ hi3⟩, hg4⟩⟩
      | panic ch => exact hp.elim
      | outgrown => exact hp.elim
    · rintro e W2 ⟨⟨v, rfl⟩, (⟨ms, hi, hl, hk⟩ | ⟨pre, ms, hpre, c, hi, hl, hk, hm⟩)⟩
      · have hmm := hms _ _ _ hi
        have hnm : w.heap.size + 1 ∉ ms := fun hm => by have := hmm _ hm; omega
        exact ⟨none, _, by have := run_endLoop (P := P) hl (by rw [hrec]; simp); rw [hrec] at this; exact this,
          hdone _ ms _ (hI _ _ _ _ _ hi (Gr.putObj _ _ _) (by simpa using hnm)) ((World.putObj_heap_other (by omega)).trans hk) (Nat.le_refl _) (fun hm => by have := hmm _ hm; omega)⟩
      · have hnm : w.heap.size + 1 ∉ ms := fun h => by have := hm _ h; omega
        exact ⟨some c, _, by have := run_endLoop (P := P) hl (by rw [hrec]; simp); rw [hrec] at this; exact this,
          hstop _ c pre ms _ hpre (hIx c _ _ _ _ _ hi (Gr.putObj _ _ _) (by simpa using hnm)) ((World.putObj_heap_other (by omega)).trans hk) (Nat.le_refl _) (fun h => by have := hm _ h; omega)⟩
end Go.Proofs.YtmonhpoogfdpoaaGreat

namespace Go.Proofs.YtmonhpoogfdpoaaGreat
open Go.RowKit

structure Con where
  kind : Int
  vars : List Int
  args : List Int
  bound : Int
  rows : List (List Int)
structure Mod where
  doms : List Int
  cons : List Con

/-- Of moderate size: no count of elements overflows. -/
structure Con.Small (c : Con) : Prop where
  vars : c.vars.length ≤ 2000000
  args : c.args.length ≤ 2000000
  rows : c.rows.length ≤ 2000000
  row : ∀ r ∈ c.rows, r.length ≤ 2000000
/-- A slice of slices of numbers. -/
def RCells (S : List Nat) (w : World) (ao : Option Addr) (rows : List (List Int)) : Prop :=
  ∀ i r, rows[i]? = some r → ∃ b o v, ao = some ⟨b, o, none⟩ ∧ b ∉ S ∧ w.cell? ⟨b, o + i, none⟩ = some v ∧ Nums S w .i64 v r
def RowsV (S : List Nat) (w : World) (v : Value) (rows : List (List Int)) : Prop :=
  ∃ ao cap, v = .slice ao rows.length cap ∧ (rows.length ≤ cap ∧ cap ≤ 9223372036854775807 ∧ (ao = none → cap = 0)) ∧ RCells S w ao rows
def ConV (S : List Nat) (w : World) (v : Value) (c : Con) : Prop :=
  ∃ vv av rv, v = .agg #[.int .i64 c.kind, vv, av, .int .i64 c.bound, rv] ∧ Nums S w .i64 vv c.vars ∧ Nums S w .i64 av c.args ∧ RowsV S w rv c.rows
/-- The cells of a list of constraints, five each. -/
def CCells (S : List Nat) (w : World) (ao : Option Addr) (cs : List Con) : Prop :=
  ∀ i c, cs[i]? = some c → ∃ b o vv av rv, ao = some ⟨b, o, none⟩ ∧ b ∉ S ∧
    (w.cell? ⟨b, o + i * 5, none⟩ = some (.int .i64 c.kind) ∧ w.cell? ⟨b, o + i * 5 + 1, none⟩ = some vv ∧ w.cell? ⟨b, o + i * 5 + 2, none⟩ = some av ∧
     w.cell? ⟨b, o + i * 5 + 3, none⟩ = some (.int .i64 c.bound) ∧ w.cell? ⟨b, o + i * 5 + 4, none⟩ = some rv) ∧
    Nums S w .i64 vv c.vars ∧ Nums S w .i64 av c.args ∧ RowsV S w rv c.rows
def ConsV (S : List Nat) (w : World) (v : Value) (cs : List Con) : Prop :=
  ∃ ao cap, v = .slice ao cs.length cap ∧ (cs.length ≤ cap ∧ cap ≤ 9223372036854775807 ∧ (ao = none → cap = 0)) ∧ CCells S w ao cs
def ModV (S : List Nat) (w : World) (v : Value) (m : Mod) : Prop :=
  ∃ dv cv, v = .agg #[dv, cv] ∧ Nums S w .i64 dv m.doms ∧ ConsV S w cv m.cons

theorem RCells.gr {S : List Nat} {w w' : World} {ao : Option Addr} {rows : List (List Int)} (h : RCells S w ao rows) (hg : Gr S w w') : RCells S w' ao rows :=
  fun i r hi => let ⟨b, o, v, e, hs, hc, hn⟩ := h i r hi; ⟨b, o, v, e, hs, hg.cell hc hs, hn.gr hg⟩
theorem RowsV.gr {S : List Nat} {w w' : World} {v : Value} {rows : List (List Int)} (h : RowsV S w v rows) (hg : Gr S w w') : RowsV S w' v rows :=
  let ⟨ao, cap, e, hl, hc⟩ := h; ⟨ao, cap, e, hl, hc.gr hg⟩
theorem ConV.gr {S : List Nat} {w w' : World} {v : Value} {c : Con} (h : ConV S w v c) (hg : Gr S w w') : ConV S w' v c :=
  let ⟨vv, av, rv, e, h1, h2, h3⟩ := h; ⟨vv, av, rv, e, h1.gr hg, h2.gr hg, h3.gr hg⟩
theorem CCells.gr {S : List Nat} {w w' : World} {ao : Option Addr} {cs : List Con} (h : CCells S w ao cs) (hg : Gr S w w') : CCells S w' ao cs :=
  fun i c hi => let ⟨b, o, vv, av, rv, e, hs, ⟨h0, h1, h2, h3, h4⟩, hv, ha, hr⟩ := h i c hi
    ⟨b, o, vv, av, rv, e, hs, ⟨hg.cell h0 hs, hg.cell h1 hs, hg.cell h2 hs, hg.cell h3 hs, hg.cell h4 hs⟩, hv.gr hg, ha.gr hg, hr.gr hg⟩
theorem ConsV.gr {S : List Nat} {w w' : World} {v : Value} {cs : List Con} (h : ConsV S w v cs) (hg : Gr S w w') : ConsV S w' v cs :=
  let ⟨ao, cap, e, hl, hc⟩ := h; ⟨ao, cap, e, hl, hc.gr hg⟩
theorem ModV.gr {S : List Nat} {w w' : World} {v : Value} {m : Mod} (h : ModV S w v m) (hg : Gr S w w') : ModV S w' v m :=
  let ⟨dv, cv, e, h1, h2⟩ := h; ⟨dv, cv, e, h1.gr hg, h2.gr hg⟩

section
variable {S S' : List Nat} {w : World}
theorem RCells.sub {ao : Option Addr} {rows : List (List Int)} (h : RCells S w ao rows) (hs : ∀ b, b < w.heap.size → b ∈ S' → b ∈ S) : RCells S' w ao rows :=
  fun i r hi => let ⟨b, o, v, e, hn, hc, hv⟩ := h i r hi; ⟨b, o, v, e, fun hm => hn (hs b (World.block_lt_of_cell? w _ hc) hm), hc, hv.sub hs⟩
theorem RowsV.sub {v : Value} {rows : List (List Int)} (h : RowsV S w v rows) (hs : ∀ b, b < w.heap.size → b ∈ S' → b ∈ S) : RowsV S' w v rows :=
  let ⟨ao, cap, e, hl, hc⟩ := h; ⟨ao, cap, e, hl, hc.sub hs⟩
theorem ConV.sub {v : Value} {c : Con} (h : ConV S w v c) (hs : ∀ b, b < w.heap.size → b ∈ S' → b ∈ S) : ConV S' w v c :=
  let ⟨vv, av, rv, e, h1, h2, h3⟩ := h; ⟨vv, av, rv, e, h1.sub hs, h2.sub hs, h3.sub hs⟩
end

/-- A block of cells, read field by field. -/
theorem fld {w : World} {b : Nat} {cs : Array Value} {t : TypeId} (h : w.heap[b]? = some (.cells cs t (0, 0))) : ∀ i, w.cell? ⟨b, i, none⟩ = cs[i]? := fun i => by simp [World.cell?, h]
theorem fldF {w : World} {b : Nat} {cs : Array Value} {t : TypeId} (h : w.heap[b]? = some (.cells cs t (0, 0))) : ∀ i, w.frozen? ⟨b, i, none⟩ = false := fun i => by simp [World.frozen?, h]

/-! ### The checks, in plain mathematics -/
def eqI (a b : Int) : Bool := a == b
def distinctB (xs : List Int) : Bool := decide xs.Nodup
def rowOk (many lo hi : Int) (r : List Int) : Bool := eqI r.length many && allB lo hi r
def rowsInB (rows : List (List Int)) (many lo hi : Int) : Bool := inB 1 8 rows.length && rows.all (rowOk many lo hi)
def argsB (c : Con) (many lo hi : Int) : Bool := eqI c.args.length many && allB lo hi c.args
def fitsB (c : Con) : Bool :=
  if c.kind = 1 then argsB c c.vars.length (-9) 9 && inB (-999) 999 c.bound && eqI c.rows.length 0
  else if c.kind = 2 then eqI c.vars.length 2 && argsB c 1 (-9) 9 && eqI c.bound 0 && eqI c.rows.length 0
  else if c.kind = 3 ∨ c.kind = 9 then eqI c.args.length 0 && eqI c.bound 0 && eqI c.rows.length 0
  else if c.kind = 4 then eqI c.vars.length 2 && inB 1 6 c.args.length && allB 0 5 c.args && eqI c.bound 0 && eqI c.rows.length 0
  else if c.kind = 5 then eqI c.args.length 0 && eqI c.bound 0 && rowsInB c.rows c.vars.length 0 5
  else if c.kind = 6 then argsB c 1 0 5 && inB 0 4 c.bound && eqI c.rows.length 0
  else if c.kind = 7 then argsB c (2 * c.vars.length) 0 9 && inB 0 9 c.bound && eqI c.rows.length 0
  else if c.kind = 8 then rowsInB c.rows 6 (-1) ((c.rows.length : Int) - 1) && distinctB c.args && allB 0 ((c.rows.length : Int) - 1) c.args && eqI c.bound 0
  else false
theorem fitsB_1 {c : Con} (h : c.kind = 1) : fitsB c = (argsB c c.vars.length (-9) 9 && inB (-999) 999 c.bound && ((c.rows.length : Int) == 0)) := by unfold fitsB; rw [h]; rfl
theorem fitsB_2 {c : Con} (h : c.kind = 2) : fitsB c = (((c.vars.length : Int) == 2) && argsB c 1 (-9) 9 && (c.bound == 0) && ((c.rows.length : Int) == 0)) := by unfold fitsB; rw [h]; rfl
theorem fitsB_3 {c : Con} (h : c.kind = 3 ∨ c.kind = 9) : fitsB c = (((c.args.length : Int) == 0) && (c.bound == 0) && ((c.rows.length : Int) == 0)) := by unfold fitsB; rcases h with h | h <;> (rw [h]; rfl)
theorem fitsB_4 {c : Con} (h : c.kind = 4) : fitsB c = (((c.vars.length : Int) == 2) && inB 1 6 c.args.length && allB 0 5 c.args && (c.bound == 0) && ((c.rows.length : Int) == 0)) := by unfold fitsB; rw [h]; rfl
theorem fitsB_5 {c : Con} (h : c.kind = 5) : fitsB c = (((c.args.length : Int) == 0) && (c.bound == 0) && rowsInB c.rows c.vars.length 0 5) := by unfold fitsB; rw [h]; rfl
theorem fitsB_6 {c : Con} (h : c.kind = 6) : fitsB c = (argsB c 1 0 5 && inB 0 4 c.bound && ((c.rows.length : Int) == 0)) := by unfold fitsB; rw [h]; rfl
theorem fitsB_7 {c : Con} (h : c.kind = 7) : fitsB c = (argsB c (2 * c.vars.length) 0 9 && inB 0 9 c.bound && ((c.rows.length : Int) == 0)) := by unfold fitsB; rw [h]; rfl
theorem fitsB_8 {c : Con} (h : c.kind = 8) : fitsB c = (rowsInB c.rows 6 (-1) ((c.rows.length : Int) - 1) && distinctB c.args && allB 0 ((c.rows.length : Int) - 1) c.args && (c.bound == 0)) := by unfold fitsB; rw [h]; rfl
theorem fitsB_0 {c : Con} (h : ¬ (1 ≤ c.kind ∧ c.kind ≤ 9)) : fitsB c = false := by
  unfold fitsB
  rw [if_neg (by omega), if_neg (by omega), if_neg (by omega), if_neg (by omega), if_neg (by omega), if_neg (by omega), if_neg (by omega), if_neg (by omega)]
/-- As the reference has it: without a look at the number of variables. -/
def validConS (c : Con) (n : Int) : Bool := inB 1 n c.vars.length && allB 0 (n - 1) c.vars && distinctB c.vars && fitsB c
def validCon (c : Con) (n : Int) : Bool := inB 1 4 n && validConS c n
def domsOk (ds : List Int) : Bool := inB 1 4 ds.length && allB 0 63 ds
def validM (m : Mod) : Bool := domsOk m.doms && inB 0 6 m.cons.length && m.cons.all fun c => validCon c m.doms.length
end Go.Proofs.YtmonhpoogfdpoaaGreat

namespace Go.Proofs.YtmonhpoogfdpoaaGreat

def dot : List Int → List Int → Int
  | a :: as, x :: xs => a * x + dot as xs
  | _, _ => 0
def Small (xs : List Int) : Prop := ∀ x ∈ xs, -1000 ≤ x ∧ x ≤ 1000
theorem mul_bd {a x : Int} (ha : -1000 ≤ a ∧ a ≤ 1000) (hx : -1000 ≤ x ∧ x ≤ 1000) : -1000000 ≤ a * x ∧ a * x ≤ 1000000 := by
  have h3 := Int.natAbs_mul a x
  have h4 : a.natAbs * x.natAbs ≤ 1000 * 1000 := Nat.mul_le_mul (by omega) (by omega)
  omega
theorem small_of_allB {lo hi : Int} {xs : List Int} (h : allB lo hi xs = true) (h1 : -1000 ≤ lo) (h2 : hi ≤ 1000) : Small xs := by
  intro x hx
  have := allB_iff.1 h x hx
  omega
end Go.Proofs.YtmonhpoogfdpoaaGreat

namespace Go.Proofs.YtmonhpoogfdpoaaGreat

def word (vars x : List Int) : List Int := vars.map fun v => x.getD v.toNat 0
def countB (y : Int) : List Int → Int
  | [] => 0
  | x :: r => (if x = y then 1 else 0) + countB y r
/-- What runs at time t: starts, durations, demands. -/
def load (t : Int) : List Int → List Int → List Int → Int
  | x :: xs, d :: ds, e :: es => (if x ≤ t ∧ t < x + d then e else 0) + load t xs ds es
  | _, _, _ => 0
def roomyB (args : List Int) (bound : Int) (xs : List Int) : Bool :=
  (List.range 15).all fun t => decide (load t xs (args.take xs.length) (args.drop xs.length) ≤ bound)
def stepA (rows : List (List Int)) (s v : Int) : Int := (rows.getD s.toNat []).getD v.toNat 0
def runA (rows : List (List Int)) : Int → List Int → Int
  | s, [] => s
  | s, v :: r => if stepA rows s v < 0 then -1 else runA rows (stepA rows s v) r
def acceptsB (args : List Int) (rows : List (List Int)) (xs : List Int) : Bool := decide (0 ≤ runA rows 0 xs) && decide (runA rows 0 xs ∈ args)
/-- The way of the successors, until it comes back to 0. -/
def circ (xs : List Int) : Nat → Int → Int → Bool
  | 0, _, _ => false
  | f + 1, p, n => if (xs.length : Int) ≤ xs.getD p.toNat 0 then false else if xs.getD p.toNat 0 = 0 then decide (n = xs.length) else circ xs f (xs.getD p.toNat 0) (n + 1)
def circuitB (xs : List Int) : Bool := circ xs xs.length 0 1
def satB (c : Con) (xs : List Int) : Bool :=
  if c.kind = 1 then decide (dot c.args xs ≤ c.bound)
  else if c.kind = 2 then !(xs.getD 0 0 == xs.getD 1 0 + c.args.getD 0 0)
  else if c.kind = 3 then distinctB xs
  else if c.kind = 4 then decide (xs.getD 0 0 < c.args.length) && (c.args.getD (xs.getD 0 0).toNat 0 == xs.getD 1 0)
  else if c.kind = 5 then c.rows.any fun r => decide (r = xs)
  else if c.kind = 6 then countB (c.args.getD 0 0) xs == c.bound
  else if c.kind = 7 then roomyB c.args c.bound xs
  else if c.kind = 8 then acceptsB c.args c.rows xs
  else circuitB xs

/-- A list of at most four values that goes once round has no value beyond its length: by looking at all. -/
theorem circ_lists1 : ∀ a : Fin 6, circuitB [(a.val : Int)] = true → a.val < 1 := by decide
theorem circ_lists2 : ∀ a b : Fin 6, circuitB [(a.val : Int), (b.val : Int)] = true → a.val < 2 ∧ b.val < 2 := by decide +kernel
theorem circ_lists3 : ∀ a b c : Fin 6, circuitB [(a.val : Int), (b.val : Int), (c.val : Int)] = true → a.val < 3 ∧ b.val < 3 ∧ c.val < 3 := by decide +kernel
theorem circ_lists4 : ∀ a b c d : Fin 6, circuitB [(a.val : Int), (b.val : Int), (c.val : Int), (d.val : Int)] = true → a.val < 4 ∧ b.val < 4 ∧ c.val < 4 ∧ d.val < 4 := by decide +kernel
theorem fin6 {x : Int} (h : 0 ≤ x ∧ x ≤ 5) : ∃ a : Fin 6, x = (a.val : Int) := ⟨⟨x.toNat, by omega⟩, by simp; omega⟩
theorem circuit_lt {xs : List Int} (hl : 1 ≤ xs.length ∧ xs.length ≤ 4) (hv : ∀ x ∈ xs, 0 ≤ x ∧ x ≤ 5) (h : circuitB xs = true) : ∀ x ∈ xs, x < xs.length := by
  match xs, hl, hv, h with
  | [a], _, hv, h =>
    obtain ⟨a, rfl⟩ := fin6 (hv a (by simp))
    have := circ_lists1 a h
    simp; omega
  | [a, b], _, hv, h =>
    obtain ⟨a, rfl⟩ := fin6 (hv a (by simp)); obtain ⟨b, rfl⟩ := fin6 (hv b (by simp))
    have := circ_lists2 a b h
    simp; omega
  | [a, b, c], _, hv, h =>
    obtain ⟨a, rfl⟩ := fin6 (hv a (by simp)); obtain ⟨b, rfl⟩ := fin6 (hv b (by simp)); obtain ⟨c, rfl⟩ := fin6 (hv c (by simp))
    have := circ_lists3 a b c h
    simp; omega
  | [a, b, c, d], _, hv, h =>
    obtain ⟨a, rfl⟩ := fin6 (hv a (by simp)); obtain ⟨b, rfl⟩ := fin6 (hv b (by simp)); obtain ⟨c, rfl⟩ := fin6 (hv c (by simp)); obtain ⟨d, rfl⟩ := fin6 (hv d (by simp))
    have := circ_lists4 a b c d h
    simp; omega
  | _ :: _ :: _ :: _ :: _ :: _, hl, _, _ => simp at hl
  | [], hl, _, _ => simp at hl

/-- What a valid constraint for a word of its values gives. -/
structure Fit (c : Con) (xs : List Int) : Prop where
  fits : fitsB c = true
  len : xs.length = c.vars.length
  k1 : 1 ≤ xs.length
  k4 : xs.length ≤ 4
  val : ∀ x ∈ xs, 0 ≤ x ∧ x ≤ 5
end Go.Proofs.YtmonhpoogfdpoaaGreat

namespace Go.Proofs.YtmonhpoogfdpoaaGreat

def tupsL : List (List Int) → List (List Int)
  | [] => [[]]
  | vs :: r => vs.flatMap fun v => (tupsL r).map fun t => v :: t
/-- The lists that begin with p. -/
def tupsFrom (p : List Int) (Vs : List (List Int)) : List (List Int) := (tupsL Vs).map fun t => p ++ t
theorem tupsFrom_nil (p : List Int) : tupsFrom p [] = [p] := by simp [tupsFrom, tupsL]
theorem tupsFrom_cons (p vs : List Int) (r : List (List Int)) : tupsFrom p (vs :: r) = vs.flatMap fun v => tupsFrom (p ++ [v]) r := by
  simp only [tupsFrom, tupsL, List.map_flatMap, List.map_map]
  congr 1
  funext v
  congr 1
  funext t
  simp
theorem tupsL_len {Vs : List (List Int)} {t : List Int} (h : t ∈ tupsL Vs) : t.length = Vs.length := by
  induction Vs generalizing t with
  | nil => simp [tupsL] at h; simp [h]
  | cons vs r ih =>
    simp only [tupsL, List.mem_flatMap, List.mem_map] at h
    obtain ⟨v, _, t', ht, rfl⟩ := h
    simp [ih ht]
theorem mem_tupsL {Vs : List (List Int)} {t : List Int} : t ∈ tupsL Vs ↔ t.length = Vs.length ∧ ∀ (i : Nat) v, t[i]? = some v → ∃ vs, Vs[i]? = some vs ∧ v ∈ vs := by
  induction Vs generalizing t with
  | nil =>
    simp only [tupsL, List.mem_singleton, List.length_nil]
    constructor
    · rintro rfl; simp
    · rintro ⟨h, _⟩; exact List.eq_nil_of_length_eq_zero h
  | cons vs r ih =>
    simp only [tupsL, List.mem_flatMap, List.mem_map, List.length_cons]
    constructor
    · rintro ⟨v, hv, t', ht, rfl⟩
      have h1 := ih.1 ht
      refine ⟨by simp [h1.1], fun i x hi => ?_⟩
      cases i with
      | zero => simp at hi; subst hi; exact ⟨vs, by simp, hv⟩
      | succ i => simp at hi; simpa using h1.2 i x hi
    · rintro ⟨hl, h⟩
      cases t with
      | nil => simp at hl
      | cons v t' =>
        obtain ⟨vs', he, hv⟩ := h 0 v (by simp)
        simp at he; subst he
        exact ⟨v, hv, t', ih.2 ⟨by simpa using hl, fun i x hi => by simpa using h (i + 1) x (by simpa using hi)⟩, rfl⟩
end Go.Proofs.YtmonhpoogfdpoaaGreat
