/-
  Small lemmas on worlds and readings of integer slices, used by the walks of this seat. No program is mentioned.
  Memory laws inside a fence.
  A range over a function whose iterator keeps state of its own in memory: the law for the caller, and what the iterator owes. No program is mentioned.
  Models and constraints as plain data; how they are read in memory; the plain meaning of the checks on them. No program is mentioned.
  The objective, in plain mathematics.
  When a constraint is satisfied, in plain mathematics.
  All lists with a value of each domain, the least ones first, in plain mathematics.
-/
import Derived.WalkKit
import Derived.Deep.QuietTactic
import Derived.BigQuiet
import Derived.Laws.AppendOwnNone
import Derived.OwnWalkIn
import Derived.RangeFuncRecord
import Derived.RangeFuncOwn
set_option linter.unusedVariables false
namespace Go.Proofs.YtmonhpoogfdpoaaGreatDoor
open Go.RowKit

/-- A fact kept from the walk. -/
theorem hid {p : Prop} (h : p) : Hid p := h
/-- The world has grown: of the blocks that were there, those outside the list S hold what they held. -/
structure Gr (S : List Nat) (w w' : World) : Prop where
  os : w'.os = w.os
  tape : w'.tape = w.tape
  output : w'.output = w.output
  size : w.heap.size ≤ w'.heap.size
  block : ∀ k, k < w.heap.size → k ∉ S → w'.heap[k]? = w.heap[k]?

theorem Gr.refl (S : List Nat) (w : World) : Gr S w w := ⟨rfl, rfl, rfl, Nat.le_refl _, fun _ _ _ => rfl⟩
theorem Gr.trans {S : List Nat} {a b c : World} (h : Gr S a b) (k : Gr S b c) : Gr S a c :=
  ⟨k.os.trans h.os, k.tape.trans h.tape, k.output.trans h.output, Nat.le_trans h.size k.size,
   fun i hi hs => (k.block i (Nat.lt_of_lt_of_le hi h.size) hs).trans (h.block i hi hs)⟩
theorem Gr.sub {S S' : List Nat} {a b : World} (h : Gr S a b) (hs : ∀ k, k < a.heap.size → k ∈ S → k ∈ S') : Gr S' a b :=
  ⟨h.os, h.tape, h.output, h.size, fun i hi hn => h.block i hi fun hm => hn (hs i hi hm)⟩
theorem Gr.any {S : List Nat} {a b : World} (h : Gr [] a b) : Gr S a b := h.sub fun _ _ hm => by simp at hm
/-- Blocks that were not there at the beginning need not be named. -/
theorem Gr.new {S : List Nat} {a b : World} (h : Gr S a b) (hs : ∀ k ∈ S, a.heap.size ≤ k) : Gr [] a b :=
  h.sub fun k hk hm => absurd (hs k hm) (by omega)
/-- Two steps, the second one writing also to blocks that were not there at the beginning. -/
theorem Gr.step {S S' : List Nat} {a b c : World} (h : Gr S a b) (k : Gr S' b c) (hs : ∀ i ∈ S', i ∈ S ∨ a.heap.size ≤ i) : Gr S a c :=
  ⟨k.os.trans h.os, k.tape.trans h.tape, k.output.trans h.output, Nat.le_trans h.size k.size,
   fun i hi hn => (k.block i (Nat.lt_of_lt_of_le hi h.size) (fun hm => (hs i hm).elim hn (by omega))).trans (h.block i hi hn)⟩
theorem Gr.drew {S : List Nat} {a w : World} (h : Gr S a w) : Gr S a w.drew := ⟨h.os, h.tape, h.output, h.size, h.block⟩
theorem Gr.drewN {S : List Nat} {a w : World} (h : Gr S a w) (n : Nat) : Gr S a (w.drewN n) := ⟨h.os, h.tape, h.output, h.size, h.block⟩
theorem Gr.alloc {S : List Nat} {a w : World} (h : Gr S a w) (o : Obj) : Gr S a (w.alloc o) :=
  ⟨h.os, h.tape, h.output, by have := h.size; simp; omega, fun k hk hs => (Below.heap_alloc w o k (Nat.lt_of_lt_of_le hk h.size)).trans (h.block k hk hs)⟩
theorem Gr.setCell {S : List Nat} {a w : World} (h : Gr S a w) (p : Addr) (u : Value) (hp : p.block ∈ S ∨ a.heap.size ≤ p.block) : Gr S a (w.setCell p u) :=
  ⟨h.os, h.tape, h.output, by have := h.size; simp; omega,
   fun k hk hs => (Below.heap_setCell w p u k (fun e => by subst e; rcases hp with hp | hp; exact hs hp; omega)).trans (h.block k hk hs)⟩
theorem Gr.grown {S : List Nat} {a w w' : World} {row : Option Nat} (h : Gr S a w) (hg : w.grownBy w' row) (hr : ∀ k, row = some k → k ∈ S ∨ a.heap.size ≤ k) : Gr S a w' :=
  ⟨hg.os.trans h.os, hg.tape.trans h.tape, hg.output.trans h.output, Nat.le_trans h.size hg.size,
   fun k hk hs => (hg.block k (Nat.lt_of_lt_of_le hk h.size) (fun e => by rcases hr k e.symm with h' | h'; exact hs h'; omega)).trans (h.block k hk hs)⟩
theorem Gr.below {w w' : World} (h : Gr [] w w') : Below w.heap.size w w' := ⟨h.os, h.tape, h.output, h.size, fun k hk => h.block k hk (by simp)⟩
theorem Gr.of_below {w w' : World} (h : Below w.heap.size w w') : Gr [] w w' := ⟨h.os, h.tape, h.output, h.size, fun k hk _ => h.block k hk⟩
theorem Gr.low {S : List Nat} {B : Nat} {a w w' : World} (h : Gr S a w) (hb : Below B w w') (hB : a.heap.size ≤ B) : Gr S a w' :=
  ⟨hb.os.trans h.os, hb.tape.trans h.tape, hb.output.trans h.output, Nat.le_trans h.size hb.size, fun k hk hs => (hb.block k (by omega)).trans (h.block k hk hs)⟩
theorem Gr.cell {S : List Nat} {w w' : World} (h : Gr S w w') {a : Addr} {v : Value} (hc : w.cell? a = some v) (hs : a.block ∉ S) : w'.cell? a = some v :=
  (World.cell?_of_block (h.block a.block (World.block_lt_of_cell? w a hc) hs)).trans hc
theorem Gr.frozen {S : List Nat} {w w' : World} (h : Gr S w w') {a : Addr} (hb : a.block < w.heap.size) (hs : a.block ∉ S) : w'.frozen? a = w.frozen? a :=
  World.frozen?_of_block (h.block a.block hb hs)
theorem Gr.obj {S : List Nat} {w w' : World} (h : Gr S w w') {b : Nat} {o : Obj} (hb : w.heap[b]? = some o) (hs : b ∉ S) : w'.heap[b]? = some o :=
  (h.block b (lt_of_block hb) hs).trans hb

theorem Gr.ownsRow {S : List Nat} {w w' : World} {B e size n : Nat} {v : Value} {xs : List Value} (hg : Gr S w w') (h : w.ownsRow B e size v n xs) (hS : ∀ b ∈ S, b < B) : w'.ownsRow B e size v n xs := by
  refine ⟨h.1, ?_⟩
  rcases h.2 with hn | ⟨g, cap, cur, rfl, hb, hgg, rest⟩
  · exact .inl hn
  · exact .inr ⟨g, cap, cur, rfl, hb, hg.obj hgg (fun hm => by have := hS g hm; omega), rest⟩
/-- A list of numbers in a block of its own, from block B on. -/
def Own (B : Nat) (w : World) (e : TypeId) (v : Value) (xs : List Int) : Prop := w.ownsRow B e 1 v xs.length (xs.map (Value.int .i64))
theorem Own.gr {S : List Nat} {B : Nat} {w w' : World} {e : TypeId} {v : Value} {xs : List Int} (h : Own B w e v xs) (hg : Gr S w w') (hS : ∀ b ∈ S, b < B) : Own B w' e v xs := hg.ownsRow h hS
theorem Own.alloc {B : Nat} {w : World} {e : TypeId} {v : Value} {xs : List Int} (h : Own B w e v xs) (o : Obj) : Own B (w.alloc o) e v xs := World.ownsRow.alloc h o
theorem Own.nil (B : Nat) (w : World) (e : TypeId) : Own B w e (.slice none 0 0) [] := World.ownsRow_nil _ _ _ _
theorem Own.le {B B' : Nat} {w : World} {e : TypeId} {v : Value} {xs : List Int} (h : Own B w e v xs) (hB : B' ≤ B) : Own B' w e v xs := by
  refine ⟨h.1, ?_⟩
  rcases h.2 with hn | ⟨g, cap, cur, rfl, hb, rest⟩
  · exact .inl hn
  · exact .inr ⟨g, cap, cur, rfl, by omega, rest⟩
/-- What 'buildSlice' of no element makes: an empty block. -/
theorem Own.empty {B : Nat} (w : World) (e : TypeId) (hB : B ≤ w.heap.size) : Own B (w.alloc (.cells #[] e)) e (.slice (some ⟨w.heap.size, 0, none⟩) 0 0) [] :=
  World.ownsRow_made w #[] 0 hB (by simp [maxLen]) rfl

/-- Numbers of 64 bits. -/
def I64 (n : Int) : Prop := -9223372036854775808 ≤ n ∧ n ≤ 9223372036854775807

/-- The cells from the address on hold the numbers; the blocks are none of S. -/
def Cells (S : List Nat) (w : World) (k : IntKind) (ao : Option Addr) (xs : List Int) : Prop :=
  ∀ i x, xs[i]? = some x → ∃ b o, ao = some ⟨b, o, none⟩ ∧ b ∉ S ∧ w.cell? ⟨b, o + i, none⟩ = some (.int k x)
/-- A slice that reads as a list of numbers. -/
def Nums (S : List Nat) (w : World) (k : IntKind) (v : Value) (xs : List Int) : Prop :=
  ∃ ao cap, v = .slice ao xs.length cap ∧ (xs.length ≤ cap ∧ cap ≤ 9223372036854775807 ∧ (ao = none → cap = 0)) ∧ Cells S w k ao xs
theorem Cells.gr {S : List Nat} {w w' : World} {k : IntKind} {ao : Option Addr} {xs : List Int} (h : Cells S w k ao xs) (hg : Gr S w w') : Cells S w' k ao xs :=
  fun i x hi => let ⟨b, o, e, hs, hc⟩ := h i x hi; ⟨b, o, e, hs, hg.cell hc hs⟩
theorem Cells.low {S : List Nat} {B : Nat} {w w' : World} {k : IntKind} {ao : Option Addr} {xs : List Int} (h : Cells S w k ao xs) (hg : Below B w w') (ha : ∀ a, ao = some a → 0 < xs.length → a.block < B) : Cells S w' k ao xs :=
  fun i x hi => let ⟨b, o, e, hs, hc⟩ := h i x hi; ⟨b, o, e, hs, (hg.cell (p := ⟨b, o + i, none⟩) (show b < B from ha ⟨b, o, none⟩ e (Nat.lt_of_le_of_lt (Nat.zero_le _) (List.getElem?_eq_some_iff.1 hi).1))).trans hc⟩
theorem Nums.gr {S : List Nat} {w w' : World} {k : IntKind} {v : Value} {xs : List Int} (h : Nums S w k v xs) (hg : Gr S w w') : Nums S w' k v xs :=
  let ⟨ao, cap, e, hl, hc⟩ := h; ⟨ao, cap, e, hl, hc.gr hg⟩
theorem Cells.sub {S S' : List Nat} {w : World} {k : IntKind} {ao : Option Addr} {xs : List Int} (h : Cells S w k ao xs) (hs : ∀ b, b < w.heap.size → b ∈ S' → b ∈ S) : Cells S' w k ao xs :=
  fun i x hi => let ⟨b, o, e, hn, hc⟩ := h i x hi; ⟨b, o, e, fun hm => hn (hs b (World.block_lt_of_cell? w _ hc) hm), hc⟩
theorem Nums.sub {S S' : List Nat} {w : World} {k : IntKind} {v : Value} {xs : List Int} (h : Nums S w k v xs) (hs : ∀ b, b < w.heap.size → b ∈ S' → b ∈ S) : Nums S' w k v xs :=
  let ⟨ao, cap, e, hl, hc⟩ := h; ⟨ao, cap, e, hl, hc.sub hs⟩

theorem Own.nums' {S : List Nat} {B : Nat} {w : World} {e : TypeId} {v : Value} {xs : List Int} (h : Own B w e v xs) (hS : ∀ b ∈ S, b < B ∨ w.heap.size ≤ b) : Nums S w .i64 v xs := by
  obtain ⟨h1, h2⟩ := h
  rcases h2 with ⟨rfl, hl⟩ | ⟨g, cap, cur, rfl, hb, hgg, hnc, hcm, hcs, htake⟩
  · have : xs = [] := List.eq_nil_of_length_eq_zero hl
    subst this
    exact ⟨none, 0, rfl, by simp, fun i x hi => by simp at hi⟩
  · have hlt := lt_of_block hgg
    refine ⟨_, _, rfl, ⟨hnc, by simp only [maxLen] at hcm; omega, by simp⟩, fun i x hi => ⟨g, 0, rfl, fun hm => by have := hS g hm; omega, ?_⟩⟩
    have h3 : (cur.toList.take (xs.length * 1))[i]? = some (.int .i64 x) := by rw [htake, List.getElem?_map, hi]; rfl
    rw [List.getElem?_take] at h3
    split at h3
    · simp only [World.cell?, hgg]; simpa using h3
    · cases h3
theorem Own.nums {S : List Nat} {B : Nat} {w : World} {e : TypeId} {v : Value} {xs : List Int} (h : Own B w e v xs) (hS : ∀ b ∈ S, b < B) : Nums S w .i64 v xs :=
  h.nums' fun b hb => .inl (hS b hb)
/-- An owned list that is not empty: its block. -/
theorem Own.open {B : Nat} {w : World} {e : TypeId} {v : Value} {xs : List Int} (h : Own B w e v xs) (h0 : 0 < xs.length) :
    ∃ g cap, v = .slice (some ⟨g, 0, none⟩) xs.length cap ∧ (B ≤ g ∧ g < w.heap.size) ∧ (∀ i x, xs[i]? = some x → w.cell? ⟨g, i, none⟩ = some (.int .i64 x)) ∧ (∀ i, w.frozen? ⟨g, i, none⟩ = false) := by
  have hn := h.nums (S := []) (by simp)
  obtain ⟨h1, h2⟩ := h
  rcases h2 with ⟨rfl, hl⟩ | ⟨g, cap, cur, rfl, hb, hgg, hnc, hcm, hcs, htake⟩
  · omega
  · refine ⟨g, cap, rfl, ⟨hb, lt_of_block hgg⟩, fun i x hi => ?_, fun i => by simp [World.frozen?, hgg]⟩
    obtain ⟨ao, cap', e', _, hc⟩ := hn
    cases e'
    obtain ⟨b, o, e2, _, hcell⟩ := hc i x hi
    cases e2
    simpa using hcell
theorem Own.set {B : Nat} {w : World} {e : TypeId} {g cap n : Nat} {xs : List Int} (h : Own B w e (.slice (some ⟨g, 0, none⟩) n cap) xs) (i : Nat) (x : Int) (_hi : i < xs.length) :
    Own B (w.setCell ⟨g, i, none⟩ (.int .i64 x)) e (.slice (some ⟨g, 0, none⟩) n cap) (xs.set i x) := by
  obtain ⟨h1, h2⟩ := h
  rcases h2 with ⟨h3, _⟩ | ⟨g', cap', cur, e1, hb, hgg, hnc, hcm, hcs, htake⟩
  · cases h3
  · cases e1
    refine ⟨by simp, .inr ⟨g, cap, cur.setIfInBounds i (.int .i64 x), by simp, hb, ?_, by simpa using hnc, hcm, by simpa using hcs, ?_⟩⟩
    · simp [World.setCell, Array.getElem?_modify, hgg]
    · simp only [List.length_set, Nat.mul_one] at htake ⊢
      rw [Array.toList_setIfInBounds, List.take_set, htake, List.map_set]
/-- 'append(out, n)' on a list of the call's own. -/
theorem wp_app1 {P : Program} {w : World} {ops : Array Oper} {rest : List Oper} {o : Oper} {a : Act} {Q : Exit → Act → World → Prop} (hgd : o.guard = none) (s x : Operand) (t : TypeId)
    (ho : o.op = .call { callee := .builtin .append, args := #[s, x], argTypes := #[t, t] }) (B : Nat) (e : TypeId) (hinfo : (P.info? e).map (fun i => (i.zero, i.size, i.bytes)) = some (some (.int .i64 0), 1, 8))
    (ht : P.underlying t = some (.slice e)) (v : Value) (xs : List Int) (hs : a.eval s = v) (hown : Own B w e v xs) (g c : Nat) (n : Int) (hx : a.eval x = .slice (some ⟨g, 0, none⟩) 1 c) (hn : w.cell? ⟨g, 0, none⟩ = some (.int .i64 n))
    (hlen : xs.length ≤ 1000000000000) (hB : B ≤ w.heap.size)
    (h : ∀ v' w', Own B w' e v' (xs ++ [n]) → Below B w w' → wpList P ops Q rest (a.put o.dst v') w') : wpList P ops Q (o :: rest) a w := by
  obtain ⟨i0, hi, hz0, hz1, hz2⟩ := info_parts hinfo
  refine wpList_append_own w hgd s x t ho B e i0 (.int .i64 0) 1 8 ht hi hz0 hz1 hz2 rfl (by decide) v xs.length _ hs hown ⟨g, 0, none⟩ 1 c [.int .i64 n] hx rfl ?_ (by simp [Value.oneCell']) (by simp only [maxLen]; omega) (by omega) hB ?_
  · intro j u hj
    match j, hj with
    | 0, hj => simp at hj; subst hj; simpa [Addr.add] using hn
    | j + 1, hj => simp at hj
  · intro v' w' hown' hgrow _
    exact h v' w' (by simpa [Own] using hown') ((Below.refl _ _).grown hgrow hB fun k hk => (World.ownsRow.lt hown k hk).1)

/-- 'append(out, ys...)' on a list of the call's own. -/
theorem wp_appN {P : Program} {w : World} {ops : Array Oper} {rest : List Oper} {o : Oper} {a : Act} {Q : Exit → Act → World → Prop} (hgd : o.guard = none) (s x : Operand) (t : TypeId)
    (ho : o.op = .call { callee := .builtin .append, args := #[s, x], argTypes := #[t, t] }) (B : Nat) (e : TypeId) (hinfo : (P.info? e).map (fun i => (i.zero, i.size, i.bytes)) = some (some (.int .i64 0), 1, 8))
    (ht : P.underlying t = some (.slice e)) (v : Value) (xs ys : List Int) (hs : a.eval s = v) (hown : Own B w e v xs) (u : Value) (S : List Nat) (hx : a.eval x = u) (hn : Nums S w .i64 u ys)
    (hlen : xs.length + ys.length ≤ 1000000000000) (hB : B ≤ w.heap.size)
    (h : ∀ v' w', Own B w' e v' (xs ++ ys) → Below B w w' → wpList P ops Q rest (a.put o.dst v') w') : wpList P ops Q (o :: rest) a w := by
  obtain ⟨i0, hi, hz0, hz1, hz2⟩ := info_parts hinfo
  obtain ⟨ao, cap, rfl, ⟨hlc, hcm, hnil⟩, hc⟩ := hn
  cases ao with
  | none =>
    have hy : ys = [] := List.eq_nil_of_length_eq_zero (by have := hnil rfl; omega)
    have hcap := hnil rfl
    subst hy hcap
    exact wpList_append_own_none hgd s x t ho B e i0 1 ht hi v xs.length _ hs hown hx (h _ _ (by simpa using hown) (Below.refl _ _))
  | some ad =>
    refine wpList_append_own w hgd s x t ho B e i0 (.int .i64 0) 1 8 ht hi hz0 hz1 hz2 rfl (by decide) v xs.length _ hs hown ad ys.length cap (ys.map (Value.int .i64)) hx (by simp) ?_ ?_ (by simp only [maxLen]; omega) (by omega) hB ?_
    · intro j u hj
      rw [List.getElem?_map] at hj
      obtain ⟨y, hy, rfl⟩ := Option.map_eq_some_iff.1 hj
      obtain ⟨b, o', e', _, hcell⟩ := hc j y hy
      cases e'
      have : (⟨b, o', none⟩ : Addr).add j = ⟨b, o' + j, none⟩ := by unfold Addr.add; split <;> simp_all
      rw [this]; exact hcell
    · intro u hu
      obtain ⟨y, _, rfl⟩ := List.mem_map.1 hu
      rfl
    · intro v' w' hown' hgrow _
      exact h v' w' (by simpa [Own] using hown') ((Below.refl _ _).grown hgrow hB fun k hk => (World.ownsRow.lt hown k hk).1)

/-- A new block of numbers. -/
theorem nums_new (w : World) (t : TypeId) (xs : List Int) {S : List Nat} (hS : w.heap.size ∉ S) (hl : xs.length ≤ 9223372036854775807 := by simp) :
    Nums S (w.alloc (.cells (xs.map (Value.int .i64)).toArray t)) .i64 (.slice (some ⟨w.heap.size, 0, none⟩) xs.length xs.length) xs :=
  ⟨_, _, rfl, ⟨Nat.le_refl _, hl, by simp⟩, fun i x hi => ⟨w.heap.size, 0, rfl, hS, by
    rw [World.cell?_alloc_at _ _ _ _ rfl]; simp [hi]⟩⟩

/-- The worlds that have grown out of a world. -/
def GrW (S : List Nat) (w0 : World) : Type := { w' : World // Gr S w0 w' }
instance GrW.nonempty (S : List Nat) (w0 : World) : Nonempty (GrW S w0) := ⟨⟨w0, Gr.refl _ _⟩⟩
theorem GrW.gr {S : List Nat} {w0 : World} (n : GrW S w0) : Gr S w0 n.val := n.property
/-- A region that draws its order, each operation of which yields one value in every world that has grown out of w0. -/
theorem wp_region_gr {P : Program} {id : Nat} {Q : Exit → Act → World → Prop} {a : Act} {w : World} {l : List Oper} (S : List Nat) (w0 : World) (hm : P.follows .mixedOrders = true) (hB : Region.lexB .any l.toArray = true) (hC : Gr S w0 w)
    (h : wpQuiet P l.toArray (fun w' => ∃ n : GrW S w0, w' = n.val) (fun a' => ∀ w', (∃ n : GrW S w0, w' = n.val) → Q .normal a' w') l a) : (Code.region id l.toArray true).wp P Q a w :=
  wp_region_quiet (C := fun w' => ∃ n : GrW S w0, w' = n.val) hm hB ⟨⟨_, hC.drew⟩, rfl⟩ (by simpa using h)
theorem Calls.gr_of {P : Program} {f : FuncId} {args : Array Value} {S : List Nat} {w0 : World} {n : GrW S w0} {v : Value}
    (h : Calls P f args n.val fun e w' => e = .returned v ∧ Gr S n.val w') : Calls P f args n.val fun e w'' => e = .returned v ∧ ∃ m : GrW S w0, w'' = m.val :=
  h.mono fun _ _ ⟨he, hg⟩ => ⟨he, ⟨_, Gr.trans n.property hg⟩, rfl⟩

def inB (lo hi x : Int) : Bool := decide (lo ≤ x) && decide (x ≤ hi)
def anyB (p : Int → Bool) (xs : List Int) : Bool := xs.any p
def allB (lo hi : Int) (xs : List Int) : Bool := xs.all (inB lo hi)

theorem inB_iff {lo hi x : Int} : inB lo hi x = true ↔ lo ≤ x ∧ x ≤ hi := by unfold inB; rw [Bool.and_eq_true, decide_eq_true_eq, decide_eq_true_eq]
theorem allB_iff {lo hi : Int} {xs : List Int} : allB lo hi xs = true ↔ ∀ x ∈ xs, lo ≤ x ∧ x ≤ hi := by
  unfold allB; rw [List.all_eq_true]; exact ⟨fun h x hx => inB_iff.1 (h x hx), fun h x hx => inB_iff.2 (h x hx)⟩

theorem ret_bool {a b : Bool} (h : a = b) : Ending.returned (.bool a) = Ending.returned (.bool b) := by rw [h]
theorem ret_int {k : IntKind} {a b : Int} (h : a = b) : Ending.returned (.int k a) = Ending.returned (.int k b) := by rw [h]

theorem ofInt_toNat (a : Nat) (ha : a < 9223372036854775808) : (BitVec.ofInt 64 (a : Int)).toNat = a := by
  rw [BitVec.ofInt_natCast, BitVec.toNat_ofNat]; exact Nat.mod_eq_of_lt (by omega)
theorem i64_xor (a b : Nat) (ha : a < 9223372036854775808) (hb : b < 9223372036854775808) : bits .xor .i64 (a : Int) (b : Int) = ((a ^^^ b : Nat) : Int) := by
  have hx : a ^^^ b < 2 ^ 63 := Nat.xor_lt_two_pow (by omega) (by omega)
  show IntKind.i64.wrap ((BitVec.ofInt 64 (a : Int) ^^^ BitVec.ofInt 64 (b : Int)).toNat : Int) = _
  rw [BitVec.toNat_xor, ofInt_toNat a ha, ofInt_toNat b hb, IntKind.wrap_i64]
  omega
theorem i64_and (a b : Nat) (ha : a < 9223372036854775808) (hb : b < 9223372036854775808) : bits .and .i64 (a : Int) (b : Int) = ((a &&& b : Nat) : Int) := by
  have hx : a &&& b < 2 ^ 63 := Nat.and_lt_two_pow _ (by omega)
  show IntKind.i64.wrap ((BitVec.ofInt 64 (a : Int) &&& BitVec.ofInt 64 (b : Int)).toNat : Int) = _
  rw [BitVec.toNat_and, ofInt_toNat a ha, ofInt_toNat b hb, IntKind.wrap_i64]
  omega
theorem i64_xor_nn (a b : Int) (ha : 0 ≤ a ∧ a < 9223372036854775808) (hb : 0 ≤ b ∧ b < 9223372036854775808) : 0 ≤ bits .xor .i64 a b := by
  obtain ⟨x, rfl⟩ := Int.eq_ofNat_of_zero_le ha.1
  obtain ⟨y, rfl⟩ := Int.eq_ofNat_of_zero_le hb.1
  rw [i64_xor x y (by omega) (by omega)]; omega

theorem drop_cons {α : Type} {xs : List α} {k : Nat} {x : α} (h : xs[k]? = some x) : xs.drop k = x :: xs.drop (k + 1) := by
  obtain ⟨hk, rfl⟩ := List.getElem?_eq_some_iff.1 h
  exact List.drop_eq_getElem_cons hk
theorem get_some {α : Type} {xs : List α} {k : Nat} (h : k < xs.length) : ∃ x, xs[k]? = some x := ⟨xs[k], List.getElem?_eq_getElem h⟩
theorem drop_end {α : Type} {xs : List α} {k : Nat} (h : xs.length ≤ k) : xs.drop k = [] := List.drop_eq_nil_of_le h
end Go.Proofs.YtmonhpoogfdpoaaGreatDoor

namespace Go.Proofs.YtmonhpoogfdpoaaGreatDoor
open Go.RowKit

end Go.Proofs.YtmonhpoogfdpoaaGreatDoor

namespace Go.Proofs.YtmonhpoogfdpoaaGreatDoor
open Go.RowKit

theorem Gr.putObj (W : World) (l : Nat) (o : Obj) : Gr [l] W (W.putObj l o) :=
  ⟨rfl, rfl, rfl, by simp, fun k _ hk => World.putObj_heap_other (by simpa using hk)⟩

/-- How the body of a round may be left. -/
def roundEnd {α : Type} (S : List Nat) (I : List α → List Nat → World → Prop) (Ix : Code → List α → List Nat → World → Prop) (xs : List α) (ms : List Nat) (W : World) : Exit → Act → World → Prop
  | .normal, _, W' => ∃ ms', I xs ms' W' ∧ Gr (S ++ ms) W W' ∧ ∀ m ∈ ms', m ∈ ms ∨ W.heap.size ≤ m
  | .ret, _, W' => ∃ ms', Ix .ret xs ms' W' ∧ Gr (S ++ ms) W W'
  | .exit id, _, W' => ∃ ms', Ix (.exit id) xs ms' W' ∧ Gr (S ++ ms) W W'
  | .goto t, _, W' => ∃ ms', Ix (.goto t) xs ms' W' ∧ Gr (S ++ ms) W W'
  | .panic _, _, _ => False
  | .outgrown, _, _ => False

end Go.Proofs.YtmonhpoogfdpoaaGreatDoor

namespace Go.Proofs.YtmonhpoogfdpoaaGreatDoor
open Go.RowKit

structure Con where
  kind : Int
  vars : List Int
  args : List Int
  bound : Int
  rows : List (List Int)
structure Mod where
  doms : List Int
  cons : List Con

/-- Of moderate size: no count of elements overflows. -/
structure Con.Small (c : Con) : Prop where
  vars : c.vars.length ≤ 2000000
  args : c.args.length ≤ 2000000
  rows : c.rows.length ≤ 2000000
  row : ∀ r ∈ c.rows, r.length ≤ 2000000
structure Mod.Small (m : Mod) : Prop where
  doms : m.doms.length ≤ 2000000
  cons : m.cons.length ≤ 2000000
  con : ∀ c ∈ m.cons, c.Small

/-- A slice of slices of numbers. -/
def RCells (S : List Nat) (w : World) (ao : Option Addr) (rows : List (List Int)) : Prop :=
  ∀ i r, rows[i]? = some r → ∃ b o v, ao = some ⟨b, o, none⟩ ∧ b ∉ S ∧ w.cell? ⟨b, o + i, none⟩ = some v ∧ Nums S w .i64 v r
def RowsV (S : List Nat) (w : World) (v : Value) (rows : List (List Int)) : Prop :=
  ∃ ao cap, v = .slice ao rows.length cap ∧ (rows.length ≤ cap ∧ cap ≤ 9223372036854775807 ∧ (ao = none → cap = 0)) ∧ RCells S w ao rows
def ConV (S : List Nat) (w : World) (v : Value) (c : Con) : Prop :=
  ∃ vv av rv, v = .agg #[.int .i64 c.kind, vv, av, .int .i64 c.bound, rv] ∧ Nums S w .i64 vv c.vars ∧ Nums S w .i64 av c.args ∧ RowsV S w rv c.rows
/-- The cells of a list of constraints, five each. -/
def CCells (S : List Nat) (w : World) (ao : Option Addr) (cs : List Con) : Prop :=
  ∀ i c, cs[i]? = some c → ∃ b o vv av rv, ao = some ⟨b, o, none⟩ ∧ b ∉ S ∧
    (w.cell? ⟨b, o + i * 5, none⟩ = some (.int .i64 c.kind) ∧ w.cell? ⟨b, o + i * 5 + 1, none⟩ = some vv ∧ w.cell? ⟨b, o + i * 5 + 2, none⟩ = some av ∧
     w.cell? ⟨b, o + i * 5 + 3, none⟩ = some (.int .i64 c.bound) ∧ w.cell? ⟨b, o + i * 5 + 4, none⟩ = some rv) ∧
    Nums S w .i64 vv c.vars ∧ Nums S w .i64 av c.args ∧ RowsV S w rv c.rows
def ConsV (S : List Nat) (w : World) (v : Value) (cs : List Con) : Prop :=
  ∃ ao cap, v = .slice ao cs.length cap ∧ (cs.length ≤ cap ∧ cap ≤ 9223372036854775807 ∧ (ao = none → cap = 0)) ∧ CCells S w ao cs
def ModV (S : List Nat) (w : World) (v : Value) (m : Mod) : Prop :=
  ∃ dv cv, v = .agg #[dv, cv] ∧ Nums S w .i64 dv m.doms ∧ ConsV S w cv m.cons

theorem RCells.gr {S : List Nat} {w w' : World} {ao : Option Addr} {rows : List (List Int)} (h : RCells S w ao rows) (hg : Gr S w w') : RCells S w' ao rows :=
  fun i r hi => let ⟨b, o, v, e, hs, hc, hn⟩ := h i r hi; ⟨b, o, v, e, hs, hg.cell hc hs, hn.gr hg⟩
theorem RowsV.gr {S : List Nat} {w w' : World} {v : Value} {rows : List (List Int)} (h : RowsV S w v rows) (hg : Gr S w w') : RowsV S w' v rows :=
  let ⟨ao, cap, e, hl, hc⟩ := h; ⟨ao, cap, e, hl, hc.gr hg⟩
theorem ConV.gr {S : List Nat} {w w' : World} {v : Value} {c : Con} (h : ConV S w v c) (hg : Gr S w w') : ConV S w' v c :=
  let ⟨vv, av, rv, e, h1, h2, h3⟩ := h; ⟨vv, av, rv, e, h1.gr hg, h2.gr hg, h3.gr hg⟩
theorem CCells.gr {S : List Nat} {w w' : World} {ao : Option Addr} {cs : List Con} (h : CCells S w ao cs) (hg : Gr S w w') : CCells S w' ao cs :=
  fun i c hi => let ⟨b, o, vv, av, rv, e, hs, ⟨h0, h1, h2, h3, h4⟩, hv, ha, hr⟩ := h i c hi
    ⟨b, o, vv, av, rv, e, hs, ⟨hg.cell h0 hs, hg.cell h1 hs, hg.cell h2 hs, hg.cell h3 hs, hg.cell h4 hs⟩, hv.gr hg, ha.gr hg, hr.gr hg⟩
theorem ConsV.gr {S : List Nat} {w w' : World} {v : Value} {cs : List Con} (h : ConsV S w v cs) (hg : Gr S w w') : ConsV S w' v cs :=
  let ⟨ao, cap, e, hl, hc⟩ := h; ⟨ao, cap, e, hl, hc.gr hg⟩
theorem ModV.gr {S : List Nat} {w w' : World} {v : Value} {m : Mod} (h : ModV S w v m) (hg : Gr S w w') : ModV S w' v m :=
  let ⟨dv, cv, e, h1, h2⟩ := h; ⟨dv, cv, e, h1.gr hg, h2.gr hg⟩

section
variable {S S' : List Nat} {w : World}
theorem RCells.sub {ao : Option Addr} {rows : List (List Int)} (h : RCells S w ao rows) (hs : ∀ b, b < w.heap.size → b ∈ S' → b ∈ S) : RCells S' w ao rows :=
  fun i r hi => let ⟨b, o, v, e, hn, hc, hv⟩ := h i r hi; ⟨b, o, v, e, fun hm => hn (hs b (World.block_lt_of_cell? w _ hc) hm), hc, hv.sub hs⟩
theorem RowsV.sub {v : Value} {rows : List (List Int)} (h : RowsV S w v rows) (hs : ∀ b, b < w.heap.size → b ∈ S' → b ∈ S) : RowsV S' w v rows :=
  let ⟨ao, cap, e, hl, hc⟩ := h; ⟨ao, cap, e, hl, hc.sub hs⟩
theorem ConV.sub {v : Value} {c : Con} (h : ConV S w v c) (hs : ∀ b, b < w.heap.size → b ∈ S' → b ∈ S) : ConV S' w v c :=
  let ⟨vv, av, rv, e, h1, h2, h3⟩ := h; ⟨vv, av, rv, e, h1.sub hs, h2.sub hs, h3.sub hs⟩
theorem CCells.sub {ao : Option Addr} {cs : List Con} (h : CCells S w ao cs) (hs : ∀ b, b < w.heap.size → b ∈ S' → b ∈ S) : CCells S' w ao cs :=
  fun i c hi => let ⟨b, o, vv, av, rv, e, hn, hc, hv, ha, hr⟩ := h i c hi
    ⟨b, o, vv, av, rv, e, fun hm => hn (hs b (World.block_lt_of_cell? w _ hc.1) hm), hc, hv.sub hs, ha.sub hs, hr.sub hs⟩
theorem ConsV.sub {v : Value} {cs : List Con} (h : ConsV S w v cs) (hs : ∀ b, b < w.heap.size → b ∈ S' → b ∈ S) : ConsV S' w v cs :=
  let ⟨ao, cap, e, hl, hc⟩ := h; ⟨ao, cap, e, hl, hc.sub hs⟩
theorem ModV.sub {v : Value} {m : Mod} (h : ModV S w v m) (hs : ∀ b, b < w.heap.size → b ∈ S' → b ∈ S) : ModV S' w v m :=
  let ⟨dv, cv, e, h1, h2⟩ := h; ⟨dv, cv, e, h1.sub hs, h2.sub hs⟩
end

/-- A block of cells, read field by field. -/
theorem fld {w : World} {b : Nat} {cs : Array Value} {t : TypeId} (h : w.heap[b]? = some (.cells cs t (0, 0))) : ∀ i, w.cell? ⟨b, i, none⟩ = cs[i]? := fun i => by simp [World.cell?, h]
theorem fldF {w : World} {b : Nat} {cs : Array Value} {t : TypeId} (h : w.heap[b]? = some (.cells cs t (0, 0))) : ∀ i, w.frozen? ⟨b, i, none⟩ = false := fun i => by simp [World.frozen?, h]

/-! ### The checks, in plain mathematics -/
def eqI (a b : Int) : Bool := a == b
def distinctB (xs : List Int) : Bool := decide xs.Nodup
def rowOk (many lo hi : Int) (r : List Int) : Bool := eqI r.length many && allB lo hi r
def rowsInB (rows : List (List Int)) (many lo hi : Int) : Bool := inB 1 8 rows.length && rows.all (rowOk many lo hi)
def argsB (c : Con) (many lo hi : Int) : Bool := eqI c.args.length many && allB lo hi c.args
def fitsB (c : Con) : Bool :=
  if c.kind = 1 then argsB c c.vars.length (-9) 9 && inB (-999) 999 c.bound && eqI c.rows.length 0
  else if c.kind = 2 then eqI c.vars.length 2 && argsB c 1 (-9) 9 && eqI c.bound 0 && eqI c.rows.length 0
  else if c.kind = 3 ∨ c.kind = 9 then eqI c.args.length 0 && eqI c.bound 0 && eqI c.rows.length 0
  else if c.kind = 4 then eqI c.vars.length 2 && inB 1 6 c.args.length && allB 0 5 c.args && eqI c.bound 0 && eqI c.rows.length 0
  else if c.kind = 5 then eqI c.args.length 0 && eqI c.bound 0 && rowsInB c.rows c.vars.length 0 5
  else if c.kind = 6 then argsB c 1 0 5 && inB 0 4 c.bound && eqI c.rows.length 0
  else if c.kind = 7 then argsB c (2 * c.vars.length) 0 9 && inB 0 9 c.bound && eqI c.rows.length 0
  else if c.kind = 8 then rowsInB c.rows 6 (-1) ((c.rows.length : Int) - 1) && distinctB c.args && allB 0 ((c.rows.length : Int) - 1) c.args && eqI c.bound 0
  else false
theorem fitsB_1 {c : Con} (h : c.kind = 1) : fitsB c = (argsB c c.vars.length (-9) 9 && inB (-999) 999 c.bound && ((c.rows.length : Int) == 0)) := by unfold fitsB; rw [h]; rfl
theorem fitsB_2 {c : Con} (h : c.kind = 2) : fitsB c = (((c.vars.length : Int) == 2) && argsB c 1 (-9) 9 && (c.bound == 0) && ((c.rows.length : Int) == 0)) := by unfold fitsB; rw [h]; rfl
theorem fitsB_3 {c : Con} (h : c.kind = 3 ∨ c.kind = 9) : fitsB c = (((c.args.length : Int) == 0) && (c.bound == 0) && ((c.rows.length : Int) == 0)) := by unfold fitsB; rcases h with h | h <;> (rw [h]; rfl)
theorem fitsB_4 {c : Con} (h : c.kind = 4) : fitsB c = (((c.vars.length : Int) == 2) && inB 1 6 c.args.length && allB 0 5 c.args && (c.bound == 0) && ((c.rows.length : Int) == 0)) := by unfold fitsB; rw [h]; rfl
theorem fitsB_5 {c : Con} (h : c.kind = 5) : fitsB c = (((c.args.length : Int) == 0) && (c.bound == 0) && rowsInB c.rows c.vars.length 0 5) := by unfold fitsB; rw [h]; rfl
theorem fitsB_6 {c : Con} (h : c.kind = 6) : fitsB c = (argsB c 1 0 5 && inB 0 4 c.bound && ((c.rows.length : Int) == 0)) := by unfold fitsB; rw [h]; rfl
theorem fitsB_7 {c : Con} (h : c.kind = 7) : fitsB c = (argsB c (2 * c.vars.length) 0 9 && inB 0 9 c.bound && ((c.rows.length : Int) == 0)) := by unfold fitsB; rw [h]; rfl
theorem fitsB_8 {c : Con} (h : c.kind = 8) : fitsB c = (rowsInB c.rows 6 (-1) ((c.rows.length : Int) - 1) && distinctB c.args && allB 0 ((c.rows.length : Int) - 1) c.args && (c.bound == 0)) := by unfold fitsB; rw [h]; rfl
theorem fitsB_0 {c : Con} (h : ¬ (1 ≤ c.kind ∧ c.kind ≤ 9)) : fitsB c = false := by
  unfold fitsB
  rw [if_neg (by omega), if_neg (by omega), if_neg (by omega), if_neg (by omega), if_neg (by omega), if_neg (by omega), if_neg (by omega), if_neg (by omega)]
/-- As the reference has it: without a look at the number of variables. -/
def validConS (c : Con) (n : Int) : Bool := inB 1 n c.vars.length && allB 0 (n - 1) c.vars && distinctB c.vars && fitsB c
def validCon (c : Con) (n : Int) : Bool := inB 1 4 n && validConS c n
def domsOk (ds : List Int) : Bool := inB 1 4 ds.length && allB 0 63 ds
def validM (m : Mod) : Bool := domsOk m.doms && inB 0 6 m.cons.length && m.cons.all fun c => validCon c m.doms.length
end Go.Proofs.YtmonhpoogfdpoaaGreatDoor

namespace Go.Proofs.YtmonhpoogfdpoaaGreatDoor

def Small (xs : List Int) : Prop := ∀ x ∈ xs, -1000 ≤ x ∧ x ≤ 1000
end Go.Proofs.YtmonhpoogfdpoaaGreatDoor

namespace Go.Proofs.YtmonhpoogfdpoaaGreatDoor

def word (vars x : List Int) : List Int := vars.map fun v => x.getD v.toNat 0
def countB (y : Int) : List Int → Int
  | [] => 0
  | x :: r => (if x = y then 1 else 0) + countB y r
end Go.Proofs.YtmonhpoogfdpoaaGreatDoor

namespace Go.Proofs.YtmonhpoogfdpoaaGreatDoor

end Go.Proofs.YtmonhpoogfdpoaaGreatDoor
