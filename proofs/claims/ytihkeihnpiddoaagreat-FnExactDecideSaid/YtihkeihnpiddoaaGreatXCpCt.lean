/-
  Walks of deep copies: a constraint's, a model's; the program's and the reference's.
  Walks of the reference's deep copies: a constraint's, a model's. Walk of the reference's deep copy of a model.
-/
import Derived.Test.YtihkeihnpiddoaaGreatXEE
import Derived.Test.YtihkeihnpiddoaaGreatXM1
import Derived.Deep.RegionHeld3
import Derived.Deep.RegionLaw
import Derived.Test.YtihkeihnpiddoaaGreatXSy1ToRe
import Derived.Test.YtihkeihnpiddoaaGreatXG8
import Derived.Deep.RegionHeldLaw
import Derived.Deep.CutRange
import Derived.Test.YtihkeihnpiddoaaGreatXEG
set_option linter.unusedVariables false
namespace Go.Proofs.YtihkeihnpiddoaaGreat
open Go.RowKit

/-! ### Lists whose elements lead to memory of the list's own -/
def elRowM (S : List Nat) (w : World) (cs : List Value) (r : List Int) : Prop := ∃ u, cs = [u] ∧ NumsM (fun b => b ∉ S) w u r
theorem elRowM_ok : ElOk elRowM :=
  ⟨fun ⟨u, e, h⟩ hg => ⟨u, e, h.gr' hg (fun b hb h => h hb) (fun b _ h => h)⟩,
   fun ⟨u, e, h⟩ hs => ⟨u, e, h.move fun a v hM hc => ⟨hc, rfl, fun hm => hM (hs _ (World.block_lt_of_cell? _ a hc) hm)⟩⟩⟩
def elConM (S : List Nat) (w : World) (cs : List Value) (c : Con) : Prop :=
  ∃ vo vc xo xc ro rc, cs = [.int .i64 c.kind, .slice vo c.vars.length vc, .slice xo c.args.length xc, .int .i64 c.bound, .slice ro c.rows.length rc] ∧
    ConM (fun b => b ∉ S) w (.agg #[.int .i64 c.kind, .slice vo c.vars.length vc, .slice xo c.args.length xc, .int .i64 c.bound, .slice ro c.rows.length rc]) c
theorem elConM_ok : ElOk elConM :=
  ⟨fun ⟨a1, a2, a3, a4, a5, a6, e, h⟩ hg => ⟨a1, a2, a3, a4, a5, a6, e, h.gr' hg (fun b hb h => h hb) (fun b _ h => h)⟩,
   fun ⟨a1, a2, a3, a4, a5, a6, e, h⟩ hs => ⟨a1, a2, a3, a4, a5, a6, e, h.move fun a v hM hc => ⟨hc, rfl, fun hm => hM (hs _ (World.block_lt_of_cell? _ a hc) hm)⟩⟩⟩
theorem not_in_low {B g b : Nat} (h : b ∉ List.range B ++ [g]) : B ≤ b ∧ b ≠ g := by
  simp only [List.mem_append, List.mem_range, List.mem_singleton, not_or] at h
  omega
theorem OwnG.rowsM {B : Nat} {w : World} {e : TypeId} {v : Value} {rows : List (List Int)} (h : OwnG 1 elRowM B w e v rows) : RowsM (New B w) w v rows := by
  obtain ⟨ao, cap, rfl, h1, h2, h3⟩ := h.slice
  refine ⟨ao, cap, rfl, ⟨h1, h2, h3⟩, fun i r hi => ?_⟩
  obtain ⟨g, cap', cs, e1, hb, hlt, hl, hc, hf, hel⟩ := h.cell hi
  cases e1
  obtain ⟨u, rfl, hn⟩ := hel (List.range B ++ [g]) (fun b hb => by
    rcases List.mem_append.1 hb with h | h
    · exact .inl (List.mem_range.1 h)
    · exact .inr (.inr (by simpa using h)))
  refine ⟨g, 0, u, rfl, ⟨hb, hlt⟩, by have := hc 0 u rfl; simpa using this, by simpa using hf i, hn.move fun a v hM hcell => ⟨hcell, rfl, ⟨⟨(not_in_low hM).1, World.block_lt_of_cell? _ a hcell⟩, (not_in_low hM).2⟩⟩⟩
theorem OwnG.consM {B : Nat} {w : World} {e : TypeId} {v : Value} {cs : List Con} (h : OwnG 5 elConM B w e v cs) : ConsM (New B w) w v cs := by
  obtain ⟨ao, cap, rfl, h1, h2, h3⟩ := h.slice
  refine ⟨ao, cap, rfl, ⟨h1, h2, h3⟩, fun i c hi => ?_⟩
  obtain ⟨g, cap', cs', e1, hb, hlt, hl, hc, hf, hel⟩ := h.cell hi
  cases e1
  obtain ⟨vo, vc, xo, xc, ro, rc, rfl, hn⟩ := hel (List.range B ++ [g]) (fun b hb => by
    rcases List.mem_append.1 hb with h | h
    · exact .inl (List.mem_range.1 h)
    · exact .inr (.inr (by simpa using h)))
  obtain ⟨vv, av, rv, e2, n1, n2, n3⟩ := hn
  simp only [Value.agg.injEq] at e2
  have e3 := congrArg (fun a => a[1]?) e2
  have e4 := congrArg (fun a => a[2]?) e2
  have e5 := congrArg (fun a => a[4]?) e2
  simp only [List.getElem?_toArray, List.getElem?_cons_succ, List.getElem?_cons_zero, Option.some.injEq] at e3 e4 e5
  subst e3 e4 e5
  have hm : ∀ a v, (fun b => b ∉ List.range B ++ [g]) a.block → w.cell? a = some v → w.cell? a = some v ∧ w.frozen? a = w.frozen? a ∧ but (New B w) g a.block :=
    fun a v hM hcell => ⟨hcell, rfl, ⟨⟨(not_in_low hM).1, World.block_lt_of_cell? _ a hcell⟩, (not_in_low hM).2⟩⟩
  have c0 := hc 0 _ rfl
  have c1 := hc 1 _ rfl
  have c2 := hc 2 _ rfl
  have c3 := hc 3 _ rfl
  have c4 := hc 4 _ rfl
  simp only [Nat.zero_add, Nat.add_zero] at c0 c1 c2 c3 c4
  refine ⟨g, 0, _, _, _, rfl, ⟨hb, hlt⟩, ⟨?_, ?_, ?_, ?_, ?_⟩, hf, n1.move hm, n2.move hm, n3.move hm⟩ <;> (first | simpa using c0 | simpa [Nat.add_assoc] using c1 | simpa [Nat.add_assoc] using c2 | simpa [Nat.add_assoc] using c3 | simpa [Nat.add_assoc] using c4)

/-- 'make([]T, 0, n)', of whatever elements. -/
theorem wp_mk0G {α : Type} {P : Program} {w : World} {ops : Array Oper} {rest : List Oper} {o : Oper} {a : Act} {Q : Exit → Act → World → Prop} (hgd : o.guard = none) (l c : Operand) (t : TypeId)
    (ho : o.op = Op.makeSlice t l c) (size : Nat) (el : List Nat → World → List Value → α → Prop) (B : Nat) (e : TypeId) (z : Value) (bytes : Nat) (hinfo : (P.info? e).map (fun i => (i.zero, i.size, i.bytes)) = some (some z, size, bytes)) (hby : bytes ≤ 100)
    (ht : P.underlying t = some (.slice e)) (n : Nat) (hl : a.eval l = .int .i64 0) (hc : a.eval c = .int .i64 (n : Int)) (hn : n ≤ 1000000000) (hB : B ≤ w.heap.size)
    (h : ∀ w', OwnG size el B w' e (.slice (some ⟨w.heap.size, 0, none⟩) 0 n) ([] : List α) → Gr [] w w' → wpList P ops Q rest (a.put o.dst (.slice (some ⟨w.heap.size, 0, none⟩) 0 n)) w') : wpList P ops Q (o :: rest) a w := by
  obtain ⟨i0, hi, hz0, hz1, hz2⟩ := info_parts hinfo
  have hbb : bytes * n ≤ 100 * n := Nat.mul_le_mul_right _ hby
  refine wpList_make_own w hgd l c t ho B e i0 z size ht hi hz0 hz1 .i64 .i64 n n hl hc rfl (by rw [hz2]; omega) (by simp only [maxLen]; omega) hB ?_
  intro w' hown hg
  exact h w' ⟨[], rfl, by simp, by simpa using hown, by simp⟩ ((Gr.refl _ _).grown hg (by simp))

/-- 'append(out, x)' on a list of the call's own, a longer one. -/
theorem wp_appH {α : Type} {P : Program} {w : World} {ops : Array Oper} {rest : List Oper} {o : Oper} {a : Act} {Q : Exit → Act → World → Prop} (hgd : o.guard = none) (s x : Operand) (t : TypeId)
    (ho : o.op = .call { callee := .builtin .append, args := #[s, x], argTypes := #[t, t] }) (size : Nat) (el : List Nat → World → List Value → α → Prop) (ok : ElOk el) (B : Nat) (e : TypeId) (z : Value) (bytes : Nat)
    (hinfo : (P.info? e).map (fun i => (i.zero, i.size, i.bytes)) = some (some z, size, bytes)) (hzs : z.cells.size = size) (hsz : 0 < size) (hby : bytes ≤ 100)
    (ht : P.underlying t = some (.slice e)) (v : Value) (xs : List α) (hs : a.eval s = v) (hown : OwnG size el B w e v xs) (g c : Nat) (y : α) (cs : List Value) (hx : a.eval x = .slice (some ⟨g, 0, none⟩) 1 c)
    (hl : cs.length = size) (h1 : ∀ u ∈ cs, u.oneCell' = true) (hn : ∀ j u, cs[j]? = some u → w.cell? ⟨g, j, none⟩ = some u) (hel : ∀ S : List Nat, (∀ b ∈ S, b < B ∨ w.heap.size ≤ b ∨ v.ownBlock = some b) → el S w cs y)
    (hlen : xs.length ≤ 10000000) (hB : B ≤ w.heap.size)
    (h : ∀ v' w', OwnG size el B w' e v' (xs ++ [y]) → Gr v.ownBlock.toList w w' → wpList P ops Q rest (a.put o.dst v') w') : wpList P ops Q (o :: rest) a w := by
  obtain ⟨css, k1, k2, k3, k4⟩ := hown
  obtain ⟨i0, hi, hz0, hz1, hz2⟩ := info_parts hinfo
  have hbb : (xs.length + 1) * bytes ≤ (xs.length + 1) * 100 := Nat.mul_le_mul_left _ hby
  refine wpList_append_lies w hgd s x t ho B e i0 z size bytes ht hi hz0 hz1 hz2 hzs hsz v xs.length css.flatten hs k3 ⟨g, 0, none⟩ 1 c cs hx (by rw [hl]; simp) ?_ h1 (by omega) (by simp only [maxLen]; omega) (by omega) hB w.heap.size rfl ?_
  · intro j u hj
    have : (⟨g, 0, none⟩ : Addr).add j = ⟨g, j, none⟩ := by unfold Addr.add; split <;> simp_all
    rw [this]; exact hn j u hj
  · intro g' cap' w' hown' hgrow hwhere hlt
    have hgr : Gr v.ownBlock.toList w w' := ⟨hgrow.os, hgrow.tape, hgrow.output, hgrow.size, fun k hk hs => hgrow.block k hk (fun e => hs (by rw [← e]; simp))⟩
    refine h _ _ ⟨css ++ [cs], by simp [k1], ?_, ?_, ?_⟩ hgr
    · intro c hc
      rcases List.mem_append.1 hc with hc | hc
      · exact k2 c hc
      · simp at hc; subst hc; exact ⟨hl, h1⟩
    · rw [List.flatten_append]; simpa using hown'
    · have hcond : ∀ S : List Nat, (∀ b ∈ S, b < B ∨ w'.heap.size ≤ b ∨ (Value.slice (some ⟨g', 0, none⟩) (xs.length + 1) cap').ownBlock = some b) → ∀ b ∈ v.ownBlock.toList ++ S, b < B ∨ w.heap.size ≤ b ∨ v.ownBlock = some b := by
        intro S hS b hb
        rcases List.mem_append.1 hb with hb | hb
        · exact .inr (.inr (by simpa using hb))
        · rcases hS b hb with h | h | h
          · exact .inl h
          · exact .inr (.inl (Nat.le_trans hgr.size h))
          · simp [Value.ownBlock] at h
            subst h
            rcases hwhere with h | h
            · exact .inr (.inr h)
            · exact .inr (.inl (by omega))
      intro i c' x' hc hx' S hS
      have fin : ∀ c'' x'', el (v.ownBlock.toList ++ S) w c'' x'' → el S w' c'' x'' := fun c'' x'' h0 =>
        ok.sub (ok.gr h0 (hgr.sub (fun k _ hk => by simp at hk ⊢; exact .inl hk))) (fun b _ hb => by simp [hb])
      by_cases hlt : i < xs.length
      · rw [List.getElem?_append_left (by omega)] at hc
        rw [List.getElem?_append_left hlt] at hx'
        exact fin _ _ (k4 i c' x' hc hx' _ (hcond S hS))
      · have hi' : i = xs.length := by
          have := (List.getElem?_eq_some_iff.1 hx').1
          simp at this; omega
        subst hi'
        rw [List.getElem?_append_right (by omega), k1, Nat.sub_self] at hc
        rw [List.getElem?_append_right (by omega), Nat.sub_self] at hx'
        simp at hc hx'
        subst hc hx'
        exact fin _ _ (hel _ (hcond S hS))

theorem step_appH {α : Type} {P : Program} {w : World} {ops : Array Oper} {o : Oper} {a : Act} {K : Act → World → Prop} {Q : Exit → Act → World → Prop} {E : Prop} (hgd : o.guard = none) (s x : Operand) (t : TypeId)
    (ho : o.op = .call { callee := .builtin .append, args := #[s, x], argTypes := #[t, t] }) (size : Nat) (el : List Nat → World → List Value → α → Prop) (ok : ElOk el) (B : Nat) (e : TypeId) (z : Value) (bytes : Nat)
    (hinfo : (P.info? e).map (fun i => (i.zero, i.size, i.bytes)) = some (some z, size, bytes)) (hzs : z.cells.size = size) (hsz : 0 < size) (hby : bytes ≤ 100)
    (ht : P.underlying t = some (.slice e)) (v : Value) (xs : List α) (hs : a.eval s = v) (hown : OwnG size el B w e v xs) (g c : Nat) (y : α) (cs : List Value) (hx : a.eval x = .slice (some ⟨g, 0, none⟩) 1 c)
    (hl : cs.length = size) (h1 : ∀ u ∈ cs, u.oneCell' = true) (hn : ∀ j u, cs[j]? = some u → w.cell? ⟨g, j, none⟩ = some u) (hel : ∀ S : List Nat, (∀ b ∈ S, b < B ∨ w.heap.size ≤ b ∨ v.ownBlock = some b) → el S w cs y)
    (hlen : xs.length ≤ 10000000) (hB : B ≤ w.heap.size)
    (h : ∀ g' c' w', OwnG size el B w' e (.slice (some ⟨g', 0, none⟩) (xs.length + 1) c') (xs ++ [y]) → Gr v.ownBlock.toList w w' → K (a.put o.dst (.slice (some ⟨g', 0, none⟩) (xs.length + 1) c')) w') : if Region.wanted o (yielded ops a.tmps) = true then Oper.wp P o a w K Q else E := by
  obtain ⟨css, k1, k2, k3, k4⟩ := hown
  obtain ⟨i0, hi, hz0, hz1, hz2⟩ := info_parts hinfo
  have hbb : (xs.length + 1) * bytes ≤ (xs.length + 1) * 100 := Nat.mul_le_mul_left _ hby
  refine step_append_lies w hgd s x t ho B e i0 z size bytes ht hi hz0 hz1 hz2 hzs hsz v xs.length css.flatten hs k3 ⟨g, 0, none⟩ 1 c cs hx (by rw [hl]; simp) ?_ h1 (by omega) (by simp only [maxLen]; omega) (by omega) hB w.heap.size rfl ?_
  · intro j u hj
    have : (⟨g, 0, none⟩ : Addr).add j = ⟨g, j, none⟩ := by unfold Addr.add; split <;> simp_all
    rw [this]; exact hn j u hj
  · intro g' cap' w' hown' hgrow hwhere hlt
    have hgr : Gr v.ownBlock.toList w w' := ⟨hgrow.os, hgrow.tape, hgrow.output, hgrow.size, fun k hk hs => hgrow.block k hk (fun e => hs (by rw [← e]; simp))⟩
    refine h _ _ _ ⟨css ++ [cs], by simp [k1], ?_, ?_, ?_⟩ hgr
    · intro c hc
      rcases List.mem_append.1 hc with hc | hc
      · exact k2 c hc
      · simp at hc; subst hc; exact ⟨hl, h1⟩
    · rw [List.flatten_append]; simpa using hown'
    · have hcond : ∀ S : List Nat, (∀ b ∈ S, b < B ∨ w'.heap.size ≤ b ∨ (Value.slice (some ⟨g', 0, none⟩) (xs.length + 1) cap').ownBlock = some b) → ∀ b ∈ v.ownBlock.toList ++ S, b < B ∨ w.heap.size ≤ b ∨ v.ownBlock = some b := by
        intro S hS b hb
        rcases List.mem_append.1 hb with hb | hb
        · exact .inr (.inr (by simpa using hb))
        · rcases hS b hb with h | h | h
          · exact .inl h
          · exact .inr (.inl (Nat.le_trans hgr.size h))
          · simp [Value.ownBlock] at h
            subst h
            rcases hwhere with h | h
            · exact .inr (.inr h)
            · exact .inr (.inl (by omega))
      intro i c' x' hc hx' S hS
      have fin : ∀ c'' x'', el (v.ownBlock.toList ++ S) w c'' x'' → el S w' c'' x'' := fun c'' x'' h0 =>
        ok.sub (ok.gr h0 (hgr.sub (fun k _ hk => by simp at hk ⊢; exact .inl hk))) (fun b _ hb => by simp [hb])
      by_cases hlt : i < xs.length
      · rw [List.getElem?_append_left (by omega)] at hc
        rw [List.getElem?_append_left hlt] at hx'
        exact fin _ _ (k4 i c' x' hc hx' _ (hcond S hS))
      · have hi' : i = xs.length := by
          have := (List.getElem?_eq_some_iff.1 hx').1
          simp at this; omega
        subst hi'
        rw [List.getElem?_append_right (by omega), k1, Nat.sub_self] at hc
        rw [List.getElem?_append_right (by omega), Nat.sub_self] at hx'
        simp at hc hx'
        subst hc hx'
        exact fin _ _ (hel _ (hcond S hS))

theorem OwnG.own {α : Type} {size : Nat} {el : List Nat → World → List Value → α → Prop} {B : Nat} {w : World} {e : TypeId} {v : Value} {xs : List α} (h : OwnG size el B w e v xs) {b : Nat} (hb : v.ownBlock = some b) : B ≤ b ∧ b < w.heap.size := by
  obtain ⟨css, _, _, h3, _⟩ := h
  exact ownsRow_ownBlock h3 hb
theorem heap2 (w : World) (a b : Obj) : ((w.alloc a).alloc b).heap[w.heap.size]? = some a ∧ ((w.alloc a).alloc b).heap[w.heap.size + 1]? = some b := by
  refine ⟨((Gr.refl [] (w.alloc a)).alloc b).obj (heap_alloc_new _ _) (by simp), ?_⟩
  have := heap_alloc_new (w.alloc a) b
  rwa [World.size_alloc] at this

end Go.Proofs.YtihkeihnpiddoaaGreat

set_option linter.unusedVariables false
set_option linter.unusedSimpArgs false
namespace Go.Proofs.YtihkeihnpiddoaaGreat
open Go.RowKit

theorem sets5 {w : World} {bk : Nat} {t : TypeId} (z0 z1 z2 z3 z4 x0 x1 x2 x3 x4 : Value) (h : w.heap[bk]? = some (.cells #[z0, z1, z2, z3, z4] t (0, 0))) :
    (((((w.setCell ⟨bk, 0, none⟩ x0).setCell ⟨bk, 1, none⟩ x1).setCell ⟨bk, 2, none⟩ x2).setCell ⟨bk, 3, none⟩ x3).setCell ⟨bk, 4, none⟩ x4).heap[bk]? = some (.cells #[x0, x1, x2, x3, x4] t (0, 0)) := by
  have := block_cells (cur' := #[]) (block_cells (cur' := #[]) (block_cells (cur' := #[]) (block_cells (cur' := #[]) (block_cells (cur' := #[]) h 0 x0) 1 x1) 2 x2) 3 x3) 4 x4
  simpa using this
theorem setsG {w : World} (bk : Nat) (x0 x1 x2 x3 x4 : Value) :
    Gr [bk] w (((((w.setCell ⟨bk, 0, none⟩ x0).setCell ⟨bk, 1, none⟩ x1).setCell ⟨bk, 2, none⟩ x2).setCell ⟨bk, 3, none⟩ x3).setCell ⟨bk, 4, none⟩ x4) :=
  (((((Gr.refl _ _).setCell _ _ (.inl (by simp))).setCell _ _ (.inl (by simp))).setCell _ _ (.inl (by simp))).setCell _ _ (.inl (by simp))).setCell _ _ (.inl (by simp))
theorem NumsM.to {v : Value} {xs : List Int} {B B0 : Nat} {w1 w2 : World} {S : List Nat} {bk : Nat} (h : NumsM (New B w1) w1 v xs) (hg : Gr S w1 w2) (hS : ∀ b ∈ S, b = bk) (hbk : bk < B ∨ w1.heap.size ≤ bk) (hB : B0 ≤ B) :
    NumsM (fun b => New B0 w2 b ∧ b ≠ bk) w2 v xs :=
  h.gr' hg (fun b hb hm => by have := hS b hb; have h1 := hm.1; have h2 := hm.2; omega)
    (fun b hlt hm => ⟨⟨Nat.le_trans hB hm.1, Nat.lt_of_lt_of_le hm.2 hg.size⟩, by have h1 := hm.1; have h2 := hm.2; omega⟩)


set_option maxRecDepth 100000 in
set_option maxHeartbeats 4000000 in
theorem copyConstraint_c (c : Con) (v : Value) (w : World) (hv : ConV [] w v c) (hs : c.Small) (hr9 : c.rows.length ≤ 1000) :
    Calls Tryz.prog 141 #[v] w fun e w' => ∃ vo vc xo xc ro rc, e = .returned (.agg #[.int .i64 c.kind, .slice vo c.vars.length vc, .slice xo c.args.length xc, .int .i64 c.bound, .slice ro c.rows.length rc]) ∧
      ConM (New w.heap.size w') w' (.agg #[.int .i64 c.kind, .slice vo c.vars.length vc, .slice xo c.args.length xc, .int .i64 c.bound, .slice ro c.rows.length rc]) c ∧ Gr [] w w' := by
  obtain ⟨vo, vc, ao, ac, ro, rc, rfl, n1, n2, n3⟩ := hv.open
  have H1 := hid n1; have H2 := hid n2; have H3 := hid n3; have Hs := hid hs
  obtain ⟨hr1, hr2⟩ : c.rows.length ≤ rc ∧ rc ≤ 9223372036854775807 := by
    obtain ⟨_, _, e, ⟨h1, h2, -⟩, -⟩ := id n3
    simp only [Value.slice.injEq] at e
    omega
  have h20 := heap2 w (.cells #[.int .i64 c.kind, .slice vo c.vars.length vc, .slice ao c.args.length ac, .int .i64 c.bound, .slice ro c.rows.length rc] 41) (.cells #[.int .i64 0, .slice none 0 0, .slice none 0 0, .int .i64 0, .slice none 0 0] 41)
  have hg0 : Gr [] w ((w.alloc (.cells #[.int .i64 c.kind, .slice vo c.vars.length vc, .slice ao c.args.length ac, .int .i64 c.bound, .slice ro c.rows.length rc] 41)).alloc (.cells #[.int .i64 0, .slice none 0 0, .slice none 0 0, .int .i64 0, .slice none 0 0] 41)) := ((Gr.refl [] w).alloc _).alloc _
  have fb0 := fld h20.1
  have Hb0 := hid h20.1; have Hr0 := hid h20.2; have Hg0 := hid hg0
  have hs0 : ((w.alloc (.cells #[.int .i64 c.kind, .slice vo c.vars.length vc, .slice ao c.args.length ac, .int .i64 c.bound, .slice ro c.rows.length rc] 41)).alloc (.cells #[.int .i64 0, .slice none 0 0, .slice none 0 0, .int .i64 0, .slice none 0 0] 41)).heap.size = w.heap.size + 2 := by simp
  have hva := hs.vars; have hag := hs.args
  clear n1 n2 n3 hv hs h20 hg0
  go_enter Tryz.func141, Tryz.ntmps141
  go_wp2_with fail
  generalize hW0 : (w.alloc (.cells #[.int .i64 c.kind, .slice vo c.vars.length vc, .slice ao c.args.length ac, .int .i64 c.bound, .slice ro c.rows.length rc] 41)).alloc (.cells #[.int .i64 0, .slice none 0 0, .slice none 0 0, .int .i64 0, .slice none 0 0] 41) = w0 at *
  clear hW0
  have Hs0 := hid hs0
  clear hs0
  go_cut [3] from 5 to 15 (fun p wx => ∃ (bk : Nat) (ufo : Option Addr) (ufc : Nat) (ulo : Option Addr) (ulc : Nat), p = .pointer (some ⟨bk, 0, none⟩) ∧ w0.heap.size ≤ bk ∧ wx.heap[bk]? = some (.cells #[.int .i64 c.kind, .slice ufo c.vars.length ufc, .slice ulo c.args.length ulc, .int .i64 c.bound, .slice none 0 0] 41 (0, 0)) ∧ Gr [] w0 wx ∧
      NumsM (fun b => New w0.heap.size wx b ∧ b ≠ bk) wx (.slice ufo c.vars.length ufc) c.vars ∧ NumsM (fun b => New w0.heap.size wx b ∧ b ≠ bk) wx (.slice ulo c.args.length ulc) c.args)
  case first =>
    have HBX : Hid (∀ W, Gr [] w0 W → W.heap[w.heap.size]? = some (.cells #[.int .i64 c.kind, .slice vo c.vars.length vc, .slice ao c.args.length ac, .int .i64 c.bound, .slice ro c.rows.length rc] 41 (0, 0))) := hid fun W h => h.obj Hb0.out (by simp)
    have ne0 : w.heap.size ≠ w0.heap.size := (by have h2 := Hs0.out; omega)
    have ne0' := ne0.symm
    have fA0 := fld (HBX.out _ ((Gr.refl [] w0).alloc (.cells #[.int .i64 0, .slice none 0 0, .slice none 0 0, .int .i64 0, .slice none 0 0] 41)))
    go_region_held_law (fun w' => w'.cell? ⟨w.heap.size, 0, none⟩ = some (.int .i64 c.kind) ∧ w'.cell? ⟨w.heap.size, 1, none⟩ = some (.slice vo c.vars.length vc) ∧ w'.cell? ⟨w.heap.size, 2, none⟩ = some (.slice ao c.args.length ac) ∧ w'.cell? ⟨w.heap.size, 3, none⟩ = some (.int .i64 c.bound)) (go_keep) (first
      | (go_simp; go_at_call 46; refine (copyInts_c _ c.vars _ (by first | exact (H1.out.gr Hg0.out).gr ((Gr.refl [] w0).drew) | exact (H1.out.gr Hg0.out).gr (((Gr.refl [] w0).drew).alloc _) | exact (H1.out.gr Hg0.out).gr (HGb.out) | exact (H1.out.gr Hg0.out).gr (HGb.out.alloc _)) hva).mono ?_; rintro e wa ⟨va, rfl, hoa, hga⟩; obtain ⟨ufo, ufc, rfl, -, -⟩ := hoa.nums' (S := []) (by simp); have hgx : Gr [] w0 wa := Gr.trans (by first | exact (Gr.refl [] w0).drew | exact ((Gr.refl [] w0).drew).alloc _ | exact HGb.out | exact HGb.out.alloc _) hga; have HOa := hid hoa; have HGa := hid hgx; have nea : w.heap.size ≠ wa.heap.size := (by have h1 := hgx.size; have h2 := Hs0.out; omega); have nea' : wa.heap.size ≠ w.heap.size := nea.symm; have Hga := hid hga; have hlta := hga.size; have fba := fld (HBX.out _ hgx); have fAa := fld (HBX.out _ (hgx.alloc (.cells #[.int .i64 0, .slice none 0 0, .slice none 0 0, .int .i64 0, .slice none 0 0] 41))); (try (have hboa : wa.heap[w0.heap.size]? = some (.cells #[.int .i64 0, .slice none 0 0, .slice none 0 0, .int .i64 0, .slice none 0 0] 41 (0, 0)) := hga.obj (heap_alloc_new w0.drew (.cells #[.int .i64 0, .slice none 0 0, .slice none 0 0, .int .i64 0, .slice none 0 0] 41)) (by simp); have HBOa := hid hboa; have foa := fld hboa; have ffa := fldF hboa; clear hboa)); (try (have hboa : wa.heap[wb.heap.size]? = some (.cells #[.int .i64 0, .slice none 0 0, .slice none 0 0, .int .i64 0, .slice none 0 0] 41 (0, 0)) := hga.obj (heap_alloc_new wb (.cells #[.int .i64 0, .slice none 0 0, .slice none 0 0, .int .i64 0, .slice none 0 0] 41)) (by simp); have HBOa := hid hboa; have foa := fld hboa; have ffa := fldF hboa; clear hboa)); (try (have hboa := hga.obj HBOb.out (by simp); have HBOa := hid hboa; have foa := fld hboa; have ffa := fldF hboa; clear hboa)); clear hoa hga hgx)
      | (go_simp; go_at_call 46; refine (copyInts_c _ c.args _ (by first | exact (H2.out.gr Hg0.out).gr ((Gr.refl [] w0).drew) | exact (H2.out.gr Hg0.out).gr (((Gr.refl [] w0).drew).alloc _) | exact (H2.out.gr Hg0.out).gr (HGa.out) | exact (H2.out.gr Hg0.out).gr (HGa.out.alloc _)) hag).mono ?_; rintro e wb ⟨vb, rfl, hob, hgb⟩; obtain ⟨ulo, ulc, rfl, -, -⟩ := hob.nums' (S := []) (by simp); have hgx : Gr [] w0 wb := Gr.trans (by first | exact (Gr.refl [] w0).drew | exact ((Gr.refl [] w0).drew).alloc _ | exact HGa.out | exact HGa.out.alloc _) hgb; have HOb := hid hob; have HGb := hid hgx; have neb : w.heap.size ≠ wb.heap.size := (by have h1 := hgx.size; have h2 := Hs0.out; omega); have neb' : wb.heap.size ≠ w.heap.size := neb.symm; have Hgb := hid hgb; have hltb := hgb.size; have fbb := fld (HBX.out _ hgx); have fAb := fld (HBX.out _ (hgx.alloc (.cells #[.int .i64 0, .slice none 0 0, .slice none 0 0, .int .i64 0, .slice none 0 0] 41))); (try (have hbob : wb.heap[w0.heap.size]? = some (.cells #[.int .i64 0, .slice none 0 0, .slice none 0 0, .int .i64 0, .slice none 0 0] 41 (0, 0)) := hgb.obj (heap_alloc_new w0.drew (.cells #[.int .i64 0, .slice none 0 0, .slice none 0 0, .int .i64 0, .slice none 0 0] 41)) (by simp); have HBOb := hid hbob; have fob := fld hbob; have ffb := fldF hbob; clear hbob)); (try (have hbob : wb.heap[wa.heap.size]? = some (.cells #[.int .i64 0, .slice none 0 0, .slice none 0 0, .int .i64 0, .slice none 0 0] 41 (0, 0)) := hgb.obj (heap_alloc_new wa (.cells #[.int .i64 0, .slice none 0 0, .slice none 0 0, .int .i64 0, .slice none 0 0] 41)) (by simp); have HBOb := hid hbob; have fob := fld hbob; have ffb := fldF hbob; clear hbob)); (try (have hbob := hgb.obj HBOa.out (by simp); have HBOb := hid hbob; have fob := fld hbob; have ffb := fldF hbob; clear hbob)); clear hob hgb hgx))
    all_goals
      go_wp2_with fail
      go_meet
    · have hW := (Gr.refl [] wb).alloc (.cells #[.int .i64 c.kind, .slice ufo c.vars.length ufc, .slice ulo c.args.length ulc, .int .i64 c.bound, .slice none 0 0] 41)
      have hB := heap_alloc_new wb (.cells #[.int .i64 c.kind, .slice ufo c.vars.length ufc, .slice ulo c.args.length ulc, .int .i64 c.bound, .slice none 0 0] 41)
      generalize wb.alloc (.cells #[.int .i64 c.kind, .slice ufo c.vars.length ufc, .slice ulo c.args.length ulc, .int .i64 c.bound, .slice none 0 0] 41) = WE at hW hB ⊢
      refine ⟨wb.heap.size, ufo, ufc, ulo, ulc, rfl, HGb.out.size, hB, HGb.out.trans hW, ?_, ?_⟩
      · exact HOa.out.numsM.to (S := []) (Hgb.out.trans hW) (by simp) (.inr Hgb.out.size) (Nat.le_refl _)
      · exact HOb.out.numsM.to (S := []) hW (by simp) (.inr (Nat.le_refl _)) HGa.out.size
    · skip
      have h5 := sets5 _ _ _ _ _ (.int .i64 c.kind) (.slice ufo c.vars.length ufc) (.slice ulo c.args.length ulc) (.int .i64 c.bound) (.slice none 0 0) HBOb.out
      have hG := setsG (w := wb) wa.heap.size (.int .i64 c.kind) (.slice ufo c.vars.length ufc) (.slice ulo c.args.length ulc) (.int .i64 c.bound) (.slice none 0 0)
      generalize (((((wb.setCell ⟨wa.heap.size, 0, none⟩ (.int .i64 c.kind)).setCell ⟨wa.heap.size, 1, none⟩ (.slice ufo c.vars.length ufc)).setCell ⟨wa.heap.size, 2, none⟩ (.slice ulo c.args.length ulc)).setCell ⟨wa.heap.size, 3, none⟩ (.int .i64 c.bound)).setCell ⟨wa.heap.size, 4, none⟩ (.slice none 0 0)) = WE at h5 hG ⊢
      refine ⟨wa.heap.size, ufo, ufc, ulo, ulc, rfl, HGa.out.size, h5, HGb.out.step hG (fun i hi => .inr (by simp at hi; subst hi; exact HGa.out.size)), ?_, ?_⟩
      · exact HOa.out.numsM.to (S := [wa.heap.size]) (Gr.trans (Gr.any (((Gr.refl [] wa).alloc _).trans Hgb.out)) hG) (by simp) (.inr (Nat.le_refl _)) (Nat.le_refl _)
      · exact HOb.out.numsM.to (S := [wa.heap.size]) hG (by simp) (.inl (by simp)) (by have := HGa.out.size; simp; omega)
    · skip
      have h5 := sets5 _ _ _ _ _ (.int .i64 c.kind) (.slice ufo c.vars.length ufc) (.slice ulo c.args.length ulc) (.int .i64 c.bound) (.slice none 0 0) HBOb.out
      have hG := setsG (w := wb) w0.heap.size (.int .i64 c.kind) (.slice ufo c.vars.length ufc) (.slice ulo c.args.length ulc) (.int .i64 c.bound) (.slice none 0 0)
      generalize (((((wb.setCell ⟨w0.heap.size, 0, none⟩ (.int .i64 c.kind)).setCell ⟨w0.heap.size, 1, none⟩ (.slice ufo c.vars.length ufc)).setCell ⟨w0.heap.size, 2, none⟩ (.slice ulo c.args.length ulc)).setCell ⟨w0.heap.size, 3, none⟩ (.int .i64 c.bound)).setCell ⟨w0.heap.size, 4, none⟩ (.slice none 0 0)) = WE at h5 hG ⊢
      refine ⟨w0.heap.size, ufo, ufc, ulo, ulc, rfl, Nat.le_refl _, h5, HGb.out.step hG (fun i hi => .inr (by simp at hi; omega)), ?_, ?_⟩
      · exact HOa.out.numsM.to (S := [w0.heap.size]) (Gr.trans (Gr.any Hgb.out) hG) (by simp) (.inl (by simp)) (by simp)
      · exact HOb.out.numsM.to (S := [w0.heap.size]) hG (by simp) (.inl (by have := Hga.out.size; simp at this; omega)) HGa.out.size
  case rest =>
    obtain ⟨bk, ufo, ufc, ulo, ulc, rfl, hbk, hbb, hgc, hnf, hnl⟩ := hcut
    have Hbk := hid hbk; have Hbb := hid hbb; have Hgc := hid hgc; have Hnf := hid hnf; have Hnl := hid hnl
    have hrows := Hs.out.rows
    clear hbk hbb hgc hnf hnl fb0
    go_wp2_with fail
    go_loopw [4] (fun i wr => ∃ (n : Nat) (ov : Value), n ≤ c.rows.length ∧ i = .int .i64 n ∧ OwnG 1 elRowM (wc.heap.size) wr 23 ov (c.rows.take n) ∧ wr.heap[bk]? = some (.cells #[.int .i64 c.kind, .slice ufo c.vars.length ufc, .slice ulo c.args.length ulc, .int .i64 c.bound, ov] 41 (0, 0)) ∧ Gr [bk] wc wr) (fun i _ => c.rows.length - (intOf i).toNat)
    case atStart => exact ⟨0, _, Nat.zero_le _, rfl, by rw [List.take_zero]; exact OwnG.nil _ _ _, Hbb.out, Gr.refl _ _⟩
    case round =>
      obtain ⟨n, ov, hn, rfl, hown, hb, hg⟩ := hrel
      have hsg := hg.size; have hsc := Hgc.out.size; have hs0 := Hs0.out; have hbk := Hbk.out
      have hbw : bk < wc.heap.size := lt_of_block Hbb.out
      have hne : w.heap.size ≠ bk := by omega
      have hne' := hne.symm
      have hcc : wr.heap[w.heap.size]? = some (.cells #[.int .i64 c.kind, .slice vo c.vars.length vc, .slice ao c.args.length ac, .int .i64 c.bound, .slice ro c.rows.length rc] 41 (0, 0)) := hg.obj (Hgc.out.obj Hb0.out (by simp)) (by simp; omega)
      have hgw : Gr [] w wr := (Hg0.out.trans Hgc.out).step hg (fun i hi => .inr (by simp at hi; omega))
      have hov : ∀ b, ov.ownBlock = some b → wc.heap.size ≤ b := fun b h => (hown.own h).1
      have Hown := hid hown; have Hb := hid hb; have Hg := hid hg; have Hcc := hid hcc; have Hgw := hid hgw; have Hov := hid hov
      have fcc := fld hcc; have fbk := fld hb
      have hoc : (c.rows.take n).length = n := by rw [List.length_take]; omega
      clear hown hb hg hcc hgw hov
      by_cases hlt : n < c.rows.length
      · obtain ⟨r, hx⟩ := get_some hlt
        have hrm := List.mem_of_getElem? hx
        have hrs := Hs.out.row r hrm
        obtain ⟨b, oz, u, e1, hc0, hn0⟩ := H3.out.at0 hx
        subst e1
        have hbl : b < w.heap.size := World.block_lt_of_cell? w _ hc0
        obtain ⟨xo', xc', rfl, ⟨hx1, hx2, -⟩, -⟩ := id hn0
        have Hx := hid hx; have Hn0 := hid hn0; have Hc0 := hid hc0
        have hcr : wr.cell? ⟨b, oz + n, none⟩ = some (.slice xo' r.length xc') := Hgw.out.cell hc0 (by simp)
        clear hx hn0 hc0
        have HS : Hid (∀ W, Gr (bk :: ov.ownBlock.toList) wr W → (W.cell? ⟨w.heap.size, 4, none⟩ = some (.slice (some ⟨b, oz, none⟩) c.rows.length rc) ∧ W.cell? ⟨b, oz + n, none⟩ = some (.slice xo' r.length xc')) ∧ Gr (bk :: ov.ownBlock.toList) wr W) :=
          hid fun W h => ⟨⟨fld (h.obj Hcc.out (by simp; exact ⟨hne, fun h => by have := Hov.out _ h; omega⟩)) 4, h.cell hcr (by simp; exact ⟨by omega, fun h => by have := Hov.out _ h; omega⟩)⟩, h⟩
        have HBK : Hid (∀ W, Gr [] wr W → W.heap[bk]? = some (.cells #[.int .i64 c.kind, .slice ufo c.vars.length ufc, .slice ulo c.args.length ulc, .int .i64 c.bound, ov] 41 (0, 0))) := hid fun W h => h.obj Hb.out (by simp)
        go_wp2_with fail
        go_region_law (first
            | (go_simp; go_at_call 46; refine (copyInts_c _ r _ (Hn0.out.gr (Hgw.out.trans ((Gr.refl [] wr).drew))) hrs).mono ?_; rintro e w5 ⟨v5, rfl, ho5, hg5⟩; obtain ⟨uo, uc, rfl, -, -⟩ := ho5.nums' (S := []) (by simp); have hgx : Gr [] wr w5 := ((Gr.refl [] wr).drew).trans hg5; have hq5 : Gr (bk :: ov.ownBlock.toList) wr w5 := Gr.any hgx; have HGX := hid hgx; have Ho5 := hid (Own.numsM ho5); have HO5 := hid (Hown.out.gr elRowM_ok hgx (by simp)); have fb5 := fld (HBK.out _ hgx); have hs5 := hgx.size; have fa5 := fld (HBK.out _ (hgx.alloc (.cells #[.slice uo r.length uc] 23))); have Hown' := hid (fun b hb => Hown.out.own (b := b) hb); clear ho5 hg5 hgx)
            | (refine step_appH rfl _ _ 27 rfl 1 elRowM elRowM_ok wc.heap.size 23 (.slice none 0 0) 24 infoR rfl (by omega) (by omega) Tryz.underlying27 ov (c.rows.take n) rfl (HO5.out.gr elRowM_ok ((Gr.refl [] w5).alloc _) (by simp)) w5.heap.size 1 r [.slice uo r.length uc] rfl rfl (by simp [Value.oneCell']) (fun j q hj => by match j, hj with | 0, hj => (simp at hj; subst hj; exact cell_one _ _ _) | j + 1, hj => simp at hj) (fun S hS => ⟨_, rfl, Ho5.out.gr' ((Gr.refl [] w5).alloc _) (by simp) (fun b hlt hb hm => by rcases hS b hm with h | h | h; (have := hb.1; simp at this; omega); (simp at h; omega); (have := (Hown'.out b h).2; have := hb.1; simp at this; omega))⟩) (by omega) (by simp; omega) ?_; intro g7 c7 w7 hown7 hg7; have HO7 := hid hown7; have HG7 := hid hg7; have hq7 : Gr (bk :: ov.ownBlock.toList) wr w7 := Gr.trans (hq5.alloc _) (hg7.sub (fun k _ hk => by simp at hk ⊢; exact .inr hk)); have hr7 := hg7.obj (HBK.out _ (HGX.out.alloc _)) (fun hm => by have := Hov.out bk (by simpa using hm); omega); have Hr7 := hid hr7; have fb7 := fld hr7; have ff7 := fldF hr7; clear hown7 hg7 hr7))
        all_goals
          go_wp2_with fail
          refine ⟨⟨n + 1, .slice (some ⟨g7, 0, none⟩) (n + 1) c7, by omega, by go_num, ?_, ?_, ?_⟩, by simp [intOf]; omega⟩
          · rw [List.take_add_one, Hx.out]
            have := HO7.out.gr elRowM_ok (Gr.cell1 [bk] w7 ⟨bk, 4, none⟩ (.slice (some ⟨g7, 0, none⟩) (n + 1) c7) (by simp)) (by simp; omega)
            rw [hoc] at this
            exact this
          · have := block_cells (cur' := #[]) Hr7.out 4 (.slice (some ⟨g7, 0, none⟩) (n + 1) c7)
            simpa using this
          · exact (((Hg.out.trans (Gr.any HGX.out)).alloc _).step HG7.out (fun i hi => .inr (Hov.out _ (by simpa using hi)))).setCell _ _ (.inl (by simp))
      · have e1 : n = c.rows.length := by omega
        subst e1
        rw [List.take_length] at Hown
        have Hrows := hid (OwnG.rowsM Hown.out)
        obtain ⟨oo, oc, rfl, ho1, ho2, -⟩ := Hown.out.slice
        have hrr : wr.heap[w.heap.size + 1]? = some (.cells #[.int .i64 0, .slice none 0 0, .slice none 0 0, .int .i64 0, .slice none 0 0] 41 (0, 0)) := Hg.out.obj (Hgc.out.obj Hr0.out (by simp)) (by simp; omega)
        have Hrr := hid hrr; have frr := fld hrr; have ffr := fldF hrr
        clear hrr
        go_wp2_with fail
        have h5 := sets5 _ _ _ _ _ (.int .i64 c.kind) (.slice ufo c.vars.length ufc) (.slice ulo c.args.length ulc) (.int .i64 c.bound) (.slice oo c.rows.length oc) Hrr.out
        have hG := setsG (w := wr) (w.heap.size + 1) (.int .i64 c.kind) (.slice ufo c.vars.length ufc) (.slice ulo c.args.length ulc) (.int .i64 c.bound) (.slice oo c.rows.length oc)
        generalize (((((wr.setCell ⟨w.heap.size + 1, 0, none⟩ (.int .i64 c.kind)).setCell ⟨w.heap.size + 1, 1, none⟩ (.slice ufo c.vars.length ufc)).setCell ⟨w.heap.size + 1, 2, none⟩ (.slice ulo c.args.length ulc)).setCell ⟨w.heap.size + 1, 3, none⟩ (.int .i64 c.bound)).setCell ⟨w.heap.size + 1, 4, none⟩ (.slice oo c.rows.length oc)) = WE at h5 hG ⊢
        have flE := fld h5
        have hsE := hG.size
        refine bodyPost_ret (v := .agg #[.int .i64 c.kind, .slice ufo c.vars.length ufc, .slice ulo c.args.length ulc, .int .i64 c.bound, .slice oo c.rows.length oc]) ?_ rfl ?_
        · simp [results, Tryz.results141, go_sem, flE]
        · refine ⟨_, _, _, _, _, _, rfl, ⟨_, _, _, rfl, ?_, ?_, ?_⟩, Hgw.out.step hG (fun i hi => .inr (by simp at hi; omega))⟩
          · exact ((Hnf.out.gr' (M' := New (w.heap.size + 2) wr) Hg.out (fun b hb hm => hm.2 (by simpa using hb)) (fun b hl hm => ⟨by have := hm.1.1; omega, by have := hm.1.2; omega⟩)).gr' (M' := New w.heap.size WE) hG (fun b hb hm => by have := hm.1; simp at hb; omega) (fun b hl hm => ⟨by have := hm.1; omega, by have := hm.2; omega⟩))
          · exact ((Hnl.out.gr' (M' := New (w.heap.size + 2) wr) Hg.out (fun b hb hm => hm.2 (by simpa using hb)) (fun b hl hm => ⟨by have := hm.1.1; omega, by have := hm.1.2; omega⟩)).gr' (M' := New w.heap.size WE) hG (fun b hb hm => by have := hm.1; simp at hb; omega) (fun b hl hm => ⟨by have := hm.1; omega, by have := hm.2; omega⟩))
          · exact (Hrows.out.gr' (M' := New w.heap.size WE) hG (fun b hb hm => by have := hm.1; simp at hb; omega) (fun b hl hm => ⟨by have := hm.1; omega, by have := hm.2; omega⟩))

end Go.Proofs.YtihkeihnpiddoaaGreat

set_option linter.unusedVariables false
set_option linter.unusedSimpArgs false
namespace Go.Proofs.YtihkeihnpiddoaaGreat
open Go.RowKit

theorem set2 {w : World} {bk : Nat} {t : TypeId} (z0 z1 x0 x1 : Value) (h : w.heap[bk]? = some (.cells #[z0, z1] t (0, 0))) :
    ((w.setCell ⟨bk, 0, none⟩ x0).setCell ⟨bk, 1, none⟩ x1).heap[bk]? = some (.cells #[x0, x1] t (0, 0)) ∧ Gr [bk] w ((w.setCell ⟨bk, 0, none⟩ x0).setCell ⟨bk, 1, none⟩ x1) := by
  refine ⟨?_, ((Gr.refl _ _).setCell _ _ (.inl (by simp))).setCell _ _ (.inl (by simp))⟩
  have := block_cells (cur' := #[]) (block_cells (cur' := #[]) h 0 x0) 1 x1
  simpa using this

theorem OwnG.lowC {α : Type} {size : Nat} {el : List Nat → World → List Value → α → Prop} {B B' : Nat} {w : World} {e : TypeId} {v : Value} {xs : List α} (h : OwnG size el B w e v xs) (hB : B' ≤ B) : OwnG size el B' w e v xs := by
  obtain ⟨css, h1, h2, h3, h4⟩ := h
  refine ⟨css, h1, h2, ⟨h3.1, ?_⟩, fun i cs x hi hx S hS => h4 i cs x hi hx S fun b hb => (hS b hb).imp (fun h => by omega) id⟩
  rcases h3.2 with h | ⟨g, cap, cur, e1, hb, rest⟩
  · exact .inl h
  · exact .inr ⟨g, cap, cur, e1, by omega, rest⟩

set_option maxRecDepth 100000 in
set_option maxHeartbeats 4000000 in
theorem copyModel_g (m : Mod) (v : Value) (w : World) (hv : ModV [] w v m) (hs : m.Small) (hr9 : ∀ c ∈ m.cons, c.rows.length ≤ 1000) :
    Calls Tryz.prog 94 #[v] w fun e w' => ∃ xo xc co cc k, e = .returned (.agg #[.slice xo m.doms.length xc, .slice co m.cons.length cc]) ∧
      NumsM (fun b => New w.heap.size w' b ∧ b < k) w' (.slice xo m.doms.length xc) m.doms ∧ ConsM (fun b => New w.heap.size w' b ∧ k ≤ b) w' (.slice co m.cons.length cc) m.cons ∧ OwnG 5 elConM k w' 41 (.slice co m.cons.length cc) m.cons ∧ (w.heap.size ≤ k ∧ k ≤ w'.heap.size) ∧ Gr [] w w' := by
  obtain ⟨dv, cv, rfl, n1, n2⟩ := hv
  obtain ⟨xo, xc, rfl, -, -⟩ := id n1
  obtain ⟨co, cc, rfl, hcc, -⟩ := id n2
  have H1 := hid n1; have H2 := hid n2; have Hs := hid hs
  have hdl := hs.doms; have hcl := hs.cons
  have h20 := heap2 w (.cells #[.slice xo m.doms.length xc, .slice co m.cons.length cc] 26) (.cells #[.slice none 0 0, .slice none 0 0] 26)
  have hg0 : Gr [] w ((w.alloc (.cells #[.slice xo m.doms.length xc, .slice co m.cons.length cc] 26)).alloc (.cells #[.slice none 0 0, .slice none 0 0] 26)) := ((Gr.refl [] w).alloc _).alloc _
  have fb0 := fld h20.1
  have Hb0 := hid h20.1; have Hr0 := hid h20.2; have Hg0 := hid hg0
  have hs0 : ((w.alloc (.cells #[.slice xo m.doms.length xc, .slice co m.cons.length cc] 26)).alloc (.cells #[.slice none 0 0, .slice none 0 0] 26)).heap.size = w.heap.size + 2 := by simp
  clear n1 n2 hs h20 hg0
  go_enter Tryz.func94, Tryz.ntmps94
  go_wp2_with fail
  generalize hW0 : (w.alloc (.cells #[.slice xo m.doms.length xc, .slice co m.cons.length cc] 26)).alloc (.cells #[.slice none 0 0, .slice none 0 0] 26) = w0 at *
  clear hW0
  refine (copyInts_c _ m.doms _ (H1.out.gr Hg0.out) hdl).mono ?_
  rintro e wa ⟨va, rfl, hoa, hga⟩
  obtain ⟨ufo, ufc, rfl, -, -⟩ := hoa.nums' (S := []) (by simp)
  have Hoa := hid (Own.numsM hoa); have Hga := hid hga
  have hsa := hga.size
  have Hba := hid (hga.obj Hb0.out (by simp)); have Hra := hid (hga.obj Hr0.out (by simp))
  have fba := fld Hba.out
  clear hoa hga fb0 Hb0 Hr0
  go_wp2_with fail
  have hBc := heap_alloc_new wa (.cells #[.slice ufo m.doms.length ufc, .slice none 0 0] 26)
  have hGc := (Gr.refl [] wa).alloc (.cells #[.slice ufo m.doms.length ufc, .slice none 0 0] 26)
  have hsc : (wa.alloc (.cells #[.slice ufo m.doms.length ufc, .slice none 0 0] 26)).heap.size = wa.heap.size + 1 := by simp
  generalize hWc : wa.alloc (.cells #[.slice ufo m.doms.length ufc, .slice none 0 0] 26) = wc at *
  clear hWc
  have HBc := hid hBc; have HGc := hid hGc
  clear hBc hGc
  go_loopw [4] (fun i wr => ∃ (n : Nat) (ov : Value), n ≤ m.cons.length ∧ i = .int .i64 n ∧ OwnG 5 elConM (wc.heap.size) wr 41 ov (m.cons.take n) ∧ wr.heap[wa.heap.size]? = some (.cells #[.slice ufo m.doms.length ufc, ov] 26 (0, 0)) ∧ Gr [wa.heap.size] wc wr) (fun i _ => m.cons.length - (intOf i).toNat)
  case atStart => exact ⟨0, _, Nat.zero_le _, rfl, by rw [List.take_zero]; exact OwnG.nil _ _ _, HBc.out, Gr.refl _ _⟩
  case round =>
    obtain ⟨n, ov, hn, rfl, hown, hb, hg⟩ := hrel
    have hsg := hg.size
    have hne : w.heap.size ≠ wa.heap.size := by omega
    have hne' := hne.symm
    have hcc2 : wr.heap[w.heap.size]? = some (.cells #[.slice xo m.doms.length xc, .slice co m.cons.length cc] 26 (0, 0)) := hg.obj (HGc.out.obj Hba.out (by simp)) (by simp; omega)
    have hgw : Gr [] w wr := ((Hg0.out.trans Hga.out).trans HGc.out).step hg (fun i hi => .inr (by simp at hi; omega))
    have hov : ∀ b, ov.ownBlock = some b → wc.heap.size ≤ b := fun b h => (hown.own h).1
    have Hown := hid hown; have Hb := hid hb; have Hg := hid hg; have Hcc := hid hcc2; have Hgw := hid hgw; have Hov := hid hov
    have fcc := fld hcc2; have fbk := fld hb
    have hoc : (m.cons.take n).length = n := by rw [List.length_take]; omega
    clear hown hb hg hcc2 hgw hov
    by_cases hlt : n < m.cons.length
    · obtain ⟨c, hx⟩ := get_some hlt
      have hcm := List.mem_of_getElem? hx
      have hcs := Hs.out.con c hcm
      have hc9 := hr9 c hcm
      obtain ⟨b, oz, vo, vc, xo2, xc2, ro, rc, e1, -, ⟨k0, k1, k2, k3, k4⟩, hcv⟩ := H2.out.at2 hx
      subst e1
      have hbl : b < w.heap.size := World.block_lt_of_cell? w _ k0
      have Hx := hid hx; have Hcv := hid hcv; have Hcs := hid hcs
      have r0 := Hgw.out.cell k0 (by simp); have r1 := Hgw.out.cell k1 (by simp); have r2 := Hgw.out.cell k2 (by simp); have r3 := Hgw.out.cell k3 (by simp); have r4 := Hgw.out.cell k4 (by simp)
      clear hx hcv hcs k0 k1 k2 k3 k4
      have HS : Hid (∀ W, Gr (wa.heap.size :: ov.ownBlock.toList) wr W → (W.cell? ⟨w.heap.size, 1, none⟩ = some (.slice (some ⟨b, oz, none⟩) m.cons.length cc) ∧ W.cell? ⟨b, oz + n * 5, none⟩ = some (.int .i64 c.kind) ∧ W.cell? ⟨b, oz + n * 5 + 1, none⟩ = some (.slice vo c.vars.length vc) ∧ W.cell? ⟨b, oz + n * 5 + 2, none⟩ = some (.slice xo2 c.args.length xc2) ∧ W.cell? ⟨b, oz + n * 5 + 3, none⟩ = some (.int .i64 c.bound) ∧ W.cell? ⟨b, oz + n * 5 + 4, none⟩ = some (.slice ro c.rows.length rc)) ∧ Gr (wa.heap.size :: ov.ownBlock.toList) wr W) := by
        refine hid fun W h => ?_
        have hnb : b ∉ wa.heap.size :: ov.ownBlock.toList := by simp; exact ⟨by omega, fun h => by have := Hov.out _ h; omega⟩
        exact ⟨⟨fld (h.obj Hcc.out (by simp; exact ⟨hne, fun h => by have := Hov.out _ h; omega⟩)) 1, h.cell r0 hnb, h.cell r1 hnb, h.cell r2 hnb, h.cell r3 hnb, h.cell r4 hnb⟩, h⟩
      have HBK : Hid (∀ W, Gr [] wr W → W.heap[wa.heap.size]? = some (.cells #[.slice ufo m.doms.length ufc, ov] 26 (0, 0))) := hid fun W h => h.obj Hb.out (by simp)
      go_wp2_with fail
      go_region_law (first
          | (go_simp; go_at_call 141; refine (copyConstraint_c c _ _ (Hcv.out.gr (Hgw.out.trans ((Gr.refl [] wr).drew))) Hcs.out hc9).mono ?_; rintro e w5 ⟨uo, uc, po, pc, ro', rc', rfl, hm5, hg5⟩; have hgx : Gr [] wr w5 := ((Gr.refl [] wr).drew).trans hg5; have hq5 : Gr (wa.heap.size :: ov.ownBlock.toList) wr w5 := Gr.any hgx; have HGX := hid hgx; have Hm5 := hid hm5; have HO5 := hid (Hown.out.gr elConM_ok hgx (by simp)); have fb5 := fld (HBK.out _ hgx); have hs5 := hgx.size; have fa5 := fld (HBK.out _ (hgx.alloc (.cells #[.int .i64 c.kind, .slice uo c.vars.length uc, .slice po c.args.length pc, .int .i64 c.bound, .slice ro' c.rows.length rc'] 41))); have Hown' := hid (fun b hb => Hown.out.own (b := b) hb); clear hm5 hg5 hgx)
          | (refine step_appH rfl _ _ 24 rfl 5 elConM elConM_ok wc.heap.size 41 (.agg #[.int .i64 0, .slice none 0 0, .slice none 0 0, .int .i64 0, .slice none 0 0]) 88 infoC rfl (by omega) (by omega) Tryz.underlying24 ov (m.cons.take n) rfl (HO5.out.gr elConM_ok ((Gr.refl [] w5).alloc _) (by simp)) w5.heap.size 1 c [.int .i64 c.kind, .slice uo c.vars.length uc, .slice po c.args.length pc, .int .i64 c.bound, .slice ro' c.rows.length rc'] rfl rfl (by simp [Value.oneCell']) (fun j q hj => by rw [fld (heap_alloc_new w5 _) j]; simpa using hj) (fun S hS => ⟨_, _, _, _, _, _, rfl, Hm5.out.gr' ((Gr.refl [] w5).alloc _) (by simp) (fun b hlt hb hm => by rcases hS b hm with h | h | h; (have := hb.1; simp at this; omega); (simp at h; omega); (have := (Hown'.out b h).2; have := hb.1; simp at this; omega))⟩) (by omega) (by simp; omega) ?_; intro g7 c7 w7 hown7 hg7; have HO7 := hid hown7; have HG7 := hid hg7; have hq7 : Gr (wa.heap.size :: ov.ownBlock.toList) wr w7 := Gr.trans (hq5.alloc _) (hg7.sub (fun k _ hk => by simp at hk ⊢; exact .inr hk)); have hr7 := hg7.obj (HBK.out _ (HGX.out.alloc _)) (fun hm => by have := Hov.out wa.heap.size (by simpa using hm); omega); have Hr7 := hid hr7; have fb7 := fld hr7; have ff7 := fldF hr7; clear hown7 hg7 hr7))
      all_goals
        go_wp2_with fail
        refine ⟨⟨n + 1, .slice (some ⟨g7, 0, none⟩) (n + 1) c7, by omega, by go_num, ?_, ?_, ?_⟩, by simp [intOf]; omega⟩
        · rw [List.take_add_one, Hx.out]
          have := HO7.out.gr elConM_ok (Gr.cell1 [wa.heap.size] w7 ⟨wa.heap.size, 1, none⟩ (.slice (some ⟨g7, 0, none⟩) (n + 1) c7) (by simp)) (by simp; omega)
          rw [hoc] at this
          exact this
        · have := block_cells (cur' := #[]) Hr7.out 1 (.slice (some ⟨g7, 0, none⟩) (n + 1) c7)
          simpa using this
        · exact (((Hg.out.trans (Gr.any HGX.out)).alloc _).step HG7.out (fun i hi => .inr (Hov.out _ (by simpa using hi)))).setCell _ _ (.inl (by simp))
    · have e1 : n = m.cons.length := by omega
      subst e1
      rw [List.take_length] at Hown
      have Hcons := hid (OwnG.consM Hown.out)
      obtain ⟨oo, oc, rfl, ho1, ho2, -⟩ := Hown.out.slice
      have hrr : wr.heap[w.heap.size + 1]? = some (.cells #[.slice none 0 0, .slice none 0 0] 26 (0, 0)) := Hg.out.obj (HGc.out.obj Hra.out (by simp)) (by simp; omega)
      have Hrr := hid hrr; have frr := fld hrr; have ffr := fldF hrr
      clear hrr
      go_wp2_with fail
      have h5 := set2 _ _ (.slice ufo m.doms.length ufc) (.slice oo m.cons.length oc) Hrr.out
      generalize ((wr.setCell ⟨w.heap.size + 1, 0, none⟩ (.slice ufo m.doms.length ufc)).setCell ⟨w.heap.size + 1, 1, none⟩ (.slice oo m.cons.length oc)) = WE at h5 ⊢
      obtain ⟨h5, hG⟩ := h5
      have flE := fld h5
      have hsE := hG.size
      have hgC := HGc.out.size
      refine bodyPost_ret (v := .agg #[.slice ufo m.doms.length ufc, .slice oo m.cons.length oc]) ?_ rfl ?_
      · simp [results, Tryz.results94, go_sem, flE]
      · have HownX := Hown.out
        refine ⟨_, _, _, _, wa.heap.size, rfl, ?_, ?_, (OwnG.lowC (HownX.gr elConM_ok hG (by simp; omega)) (by omega)), ⟨by omega, by omega⟩, Hgw.out.step hG (fun i hi => .inr (by simp at hi; omega))⟩
        · exact ((Hoa.out.gr' (M' := fun b => New w0.heap.size wr b ∧ b < wa.heap.size) ((Gr.any HGc.out).trans Hg.out) (fun b hb hm => by have := hm.2; simp at hb; omega) (fun b hl hm => ⟨⟨hm.1, by have := hm.2; omega⟩, by have := hm.2; omega⟩)).gr' (M' := fun b => New w.heap.size WE b ∧ b < wa.heap.size) hG (fun b hb hm => by have := hm.1.1; simp at hb; omega) (fun b hl hm => ⟨⟨by have := hm.1.1; omega, by have := hm.1.2; omega⟩, hm.2⟩))
        · exact Hcons.out.gr' (M' := fun b => New w.heap.size WE b ∧ wa.heap.size ≤ b) hG (fun b hb hm => by have := hm.1; simp at hb; omega) (fun b hl hm => ⟨⟨by have := hm.1; omega, by have := hm.2; omega⟩, by have := hm.1; omega⟩)
theorem copyModel_s (m : Mod) (v : Value) (w : World) (hv : ModV [] w v m) (hs : m.Small) (hr9 : ∀ c ∈ m.cons, c.rows.length ≤ 1000) :
    Calls Tryz.prog 94 #[v] w fun e w' => ∃ xo xc co cc k, e = .returned (.agg #[.slice xo m.doms.length xc, .slice co m.cons.length cc]) ∧
      NumsM (fun b => New w.heap.size w' b ∧ b < k) w' (.slice xo m.doms.length xc) m.doms ∧ ConsM (fun b => New w.heap.size w' b ∧ k ≤ b) w' (.slice co m.cons.length cc) m.cons ∧ Gr [] w w' := by
  refine (copyModel_g m v w hv hs hr9).mono ?_
  rintro e w' ⟨xo, xc, co, cc, k, rfl, h1, h2, -, -, hg⟩
  exact ⟨xo, xc, co, cc, k, rfl, h1, h2, hg⟩
theorem copyModel_c (m : Mod) (v : Value) (w : World) (hv : ModV [] w v m) (hs : m.Small) (hr9 : ∀ c ∈ m.cons, c.rows.length ≤ 1000) :
    Calls Tryz.prog 94 #[v] w fun e w' => ∃ xo xc co cc, e = .returned (.agg #[.slice xo m.doms.length xc, .slice co m.cons.length cc]) ∧
      ModM (New w.heap.size w') w' (.agg #[.slice xo m.doms.length xc, .slice co m.cons.length cc]) m ∧ Gr [] w w' := by
  refine (copyModel_s m v w hv hs hr9).mono ?_
  rintro e w' ⟨xo, xc, co, cc, k, rfl, h1, h2, hg⟩
  exact ⟨xo, xc, co, cc, rfl, ⟨_, _, rfl, h1.gr' (Gr.refl [] _) (by simp) (fun b _ h => h.1), h2.gr' (Gr.refl [] _) (by simp) (fun b _ h => h.1)⟩, hg⟩

end Go.Proofs.YtihkeihnpiddoaaGreat
