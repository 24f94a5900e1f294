/-
  Walks of deep copies: a constraint's, a model's; the program's and the reference's.
-/
import Derived.Test.YtngpcoilgilmjaaEE
import Derived.Test.YtngpcoilgilmjaaM1
import Derived.Deep.RegionHeld3
import Derived.Deep.RegionLaw
set_option linter.unusedVariables false
namespace Go.Proofs.Ytngpcoilgilmjaa
open Go.RowKit

/-! ### Lists whose elements lead to memory of the list's own -/
def elRowM (S : List Nat) (w : World) (cs : List Value) (r : List Int) : Prop := ∃ u, cs = [u] ∧ NumsM (fun b => b ∉ S) w u r
theorem elRowM_ok : ElOk elRowM :=
  ⟨fun ⟨u, e, h⟩ hg => ⟨u, e, h.gr' hg (fun b hb h => h hb) (fun b _ h => h)⟩,
   fun ⟨u, e, h⟩ hs => ⟨u, e, h.move fun a v hM hc => ⟨hc, rfl, fun hm => hM (hs _ (World.block_lt_of_cell? _ a hc) hm)⟩⟩⟩
def elConM (S : List Nat) (w : World) (cs : List Value) (c : Con) : Prop :=
  ∃ vo vc xo xc ro rc, cs = [.int .i64 c.kind, .slice vo c.vars.length vc, .slice xo c.args.length xc, .int .i64 c.bound, .slice ro c.rows.length rc] ∧
    ConM (fun b => b ∉ S) w (.agg #[.int .i64 c.kind, .slice vo c.vars.length vc, .slice xo c.args.length xc, .int .i64 c.bound, .slice ro c.rows.length rc]) c
theorem elConM_ok : ElOk elConM :=
  ⟨fun ⟨a1, a2, a3, a4, a5, a6, e, h⟩ hg => ⟨a1, a2, a3, a4, a5, a6, e, h.gr' hg (fun b hb h => h hb) (fun b _ h => h)⟩,
   fun ⟨a1, a2, a3, a4, a5, a6, e, h⟩ hs => ⟨a1, a2, a3, a4, a5, a6, e, h.move fun a v hM hc => ⟨hc, rfl, fun hm => hM (hs _ (World.block_lt_of_cell? _ a hc) hm)⟩⟩⟩
theorem not_in_low {B g b : Nat} (h : b ∉ List.range B ++ [g]) : B ≤ b ∧ b ≠ g := by
  simp only [List.mem_append, List.mem_range, List.mem_singleton, not_or] at h
  omega
theorem OwnG.rowsM {B : Nat} {w : World} {e : TypeId} {v : Value} {rows : List (List Int)} (h : OwnG 1 elRowM B w e v rows) : RowsM (New B w) w v rows := by
  obtain ⟨ao, cap, rfl, h1, h2, h3⟩ := h.slice
  refine ⟨ao, cap, rfl, ⟨h1, h2, h3⟩, fun i r hi => ?_⟩
  obtain ⟨g, cap', cs, e1, hb, hlt, hl, hc, hf, hel⟩ := h.cell hi
  cases e1
  obtain ⟨u, rfl, hn⟩ := hel (List.range B ++ [g]) (fun b hb => by
    rcases List.mem_append.1 hb with h | h
    · exact .inl (List.mem_range.1 h)
    · exact .inr (.inr (by simpa using h)))
  refine ⟨g, 0, u, rfl, ⟨hb, hlt⟩, by have := hc 0 u rfl; simpa using this, by simpa using hf i, hn.move fun a v hM hcell => ⟨hcell, rfl, ⟨⟨(not_in_low hM).1, World.block_lt_of_cell? _ a hcell⟩, (not_in_low hM).2⟩⟩⟩
theorem OwnG.consM {B : Nat} {w : World} {e : TypeId} {v : Value} {cs : List Con} (h : OwnG 5 elConM B w e v cs) : ConsM (New B w) w v cs := by
  obtain ⟨ao, cap, rfl, h1, h2, h3⟩ := h.slice
  refine ⟨ao, cap, rfl, ⟨h1, h2, h3⟩, fun i c hi => ?_⟩
  obtain ⟨g, cap', cs', e1, hb, hlt, hl, hc, hf, hel⟩ := h.cell hi
  cases e1
  obtain ⟨vo, vc, xo, xc, ro, rc, rfl, hn⟩ := hel (List.range B ++ [g]) (fun b hb => by
    rcases List.mem_append.1 hb with h | h
    · exact .inl (List.mem_range.1 h)
    · exact .inr (.inr (by simpa using h)))
  obtain ⟨vv, av, rv, e2, n1, n2, n3⟩ := hn
  simp only [Value.agg.injEq] at e2
  have e3 := congrArg (fun a => a[1]?) e2
  have e4 := congrArg (fun a => a[2]?) e2
  have e5 := congrArg (fun a => a[4]?) e2
  simp only [List.getElem?_toArray, List.getElem?_cons_succ, List.getElem?_cons_zero, Option.some.injEq] at e3 e4 e5
  subst e3 e4 e5
  have hm : ∀ a v, (fun b => b ∉ List.range B ++ [g]) a.block → w.cell? a = some v → w.cell? a = some v ∧ w.frozen? a = w.frozen? a ∧ but (New B w) g a.block :=
    fun a v hM hcell => ⟨hcell, rfl, ⟨⟨(not_in_low hM).1, World.block_lt_of_cell? _ a hcell⟩, (not_in_low hM).2⟩⟩
  have c0 := hc 0 _ rfl
  have c1 := hc 1 _ rfl
  have c2 := hc 2 _ rfl
  have c3 := hc 3 _ rfl
  have c4 := hc 4 _ rfl
  simp only [Nat.zero_add, Nat.add_zero] at c0 c1 c2 c3 c4
  refine ⟨g, 0, _, _, _, rfl, ⟨hb, hlt⟩, ⟨?_, ?_, ?_, ?_, ?_⟩, hf, n1.move hm, n2.move hm, n3.move hm⟩ <;> (first | simpa using c0 | simpa [Nat.add_assoc] using c1 | simpa [Nat.add_assoc] using c2 | simpa [Nat.add_assoc] using c3 | simpa [Nat.add_assoc] using c4)

/-- 'make([]T, 0, n)', of whatever elements. -/
theorem wp_mk0G {α : Type} {P : Program} {w : World} {ops : Array Oper} {rest : List Oper} {o : Oper} {a : Act} {Q : Exit → Act → World → Prop} (hgd : o.guard = none) (l c : Operand) (t : TypeId)
    (ho : o.op = Op.makeSlice t l c) (size : Nat) (el : List Nat → World → List Value → α → Prop) (B : Nat) (e : TypeId) (z : Value) (bytes : Nat) (hinfo : (P.info? e).map (fun i => (i.zero, i.size, i.bytes)) = some (some z, size, bytes)) (hby : bytes ≤ 100)
    (ht : P.underlying t = some (.slice e)) (n : Nat) (hl : a.eval l = .int .i64 0) (hc : a.eval c = .int .i64 (n : Int)) (hn : n ≤ 1000000000) (hB : B ≤ w.heap.size)
    (h : ∀ w', OwnG size el B w' e (.slice (some ⟨w.heap.size, 0, none⟩) 0 n) ([] : List α) → Gr [] w w' → wpList P ops Q rest (a.put o.dst (.slice (some ⟨w.heap.size, 0, none⟩) 0 n)) w') : wpList P ops Q (o :: rest) a w := by
  obtain ⟨i0, hi, hz0, hz1, hz2⟩ := info_parts hinfo
  have hbb : bytes * n ≤ 100 * n := Nat.mul_le_mul_right _ hby
  refine wpList_make_own w hgd l c t ho B e i0 z size ht hi hz0 hz1 .i64 .i64 n n hl hc rfl (by rw [hz2]; omega) (by simp only [maxLen]; omega) hB ?_
  intro w' hown hg
  exact h w' ⟨[], rfl, by simp, by simpa using hown, by simp⟩ ((Gr.refl _ _).grown hg (by simp))

/-- 'append(out, x)' on a list of the call's own, a longer one. -/
theorem wp_appH {α : Type} {P : Program} {w : World} {ops : Array Oper} {rest : List Oper} {o : Oper} {a : Act} {Q : Exit → Act → World → Prop} (hgd : o.guard = none) (s x : Operand) (t : TypeId)
    (ho : o.op = .call { callee := .builtin .append, args := #[s, x], argTypes := #[t, t] }) (size : Nat) (el : List Nat → World → List Value → α → Prop) (ok : ElOk el) (B : Nat) (e : TypeId) (z : Value) (bytes : Nat)
    (hinfo : (P.info? e).map (fun i => (i.zero, i.size, i.bytes)) = some (some z, size, bytes)) (hzs : z.cells.size = size) (hsz : 0 < size) (hby : bytes ≤ 100)
    (ht : P.underlying t = some (.slice e)) (v : Value) (xs : List α) (hs : a.eval s = v) (hown : OwnG size el B w e v xs) (g c : Nat) (y : α) (cs : List Value) (hx : a.eval x = .slice (some ⟨g, 0, none⟩) 1 c)
    (hl : cs.length = size) (h1 : ∀ u ∈ cs, u.oneCell' = true) (hn : ∀ j u, cs[j]? = some u → w.cell? ⟨g, j, none⟩ = some u) (hel : ∀ S : List Nat, (∀ b ∈ S, b < B ∨ w.heap.size ≤ b ∨ v.ownBlock = some b) → el S w cs y)
    (hlen : xs.length ≤ 10000000) (hB : B ≤ w.heap.size)
    (h : ∀ v' w', OwnG size el B w' e v' (xs ++ [y]) → Gr v.ownBlock.toList w w' → wpList P ops Q rest (a.put o.dst v') w') : wpList P ops Q (o :: rest) a w := by
  obtain ⟨css, k1, k2, k3, k4⟩ := hown
  obtain ⟨i0, hi, hz0, hz1, hz2⟩ := info_parts hinfo
  have hbb : (xs.length + 1) * bytes ≤ (xs.length + 1) * 100 := Nat.mul_le_mul_left _ hby
  refine wpList_append_lies w hgd s x t ho B e i0 z size bytes ht hi hz0 hz1 hz2 hzs hsz v xs.length css.flatten hs k3 ⟨g, 0, none⟩ 1 c cs hx (by rw [hl]; simp) ?_ h1 (by omega) (by simp only [maxLen]; omega) (by omega) hB w.heap.size rfl ?_
  · intro j u hj
    have : (⟨g, 0, none⟩ : Addr).add j = ⟨g, j, none⟩ := by unfold Addr.add; split <;> simp_all
    rw [this]; exact hn j u hj
  · intro g' cap' w' hown' hgrow hwhere hlt
    have hgr : Gr v.ownBlock.toList w w' := ⟨hgrow.os, hgrow.tape, hgrow.output, hgrow.size, fun k hk hs => hgrow.block k hk (fun e => hs (by rw [← e]; simp))⟩
    refine h _ _ ⟨css ++ [cs], by simp [k1], ?_, ?_, ?_⟩ hgr
    · intro c hc
      rcases List.mem_append.1 hc with hc | hc
      · exact k2 c hc
      · simp at hc; subst hc; exact ⟨hl, h1⟩
    · rw [List.flatten_append]; simpa using hown'
    · have hcond : ∀ S : List Nat, (∀ b ∈ S, b < B ∨ w'.heap.size ≤ b ∨ (Value.slice (some ⟨g', 0, none⟩) (xs.length + 1) cap').ownBlock = some b) → ∀ b ∈ v.ownBlock.toList ++ S, b < B ∨ w.heap.size ≤ b ∨ v.ownBlock = some b := by
        intro S hS b hb
        rcases List.mem_append.1 hb with hb | hb
        · exact .inr (.inr (by simpa using hb))
        · rcases hS b hb with h | h | h
          · exact .inl h
          · exact .inr (.inl (Nat.le_trans hgr.size h))
          · simp [Value.ownBlock] at h
            subst h
            rcases hwhere with h | h
            · exact .inr (.inr h)
            · exact .inr (.inl (by omega))
      intro i c' x' hc hx' S hS
      have fin : ∀ c'' x'', el (v.ownBlock.toList ++ S) w c'' x'' → el S w' c'' x'' := fun c'' x'' h0 =>
        ok.sub (ok.gr h0 (hgr.sub (fun k _ hk => by simp at hk ⊢; exact .inl hk))) (fun b _ hb => by simp [hb])
      by_cases hlt : i < xs.length
      · rw [List.getElem?_append_left (by omega)] at hc
        rw [List.getElem?_append_left hlt] at hx'
        exact fin _ _ (k4 i c' x' hc hx' _ (hcond S hS))
      · have hi' : i = xs.length := by
          have := (List.getElem?_eq_some_iff.1 hx').1
          simp at this; omega
        subst hi'
        rw [List.getElem?_append_right (by omega), k1, Nat.sub_self] at hc
        rw [List.getElem?_append_right (by omega), Nat.sub_self] at hx'
        simp at hc hx'
        subst hc hx'
        exact fin _ _ (hel _ (hcond S hS))

theorem step_appH {α : Type} {P : Program} {w : World} {ops : Array Oper} {o : Oper} {a : Act} {K : Act → World → Prop} {Q : Exit → Act → World → Prop} {E : Prop} (hgd : o.guard = none) (s x : Operand) (t : TypeId)
    (ho : o.op = .call { callee := .builtin .append, args := #[s, x], argTypes := #[t, t] }) (size : Nat) (el : List Nat → World → List Value → α → Prop) (ok : ElOk el) (B : Nat) (e : TypeId) (z : Value) (bytes : Nat)
    (hinfo : (P.info? e).map (fun i => (i.zero, i.size, i.bytes)) = some (some z, size, bytes)) (hzs : z.cells.size = size) (hsz : 0 < size) (hby : bytes ≤ 100)
    (ht : P.underlying t = some (.slice e)) (v : Value) (xs : List α) (hs : a.eval s = v) (hown : OwnG size el B w e v xs) (g c : Nat) (y : α) (cs : List Value) (hx : a.eval x = .slice (some ⟨g, 0, none⟩) 1 c)
    (hl : cs.length = size) (h1 : ∀ u ∈ cs, u.oneCell' = true) (hn : ∀ j u, cs[j]? = some u → w.cell? ⟨g, j, none⟩ = some u) (hel : ∀ S : List Nat, (∀ b ∈ S, b < B ∨ w.heap.size ≤ b ∨ v.ownBlock = some b) → el S w cs y)
    (hlen : xs.length ≤ 10000000) (hB : B ≤ w.heap.size)
    (h : ∀ g' c' w', OwnG size el B w' e (.slice (some ⟨g', 0, none⟩) (xs.length + 1) c') (xs ++ [y]) → Gr v.ownBlock.toList w w' → K (a.put o.dst (.slice (some ⟨g', 0, none⟩) (xs.length + 1) c')) w') : if Region.wanted o (yielded ops a.tmps) = true then Oper.wp P o a w K Q else E := by
  obtain ⟨css, k1, k2, k3, k4⟩ := hown
  obtain ⟨i0, hi, hz0, hz1, hz2⟩ := info_parts hinfo
  have hbb : (xs.length + 1) * bytes ≤ (xs.length + 1) * 100 := Nat.mul_le_mul_left _ hby
  refine step_append_lies w hgd s x t ho B e i0 z size bytes ht hi hz0 hz1 hz2 hzs hsz v xs.length css.flatten hs k3 ⟨g, 0, none⟩ 1 c cs hx (by rw [hl]; simp) ?_ h1 (by omega) (by simp only [maxLen]; omega) (by omega) hB w.heap.size rfl ?_
  · intro j u hj
    have : (⟨g, 0, none⟩ : Addr).add j = ⟨g, j, none⟩ := by unfold Addr.add; split <;> simp_all
    rw [this]; exact hn j u hj
  · intro g' cap' w' hown' hgrow hwhere hlt
    have hgr : Gr v.ownBlock.toList w w' := ⟨hgrow.os, hgrow.tape, hgrow.output, hgrow.size, fun k hk hs => hgrow.block k hk (fun e => hs (by rw [← e]; simp))⟩
    refine h _ _ _ ⟨css ++ [cs], by simp [k1], ?_, ?_, ?_⟩ hgr
    · intro c hc
      rcases List.mem_append.1 hc with hc | hc
      · exact k2 c hc
      · simp at hc; subst hc; exact ⟨hl, h1⟩
    · rw [List.flatten_append]; simpa using hown'
    · have hcond : ∀ S : List Nat, (∀ b ∈ S, b < B ∨ w'.heap.size ≤ b ∨ (Value.slice (some ⟨g', 0, none⟩) (xs.length + 1) cap').ownBlock = some b) → ∀ b ∈ v.ownBlock.toList ++ S, b < B ∨ w.heap.size ≤ b ∨ v.ownBlock = some b := by
        intro S hS b hb
        rcases List.mem_append.1 hb with hb | hb
        · exact .inr (.inr (by simpa using hb))
        · rcases hS b hb with h | h | h
          · exact .inl h
          · exact .inr (.inl (Nat.le_trans hgr.size h))
          · simp [Value.ownBlock] at h
            subst h
            rcases hwhere with h | h
            · exact .inr (.inr h)
            · exact .inr (.inl (by omega))
      intro i c' x' hc hx' S hS
      have fin : ∀ c'' x'', el (v.ownBlock.toList ++ S) w c'' x'' → el S w' c'' x'' := fun c'' x'' h0 =>
        ok.sub (ok.gr h0 (hgr.sub (fun k _ hk => by simp at hk ⊢; exact .inl hk))) (fun b _ hb => by simp [hb])
      by_cases hlt : i < xs.length
      · rw [List.getElem?_append_left (by omega)] at hc
        rw [List.getElem?_append_left hlt] at hx'
        exact fin _ _ (k4 i c' x' hc hx' _ (hcond S hS))
      · have hi' : i = xs.length := by
          have := (List.getElem?_eq_some_iff.1 hx').1
          simp at this; omega
        subst hi'
        rw [List.getElem?_append_right (by omega), k1, Nat.sub_self] at hc
        rw [List.getElem?_append_right (by omega), Nat.sub_self] at hx'
        simp at hc hx'
        subst hc hx'
        exact fin _ _ (hel _ (hcond S hS))

theorem OwnG.own {α : Type} {size : Nat} {el : List Nat → World → List Value → α → Prop} {B : Nat} {w : World} {e : TypeId} {v : Value} {xs : List α} (h : OwnG size el B w e v xs) {b : Nat} (hb : v.ownBlock = some b) : B ≤ b ∧ b < w.heap.size := by
  obtain ⟨css, _, _, h3, _⟩ := h
  exact ownsRow_ownBlock h3 hb
theorem heap2 (w : World) (a b : Obj) : ((w.alloc a).alloc b).heap[w.heap.size]? = some a ∧ ((w.alloc a).alloc b).heap[w.heap.size + 1]? = some b := by
  refine ⟨((Gr.refl [] (w.alloc a)).alloc b).obj (heap_alloc_new _ _) (by simp), ?_⟩
  have := heap_alloc_new (w.alloc a) b
  rwa [World.size_alloc] at this

set_option maxRecDepth 100000 in
set_option maxHeartbeats 2000000 in
theorem conCopied_c (c : Con) (v : Value) (w : World) (hv : ConV [] w v c) (hs : c.Small) :
    Calls Try.prog 115 #[v] w fun e w' => ∃ v', e = .returned v' ∧ ConM (New w.heap.size w') w' v' c ∧ Gr [] w w' := by
  obtain ⟨vo, vc, ao, ac, ro, rc, rfl, n1, n2, n3⟩ := hv.open
  have H1 := hid n1; have H2 := hid n2; have H3 := hid n3; have Hs := hid hs
  have hrl := hs.rows
  obtain ⟨hr1, hr2⟩ : c.rows.length ≤ rc ∧ rc ≤ 9223372036854775807 := by
    obtain ⟨_, _, e, ⟨h1, h2, -⟩, -⟩ := id n3
    simp only [Value.slice.injEq] at e
    omega
  have h20 := heap2 w (.cells #[.int .i64 c.kind, .slice vo c.vars.length vc, .slice ao c.args.length ac, .int .i64 c.bound, .slice ro c.rows.length rc] 26) (.cells #[.int .i64 0, .slice none 0 0, .slice none 0 0, .int .i64 0, .slice none 0 0] 26)
  have hg0 : Gr [] w ((w.alloc (.cells #[.int .i64 c.kind, .slice vo c.vars.length vc, .slice ao c.args.length ac, .int .i64 c.bound, .slice ro c.rows.length rc] 26)).alloc (.cells #[.int .i64 0, .slice none 0 0, .slice none 0 0, .int .i64 0, .slice none 0 0] 26)) := ((Gr.refl [] w).alloc _).alloc _
  have fb0 := fld h20.1; have fr0 := fld h20.2
  have Hb0 := hid h20.1; have Hr0 := hid h20.2; have Hg0 := hid hg0
  clear n1 n2 n3 hv hs h20 hg0
  go_enter Try.func115, Try.ntmps115
  go_wp2_with (at_make; refine wp_mk0G rfl _ _ 24 rfl 1 elRowM (w.heap.size + 2) 23 (.slice none 0 0) 24 infoR (by omega) Try.underlying24 c.rows.length rfl rfl (by omega) (by simp) ?_; intro w1 hown1 hg1; have HO1 := hid hown1; have Hb1 := hid (hg1.obj Hb0.out (by simp)); have Hr1 := hid (hg1.obj Hr0.out (by simp)); have HG1 := hid (Hg0.out.trans hg1); have fb1 := fld Hb1.out; clear hown1 hg1)
  clear fb0 fr0 Hb0 Hr0 Hg0
  go_loopw [3, 13] (fun o i wr => ∃ (n : Nat) (ov : Value), n ≤ c.rows.length ∧ i = .int .i64 n ∧ ov = o ∧ OwnG 1 elRowM (w.heap.size + 2) wr 23 ov (c.rows.take n) ∧ wr.heap[w.heap.size]? = some (.cells #[.int .i64 c.kind, .slice vo c.vars.length vc, .slice ao c.args.length ac, .int .i64 c.bound, .slice ro c.rows.length rc] 26 (0, 0)) ∧
      wr.heap[w.heap.size + 1]? = some (.cells #[.int .i64 0, .slice none 0 0, .slice none 0 0, .int .i64 0, .slice none 0 0] 26 (0, 0)) ∧ Gr [] w wr) (fun _ i _ => c.rows.length - (intOf i).toNat)
  case atStart => exact ⟨0, _, Nat.zero_le _, rfl, rfl, by rw [List.take_zero]; simpa using HO1.out, Hb1.out, Hr1.out, HG1.out⟩
  case round =>
    obtain ⟨n, ov, hn, rfl, rfl, hown, hb, hr, hg⟩ := hrel
    have hsz := lt_of_block hr
    have fbr := fld hb
    have Hown := hid hown; have Hb := hid hb; have Hr := hid hr; have Hg := hid hg
    have hoc : (c.rows.take n).length = n := by rw [List.length_take]; omega
    clear hown hb hr hg fb1
    by_cases hlt : n < c.rows.length
    · obtain ⟨r, hx⟩ := get_some hlt
      have hrm := List.mem_of_getElem? hx
      have hrs := Hs.out.row r hrm
      obtain ⟨b, oz, u, e1, hc0, hn0⟩ := ((H3.out.gr Hg.out).at0 hx)
      subst e1
      obtain ⟨xo', xc', rfl, ⟨hx1, hx2, -⟩, -⟩ := id hn0
      have Hx := hid hx; have Hn0 := hid hn0
      have hi' : n ≤ 2000000 := by omega
      clear hx hn0
      go_wp2_with fail
      have hcall := copied_c _ r wr Hn0.out hrs
      (with_reducible refine hcall.mono ?_)
      clear hcall
      rintro e w5 ⟨v5, rfl, ho5, hg5⟩
      obtain ⟨uo, uc, rfl, -, -⟩ := ho5.nums' (S := []) (by simp)
      have Ho5 := hid (OwnC.numsM ho5); have Hg5 := hid hg5
      have hs5 := hg5.size
      have HO5 := hid (Hown.out.gr elRowM_ok hg5 (by simp))
      have Hb5 := hid (hg5.obj Hb.out (by simp)); have Hr5 := hid (hg5.obj Hr.out (by simp))
      have Hown' := hid (fun b hb => Hown.out.own (b := b) hb)
      clear ho5 hg5 fbr hc0
      go_wp2_with (at_builtin; go_loud (refine wp_appH rfl _ _ 24 rfl 1 elRowM elRowM_ok (w.heap.size + 2) 23 (.slice none 0 0) 24 infoR rfl (by omega) (by omega) Try.underlying24 ov (c.rows.take n) rfl (HO5.out.gr elRowM_ok ((Gr.refl [] w5).alloc _) (by simp)) w5.heap.size 1 r [.slice uo r.length uc] rfl rfl (by simp [Value.oneCell']) (fun j q hj => by match j, hj with | 0, hj => (simp at hj; subst hj; exact cell_one _ _ _) | j + 1, hj => simp at hj) (fun S hS => ⟨_, rfl, Ho5.out.gr' ((Gr.refl [] w5).alloc _) (by simp) (fun b hlt hb hm => by rcases hS b hm with h | h | h; (have := hb.1; omega); (simp at h; omega); (have := (Hown'.out b h).2; have := hb.1; omega))⟩) (by omega) (by simp; omega) ?_; intro v7 w7 hown7 hg7; have HO7 := hid hown7; have HG7 := hid hg7; clear hown7 hg7))
      have hown7' : ∀ b ∈ ov.ownBlock.toList, w.heap.size + 2 ≤ b := fun b hb => (Hown'.out b (by simpa using hb)).1
      have Hown7' := hid hown7'
      clear hown7'
      refine ⟨⟨n + 1, _, by omega, by go_num, rfl, ?_, ?_, ?_, ?_⟩, by simp [intOf]; omega⟩
      · rw [List.take_add_one, Hx.out]; exact HO7.out
      · exact HG7.out.obj (((Gr.refl [] w5).alloc _).obj Hb5.out (by simp)) (fun hm => by have := Hown7'.out _ hm; omega)
      · exact HG7.out.obj (((Gr.refl [] w5).alloc _).obj Hr5.out (by simp)) (fun hm => by have := Hown7'.out _ hm; omega)
      · exact ((Hg.out.trans Hg5.out).alloc _).step HG7.out (fun i hi => .inr (by have := Hown7'.out _ hi; omega))
    · have e1 : n = c.rows.length := by omega
      subst e1
      rw [List.take_length] at Hown
      have Hrows := hid (OwnG.rowsM Hown.out)
      obtain ⟨oo, oc, rfl, ho1, ho2, -⟩ := Hown.out.slice
      have HS : Hid (∀ w', Gr [w.heap.size + 1] wr w' → (w'.cell? ⟨w.heap.size, 0, none⟩ = some (.int .i64 c.kind) ∧ w'.cell? ⟨w.heap.size, 1, none⟩ = some (.slice vo c.vars.length vc) ∧ w'.cell? ⟨w.heap.size, 2, none⟩ = some (.slice ao c.args.length ac) ∧ w'.cell? ⟨w.heap.size, 3, none⟩ = some (.int .i64 c.bound)) ∧ Gr [w.heap.size + 1] wr w') :=
        hid fun w' h => ⟨⟨fld (h.obj Hb.out (by simp)) 0, fld (h.obj Hb.out (by simp)) 1, fld (h.obj Hb.out (by simp)) 2, fld (h.obj Hb.out (by simp)) 3⟩, h⟩
      clear fbr
      go_wp2_with fail
      go_region_held3 (fun w' => (w'.cell? ⟨w.heap.size, 0, none⟩ = some (.int .i64 c.kind) ∧ w'.cell? ⟨w.heap.size, 1, none⟩ = some (.slice vo c.vars.length vc) ∧ w'.cell? ⟨w.heap.size, 2, none⟩ = some (.slice ao c.args.length ac) ∧ w'.cell? ⟨w.heap.size, 3, none⟩ = some (.int .i64 c.bound)) ∧ Gr [w.heap.size + 1] wr w')
        (first | exact HS.out _ ((Gr.refl _ _).drew) | (go_split_ands; exact HS.out _ (Gr.trans (by assumption) (Gr.any hg7))) | (go_split_ands; exact HS.out _ (Gr.trans (by assumption) (Gr.any hg6))) | (go_split_ands; refine HS.out _ (Gr.setCell (Gr.setCell (Gr.setCell (Gr.setCell (Gr.setCell ?_ _ _ (.inl (by simp))) _ _ (.inl (by simp))) _ _ (.inl (by simp))) _ _ (.inl (by simp))) _ _ (.inl (by simp))); assumption))
        (first
          | (go_at_call 67; go_split_ands; refine (copied_c _ c.vars _ (H1.out.gr (Hg.out.step (by assumption) (fun i hi => .inr (by simp at hi; omega)))) Hs.out.vars).mono ?_; rintro e w6 ⟨v6, rfl, ho6, hg6⟩; obtain ⟨uo, uc, rfl, -, -⟩ := ho6.nums' (S := []) (by simp); have Ho6 := hid ((OwnC.numsM ho6).gr' (M' := New wr.heap.size w6) (Gr.refl [] _) (by simp) (fun b hb h => h.le (Gr.size (S := [w.heap.size + 1]) (by assumption)) (Nat.le_refl _))); clear ho6)
          | (go_at_call 67; go_split_ands; refine (copied_c _ c.args _ (H2.out.gr (Hg.out.step (by assumption) (fun i hi => .inr (by simp at hi; omega)))) Hs.out.args).mono ?_; rintro e w7 ⟨v7, rfl, ho7, hg7⟩; obtain ⟨po, pc, rfl, -, -⟩ := ho7.nums' (S := []) (by simp); have Ho7 := hid ((OwnC.numsM ho7).gr' (M' := New wr.heap.size w7) (Gr.refl [] _) (by simp) (fun b hb h => h.le (Gr.size (S := [w.heap.size + 1]) (by assumption)) (Nat.le_refl _))); have Hg67 : Hid (Gr [] w6 w7) := hid hg7; have hq7 : Gr [w.heap.size + 1] wr w7 := Gr.trans (by assumption) (Gr.any hg7); have hr7 : w7.heap[w.heap.size + 1]? = some (.cells #[.int .i64 0, .slice none 0 0, .slice none 0 0, .int .i64 0, .slice none 0 0] 26 (0, 0)) := hg7.obj (hg6.obj (by first | exact Hr.out | (show World.heap (World.drew _) _ = _; exact Hr.out)) (by simp)) (by simp); have fr7 := fld hr7; have ffr7 := fldF hr7; have Hq7 := hid hq7; have Hr7 := hid hr7; clear ho7 hq7 hr7))
      all_goals
        go_wp2_with fail
        have hgE : Gr [w.heap.size + 1] w7 (((((w7.setCell ⟨w.heap.size + 1, 0, none⟩ (.int .i64 c.kind)).setCell ⟨w.heap.size + 1, 1, none⟩ (.slice uo c.vars.length uc)).setCell ⟨w.heap.size + 1, 2, none⟩ (.slice po c.args.length pc)).setCell ⟨w.heap.size + 1, 3, none⟩ (.int .i64 c.bound)).setCell ⟨w.heap.size + 1, 4, none⟩ (.slice oo c.rows.length oc)) :=
          (((((Gr.refl _ _).setCell _ _ (.inl (by simp))).setCell _ _ (.inl (by simp))).setCell _ _ (.inl (by simp))).setCell _ _ (.inl (by simp))).setCell _ _ (.inl (by simp))
        have hbE := block_cells (cur' := #[]) (block_cells (cur' := #[]) (block_cells (cur' := #[]) (block_cells (cur' := #[]) (block_cells (cur' := #[]) Hr7.out 0 (.int .i64 c.kind)) 1 (.slice uo c.vars.length uc)) 2 (.slice po c.args.length pc)) 3 (.int .i64 c.bound)) 4 (.slice oo c.rows.length oc)
        generalize hWE : (((((w7.setCell ⟨w.heap.size + 1, 0, none⟩ (.int .i64 c.kind)).setCell ⟨w.heap.size + 1, 1, none⟩ (.slice uo c.vars.length uc)).setCell ⟨w.heap.size + 1, 2, none⟩ (.slice po c.args.length pc)).setCell ⟨w.heap.size + 1, 3, none⟩ (.int .i64 c.bound)).setCell ⟨w.heap.size + 1, 4, none⟩ (.slice oo c.rows.length oc)) = WE at hgE hbE ⊢
        have flE := fld hbE
        have hsE := hgE.size
        have hs7 := Hq7.out.size
        have hs67 := Hg67.out.size
        refine bodyPost_ret (v := .agg #[.int .i64 c.kind, .slice uo c.vars.length uc, .slice po c.args.length pc, .int .i64 c.bound, .slice oo c.rows.length oc]) ?_ rfl ?_
        · simp [results, Try.results115, go_sem, flE]
        · refine ⟨_, rfl, ⟨_, _, _, rfl, ?_, ?_, ?_⟩, (Hg.out.step Hq7.out (fun i hi => .inr (by simp at hi; omega))).step hgE (fun i hi => .inr (by simp at hi; omega))⟩
          · exact (Ho6.out.gr' (M' := New wr.heap.size w7) Hg67.out (by simp) (fun b hb h => h.le (Nat.le_refl _) hs67)).gr' hgE (by intro b hb h; have := h.1; simp at hb; omega) (fun b hb h => h.le (by omega) hsE)
          · exact Ho7.out.gr' hgE (by intro b hb h; have := h.1; simp at hb; omega) (fun b hb h => h.le (by omega) hsE)
          · exact (Hrows.out.gr' (M' := New (w.heap.size + 2) w7) Hq7.out (by intro b hb h; have := h.1; simp at hb; omega) (fun b hb h => h.le (Nat.le_refl _) hs7)).gr' hgE (by intro b hb h; have := h.1; simp at hb; omega) (fun b hb h => h.le (by omega) hsE)
end Go.Proofs.Ytngpcoilgilmjaa
