/-
  Walks of the program's enumeration of solutions.
  Walk of the reference's search for solutions.
-/
import Derived.Test.YtlekngkcifgonaaGreatYM4M5
import Derived.Deep.AppendLies
import Derived.Test.YtlekngkcifgonaaGreatYG1
set_option linter.unusedVariables false
namespace Go.Proofs.YtlekngkcifgonaaGreat
open Go.RowKit
attribute [local go_sem] Oper.semAt_some

theorem word_mem {c : Con} {xs : List Int} (hc : VC c xs.length) {x : Int} (hx : x ∈ word c.vars xs) : x ∈ xs := by
  unfold word at hx
  obtain ⟨v, hv, rfl⟩ := List.mem_map.1 hx
  have hr := hc.rng v hv
  have hl : v.toNat < xs.length := by omega
  simp [List.getD_eq_getElem?_getD, hl]
theorem fit_word {c : Con} {xs : List Int} (hc : VC c xs.length) (hr : ∀ x ∈ xs, 0 ≤ x ∧ x ≤ 5) : Fit c (word c.vars xs) := by
  have hl : (word c.vars xs).length = c.vars.length := by simp [word]
  exact ⟨hc.fits, hl, by rw [hl]; exact hc.k.1, by rw [hl]; have := hc.k; have := hc.n4; omega, fun x hx => hr x (word_mem hc hx)⟩

set_option maxRecDepth 100000 in
theorem holds_c (c : Con) (xs : List Int) (cv xv : Value) (w : World) (hv : ConV [] w cv c) (hx : Nums [] w .i64 xv xs) (hc : VC c xs.length) (hr : ∀ x ∈ xs, 0 ≤ x ∧ x ≤ 5) :
    Calls Tryz.prog 171 #[cv, xv] w fun e w' => e = .returned (.bool (satB c (word c.vars xs))) ∧ Gr [] w w' := by
  have Hv := hid hv
  obtain ⟨vv, av, rv, rfl, _, _, _⟩ := hv
  have hg0 : Gr [] w (w.alloc (.cells #[.int .i64 c.kind, vv, av, .int .i64 c.bound, rv] 55)) := (Gr.refl _ _).alloc _
  have hb0 : (w.alloc (.cells #[.int .i64 c.kind, vv, av, .int .i64 c.bound, rv] 55)).heap[w.heap.size]? = some (.cells #[.int .i64 c.kind, vv, av, .int .i64 c.bound, rv] 55 (0, 0)) := heap_alloc_new _ _
  have Hb0 := hid hb0; have Hx := hid (hx.gr hg0); have HC := hid hc; have HR := hid hr
  have Hv0 := hid (Hv.out.gr hg0)
  clear hb0 hx hc hr
  go_enter Tryz.func171, Tryz.ntmps171
  go_wp2_with fail
  have HS : Hid (∀ w', Gr [] (w.alloc (.cells #[.int .i64 c.kind, vv, av, .int .i64 c.bound, rv] 55)) w' →
      w'.cell? ⟨w.heap.size, 0, none⟩ = some (.int .i64 c.kind) ∧ w'.cell? ⟨w.heap.size, 1, none⟩ = some vv ∧ w'.cell? ⟨w.heap.size, 2, none⟩ = some av ∧ w'.cell? ⟨w.heap.size, 3, none⟩ = some (.int .i64 c.bound) ∧ w'.cell? ⟨w.heap.size, 4, none⟩ = some rv ∧ Gr [] (w.alloc (.cells #[.int .i64 c.kind, vv, av, .int .i64 c.bound, rv] 55)) w') :=
    hid fun w' h => ⟨fld (h.obj Hb0.out (by simp)) 0, fld (h.obj Hb0.out (by simp)) 1, fld (h.obj Hb0.out (by simp)) 2, fld (h.obj Hb0.out (by simp)) 3, fld (h.obj Hb0.out (by simp)) 4, h⟩
  have hG0 : Gr [] (w.alloc (.cells #[.int .i64 c.kind, vv, av, .int .i64 c.bound, rv] 55)) (w.alloc (.cells #[.int .i64 c.kind, vv, av, .int .i64 c.bound, rv] 55)).drew := (Gr.refl _ _).drew
  go_region_held3 (fun w' => w'.cell? ⟨w.heap.size, 0, none⟩ = some (.int .i64 c.kind) ∧ w'.cell? ⟨w.heap.size, 1, none⟩ = some vv ∧ w'.cell? ⟨w.heap.size, 2, none⟩ = some av ∧ w'.cell? ⟨w.heap.size, 3, none⟩ = some (.int .i64 c.bound) ∧ w'.cell? ⟨w.heap.size, 4, none⟩ = some rv ∧ Gr [] (w.alloc (.cells #[.int .i64 c.kind, vv, av, .int .i64 c.bound, rv] 55)) w')
    (first | exact HS.out _ ((Gr.refl [] _).drew) | (go_split_ands; exact HS.out _ (Gr.trans (by assumption) hg3)) | (go_split_ands; exact HS.out _ (Gr.trans (by assumption) hg2)))
    (first
      | (go_at_call 108; go_split_ands; refine (word_c c xs _ _ _ (Hv0.out.gr (by assumption)) (Hx.out.gr (by assumption)) (by have := HC.out.k; have := HC.out.n4; omega) HC.out.rng).mono ?_; rintro e w2 ⟨v2, rfl, hown2, hg2⟩)
      | (go_at_call 191; go_split_ands; refine (satisfied_c c (word c.vars xs) _ _ _ (Hv0.out.gr (by assumption)) (hown2.nums (by simp)) (fit_word HC.out HR.out)).mono ?_; rintro e w3 ⟨rfl, hg3⟩))
  all_goals
    go_wp2_with fail
    go_ret
    exact ⟨rfl, ((hg0.trans hG0).trans hg2).trans hg3⟩

set_option maxRecDepth 100000 in
theorem isSolutionLit_c (c : Con) (xs : List Int) (cv xv : Value) (b : Nat) (w : World) (hv : ConV [] w cv c) (hb : w.heap[b]? = some (.cells #[xv] 23 (0, 0))) (hx : Nums [] w .i64 xv xs) (hc : VC c xs.length) (hr : ∀ x ∈ xs, 0 ≤ x ∧ x ≤ 5) :
    Calls Tryz.prog 170 #[cv, .pointer (some ⟨b, 0, none⟩)] w fun e w' => e = .returned (.bool (!satB c (word c.vars xs))) ∧ Gr [] w w' := by
  have Hv := hid hv
  obtain ⟨vv, av, rv, rfl, _, _, _⟩ := hv
  have hg0 : Gr [] w (w.alloc (.cells #[.int .i64 c.kind, vv, av, .int .i64 c.bound, rv] 55)) := (Gr.refl _ _).alloc _
  have hb0 : (w.alloc (.cells #[.int .i64 c.kind, vv, av, .int .i64 c.bound, rv] 55)).heap[w.heap.size]? = some (.cells #[.int .i64 c.kind, vv, av, .int .i64 c.bound, rv] 55 (0, 0)) := heap_alloc_new _ _
  have fl0 := fld hb0
  have flb := fld (hg0.obj hb (by simp))
  have Hx := hid (hx.gr hg0); have HC := hid hc; have HR := hid hr; have Hv0 := hid (Hv.out.gr hg0)
  clear hb0 hb hx hc hr
  go_enter Tryz.func170, Tryz.ntmps170
  go_wp2_with fail
  have hcall := holds_c c xs _ _ _ Hv0.out Hx.out HC.out HR.out
  (with_reducible refine hcall.mono ?_)
  clear hcall
  rintro e w1 ⟨rfl, hg1⟩
  go_wp2_with fail
  go_ret
  exact ⟨rfl, hg0.trans hg1⟩

theorem solB_any (cs : List Con) (xs : List Int) : solB cs xs = !anyG (fun c => !satB c (word c.vars xs)) cs := by
  unfold solB anyG
  rw [Bool.eq_iff_iff]
  simp [List.all_eq_true]

end Go.Proofs.YtlekngkcifgonaaGreat

set_option linter.unusedVariables false
namespace Go.Proofs.YtlekngkcifgonaaGreat
open Go.RowKit

theorem wp_appGw {α : Type} {P : Program} {w : World} {ops : Array Oper} {rest : List Oper} {o : Oper} {a : Act} {Q : Exit → Act → World → Prop} (hgd : o.guard = none) (s x : Operand) (t : TypeId)
    (ho : o.op = .call { callee := .builtin .append, args := #[s, x], argTypes := #[t, t] }) (size : Nat) (el : List Nat → World → List Value → α → Prop) (ok : ElOk el) (B : Nat) (e : TypeId) (z : Value) (bytes : Nat)
    (hinfo : (P.info? e).map (fun i => (i.zero, i.size, i.bytes)) = some (some z, size, bytes)) (hzs : z.cells.size = size) (hsz : 0 < size) (hby : bytes ≤ 100)
    (ht : P.underlying t = some (.slice e)) (v : Value) (xs : List α) (hs : a.eval s = v) (hown : OwnG size el B w e v xs) (g c : Nat) (y : α) (cs : List Value) (hx : a.eval x = .slice (some ⟨g, 0, none⟩) 1 c)
    (hl : cs.length = size) (h1 : ∀ u ∈ cs, u.oneCell' = true) (hn : ∀ j u, cs[j]? = some u → w.cell? ⟨g, j, none⟩ = some u) (hel : ∀ S : List Nat, (∀ b ∈ S, b < B ∨ w.heap.size ≤ b ∨ v.ownBlock = some b) → el S w cs y)
    (hlen : xs.length ≤ 1000000) (hB : B ≤ w.heap.size)
    (h : ∀ v' w', OwnG size el B w' e v' (xs ++ [y]) → Gr v.ownBlock.toList w w' → (∀ b, v'.ownBlock = some b → v.ownBlock = some b ∨ w.heap.size ≤ b) → wpList P ops Q rest (a.put o.dst v') w') : wpList P ops Q (o :: rest) a w := by
  obtain ⟨css, k1, k2, k3, k4⟩ := hown
  obtain ⟨i0, hi, hz0, hz1, hz2⟩ := info_parts hinfo
  have hbb : (xs.length + 1) * bytes ≤ (xs.length + 1) * 100 := Nat.mul_le_mul_left _ hby
  refine wpList_append_lies w hgd s x t ho B e i0 z size bytes ht hi hz0 hz1 hz2 hzs hsz v xs.length css.flatten hs k3 ⟨g, 0, none⟩ 1 c cs hx (by rw [hl]; simp) ?_ h1 (by omega) (by simp only [maxLen]; omega) (by omega) hB w.heap.size rfl ?_
  · intro j u hj
    have : (⟨g, 0, none⟩ : Addr).add j = ⟨g, j, none⟩ := by unfold Addr.add; split <;> simp_all
    rw [this]; exact hn j u hj
  · intro g' cap' w' hown' hgrow hwhere hlt
    have hgr : Gr v.ownBlock.toList w w' := ⟨hgrow.os, hgrow.tape, hgrow.output, hgrow.size, fun k hk hs => hgrow.block k hk (fun e => hs (by rw [← e]; simp))⟩
    refine h _ _ ⟨css ++ [cs], by simp [k1], ?_, ?_, ?_⟩ hgr (fun b hb => by simp [Value.ownBlock] at hb; subst hb; rcases hwhere with h | h; exact .inl h; exact .inr (by omega))
    · intro c hc
      rcases List.mem_append.1 hc with hc | hc
      · exact k2 c hc
      · simp at hc; subst hc; exact ⟨hl, h1⟩
    · rw [List.flatten_append]; simpa using hown'
    · have hcond : ∀ S : List Nat, (∀ b ∈ S, b < B ∨ w'.heap.size ≤ b ∨ (Value.slice (some ⟨g', 0, none⟩) (xs.length + 1) cap').ownBlock = some b) → ∀ b ∈ v.ownBlock.toList ++ S, b < B ∨ w.heap.size ≤ b ∨ v.ownBlock = some b := by
        intro S hS b hb
        rcases List.mem_append.1 hb with hb | hb
        · exact .inr (.inr (by simpa using hb))
        · rcases hS b hb with h | h | h
          · exact .inl h
          · exact .inr (.inl (Nat.le_trans hgr.size h))
          · simp [Value.ownBlock] at h
            subst h
            rcases hwhere with h | h
            · exact .inr (.inr h)
            · exact .inr (.inl (by omega))
      intro i c' x' hc hx' S hS
      have fin : ∀ c'' x'', el (v.ownBlock.toList ++ S) w c'' x'' → el S w' c'' x'' := fun c'' x'' h0 =>
        ok.sub (ok.gr h0 (hgr.sub (fun k _ hk => by simp at hk ⊢; exact .inl hk))) (fun b _ hb => by simp [hb])
      by_cases hlt : i < xs.length
      · rw [List.getElem?_append_left (by omega)] at hc
        rw [List.getElem?_append_left hlt] at hx'
        exact fin _ _ (k4 i c' x' hc hx' _ (hcond S hS))
      · have hi' : i = xs.length := by
          have := (List.getElem?_eq_some_iff.1 hx').1
          simp at this; omega
        subst hi'
        rw [List.getElem?_append_right (by omega), k1, Nat.sub_self] at hc
        rw [List.getElem?_append_right (by omega), Nat.sub_self] at hx'
        simp at hc hx'
        subst hc hx'
        exact fin _ _ (hel _ (hcond S hS))

theorem OwnG.le {α : Type} {size : Nat} {el : List Nat → World → List Value → α → Prop} {B B' : Nat} {w : World} {e : TypeId} {v : Value} {xs : List α} (h : OwnG size el B w e v xs) (hB : B' ≤ B) : OwnG size el B' w e v xs := by
  obtain ⟨css, h1, h2, h3, h4⟩ := h
  refine ⟨css, h1, h2, ⟨h3.1, ?_⟩, fun i cs x hi hx S hS => h4 i cs x hi hx S fun b hb => (hS b hb).imp (by omega) id⟩
  rcases h3.2 with h | ⟨g, cap, cur, e1, hb, r⟩
  · exact .inl h
  · exact .inr ⟨g, cap, cur, e1, by omega, r⟩

/-- The finder in memory. -/
def FS (W : World) (F : Nat) (dv cv : Value) (L : Nat) (nd : Int) (fv : Value) : Prop := W.heap[F]? = some (.cells #[dv, cv, .int .i64 L, .int .i64 nd, fv] 217 (0, 0))

theorem Nums.sub0 {S : List Nat} {w : World} {k : IntKind} {v : Value} {xs : List Int} (h : Nums S w k v xs) : Nums [] w k v xs := h.sub (by simp)

theorem FS.gr {W W' : World} {F : Nat} {dv cv : Value} {L : Nat} {nd : Int} {fv : Value} {S : List Nat} (h : FS W F dv cv L nd fv) (hg : Gr S W W') (hS : F ∉ S) : FS W' F dv cv L nd fv := hg.obj h hS

end Go.Proofs.YtlekngkcifgonaaGreat
