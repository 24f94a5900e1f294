/-
  Walks of the program's enumeration of solutions.
  Walk of the reference's search for solutions.
-/
import Derived.Test.YtihkeihnpiddoaaGreatXM4M5
import Derived.Deep.AppendLies
import Derived.Test.YtihkeihnpiddoaaGreatXG1
set_option linter.unusedVariables false
namespace Go.Proofs.YtihkeihnpiddoaaGreat
open Go.RowKit
attribute [local go_sem] Oper.semAt_some

theorem word_mem {c : Con} {xs : List Int} (hc : VC c xs.length) {x : Int} (hx : x ∈ word c.vars xs) : x ∈ xs := by
  unfold word at hx
  obtain ⟨v, hv, rfl⟩ := List.mem_map.1 hx
  have hr := hc.rng v hv
  have hl : v.toNat < xs.length := by omega
  simp [List.getD_eq_getElem?_getD, hl]
theorem fit_word {c : Con} {xs : List Int} (hc : VC c xs.length) (hr : ∀ x ∈ xs, 0 ≤ x ∧ x ≤ 5) : Fit c (word c.vars xs) := by
  have hl : (word c.vars xs).length = c.vars.length := by simp [word]
  exact ⟨hc.fits, hl, by rw [hl]; exact hc.k.1, by rw [hl]; have := hc.k; have := hc.n4; omega, fun x hx => hr x (word_mem hc hx)⟩

set_option maxRecDepth 100000 in
theorem holds_c (c : Con) (xs : List Int) (cv xv : Value) (w : World) (hv : ConV [] w cv c) (hx : Nums [] w .i64 xv xs) (hc : VC c xs.length) (hr : ∀ x ∈ xs, 0 ≤ x ∧ x ≤ 5) :
    Calls Tryz.prog 162 #[cv, xv] w fun e w' => e = .returned (.bool (satB c (word c.vars xs))) ∧ Gr [] w w' := by
  have Hv := hid hv
  obtain ⟨vv, av, rv, rfl, _, _, _⟩ := hv
  have hg0 : Gr [] w (w.alloc (.cells #[.int .i64 c.kind, vv, av, .int .i64 c.bound, rv] 41)) := (Gr.refl _ _).alloc _
  have hb0 : (w.alloc (.cells #[.int .i64 c.kind, vv, av, .int .i64 c.bound, rv] 41)).heap[w.heap.size]? = some (.cells #[.int .i64 c.kind, vv, av, .int .i64 c.bound, rv] 41 (0, 0)) := heap_alloc_new _ _
  have Hb0 := hid hb0; have Hx := hid (hx.gr hg0); have HC := hid hc; have HR := hid hr
  have Hv0 := hid (Hv.out.gr hg0)
  clear hb0 hx hc hr
  go_enter Tryz.func162, Tryz.ntmps162
  go_wp2_with fail
  have HS : Hid (∀ w', Gr [] (w.alloc (.cells #[.int .i64 c.kind, vv, av, .int .i64 c.bound, rv] 41)) w' →
      w'.cell? ⟨w.heap.size, 0, none⟩ = some (.int .i64 c.kind) ∧ w'.cell? ⟨w.heap.size, 1, none⟩ = some vv ∧ w'.cell? ⟨w.heap.size, 2, none⟩ = some av ∧ w'.cell? ⟨w.heap.size, 3, none⟩ = some (.int .i64 c.bound) ∧ w'.cell? ⟨w.heap.size, 4, none⟩ = some rv ∧ Gr [] (w.alloc (.cells #[.int .i64 c.kind, vv, av, .int .i64 c.bound, rv] 41)) w') :=
    hid fun w' h => ⟨fld (h.obj Hb0.out (by simp)) 0, fld (h.obj Hb0.out (by simp)) 1, fld (h.obj Hb0.out (by simp)) 2, fld (h.obj Hb0.out (by simp)) 3, fld (h.obj Hb0.out (by simp)) 4, h⟩
  have hG0 : Gr [] (w.alloc (.cells #[.int .i64 c.kind, vv, av, .int .i64 c.bound, rv] 41)) (w.alloc (.cells #[.int .i64 c.kind, vv, av, .int .i64 c.bound, rv] 41)).drew := (Gr.refl _ _).drew
  go_region_held3 (fun w' => w'.cell? ⟨w.heap.size, 0, none⟩ = some (.int .i64 c.kind) ∧ w'.cell? ⟨w.heap.size, 1, none⟩ = some vv ∧ w'.cell? ⟨w.heap.size, 2, none⟩ = some av ∧ w'.cell? ⟨w.heap.size, 3, none⟩ = some (.int .i64 c.bound) ∧ w'.cell? ⟨w.heap.size, 4, none⟩ = some rv ∧ Gr [] (w.alloc (.cells #[.int .i64 c.kind, vv, av, .int .i64 c.bound, rv] 41)) w')
    (first | exact HS.out _ ((Gr.refl [] _).drew) | (go_split_ands; exact HS.out _ (Gr.trans (by assumption) hg3)) | (go_split_ands; exact HS.out _ (Gr.trans (by assumption) hg2)))
    (first
      | (go_at_call 55; go_split_ands; refine (word_c c xs _ _ _ (Hv0.out.gr (by assumption)) (Hx.out.gr (by assumption)) (by have := HC.out.k; have := HC.out.n4; omega) HC.out.rng).mono ?_; rintro e w2 ⟨v2, rfl, hown2, hg2⟩)
      | (go_at_call 107; go_split_ands; refine (satisfied_c c (word c.vars xs) _ _ _ (Hv0.out.gr (by assumption)) (hown2.nums (by simp)) (fit_word HC.out HR.out)).mono ?_; rintro e w3 ⟨rfl, hg3⟩))
  all_goals
    go_wp2_with fail
    go_ret
    exact ⟨rfl, ((hg0.trans hG0).trans hg2).trans hg3⟩

set_option maxRecDepth 100000 in
theorem isSolutionLit_c (c : Con) (xs : List Int) (cv xv : Value) (b : Nat) (w : World) (hv : ConV [] w cv c) (hb : w.heap[b]? = some (.cells #[xv] 23 (0, 0))) (hx : Nums [] w .i64 xv xs) (hc : VC c xs.length) (hr : ∀ x ∈ xs, 0 ≤ x ∧ x ≤ 5) :
    Calls Tryz.prog 161 #[cv, .pointer (some ⟨b, 0, none⟩)] w fun e w' => e = .returned (.bool (!satB c (word c.vars xs))) ∧ Gr [] w w' := by
  have Hv := hid hv
  obtain ⟨vv, av, rv, rfl, _, _, _⟩ := hv
  have hg0 : Gr [] w (w.alloc (.cells #[.int .i64 c.kind, vv, av, .int .i64 c.bound, rv] 41)) := (Gr.refl _ _).alloc _
  have hb0 : (w.alloc (.cells #[.int .i64 c.kind, vv, av, .int .i64 c.bound, rv] 41)).heap[w.heap.size]? = some (.cells #[.int .i64 c.kind, vv, av, .int .i64 c.bound, rv] 41 (0, 0)) := heap_alloc_new _ _
  have fl0 := fld hb0
  have flb := fld (hg0.obj hb (by simp))
  have Hx := hid (hx.gr hg0); have HC := hid hc; have HR := hid hr; have Hv0 := hid (Hv.out.gr hg0)
  clear hb0 hb hx hc hr
  go_enter Tryz.func161, Tryz.ntmps161
  go_wp2_with fail
  have hcall := holds_c c xs _ _ _ Hv0.out Hx.out HC.out HR.out
  (with_reducible refine hcall.mono ?_)
  clear hcall
  rintro e w1 ⟨rfl, hg1⟩
  go_wp2_with fail
  go_ret
  exact ⟨rfl, hg0.trans hg1⟩

theorem solB_any (cs : List Con) (xs : List Int) : solB cs xs = !anyG (fun c => !satB c (word c.vars xs)) cs := by
  unfold solB anyG
  rw [Bool.eq_iff_iff]
  simp [List.all_eq_true]

end Go.Proofs.YtihkeihnpiddoaaGreat

set_option linter.unusedVariables false
namespace Go.Proofs.YtihkeihnpiddoaaGreat
open Go.RowKit

theorem OwnG.le {α : Type} {size : Nat} {el : List Nat → World → List Value → α → Prop} {B B' : Nat} {w : World} {e : TypeId} {v : Value} {xs : List α} (h : OwnG size el B w e v xs) (hB : B' ≤ B) : OwnG size el B' w e v xs := by
  obtain ⟨css, h1, h2, h3, h4⟩ := h
  refine ⟨css, h1, h2, ⟨h3.1, ?_⟩, fun i cs x hi hx S hS => h4 i cs x hi hx S fun b hb => (hS b hb).imp (by omega) id⟩
  rcases h3.2 with h | ⟨g, cap, cur, e1, hb, r⟩
  · exact .inl h
  · exact .inr ⟨g, cap, cur, e1, by omega, r⟩


end Go.Proofs.YtihkeihnpiddoaaGreat
