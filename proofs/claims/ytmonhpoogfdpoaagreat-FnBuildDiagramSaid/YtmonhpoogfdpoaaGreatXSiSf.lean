/-
  Walks of the program's enumeration of solutions.
  Walk of the reference's search for solutions.
-/
import Derived.Test.YtmonhpoogfdpoaaGreatXM4M5
import Derived.Deep.AppendLies
import Derived.Test.YtmonhpoogfdpoaaGreatXG1
set_option linter.unusedVariables false
namespace Go.Proofs.YtmonhpoogfdpoaaGreat
open Go.RowKit
attribute [local go_sem] Oper.semAt_some

theorem word_mem {c : Con} {xs : List Int} (hc : VC c xs.length) {x : Int} (hx : x ∈ word c.vars xs) : x ∈ xs := by
  unfold word at hx
  obtain ⟨v, hv, rfl⟩ := List.mem_map.1 hx
  have hr := hc.rng v hv
  have hl : v.toNat < xs.length := by omega
  simp [List.getD_eq_getElem?_getD, hl]
theorem fit_word {c : Con} {xs : List Int} (hc : VC c xs.length) (hr : ∀ x ∈ xs, 0 ≤ x ∧ x ≤ 5) : Fit c (word c.vars xs) := by
  have hl : (word c.vars xs).length = c.vars.length := by simp [word]
  exact ⟨hc.fits, hl, by rw [hl]; exact hc.k.1, by rw [hl]; have := hc.k; have := hc.n4; omega, fun x hx => hr x (word_mem hc hx)⟩

set_option maxRecDepth 100000 in
theorem holds_c (c : Con) (xs : List Int) (cv xv : Value) (w : World) (hv : ConV [] w cv c) (hx : Nums [] w .i64 xv xs) (hc : VC c xs.length) (hr : ∀ x ∈ xs, 0 ≤ x ∧ x ≤ 5) :
    Calls Tryz.prog 91 #[cv, xv] w fun e w' => e = .returned (.bool (satB c (word c.vars xs))) ∧ Gr [] w w' := by
  have Hv := hid hv
  obtain ⟨vv, av, rv, rfl, _, _, _⟩ := hv
  have hg0 : Gr [] w (w.alloc (.cells #[.int .i64 c.kind, vv, av, .int .i64 c.bound, rv] 26)) := (Gr.refl _ _).alloc _
  have hb0 : (w.alloc (.cells #[.int .i64 c.kind, vv, av, .int .i64 c.bound, rv] 26)).heap[w.heap.size]? = some (.cells #[.int .i64 c.kind, vv, av, .int .i64 c.bound, rv] 26 (0, 0)) := heap_alloc_new _ _
  have Hb0 := hid hb0; have Hx := hid (hx.gr hg0); have HC := hid hc; have HR := hid hr
  have Hv0 := hid (Hv.out.gr hg0)
  clear hb0 hx hc hr
  go_enter Tryz.func91, Tryz.ntmps91
  go_wp2_with fail
  have HS : Hid (∀ w', Gr [] (w.alloc (.cells #[.int .i64 c.kind, vv, av, .int .i64 c.bound, rv] 26)) w' →
      w'.cell? ⟨w.heap.size, 0, none⟩ = some (.int .i64 c.kind) ∧ w'.cell? ⟨w.heap.size, 1, none⟩ = some vv ∧ w'.cell? ⟨w.heap.size, 2, none⟩ = some av ∧ w'.cell? ⟨w.heap.size, 3, none⟩ = some (.int .i64 c.bound) ∧ w'.cell? ⟨w.heap.size, 4, none⟩ = some rv ∧ Gr [] (w.alloc (.cells #[.int .i64 c.kind, vv, av, .int .i64 c.bound, rv] 26)) w') :=
    hid fun w' h => ⟨fld (h.obj Hb0.out (by simp)) 0, fld (h.obj Hb0.out (by simp)) 1, fld (h.obj Hb0.out (by simp)) 2, fld (h.obj Hb0.out (by simp)) 3, fld (h.obj Hb0.out (by simp)) 4, h⟩
  have hG0 : Gr [] (w.alloc (.cells #[.int .i64 c.kind, vv, av, .int .i64 c.bound, rv] 26)) (w.alloc (.cells #[.int .i64 c.kind, vv, av, .int .i64 c.bound, rv] 26)).drew := (Gr.refl _ _).drew
  go_region_held3 (fun w' => w'.cell? ⟨w.heap.size, 0, none⟩ = some (.int .i64 c.kind) ∧ w'.cell? ⟨w.heap.size, 1, none⟩ = some vv ∧ w'.cell? ⟨w.heap.size, 2, none⟩ = some av ∧ w'.cell? ⟨w.heap.size, 3, none⟩ = some (.int .i64 c.bound) ∧ w'.cell? ⟨w.heap.size, 4, none⟩ = some rv ∧ Gr [] (w.alloc (.cells #[.int .i64 c.kind, vv, av, .int .i64 c.bound, rv] 26)) w')
    (first | exact HS.out _ ((Gr.refl [] _).drew) | (go_split_ands; exact HS.out _ (Gr.trans (by assumption) hg3)) | (go_split_ands; exact HS.out _ (Gr.trans (by assumption) hg2)))
    (first
      | (go_at_call 18; go_split_ands; refine (word_c c xs _ _ _ (Hv0.out.gr (by assumption)) (Hx.out.gr (by assumption)) (by have := HC.out.k; have := HC.out.n4; omega) HC.out.rng).mono ?_; rintro e w2 ⟨v2, rfl, hown2, hg2⟩)
      | (go_at_call 40; go_split_ands; refine (satisfied_c c (word c.vars xs) _ _ _ (Hv0.out.gr (by assumption)) (hown2.nums (by simp)) (fit_word HC.out HR.out)).mono ?_; rintro e w3 ⟨rfl, hg3⟩))
  all_goals
    go_wp2_with fail
    go_ret
    exact ⟨rfl, ((hg0.trans hG0).trans hg2).trans hg3⟩

set_option maxRecDepth 100000 in
theorem isSolutionLit_c (c : Con) (xs : List Int) (cv xv : Value) (b : Nat) (w : World) (hv : ConV [] w cv c) (hb : w.heap[b]? = some (.cells #[xv] 23 (0, 0))) (hx : Nums [] w .i64 xv xs) (hc : VC c xs.length) (hr : ∀ x ∈ xs, 0 ≤ x ∧ x ≤ 5) :
    Calls Tryz.prog 90 #[cv, .pointer (some ⟨b, 0, none⟩)] w fun e w' => e = .returned (.bool (!satB c (word c.vars xs))) ∧ Gr [] w w' := by
  have Hv := hid hv
  obtain ⟨vv, av, rv, rfl, _, _, _⟩ := hv
  have hg0 : Gr [] w (w.alloc (.cells #[.int .i64 c.kind, vv, av, .int .i64 c.bound, rv] 26)) := (Gr.refl _ _).alloc _
  have hb0 : (w.alloc (.cells #[.int .i64 c.kind, vv, av, .int .i64 c.bound, rv] 26)).heap[w.heap.size]? = some (.cells #[.int .i64 c.kind, vv, av, .int .i64 c.bound, rv] 26 (0, 0)) := heap_alloc_new _ _
  have fl0 := fld hb0
  have flb := fld (hg0.obj hb (by simp))
  have Hx := hid (hx.gr hg0); have HC := hid hc; have HR := hid hr; have Hv0 := hid (Hv.out.gr hg0)
  clear hb0 hb hx hc hr
  go_enter Tryz.func90, Tryz.ntmps90
  go_wp2_with fail
  have hcall := holds_c c xs _ _ _ Hv0.out Hx.out HC.out HR.out
  (with_reducible refine hcall.mono ?_)
  clear hcall
  rintro e w1 ⟨rfl, hg1⟩
  go_wp2_with fail
  go_ret
  exact ⟨rfl, hg0.trans hg1⟩

theorem solB_any (cs : List Con) (xs : List Int) : solB cs xs = !anyG (fun c => !satB c (word c.vars xs)) cs := by
  unfold solB anyG
  rw [Bool.eq_iff_iff]
  simp [List.all_eq_true]

set_option maxRecDepth 100000 in
set_option maxHeartbeats 1000000 in
theorem isSolution_c (m : Mod) (D : List Nat) (xs : List Int) (mv xv : Value) (w : World) (hv : ModV [] w mv m) (hD : m.doms = ints D) (hb : Below64 D) (hc : VCs m.cons D.length) (hx : Nums [] w .i64 xv xs) (hin : In xs D) (hl4 : D.length ≤ 4) :
    Calls Tryz.prog 65 #[mv, xv] w fun e w' => e = .returned (.bool (solB m.cons xs)) ∧ Gr [] w w' := by
  obtain ⟨dv, cv, rfl, hdv, hcv⟩ := hv
  have hdv : Nums [] w .i64 dv (ints D) := hD ▸ hdv
  obtain ⟨do_, dc, rfl, ⟨hd1, hd2, _⟩, _⟩ := id hdv
  have Hx := hid hx
  obtain ⟨xo, xc, rfl, ⟨hx1, hx2, _⟩, _⟩ := hx
  have hxl : xs.length = D.length := tups_len hin
  have hdl := ints_len D
  have hg0 : Gr [] w ((w.alloc (.cells #[.slice do_ (ints D).length dc, cv] 40)).alloc (.cells #[.slice xo xs.length xc] 23)) := ((Gr.refl _ _).alloc _).alloc _
  have hb0 : ((w.alloc (.cells #[.slice do_ (ints D).length dc, cv] 40)).alloc (.cells #[.slice xo xs.length xc] 23)).heap[w.heap.size]? = some (.cells #[.slice do_ (ints D).length dc, cv] 40 (0, 0)) := (heap_alloc_old _ _ (by simp)).trans (heap_alloc_new _ _)
  have hx0 : ((w.alloc (.cells #[.slice do_ (ints D).length dc, cv] 40)).alloc (.cells #[.slice xo xs.length xc] 23)).heap[w.heap.size + 1]? = some (.cells #[.slice xo xs.length xc] 23 (0, 0)) := by
    have := heap_alloc_new (w.alloc (.cells #[.slice do_ (ints D).length dc, cv] 40)) (.cells #[.slice xo xs.length xc] 23)
    rwa [World.size_alloc] at this
  have HG0 := hid hg0; have Hb0 := hid hb0; have Hx0 := hid hx0; have Hd := hid (hdv.gr hg0); have Hxx := hid (Hx.out.gr hg0); have Hcv := hid (hcv.gr hg0)
  have HB := hid hb; have HC := hid hc; have HI := hid hin; have HXL := hid hxl; have HDL := hid hdl
  have fl0 := fld hb0
  have flx := fld hx0
  have hdn : (ints D).length ≤ 4 := by omega
  have hxn : xs.length ≤ 4 := by omega
  have hdx : xs.length ≤ (ints D).length := by omega
  have hxd : (ints D).length ≤ xs.length := by omega
  clear hg0 hb0 hx0 hdv hcv hD hb hc hin hxl hdl
  go_enter Tryz.func65, Tryz.ntmps65
  go_wp2_with fail
  go_loopw [9] (fun i wr => ∃ n : Nat, n ≤ xs.length ∧ i = .int .i64 n ∧ Gr [] ((w.alloc (.cells #[.slice do_ (ints D).length dc, cv] 40)).alloc (.cells #[.slice xo xs.length xc] 23)) wr) (fun i _ => xs.length - (intOf i).toNat)
  case atStart => exact ⟨0, by omega, rfl, Gr.refl _ _⟩
  case round =>
    obtain ⟨n, hn, rfl, hg⟩ := hrel
    have flr := fld (hg.obj Hb0.out (by simp))
    have flxr := fld (hg.obj Hx0.out (by simp))
    have Hg := hid hg
    by_cases hlt : n < xs.length
    · obtain ⟨v, hv1, hv6, hvb⟩ := HI.out.get (i := n) (by have := HXL.out; omega)
      obtain ⟨d, hd⟩ := get_some (xs := D) (k := n) (by have := HXL.out; omega)
      have hd64 := HB.out d (List.mem_of_getElem? hd)
      have hvd : d.testBit v = true := by simpa [List.getD_eq_getElem?_getD, hd] using hvb
      obtain ⟨b1, o1, rfl, _, hc1⟩ := (Hxx.out.gr hg).at hv1
      obtain ⟨b2, o2, rfl, _, hc2⟩ := (Hd.out.gr hg).at (i := n) (x := (d : Int)) (by rw [ints_get, hd]; rfl)
      have hnd : n < (ints D).length := by omega
      have Hvd := hid hvd
      clear hg hv1 hvb hd hvd
      go_wp2_with fail
      have hcall := has_c d v hd64 hv6 wr
      (with_reducible refine hcall.mono ?_)
      clear hcall
      rw [Hvd.out]
      rintro e w' ⟨rfl, rfl⟩
      go_wp2_with fail
      exact ⟨⟨n + 1, by omega, by go_num, Hg.out⟩, by simp [intOf]; omega⟩
    · clear hg
      go_wp2_with fail
      have hcall := containsCon_c m.cons (fun c => !satB c (word c.vars xs)) _ 90 #[.pointer (some ⟨w.heap.size + 1, 0, none⟩)] wr (Hcv.out.gr Hg.out) (fun _ _ => by kernel_rfl) (fun c cv3 w3 hm hg3 hcv3 => isSolutionLit_c c xs cv3 _ _ w3 hcv3 ((Hg.out.trans hg3).obj Hx0.out (by simp)) ((Hxx.out.gr Hg.out).gr hg3) (by rw [HXL.out]; exact HC.out c hm) (tups_val HI.out))
      (with_reducible refine hcall.mono ?_)
      clear hcall
      rintro e w3 ⟨rfl, hg3⟩
      go_wp2_with fail
      go_ret
      exact ⟨ret_bool (solB_any _ _).symm, (HG0.out.trans Hg.out).trans hg3⟩
end Go.Proofs.YtmonhpoogfdpoaaGreat

set_option linter.unusedVariables false
namespace Go.Proofs.YtmonhpoogfdpoaaGreat
open Go.RowKit

theorem OwnG.le {α : Type} {size : Nat} {el : List Nat → World → List Value → α → Prop} {B B' : Nat} {w : World} {e : TypeId} {v : Value} {xs : List α} (h : OwnG size el B w e v xs) (hB : B' ≤ B) : OwnG size el B' w e v xs := by
  obtain ⟨css, h1, h2, h3, h4⟩ := h
  refine ⟨css, h1, h2, ⟨h3.1, ?_⟩, fun i cs x hi hx S hS => h4 i cs x hi hx S fun b hb => (hS b hb).imp (by omega) id⟩
  rcases h3.2 with h | ⟨g, cap, cur, e1, hb, r⟩
  · exact .inl h
  · exact .inr ⟨g, cap, cur, e1, by omega, r⟩


def countI (m : Mod) (D : List Nat) : Int := if validM m then ((sols m.cons D).length : Int) else -1
end Go.Proofs.YtmonhpoogfdpoaaGreat
