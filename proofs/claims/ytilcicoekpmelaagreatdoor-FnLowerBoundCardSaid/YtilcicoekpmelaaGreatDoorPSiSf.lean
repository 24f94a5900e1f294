/-
  Walks of the program's enumeration of solutions.
  Walk of the reference's search for solutions.
-/
import Derived.Test.YtilcicoekpmelaaGreatDoorPM4M5
import Derived.Deep.AppendLies
import Derived.Test.YtilcicoekpmelaaGreatDoorPG1
set_option linter.unusedVariables false
namespace Go.Proofs.YtilcicoekpmelaaGreatDoor
open Go.RowKit
attribute [local go_sem] Oper.semAt_some

theorem word_mem {c : Con} {xs : List Int} (hc : VC c xs.length) {x : Int} (hx : x ∈ word c.vars xs) : x ∈ xs := by
  unfold word at hx
  obtain ⟨v, hv, rfl⟩ := List.mem_map.1 hx
  have hr := hc.rng v hv
  have hl : v.toNat < xs.length := by omega
  simp [List.getD_eq_getElem?_getD, hl]
theorem fit_word {c : Con} {xs : List Int} (hc : VC c xs.length) (hr : ∀ x ∈ xs, 0 ≤ x ∧ x ≤ 5) : Fit c (word c.vars xs) := by
  have hl : (word c.vars xs).length = c.vars.length := by simp [word]
  exact ⟨hc.fits, hl, by rw [hl]; exact hc.k.1, by rw [hl]; have := hc.k; have := hc.n4; omega, fun x hx => hr x (word_mem hc hx)⟩

set_option maxRecDepth 100000 in
theorem holds_c (c : Con) (xs : List Int) (cv xv : Value) (w : World) (hv : ConV [] w cv c) (hx : Nums [] w .i64 xv xs) (hc : VC c xs.length) (hr : ∀ x ∈ xs, 0 ≤ x ∧ x ≤ 5) :
    Calls Tryz.prog 71 #[cv, xv] w fun e w' => e = .returned (.bool (satB c (word c.vars xs))) ∧ Gr [] w w' := by
  have Hv := hid hv
  obtain ⟨vv, av, rv, rfl, _, _, _⟩ := hv
  have hg0 : Gr [] w (w.alloc (.cells #[.int .i64 c.kind, vv, av, .int .i64 c.bound, rv] 48)) := (Gr.refl _ _).alloc _
  have hb0 : (w.alloc (.cells #[.int .i64 c.kind, vv, av, .int .i64 c.bound, rv] 48)).heap[w.heap.size]? = some (.cells #[.int .i64 c.kind, vv, av, .int .i64 c.bound, rv] 48 (0, 0)) := heap_alloc_new _ _
  have Hb0 := hid hb0; have Hx := hid (hx.gr hg0); have HC := hid hc; have HR := hid hr
  have Hv0 := hid (Hv.out.gr hg0)
  clear hb0 hx hc hr
  go_enter Tryz.func71, Tryz.ntmps71
  go_wp2_with fail
  have HS : Hid (∀ w', Gr [] (w.alloc (.cells #[.int .i64 c.kind, vv, av, .int .i64 c.bound, rv] 48)) w' →
      w'.cell? ⟨w.heap.size, 0, none⟩ = some (.int .i64 c.kind) ∧ w'.cell? ⟨w.heap.size, 1, none⟩ = some vv ∧ w'.cell? ⟨w.heap.size, 2, none⟩ = some av ∧ w'.cell? ⟨w.heap.size, 3, none⟩ = some (.int .i64 c.bound) ∧ w'.cell? ⟨w.heap.size, 4, none⟩ = some rv ∧ Gr [] (w.alloc (.cells #[.int .i64 c.kind, vv, av, .int .i64 c.bound, rv] 48)) w') :=
    hid fun w' h => ⟨fld (h.obj Hb0.out (by simp)) 0, fld (h.obj Hb0.out (by simp)) 1, fld (h.obj Hb0.out (by simp)) 2, fld (h.obj Hb0.out (by simp)) 3, fld (h.obj Hb0.out (by simp)) 4, h⟩
  have hG0 : Gr [] (w.alloc (.cells #[.int .i64 c.kind, vv, av, .int .i64 c.bound, rv] 48)) (w.alloc (.cells #[.int .i64 c.kind, vv, av, .int .i64 c.bound, rv] 48)).drew := (Gr.refl _ _).drew
  go_region_held3 (fun w' => w'.cell? ⟨w.heap.size, 0, none⟩ = some (.int .i64 c.kind) ∧ w'.cell? ⟨w.heap.size, 1, none⟩ = some vv ∧ w'.cell? ⟨w.heap.size, 2, none⟩ = some av ∧ w'.cell? ⟨w.heap.size, 3, none⟩ = some (.int .i64 c.bound) ∧ w'.cell? ⟨w.heap.size, 4, none⟩ = some rv ∧ Gr [] (w.alloc (.cells #[.int .i64 c.kind, vv, av, .int .i64 c.bound, rv] 48)) w')
    (first | exact HS.out _ ((Gr.refl [] _).drew) | (go_split_ands; exact HS.out _ (Gr.trans (by assumption) hg3)) | (go_split_ands; exact HS.out _ (Gr.trans (by assumption) hg2)))
    (first
      | (go_at_call 93; go_split_ands; refine (word_c c xs _ _ _ (Hv0.out.gr (by assumption)) (Hx.out.gr (by assumption)) (by have := HC.out.k; have := HC.out.n4; omega) HC.out.rng).mono ?_; rintro e w2 ⟨v2, rfl, hown2, hg2⟩)
      | (go_at_call 92; go_split_ands; refine (satisfied_c c (word c.vars xs) _ _ _ (Hv0.out.gr (by assumption)) (hown2.nums (by simp)) (fit_word HC.out HR.out)).mono ?_; rintro e w3 ⟨rfl, hg3⟩))
  all_goals
    go_wp2_with fail
    go_ret
    exact ⟨rfl, ((hg0.trans hG0).trans hg2).trans hg3⟩

set_option maxRecDepth 100000 in
theorem isSolutionLit_c (c : Con) (xs : List Int) (cv xv : Value) (b : Nat) (w : World) (hv : ConV [] w cv c) (hb : w.heap[b]? = some (.cells #[xv] 23 (0, 0))) (hx : Nums [] w .i64 xv xs) (hc : VC c xs.length) (hr : ∀ x ∈ xs, 0 ≤ x ∧ x ≤ 5) :
    Calls Tryz.prog 70 #[cv, .pointer (some ⟨b, 0, none⟩)] w fun e w' => e = .returned (.bool (!satB c (word c.vars xs))) ∧ Gr [] w w' := by
  have Hv := hid hv
  obtain ⟨vv, av, rv, rfl, _, _, _⟩ := hv
  have hg0 : Gr [] w (w.alloc (.cells #[.int .i64 c.kind, vv, av, .int .i64 c.bound, rv] 48)) := (Gr.refl _ _).alloc _
  have hb0 : (w.alloc (.cells #[.int .i64 c.kind, vv, av, .int .i64 c.bound, rv] 48)).heap[w.heap.size]? = some (.cells #[.int .i64 c.kind, vv, av, .int .i64 c.bound, rv] 48 (0, 0)) := heap_alloc_new _ _
  have fl0 := fld hb0
  have flb := fld (hg0.obj hb (by simp))
  have Hx := hid (hx.gr hg0); have HC := hid hc; have HR := hid hr; have Hv0 := hid (Hv.out.gr hg0)
  clear hb0 hb hx hc hr
  go_enter Tryz.func70, Tryz.ntmps70
  go_wp2_with fail
  have hcall := holds_c c xs _ _ _ Hv0.out Hx.out HC.out HR.out
  (with_reducible refine hcall.mono ?_)
  clear hcall
  rintro e w1 ⟨rfl, hg1⟩
  go_wp2_with fail
  go_ret
  exact ⟨rfl, hg0.trans hg1⟩

theorem solB_any (cs : List Con) (xs : List Int) : solB cs xs = !anyG (fun c => !satB c (word c.vars xs)) cs := by
  unfold solB anyG
  rw [Bool.eq_iff_iff]
  simp [List.all_eq_true]

set_option maxRecDepth 100000 in
set_option maxHeartbeats 1000000 in
theorem isSolution_c (m : Mod) (D : List Nat) (xs : List Int) (mv xv : Value) (w : World) (hv : ModV [] w mv m) (hD : m.doms = ints D) (hb : Below64 D) (hc : VCs m.cons D.length) (hx : Nums [] w .i64 xv xs) (hin : In xs D) (hl4 : D.length ≤ 4) :
    Calls Tryz.prog 41 #[mv, xv] w fun e w' => e = .returned (.bool (solB m.cons xs)) ∧ Gr [] w w' := by
  obtain ⟨dv, cv, rfl, hdv, hcv⟩ := hv
  have hdv : Nums [] w .i64 dv (ints D) := hD ▸ hdv
  obtain ⟨do_, dc, rfl, ⟨hd1, hd2, _⟩, _⟩ := id hdv
  have Hx := hid hx
  obtain ⟨xo, xc, rfl, ⟨hx1, hx2, _⟩, _⟩ := hx
  have hxl : xs.length = D.length := tups_len hin
  have hdl := ints_len D
  have hg0 : Gr [] w ((w.alloc (.cells #[.slice do_ (ints D).length dc, cv] 26)).alloc (.cells #[.slice xo xs.length xc] 23)) := ((Gr.refl _ _).alloc _).alloc _
  have hb0 : ((w.alloc (.cells #[.slice do_ (ints D).length dc, cv] 26)).alloc (.cells #[.slice xo xs.length xc] 23)).heap[w.heap.size]? = some (.cells #[.slice do_ (ints D).length dc, cv] 26 (0, 0)) := (heap_alloc_old _ _ (by simp)).trans (heap_alloc_new _ _)
  have hx0 : ((w.alloc (.cells #[.slice do_ (ints D).length dc, cv] 26)).alloc (.cells #[.slice xo xs.length xc] 23)).heap[w.heap.size + 1]? = some (.cells #[.slice xo xs.length xc] 23 (0, 0)) := by
    have := heap_alloc_new (w.alloc (.cells #[.slice do_ (ints D).length dc, cv] 26)) (.cells #[.slice xo xs.length xc] 23)
    rwa [World.size_alloc] at this
  have HG0 := hid hg0; have Hb0 := hid hb0; have Hx0 := hid hx0; have Hd := hid (hdv.gr hg0); have Hxx := hid (Hx.out.gr hg0); have Hcv := hid (hcv.gr hg0)
  have HB := hid hb; have HC := hid hc; have HI := hid hin; have HXL := hid hxl; have HDL := hid hdl
  have fl0 := fld hb0
  have flx := fld hx0
  have hdn : (ints D).length ≤ 4 := by omega
  have hxn : xs.length ≤ 4 := by omega
  have hdx : xs.length ≤ (ints D).length := by omega
  have hxd : (ints D).length ≤ xs.length := by omega
  clear hg0 hb0 hx0 hdv hcv hD hb hc hin hxl hdl
  go_enter Tryz.func41, Tryz.ntmps41
  go_wp2_with fail
  go_loopw [9] (fun i wr => ∃ n : Nat, n ≤ xs.length ∧ i = .int .i64 n ∧ Gr [] ((w.alloc (.cells #[.slice do_ (ints D).length dc, cv] 26)).alloc (.cells #[.slice xo xs.length xc] 23)) wr) (fun i _ => xs.length - (intOf i).toNat)
  case atStart => exact ⟨0, by omega, rfl, Gr.refl _ _⟩
  case round =>
    obtain ⟨n, hn, rfl, hg⟩ := hrel
    have flr := fld (hg.obj Hb0.out (by simp))
    have flxr := fld (hg.obj Hx0.out (by simp))
    have Hg := hid hg
    by_cases hlt : n < xs.length
    · obtain ⟨v, hv1, hv6, hvb⟩ := HI.out.get (i := n) (by have := HXL.out; omega)
      obtain ⟨d, hd⟩ := get_some (xs := D) (k := n) (by have := HXL.out; omega)
      have hd64 := HB.out d (List.mem_of_getElem? hd)
      have hvd : d.testBit v = true := by simpa [List.getD_eq_getElem?_getD, hd] using hvb
      obtain ⟨b1, o1, rfl, _, hc1⟩ := (Hxx.out.gr hg).at hv1
      obtain ⟨b2, o2, rfl, _, hc2⟩ := (Hd.out.gr hg).at (i := n) (x := (d : Int)) (by rw [ints_get, hd]; rfl)
      have hnd : n < (ints D).length := by omega
      have Hvd := hid hvd
      clear hg hv1 hvb hd hvd
      go_wp2_with fail
      have hcall := has_c d v hd64 hv6 wr
      (with_reducible refine hcall.mono ?_)
      clear hcall
      rw [Hvd.out]
      rintro e w' ⟨rfl, rfl⟩
      go_wp2_with fail
      exact ⟨⟨n + 1, by omega, by go_num, Hg.out⟩, by simp [intOf]; omega⟩
    · clear hg
      go_wp2_with fail
      have hcall := containsCon_c m.cons (fun c => !satB c (word c.vars xs)) _ 70 #[.pointer (some ⟨w.heap.size + 1, 0, none⟩)] wr (Hcv.out.gr Hg.out) (fun _ _ => by kernel_rfl) (fun c cv3 w3 hm hg3 hcv3 => isSolutionLit_c c xs cv3 _ _ w3 hcv3 ((Hg.out.trans hg3).obj Hx0.out (by simp)) ((Hxx.out.gr Hg.out).gr hg3) (by rw [HXL.out]; exact HC.out c hm) (tups_val HI.out))
      (with_reducible refine hcall.mono ?_)
      clear hcall
      rintro e w3 ⟨rfl, hg3⟩
      go_wp2_with fail
      go_ret
      exact ⟨ret_bool (solB_any _ _).symm, (HG0.out.trans Hg.out).trans hg3⟩
end Go.Proofs.YtilcicoekpmelaaGreatDoor

set_option linter.unusedVariables false
namespace Go.Proofs.YtilcicoekpmelaaGreatDoor
open Go.RowKit

theorem wp_appGw {α : Type} {P : Program} {w : World} {ops : Array Oper} {rest : List Oper} {o : Oper} {a : Act} {Q : Exit → Act → World → Prop} (hgd : o.guard = none) (s x : Operand) (t : TypeId)
    (ho : o.op = .call { callee := .builtin .append, args := #[s, x], argTypes := #[t, t] }) (size : Nat) (el : List Nat → World → List Value → α → Prop) (ok : ElOk el) (B : Nat) (e : TypeId) (z : Value) (bytes : Nat)
    (hinfo : (P.info? e).map (fun i => (i.zero, i.size, i.bytes)) = some (some z, size, bytes)) (hzs : z.cells.size = size) (hsz : 0 < size) (hby : bytes ≤ 100)
    (ht : P.underlying t = some (.slice e)) (v : Value) (xs : List α) (hs : a.eval s = v) (hown : OwnG size el B w e v xs) (g c : Nat) (y : α) (cs : List Value) (hx : a.eval x = .slice (some ⟨g, 0, none⟩) 1 c)
    (hl : cs.length = size) (h1 : ∀ u ∈ cs, u.oneCell' = true) (hn : ∀ j u, cs[j]? = some u → w.cell? ⟨g, j, none⟩ = some u) (hel : ∀ S : List Nat, (∀ b ∈ S, b < B ∨ w.heap.size ≤ b ∨ v.ownBlock = some b) → el S w cs y)
    (hlen : xs.length ≤ 1000000) (hB : B ≤ w.heap.size)
    (h : ∀ v' w', OwnG size el B w' e v' (xs ++ [y]) → Gr v.ownBlock.toList w w' → (∀ b, v'.ownBlock = some b → v.ownBlock = some b ∨ w.heap.size ≤ b) → wpList P ops Q rest (a.put o.dst v') w') : wpList P ops Q (o :: rest) a w := by
  obtain ⟨css, k1, k2, k3, k4⟩ := hown
  obtain ⟨i0, hi, hz0, hz1, hz2⟩ := info_parts hinfo
  have hbb : (xs.length + 1) * bytes ≤ (xs.length + 1) * 100 := Nat.mul_le_mul_left _ hby
  refine wpList_append_lies w hgd s x t ho B e i0 z size bytes ht hi hz0 hz1 hz2 hzs hsz v xs.length css.flatten hs k3 ⟨g, 0, none⟩ 1 c cs hx (by rw [hl]; simp) ?_ h1 (by omega) (by simp only [maxLen]; omega) (by omega) hB w.heap.size rfl ?_
  · intro j u hj
    have : (⟨g, 0, none⟩ : Addr).add j = ⟨g, j, none⟩ := by unfold Addr.add; split <;> simp_all
    rw [this]; exact hn j u hj
  · intro g' cap' w' hown' hgrow hwhere hlt
    have hgr : Gr v.ownBlock.toList w w' := ⟨hgrow.os, hgrow.tape, hgrow.output, hgrow.size, fun k hk hs => hgrow.block k hk (fun e => hs (by rw [← e]; simp))⟩
    refine h _ _ ⟨css ++ [cs], by simp [k1], ?_, ?_, ?_⟩ hgr (fun b hb => by simp [Value.ownBlock] at hb; subst hb; rcases hwhere with h | h; exact .inl h; exact .inr (by omega))
    · intro c hc
      rcases List.mem_append.1 hc with hc | hc
      · exact k2 c hc
      · simp at hc; subst hc; exact ⟨hl, h1⟩
    · rw [List.flatten_append]; simpa using hown'
    · have hcond : ∀ S : List Nat, (∀ b ∈ S, b < B ∨ w'.heap.size ≤ b ∨ (Value.slice (some ⟨g', 0, none⟩) (xs.length + 1) cap').ownBlock = some b) → ∀ b ∈ v.ownBlock.toList ++ S, b < B ∨ w.heap.size ≤ b ∨ v.ownBlock = some b := by
        intro S hS b hb
        rcases List.mem_append.1 hb with hb | hb
        · exact .inr (.inr (by simpa using hb))
        · rcases hS b hb with h | h | h
          · exact .inl h
          · exact .inr (.inl (Nat.le_trans hgr.size h))
          · simp [Value.ownBlock] at h
            subst h
            rcases hwhere with h | h
            · exact .inr (.inr h)
            · exact .inr (.inl (by omega))
      intro i c' x' hc hx' S hS
      have fin : ∀ c'' x'', el (v.ownBlock.toList ++ S) w c'' x'' → el S w' c'' x'' := fun c'' x'' h0 =>
        ok.sub (ok.gr h0 (hgr.sub (fun k _ hk => by simp at hk ⊢; exact .inl hk))) (fun b _ hb => by simp [hb])
      by_cases hlt : i < xs.length
      · rw [List.getElem?_append_left (by omega)] at hc
        rw [List.getElem?_append_left hlt] at hx'
        exact fin _ _ (k4 i c' x' hc hx' _ (hcond S hS))
      · have hi' : i = xs.length := by
          have := (List.getElem?_eq_some_iff.1 hx').1
          simp at this; omega
        subst hi'
        rw [List.getElem?_append_right (by omega), k1, Nat.sub_self] at hc
        rw [List.getElem?_append_right (by omega), Nat.sub_self] at hx'
        simp at hc hx'
        subst hc hx'
        exact fin _ _ (hel _ (hcond S hS))

theorem OwnG.le {α : Type} {size : Nat} {el : List Nat → World → List Value → α → Prop} {B B' : Nat} {w : World} {e : TypeId} {v : Value} {xs : List α} (h : OwnG size el B w e v xs) (hB : B' ≤ B) : OwnG size el B' w e v xs := by
  obtain ⟨css, h1, h2, h3, h4⟩ := h
  refine ⟨css, h1, h2, ⟨h3.1, ?_⟩, fun i cs x hi hx S hS => h4 i cs x hi hx S fun b hb => (hS b hb).imp (by omega) id⟩
  rcases h3.2 with h | ⟨g, cap, cur, e1, hb, r⟩
  · exact .inl h
  · exact .inr ⟨g, cap, cur, e1, by omega, r⟩

/-- The finder in memory. -/
def FS (W : World) (F : Nat) (dv cv : Value) (L : Nat) (nd : Int) (fv : Value) : Prop := W.heap[F]? = some (.cells #[dv, cv, .int .i64 L, .int .i64 nd, fv] 90 (0, 0))
def BrPost (m : Mod) (L F : Nat) (dv cv : Value) (xss : List (List Int)) (fv : Value) (D : List Nat) (W : World) (e : Ending) (w' : World) : Prop :=
  (∃ v, e = .returned v) ∧ ∃ nd' fv', FS w' F dv cv L nd' fv' ∧ OwnG 1 elRow (F + 1) w' 23 fv' (xss ++ (sols m.cons D).take (L - xss.length)) ∧ Gr (F :: fv.ownBlock.toList) W w' ∧ (∀ b, fv'.ownBlock = some b → fv.ownBlock = some b ∨ W.heap.size ≤ b)

theorem Nums.sub0 {S : List Nat} {w : World} {k : IntKind} {v : Value} {xs : List Int} (h : Nums S w k v xs) : Nums [] w k v xs := h.sub (by simp)
theorem ModV.sub00 {S : List Nat} {w : World} {v : Value} {m : Mod} (h : ModV S w v m) : ModV [] w v m := ModV.sub h (by simp)

theorem FS.gr {W W' : World} {F : Nat} {dv cv : Value} {L : Nat} {nd : Int} {fv : Value} {S : List Nat} (h : FS W F dv cv L nd fv) (hg : Gr S W W') (hS : F ∉ S) : FS W' F dv cv L nd fv := hg.obj h hS

theorem firstsL_snoc {E : List Nat} {k d : Nat} (h : E[k]? = some d) : firstsL (E.take (k + 1)) = firstsL (E.take k) ++ [(vals d).headD 0] := by
  obtain ⟨h1, rfl⟩ := List.getElem?_eq_some_iff.1 h
  rw [List.take_succ_eq_append_getElem h1]; unfold firstsL; rw [List.map_append]; rfl
theorem take_more {α : Type} {A B : List α} {n : Nat} (h : (A.take n).length < n) : (A ++ B).take n = A.take n ++ B.take (n - (A.take n).length) := by
  have hA : A.length < n := by rw [List.length_take] at h; omega
  rw [List.take_append, List.take_of_length_le (by omega)]
theorem take_full {α : Type} {A B : List α} {n : Nat} (h : n ≤ (A.take n).length) : (A ++ B).take n = A.take n := by
  have hA : n ≤ A.length := by rw [List.length_take] at h; omega
  rw [List.take_append, Nat.sub_eq_zero_of_le hA]; simp
theorem firstsL_len (E : List Nat) : (firstsL E).length = E.length := by simp [firstsL]

set_option maxRecDepth 100000 in
set_option maxHeartbeats 2000000 in
theorem branch_c (m : Mod) (L F : Nat) (dv cv : Value) (hL : L ≤ 4096) (k : Nat) : ∀ (D : List Nat) (W : World) (fv dom : Value) (nd : Int) (xss : List (List Int)), D.sum < k → VCs m.cons D.length → Below64 D → 1 ≤ D.length → D.length ≤ 4 →
    (∀ S : List Nat, (∀ b ∈ S, F ≤ b) → ModV S W (.agg #[dv, cv]) m) → FS W F dv cv L nd fv → OwnG 1 elRow (F + 1) W 23 fv xss → Nums [F] W .i64 dom (ints D) → xss.length < L →
    Calls Tryz.prog 91 #[.pointer (some ⟨F, 0, none⟩), dom] W (BrPost m L F dv cv xss fv D W) := by
  induction k with
  | zero => intro D W fv dom nd xss h; omega
  | succ k ih =>
    intro D W fv dom nd xss hk hc hb hl1 hl4 hM hF hfo hdom hxL
    obtain ⟨fo, fc, rfl, hfc1, hfc2, _⟩ := hfo.slice
    obtain ⟨E, hE⟩ : ∃ E, E = fix m.cons D := ⟨_, rfl⟩
    have hEl : E.length = D.length := by rw [hE, fix_len hc]
    have hEb : Below64 E := by rw [hE]; exact fix_below hc hb
    have hEs : E.sum ≤ D.sum := by
      rcases Nat.lt_or_ge E.sum D.sum with h | h
      · omega
      · by_cases he : E = D
        · rw [he]; exact Nat.le_refl _
        · have := sum_lt (by rw [hE]; exact fix_sub hc) he; omega
    have hsol : sols m.cons D = sols m.cons E := by rw [hE, sols_fix hc]
    have hend := fix_end hc
    rw [← hE] at hend
    have HE := hid hE; have HEl := hid hEl; have HEb := hid hEb; have HC := hid hc; have HB := hid hb; have HM := hid hM; have HF := hid hF; have HFo := hid hfo; have Hdom := hid hdom; have Hih := hid ih; have Hsol := hid hsol; have Hend := hid hend
    have hE4 : E.length ≤ 4 := by omega
    have hE1 : 1 ≤ E.length := by omega
    have fE := fld hF
    have ffE := fldF hF
    have hFl := lt_of_block hF
    clear hE hEl hEb hc hb hM hF hfo hdom ih hsol hend
    go_enter Tryz.func91, Tryz.ntmps91
    go_wp2_with fail
    have hg1 : Gr [F] W (W.setCell ⟨F, 3, none⟩ (.int .i64 (wrap64 (nd + 1)))) := Gr.cell1 _ _ _ _ (by simp)
    have hcall := specFixpoint_c m D _ _ _ ((HM.out [F] (by simp)).gr hg1).sub00 ((Hdom.out.gr hg1).sub0) HC.out HB.out hl4
    (with_reducible refine hcall.mono ?_)
    clear hcall
    rintro e w2 ⟨v2, rfl, hown2, hg2⟩
    rw [← HE.out] at hown2
    obtain ⟨go, gc, rfl, ⟨hgo1, hgo2⟩, -, -⟩ := hown2.open (by rw [ints_len]; omega)
    rw [ints_len] at hown2 ⊢
    have hF2 : FS w2 F dv cv L (wrap64 (nd + 1)) (.slice fo xss.length fc) := hg2.obj (cells_set HF.out 3 _) (by simp)
    have hg02 : Gr [F] W w2 := hg1.trans hg2.any
    have hs2 := hg02.size
    have HF2 := hid hF2; have Hown2 := hid (hown2.le (B' := W.heap.size) (by simp)); have Hg02 := hid hg02
    have hFo2 := hid (HFo.out.gr elRow_ok hg02 (by simp))
    have hM2 : Hid (∀ S : List Nat, (∀ b ∈ S, F ≤ b) → ModV S w2 (.agg #[dv, cv]) m) := hid fun S hS => ((HM.out (F :: S) (by intro b hb; rcases List.mem_cons.1 hb with h | h; omega; exact hS b h)).gr (hg02.sub (fun k _ h => by simp at h ⊢; exact .inl h))).sub (fun b _ h => by simp [h])
    have hcell2 : Hid (∀ (i : Nat) d, E[i]? = some d → ∀ w', Gr [] w2 w' → w'.cell? ⟨go, i, none⟩ = some (.int .i64 (d : Int)) ∧ w'.frozen? ⟨go, i, none⟩ = false) := hid fun i d hd w' hg => (Hown2.out.gr hg (by simp)).at (by rw [ints_get, hd]; rfl)
    have hgoF : go ≠ F := by simp at hgo1; omega
    have hgoW : W.heap.size ≤ go := by simpa using hgo1
    clear hown2 hg2 hg1 hF2 fE ffE hgo1 hg02 Hdom
    go_wp2_with fail
    have hcall := hasEmpty_c _ _ w2 (Hown2.out.nums (S := []) (by simp))
    (with_reducible refine hcall.mono ?_)
    clear hcall
    rw [memB_ints]
    rintro e w' ⟨rfl, rfl⟩
    cases h0 : decide (0 ∈ E)
    rotate_left
    · have h0' : 0 ∈ E := by simpa using h0
      go_wp2_with fail
      refine bodyPost_end (results_none rfl _ _ _) rfl ?_
      refine ⟨⟨_, rfl⟩, _, _, HF2.out, ?_, Hg02.out.sub (fun k _ h => by simp at h ⊢; exact .inl h), fun b hb => .inl hb⟩
      rw [Hsol.out, sols_zero h0', List.take_nil, List.append_nil]
      exact hFo2.out
    have h0' : 0 ∉ E := by simpa using h0
    have H0 := hid h0'
    have hst : stepF m.cons E = E := by
      rcases Hend.out with h | h
      · exact absurd (by rw [h]; unfold zeros; exact List.mem_replicate.2 ⟨by omega, rfl⟩) h0'
      · exact h.2
    have Hst := hid hst
    clear h0 h0' hst Hend
    go_wp2_with fail
    go_loopw [5] (fun i wr => ∃ n : Nat, n ≤ E.length ∧ i = .int .i64 n ∧ (∀ (j : Nat) d, j < n → E[j]? = some d → (vals d).length = 1) ∧ Gr [] w2 wr) (fun i _ => E.length - (intOf i).toNat)
    case atStart => exact ⟨0, by omega, rfl, by intro j d hj; omega, Gr.refl _ _⟩
    case round =>
      obtain ⟨n, hn, rfl, hbef, hg⟩ := hrel
      have Hbef := hid hbef
      have hF3 := (FS.gr HF2.out hg (by simp))
      have HF3 := hid hF3
      have hsr := hg.size
      clear hbef hF3
      by_cases hlt : n < E.length
      · obtain ⟨d, hd⟩ := get_some hlt
        have hd64 := HEb.out d (List.mem_of_getElem? hd)
        obtain ⟨hc1, hc2⟩ := hcell2.out n d hd wr hg
        have Hd := hid hd; have Hg := hid hg; clear hd hg
        go_wp2_with fail
        have hcall := domainValues_c d hd64 wr
        (with_reducible refine hcall.mono ?_)
        clear hcall
        rintro e w3 ⟨v3, rfl, hown3, hg3⟩
        obtain ⟨vo3, vc3, rfl⟩ := hown3.c.form
        have hvl : (vals d).length ≤ 6 := vals_length d
        have Hg3 := hid (Hg.out.trans hg3)
        clear hown3 hg3
        cases h1 : (((vals d).length : Int) == 1)
        · have h1' : (vals d).length ≠ 1 := by simp at h1; omega
          have hop : openAt E = n := openAt_of Hbef.out hn (fun d' hd' => by rw [Hd.out] at hd'; cases hd'; exact h1')
          have Hop := hid hop; have H1 := hid h1'
          clear h1' hop
          obtain ⟨hc31, hc32⟩ := hcell2.out n d Hd.out w3 Hg3.out
          have hne : ¬ (n = E.length) := by omega
          go_wp2_with fail
          have hcall := domainValues_c d hd64 w3
          (with_reducible refine hcall.mono ?_)
          clear hcall
          rintro e w4 ⟨v4, rfl, hown4, hg4⟩
          have hg24 := Hg3.out.trans hg4
          have hsz4 := hg24.size
          obtain ⟨vo4, vc4, rfl⟩ := hown4.c.form
          have HF4 := hid (FS.gr HF2.out hg24 (by simp)); have HFo4 := hid (hFo2.out.gr elRow_ok hg24 (by simp)); have Hown4 := hid hown4; have Hg24 := hid hg24
          have hM4 : Hid (∀ S : List Nat, (∀ b ∈ S, F ≤ b) → ModV S w4 (.agg #[dv, cv]) m) := hid fun S hS => (hM2.out S hS).gr hg24.any
          have hfoW : ∀ b, (Value.slice fo xss.length fc).ownBlock = some b → b < W.heap.size := fun b hb => (HFo.out.ownB hb).2
          have HfoW := hid hfoW
          have hw3 : W.heap.size ≤ w3.heap.size := by have := Hg3.out.size; omega
          clear hown4 hg4 hg24 hc31 hc32 hfoW hc1 hc2
          go_wp2_with fail
          go_loopw [9] (fun i wr => ∃ (j : Nat) (nd' : Int) (fv' : Value) (yss : List (List Int)), j ≤ (vals d).length ∧ i = .int .i64 j ∧ FS wr F dv cv L nd' fv' ∧ OwnG 1 elRow (F + 1) wr 23 fv' (xss ++ yss) ∧ yss = (((vals d).take j).flatMap fun v => sols m.cons (E.set n (2 ^ v.toNat))).take (L - xss.length) ∧
            Gr (F :: (Value.slice fo xss.length fc).ownBlock.toList) w4 wr ∧ (∀ b, fv'.ownBlock = some b → (Value.slice fo xss.length fc).ownBlock = some b ∨ w4.heap.size ≤ b)) (fun i _ => (vals d).length - (intOf i).toNat)
          case atStart => exact ⟨0, _, _, [], by omega, rfl, HF4.out, by simpa using HFo4.out, by simp, Gr.refl _ _, fun b hb => .inl hb⟩
          case round =>
            obtain ⟨j, nd', fv', yss, hj, rfl, hFr, hFor, hys, hgr, hfb⟩ := hrel
            obtain ⟨zss, hz⟩ : ∃ zss, zss = xss ++ yss := ⟨_, rfl⟩
            rw [← hz] at hFor
            have Hz := hid hz
            have HZl : Hid (zss.length = xss.length + yss.length) := hid (by rw [hz, List.length_append])
            clear hz
            have fFr := fld hFr
            have ffFr := fldF hFr
            have hFlr := lt_of_block hFr
            have hsr2 := hgr.size
            obtain ⟨fo', fc', rfl, hfc1', hfc2', _⟩ := hFor.slice
            have hfin : ∀ zs, (vals d).take j ++ zs = vals d → xss ++ yss = xss ++ (sols m.cons D).take (L - xss.length) → True := fun _ _ _ => trivial
            have HFr := hid hFr; have HFor := hid hFor; have Hys := hid hys; have Hgr := hid hgr; have Hfb := hid hfb
            clear hFr hFor hys hgr hfb hfin
            have Hsp := hid (sols_split m.cons E d (by rw [Hop.out]; exact Hd.out))
            have hT0 : ∀ b, b ∈ F :: (Value.slice fo xss.length fc).ownBlock.toList → b < W.heap.size ∧ F ≤ b := fun b hb => by
              rcases List.mem_cons.1 hb with h | h
              · subst h; exact ⟨hFl, Nat.le_refl _⟩
              · have := HFo.out.ownB (b := b) (by simpa using h); omega
            have HT := hid hT0
            have HG2r : Hid (Gr (F :: (Value.slice fo xss.length fc).ownBlock.toList) w2 wr) := hid (Hg24.out.any.trans Hgr.out)
            have HGWr : Hid (Gr (F :: (Value.slice fo xss.length fc).ownBlock.toList) W wr) := hid ((Hg02.out.sub (fun k _ h => by simp at h ⊢; exact .inl h)).trans HG2r.out)
            have HfbW : Hid (∀ b, (Value.slice fo' zss.length fc').ownBlock = some b → (Value.slice fo xss.length fc).ownBlock = some b ∨ W.heap.size ≤ b) := hid fun b hb => (Hfb.out b hb).imp id (by omega)
            clear hT0
            by_cases hjl : j < (vals d).length
            · by_cases hxl : zss.length < L
              · obtain ⟨v, hv⟩ := get_some hjl
                obtain ⟨u, rfl, hu6, hub⟩ := mem_vals.1 (List.mem_of_getElem? hv)
                have htk : (vals d).take (j + 1) = (vals d).take j ++ [(u : Int)] := by
                  obtain ⟨h1, h2⟩ := List.getElem?_eq_some_iff.1 hv
                  rw [List.take_succ_eq_append_getElem h1, h2]
                have hsub := set_sub Hd.out hub
                have hne2 : E.set n (2 ^ u) ≠ E := fun e => by
                  have h1 := congrArg (fun l => l[n]?) e
                  rw [List.getElem?_set_self hlt] at h1
                  rw [Hd.out] at h1
                  have h2 : 2 ^ u = d := by simpa using h1
                  have h3 := vals_two_pow hu6
                  rw [h2] at h3
                  exact H1.out (by rw [h3]; rfl)
                have hsm := sum_lt hsub hne2
                have hpw : wrap64 (2 ^ u) = ((2 ^ u : Nat) : Int) := by
                  have h := pow_shl u hu6
                  rw [Int.one_mul] at h
                  rw [← IntWalk.i64_left]; exact h
                have Htk := hid htk; have Hsub := hid hsub; have Hpw := hid hpw; have Hv := hid hv
                have hn4 : Nums (F :: (Value.slice fo xss.length fc).ownBlock.toList) w4 .i64 (.slice vo4 (vals d).length vc4) (vals d) := Hown4.out.nums' fun b hb => .inl (by have := HT.out b hb; omega)
                have Hn4 := hid (hn4.gr Hgr.out)
                have hown2r := Hown2.out.keep HG2r.out (fun hm => by have := HT.out go hm; omega)
                have Hown2r := hid hown2r
                clear htk hsub hne2 hpw hv hn4 hown2r hub
                go_wp2_with fail
                go_quiet (fail)
                go_wp2_with fail
                have hgq : Gr [] wr (wr.drewN nq) := (Gr.refl _ _).drewN nq
                have hcall := copyInts_c _ (ints E) _ ((Hown2r.out.gr hgq (by simp)).nums (by simp)) (by rw [ints_len]; omega)
                (with_reducible refine hcall.mono ?_)
                clear hcall
                rintro e w5 ⟨v5, rfl, hown5, hg5⟩
                have hg5r : Gr [] wr w5 := hgq.trans hg5
                have hown5' : Own wr.heap.size w5 3 v5 (ints E) := hown5
                obtain ⟨g5, c5, rfl, ⟨h51, h52⟩, -, -⟩ := hown5'.open (by rw [ints_len]; omega)
                rw [ints_len] at hown5' ⊢
                obtain ⟨hc51, hc52⟩ := hown5'.at (i := n) (x := (d : Int)) (by rw [ints_get, Hd.out]; rfl)
                obtain ⟨b4, o4, rfl, _, hc4⟩ := (Hn4.out.gr hg5r.any).at Hv.out
                have hlt5 := Nat.lt_of_lt_of_le hFlr hg5r.size
                have HG6 : Hid (Gr [] wr (w5.setCell ⟨g5, n, none⟩ (.int .i64 (wrap64 (2 ^ u))))) := hid (hg5r.setCell _ _ (.inr h51))
                have Hset : Hid (Own wr.heap.size (w5.setCell ⟨g5, n, none⟩ (.int .i64 (wrap64 (2 ^ u)))) 3 (.slice (some ⟨g5, 0, none⟩) E.length c5) (ints (E.set n (2 ^ u)))) := hid (by
                  have h := hown5'.set n (wrap64 (2 ^ u)) (by rw [ints_len]; exact hlt)
                  rwa [Hpw.out, ← ints_set, ← Hpw.out] at h)
                clear hown5 hown5' hg5 hgq hg5r
                go_wp2_with fail
                have hcall := Hih.out (E.set n (2 ^ u)) (w5.setCell ⟨g5, n, none⟩ (.int .i64 (wrap64 (2 ^ u)))) (.slice fo' zss.length fc') (.slice (some ⟨g5, 0, none⟩) E.length c5) nd' zss (by omega)
                  (by rw [List.length_set, HEl.out]; exact HC.out) (Hsub.out.below HEb.out) (by rw [List.length_set]; exact hE1) (by rw [List.length_set]; exact hE4)
                  (fun S hS => (((hM4.out ((F :: (Value.slice fo xss.length fc).ownBlock.toList) ++ S) (by intro b hb; rcases List.mem_append.1 hb with h | h; exact (HT.out b h).2; exact hS b h)).gr ((Hgr.out.trans HG6.out.any).sub (fun k _ h => List.mem_append.2 (.inl h)))).sub (fun b _ h => List.mem_append.2 (.inr h))))
                  (FS.gr HFr.out HG6.out (by simp)) (HFor.out.gr elRow_ok HG6.out (by simp)) (Hset.out.nums' (by intro b hb; simp at hb; subst hb; exact .inl hFlr)) hxl
                (with_reducible refine hcall.mono ?_)
                clear hcall
                rintro e w7 ⟨⟨ev, rfl⟩, nd7, fv7, hF7, hfo7, hg7, hb7⟩
                have HF7 := hid hF7; have Hfo7 := hid hfo7; have Hg7 := hid hg7; have Hb7 := hid hb7
                clear hF7 hfo7 hg7 hb7
                go_wp2_with fail
                have hs6 := HG6.out.size
                refine ⟨⟨j + 1, nd7, fv7, yss ++ (sols m.cons (E.set n (2 ^ u))).take (L - zss.length), by omega, by go_num, HF7.out, by have := Hfo7.out; rwa [Hz.out, List.append_assoc, ← Hz.out] at this, ?_, ?_, ?_⟩, by simp [intOf]; omega⟩
                · rw [Htk.out, List.flatMap_append, take_more (by rw [← Hys.out]; have := HZl.out; omega), ← Hys.out]
                  simp only [List.flatMap_cons, List.flatMap_nil, List.append_nil, Int.toNat_natCast, HZl.out, Nat.sub_sub]
                · refine (Hgr.out.trans HG6.out.any).step Hg7.out fun i hi => ?_
                  rcases List.mem_cons.1 hi with h | h
                  · exact .inl (by simp [h])
                  · rcases Hfb.out i (by simpa using h) with h | h
                    · exact .inl (by simp [h])
                    · exact .inr h
                · intro b hb
                  rcases Hb7.out b hb with h | h
                  · exact Hfb.out b h
                  · exact .inr (by omega)
              · go_wp2_with fail
                go_quiet (fail)
                go_wp2_with fail
                refine bodyPost_end (results_none rfl _ _ _) rfl ?_
                have hgq : Gr [] wr (wr.drewN nq) := (Gr.refl _ _).drewN nq
                refine ⟨⟨_, rfl⟩, nd', _, FS.gr HFr.out hgq (by simp), ?_, HGWr.out.trans hgq.any, HfbW.out⟩
                have hy : (sols m.cons D).take (L - xss.length) = yss := by
                  rw [Hsol.out, Hsp.out, Hop.out, Hys.out]
                  conv => lhs; rw [← List.take_append_drop j (vals d), List.flatMap_append]
                  exact take_full (by rw [← Hys.out]; have := HZl.out; omega)
                rw [hy, ← Hz.out]
                exact HFor.out.gr elRow_ok hgq (by simp)
            · go_wp2_with fail
              go_quiet (fail)
              go_wp2_with fail
              refine bodyPost_end (results_none rfl _ _ _) rfl ?_
              have hgq : Gr [] wr (wr.drewN nq) := (Gr.refl _ _).drewN nq
              refine ⟨⟨_, rfl⟩, nd', _, FS.gr HFr.out hgq (by simp), ?_, HGWr.out.trans hgq.any, HfbW.out⟩
              have hy : (sols m.cons D).take (L - xss.length) = yss := by
                rw [Hsol.out, Hsp.out, Hop.out, Hys.out, List.take_of_length_le (show (vals d).length ≤ j by omega)]
              rw [hy, ← Hz.out]
              exact HFor.out.gr elRow_ok hgq (by simp)
        · have h1' : (vals d).length = 1 := by simp at h1; omega
          have H1 := hid h1'
          clear h1'
          go_wp2_with fail
          refine ⟨⟨n + 1, by omega, by go_num, ?_, Hg3.out⟩, by simp [intOf]; omega⟩
          intro j d' hj hd'
          by_cases hjn : j < n
          · exact Hbef.out j d' hjn hd'
          · have : j = n := by omega
            subst this
            rw [Hd.out] at hd'; cases hd'; exact H1.out
      · have hnE : n = E.length := by omega
        subst hnE
        have hop : openAt E = E.length := openAt_of Hbef.out (Nat.le_refl _) (fun d hd => by simp at hd)
        have Hop := hid hop; have Hg := hid hg
        clear hop hg
        go_wp2_with fail
        obtain ⟨wA, hwA⟩ : ∃ wA : World, wA = wr := ⟨_, rfl⟩
        rw [← hwA] at HF3 Hg hsr ⊢
        clear hwA
        go_loopw [6, 7] (fun v i wi => ∃ (j : Nat) (xs : List Int), j ≤ E.length ∧ i = .int .i64 j ∧ Own wA.heap.size wi 3 v xs ∧ xs = firstsL (E.take j) ∧ Gr [] wA wi) (fun _ i _ => E.length - (intOf i).toNat)
        case atStart => exact ⟨0, [], by omega, rfl, Own.empty _ _ (Nat.le_refl _), by simp [firstsL], (Gr.refl _ _).alloc _⟩
        case round =>
          obtain ⟨j, xs, hj, rfl, hown, hxs, hgi⟩ := hrel
          have hsi := hgi.size
          have hxl : xs.length = j := by rw [hxs, firstsL_len, List.length_take]; omega
          have Hxs := hid hxs; have Hgi := hid hgi; have Hown := hid hown; have Hxl := hid hxl
          have hxl4 : xs.length ≤ 4 := by omega
          clear hxs hgi hxl
          by_cases hlt2 : j < E.length
          · obtain ⟨d, hd⟩ := get_some hlt2
            have hd64 := HEb.out d (List.mem_of_getElem? hd)
            obtain ⟨hc1, hc2⟩ := hcell2.out j d hd wr (Hg.out.trans Hgi.out)
            have hv1 := Hbef.out j d hlt2 hd
            have hf := firstsL_snoc hd
            have Hf := hid hf; have Hv1 := hid hv1
            clear hd hv1 hf hown
            go_wp2_with fail
            have hcall := domainValues_c d hd64 wr
            (with_reducible refine hcall.mono ?_)
            clear hcall
            rintro e w3 ⟨v3, rfl, hown3, hg3⟩
            obtain ⟨x0, hx0⟩ := get_some (xs := vals d) (k := 0) (by have := Hv1.out; omega)
            obtain ⟨g3, c3, rfl, -, -, -⟩ := hown3.open (by have := Hv1.out; omega)
            obtain ⟨hc31, hc32⟩ := hown3.at hx0
            have hv0 : 0 < (vals d).length := by have := Hv1.out; omega
            have hl3 := World.block_lt_of_cell? _ _ hc31
            dsimp only at hl3
            have hhd : (vals d).headD 0 = x0 := by
              cases hvd : vals d with
              | nil => rw [hvd] at hx0; simp at hx0
              | cons a r => rw [hvd] at hx0; simpa using hx0
            have Hhd := hid hhd
            have Hown3 := hid (Hown.out.gr hg3 (by simp <;> omega)); have Hg3 := hid (Hgi.out.trans hg3)
            have hs3 := Hg3.out.size
            clear hown3 hg3 hx0 hhd
            go_wp2_with (at_builtin; refine wp_app1 rfl _ _ 23 rfl wA.heap.size 3 infoInt Tryz.underlying23 _ xs rfl (Hown3.out.alloc _) _ 1 x0 rfl (cell_new _ _ _) (by omega) (by simp <;> omega) ?_; intro v' w4 hown4 hb4)
            refine ⟨⟨j + 1, xs ++ [x0], by omega, by go_num, hown4, ?_, ?_⟩, by simp [intOf]; omega⟩
            · rw [Hf.out, Hxs.out, Hhd.out]
            · exact (Hg3.out.alloc _).low hb4 (Nat.le_refl _)
          · have hjE : j = E.length := by omega
            have hxf : xs = firstsL E := by rw [Hxs.out, List.take_of_length_le (by omega)]
            have Hxf := hid hxf
            clear hxf hjE
            obtain ⟨xo, xc, rfl⟩ := hown.c.form
            clear hown
            have hgw : Gr [] w2 wr := Hg.out.trans Hgi.out
            have HFr := hid (FS.gr HF2.out hgw (by simp)); have HFor := hid (hFo2.out.gr elRow_ok hgw (by simp)); have Hgw := hid hgw
            have fFr := fld HFr.out
            have ffFr := fldF HFr.out
            have hFlr := lt_of_block HFr.out
            have hswr := hgw.size
            have hga : Gr [] wr (wr.alloc (.cells #[.slice xo xs.length xc] 23)) := (Gr.refl _ _).alloc _
            have Hga := hid hga
            have Hel : Hid (∀ S : List Nat, (∀ b ∈ S, b < wA.heap.size ∨ (wr.alloc (.cells #[.slice xo xs.length xc] 23)).heap.size ≤ b) → elRow S (wr.alloc (.cells #[.slice xo xs.length xc] 23)) [.slice xo xs.length xc] xs) :=
              hid fun S hS => ⟨_, rfl, (Hown.out.gr Hga.out (by simp)).nums' hS⟩
            have hfoW : ∀ b, (Value.slice fo xss.length fc).ownBlock = some b → b < W.heap.size := fun b hb => (HFo.out.ownB hb).2
            have HfoW := hid hfoW
            clear hgw hga hfoW HF3
            go_wp2_with (at_builtin; refine wp_appGw rfl _ _ 32 rfl 1 elRow elRow_ok (F + 1) 23 (.slice none 0 0) 24 infoR rfl (by omega) (by omega) Tryz.underlying32 (.slice fo xss.length fc) xss rfl (HFor.out.gr elRow_ok Hga.out (by simp)) wr.heap.size 1 xs [.slice xo xs.length xc] rfl rfl (by simp [Value.oneCell']) (fun j u hj => by rw [fld (heap_alloc_new wr (.cells #[.slice xo xs.length xc] 23))]; simpa using hj) (fun S hS => Hel.out S fun b hb => (hS b hb).elim (fun h => .inl (by omega)) fun h => h.elim .inr fun h => .inl (by have := HfoW.out b h; omega)) (by omega) (by simp; omega) ?_; intro v5 w5 hown5 hg5 hb5; have hF5 : FS w5 F dv cv L (wrap64 (nd + 1)) (.slice fo xss.length fc) := FS.gr (FS.gr HFr.out Hga.out (by simp)) hg5 (by intro hm; have := HFo.out.ownB (b := F) (by simpa using hm); omega); have fl5 := fld hF5; have ff5 := fldF hF5; have HF5 := hid hF5; have Hown5 := hid hown5; have Hg5 := hid hg5; have Hb5 := hid hb5; obtain ⟨fo5, fc5, rfl, _, _, _⟩ := hown5.slice; clear hF5 hown5 hg5 hb5)
            refine bodyPost_end (results_none rfl _ _ _) rfl ?_
            have e : (xss ++ [xs]).length = xss.length + 1 := by simp
            rw [e] at Hown5 Hb5
            have hgs : Gr [F] w5 (w5.setCell ⟨F, 4, none⟩ (.slice fo5 (xss.length + 1) fc5)) := Gr.cell1 _ _ _ _ (by simp)
            refine ⟨⟨_, rfl⟩, wrap64 (nd + 1), .slice fo5 (xss.length + 1) fc5, cells_set HF5.out 4 _, ?_, ?_, ?_⟩
            · have hs1 : (sols m.cons D).take (L - xss.length) = [xs] := by
                rw [Hsol.out, sols_single (by rw [HEl.out]; exact HC.out) H0.out Hst.out Hop.out, ← Hxf.out]
                exact List.take_of_length_le (by simp; omega)
              rw [hs1]
              exact Hown5.out.gr elRow_ok hgs (by simp)
            · refine ((((Hg02.out.trans Hgw.out.any).trans Hga.out.any).sub (fun k _ h => by simp at h ⊢; exact .inl h)).trans (Hg5.out.sub (fun k _ h => by simp at h ⊢; exact .inr h))).trans (hgs.sub (fun k _ h => by simp at h ⊢; exact .inl h))
            · intro b hb
              rcases Hb5.out b hb with h | h
              · exact .inl h
              · right
                have h1 := Hga.out.size
                have h2 := Hgw.out.size
                omega

/-- What the reference's search returns: the first solutions, and the number of nodes. -/
def SolvePost (m : Mod) (D : List Nat) (L : Nat) (w : World) (e : Ending) (w' : World) : Prop :=
  ∃ (v : Value) (nd : Int), e = .returned (.tuple #[v, .int .i64 nd]) ∧ OwnG 1 elRow w.heap.size w' 23 v ((sols m.cons D).take L) ∧ Gr [] w w'

set_option maxRecDepth 100000 in
theorem solve_c (m : Mod) (D : List Nat) (L : Nat) (mv : Value) (w : World) (hv : ModV [] w mv m) (hVM : VM m D) (hL1 : 1 ≤ L) (hL2 : L ≤ 4096) :
    Calls Tryz.prog 67 #[mv, .int .i64 L] w (SolvePost m D L w) := by
  have Hv := hid hv
  obtain ⟨dv, cv, rfl, hdv, hcv⟩ := hv
  have hg0 : Gr [] w (w.alloc (.cells #[dv, cv] 26)) := (Gr.refl _ _).alloc _
  have hb0 : (w.alloc (.cells #[dv, cv] 26)).heap[w.heap.size]? = some (.cells #[dv, cv] 26 (0, 0)) := heap_alloc_new _ _
  have hg1 : Gr [] w ((w.alloc (.cells #[dv, cv] 26)).alloc (.cells #[dv, cv, .int .i64 L, .int .i64 0, .slice none 0 0] 90)) := hg0.alloc _
  have hb1 : ((w.alloc (.cells #[dv, cv] 26)).alloc (.cells #[dv, cv, .int .i64 L, .int .i64 0, .slice none 0 0] 90)).heap[w.heap.size]? = some (.cells #[dv, cv] 26 (0, 0)) := (heap_alloc_old _ _ (by simp)).trans hb0
  have hF1 : FS ((w.alloc (.cells #[dv, cv] 26)).alloc (.cells #[dv, cv, .int .i64 L, .int .i64 0, .slice none 0 0] 90)) (w.heap.size + 1) dv cv L 0 (.slice none 0 0) := by
    have := heap_alloc_new (w.alloc (.cells #[dv, cv] 26)) (.cells #[dv, cv, .int .i64 L, .int .i64 0, .slice none 0 0] 90)
    rwa [World.size_alloc] at this
  have hM : ∀ S : List Nat, (∀ b ∈ S, w.heap.size + 1 ≤ b) → ModV S ((w.alloc (.cells #[dv, cv] 26)).alloc (.cells #[dv, cv, .int .i64 L, .int .i64 0, .slice none 0 0] 90)) (.agg #[dv, cv]) m := fun S hS =>
    (ModV.sub (S' := S) Hv.out (fun b hb hm => by have := hS b hm; omega)).gr hg1.any
  have hd1 : Nums [w.heap.size + 1] ((w.alloc (.cells #[dv, cv] 26)).alloc (.cells #[dv, cv, .int .i64 L, .int .i64 0, .slice none 0 0] 90)) .i64 dv (ints D) :=
    ((hVM.doms ▸ hdv : Nums [] w .i64 dv (ints D)).sub (S' := [w.heap.size + 1]) (fun b hb hm => by simp at hm; omega)).gr hg1.any
  have fl0 := fld hb0
  have fl1 := fld hb1
  have HG1 := hid hg1; have HF1 := hid hF1; have HM := hid hM; have HD1 := hid hd1; have HVM := hid hVM
  clear hb0 hb1 hg0 hg1 hF1 hM hd1 hdv hcv hVM
  go_enter Tryz.func67, Tryz.ntmps67
  go_wp2_with fail
  have hcall := branch_c m L (w.heap.size + 1) dv cv hL2 (D.sum + 1) D _ (.slice none 0 0) dv 0 [] (by omega) HVM.out.cons HVM.out.below HVM.out.len.1 HVM.out.len.2 HM.out HF1.out (OwnG.nil _ _ _) HD1.out (by simp; omega)
  (with_reducible refine hcall.mono ?_)
  clear hcall
  rintro e w2 ⟨⟨ev, rfl⟩, nd, fv, hF2, hfo2, hg2, _⟩
  rw [List.nil_append, List.length_nil, Nat.sub_zero] at hfo2
  obtain ⟨zs, hz⟩ : ∃ zs, zs = (sols m.cons D).take L := ⟨_, rfl⟩
  rw [← hz] at hfo2
  have Hz := hid hz
  clear hz
  have fF2 := fld hF2
  obtain ⟨fo, fc, rfl, _, _, _⟩ := hfo2.slice
  have Hfo2 := hid hfo2; have Hg2 := hid hg2
  clear hF2 hfo2 hg2 fl0 fl1
  go_wp2_with fail
  go_quiet (fail)
  go_wp2_with fail
  go_ret2
  have hgq : Gr [] w2 (w2.drewN nq) := (Gr.refl _ _).drewN nq
  refine ⟨_, nd, rfl, ?_, ((HG1.out.step Hg2.out (fun i hi => .inr (by simp [Value.ownBlock] at hi; omega)))).trans hgq⟩
  rw [← Hz.out]
  exact OwnG.le (Hfo2.out.gr elRow_ok hgq (by simp)) (by omega)

end Go.Proofs.YtilcicoekpmelaaGreatDoor
