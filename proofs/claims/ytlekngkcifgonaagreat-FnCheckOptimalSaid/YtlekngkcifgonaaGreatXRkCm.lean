/-
  A call that reads alone may be taken first in a region that draws its order, as the kit's law has it for loads (Derived/OrdersHeld). No program is mentioned.
  Walks: the comparison of literals.
-/
import Derived.WalkKit
import Derived.OrdersHeld
import Derived.Deep.RegionHeld
import Derived.Test.YtlekngkcifgonaaGreatXLnLo
import Derived.Test.YtlekngkcifgonaaGreatXEE
import Derived.Deep.RegionHeldLaw
import Derived.Laws.EntriesVeiled
import Derived.Maps.Keyed
set_option linter.unusedVariables false
namespace Go.Proofs.YtlekngkcifgonaaGreat
open Go.RowKit

section
variable {P : Program} {ops : Array Oper} {Q : Exit → Act → World → Prop} {md : Region.Mode} {S : World → Prop}
/-- In state 'a', in every world that meets S, the call 'o' gives 'v' and leaves the world as it is. -/
def YieldsK (P : Program) (ops : Array Oper) (S : World → Prop) (o : Oper) (v : Value) (a : Act) : Prop :=
  Region.wanted o (yielded ops a.tmps) = true ∧ ∃ f args, ∀ w, S w → (execOp a.eval o).run P w = .ok (.enter f args) w ∧ Calls P f args w fun e w' => e = .returned v ∧ w' = w
theorem YieldsK.wpOp {i : Nat} {o : Oper} {v : Value} {a : Act} (hi : ops[i]? = some o) (hy : YieldsK P ops S o v a)
    {K : Act → World → Prop} {w : World} (hS : S w) (h : K (a.put o.dst v) w) : Go.wpOp P ops Q i K a w := by
  obtain ⟨hw, f, args, hr⟩ := hy
  obtain ⟨h1, h2⟩ := hr w hS
  unfold Go.wpOp
  simp only [hi, hw, if_true, Oper.wp, h1, Oper.upon]
  refine .inl (h2.mono ?_)
  rintro e w' ⟨rfl, rfl⟩
  exact h
theorem YieldsK.of_same {o : Oper} {v : Value} {a a' : Act} (hy : YieldsK P ops S o v a) (he : execOp a'.eval o = execOp a.eval o)
    (hw : Region.wanted o (yielded ops a'.tmps) = Region.wanted o (yielded ops a.tmps)) : YieldsK P ops S o v a' := by
  unfold YieldsK at *
  rw [he, hw]
  exact hy
theorem wpOp_putK {j : Nat} {oi oj : Oper} {v : Value} (hj : ops[j]? = some oj) (hap : oi.apart ops oj = true)
    (hsi : ∀ cs b, oi.op ≠ .select cs b) (hsj : ∀ cs b, oj.op ≠ .select cs b)
    (hQ : ∀ c a w, Q (.panic c) (a.put oi.dst v) w → Q (.panic c) a w) {K : Act → World → Prop} {a : Act} {w : World}
    (hy : YieldsK P ops S oi v a) (h : Go.wpOp P ops Q j K (a.put oi.dst v) w) :
    Go.wpOp P ops Q j (fun a' w' => YieldsK P ops S oi v a' ∧ K (a'.put oi.dst v) w') a w := by
  obtain ⟨h1, h2, h3⟩ := Oper.apart_spec hap
  have keep : ∀ (a : Act), YieldsK P ops S oi v a → ∀ u, YieldsK P ops S oi v (a.put oj.dst u) := fun a hy u => hy.of_same (execOp_put oi hsi a oj.dst u h3) (wanted_put oi a oj.dst u h3)
  have keepD : ∀ d, YieldsK P ops S oi v { a with defers := d :: a.defers } := fun d => hy.of_same rfl rfl
  unfold Go.wpOp at *
  simp only [hj] at *
  rw [wanted_put oj a oi.dst v h1] at h
  split
  · rename_i hw
    simp only [hw, if_true] at h
    rcases h with h | ⟨hasks, hlets⟩
    case inr => exact .inr ⟨by unfold Oper.asks at *; rw [execOp_put oj hsj a oi.dst v h1] at hasks; exact hasks, hlets⟩
    refine .inl ?_
    unfold Oper.wp at *
    rw [execOp_put oj hsj a oi.dst v h1] at h
    generalize (execOp a.eval oj).run P w = r at *
    cases r with
    | ok n w' =>
      cases n <;> simp only [Oper.upon] at h ⊢
      case value u => exact ⟨keep a hy u, by rw [← Act.put_comm a v u h2]; exact h⟩
      case skip => exact ⟨keep a hy _, by rw [← Act.put_comm a v undef h2]; exact h⟩
      case defer d =>
        refine ⟨keep _ (keepD d) _, ?_⟩
        rw [← Act.put_comm _ v undef h2, ← Act.put_defers]
        exact h
      case enter f args =>
        refine Calls.mono h fun e w'' he => ?_
        cases e with
        | returned u => exact ⟨keep a hy u, by rw [← Act.put_comm a v u h2]; exact he⟩
        | panicked c => exact hQ _ _ _ he
        | outgrown => exact he
      case row row args => exact Rows.mono h fun u w'' he => ⟨keep a hy u, by rw [← Act.put_comm a v u h2]; exact he⟩
    | halt x w' =>
      cases x <;> simp only [Oper.upon] at h ⊢
      case panic u => exact hQ _ _ _ h
  · rename_i hw
    simp only [hw] at h
    exact ⟨keep a hy _, by rw [← Act.put_comm a v undef h2]; exact h⟩
theorem wpAnyH_firstK {i : Nat} {oi : Oper} {v : Value} (hi : ops[i]? = some oi) (hsel : ∀ (j : Nat) (o : Oper) cs b, ops[j]? = some o → o.op ≠ .select cs b)
    (hQ : ∀ c a w, Q (.panic c) (a.put oi.dst v) w → Q (.panic c) a w) :
    ∀ (fuel : Nat) (listed : Array Bool) (a : Act) (w : World),
      (∀ j oj, ops[j]? = some oj → j ≠ i → listed.getD j true = false → (∀ e ∈ oj.after, Region.binds md e = true → e.on ≠ i) → oi.apart ops oj = true) →
      i ∈ Region.ready md ops listed → YieldsK P ops S oi v a → S w →
      wpAnyH P md ops Q S fuel (listed.setIfInBounds i true) (a.put oi.dst v) w → wpAnyH P md ops Q S (fuel + 1) listed a w := by
  intro fuel
  induction fuel with
  | zero =>
    intro listed a w _ hr hy hS H
    refine ⟨fun h => (by rw [h] at hr; cases hr), fun j hj => ?_⟩
    by_cases hji : j = i
    · subst hji; exact hy.wpOp hi hS ⟨hS, H⟩
    · have := ready_mono hj hji
      rw [H.1] at this
      cases this
  | succ fuel ih =>
    intro listed a w hfree hr hy hS H
    refine ⟨fun h => (by rw [h] at hr; cases hr), fun j hj => ?_⟩
    by_cases hji : j = i
    · subst hji; exact hy.wpOp hi hS ⟨hS, H⟩
    · have h1 := H.2 j (ready_mono hj hji)
      obtain ⟨hjun, oj, hoj, hall⟩ := mem_ready.1 hj
      have hnot : ∀ e ∈ oj.after, Region.binds md e = true → e.on ≠ i := fun e he hb heq => by
        have h1 := hall e he hb
        have h0 := (mem_ready.1 hr).1
        rw [heq] at h1
        rcases Nat.lt_or_ge i listed.size with h' | h'
        · simp [h'] at h0 h1; rw [h0] at h1; cases h1
        · simp [Array.getElem?_eq_none h'] at h1
      have h2 := wpOp_putK hoj (hfree j oj hoj hji hjun hnot) (fun cs b => hsel i oi cs b hi) (fun cs b => hsel j oj cs b hoj) hQ hy h1
      have hfree' : ∀ k ok, ops[k]? = some ok → k ≠ i → (listed.setIfInBounds j true).getD k true = false →
          (∀ e ∈ ok.after, Region.binds md e = true → e.on ≠ i) → oi.apart ops ok = true := fun k ok hk hki hun hno => by
        refine hfree k ok hk hki ?_ hno
        by_cases hjk : j = k
        · subst hjk; exact hjun
        · rw [getD_set_ne true hjk] at hun; exact hun
      refine wpOp_mono (fun a' w' h3 => ⟨h3.2.1, ih (listed.setIfInBounds j true) a' w' hfree' (ready_mono hr (Ne.symm hji)) h3.1 h3.2.1 ?_⟩) h2
      rw [Array.setIfInBounds_comm _ _ hji]
      exact h3.2.2
/-- Take the call of number 'i' first. -/
theorem wpAnyH_takeK {i : Nat} {oi : Oper} {v : Value} {fuel : Nat} {listed : Array Bool} {a : Act} {w : World} (hi : ops[i]? = some oi)
    (hs : Region.noSelect ops = true) (hf : Region.free md ops listed i = true) (hr : (Region.ready md ops listed).contains i = true)
    (hQ : ∀ c a w, Q (.panic c) (a.put oi.dst v) w → Q (.panic c) a w) (hy : YieldsK P ops S oi v a) (hS : S w)
    (h : wpAnyH P md ops Q S fuel (listed.setIfInBounds i true) (a.put oi.dst v) w) : wpAnyH P md ops Q S (fuel + 1) listed a w :=
  wpAnyH_firstK hi (Region.noSelect_spec hs) hQ fuel listed a w (Region.free_spec hi hf) (by simpa using hr) hy hS h
end
end Go.Proofs.YtlekngkcifgonaaGreat

set_option linter.unusedVariables false
set_option linter.unusedSimpArgs false
namespace Go.Proofs.YtlekngkcifgonaaGreat
open Go.RowKit

theorem isNaN_c (x : Int) (w : World) : Calls Tryz.prog 260 #[.int .i64 x] w fun e w' => e = .returned (.bool false) ∧ w' = w := by
  go_enter Tryz.func260, Tryz.ntmps260
  go_wp2_with fail
  go_ret
  exact ⟨ret_bool (by simp), rfl⟩
set_option maxRecDepth 100000 in
theorem compareInt_c (x y : Int) (w : World) : Calls Tryz.prog 235 #[.int .i64 x, .int .i64 y] w fun e w' => e = .returned (.int .i64 (Lib.compareInt x y)) ∧ w' = w := by
  unfold Lib.compareInt
  by_cases h1 : x < y
  · rw [if_pos h1]
    go_enter Tryz.func235, Tryz.ntmps235
    go_wp2_with (go_at_call 260; refine (isNaN_c _ _).mono ?_; rintro e w1 ⟨rfl, rfl⟩)
    go_ret
    exact ⟨rfl, rfl⟩
  · rw [if_neg h1]
    by_cases h2 : y < x
    · rw [if_pos h2]
      go_enter Tryz.func235, Tryz.ntmps235
      go_wp2_with (go_at_call 260; refine (isNaN_c _ _).mono ?_; rintro e w1 ⟨rfl, rfl⟩)
      go_ret
      exact ⟨rfl, rfl⟩
    · rw [if_neg h2]
      go_enter Tryz.func235, Tryz.ntmps235
      go_wp2_with (go_at_call 260; refine (isNaN_c _ _).mono ?_; rintro e w1 ⟨rfl, rfl⟩)
      go_ret
      exact ⟨rfl, rfl⟩
theorem insert_b (w : World) (r : Nat) (hb : w.heap[r]? = some (.map #[] 0)) :
    (Instr.mapUpdate 225 (.map (some r)) (.bool true) (.int .i64 1)).run Tryz.prog w = .ok () { w with heap := w.heap.setIfInBounds r (.map #[⟨.bool true, .int .i64 1, 0⟩] 1) } := by
  have ht := Tryz.underlying225
  have hk := Tryz.underlying4
  have hc := MapKept.run_checkKey (P := Tryz.prog) (w := w) hk (k := .bool true) (by trivial)
  simp [Instr.mapUpdate, run_underlying ht, MapKept.run_getObj_map hb, hc, Instr.findKey, run_underlying hk, Instr.findNow, MapKept.run_setObj_map _ hb, Result.andThen, maxLen]
theorem lookup_b (w : World) (r : Nat) (hb : w.heap[r]? = some (.map #[⟨.bool true, .int .i64 1, 0⟩] 1)) (x : Bool) :
    (Instr.lookup 225 (.map (some r)) (.bool x) false).run Tryz.prog w = .ok (.int .i64 (bitI x)) w := by
  have ht := Tryz.underlying225
  have hk := Tryz.underlying4
  have hc := MapKept.run_checkKey (P := Tryz.prog) (w := w) hk (k := .bool x) (by trivial)
  have hz := Tryz.zeroValue3 w
  cases x
  · simp [Instr.lookup, run_underlying ht, MapKept.run_getObj_map hb, hc, Instr.findKey, run_underlying hk, Instr.findNow, Instr.sameNow, Result.andThen, hz, bitI]
  · simp [Instr.lookup, run_underlying ht, MapKept.run_getObj_map hb, hc, Instr.findKey, run_underlying hk, Instr.findNow, Instr.sameNow, Result.andThen, hz, bitI]
theorem map_made (w : World) (o1 o2 : Obj) : ∃ W0, (Instr.mapUpdate 225 (.map (some (w.heap.size + 1 + 1))) (.bool true) (.int .i64 1)).run Tryz.prog (((w.alloc o1).alloc o2).alloc (.map #[] 0)) = .ok () W0 ∧
    (W0.heap[w.heap.size]? = some o1 ∧ W0.heap[w.heap.size + 1]? = some o2 ∧ W0.heap[w.heap.size + 1 + 1]? = some (.map #[⟨.bool true, .int .i64 1, 0⟩] 1)) ∧ Gr [] w W0 ∧ W0.drawn = w.drawn ∧ W0.heap.size = w.heap.size + 3 := by
  obtain ⟨W3, hW⟩ : ∃ W3, ((w.alloc o1).alloc o2).alloc (.map #[] 0) = W3 := ⟨_, rfl⟩
  have h3 := heap3 w o1 o2 (.map #[] 0)
  have hg : Gr [] w W3 := by rw [← hW]; exact (((Gr.refl [] w).alloc _).alloc _).alloc _
  have hs : W3.heap.size = w.heap.size + 3 := by rw [← hW]; simp
  have hd : W3.drawn = w.drawn := by rw [← hW]; rfl
  rw [hW] at h3 ⊢
  obtain ⟨e1, e2, e3⟩ := h3
  have e3' : W3.heap[w.heap.size + 1 + 1]? = some (.map #[] 0) := e3
  refine ⟨_, insert_b W3 _ e3', ⟨?_, ?_, ?_⟩, ⟨hg.os, hg.tape, hg.output, ?_, fun k hk _ => ?_⟩, hd, by simp [hs]⟩
  · simp only [Array.getElem?_setIfInBounds]; rw [if_neg (by omega)]; exact e1
  · simp only [Array.getElem?_setIfInBounds]; rw [if_neg (by omega)]; exact e2
  · simp only [Array.getElem?_setIfInBounds]; rw [if_pos trivial, if_pos (by omega)]
  · simp [hs]
  · simp only [Array.getElem?_setIfInBounds]; rw [if_neg (by omega)]; exact hg.block k hk (by simp)
def orI : List Int → Int
  | [] => 0
  | x :: r => if x ≠ 0 then x else orI r
set_option maxRecDepth 100000 in
theorem or_c (xs : List Int) (v : Value) (w : World) (hv : Nums [] w .i64 v xs) (hl : xs.length ≤ 1000) :
    Calls Tryz.prog 234 #[v] w fun e w' => e = .returned (.int .i64 (orI xs)) ∧ w' = w := by
  have Hv := hid hv
  obtain ⟨ao, cap, rfl, ⟨h1, h2, -⟩, -⟩ := hv
  go_enter Tryz.func234, Tryz.ntmps234
  go_wp2_with fail
  go_loopw [8] (fun i wr => ∃ n : Nat, n ≤ xs.length ∧ i = .int .i64 n ∧ Hid (orI (xs.drop n) = orI xs) ∧ wr = w) (fun i _ => xs.length - (intOf i).toNat)
  case atStart => exact ⟨0, Nat.zero_le _, rfl, hid rfl, rfl⟩
  case round =>
    obtain ⟨n, hn, rfl, Ho, rfl⟩ := hrel
    by_cases hlt : n < xs.length
    · obtain ⟨x, hx⟩ := get_some hlt
      obtain ⟨b, o, rfl, -, c0⟩ := Hv.out.at hx
      have hd := drop_cons hx
      have Hd := hid hd
      clear hd hx
      by_cases hz : x = 0
      · subst hz
        go_wp2_with fail
        exact ⟨⟨n + 1, by omega, by go_num, hid (by rw [← Ho.out, Hd.out]; simp [orI]), by first | trivial | rfl⟩, by simp [intOf]; omega⟩
      · have hz' : (x == 0) = false := by simpa using hz
        have hz2 : (x != 0) = true := by simpa using hz
        go_wp2_with fail
        go_ret
        exact ⟨ret_int (by rw [← Ho.out, Hd.out]; simp [orI, hz]), rfl⟩
    · have hn' : n = xs.length := by omega
      have Hn := hid hn'
      clear hn'
      go_wp2_with fail
      go_ret
      exact ⟨ret_int (by rw [← Ho.out, Hn.out, List.drop_length]; rfl), rfl⟩
theorem orI_cmp (a b : Lit) : orI [Lib.compareInt a.var b.var, Lib.compareInt a.val b.val, Lib.compareInt (bitI a.neg) (bitI b.neg)] = cmpL a b := by
  simp only [orI, cmpL]
  split
  · rfl
  · split
    · rfl
    · split
      · rfl
      · rename_i h; simp at h; rw [h]
section
set_option maxRecDepth 100000 in
set_option maxHeartbeats 600000 in
theorem compare_c (a b : Lit) (w : World) : Calls Tryz.prog 174 #[.agg #[.int .i64 a.var, .int .i64 a.val, .bool a.neg], .agg #[.int .i64 b.var, .int .i64 b.val, .bool b.neg]] w fun e w' => e = .returned (.int .i64 (cmpL a b)) ∧ Gr [] w w' ∧ w.drawn ≤ w'.drawn := by
  have hmm := @run_makeMap Tryz.prog
  obtain ⟨W0, hins, ⟨hA, hB, hM⟩, hg0, hd0, hs0⟩ := map_made w (.cells #[.int .i64 a.var, .int .i64 a.val, .bool a.neg] 45) (.cells #[.int .i64 b.var, .int .i64 b.val, .bool b.neg] 45)
  have fA := fld hA; have fB := fld hB
  have Hg0 := hid hg0; have Hor := hid (orI_cmp a b); have Hd0 := hid hd0; have Hs0 := hid hs0
  obtain ⟨r1, hr1⟩ : ∃ r, r = Lib.compareInt a.var b.var := ⟨_, rfl⟩
  obtain ⟨r2, hr2⟩ : ∃ r, r = Lib.compareInt a.val b.val := ⟨_, rfl⟩
  obtain ⟨r3, hr3⟩ : ∃ r, r = Lib.compareInt (bitI a.neg) (bitI b.neg) := ⟨_, rfl⟩
  have H1 : Hid (∀ W, Calls Tryz.prog 235 #[.int .i64 a.var, .int .i64 b.var] W fun e w' => e = .returned (.int .i64 r1) ∧ w' = W) := hid fun W => by rw [hr1]; exact compareInt_c _ _ _
  have H2 : Hid (∀ W, Calls Tryz.prog 235 #[.int .i64 a.val, .int .i64 b.val] W fun e w' => e = .returned (.int .i64 r2) ∧ w' = W) := hid fun W => by rw [hr2]; exact compareInt_c _ _ _
  have H3 : Hid (∀ W, Calls Tryz.prog 235 #[.int .i64 (bitI a.neg), .int .i64 (bitI b.neg)] W fun e w' => e = .returned (.int .i64 r3) ∧ w' = W) := hid fun W => by rw [hr3]; exact compareInt_c _ _ _
  rw [← hr1, ← hr2, ← hr3] at Hor
  have HN : Hid (Calls Tryz.prog 234 #[.slice (some ⟨W0.heap.size, 0, none⟩) 3 3] (W0.alloc (.cells #[.int .i64 r1, .int .i64 r2, .int .i64 r3] 3)).drew fun e w' => e = .returned (.int .i64 (cmpL a b)) ∧ w' = (W0.alloc (.cells #[.int .i64 r1, .int .i64 r2, .int .i64 r3] 3)).drew) := hid (by
    rw [← Hor.out]
    exact or_c [r1, r2, r3] _ _ ((nums_new W0 _ [r1, r2, r3] (by simp)).gr (Gr.refl [] _).drew) (by simp))
  clear hg0 hA hB hr1 hr2 hr3 hd0 hs0
  have HM := hid hM
  obtain ⟨za, hza⟩ : ∃ z, z = bitI a.neg := ⟨_, rfl⟩
  obtain ⟨zb, hzb⟩ : ∃ z, z = bitI b.neg := ⟨_, rfl⟩
  rw [← hza, ← hzb] at H3
  have HF : Hid (∀ W, Gr [] W0 W → ((W.cell? ⟨w.heap.size, 0, none⟩ = some (.int .i64 a.var) ∧ W.cell? ⟨w.heap.size, 1, none⟩ = some (.int .i64 a.val) ∧ W.cell? ⟨w.heap.size, 2, none⟩ = some (.bool a.neg)) ∧ (W.cell? ⟨w.heap.size + 1, 0, none⟩ = some (.int .i64 b.var) ∧ W.cell? ⟨w.heap.size + 1, 1, none⟩ = some (.int .i64 b.val) ∧ W.cell? ⟨w.heap.size + 1, 2, none⟩ = some (.bool b.neg)) ∧ (Instr.lookup 225 (.map (some (w.heap.size + 1 + 1))) (.bool a.neg) false).run Tryz.prog W = .ok (.int .i64 za) W ∧ (Instr.lookup 225 (.map (some (w.heap.size + 1 + 1))) (.bool b.neg) false).run Tryz.prog W = .ok (.int .i64 zb) W)) :=
    hid fun W h => ⟨⟨h.cell (fA 0) (by simp), h.cell (fA 1) (by simp), h.cell (fA 2) (by simp)⟩, ⟨h.cell (fB 0) (by simp), h.cell (fB 1) (by simp), h.cell (fB 2) (by simp)⟩, by rw [hza]; exact lookup_b W _ (h.obj HM.out (by simp)) _, by rw [hzb]; exact lookup_b W _ (h.obj HM.out (by simp)) _⟩
  clear hza hzb
  clear hM
  go_enter Tryz.func174, Tryz.ntmps174
  go_wp2_with fail
  clear hins hmm
  refine wp_region_held_drew (S := fun W => Gr [] W0 W) (by kernel_rfl) (Gr.refl [] W0).drew (fun hHeld => ?_)
  refine wpAnyH_take (i := 0) (v := .pointer (some ⟨w.heap.size, 0, none⟩)) rfl (by kernel_rfl) (by kernel_rfl) (by kernel_rfl) (fun _ _ _ h => h) (Or.inl ⟨by rfl, fun W hSw => ?_⟩) hHeld ?_
  · clear hSw hHeld fA fB; go_simp; (try with_reducible rfl)
  simp only [Act.put, List.setIfInBounds_toArray, List.set_cons_zero, List.set_cons_succ]
  refine wpAnyH_take (i := 1) (v := .int .i64 a.var) rfl (by kernel_rfl) (by kernel_rfl) (by kernel_rfl) (fun _ _ _ h => h) (Or.inl ⟨by rfl, fun W hSw => ?_⟩) hHeld ?_
  · have cf := HF.out W hSw |>.1.1; clear hSw hHeld fA fB; go_simp; (try with_reducible rfl)
  simp only [Act.put, List.setIfInBounds_toArray, List.set_cons_zero, List.set_cons_succ]
  refine wpAnyH_take (i := 2) (v := .pointer (some ⟨w.heap.size + 1, 0, none⟩)) rfl (by kernel_rfl) (by kernel_rfl) (by kernel_rfl) (fun _ _ _ h => h) (Or.inl ⟨by rfl, fun W hSw => ?_⟩) hHeld ?_
  · clear hSw hHeld fA fB; go_simp; (try with_reducible rfl)
  simp only [Act.put, List.setIfInBounds_toArray, List.set_cons_zero, List.set_cons_succ]
  refine wpAnyH_take (i := 3) (v := .int .i64 b.var) rfl (by kernel_rfl) (by kernel_rfl) (by kernel_rfl) (fun _ _ _ h => h) (Or.inl ⟨by rfl, fun W hSw => ?_⟩) hHeld ?_
  · have cf := HF.out W hSw |>.2.1.1; clear hSw hHeld fA fB; go_simp; (try with_reducible rfl)
  simp only [Act.put, List.setIfInBounds_toArray, List.set_cons_zero, List.set_cons_succ]
  refine wpAnyH_takeK (i := 4) (v := .int .i64 r1) rfl (by kernel_rfl) (by kernel_rfl) (by kernel_rfl) (fun _ _ _ h => h) ⟨by rfl, 235, _, fun W hSw => ⟨?_, H1.out W⟩⟩ hHeld ?_
  · go_simp
  simp only [Act.put, List.setIfInBounds_toArray, List.set_cons_zero, List.set_cons_succ]
  refine wpAnyH_take (i := 5) (v := .pointer (some ⟨w.heap.size, 1, none⟩)) rfl (by kernel_rfl) (by kernel_rfl) (by kernel_rfl) (fun _ _ _ h => h) (Or.inl ⟨by rfl, fun W hSw => ?_⟩) hHeld ?_
  · clear hSw hHeld fA fB; go_simp; (try with_reducible rfl)
  simp only [Act.put, List.setIfInBounds_toArray, List.set_cons_zero, List.set_cons_succ]
  refine wpAnyH_take (i := 6) (v := .int .i64 a.val) rfl (by kernel_rfl) (by kernel_rfl) (by kernel_rfl) (fun _ _ _ h => h) (Or.inl ⟨by rfl, fun W hSw => ?_⟩) hHeld ?_
  · have cf := HF.out W hSw |>.1.2.1; clear hSw hHeld fA fB; go_simp; (try with_reducible rfl)
  simp only [Act.put, List.setIfInBounds_toArray, List.set_cons_zero, List.set_cons_succ]
  refine wpAnyH_take (i := 7) (v := .pointer (some ⟨w.heap.size + 1, 1, none⟩)) rfl (by kernel_rfl) (by kernel_rfl) (by kernel_rfl) (fun _ _ _ h => h) (Or.inl ⟨by rfl, fun W hSw => ?_⟩) hHeld ?_
  · clear hSw hHeld fA fB; go_simp; (try with_reducible rfl)
  simp only [Act.put, List.setIfInBounds_toArray, List.set_cons_zero, List.set_cons_succ]
  refine wpAnyH_take (i := 8) (v := .int .i64 b.val) rfl (by kernel_rfl) (by kernel_rfl) (by kernel_rfl) (fun _ _ _ h => h) (Or.inl ⟨by rfl, fun W hSw => ?_⟩) hHeld ?_
  · have cf := HF.out W hSw |>.2.1.2.1; clear hSw hHeld fA fB; go_simp; (try with_reducible rfl)
  simp only [Act.put, List.setIfInBounds_toArray, List.set_cons_zero, List.set_cons_succ]
  refine wpAnyH_takeK (i := 9) (v := .int .i64 r2) rfl (by kernel_rfl) (by kernel_rfl) (by kernel_rfl) (fun _ _ _ h => h) ⟨by rfl, 235, _, fun W hSw => ⟨?_, H2.out W⟩⟩ hHeld ?_
  · go_simp
  simp only [Act.put, List.setIfInBounds_toArray, List.set_cons_zero, List.set_cons_succ]
  refine wpAnyH_take (i := 10) (v := .map (some (w.heap.size + 1 + 1))) rfl (by kernel_rfl) (by kernel_rfl) (by kernel_rfl) (fun _ _ _ h => h) (Or.inl ⟨by rfl, fun W hSw => ?_⟩) hHeld ?_
  · clear hSw hHeld fA fB; go_simp; (try with_reducible rfl)
  simp only [Act.put, List.setIfInBounds_toArray, List.set_cons_zero, List.set_cons_succ]
  refine wpAnyH_take (i := 11) (v := .pointer (some ⟨w.heap.size, 2, none⟩)) rfl (by kernel_rfl) (by kernel_rfl) (by kernel_rfl) (fun _ _ _ h => h) (Or.inl ⟨by rfl, fun W hSw => ?_⟩) hHeld ?_
  · clear hSw hHeld fA fB; go_simp; (try with_reducible rfl)
  simp only [Act.put, List.setIfInBounds_toArray, List.set_cons_zero, List.set_cons_succ]
  refine wpAnyH_take (i := 12) (v := .bool a.neg) rfl (by kernel_rfl) (by kernel_rfl) (by kernel_rfl) (fun _ _ _ h => h) (Or.inl ⟨by rfl, fun W hSw => ?_⟩) hHeld ?_
  · have cf := HF.out W hSw |>.1.2.2; clear hSw hHeld fA fB; go_simp; (try with_reducible rfl)
  simp only [Act.put, List.setIfInBounds_toArray, List.set_cons_zero, List.set_cons_succ]
  refine wpAnyH_take (i := 13) (v := .int .i64 za) rfl (by kernel_rfl) (by kernel_rfl) (by kernel_rfl) (fun _ _ _ h => h) (Or.inl ⟨by rfl, fun W hSw => ?_⟩) hHeld ?_
  · have cf := HF.out W hSw |>.2.2.1; clear hSw hHeld fA fB; go_simp; (try with_reducible rfl)
  simp only [Act.put, List.setIfInBounds_toArray, List.set_cons_zero, List.set_cons_succ]
  refine wpAnyH_take (i := 14) (v := .map (some (w.heap.size + 1 + 1))) rfl (by kernel_rfl) (by kernel_rfl) (by kernel_rfl) (fun _ _ _ h => h) (Or.inl ⟨by rfl, fun W hSw => ?_⟩) hHeld ?_
  · clear hSw hHeld fA fB; go_simp; (try with_reducible rfl)
  simp only [Act.put, List.setIfInBounds_toArray, List.set_cons_zero, List.set_cons_succ]
  refine wpAnyH_take (i := 15) (v := .pointer (some ⟨w.heap.size + 1, 2, none⟩)) rfl (by kernel_rfl) (by kernel_rfl) (by kernel_rfl) (fun _ _ _ h => h) (Or.inl ⟨by rfl, fun W hSw => ?_⟩) hHeld ?_
  · clear hSw hHeld fA fB; go_simp; (try with_reducible rfl)
  simp only [Act.put, List.setIfInBounds_toArray, List.set_cons_zero, List.set_cons_succ]
  refine wpAnyH_take (i := 16) (v := .bool b.neg) rfl (by kernel_rfl) (by kernel_rfl) (by kernel_rfl) (fun _ _ _ h => h) (Or.inl ⟨by rfl, fun W hSw => ?_⟩) hHeld ?_
  · have cf := HF.out W hSw |>.2.1.2.2; clear hSw hHeld fA fB; go_simp; (try with_reducible rfl)
  simp only [Act.put, List.setIfInBounds_toArray, List.set_cons_zero, List.set_cons_succ]
  refine wpAnyH_take (i := 17) (v := .int .i64 zb) rfl (by kernel_rfl) (by kernel_rfl) (by kernel_rfl) (fun _ _ _ h => h) (Or.inl ⟨by rfl, fun W hSw => ?_⟩) hHeld ?_
  · have cf := HF.out W hSw |>.2.2.2; clear hSw hHeld fA fB; go_simp; (try with_reducible rfl)
  simp only [Act.put, List.setIfInBounds_toArray, List.set_cons_zero, List.set_cons_succ]
  refine wpAnyH_takeK (i := 18) (v := .int .i64 r3) rfl (by kernel_rfl) (by kernel_rfl) (by kernel_rfl) (fun _ _ _ h => h) ⟨by rfl, 235, _, fun W hSw => ⟨?_, H3.out W⟩⟩ hHeld ?_
  · go_simp
  simp only [Act.put, List.setIfInBounds_toArray, List.set_cons_zero, List.set_cons_succ]
  refine wpAnyH_ready (rs := [19]) (by kernel_rfl) (by simp) (AllReadyH.cons rfl (fun K hK => ?_) AllReadyH.nil)
  rw [if_pos (by rfl)]
  go_simp
  refine hK.out _ _ (Gr.alloc hHeld _) (fun hHeld => ?_)
  clear hK K
  refine wpAnyH_ready (rs := [20]) (by kernel_rfl) (by simp) (AllReadyH.cons rfl (fun K hK => ?_) AllReadyH.nil)
  go_simp
  go_at_call 234; refine HN.out.mono ?_; rintro e wa ⟨rfl, rfl⟩; (try dsimp only)
  refine hK.out _ _ (by assumption) (fun hHeld => ?_)
  clear hK K
  refine wpAnyH_ready (rs := [21]) (by kernel_rfl) (by simp) (AllReadyH.cons rfl (fun K hK => ?_) AllReadyH.nil)
  go_simp
  refine hK.out _ _ (by assumption) (fun hHeld => ?_)
  clear hK K
  refine wpAnyH_done (by kernel_rfl) ?_ _
  go_wp2_with fail
  go_ret
  refine ⟨rfl, Hg0.out.trans hHeld, ?_⟩
  have h9 := Hd0.out
  show w.drawn ≤ W0.drawn + 1
  omega
end
end Go.Proofs.YtlekngkcifgonaaGreat
