/-
  Marks: the cells of whole numbers of a model and of a store, in the order in which the laws mark them; what marking does to them, and what the look at the marks finds.
-/
import Derived.Test.YtmonhpoogfdpoaaGreatDoorPEG
set_option linter.unusedVariables false
set_option linter.unusedSimpArgs false
namespace Go.Proofs.YtmonhpoogfdpoaaGreatDoor
open Go.RowKit

def cellv (w : World) (a : Addr) : Value := (w.cell? a).getD (.bool false)
theorem cellv_of {w : World} {a : Addr} {v : Value} (h : w.cell? a = some v) : cellv w a = v := by unfold cellv; rw [h]; rfl
def leavesN : Value → List Addr
  | .slice (some a) n _ => (List.range n).map fun i => ⟨a.block, a.off + i, none⟩
  | _ => []
def leavesR (w : World) : Value → List Addr
  | .slice (some a) n _ => (List.range n).flatMap fun i => leavesN (cellv w ⟨a.block, a.off + i, none⟩)
  | _ => []
def leavesE (w : World) (b o : Nat) : List Addr :=
  [⟨b, o, none⟩] ++ leavesN (cellv w ⟨b, o + 1, none⟩) ++ leavesN (cellv w ⟨b, o + 2, none⟩) ++ [⟨b, o + 3, none⟩] ++ leavesR w (cellv w ⟨b, o + 4, none⟩)
def leavesCs (w : World) : Value → List Addr
  | .slice (some a) n _ => (List.range n).flatMap fun i => leavesE w a.block (a.off + i * 5)
  | _ => []
def leavesRn (w : World) (ao : Option Addr) (n : Nat) : List Addr := match ao with
  | some a => (List.range n).flatMap fun i => leavesN (cellv w ⟨a.block, a.off + i, none⟩)
  | none => []
def leavesCn (w : World) (ao : Option Addr) (n : Nat) : List Addr := match ao with
  | some a => (List.range n).flatMap fun i => leavesE w a.block (a.off + i * 5)
  | none => []
theorem leavesR_n (w : World) (ao : Option Addr) (n c : Nat) : leavesR w (.slice ao n c) = leavesRn w ao n := by cases ao <;> rfl
theorem leavesC_n (w : World) (ao : Option Addr) (n c : Nat) : leavesCs w (.slice ao n c) = leavesCn w ao n := by cases ao <;> rfl
theorem leavesRn_zero (w : World) (ao : Option Addr) : leavesRn w ao 0 = [] := by cases ao <;> rfl
theorem leavesCn_zero (w : World) (ao : Option Addr) : leavesCn w ao 0 = [] := by cases ao <;> rfl
theorem leavesN_len (a : Addr) (n c : Nat) : (leavesN (.slice (some a) n c)).length = n := by simp [leavesN]
theorem leavesN_get (b o n c i : Nat) (h : i < n) : (leavesN (.slice (some ⟨b, o, none⟩) n c))[i]? = some ⟨b, o + i, none⟩ := by simp [leavesN, h]
theorem NumsM.leaves {M : Nat → Prop} {w : World} {v : Value} {xs : List Int} (h : NumsM M w v xs) : (leavesN v).length = xs.length := by
  obtain ⟨ao, cap, rfl, h1, h2⟩ := h
  cases ao with
  | none => have := h1.2.2 rfl; simp [leavesN]; omega
  | some a => exact leavesN_len _ _ _

/-! ### What is written -/
structure Wr (L : List Addr) (k : Int) (w w' : World) : Prop where
  other : ∀ a v, a ∉ L → w.cell? a = some v → w'.cell? a = some v
  set : L.Nodup → ∀ (i : Nat) a, L[i]? = some a → w'.cell? a = some (.int .i64 (k + i))
theorem Wr.nil {w w' : World} {k : Int} (h : Gr [] w w') : Wr [] k w w' := ⟨fun a v _ hc => h.cell hc (by simp), fun _ i a hi => by simp at hi⟩
theorem Wr.trans {L L' : List Addr} {k k' : Int} {w w1 w2 : World} (h : Wr L k w w1) (h' : Wr L' k' w1 w2) (hk : k' = k + L.length) : Wr (L ++ L') k w w2 := by
  subst hk
  refine ⟨fun a v ha hc => h'.other a v (fun hm => ha (List.mem_append_right _ hm)) (h.other a v (fun hm => ha (List.mem_append_left _ hm)) hc), fun hn i a hi => ?_⟩
  rw [List.nodup_append] at hn
  rw [List.getElem?_append] at hi
  split at hi
  · exact h'.other _ _ (fun hm => hn.2.2 a (List.mem_of_getElem? hi) a hm rfl) (h.set hn.1 i a hi)
  · rw [h'.set hn.2.1 _ a hi]
    congr 2
    omega
theorem Wr.gr0 {L : List Addr} {k : Int} {w w1 w2 : World} (h : Gr [] w w1) (h' : Wr L k w1 w2) : Wr L k w w2 := ⟨fun a v ha hc => h'.other a v ha (h.cell hc (by simp)), h'.set⟩
theorem Wr.one {a : Addr} {k : Int} {w : World} {u : Value} (hc : w.cell? a = some u) : Wr [a] k w (w.setCell a (.int .i64 k)) := by
  refine ⟨fun p v hp hv => (World.cell?_setCell_other _ _ _ _ (fun e => hp (by simp [e]))).trans hv, fun _ i p hi => ?_⟩
  have hi0 : i = 0 := by have := (List.getElem?_eq_some_iff.1 hi).1; simp at this; omega
  subst hi0
  simp at hi; subst hi
  rw [World.cell?_setCell_same _ _ _ hc]; simp
def Held (L : List Addr) (k : Int) (w : World) : Prop := ∀ (i : Nat) a, L[i]? = some a → w.cell? a = some (.int .i64 (k + i))
theorem Held.gr {L : List Addr} {k : Int} {w w' : World} (h : Held L k w) (hg : Gr [] w w') : Held L k w' := fun i a hi => hg.cell (h i a hi) (by simp)
theorem Held.left {L L' : List Addr} {k : Int} {w : World} (h : Held (L ++ L') k w) : Held L k w := fun i a hi => h i a (by rw [List.getElem?_append_left (List.getElem?_eq_some_iff.1 hi).1]; exact hi)
theorem Held.right {L L' : List Addr} {k : Int} {w : World} (h : Held (L ++ L') k w) : Held L' (k + L.length) w := fun i a hi => by
  have := h (L.length + i) a (by rw [List.getElem?_append_right (by omega), Nat.add_sub_cancel_left]; exact hi)
  rw [this]; congr 2; simp; omega
theorem range_split {N n : Nat} (h : n < N) : ∃ r, List.range N = List.range n ++ n :: r := by
  obtain ⟨m, rfl⟩ : ∃ m, N = n + (1 + m) := ⟨N - n - 1, by omega⟩
  refine ⟨(List.range m).map (fun i => n + 1 + i), ?_⟩
  rw [List.range_add, List.range_add]
  simp [Nat.add_assoc]
theorem Held.seg {f : Nat → List Addr} {N n : Nat} {k : Int} {w : World} (h : Held ((List.range N).flatMap f) k w) (hn : n < N) : Held (f n) (k + ((List.range n).flatMap f).length) w := by
  obtain ⟨r, hr⟩ := range_split hn
  rw [hr, List.flatMap_append, List.flatMap_cons] at h
  exact h.right.left
theorem flatMap_range_succ {f : Nat → List Addr} (n : Nat) : (List.range (n + 1)).flatMap f = (List.range n).flatMap f ++ f n := by
  rw [List.range_succ, List.flatMap_append]; simp

/-! ### The leaves stay where they are -/
theorem Mk.cellv {M : Nat → Prop} {w w' : World} (h : Mk M w w') {a : Addr} {v : Value} (hc : w.cell? a = some v) (hv : ∀ x, v ≠ .int .i64 x) : cellv w' a = cellv w a := by
  rw [cellv_of hc, cellv_of (h.same a v hc hv)]
theorem RowsM.leaves_mk {M M' : Nat → Prop} {w w' : World} {v : Value} {rows : List (List Int)} (h : RowsM M w v rows) (k : Mk M' w w') : leavesR w' v = leavesR w v := by
  obtain ⟨ao, cap, rfl, h1, h2⟩ := h
  cases ao with
  | none => rfl
  | some a =>
    simp only [leavesR, List.flatMap]
    congr 1
    refine List.map_congr_left fun i hi => ?_
    obtain ⟨r, hr⟩ := get_some (xs := rows) (k := i) (by simpa using hi)
    obtain ⟨b, o, u, e, hm, hc, hf, hn⟩ := h2 i r hr
    cases e
    rw [k.cellv hc hn.form]
theorem RowsM.leaves {M : Nat → Prop} {w : World} {v : Value} {rows : List (List Int)} (h : RowsM M w v rows) : (leavesR w v).length = mkR rows := by
  obtain ⟨ao, cap, rfl, h1, h2⟩ := h
  cases ao with
  | none =>
    have := h1.2.2 rfl
    have e : rows = [] := List.eq_nil_of_length_eq_zero (by omega)
    subst e; rfl
  | some a =>
    have key : ∀ n, n ≤ rows.length → ((List.range n).flatMap fun i => leavesN (cellv w ⟨a.block, a.off + i, none⟩)).length = mkR (rows.take n) := by
      intro n
      induction n with
      | zero => intro _; simp [mkR]
      | succ n ih =>
        intro hn
        obtain ⟨r, hr⟩ := get_some (xs := rows) (k := n) (by omega)
        obtain ⟨b, o, u, e, hm, hc, hf, hx⟩ := h2 n r hr
        cases e
        rw [flatMap_range_succ, List.length_append, ih (by omega), cellv_of hc, hx.leaves]
        unfold mkR
        rw [sum_take List.length hr]
    have := key rows.length (Nat.le_refl _)
    rw [List.take_length] at this
    exact this
/-- The cells of one constraint in a list. -/
theorem ConsM.cellE {M : Nat → Prop} {w : World} {b o n cap : Nat} {cs : List Con} (h : ConsM M w (.slice (some ⟨b, o, none⟩) n cap) cs) {i : Nat} {c : Con} (hi : cs[i]? = some c) :
    ∃ vv av rv, (w.cell? ⟨b, o + i * 5, none⟩ = some (.int .i64 c.kind) ∧ w.cell? ⟨b, o + i * 5 + 1, none⟩ = some vv ∧ w.cell? ⟨b, o + i * 5 + 2, none⟩ = some av ∧ w.cell? ⟨b, o + i * 5 + 3, none⟩ = some (.int .i64 c.bound) ∧ w.cell? ⟨b, o + i * 5 + 4, none⟩ = some rv) ∧
      NumsM M w vv c.vars ∧ NumsM M w av c.args ∧ RowsM M w rv c.rows := by
  obtain ⟨b', o', vv, av, rv, e, hm, hc, hf, n1, n2, n3⟩ := h.at hi
  simp only [Option.some.injEq, Addr.mk.injEq] at e
  obtain ⟨rfl, rfl, _⟩ := e
  exact ⟨vv, av, rv, hc, n1.gr' (Gr.refl [] w) (by simp) (fun _ _ h => h.1), n2.gr' (Gr.refl [] w) (by simp) (fun _ _ h => h.1), n3.gr' (Gr.refl [] w) (by simp) (fun _ _ h => h.1)⟩
theorem ConsM.leavesE_mk {M M' : Nat → Prop} {w w' : World} {b o n cap : Nat} {cs : List Con} (h : ConsM M w (.slice (some ⟨b, o, none⟩) n cap) cs) (k : Mk M' w w') {i : Nat} {c : Con} (hi : cs[i]? = some c) : leavesE w' b (o + i * 5) = leavesE w b (o + i * 5) := by
  obtain ⟨vv, av, rv, ⟨c0, c1, c2, c3, c4⟩, n1, n2, n3⟩ := h.cellE hi
  unfold leavesE
  rw [k.cellv c1 n1.form, k.cellv c2 n2.form, k.cellv c4 n3.form, cellv_of c4, n3.leaves_mk k]
theorem ConsM.leaves_mk {M M' : Nat → Prop} {w w' : World} {v : Value} {cs : List Con} (h : ConsM M w v cs) (k : Mk M' w w') : leavesCs w' v = leavesCs w v := by
  obtain ⟨ao, cap, rfl, h1, h2⟩ := id h
  cases ao with
  | none => rfl
  | some a =>
    obtain ⟨b, o, sp⟩ := a
    cases hcs : cs with
    | nil => subst hcs; rfl
    | cons c0 cr =>
      obtain ⟨b', o', _, _, _, e, _⟩ := h2 0 c0 (by rw [hcs]; rfl)
      cases e
      rw [← hcs]
      simp only [leavesCs, List.flatMap]
      congr 1
      refine List.map_congr_left fun i hi => ?_
      obtain ⟨c, hc⟩ := get_some (xs := cs) (k := i) (by simpa using hi)
      exact h.leavesE_mk k hc
theorem ConsM.leavesE_len {M : Nat → Prop} {w : World} {b o n cap : Nat} {cs : List Con} (h : ConsM M w (.slice (some ⟨b, o, none⟩) n cap) cs) {i : Nat} {c : Con} (hi : cs[i]? = some c) : (leavesE w b (o + i * 5)).length = mkC c := by
  obtain ⟨vv, av, rv, ⟨c0, c1, c2, c3, c4⟩, n1, n2, n3⟩ := h.cellE hi
  unfold leavesE mkC
  rw [cellv_of c1, cellv_of c2, cellv_of c4]
  simp [n1.leaves, n2.leaves, n3.leaves]; omega
theorem ConsM.leaves_take {M : Nat → Prop} {w : World} {b o n cap : Nat} {cs : List Con} (h : ConsM M w (.slice (some ⟨b, o, none⟩) n cap) cs) (j : Nat) (hj : j ≤ cs.length) : ((List.range j).flatMap fun i => leavesE w b (o + i * 5)).length = ((cs.take j).map mkC).sum := by
  induction j with
  | zero => simp
  | succ j ih =>
    obtain ⟨c, hc⟩ := get_some (xs := cs) (k := j) (by omega)
    rw [flatMap_range_succ, List.length_append, ih (by omega), h.leavesE_len hc, sum_take mkC hc]
theorem RowsM.leaves_take {M : Nat → Prop} {w : World} {b o n cap : Nat} {rows : List (List Int)} (h : RowsM M w (.slice (some ⟨b, o, none⟩) n cap) rows) (j : Nat) (hj : j ≤ rows.length) : ((List.range j).flatMap fun i => leavesN (cellv w ⟨b, o + i, none⟩)).length = mkR (rows.take j) := by
  induction j with
  | zero => simp [mkR]
  | succ j ih =>
    obtain ⟨r, hr⟩ := get_some (xs := rows) (k := j) (by omega)
    obtain ⟨b', o', u, e, hm, hc, hf, hx⟩ := h.at hr
    cases e
    rw [flatMap_range_succ, List.length_append, ih (by omega), cellv_of hc, hx.leaves]
    unfold mkR
    rw [sum_take List.length hr]

/-! ### Marks -/
theorem markIntS_w (M : Nat → Prop) (xs : List Int) (k : Int) (v : Value) (w : World) (hv : NumsM M w v xs) (hk : 0 ≤ k ∧ k ≤ 1000000000) (hl : xs.length ≤ 1000000000) :
    Calls Tryz.prog 44 #[v, .int .i64 k] w fun e w' => e = .returned (.int .i64 (k + xs.length)) ∧ Mk M w w' ∧ Wr (leavesN v) k w w' := by
  have Hv := hid hv
  have Hll := hid hv.leaves
  obtain ⟨ao, cap, rfl, ⟨h1, h2, _⟩, _⟩ := hv
  go_enter Tryz.func44, Tryz.ntmps44
  go_wp2_with fail
  go_loopw [1, 5] (fun kv i wr => ∃ n : Nat, n ≤ xs.length ∧ i = .int .i64 n ∧ kv = .int .i64 (k + n) ∧ NumsM M wr (.slice ao xs.length cap) (marks k n ++ xs.drop n) ∧ Mk M w wr ∧ Wr ((leavesN (.slice ao xs.length cap)).take n) k w wr) (fun _ i _ => xs.length - (intOf i).toNat)
  case atStart => exact ⟨0, Nat.zero_le _, rfl, by simp, by simpa [marks] using Hv.out, Mk.refl _ _, Wr.nil (Gr.refl _ _)⟩
  case round =>
    obtain ⟨n, hn, rfl, rfl, hw, hg, hwr⟩ := hrel
    by_cases hlt : n < xs.length
    · obtain ⟨x, hx⟩ := get_some hlt
      have hx' : (marks k n ++ xs.drop n)[n]? = some x := by rw [List.getElem?_append_right (by rw [marks_len]; exact Nat.le_refl _), marks_len, Nat.sub_self, List.getElem?_drop, Nat.add_zero, hx]
      obtain ⟨b, o, rfl, hm, h0, hf⟩ := hw.at hx'
      have hset := hw.set n (k + n)
      have hmk : Mk M w (wr.setCell ⟨b, o + n, none⟩ (.int .i64 (k + n))) := hg.set hm h0
      have hwr2 : Wr ((leavesN (.slice (some ⟨b, o, none⟩) xs.length cap)).take (n + 1)) k w (wr.setCell ⟨b, o + n, none⟩ (.int .i64 (k + n))) := by
        rw [List.take_add_one, leavesN_get _ _ _ _ _ hlt]
        exact hwr.trans (Wr.one h0) (by rw [List.length_take, leavesN_len]; congr 1; omega)
      have e1 : (marks k n ++ xs.drop n).set n (k + n) = marks k (n + 1) ++ xs.drop (n + 1) := by
        rw [List.set_append_right _ _ (by rw [marks_len]; exact Nat.le_refl _), marks_len, Nat.sub_self, drop_cons hx, List.set_cons_zero, marks_succ]; simp
      rw [e1] at hset
      have Hset := hid hset; have Hmk := hid hmk; have Hwr2 := hid hwr2
      clear hset hmk e1 hx hx' hw hg hm hwr hwr2
      go_wp2_with fail
      exact ⟨⟨n + 1, by omega, by go_num, by go_num, Hset.out, Hmk.out, Hwr2.out⟩, by simp [intOf]; omega⟩
    · have hwr2 : Wr (leavesN (.slice ao xs.length cap)) k w wr := by rwa [List.take_of_length_le (by rw [Hll.out]; omega)] at hwr
      have Hwr := hid hwr2; have Hg := hid hg
      have hnl : n = xs.length := by omega
      have Hnl := hid hnl
      clear hw hg hnl hwr hwr2
      go_wp2_with fail
      go_ret
      exact ⟨ret_int (by rw [Hnl.out]), Hg.out, Hwr.out⟩

theorem heldIntS_w (M : Nat → Prop) (xs : List Int) (k : Int) (v : Value) (w : World) (hv : NumsM M w v xs) (hh : Held (leavesN v) k w) (hk : 0 ≤ k ∧ k ≤ 1000000000) (hl : xs.length ≤ 1000000000) :
    Calls Tryz.prog 46 #[v, .int .i64 k] w fun e w' => e = .returned (.int .i64 (k + xs.length)) ∧ Gr [] w w' := by
  refine heldIntS_t xs.length k v w ?_ hk hl
  obtain ⟨ao, cap, rfl, h1, h2⟩ := hv
  refine ⟨ao, cap, by rw [marks_len], by rw [marks_len]; exact h1, fun i x hi => ?_⟩
  have hil : i < xs.length := by have := (List.getElem?_eq_some_iff.1 hi).1; rwa [marks_len] at this
  rw [marks_get _ _ _ hil] at hi
  cases hi
  obtain ⟨y, hy⟩ := get_some hil
  obtain ⟨b, o, rfl, hm, hc, hf⟩ := h2 i y hy
  exact ⟨b, o, rfl, by simp, hh i _ (leavesN_get _ _ _ _ _ hil)⟩

theorem leavesRn_succ (w : World) (b o n : Nat) : leavesRn w (some ⟨b, o, none⟩) (n + 1) = leavesRn w (some ⟨b, o, none⟩) n ++ leavesN (cellv w ⟨b, o + n, none⟩) := flatMap_range_succ n
theorem leavesCn_succ (w : World) (b o n : Nat) : leavesCn w (some ⟨b, o, none⟩) (n + 1) = leavesCn w (some ⟨b, o, none⟩) n ++ leavesE w b (o + n * 5) := flatMap_range_succ n

set_option maxRecDepth 100000 in
theorem markIntSS_w (M : Nat → Prop) (rows : List (List Int)) (k : Int) (v : Value) (w : World) (hv : RowsM M w v rows) (hk : 0 ≤ k ∧ k ≤ 100000000) (hl : mkR rows ≤ 100000000) :
    Calls Tryz.prog 81 #[v, .int .i64 k] w fun e w' => e = .returned (.int .i64 (k + mkR rows)) ∧ Mk M w w' ∧ Wr (leavesR w v) k w w' := by
  have Hv := hid hv
  obtain ⟨ao, cap, rfl, ⟨h1, h2, _⟩, _⟩ := hv
  go_enter Tryz.func81, Tryz.ntmps81
  go_wp2_with fail
  go_loopw [1, 5] (fun kv i wr => ∃ (n : Nat) (q : Nat), n ≤ rows.length ∧ i = .int .i64 n ∧ kv = .int .i64 (k + q) ∧ q = mkR (rows.take n) ∧ Mk M w wr ∧ Wr (leavesRn w ao n) k w wr) (fun _ i _ => rows.length - (intOf i).toNat)
  case atStart => exact ⟨0, 0, Nat.zero_le _, rfl, by simp, by simp [mkR], Mk.refl _ _, by rw [leavesRn_zero]; exact Wr.nil (Gr.refl _ _)⟩
  case round =>
    obtain ⟨n, q, hn, rfl, rfl, hq, hg, hwr⟩ := hrel
    have hq2 : q ≤ 100000000 := by have := sum_take_le List.length rows n; unfold mkR at hl hq; omega
    have Hq := hid hq; clear hq
    by_cases hlt : n < rows.length
    · obtain ⟨rows', hsh, hrw⟩ := Hv.out.mk hg
      have hll : rows'.length = rows.length := by have := congrArg List.length hsh; simpa using this
      obtain ⟨r, hr⟩ := get_some hlt
      obtain ⟨r', hr'⟩ := get_some (xs := rows') (k := n) (by omega)
      have hrl : r'.length = r.length := by
        have := congrArg (fun l => l[n]?) hsh
        simpa [hr, hr'] using this
      obtain ⟨b, o, u, rfl, hm, h0, _, hn1⟩ := hrw.at hr'
      have hcv : cellv w ⟨b, o + n, none⟩ = u := by
        obtain ⟨b', o', u', e, hm', h0', _, hn1'⟩ := Hv.out.at hr
        cases e
        rw [← hg.cellv h0' hn1'.form, cellv_of h0]
      have hlen : (leavesRn w (some ⟨b, o, none⟩) n).length = mkR (rows.take n) := Hv.out.leaves_take n (by omega)
      have hst : mkR (rows.take (n + 1)) = mkR (rows.take n) + r.length := sum_take List.length hr
      have hsl : mkR (rows.take (n + 1)) ≤ mkR rows := sum_take_le List.length rows (n + 1)
      have hrl2 : r'.length ≤ 100000000 := by omega
      have Hn1 := hid hn1; have Hg := hid hg; have Hst := hid hst; have Hrl := hid hrl; have Hwr := hid hwr; have Hcv := hid hcv; have Hlen := hid hlen
      clear hn1 hg hst hsl hr hr' hrw hsh hll hrl hm hwr hcv hlen
      go_wp2_with fail
      have hcall := markIntS_w (but M b) r' (k + q) u wr Hn1.out (by omega) (by omega)
      (with_reducible refine hcall.mono ?_)
      clear hcall
      rintro e w2 ⟨rfl, hmk, hw2⟩
      have Hmk := hid (Hg.out.trans (hmk.imp fun _ h => h.1))
      have Hw2 : Hid (Wr (leavesRn w (some ⟨b, o, none⟩) (n + 1)) k w w2) := hid (by
        rw [leavesRn_succ, Hcv.out]
        exact Hwr.out.trans hw2 (by rw [Hlen.out, Hq.out]))
      clear hmk hw2
      go_wp2_with fail
      exact ⟨⟨n + 1, q + r'.length, by omega, by go_num, by go_num, by rw [Hst.out, Hq.out, Hrl.out], Hmk.out, Hw2.out⟩, by simp [intOf]; omega⟩
    · have hnr : n = rows.length := by omega
      have hnl : q = mkR rows := by rw [Hq.out, List.take_of_length_le (by omega)]
      have Hnl := hid hnl; have Hg := hid hg; have Hwr : Hid (Wr (leavesR w (.slice ao rows.length cap)) k w wr) := hid (by rw [leavesR_n, ← hnr]; exact hwr)
      clear hnl hg hwr hnr
      go_wp2_with fail
      go_ret
      exact ⟨ret_int (by rw [Hnl.out]), Hg.out, Hwr.out⟩

set_option maxRecDepth 100000 in
theorem heldIntSS_w (M : Nat → Prop) (rows : List (List Int)) (k : Int) (v : Value) (w : World) (hv : RowsM M w v rows) (hh : Held (leavesR w v) k w) (hk : 0 ≤ k ∧ k ≤ 100000000) (hl : mkR rows ≤ 100000000) :
    Calls Tryz.prog 82 #[v, .int .i64 k] w fun e w' => e = .returned (.int .i64 (k + mkR rows)) ∧ Gr [] w w' := by
  have Hv := hid hv; have Hh := hid hh
  obtain ⟨ao, cap, rfl, ⟨h1, h2, _⟩, _⟩ := hv
  clear hh
  go_enter Tryz.func82, Tryz.ntmps82
  go_wp2_with fail
  go_loopw [1, 5] (fun kv i wr => ∃ (n : Nat) (q : Nat), n ≤ rows.length ∧ i = .int .i64 n ∧ kv = .int .i64 (k + q) ∧ q = mkR (rows.take n) ∧ Gr [] w wr) (fun _ i _ => rows.length - (intOf i).toNat)
  case atStart => exact ⟨0, 0, Nat.zero_le _, rfl, by simp, by simp [mkR], Gr.refl _ _⟩
  case round =>
    obtain ⟨n, q, hn, rfl, rfl, hq, hg⟩ := hrel
    have hq2 : q ≤ 100000000 := by have := sum_take_le List.length rows n; unfold mkR at hl hq; omega
    have Hq := hid hq; clear hq
    by_cases hlt : n < rows.length
    · obtain ⟨r, hr⟩ := get_some hlt
      obtain ⟨b, o, u, rfl, hm, hc0, hf, hn0⟩ := Hv.out.at hr
      have hs := Held.seg (f := fun i => leavesN (cellv w ⟨b, o + i, none⟩)) (N := rows.length) (n := n) Hh.out hlt
      rw [Hv.out.leaves_take n (by omega), cellv_of hc0] at hs
      have hst : mkR (rows.take (n + 1)) = mkR (rows.take n) + r.length := sum_take List.length hr
      have hsl : mkR (rows.take (n + 1)) ≤ mkR rows := sum_take_le List.length rows (n + 1)
      have hrl2 : r.length ≤ 100000000 := by omega
      rw [← Hq.out] at hs
      have hcr := hg.cell hc0 (by simp)
      have Hn0 := hid (hn0.gr' hg (by simp) (fun _ _ h => h)); have Hg := hid hg; have Hst := hid hst; have Hs := hid (hs.gr hg)
      clear hn0 hg hst hsl hr hs hc0 hf
      go_wp2_with fail
      have hcall := heldIntS_w (but M b) r (k + q) _ wr Hn0.out Hs.out (by omega) (by omega)
      (with_reducible refine hcall.mono ?_)
      clear hcall
      rintro e w2 ⟨rfl, hg2⟩
      go_wp2_with fail
      exact ⟨⟨n + 1, q + r.length, by omega, by go_num, by go_num, by rw [Hst.out, Hq.out], Hg.out.trans hg2⟩, by simp [intOf]; omega⟩
    · have hnl : q = mkR rows := by rw [Hq.out, List.take_of_length_le (by omega)]
      have Hnl := hid hnl; have Hg := hid hg
      clear hnl hg
      go_wp2_with fail
      go_ret
      exact ⟨ret_int (by rw [Hnl.out]), Hg.out⟩

set_option maxRecDepth 100000 in
theorem markConstraintS_w (M : Nat → Prop) (cs : List Con) (k : Int) (v : Value) (w : World) (hv : ConsM M w v cs) (hk : 0 ≤ k ∧ k ≤ 10000000) (hl : mkCs cs ≤ 10000000) :
    Calls Tryz.prog 45 #[v, .int .i64 k] w fun e w' => e = .returned (.int .i64 (k + mkCs cs)) ∧ Mk M w w' ∧ Wr (leavesCs w v) k w w' := by
  have Hv := hid hv
  obtain ⟨ao, cap, rfl, ⟨h1, h2, _⟩, _⟩ := hv
  go_enter Tryz.func45, Tryz.ntmps45
  go_wp2_with fail
  go_loopw [1, 5] (fun kv i wr => ∃ (n : Nat) (q : Nat), n ≤ cs.length ∧ i = .int .i64 n ∧ kv = .int .i64 (k + q) ∧ q = ((cs.take n).map mkC).sum ∧ Mk M w wr ∧ Wr (leavesCn w ao n) k w wr) (fun _ i _ => cs.length - (intOf i).toNat)
  case atStart => exact ⟨0, 0, Nat.zero_le _, rfl, by simp, by simp, Mk.refl _ _, by rw [leavesCn_zero]; exact Wr.nil (Gr.refl _ _)⟩
  case round =>
    obtain ⟨n, q, hn, rfl, rfl, hq, hg, hwr⟩ := hrel
    have hq2 : q ≤ 10000000 := by have := sum_take_le mkC cs n; unfold mkCs at hl; omega
    have Hq := hid hq; clear hq
    by_cases hlt : n < cs.length
    · obtain ⟨c, hc⟩ := get_some hlt
      have hst := sum_take mkC hc
      have hsl := sum_take_le mkC cs (n + 1)
      have hcl : mkC c ≤ 10000000 := by unfold mkCs at hl; omega
      obtain ⟨b, o, _, _, _, rfl, _⟩ := Hv.out.at hc
      have hlen : (leavesCn w (some ⟨b, o, none⟩) n).length = ((cs.take n).map mkC).sum := Hv.out.leaves_take n (by omega)
      obtain ⟨vv0, av0, rv0, ⟨z0, z1, z2, z3, z4⟩, y1, y2, y3⟩ := Hv.out.cellE hc
      have HE : Hid (leavesE w b (o + n * 5) = [⟨b, o + n * 5, none⟩] ++ leavesN vv0 ++ leavesN av0 ++ [⟨b, o + n * 5 + 3, none⟩] ++ leavesR w rv0) := hid (by
        unfold leavesE; rw [cellv_of z1, cellv_of z2, cellv_of z4])
      have hsame : ∀ W, Mk M w W → W.cell? ⟨b, o + n * 5 + 1, none⟩ = some vv0 ∧ W.cell? ⟨b, o + n * 5 + 2, none⟩ = some av0 ∧ W.cell? ⟨b, o + n * 5 + 4, none⟩ = some rv0 ∧ leavesR W rv0 = leavesR w rv0 :=
        fun W h => ⟨h.same _ _ z1 y1.form, h.same _ _ z2 y2.form, h.same _ _ z4 y3.form, y3.leaves_mk h⟩
      have HY1 := hid y1.leaves; have HY2 := hid y2.leaves; have HY3 := hid y3.leaves
      have Hsame := hid hsame; have Hlen := hid hlen; have Hwr := hid hwr
      obtain ⟨kd, bd, vo, vc, xo, xc, ro, rc, vs, ars, rs, hm, ⟨c0, c1, c2, c3, c4⟩, hf, ⟨l1, l2, l3⟩, n1, n2, n3⟩ := Hv.out.seg hg hc
      have hvv : vv0 = .slice vo c.vars.length vc := by have := (hsame wr hg).1; rw [c1] at this; exact (Option.some.inj this).symm
      have Hvv := hid hvv
      have Hg := hid hg; have Hc := hid hc; have Hst := hid hst; have Hcl := hid hcl
      have hmk1 := hg.set (y := k + q) hm c0
      have hw1 : Wr (leavesCn w (some ⟨b, o, none⟩) n ++ [⟨b, o + n * 5, none⟩]) k w (wr.setCell ⟨b, o + n * 5, none⟩ (.int .i64 (k + q))) := hwr.trans (Wr.one c0) (by rw [hlen, Hq.out])
      have Hw1 := hid hw1
      have hs1 : Mk M wr (wr.setCell ⟨b, o + n * 5, none⟩ (.int .i64 (k + q))) := (Mk.refl M wr).set hm c0
      have hd1 : (wr.setCell ⟨b, o + n * 5, none⟩ (.int .i64 (k + q))).cell? ⟨b, o + n * 5 + 1, none⟩ = some (.slice vo c.vars.length vc) := hs1.same _ _ c1 (by intro x h; cases h)
      obtain ⟨vs1, l1', m1⟩ := n1.mk hs1
      have Hm1 := hid m1; have Hmk1 := hid hmk1; have L1 := hid (l1'.trans l1)
      have hvl : c.vars.length ≤ 10000000 := by unfold mkC at hcl; omega
      have hm' := hid hm
      clear hg hc hst hsl n1 n2 n3 m1 hmk1 hs1 l1 l2 l3 l1' hm c1 c2 c3 c4 hwr hlen hw1 hsame z0 z1 z2 z3 z4 y1 y2 y3 hvv
      go_wp2_with fail
      have hcall := markIntS_w (but M b) vs1 (k + q + 1) _ _ Hm1.out (by omega) (by rw [L1.out]; omega)
      rw [L1.out] at hcall
      (with_reducible refine hcall.mono ?_)
      clear hcall
      rintro e w2 ⟨rfl, hmk2, hw2⟩
      have hmk2 := Hmk1.out.trans (hmk2.imp fun _ h => h.1)
      have Hw2 : Hid (Wr (leavesCn w (some ⟨b, o, none⟩) n ++ [⟨b, o + n * 5, none⟩] ++ leavesN vv0) k w w2) := hid (by
        rw [Hvv.out]; exact Hw1.out.trans hw2 (by rw [List.length_append, Hlen.out, Hq.out]; simp; omega))
      obtain ⟨kd2, bd2, vo2, vc2, xo2, xc2, ro2, rc2, vs2, ars2, rs2, _, ⟨d0, d1, d2, d3, d4⟩, hf2, ⟨_, l2, _⟩, _, n2, _⟩ := Hv.out.seg hmk2 Hc.out
      have hav : av0 = .slice xo2 c.args.length xc2 := by have := (Hsame.out w2 hmk2).2.1; rw [d2] at this; exact (Option.some.inj this).symm
      have Hav := hid hav
      have Hn2 := hid n2; have Hmk2 := hid hmk2; have L2 := hid l2
      have hal : c.args.length ≤ 10000000 := by have := Hcl.out; unfold mkC at this; omega
      clear n2 hmk2 l2 c0 hf hd1 d0 d1 d3 d4 hw2 hav
      go_wp2_with fail
      have hcall := markIntS_w (but M b) ars2 (k + q + 1 + c.vars.length) _ _ Hn2.out (by omega) (by rw [L2.out]; omega)
      rw [L2.out] at hcall
      (with_reducible refine hcall.mono ?_)
      clear hcall
      rintro e w3 ⟨rfl, hmk3, hw3⟩
      have hmk3 := Hmk2.out.trans (hmk3.imp fun _ h => h.1)
      have Hw3 : Hid (Wr (leavesCn w (some ⟨b, o, none⟩) n ++ [⟨b, o + n * 5, none⟩] ++ leavesN vv0 ++ leavesN av0) k w w3) := hid (by
        rw [Hav.out]; exact Hw2.out.trans hw3 (by rw [List.length_append, List.length_append, Hlen.out, Hq.out, HY1.out]; simp; omega))
      obtain ⟨kd3, bd3, vo3, vc3, xo3, xc3, ro3, rc3, vs3, ars3, rs3, _, ⟨e0, e1, e2, e3, e4⟩, hf3, ⟨_, _, l3⟩, _, _, n3⟩ := Hv.out.seg hmk3 Hc.out
      have hrv : rv0 = .slice ro3 c.rows.length rc3 := by have := (Hsame.out w3 hmk3).2.2.1; rw [e4] at this; exact (Option.some.inj this).symm
      have Hrv := hid hrv
      have hmk4 := hmk3.set (y := k + q + 1 + c.vars.length + c.args.length) hm'.out e3
      have Hw4 : Hid (Wr (leavesCn w (some ⟨b, o, none⟩) n ++ [⟨b, o + n * 5, none⟩] ++ leavesN vv0 ++ leavesN av0 ++ [⟨b, o + n * 5 + 3, none⟩]) k w (w3.setCell ⟨b, o + n * 5 + 3, none⟩ (.int .i64 (k + q + 1 + c.vars.length + c.args.length)))) := hid
        (Hw3.out.trans (Wr.one e3) (by rw [List.length_append, List.length_append, List.length_append, Hlen.out, Hq.out, HY1.out, HY2.out]; simp; omega))
      have hs4 : Mk M w3 (w3.setCell ⟨b, o + n * 5 + 3, none⟩ (.int .i64 (k + q + 1 + c.vars.length + c.args.length))) := (Mk.refl M w3).set hm'.out e3
      have he4 : (w3.setCell ⟨b, o + n * 5 + 3, none⟩ (.int .i64 (k + q + 1 + c.vars.length + c.args.length))).cell? ⟨b, o + n * 5 + 4, none⟩ = some (.slice ro3 c.rows.length rc3) := hs4.same _ _ e4 (by intro x h; cases h)
      obtain ⟨rs4, l4, n4⟩ := n3.mk hs4
      have Hn4 := hid n4; have Hmk4 := hid hmk4; have L4 := hid (show mkR rs4 = mkR c.rows by rw [← l3]; unfold mkR; rw [l4])
      have hrl : mkR c.rows ≤ 10000000 := by have := Hcl.out; unfold mkC at this; omega
      clear n3 n4 hmk3 hmk4 l3 l4 hs4 hf2 d2 e0 e1 e2 e4 hw3 hrv
      go_wp2_with fail
      have hcall := markIntSS_w (but M b) rs4 (k + q + 1 + c.vars.length + c.args.length + 1) _ _ Hn4.out (by omega) (by rw [L4.out]; omega)
      rw [L4.out] at hcall
      (with_reducible refine hcall.mono ?_)
      clear hcall
      rintro e w5 ⟨rfl, hmk5, hw5⟩
      rw [← Hrv.out, (Hsame.out _ Hmk4.out).2.2.2] at hw5
      have Hw5 : Hid (Wr (leavesCn w (some ⟨b, o, none⟩) (n + 1)) k w w5) := hid (by
        have := Hw4.out.trans hw5 (by rw [List.length_append, List.length_append, List.length_append, List.length_append, Hlen.out, Hq.out, HY1.out, HY2.out]; simp; omega)
        rw [leavesCn_succ, HE.out]
        simpa only [List.append_assoc] using this)
      have Hmk5 := hid (Hmk4.out.trans (hmk5.imp fun _ h => h.1))
      obtain ⟨z, hz⟩ : ∃ z, z = mkR c.rows := ⟨_, rfl⟩
      rw [← hz]
      have Hz := hid hz
      clear hmk5 he4 e3 hf3 hz hw5
      go_wp2_with fail
      refine ⟨⟨n + 1, q + mkC c, by omega, by go_num, ?_, by rw [Hst.out, Hq.out], Hmk5.out, Hw5.out⟩, by simp [intOf]; omega⟩
      have := Hz.out
      unfold mkC
      rw [← this]
      congr 1
      omega
    · have hnr : n = cs.length := by omega
      have hnl : q = mkCs cs := by rw [Hq.out, List.take_of_length_le (by omega)]; rfl
      have Hnl := hid hnl; have Hg := hid hg; have Hwr : Hid (Wr (leavesCs w (.slice ao cs.length cap)) k w wr) := hid (by rw [leavesC_n, ← hnr]; exact hwr)
      clear hnl hg hwr hnr
      go_wp2_with fail
      go_ret
      exact ⟨ret_int (by rw [Hnl.out]), Hg.out, Hwr.out⟩
end Go.Proofs.YtmonhpoogfdpoaaGreatDoor
