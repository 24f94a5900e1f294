/-
  Rows that lie each in a block of its own: marks upon them; SolveAll's result.
-/
import Derived.Test.YtngpcoilgilmjaaSy2
import Derived.Test.YtngpcoilgilmjaaEH
set_option linter.unusedVariables false
namespace Go.Proofs.Ytngpcoilgilmjaa
open Go.RowKit

/-- Rows, each in a block of its own, between B and E. -/
def RowsE (B E : Nat) (w : World) (v : Value) (rows : List (List Int)) : Prop :=
  ∃ ao cap, v = .slice ao rows.length cap ∧ (rows.length ≤ cap ∧ cap ≤ 9223372036854775807 ∧ (ao = none → cap = 0)) ∧ ∃ gs : List Nat, gs.Nodup ∧ gs.length = rows.length ∧
    ∀ (i : Nat) r, rows[i]? = some r → ∃ g b c, ao = some ⟨g, 0, none⟩ ∧ gs[i]? = some b ∧ (B ≤ g ∧ g < E) ∧ (B ≤ b ∧ b < E) ∧ g ∉ gs ∧ w.cell? ⟨g, i, none⟩ = some (.slice (some ⟨b, 0, none⟩) r.length c) ∧
      (∀ j, w.frozen? ⟨g, j, none⟩ = false) ∧ InB b w (.slice (some ⟨b, 0, none⟩) r.length c) r
theorem RowsD.e {B : Nat} {w : World} {v : Value} {rows : List (List Int)} (h : RowsD B w v rows) : RowsE B w.heap.size w v rows := by
  obtain ⟨ao, cap, rfl, hl, _⟩ := id h
  obtain ⟨gs, h1, h2, _, h3⟩ := h.at
  exact ⟨ao, cap, rfl, hl, gs, h1, h2, h3⟩
theorem RowsE.nil (B E : Nat) (w : World) : RowsE B E w (.slice none 0 0) [] := ⟨none, 0, rfl, by simp, [], by simp, rfl, by simp⟩
theorem RowsE.keep {B E : Nat} {S : List Nat} {w w' : World} {v : Value} {rows : List (List Int)} (h : RowsE B E w v rows) (hg : Gr S w w') (hS : ∀ b ∈ S, b < B ∨ E ≤ b) : RowsE B E w' v rows := by
  obtain ⟨ao, cap, e, hl, gs, h1, h2, h3⟩ := h
  refine ⟨ao, cap, e, hl, gs, h1, h2, fun i r hi => ?_⟩
  obtain ⟨g, b, c, e1, e2, k1, k2, k3, k4, k5, k6⟩ := h3 i r hi
  have hgS : g ∉ S := fun hm => by have := hS g hm; omega
  have hlt := World.block_lt_of_cell? w _ k4
  exact ⟨g, b, c, e1, e2, k1, k2, k3, hg.cell k4 hgS, fun j => (hg.frozen (a := ⟨g, j, none⟩) hlt hgS).trans (k5 j), k6.gr' hg (fun q hq e => by have := hS q hq; omega) (fun _ _ h => h)⟩
theorem RowsE.imp {B E B' E' : Nat} {w : World} {v : Value} {rows : List (List Int)} (h : RowsE B E w v rows) (hB : B' ≤ B) (hE : E ≤ E') : RowsE B' E' w v rows := by
  obtain ⟨ao, cap, e, hl, gs, h1, h2, h3⟩ := h
  refine ⟨ao, cap, e, hl, gs, h1, h2, fun i r hi => ?_⟩
  obtain ⟨g, b, c, e1, e2, k1, k2, r⟩ := h3 i r hi
  exact ⟨g, b, c, e1, e2, by omega, by omega, r⟩
theorem RowsE.rows {B E : Nat} {S : List Nat} {w : World} {v : Value} {rows : List (List Int)} (h : RowsE B E w v rows) (hS : ∀ b ∈ S, b < B ∨ E ≤ b) : RowsV S w v rows := by
  obtain ⟨ao, cap, e, hl, gs, h1, h2, h3⟩ := h
  refine ⟨ao, cap, e, hl, fun i r hi => ?_⟩
  obtain ⟨g, b, c, e1, e2, k1, k2, k3, k4, k5, k6⟩ := h3 i r hi
  exact ⟨g, 0, _, e1, fun hm => by have := hS g hm; omega, by rw [Nat.zero_add]; exact k4, k6.nums fun q hq e => by have := hS q hq; omega⟩
theorem RowsE.row {B E : Nat} {w : World} {ao : Option Addr} {n cap : Nat} {rows : List (List Int)} (h : RowsE B E w (.slice ao n cap) rows) {i : Nat} {r : List Int} (hi : rows[i]? = some r) :
    ∃ g b c, ao = some ⟨g, 0, none⟩ ∧ (B ≤ b ∧ b < E) ∧ w.cell? ⟨g, i, none⟩ = some (.slice (some ⟨b, 0, none⟩) r.length c) ∧ InB b w (.slice (some ⟨b, 0, none⟩) r.length c) r ∧
      ∀ (w' : World) (r' : List Int), r'.length = r.length → Gr [b] w w' → InB b w' (.slice (some ⟨b, 0, none⟩) r.length c) r' → RowsE B E w' (.slice ao n cap) (rows.set i r') := by
  obtain ⟨ao', cap', e, hl, gs, h1, h2, h3⟩ := h
  simp only [Value.slice.injEq] at e
  obtain ⟨rfl, rfl, rfl⟩ := e
  obtain ⟨g, b, c, e1, e2, k1, k2, k3, k4, k5, k6⟩ := h3 i r hi
  have hil := (List.getElem?_eq_some_iff.1 hi).1
  refine ⟨g, b, c, e1, k2, k4, k6, fun w' r' hr hg hin => ⟨_, _, by rw [List.length_set], by rw [List.length_set]; exact hl, gs, h1, by rw [List.length_set]; exact h2, fun j s hj => ?_⟩⟩
  have hgb : g ∉ [b] := by simp; intro e; subst e; exact k3 (List.mem_of_getElem? e2)
  have hlt := World.block_lt_of_cell? w _ k4
  by_cases hij : i = j
  · subst hij
    rw [List.getElem?_set_self hil] at hj
    cases hj
    exact ⟨g, b, c, e1, e2, k1, k2, k3, by rw [hr]; exact hg.cell k4 hgb, fun q => (hg.frozen (a := ⟨g, q, none⟩) hlt hgb).trans (k5 q), by rw [hr]; exact hin⟩
  · rw [List.getElem?_set_ne hij] at hj
    obtain ⟨g', b', c', f1, f2, m1, m2, m3, m4, m5, m6⟩ := h3 j s hj
    have : g' = g := by rw [e1] at f1; simp at f1; exact f1.symm
    subst this
    have hbb : b' ≠ b := fun e => hij (by
      subst e
      have a1 := List.getElem?_eq_some_iff.1 e2
      have a2 := List.getElem?_eq_some_iff.1 f2
      exact (List.getElem_inj h1).1 (a1.2.trans a2.2.symm))
    exact ⟨g', b', c', e1, f2, k1, m2, k3, hg.cell m4 hgb, fun q => (hg.frozen (a := ⟨g', q, none⟩) hlt hgb).trans (m5 q), m6.gr' hg (fun q hq e => by simp at hq; exact hbb (e.symm.trans hq)) (fun _ _ h => h)⟩
theorem RowsE.take {B E : Nat} {w : World} {ao : Option Addr} {n cap : Nat} {rows : List (List Int)} (h : RowsE B E w (.slice ao n cap) rows) (k : Nat) (hk : k ≤ rows.length) : RowsE B E w (.slice ao k cap) (rows.take k) := by
  obtain ⟨ao', cap', e, hl, gs, h1, h2, h3⟩ := h
  simp only [Value.slice.injEq] at e
  obtain ⟨rfl, rfl, rfl⟩ := e
  refine ⟨_, _, by rw [List.length_take, Nat.min_eq_left hk], ⟨by rw [List.length_take]; omega, hl.2.1, hl.2.2⟩, gs.take k, h1.sublist (List.take_sublist _ _), by rw [List.length_take, List.length_take, h2], fun i r hi => ?_⟩
  rw [List.getElem?_take] at hi
  split at hi
  · rename_i hik
    obtain ⟨g, b, c, e1, e2, k1, k2, k3, r⟩ := h3 i r hi
    exact ⟨g, b, c, e1, by rw [List.getElem?_take, if_pos hik]; exact e2, k1, k2, fun hm => k3 (List.mem_of_mem_take hm), r⟩
  · cases hi
theorem RowsE.clip {B E : Nat} {w : World} {ao : Option Addr} {n cap : Nat} {rows : List (List Int)} (h : RowsE B E w (.slice ao n cap) rows) : RowsE B E w (.slice ao n n) rows := by
  obtain ⟨ao', cap', e, hl, r⟩ := h
  simp only [Value.slice.injEq] at e
  obtain ⟨rfl, rfl, rfl⟩ := e
  exact ⟨_, _, rfl, ⟨Nat.le_refl _, by omega, fun h => by have := hl.2.2 h; omega⟩, r⟩

def markRows (k : Int) : List (List Int) → List (List Int)
  | [] => []
  | r :: rs => marks k r.length :: markRows (k + r.length) rs
theorem markRows_len (k : Int) (rows : List (List Int)) : (markRows k rows).length = rows.length := by
  induction rows generalizing k with
  | nil => rfl
  | cons r rs ih => simp [markRows, ih]
theorem markRows_app (k : Int) (xs ys : List (List Int)) : markRows k (xs ++ ys) = markRows k xs ++ markRows (k + mkR xs) ys := by
  induction xs generalizing k with
  | nil => simp [markRows, mkR]
  | cons r rs ih =>
    simp only [List.cons_append, markRows, ih, List.cons.injEq, true_and]
    congr 2
    simp [mkR]; omega
theorem markRows_get {k : Int} {rows : List (List Int)} {n : Nat} {r : List Int} (h : rows[n]? = some r) : (markRows k rows)[n]? = some (marks (k + mkR (rows.take n)) r.length) := by
  induction rows generalizing k n with
  | nil => simp at h
  | cons x rs ih =>
    cases n with
    | zero => simp at h; subst h; simp [markRows, mkR]
    | succ n =>
      simp at h
      simp only [markRows, List.getElem?_cons_succ, List.take_succ_cons, ih h]
      congr 2
      simp [mkR]; omega
theorem markRows_step {k : Int} {rows : List (List Int)} {n : Nat} {r : List Int} (h : rows[n]? = some r) :
    (markRows k (rows.take n) ++ rows.drop n).set n (marks (k + mkR (rows.take n)) r.length) = markRows k (rows.take (n + 1)) ++ rows.drop (n + 1) := by
  have hn := (List.getElem?_eq_some_iff.1 h).1
  have hl : (markRows k (rows.take n)).length = n := by rw [markRows_len, List.length_take]; omega
  rw [List.set_append_right _ _ (by omega), hl, Nat.sub_self, drop_cons h, List.set_cons_zero, List.take_add_one, h, Option.toList_some, markRows_app]
  simp [markRows]
theorem mkR_take {rows : List (List Int)} {n : Nat} {r : List Int} (h : rows[n]? = some r) : mkR (rows.take (n + 1)) = mkR (rows.take n) + r.length := sum_take List.length h
theorem mkR_take_le (rows : List (List Int)) (n : Nat) : mkR (rows.take n) ≤ mkR rows := sum_take_le List.length rows n

theorem markIntSS_e (B E : Nat) (rows : List (List Int)) (k : Int) (v : Value) (w : World) (hv : RowsE B E w v rows) (hk : 0 ≤ k ∧ k ≤ 100000000) (hl : mkR rows ≤ 100000000) :
    Calls Try.prog 79 #[v, .int .i64 k] w fun e w' => e = .returned (.int .i64 (k + mkR rows)) ∧ RowsE B E w' v (markRows k rows) ∧ Mk (fun b => B ≤ b ∧ b < E) w w' := by
  have Hv := hid hv
  obtain ⟨ao, cap, rfl, ⟨h1, h2, _⟩, _⟩ := hv
  go_enter Try.func79, Try.ntmps79
  go_wp2_with fail
  go_loopw [1, 5] (fun kv i wr => ∃ (n : Nat) (q : Nat), n ≤ rows.length ∧ i = .int .i64 n ∧ kv = .int .i64 (k + q) ∧ q = mkR (rows.take n) ∧ RowsE B E wr (.slice ao rows.length cap) (markRows k (rows.take n) ++ rows.drop n) ∧ Mk (fun b => B ≤ b ∧ b < E) w wr) (fun _ i _ => rows.length - (intOf i).toNat)
  case atStart => exact ⟨0, 0, Nat.zero_le _, rfl, by simp, by simp [mkR], by simpa [markRows] using Hv.out, Mk.refl _ _⟩
  case round =>
    obtain ⟨n, q, hn, rfl, rfl, hq, hrw, hg⟩ := hrel
    have hq2 : q ≤ 100000000 := by have := mkR_take_le rows n; omega
    have Hq := hid hq; clear hq
    by_cases hlt : n < rows.length
    · obtain ⟨r, hr⟩ := get_some hlt
      have hr' : (markRows k (rows.take n) ++ rows.drop n)[n]? = some r := by
        have hl : (markRows k (rows.take n)).length = n := by rw [markRows_len, List.length_take]; omega
        rw [List.getElem?_append_right (by omega), hl, Nat.sub_self, List.getElem?_drop, Nat.add_zero, hr]
      obtain ⟨g, b, c, rfl, hbE, h0, hin, hset⟩ := hrw.row hr'
      have hst := mkR_take hr
      have hsl := mkR_take_le rows (n + 1)
      have hrl2 : r.length ≤ 100000000 := by omega
      have Hin := hid hin; have Hg := hid hg; have Hst := hid hst; have Hset := hid hset; have Hr := hid hr
      clear hin hg hst hsl hr hr' hrw hset
      go_wp2_with fail
      have hcall := markIntS_c (fun k => k = b) r (k + q) _ wr Hin.out (by omega) (by omega)
      (with_reducible refine hcall.mono ?_)
      clear hcall
      rintro e w2 ⟨rfl, hin2, hmk⟩
      have Hmk := hid (Hg.out.trans (hmk.imp fun _ h => by subst h; exact hbE))
      have Hr2 := hid (Hset.out w2 (marks (k + q) r.length) (marks_len _ _) (hmk.grL (fun _ h => by simp [h])) hin2)
      clear hmk hin2
      go_wp2_with fail
      refine ⟨⟨n + 1, q + r.length, by omega, by go_num, by go_num, by rw [Hst.out, Hq.out], ?_, Hmk.out⟩, by simp [intOf]; omega⟩
      have := Hr2.out
      rwa [Hq.out, markRows_step Hr.out] at this
    · have hnl : q = mkR rows := by rw [Hq.out, List.take_of_length_le (by omega)]
      have e1 : markRows k (rows.take n) ++ rows.drop n = markRows k rows := by rw [List.take_of_length_le (by omega), drop_end (by omega), List.append_nil]
      rw [e1] at hrw
      have Hnl := hid hnl; have Hg := hid hg; have Hrw := hid hrw
      clear hnl hg hrw e1
      go_wp2_with fail
      go_ret
      exact ⟨ret_int (by rw [Hnl.out]), Hrw.out, Hg.out⟩

theorem heldIntSS_t (rows : List (List Int)) (k : Int) (v : Value) (w : World) (hv : RowsV [] w v (markRows k rows)) (hk : 0 ≤ k ∧ k ≤ 100000000) (hl : mkR rows ≤ 100000000) :
    Calls Try.prog 81 #[v, .int .i64 k] w fun e w' => e = .returned (.int .i64 (k + mkR rows)) ∧ Gr [] w w' := by
  have Hv := hid hv
  obtain ⟨ao, cap, rfl, ⟨h1, h2, _⟩, _⟩ := hv
  rw [markRows_len] at h1 Hv ⊢
  go_enter Try.func81, Try.ntmps81
  go_wp2_with fail
  go_loopw [1, 5] (fun kv i wr => ∃ (n : Nat) (q : Nat), n ≤ rows.length ∧ i = .int .i64 n ∧ kv = .int .i64 (k + q) ∧ q = mkR (rows.take n) ∧ Gr [] w wr) (fun _ i _ => rows.length - (intOf i).toNat)
  case atStart => exact ⟨0, 0, Nat.zero_le _, rfl, by simp, by simp [mkR], Gr.refl _ _⟩
  case round =>
    obtain ⟨n, q, hn, rfl, rfl, hq, hg⟩ := hrel
    have hq2 : q ≤ 100000000 := by have := mkR_take_le rows n; omega
    have Hq := hid hq; clear hq
    by_cases hlt : n < rows.length
    · obtain ⟨r, hr⟩ := get_some hlt
      obtain ⟨b, o, u, rfl, hc0, hn0⟩ := (Hv.out.gr hg).at0 (markRows_get (k := k) hr)
      rw [← Hq.out] at hn0
      have hst := mkR_take hr
      have hsl := mkR_take_le rows (n + 1)
      have hrl2 : r.length ≤ 100000000 := by omega
      have Hn0 := hid hn0; have Hg := hid hg; have Hst := hid hst
      clear hn0 hg hst hsl hr
      go_wp2_with fail
      have hcall := heldIntS_t r.length (k + q) _ wr Hn0.out (by omega) (by omega)
      (with_reducible refine hcall.mono ?_)
      clear hcall
      rintro e w2 ⟨rfl, hg2⟩
      go_wp2_with fail
      exact ⟨⟨n + 1, q + r.length, by omega, by go_num, by go_num, by rw [Hst.out, Hq.out], Hg.out.trans hg2⟩, by simp [intOf]; omega⟩
    · have hnl : q = mkR rows := by rw [Hq.out, List.take_of_length_le (by omega)]
      have Hnl := hid hnl; have Hg := hid hg
      clear hnl hg
      go_wp2_with fail
      go_ret
      exact ⟨ret_int (by rw [Hnl.out]), Hg.out⟩

theorem RowsE.apart {M : Nat → Prop} {B E : Nat} {w w' : World} {v : Value} {rows : List (List Int)} (h : RowsE B E w v rows) (k : Mk M w w') (hd : ∀ b, B ≤ b → b < E → ¬ M b) : RowsE B E w' v rows := by
  obtain ⟨ao, cap, e, hl, gs, h1, h2, h3⟩ := h
  refine ⟨ao, cap, e, hl, gs, h1, h2, fun i r hi => ?_⟩
  obtain ⟨g, b, c, e1, e2, k1, k2, k3, k4, k5, k6⟩ := h3 i r hi
  have hlt := World.block_lt_of_cell? w _ k4
  exact ⟨g, b, c, e1, e2, k1, k2, k3, (World.cell?_of_block (k.block g hlt (hd g k1.1 k1.2))).trans k4, fun j => (k.frozen ⟨g, j, none⟩ hlt).trans (k5 j), k6.apart k fun q hq => by subst hq; exact hd _ k2.1 k2.2⟩

end Go.Proofs.Ytngpcoilgilmjaa
