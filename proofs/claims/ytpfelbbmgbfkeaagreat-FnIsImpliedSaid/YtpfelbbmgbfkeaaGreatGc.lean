/-
  Walks: the generators of clauses and conjunctions; DrawNegateAll.
-/
import Derived.Test.YtpfelbbmgbfkeaaGreatMg
import Derived.Test.YtpfelbbmgbfkeaaGreatTr
import Derived.Deep.RegionHeldLaw
set_option linter.unusedVariables false
set_option linter.unusedSimpArgs false
namespace Go.Proofs.YtpfelbbmgbfkeaaGreat
open Go.RowKit

/-- What a generator of literals leaves: a list of the call's own. -/
def ClPost (B : Nat) (R : Nat) (cs : List Int) (q : Nat) (ok : Cls → Prop) (w : World) (e : Ending) (w' : World) : Prop :=
  ∃ (ls : Cls) (m g c : Nat), e = .returned (.slice (some ⟨g, 0, none⟩) m c) ∧ OwnL B w' 31 (.slice (some ⟨g, 0, none⟩) m c) ls ∧ ls.length ≤ 8 ∧ ok ls ∧ Rd w' R cs q ∧ Gr [R] w w'
def ascOk (n : Nat) (ls : Cls) : Prop := ls.length ≤ 3 ∧ (ls.Pairwise fun a b => litLt a b = true) ∧ (1 ≤ n → ∀ l ∈ ls, litOk n l = true)
theorem ascOk_valid {n : Nat} {ls : Cls} (h : ascOk n ls) (hn : 1 ≤ n ∧ n ≤ 4) : validCl ls n = true := by
  unfold validCl
  rw [Bool.and_eq_true]
  exact ⟨inB_iff.2 (by omega), validClS_iff.2 ⟨h.2.2 hn.1, h.2.1, by have := h.1; omega⟩⟩
theorem mergeL_one (d : Cls) (l : Lit) : mergeL d [l] = insL l d := rfl
theorem OwnL.len' {B : Nat} {w : World} {e : TypeId} {g m c : Nat} {ls : Cls} (h : OwnL B w e (.slice (some ⟨g, 0, none⟩) m c) ls) : m = ls.length := by
  rcases h.2 with ⟨e1, _⟩ | ⟨g', cap, cur, e1, _⟩
  · cases e1
  · cases e1; rfl

set_option maxRecDepth 100000 in
set_option maxHeartbeats 2000000 in
theorem randomClause_c (R : Nat) (cs : List Int) (q : Nat) (n : Nat) (w : World) (hr : Rd w R cs q) (hq : q ≤ 100000000) (hn : n ≤ 1000) :
    Calls Tryz.prog 84 #[.pointer (some ⟨R, 0, none⟩), .int .i64 (n : Int)] w (ClPost w.heap.size R cs (q + 10) (ascOk n) w) := by
  have hRw := hr.lt
  have hg0 : Gr [] w (w.alloc (.cells #[] 31)) := (Gr.refl _ _).alloc _
  have Hg0 := hid hg0; have Hr := hid hr
  clear hg0 hr
  go_enter Tryz.func84, Tryz.ntmps84
  go_wp2_with fail
  have hcall := pick_c R cs q 4 _ (Hr.out.gr Hg0.out) (by omega) (by omega)
  (with_reducible refine hcall.mono ?_)
  clear hcall
  rintro e w1 ⟨⟨r1, rfl, hr10, hr1n⟩, hrd1, hg1⟩
  obtain ⟨r1, rfl⟩ := Int.eq_ofNat_of_zero_le hr10
  have hr14 : r1 < 4 := by omega
  have HO1 : Hid (OwnL w.heap.size w1 31 (.slice (some ⟨w.heap.size, 0, none⟩) 0 0) []) := hid ((OwnL.empty w 31 (Nat.le_refl _)).gr hg1 (by simp; omega))
  have HG1 : Hid (Gr [R] w w1) := hid (Hg0.out.any.trans hg1); have Hrd1 := hid hrd1
  clear hg1 hrd1 hr10 hr1n
  go_wp2_with fail
  go_loopw [5, 6] (fun v i wr => ∃ (k m g c : Nat) (ls : Cls), k ≤ 4 ∧ i = .int .i64 k ∧ v = .slice (some ⟨g, 0, none⟩) m c ∧ ls.length + k ≤ 3 ∧ Hid (OwnL w.heap.size wr 31 (.slice (some ⟨g, 0, none⟩) m c) ls) ∧ Hid (ascOk n ls) ∧ Hid (Rd wr R cs (q + 1 + 3 * (3 - k))) ∧ Hid (Gr [R] w wr)) (fun _ i _ => (intOf i).toNat)
  case atStart => exact ⟨r1, 0, w.heap.size, 0, [], by omega, rfl, rfl, by simp; omega, HO1, hid ⟨by simp, List.Pairwise.nil, by simp⟩, hid (Hrd1.out.le (by omega)), HG1⟩
  case round =>
    obtain ⟨k, m, g, c, ls, hk, rfl, rfl, hlk, Ho, Hok, Hrd, HL⟩ := hrel
    have hml := Ho.out.len'
    have hm9 : m ≤ 8 := by omega
    clear hml
    by_cases hlt : 0 < k
    · go_wp2_with fail
      have hcall := pick_c R cs (q + 1 + 3 * (3 - k)) n _ Hrd.out (by omega) (by omega)
      (with_reducible refine hcall.mono ?_)
      clear hcall
      rintro e w2 ⟨⟨r2, rfl, hr20, hr2n⟩, hrd2, hg2⟩
      have Hrd2 := hid hrd2; have Hg2 := hid hg2; have Hv2 : Hid (0 ≤ r2 ∧ (r2 < n ∨ r2 = 0)) := hid ⟨hr20, hr2n⟩
      clear hrd2 hg2 hr20 hr2n
      go_wp2_with fail
      have hcall := pick_c R cs (q + 1 + 3 * (3 - k) + 1) 4 _ Hrd2.out (by omega) (by omega)
      (with_reducible refine hcall.mono ?_)
      clear hcall
      rintro e w3 ⟨⟨r3, rfl, hr30, hr3n⟩, hrd3, hg3⟩
      have Hrd3 := hid hrd3; have Hg3 := hid (Hg2.out.trans hg3); have Hv3 : Hid (0 ≤ r3 ∧ r3 ≤ 5) := hid ⟨hr30, by omega⟩
      clear hrd3 hg3 hr30 hr3n
      go_wp2_with fail
      have hcall := pick_c R cs (q + 1 + 3 * (3 - k) + 1 + 1) 2 _ Hrd3.out (by omega) (by omega)
      (with_reducible refine hcall.mono ?_)
      clear hcall
      rintro e w4 ⟨⟨r4, rfl, hr40, hr4n⟩, hrd4, hg4⟩
      obtain ⟨b, hb⟩ : ∃ b, (r4 == 0) = b := ⟨_, rfl⟩
      have hg40 : Gr [R] wr w4 := Hg3.out.trans hg4
      have ha : Gr [R] wr (w4.alloc (.cells #[.int .i64 r2, .int .i64 r3, .bool b] 31)) := hg40.alloc _
      have Ho4 := hid (Ho.out.gr ha (by simp; omega))
      have HL4 := hid (HL.out.trans ha)
      have Hrd4 := hid (hrd4.gr ((Gr.refl [] w4).alloc (.cells #[.int .i64 r2, .int .i64 r3, .bool b] 31)))
      have hbs : w.heap.size ≤ w4.heap.size := by have := HL4.out.size; have := (HL.out.trans hg40).size; exact this
      have Hn4 := hid (litsNew w4 ⟨r2, r3, b⟩ 31 [] (by simp))
      clear hrd4 hg4 hr40 hr4n hg40 ha
      go_wp2_with fail
      have hcall := mergeClauses_c ls [⟨r2, r3, b⟩] _ _ _ (Ho4.out.lits (S := []) (by simp)) Hn4.out (by simp; omega)
      (with_reducible refine hcall.mono ?_)
      clear hcall
      rintro e w5 ⟨g5, c5, rfl, ho5, hg5⟩
      obtain ⟨m5, hm5⟩ : ∃ m5, m5 = (mergeL ls [⟨r2, r3, b⟩]).length := ⟨_, rfl⟩
      rw [← hm5] at ho5 ⊢
      have Ho5 := hid (ho5.le (Nat.le_trans hbs (by simp))); have Hg5 := hid hg5
      have Hok5 : Hid (ascOk n (mergeL ls [⟨r2, r3, b⟩])) := hid (by
        obtain ⟨h1, h2, h3⟩ := Hok.out
        have hll := insL_len ⟨r2, r3, b⟩ ls
        refine ⟨by rw [mergeL_one]; omega, by rw [mergeL_one]; exact insL_asc h2, fun hn1 l hl => ?_⟩
        rw [mergeL_one] at hl
        rcases mem_insL.1 hl with rfl | hl
        · have h4 := Hv2.out; have h5 := Hv3.out
          exact litOk_iff.2 ⟨by dsimp only; omega, h5⟩
        · exact h3 hn1 l hl)
      have Hll : Hid ((mergeL ls [⟨r2, r3, b⟩]).length + (k - 1) ≤ 3) := hid (by have := insL_len ⟨r2, r3, b⟩ ls; rw [mergeL_one]; omega)
      clear ho5 hg5 hm5 hb
      go_wp2_with fail
      exact ⟨⟨k - 1, m5, g5, c5, _, by omega, by go_num, rfl, Hll.out, Ho5, Hok5, hid ((Hrd4.out.gr Hg5.out).le (by omega)), hid (HL4.out.trans Hg5.out.any)⟩, by simp [intOf]; omega⟩
    · have hk0 : k = 0 := by omega
      subst hk0
      go_wp2_with fail
      go_ret
      exact ⟨ls, m, g, c, rfl, Ho.out, by omega, Hok.out, Hrd.out.le (by omega), HL.out⟩

theorem litsNew' (w : World) (l : Lit) (t : TypeId) (S : List Nat) (hS : w.heap.size ∉ S) : LitsV S (w.alloc (.cells #[.int .i64 l.var, .int .i64 l.val, .bool l.neg] t)) (.slice (some ⟨w.heap.size, 0, none⟩) 1 1) [l] := by
  have h := fld (heap_alloc_new w (.cells #[.int .i64 l.var, .int .i64 l.val, .bool l.neg] t))
  refine ⟨_, _, rfl, by simp, fun i x hi => ?_⟩
  have hi0 : i = 0 := by have := (List.getElem?_eq_some_iff.1 hi).1; simp at this; omega
  subst hi0
  simp at hi; subst hi
  exact ⟨_, _, rfl, hS, by simp [h], h 1, h 2⟩
theorem rdS {S : List Nat} {w w' : World} {R : Nat} {bs : List Int} {q : Nat} (h : Rd w R bs q) (hg : Gr S w w') (hS : ∀ i ∈ S, R < i) : Rd w' R bs q := by
  obtain ⟨ao, cap, p, hR, hn, hb, hp, hl, h⟩ := h
  refine ⟨ao, cap, p, hg.obj hR (fun hm => by have := hS R hm; omega), fun i x hi => ?_, hb, hp, hl, h⟩
  obtain ⟨b, o, e, hs, hc⟩ := hn i x hi
  have hbR := hb _ e (Nat.lt_of_le_of_lt (Nat.zero_le _) (List.getElem?_eq_some_iff.1 hi).1)
  exact ⟨b, o, e, hs, hg.cell hc (fun hm => by have := hS _ hm; dsimp only at hbR this; omega)⟩
set_option maxRecDepth 100000 in
set_option maxHeartbeats 2000000 in
theorem anyClause_c (R : Nat) (cs : List Int) (q : Nat) (n : Nat) (w : World) (hr : Rd w R cs q) (hq : q ≤ 100000000) (hn : n ≤ 1000) :
    Calls Tryz.prog 85 #[.pointer (some ⟨R, 0, none⟩), .int .i64 (n : Int)] w (ClPost w.heap.size R cs (q + 20) (fun _ => True) w) := by
  have hRw := hr.lt
  have Hr := hid hr
  clear hr
  go_enter Tryz.func85, Tryz.ntmps85
  go_wp2_with fail
  have hcall := randomClause_c R cs q n _ Hr.out hq hn
  (with_reducible refine hcall.mono ?_)
  clear hcall
  rintro e w1 ⟨ls, m, g, c, rfl, ho1, hl1, hok1, hrd1, hg1⟩
  have hml := ho1.len'
  have hmc : m ≤ c ∧ c ≤ 9223372036854775807 := by
    obtain ⟨ao', cap', e9, ⟨k1, k2, -⟩⟩ := ho1.litsM.slice
    simp only [Value.slice.injEq] at e9
    obtain ⟨_, e10, rfl⟩ := e9
    omega
  have hl3 : ls.length ≤ 3 := hok1.1
  have hm3 : m ≤ 3 := by omega
  have Ho1 := hid ho1; have Hrd1 := hid hrd1; have Hg1 := hid hg1; have Hml := hid hml
  clear ho1 hrd1 hg1 hml hok1
  go_wp2_with fail
  have hcall := pick_c R cs (q + 10) 16 _ Hrd1.out (by omega) (by omega)
  (with_reducible refine hcall.mono ?_)
  clear hcall
  rintro e w2 ⟨⟨r2, rfl, hr20, hr2n⟩, hrd2, hg2⟩
  have hgw2 : w.heap.size ≤ w2.heap.size := (Hg1.out.trans hg2).size
  have Ho2 := hid (Ho1.out.gr hg2 (by simp; omega)); have Hrd2 := hid hrd2; have Hg2 := hid (Hg1.out.trans hg2)
  clear hrd2 hg2 hr20 hr2n
  by_cases h0 : r2 = 0
  · subst h0
    go_wp2_with fail
    refine (one_c R cs (q + 10 + 1) _ [-1, (n : Int)] _ (Hrd2.out.gr ((Gr.refl _ _).alloc _)) (nums_new _ _ _ (by simp; omega)) (by omega) (by simp) (by simp)).mono ?_
    rintro e w3 ⟨⟨r3, rfl, -⟩, hrd3, hg3⟩
    have hg33 : Gr [R] w2 w3 := ((Gr.refl [R] w2).alloc _).trans hg3
    have Ho3 := hid (Ho2.out.gr hg33 (by simp; omega)); have Hrd3 := hid hrd3; have Hg3 := hid (Hg2.out.trans hg33)
    have hgw3 := Nat.le_trans hgw2 hg33.size
    clear hrd3 hg3 hg33
    go_wp2_with fail
    refine (one_c R cs (q + 10 + 1 + 1) _ [0, 6] _ (Hrd3.out.gr ((Gr.refl _ _).alloc _)) (nums_new _ _ _ (by simp; omega)) (by omega) (by simp) (by simp)).mono ?_
    rintro e w4 ⟨⟨r4, rfl, -⟩, hrd4, hg4⟩
    have hg44 : Gr [R] w3 w4 := ((Gr.refl [R] w3).alloc _).trans hg4
    have ha4 : Gr [R] w3 (w4.alloc (.cells #[.int .i64 r3, .int .i64 r4, .bool false] 31)) := hg44.alloc _
    have Ho4 := hid (Ho3.out.gr ha4 (by simp; omega)); have Hrd4 := hid (hrd4.gr ((Gr.refl [] w4).alloc (.cells #[.int .i64 r3, .int .i64 r4, .bool false] 31))); have Hg4 := hid (Hg3.out.trans ha4)
    have hgw4 : w.heap.size ≤ w4.heap.size := Nat.le_trans hgw3 hg44.size
    have Hn4 := hid (litsNew w4 ⟨r3, r4, false⟩ 31 [] (by simp))
    clear hrd4 hg4 hg44 ha4
    go_wp2_with (at_builtin; refine wpl_appL rfl _ _ 56 rfl w.heap.size 31 (.agg #[.int .i64 0, .int .i64 0, .bool false]) 24 infoL rfl (by omega) Tryz.underlying56 g m c ls [⟨r3, r4, false⟩] rfl Ho4.out ⟨w4.heap.size, 0, none⟩ 1 1 [] rfl Hn4.out (by simp; omega) (by simp; omega) ?_; intro g5 c5 w5 hown5 hgr5)
    go_ret
    have hB := Ho4.out.block
    exact ⟨ls ++ [⟨r3, r4, false⟩], m + 1, g5, c5, rfl, hown5, by have := Hml.out; simp; omega, trivial, (rdS Hrd4.out hgr5 (fun i hi => by have := hB i (by simpa [Value.ownBlock] using hi); omega)).le (by omega), Hg4.out.step hgr5 (fun i hi => .inr (hB i (by simpa [Value.ownBlock] using hi)))⟩
  have h0' : (r2 == 0) = false := by simpa using h0
  clear h0
  by_cases h1 : r2 = 1
  · subst h1
    by_cases hm1 : 1 < m
    · obtain ⟨y, hy⟩ := get_some (xs := ls) (k := 0) (by have := Hml.out; omega)
      obtain ⟨b9, o9, e9, -, d0, d1, d2⟩ := (Ho2.out.lits (S := []) (by simp)).at hy
      cases e9
      simp only [Nat.zero_add, Nat.zero_mul] at d0 d1 d2
      have hc1 : ¬ c = 1 := by omega
      have h1m : (1 : Int) ≤ (m : Int) := by omega
      have h1c : (1 : Int) ≤ (c : Int) := by omega
      have h0m : 0 < m := by omega
      have HL := hid ((Ho2.out.lits (S := []) (by simp)).drop 1 (by omega))
      simp only [Nat.zero_add, Nat.one_mul] at HL
      have Hd := hid (show (ls.drop 1).length ≤ 2 by rw [List.length_drop]; omega)
      have HK : Hid (∀ W, Gr [] w2 W → W.cell? ⟨g, 0, none⟩ = some (.int .i64 y.var) ∧ W.cell? ⟨g, 1, none⟩ = some (.int .i64 y.val) ∧ W.cell? ⟨g, 2, none⟩ = some (.bool y.neg)) := hid fun W h => ⟨h.cell d0 (by simp), h.cell d1 (by simp), h.cell d2 (by simp)⟩
      clear hy
      go_wp2_with fail
      go_region_held_law (fun W => W.cell? ⟨g, 0, none⟩ = some (.int .i64 y.var) ∧ W.cell? ⟨g, 1, none⟩ = some (.int .i64 y.val) ∧ W.cell? ⟨g, 2, none⟩ = some (.bool y.neg))
        (first | exact HK.out _ (Gr.refl [] w2) | exact HK.out _ (Gr.refl [] w2).drew | exact HK.out _ ((Gr.refl [] w2).alloc _).drew | exact HK.out _ (((Gr.refl [] w2).alloc _).alloc _).drew | exact HK.out _ HGB.out | exact HK.out _ HG9.out | exact HK.out _ (HG9.out.alloc _) | assumption)
        (first
        | (refine step_appL rfl _ _ 56 rfl w2.heap.size 31 (.agg #[.int .i64 0, .int .i64 0, .bool false]) 24 infoL rfl (by omega) Tryz.underlying56 w2.heap.size 0 0 [] (ls.drop 1) rfl (by exact World.ownsRow.drew (OwnL.empty w2 31 (Nat.le_refl _))) ⟨g, 3, none⟩ (m - 1) (c - 1) [] rfl (HL.out.gr (by exact ((Gr.refl [] w2).alloc (.cells #[] 31)).drew)) (by have := Hd.out; show 0 + (ls.drop 1).length ≤ 10000000; omega) (by first | (simp; done) | (simp; omega)) ?_; intro g9 c9 w9 hown9 hgr9; have HO9 : Hid (OwnL w2.heap.size w9 31 (.slice (some ⟨g9, 0, none⟩) (m - 1) c9) (ls.drop 1)) := hid (by simpa using hown9); have HG9 : Hid (Gr [] w2 w9) := hid (Gr.step ((Gr.refl [] w2).alloc (.cells #[] 31)).drew hgr9 (fun i hi => .inr (by first | (simp at hi; done) | (simp at hi; omega)))); have hs9 : w2.heap.size + 1 ≤ w9.heap.size := by (have := hgr9.size; simp at this; omega)
           clear hown9 hgr9)
        | (refine step_appL rfl _ _ 56 rfl w2.heap.size 31 (.agg #[.int .i64 0, .int .i64 0, .bool false]) 24 infoL rfl (by omega) Tryz.underlying56 w2.heap.size 0 0 [] (ls.drop 1) rfl (by exact World.ownsRow.drew (World.ownsRow.alloc (OwnL.empty w2 31 (Nat.le_refl _)) (.cells #[.int .i64 y.var, .int .i64 y.val, .bool y.neg] 31))) ⟨g, 3, none⟩ (m - 1) (c - 1) [] rfl (HL.out.gr (by exact (((Gr.refl [] w2).alloc (.cells #[] 31)).alloc (.cells #[.int .i64 y.var, .int .i64 y.val, .bool y.neg] 31)).drew)) (by have := Hd.out; show 0 + (ls.drop 1).length ≤ 10000000; omega) (by first | (simp; done) | (simp; omega)) ?_; intro g9 c9 w9 hown9 hgr9; have HO9 : Hid (OwnL w2.heap.size w9 31 (.slice (some ⟨g9, 0, none⟩) (m - 1) c9) (ls.drop 1)) := hid (by simpa using hown9); have HG9 : Hid (Gr [] w2 w9) := hid (Gr.step (((Gr.refl [] w2).alloc (.cells #[] 31)).alloc (.cells #[.int .i64 y.var, .int .i64 y.val, .bool y.neg] 31)).drew hgr9 (fun i hi => .inr (by first | (simp at hi; done) | (simp at hi; omega)))); have HY : Hid (LitsV [w2.heap.size] w9 (.slice (some ⟨w2.heap.size + 1, 0, none⟩) 1 1) [y]) := hid (by have h := litsNew' (w2.alloc (.cells #[] 31)) y 31 [w2.heap.size] (by simp); rw [World.size_alloc] at h; exact (h.gr (Gr.refl _ _).drew).gr hgr9); have hs9 : w2.heap.size + 1 ≤ w9.heap.size := by (have := hgr9.size; simp at this; omega)
           clear hown9 hgr9)
        | (refine step_appL rfl _ _ 56 rfl w2.heap.size 31 (.agg #[.int .i64 0, .int .i64 0, .bool false]) 24 infoL rfl (by omega) Tryz.underlying56 (w2.heap.size + 1) 0 0 [] (ls.drop 1) rfl (by exact (by have h := OwnL.empty (B := w2.heap.size) (w2.alloc (.cells #[.int .i64 y.var, .int .i64 y.val, .bool y.neg] 31)) 31 (by simp); rw [World.size_alloc] at h; exact World.ownsRow.drew h)) ⟨g, 3, none⟩ (m - 1) (c - 1) [] rfl (HL.out.gr (by exact (((Gr.refl [] w2).alloc (.cells #[.int .i64 y.var, .int .i64 y.val, .bool y.neg] 31)).alloc (.cells #[] 31)).drew)) (by have := Hd.out; show 0 + (ls.drop 1).length ≤ 10000000; omega) (by first | (simp; done) | (simp; omega)) ?_; intro g9 c9 w9 hown9 hgr9; have HO9 : Hid (OwnL w2.heap.size w9 31 (.slice (some ⟨g9, 0, none⟩) (m - 1) c9) (ls.drop 1)) := hid (by simpa using hown9); have HG9 : Hid (Gr [] w2 w9) := hid (Gr.step (((Gr.refl [] w2).alloc (.cells #[.int .i64 y.var, .int .i64 y.val, .bool y.neg] 31)).alloc (.cells #[] 31)).drew hgr9 (fun i hi => .inr (by first | (simp at hi; done) | (simp at hi; omega)))); have HY : Hid (LitsV [w2.heap.size + 1] w9 (.slice (some ⟨w2.heap.size, 0, none⟩) 1 1) [y]) := hid (((litsNew' w2 y 31 [w2.heap.size + 1] (by simp)).gr ((Gr.refl _ _).alloc (.cells #[] 31)).drew).gr hgr9); have hs9 : w2.heap.size + 1 ≤ w9.heap.size := by (have := hgr9.size; simp at this; omega)
           clear hown9 hgr9)
        | (refine step_appL rfl _ _ 56 rfl w2.heap.size 31 (.agg #[.int .i64 0, .int .i64 0, .bool false]) 24 infoL rfl (by omega) Tryz.underlying56 g9 (m - 1) c9 (ls.drop 1) [y] rfl (by exact World.ownsRow.alloc HO9.out (.cells #[.int .i64 y.var, .int .i64 y.val, .bool y.neg] 31)) ⟨w9.heap.size, 0, none⟩ 1 1 _ rfl (by exact litsNew w9 y 31 [] (by simp)) (by have := Hd.out; show (ls.drop 1).length + 1 ≤ 10000000; omega) (by have := HG9.out.size; first | (simp; done) | (simp; omega) | omega) ?_; intro g10 c10 w10 hown10 hgr10; have HO10 : Hid (OwnL w2.heap.size w10 31 (.slice (some ⟨g10, 0, none⟩) (m - 1 + 1) c10) (ls.drop 1 ++ [y])) := hid hown10; have HGB : Hid (Gr [] w2 w10) := hid (((HG9.out.alloc (.cells #[.int .i64 y.var, .int .i64 y.val, .bool y.neg] 31))).step hgr10 (fun i hi => .inr (HO9.out.block i (by simpa [Value.ownBlock] using hi)))); have HGA : Hid (Gr [R] w w10) := hid (Hg2.out.trans HGB.out.any); have HRA : Hid (Rd w10 R cs (q + 10 + 1)) := hid (rdS (Hrd2.out.gr (((HG9.out.alloc (.cells #[.int .i64 y.var, .int .i64 y.val, .bool y.neg] 31))))) hgr10 (fun i hi => by have := HO9.out.block i (by simpa [Value.ownBlock] using hi); have := Hrd2.out.lt; omega)); have HKA := hgr10
           clear hown10 hgr10)
        | (refine step_appL rfl _ _ 56 rfl w2.heap.size 31 (.agg #[.int .i64 0, .int .i64 0, .bool false]) 24 infoL rfl (by omega) Tryz.underlying56 g9 (0 + (m - 1)) c9 (ls.drop 1) [y] rfl (by rw [Nat.zero_add]; exact HO9.out) ⟨(w2.heap.size + 1), 0, none⟩ 1 1 _ rfl (by exact HY.out) (by have := Hd.out; show (ls.drop 1).length + 1 ≤ 10000000; omega) (by have := HG9.out.size; first | (simp; done) | (simp; omega) | omega) ?_; intro g10 c10 w10 hown10 hgr10; have HO10 : Hid (OwnL w2.heap.size w10 31 (.slice (some ⟨g10, 0, none⟩) (m - 1 + 1) c10) (ls.drop 1 ++ [y])) := hid (by rw [Nat.zero_add] at hown10; exact hown10); have HGB : Hid (Gr [] w2 w10) := hid ((HG9.out).step hgr10 (fun i hi => .inr (HO9.out.block i (by simpa [Value.ownBlock] using hi)))); have HGA : Hid (Gr [R] w w10) := hid (Hg2.out.trans HGB.out.any); have HRA : Hid (Rd w10 R cs (q + 10 + 1)) := hid (rdS (Hrd2.out.gr ((HG9.out))) hgr10 (fun i hi => by have := HO9.out.block i (by simpa [Value.ownBlock] using hi); have := Hrd2.out.lt; omega)); have HKA := hgr10
           clear hown10 hgr10)
        | (refine step_appL rfl _ _ 56 rfl w2.heap.size 31 (.agg #[.int .i64 0, .int .i64 0, .bool false]) 24 infoL rfl (by omega) Tryz.underlying56 g9 (m - 1) c9 (ls.drop 1) [y] rfl (by exact HO9.out) ⟨(w2.heap.size + 1), 0, none⟩ 1 1 _ rfl (by exact HY.out) (by have := Hd.out; show (ls.drop 1).length + 1 ≤ 10000000; omega) (by have := HG9.out.size; first | (simp; done) | (simp; omega) | omega) ?_; intro g10 c10 w10 hown10 hgr10; have HO10 : Hid (OwnL w2.heap.size w10 31 (.slice (some ⟨g10, 0, none⟩) (m - 1 + 1) c10) (ls.drop 1 ++ [y])) := hid hown10; have HGB : Hid (Gr [] w2 w10) := hid ((HG9.out).step hgr10 (fun i hi => .inr (HO9.out.block i (by simpa [Value.ownBlock] using hi)))); have HGA : Hid (Gr [R] w w10) := hid (Hg2.out.trans HGB.out.any); have HRA : Hid (Rd w10 R cs (q + 10 + 1)) := hid (rdS (Hrd2.out.gr ((HG9.out))) hgr10 (fun i hi => by have := HO9.out.block i (by simpa [Value.ownBlock] using hi); have := Hrd2.out.lt; omega)); have HKA := hgr10
           clear hown10 hgr10)
        | (refine step_appL rfl _ _ 56 rfl w2.heap.size 31 (.agg #[.int .i64 0, .int .i64 0, .bool false]) 24 infoL rfl (by omega) Tryz.underlying56 g9 (0 + (m - 1)) c9 (ls.drop 1) [y] rfl (by rw [Nat.zero_add]; exact HO9.out) ⟨w2.heap.size, 0, none⟩ 1 1 _ rfl (by exact HY.out) (by have := Hd.out; show (ls.drop 1).length + 1 ≤ 10000000; omega) (by have := HG9.out.size; first | (simp; done) | (simp; omega) | omega) ?_; intro g10 c10 w10 hown10 hgr10; have HO10 : Hid (OwnL w2.heap.size w10 31 (.slice (some ⟨g10, 0, none⟩) (m - 1 + 1) c10) (ls.drop 1 ++ [y])) := hid (by rw [Nat.zero_add] at hown10; exact hown10); have HGB : Hid (Gr [] w2 w10) := hid ((HG9.out).step hgr10 (fun i hi => .inr (HO9.out.block i (by simpa [Value.ownBlock] using hi)))); have HGA : Hid (Gr [R] w w10) := hid (Hg2.out.trans HGB.out.any); have HRA : Hid (Rd w10 R cs (q + 10 + 1)) := hid (rdS (Hrd2.out.gr ((HG9.out))) hgr10 (fun i hi => by have := HO9.out.block i (by simpa [Value.ownBlock] using hi); have := Hrd2.out.lt; omega)); have HKA := hgr10
           clear hown10 hgr10)
        | (refine step_appL rfl _ _ 56 rfl w2.heap.size 31 (.agg #[.int .i64 0, .int .i64 0, .bool false]) 24 infoL rfl (by omega) Tryz.underlying56 g9 (m - 1) c9 (ls.drop 1) [y] rfl (by exact HO9.out) ⟨w2.heap.size, 0, none⟩ 1 1 _ rfl (by exact HY.out) (by have := Hd.out; show (ls.drop 1).length + 1 ≤ 10000000; omega) (by have := HG9.out.size; first | (simp; done) | (simp; omega) | omega) ?_; intro g10 c10 w10 hown10 hgr10; have HO10 : Hid (OwnL w2.heap.size w10 31 (.slice (some ⟨g10, 0, none⟩) (m - 1 + 1) c10) (ls.drop 1 ++ [y])) := hid hown10; have HGB : Hid (Gr [] w2 w10) := hid ((HG9.out).step hgr10 (fun i hi => .inr (HO9.out.block i (by simpa [Value.ownBlock] using hi)))); have HGA : Hid (Gr [R] w w10) := hid (Hg2.out.trans HGB.out.any); have HRA : Hid (Rd w10 R cs (q + 10 + 1)) := hid (rdS (Hrd2.out.gr ((HG9.out))) hgr10 (fun i hi => by have := HO9.out.block i (by simpa [Value.ownBlock] using hi); have := Hrd2.out.lt; omega)); have HKA := hgr10
           clear hown10 hgr10))
      all_goals
        go_wp2_with fail
        go_ret
        exact ⟨ls.drop 1 ++ [y], m - 1 + 1, g10, c10, by simp, HO10.out.le hgw2, by have := Hd.out; simp at this ⊢; omega, trivial, HRA.out.le (by omega), HGA.out⟩
    · have hm1' : decide ((1 : Int) < (m : Int)) = false := by simp; omega
      go_wp2_with fail
      go_ret
      exact ⟨ls, m, g, c, rfl, Ho2.out, by omega, trivial, Hrd2.out.le (by omega), Hg2.out⟩
  · have h1' : (r2 == 1) = false := by simpa using h1
    clear h1
    go_wp2_with fail
    go_ret
    exact ⟨ls, m, g, c, rfl, Ho2.out, by omega, trivial, Hrd2.out.le (by omega), Hg2.out⟩


end Go.Proofs.YtpfelbbmgbfkeaaGreat
