/-
  Walks: the generators of clauses and conjunctions; DrawNegateAll.
  Walks: the generator of CheckProof's arguments.
-/
import Derived.Test.YtlekngkcifgonaaGreatXBVlMg
import Derived.Test.YtlekngkcifgonaaGreatXTrPrPv
import Derived.Deep.RegionHeldLaw
import Derived.Test.YtlekngkcifgonaaGreatXBPy
import Derived.Test.YtlekngkcifgonaaGreatXG13
set_option linter.unusedVariables false
set_option linter.unusedSimpArgs false
namespace Go.Proofs.YtlekngkcifgonaaGreat
open Go.RowKit

/-- What a generator of literals leaves: a list of the call's own. -/
def ClPost (B : Nat) (R : Nat) (cs : List Int) (q : Nat) (ok : Cls → Prop) (w : World) (e : Ending) (w' : World) : Prop :=
  ∃ (ls : Cls) (m g c : Nat), e = .returned (.slice (some ⟨g, 0, none⟩) m c) ∧ OwnL B w' 45 (.slice (some ⟨g, 0, none⟩) m c) ls ∧ ls.length ≤ 8 ∧ ok ls ∧ Rd w' R cs q ∧ Gr [R] w w'
def ascOk (n : Nat) (ls : Cls) : Prop := ls.length ≤ 3 ∧ (ls.Pairwise fun a b => litLt a b = true) ∧ (1 ≤ n → ∀ l ∈ ls, litOk n l = true)
theorem mergeL_one (d : Cls) (l : Lit) : mergeL d [l] = insL l d := rfl
theorem OwnL.len' {B : Nat} {w : World} {e : TypeId} {g m c : Nat} {ls : Cls} (h : OwnL B w e (.slice (some ⟨g, 0, none⟩) m c) ls) : m = ls.length := by
  rcases h.2 with ⟨e1, _⟩ | ⟨g', cap, cur, e1, _⟩
  · cases e1
  · cases e1; rfl

set_option maxRecDepth 100000 in
set_option maxHeartbeats 2000000 in
theorem randomClause_c (R : Nat) (cs : List Int) (q : Nat) (n : Nat) (w : World) (hr : Rd w R cs q) (hq : q ≤ 100000000) (hn : n ≤ 1000) :
    Calls Tryz.prog 167 #[.pointer (some ⟨R, 0, none⟩), .int .i64 (n : Int)] w (ClPost w.heap.size R cs (q + 10) (ascOk n) w) := by
  have hRw := hr.lt
  have hg0 : Gr [] w (w.alloc (.cells #[] 45)) := (Gr.refl _ _).alloc _
  have Hg0 := hid hg0; have Hr := hid hr
  clear hg0 hr
  go_enter Tryz.func167, Tryz.ntmps167
  go_wp2_with fail
  have hcall := pick_c R cs q 4 _ (Hr.out.gr Hg0.out) (by omega) (by omega)
  (with_reducible refine hcall.mono ?_)
  clear hcall
  rintro e w1 ⟨⟨r1, rfl, hr10, hr1n⟩, hrd1, hg1⟩
  obtain ⟨r1, rfl⟩ := Int.eq_ofNat_of_zero_le hr10
  have hr14 : r1 < 4 := by omega
  have HO1 : Hid (OwnL w.heap.size w1 45 (.slice (some ⟨w.heap.size, 0, none⟩) 0 0) []) := hid ((OwnL.empty w 45 (Nat.le_refl _)).gr hg1 (by simp; omega))
  have HG1 : Hid (Gr [R] w w1) := hid (Hg0.out.any.trans hg1); have Hrd1 := hid hrd1
  clear hg1 hrd1 hr10 hr1n
  go_wp2_with fail
  go_loopw [5, 6] (fun v i wr => ∃ (k m g c : Nat) (ls : Cls), k ≤ 4 ∧ i = .int .i64 k ∧ v = .slice (some ⟨g, 0, none⟩) m c ∧ ls.length + k ≤ 3 ∧ Hid (OwnL w.heap.size wr 45 (.slice (some ⟨g, 0, none⟩) m c) ls) ∧ Hid (ascOk n ls) ∧ Hid (Rd wr R cs (q + 1 + 3 * (3 - k))) ∧ Hid (Gr [R] w wr)) (fun _ i _ => (intOf i).toNat)
  case atStart => exact ⟨r1, 0, w.heap.size, 0, [], by omega, rfl, rfl, by simp; omega, HO1, hid ⟨by simp, List.Pairwise.nil, by simp⟩, hid (Hrd1.out.le (by omega)), HG1⟩
  case round =>
    obtain ⟨k, m, g, c, ls, hk, rfl, rfl, hlk, Ho, Hok, Hrd, HL⟩ := hrel
    have hml := Ho.out.len'
    have hm9 : m ≤ 8 := by omega
    clear hml
    by_cases hlt : 0 < k
    · go_wp2_with fail
      have hcall := pick_c R cs (q + 1 + 3 * (3 - k)) n _ Hrd.out (by omega) (by omega)
      (with_reducible refine hcall.mono ?_)
      clear hcall
      rintro e w2 ⟨⟨r2, rfl, hr20, hr2n⟩, hrd2, hg2⟩
      have Hrd2 := hid hrd2; have Hg2 := hid hg2; have Hv2 : Hid (0 ≤ r2 ∧ (r2 < n ∨ r2 = 0)) := hid ⟨hr20, hr2n⟩
      clear hrd2 hg2 hr20 hr2n
      go_wp2_with fail
      have hcall := pick_c R cs (q + 1 + 3 * (3 - k) + 1) 4 _ Hrd2.out (by omega) (by omega)
      (with_reducible refine hcall.mono ?_)
      clear hcall
      rintro e w3 ⟨⟨r3, rfl, hr30, hr3n⟩, hrd3, hg3⟩
      have Hrd3 := hid hrd3; have Hg3 := hid (Hg2.out.trans hg3); have Hv3 : Hid (0 ≤ r3 ∧ r3 ≤ 5) := hid ⟨hr30, by omega⟩
      clear hrd3 hg3 hr30 hr3n
      go_wp2_with fail
      have hcall := pick_c R cs (q + 1 + 3 * (3 - k) + 1 + 1) 2 _ Hrd3.out (by omega) (by omega)
      (with_reducible refine hcall.mono ?_)
      clear hcall
      rintro e w4 ⟨⟨r4, rfl, hr40, hr4n⟩, hrd4, hg4⟩
      obtain ⟨b, hb⟩ : ∃ b, (r4 == 0) = b := ⟨_, rfl⟩
      have hg40 : Gr [R] wr w4 := Hg3.out.trans hg4
      have ha : Gr [R] wr (w4.alloc (.cells #[.int .i64 r2, .int .i64 r3, .bool b] 45)) := hg40.alloc _
      have Ho4 := hid (Ho.out.gr ha (by simp; omega))
      have HL4 := hid (HL.out.trans ha)
      have Hrd4 := hid (hrd4.gr ((Gr.refl [] w4).alloc (.cells #[.int .i64 r2, .int .i64 r3, .bool b] 45)))
      have hbs : w.heap.size ≤ w4.heap.size := by have := HL4.out.size; have := (HL.out.trans hg40).size; exact this
      have Hn4 := hid (litsNew w4 ⟨r2, r3, b⟩ 45 [] (by simp))
      clear hrd4 hg4 hr40 hr4n hg40 ha
      go_wp2_with fail
      have hcall := mergeClauses_c ls [⟨r2, r3, b⟩] _ _ _ (Ho4.out.lits (S := []) (by simp)) Hn4.out (by simp; omega)
      (with_reducible refine hcall.mono ?_)
      clear hcall
      rintro e w5 ⟨g5, c5, rfl, ho5, hg5⟩
      obtain ⟨m5, hm5⟩ : ∃ m5, m5 = (mergeL ls [⟨r2, r3, b⟩]).length := ⟨_, rfl⟩
      rw [← hm5] at ho5 ⊢
      have Ho5 := hid (ho5.le (Nat.le_trans hbs (by simp))); have Hg5 := hid hg5
      have Hok5 : Hid (ascOk n (mergeL ls [⟨r2, r3, b⟩])) := hid (by
        obtain ⟨h1, h2, h3⟩ := Hok.out
        have hll := insL_len ⟨r2, r3, b⟩ ls
        refine ⟨by rw [mergeL_one]; omega, by rw [mergeL_one]; exact insL_asc h2, fun hn1 l hl => ?_⟩
        rw [mergeL_one] at hl
        rcases mem_insL.1 hl with rfl | hl
        · have h4 := Hv2.out; have h5 := Hv3.out
          exact litOk_iff.2 ⟨by dsimp only; omega, h5⟩
        · exact h3 hn1 l hl)
      have Hll : Hid ((mergeL ls [⟨r2, r3, b⟩]).length + (k - 1) ≤ 3) := hid (by have := insL_len ⟨r2, r3, b⟩ ls; rw [mergeL_one]; omega)
      clear ho5 hg5 hm5 hb
      go_wp2_with fail
      exact ⟨⟨k - 1, m5, g5, c5, _, by omega, by go_num, rfl, Hll.out, Ho5, Hok5, hid ((Hrd4.out.gr Hg5.out).le (by omega)), hid (HL4.out.trans Hg5.out.any)⟩, by simp [intOf]; omega⟩
    · have hk0 : k = 0 := by omega
      subst hk0
      go_wp2_with fail
      go_ret
      exact ⟨ls, m, g, c, rfl, Ho.out, by omega, Hok.out, Hrd.out.le (by omega), HL.out⟩

theorem rdS {S : List Nat} {w w' : World} {R : Nat} {bs : List Int} {q : Nat} (h : Rd w R bs q) (hg : Gr S w w') (hS : ∀ i ∈ S, R < i) : Rd w' R bs q := by
  obtain ⟨ao, cap, p, hR, hn, hb, hp, hl, h⟩ := h
  refine ⟨ao, cap, p, hg.obj hR (fun hm => by have := hS R hm; omega), fun i x hi => ?_, hb, hp, hl, h⟩
  obtain ⟨b, o, e, hs, hc⟩ := hn i x hi
  have hbR := hb _ e (Nat.lt_of_le_of_lt (Nat.zero_le _) (List.getElem?_eq_some_iff.1 hi).1)
  exact ⟨b, o, e, hs, hg.cell hc (fun hm => by have := hS _ hm; dsimp only at hbR this; omega)⟩

end Go.Proofs.YtlekngkcifgonaaGreat

set_option linter.unusedVariables false
set_option linter.unusedSimpArgs false
namespace Go.Proofs.YtlekngkcifgonaaGreat
open Go.RowKit

/-! ### A list of clauses in a block of the call's own -/
def OwnK (B : Nat) (S : List Nat) (w : World) (g n c : Nat) (cls : List Cls) : Prop :=
  ∃ us : List Value, w.ownsRow B 110 1 (.slice (some ⟨g, 0, none⟩) n c) n us ∧ us.length = cls.length ∧ ∀ (i : Nat) u d, us[i]? = some u → cls[i]? = some d → LitsV S w u d
theorem ClsV.cellsB {S : List Nat} {w : World} {ad : Addr} {n cap : Nat} {cls : List Cls} (h : ClsV S w (.slice (some ad) n cap) cls) :
    ∃ us : List Value, us.length = n ∧ (∀ j u, us[j]? = some u → w.cell? (ad.add j) = some u) ∧ (∀ u ∈ us, u.oneCell' = true) ∧ ∀ (i : Nat) u d, us[i]? = some u → cls[i]? = some d → LitsV S w u d := by
  obtain ⟨ao, cap', e, ⟨h1, h2, h3⟩, hc⟩ := h
  cases e
  obtain ⟨f, hf⟩ := Go.Deep.choose_lt (n := cls.length) (p := fun i (u : Value) => w.cell? (ad.add i) = some u ∧ u.oneCell' = true ∧ ∀ d, cls[i]? = some d → LitsV S w u d) (fun i hi => by
    obtain ⟨d, hd⟩ := get_some hi
    obtain ⟨b, o, u, e1, -, hcell, hl⟩ := hc i d hd
    cases e1
    refine ⟨u, by rw [addr_add]; exact hcell, ?_, fun d' hd' => by rw [hd] at hd'; cases hd'; exact hl⟩
    obtain ⟨x, y, rfl, -⟩ := hl.slice
    rfl)
  refine ⟨(List.range cls.length).map f, by simp, fun j u hj => ?_, fun u hu => ?_, fun i u d hi hd => ?_⟩
  · have hjl : j < cls.length := by have := (List.getElem?_eq_some_iff.1 hj).1; simpa using this
    rw [List.getElem?_map, List.getElem?_range hjl] at hj
    have : f j = u := by simpa using hj
    rw [← this]; exact (hf j hjl).1
  · obtain ⟨j, hj, rfl⟩ := List.mem_map.1 hu
    exact (hf j (List.mem_range.1 hj)).2.1
  · have hil := (List.getElem?_eq_some_iff.1 hd).1
    rw [List.getElem?_map, List.getElem?_range hil] at hi
    have : f i = u := by simpa using hi
    rw [← this]; exact (hf i hil).2.2 d hd
theorem OwnK.cell {B : Nat} {S : List Nat} {w : World} {g n c : Nat} {cls : List Cls} (h : OwnK B S w g n c cls) :
    n = cls.length ∧ (n ≤ c ∧ c ≤ 9223372036854775807) ∧ (B ≤ g ∧ g < w.heap.size) ∧ (∀ j, w.frozen? ⟨g, j, none⟩ = false) ∧ ∃ us : List Value, us.length = n ∧ (∀ (i : Nat) u, us[i]? = some u → w.cell? ⟨g, i, none⟩ = some u) ∧ (∀ (i : Nat) u d, us[i]? = some u → cls[i]? = some d → LitsV S w u d) ∧
      (∀ u ∈ us, u.oneCell' = true) := by
  obtain ⟨us, ⟨h0, h⟩, hl, hu⟩ := h
  rw [Nat.mul_one] at h0
  rcases h with ⟨e1, _⟩ | ⟨g', cap, cur, e1, hB, hg, h6, h7, h8, h9⟩
  · cases e1
  · cases e1
    refine ⟨by omega, ⟨h6, by simp only [maxLen] at h7; omega⟩, ⟨hB, lt_of_block hg⟩, fun j => fldF hg j, us, h0, fun i u hi => ?_, hu, fun u hm => ?_⟩
    · rw [fld hg i]
      have hil := (List.getElem?_eq_some_iff.1 hi).1
      have : (cur.toList.take (n * 1))[i]? = some u := by rw [h9]; exact hi
      rw [List.getElem?_take, if_pos (by omega)] at this
      simpa using this
    · obtain ⟨i, hi⟩ := List.mem_iff_getElem?.1 hm
      have hil := (List.getElem?_eq_some_iff.1 hi).1
      obtain ⟨d, hd⟩ := get_some (xs := cls) (k := i) (by omega)
      obtain ⟨x, y, rfl, -⟩ := (hu i u d hi hd).slice
      rfl
theorem OwnK.weak {B : Nat} {S : List Nat} {w : World} {g n c : Nat} {cls : List Cls} (h : OwnK B (g :: S) w g n c cls) : OwnK B S w g n c cls :=
  let ⟨us, ho, hl, hu⟩ := h
  ⟨us, ho, hl, fun i u d hi hd => (hu i u d hi hd).sub (fun b _ hb => by simp [hb])⟩
theorem OwnK.cls {B : Nat} {S : List Nat} {w : World} {g n c : Nat} {cls : List Cls} (h : OwnK B S w g n c cls) (hS : g ∉ S) : ClsV S w (.slice (some ⟨g, 0, none⟩) n c) cls := by
  obtain ⟨h1, h2, h3, h4, us, h5, h6, h7, h8⟩ := h.cell
  refine ⟨_, _, by rw [h1], ⟨by omega, h2.2, by simp⟩, fun i d hi => ?_⟩
  have hil := (List.getElem?_eq_some_iff.1 hi).1
  obtain ⟨u, hu⟩ := get_some (xs := us) (k := i) (by omega)
  exact ⟨g, 0, u, rfl, hS, by rw [Nat.zero_add]; exact h6 i u hu, h7 i u d hu hi⟩
theorem OwnK.gr {B : Nat} {S T : List Nat} {w w' : World} {g n c : Nat} {cls : List Cls} (h : OwnK B S w g n c cls) (hg : Gr T w w') (hT : ∀ b ∈ T, b ∈ S ∧ b < B) : OwnK B S w' g n c cls := by
  obtain ⟨us, ho, hl, hu⟩ := h
  refine ⟨us, hg.ownsRow ho (fun b hb => (hT b hb).2), hl, fun i u d hi hd => ?_⟩
  exact (hu i u d hi hd).gr (hg.sub (fun k _ hk => (hT k hk).1))
/-- 'append([][]Literal{}, p...)', p nil or not. -/
theorem wpl_appK0 {P : Program} {w : World} {ops : Array Oper} {rest : List Oper} {o : Oper} {a : Act} {Q : Exit → Act → World → Prop} (hgd : o.guard = none) (s x : Operand) (t : TypeId)
    (ho : o.op = .call { callee := .builtin .append, args := #[s, x], argTypes := #[t, t] }) (B : Nat) (z : Value) (bytes : Nat) (hinfo : (P.info? 110).map (fun i => (i.zero, i.size, i.bytes)) = some (some z, 1, bytes)) (hzs : z.cells.size = 1) (hby : bytes ≤ 100)
    (ht : P.underlying t = some (.slice 110)) (g : Nat) (c : Nat) (hs : a.eval s = .slice (some ⟨g, 0, none⟩) 0 c) (hown : w.ownsRow B 110 1 (.slice (some ⟨g, 0, none⟩) 0 c) 0 []) (u : Value) (hx : a.eval x = u) (S : List Nat) (cls : List Cls) (hn : ClsV (g :: S) w u cls) (hgB : g = B) (hsz : w.heap.size ≤ B + 1)
    (hlen : cls.length ≤ 1000000) (hB : B ≤ w.heap.size)
    (h : ∀ g' c' w', OwnK B (g' :: S) w' g' cls.length c' cls → Gr [g] w w' → wpList P ops Q rest (a.put o.dst (.slice (some ⟨g', 0, none⟩) cls.length c')) w') : wpList P ops Q (o :: rest) a w := by
  obtain ⟨i0, hi, hz0, hz1, hz2⟩ := info_parts hinfo
  have Hn := hid hn
  obtain ⟨ao, cap, rfl, ⟨hlc, hcm, hnil⟩, hc⟩ := hn
  cases ao with
  | none =>
    have hcap := hnil rfl
    have hy : cls = [] := List.eq_nil_of_length_eq_zero (by omega)
    subst hy hcap
    exact wpList_append_own_none hgd s x t ho B _ i0 1 ht hi _ 0 _ hs hown hx (h g c w ⟨[], hown, rfl, by simp⟩ (Gr.refl _ _))
  | some ad =>
    obtain ⟨us, hu1, hu2, hu3, hu4⟩ := Hn.out.cellsB
    have hbb : (0 + cls.length) * bytes ≤ (0 + cls.length) * 100 := Nat.mul_le_mul_left _ hby
    refine wpList_append_own w hgd s x t ho B _ i0 z 1 bytes ht hi hz0 hz1 hz2 hzs (by decide) _ 0 _ hs hown ad cls.length cap us hx (by omega) hu2 hu3 (by simp only [maxLen]; omega) (by omega) hB ?_
    intro v' w' hown' hgrow hnil'
    rw [Nat.zero_add, List.nil_append] at hown'
    have hgr : Gr [g] w w' := ⟨hgrow.os, hgrow.tape, hgrow.output, hgrow.size, fun k hk hs => hgrow.block k hk (fun e => hs (by simp [Value.ownBlock] at e; simp [e]))⟩
    rcases hown'.2 with ⟨e1, _⟩ | ⟨g', c', cur, e1, h2⟩
    · have := hnil'.1 e1; cases this.1
    · subst e1
      refine h g' c' w' ⟨us, ⟨hown'.1, .inr ⟨g', c', cur, rfl, h2⟩⟩, hu1, fun i u d hi hd => ?_⟩ hgr
      refine (hu4 i u d hi hd).far (hgr.sub (fun k _ h => by simp at h; simp [h])) (fun b hb => ?_)
      rcases List.mem_cons.1 hb with h | h
      · subst h
        by_cases e : b = g
        · exact .inl (by simp [e])
        · exact .inr (by omega)
      · exact .inl (by simp [h])
theorem ClsV.far {S S' : List Nat} {w w' : World} {v : Value} {cs : List Cls} (h : ClsV S w v cs) (hg : Gr S w w') (hS : ∀ b ∈ S', b ∈ S ∨ w.heap.size ≤ b) : ClsV S' w' v cs :=
  let ⟨ao, cap, e, hl, hc⟩ := h
  ⟨ao, cap, e, hl, fun i c hi => let ⟨b, o, u, e1, hs, h1, h2⟩ := hc i c hi; ⟨b, o, u, e1, fun hm => by
    have := World.block_lt_of_cell? w _ h1
    have h' : b < w.heap.size := this
    rcases hS b hm with h | h
    · exact hs h
    · omega, hg.cell h1 hs, h2.far hg hS⟩⟩
theorem OwnK.take {B : Nat} {S : List Nat} {w : World} {g n c : Nat} {cls : List Cls} (h : OwnK B S w g n c cls) (hS : g ∉ S) (k : Nat) (hk : k ≤ n) : ClsV S w (.slice (some ⟨g, 0, none⟩) k c) (cls.take k) := by
  obtain ⟨h1, h2, h3, h4, us, h5, h6, h7, h8⟩ := h.cell
  refine ⟨_, _, by rw [List.length_take, Nat.min_eq_left (by omega)], ⟨by rw [List.length_take]; omega, h2.2, by simp⟩, fun i d hi => ?_⟩
  rw [List.getElem?_take] at hi
  split at hi
  · have hil := (List.getElem?_eq_some_iff.1 hi).1
    obtain ⟨u, hu⟩ := get_some (xs := us) (k := i) (by omega)
    exact ⟨g, 0, u, rfl, hS, by rw [Nat.zero_add]; exact h6 i u hu, h7 i u d hu hi⟩
  · cases hi
/-- One of the clauses is another one. -/
theorem OwnK.put {B : Nat} {S : List Nat} {w : World} {g n c k : Nat} {cls : List Cls} {y : Cls} {u : Value} (h : OwnK B (g :: S) w g n c cls) (hS : g ∉ S) (hk : k < n) (hu : LitsV (g :: S) w u y) : ClsV S (w.setCell ⟨g, k, none⟩ u) (.slice (some ⟨g, 0, none⟩) n c) (cls.set k y) := by
  obtain ⟨h1, h2, h3, h4, us, h5, h6, h7, h8⟩ := h.cell
  have hgr : Gr (g :: S) w (w.setCell ⟨g, k, none⟩ u) := (Gr.refl _ _).setCell _ _ (.inl (by simp))
  refine ⟨_, _, by rw [List.length_set, h1], ⟨by rw [List.length_set]; omega, h2.2, by simp⟩, fun i d hi => ?_⟩
  by_cases hik : k = i
  · subst hik
    rw [List.getElem?_set_self (by omega)] at hi
    cases hi
    obtain ⟨u0, hu0⟩ := get_some (xs := us) (k := k) (by omega)
    exact ⟨g, 0, u, rfl, hS, by rw [Nat.zero_add]; exact World.cell?_setCell_same _ _ _ (h6 k u0 hu0), (hu.gr hgr).sub (fun b _ hb => by simp [hb])⟩
  · rw [List.getElem?_set_ne hik] at hi
    have hil := (List.getElem?_eq_some_iff.1 hi).1
    obtain ⟨v, hv⟩ := get_some (xs := us) (k := i) (by omega)
    exact ⟨g, 0, v, rfl, hS, by rw [Nat.zero_add, World.cell?_setCell_other _ _ _ _ (fun e => hik (by have := congrArg Addr.off e; omega))]; exact h6 i v hv, ((h7 i v d hv hi).gr hgr).sub (fun b _ hb => by simp [hb])⟩
/-- One of the clauses is dropped, in place. -/
theorem OwnK.cut {B : Nat} {S : List Nat} {w : World} {g n c k : Nat} {cls : List Cls} {us : List Value} (h : OwnK B (g :: S) w g n c cls) (hS : g ∉ S) (hk : k < n) (hu : us.length = n) (hc : ∀ (i : Nat) u, us[i]? = some u → w.cell? ⟨g, i, none⟩ = some u) :
    ClsV S (w.setCells g k (us.drop (k + 1))) (.slice (some ⟨g, 0, none⟩) (k + (n - (k + 1))) c) (cls.take k ++ cls.drop (k + 1)) ∧ Gr [g] w (w.setCells g k (us.drop (k + 1))) := by
  obtain ⟨h1, h2, h3, h4, us', h5, h6, h7, h8⟩ := h.cell
  have hus : us' = us := by
    refine List.ext_getElem? fun i => ?_
    by_cases hi : i < n
    · obtain ⟨a, ha⟩ := get_some (xs := us') (k := i) (by omega)
      obtain ⟨b, hb⟩ := get_some (xs := us) (k := i) (by omega)
      have e1 := h6 i a ha
      have e2 := hc i b hb
      rw [ha, hb]
      rw [e1] at e2
      exact e2
    · rw [List.getElem?_eq_none (by omega), List.getElem?_eq_none (by omega)]
  subst hus
  have key : ∀ (vs : List Value) (o : Nat) (W : World), Gr [g] W (W.setCells g o vs) := by
    intro vs
    induction vs with
    | nil => intro o W; exact Gr.refl _ _
    | cons v r ih => intro o W; exact ((Gr.refl _ _).setCell _ _ (.inl (by simp))).trans (ih (o + 1) _)
  have hgr := key (us'.drop (k + 1)) k w
  have hdl : (us'.drop (k + 1)).length = n - (k + 1) := by rw [List.length_drop, h5]
  refine ⟨⟨_, _, by rw [List.length_append, List.length_take, List.length_drop]; congr 1; omega, ⟨by rw [List.length_append, List.length_take, List.length_drop]; omega, h2.2, by simp⟩, fun i d hi => ?_⟩, hgr⟩
  have fin : ∀ {u d}, LitsV (g :: S) w u d → LitsV S (w.setCells g k (us'.drop (k + 1))) u d := fun h => (h.gr (hgr.sub (fun b _ hb => by simp at hb; simp [hb]))).sub (fun b _ hb => by simp [hb])
  have htl : (cls.take k).length = k := by rw [List.length_take]; omega
  by_cases hik : i < k
  · rw [List.getElem?_append_left (by omega), List.getElem?_take, if_pos hik] at hi
    have hil := (List.getElem?_eq_some_iff.1 hi).1
    obtain ⟨u, hu⟩ := get_some (xs := us') (k := i) (by omega)
    exact ⟨g, 0, u, rfl, hS, by rw [Nat.zero_add, World.cell?_setCells_out g _ _ _ _ (fun _ _ => .inl hik)]; exact h6 i u hu, fin (h7 i u d hu hi)⟩
  · rw [List.getElem?_append_right (by omega), htl, List.getElem?_drop] at hi
    have hil := (List.getElem?_eq_some_iff.1 hi).1
    obtain ⟨u, hu⟩ := get_some (xs := us') (k := k + 1 + (i - k)) (by omega)
    have hin := World.cell?_setCells_in g (us'.drop (k + 1)) k w (fun j hj => by
      obtain ⟨x, hx⟩ := get_some (xs := us') (k := k + j) (by omega)
      rw [h6 _ x hx]; rfl) (i - k) (by omega)
    rw [show k + (i - k) = i by omega] at hin
    have e : (us'.drop (k + 1))[i - k]'(by omega) = u := by
      have h9 : (us'.drop (k + 1))[i - k]? = some u := by rw [List.getElem?_drop]; exact hu
      rw [List.getElem?_eq_getElem (by omega)] at h9
      exact Option.some.inj h9
    rw [e] at hin
    exact ⟨g, 0, u, rfl, hS, by rw [Nat.zero_add]; exact hin, fin (h7 _ u d hu hi)⟩

set_option maxRecDepth 100000 in
set_option maxHeartbeats 4000000 in
theorem bend_c (R : Nat) (cs : List Int) (q : Nat) (n : Nat) (S0 : List Nat) (p : List Cls) (pv : Value) (w : World) (hr : Rd w R cs q) (hq : q ≤ 1000000) (hn : n ≤ 1000) (hp : ClsV (R :: S0) w pv p) (hpl : p.length ≤ 1000) (hS0 : ∀ b ∈ S0, b < w.heap.size) (hc : ∀ c ∈ p, c.length ≤ 100) :
    Calls Tryz.prog 85 #[.pointer (some ⟨R, 0, none⟩), pv, .int .i64 (n : Int)] w fun e w' => ∃ (kv : Value) (cls : List Cls), e = .returned kv ∧ ClsV (R :: S0) w' kv cls ∧ cls.length ≤ 1001 ∧ (∀ c ∈ cls, c.length ≤ 100) ∧ Gr [R] w w' := by
  have hRw := hr.lt
  have HS : Hid (∀ b ∈ R :: S0, b < w.heap.size) := hid fun b hb => by
    rcases List.mem_cons.1 hb with h | h
    · omega
    · exact hS0 b h
  obtain ⟨po, pc, rfl, ⟨hp1, hp2⟩⟩ := hp.slice
  have hg0 : Gr [] w (w.alloc (.cells #[] 110)) := (Gr.refl _ _).alloc _
  have Hp1 : Hid (ClsV (w.heap.size :: R :: S0) (w.alloc (.cells #[] 110)) (.slice po p.length pc) p) := hid (hp.far hg0.any (fun b hb => by
    rcases List.mem_cons.1 hb with h | h
    · exact .inr (by omega)
    · exact .inl h))
  have Hr0 := hid (hr.gr hg0); have Hg0 := hid hg0; have Hc := hid hc
  have Hown0 : Hid ((w.alloc (.cells #[] 110)).ownsRow w.heap.size 110 1 (.slice (some ⟨w.heap.size, 0, none⟩) 0 0) 0 []) := hid ⟨rfl, .inr ⟨w.heap.size, 0, #[], rfl, Nat.le_refl _, heap_alloc_new _ _, Nat.le_refl _, by simp [maxLen], rfl, rfl⟩⟩
  clear hp hr hg0 hc hS0
  by_cases hp0 : p.length = 0
  · have hp0' : ((p.length : Int) == 0) = true := by rw [hp0]; rfl
    clear hp0
    go_enter Tryz.func85, Tryz.ntmps85
    go_wp2_with (at_builtin; go_loud (refine wpl_appK0 rfl _ _ 29 rfl w.heap.size (.slice none 0 0) 24 infoK rfl (by omega) Tryz.underlying29 w.heap.size 0 rfl Hown0.out (.slice po p.length pc) rfl (R :: S0) p Hp1.out rfl (by simp) (by omega) (by simp) ?_; intro g1 c1 w2 hown2 hg2))
    have HO2 := hid hown2
    have HG2 : Hid (Gr [] w w2) := hid (Hg0.out.step hg2 (fun i hi => .inr (by simp at hi; omega)))
    have Hr2 := hid (rdS Hr0.out hg2 (fun i hi => by simp at hi; omega))
    have hs2 := HG2.out.size
    obtain ⟨-, hc1, hgB, -⟩ := hown2.cell
    clear hown2 hg2
    go_ret
    have h2 := heap2P w2 (.cells #[] 45) (.cells #[.slice (some ⟨w2.heap.size, 0, none⟩) 0 0] 110)
    have hgE : Gr [] w2 ((w2.alloc (.cells #[] 45)).alloc (.cells #[.slice (some ⟨w2.heap.size, 0, none⟩) 0 0] 110)) := ((Gr.refl _ _).alloc _).alloc _
    refine ⟨_, [[]], rfl, ⟨_, _, rfl, by simp, fun i d hi => ?_⟩, by simp, by simp, (HG2.out.trans hgE).any⟩
    have hi0 : i = 0 := by have := (List.getElem?_eq_some_iff.1 hi).1; simp at this; omega
    subst hi0
    simp at hi; subst hi
    refine ⟨_, 0, _, rfl, fun hm => ?_, fld h2.2 0, ⟨_, _, rfl, by simp, fun i l h => by simp at h⟩⟩
    have := HS.out _ hm
    omega
  have hp0' : ((p.length : Int) == 0) = false := by rw [beq_eq_false_iff_ne]; omega
  have hpos : 0 < p.length := by omega
  have hpn : (p.length == 0) = false := by simpa using hp0
  clear hp0
  go_enter Tryz.func85, Tryz.ntmps85
  go_wp2_with (at_builtin; go_loud (refine wpl_appK0 rfl _ _ 29 rfl w.heap.size (.slice none 0 0) 24 infoK rfl (by omega) Tryz.underlying29 w.heap.size 0 rfl Hown0.out (.slice po p.length pc) rfl (R :: S0) p Hp1.out rfl (by simp) (by omega) (by simp) ?_; intro g1 c1 w2 hown2 hg2))
  have HO2 := hid hown2
  have HG2 : Hid (Gr [] w w2) := hid (Hg0.out.step hg2 (fun i hi => .inr (by simp at hi; omega)))
  have Hr2 := hid (rdS Hr0.out hg2 (fun i hi => by simp at hi; omega))
  have hs2 := HG2.out.size
  obtain ⟨-, hc1, hgB, -⟩ := hown2.cell
  clear hown2 hg2
  have hcall := pick_c R cs q p.length _ Hr2.out (by omega) (by omega)
  (with_reducible refine hcall.mono ?_)
  clear hcall
  rintro e w3 ⟨⟨r3, rfl, hr30, hr3n⟩, hrd3, hg3⟩
  obtain ⟨k, rfl⟩ := Int.eq_ofNat_of_zero_le hr30
  have hk : k < p.length := by omega
  have Hrd3 := hid hrd3; have HG3 := hid hg3
  clear hrd3 hg3 hr30 hr3n hp0'
  go_wp2_with fail
  have hcall := pick_c R cs (q + 1) 4 _ Hrd3.out (by omega) (by omega)
  (with_reducible refine hcall.mono ?_)
  clear hcall
  rintro e w4 ⟨⟨r4, rfl, hr40, hr4n⟩, hrd4, hg4⟩
  have HG24 : Hid (Gr [R] w2 w4) := hid (HG3.out.trans hg4)
  have HO4 := hid (HO2.out.gr HG24.out (fun b hb => by simp at hb; subst hb; exact ⟨by simp, hRw⟩))
  have HGw4 : Hid (Gr [R] w w4) := hid (HG2.out.any.trans HG24.out)
  have Hrd4 := hid hrd4
  have hs4 := HG24.out.size
  have hgS : g1 ∉ R :: S0 := fun hm => by have := HS.out _ hm; omega
  have HgS := hid hgS
  have hr44 : r4 < 4 := by omega
  clear hrd4 hg4 hr4n hgS
  obtain ⟨-, -, -, hfz, us, hul, huc, -, hu1⟩ := HO4.out.cell
  have Hul := hid hul; have Huc := hid huc; have Hu1 := hid hu1; have Hfz := hid hfz
  clear hul huc hu1 hfz
  by_cases h0 : r4 = 0
  · subst h0
    obtain ⟨i0, hi, hz0, hz1, hz2⟩ := info_parts infoK
    have Hi := hid hi; have Hz1 := hid hz1
    clear hi hz0 hz1 hz2
    obtain ⟨k1, hk1e⟩ : ∃ k1, k1 = k + 1 := ⟨_, rfl⟩
    have hk1 : k1 ≤ p.length := by omega
    have hkc : k ≤ c1 := by omega
    have hkc2 : k1 ≤ c1 := by omega
    have hwk : (k : Int) + 1 = (k1 : Int) := by omega
    have hwk2 : IntKind.i64.wrap (k1 : Int) = (k1 : Int) := by rw [IntKind.wrap_i64]; omega
    obtain ⟨ad, had, hnews⟩ : ∃ ad, (if c1 = k1 then some (⟨g1, 0, none⟩ : Addr) else some ⟨g1, k1, none⟩) = some ad ∧ ∀ j u, (us.drop k1)[j]? = some u → w4.cell? (ad.add j) = some u := by
      by_cases hck : c1 = k1
      · refine ⟨_, if_pos hck, fun j u hj => ?_⟩
        exfalso
        have h2 := (List.getElem?_eq_some_iff.1 hj).1
        rw [List.length_drop, Hul.out] at h2
        omega
      · refine ⟨_, if_neg hck, fun j u hj => ?_⟩
        rw [List.getElem?_drop] at hj
        rw [addr_add]
        exact Huc.out _ u hj
    have Hk1e := hid hk1e
    clear hk1e
    have Hnews := hid hnews
    clear hnews
    go_wp2_with fail
    go_region_law (first | (refine step_append_room rfl _ _ 29 rfl 110 i0 1 Tryz.underlying29 Hi.out Hz1.out g1 0 k c1 rfl ad (p.length - k1) _ (us.drop k1) rfl (by rw [List.length_drop, Hul.out]; omega) (fun j u hj => by simpa using Hnews.out j u hj) (fun u hu => Hu1.out u (List.mem_of_mem_drop hu)) (by have := Hk1e.out; omega) (fun j hj => ⟨by rw [List.length_drop, Hul.out] at hj; obtain ⟨x, hx⟩ := get_some (xs := us) (k := k + j) (by rw [Hul.out]; have := Hk1e.out; omega); have h9 := Huc.out _ x hx; simp [h9], by simpa using Hfz.out _⟩) ?_))
    all_goals
      go_wp2_with fail
      go_ret
      obtain ⟨hE1, hE2⟩ := (HO4.out.gr ((Gr.refl [] w4).drew) (by simp)).cut HgS.out hk Hul.out (fun i u h => by simpa using Huc.out i u h)
      rw [← Hk1e.out] at hE1 hE2
      (try simp only [Nat.zero_add, Nat.mul_one])
      refine ⟨_, _, rfl, hE1, by rw [List.length_append, List.length_take, List.length_drop]; omega, fun c hc => ?_, (HGw4.out.trans ((Gr.refl [R] w4).drew)).step hE2 (fun i hi => .inr (by simp at hi; omega))⟩
      rcases List.mem_append.1 hc with h | h
      · exact Hc.out c (List.mem_of_mem_take h)
      · exact Hc.out c (List.mem_of_mem_drop h)
  by_cases h1 : r4 = 1
  · subst h1
    go_wp2_with fail
    have hcall := randomClause_c R cs (q + 1 + 1) n _ Hrd4.out (by omega) (by omega)
    (with_reducible refine hcall.mono ?_)
    clear hcall
    rintro e w5 ⟨y, ym, yg, yc, rfl, hy, hy8, hya, hrd5, hg5⟩
    have hml := hy.len'
    subst hml
    have HO5 := hid (HO4.out.gr hg5 (fun b hb => by simp at hb; subst hb; exact ⟨by simp, hRw⟩))
    have Hy5 : Hid (LitsV (g1 :: R :: S0) w5 (.slice (some ⟨yg, 0, none⟩) y.length yc) y) := hid (hy.lits (fun b hb => by
      rcases List.mem_cons.1 hb with h | h
      · have := HO4.out.cell.2.2.1.2; omega
      · have := HS.out b h; omega))
    obtain ⟨-, -, -, hfz5, us5, hul5, huc5, -, -⟩ := HO5.out.cell
    obtain ⟨u5, hu5⟩ := get_some (xs := us5) (k := k) (by omega)
    have hck5 := huc5 k u5 hu5
    have hfk5 := hfz5 k
    have Hg5 := hid hg5
    clear hy hrd5 hg5 hfz5 huc5 hu5
    go_wp2_with fail
    go_ret
    refine ⟨_, _, rfl, HO5.out.put HgS.out hk Hy5.out, by rw [List.length_set]; omega, fun c hc => ?_, (HGw4.out.trans Hg5.out).setCell _ _ (.inr (by simp; omega))⟩
    rcases List.mem_or_eq_of_mem_set hc with h | h
    · exact Hc.out c h
    · subst h; omega
  by_cases h2 : r4 = 2
  · subst h2
    have hwr : IntKind.i64.wrap ((p.length : Int) - 1) = ((p.length - 1 : Nat) : Int) := by rw [IntKind.wrap_i64]; omega
    go_wp2_with fail
    go_ret
    refine ⟨_, p.take (p.length - 1), rfl, ?_, by rw [List.length_take]; omega, fun c hc => Hc.out c (List.mem_of_mem_take hc), HGw4.out⟩
    exact HO4.out.weak.take HgS.out _ (by omega)
  · have h0' : (r4 == 0) = false := by simpa using h0
    have h1' : (r4 == 1) = false := by simpa using h1
    have h2' : (r4 == 2) = false := by simpa using h2
    clear h0 h1 h2
    go_wp2_with fail
    go_ret
    exact ⟨_, p, rfl, HO4.out.weak.cls HgS.out, by omega, Hc.out, HGw4.out⟩

theorem provO_short {m : Mod} {D : List Nat} (hD : validM m = true → VM m D) : ((provO m D).getD []).length ≤ 200 ∧ ∀ c ∈ (provO m D).getD [], c.length ≤ 100 := by
  cases hv : validM m
  · rw [provO_no hv]; simp
  · rw [provO_yes hv]
    cases hi : infO m.cons D with
    | none => simp
    | some a =>
      obtain ⟨h1, h2⟩ := infO_prf hi
      have hVM := hD hv
      refine ⟨h2, fun c hc => ?_⟩
      have := prf_valid _ D [] (Nat.lt_succ_self _) hVM.cons hVM.below (PathOk.nil D) hVM.len a h1 c hc
      unfold validCl at this
      rw [Bool.and_eq_true] at this
      have := (validClS_iff.1 this.2).2.2
      omega

end Go.Proofs.YtlekngkcifgonaaGreat
