/-
  Walk of the reference's decoding of a model.
-/
import Derived.Test.YtmonhpoogfdpoaaGreatDoorPU6
set_option linter.unusedVariables false
set_option linter.unusedSimpArgs false
namespace Go.Proofs.YtmonhpoogfdpoaaGreatDoor
open Go.RowKit

def zeroMod : Mod := ⟨[], []⟩
theorem zeroModM (M : Nat → Prop) (w : World) : ModM M w (.agg #[.slice none 0 0, .slice none 0 0]) zeroMod := by
  refine ⟨_, _, rfl, ?_, ?_⟩
  · exact ⟨none, 0, rfl, by simp [zeroMod], fun i x hi => by simp [zeroMod] at hi⟩
  · exact ⟨none, 0, rfl, by simp [zeroMod], fun i x hi => by simp [zeroMod] at hi⟩
theorem parC_sizes (s : Bs) : (parC s).vars.length ≤ 21 ∧ (parC s).args.length ≤ 21 ∧ (parC s).rows.length ≤ 13 ∧ ∀ r ∈ (parC s).rows, r.length ≤ 21 := by
  have hp : ∀ x, (parL x).length ≤ 21 := by
    intro x
    unfold parL
    split
    · simp
    · rw [List.length_map]; exact spN_len 44 x 20
  unfold parC
  split
  · simp
  · refine ⟨hp _, hp _, ?_, fun r hr => ?_⟩
    · rw [List.length_map, List.length_drop]; have := spN_len 32 s 12; omega
    · obtain ⟨x, _, rfl⟩ := List.mem_map.1 hr
      exact hp x
structure DSm (m : Mod) (n : Nat) : Prop where
  doms : m.doms.length ≤ n
  cons : m.cons.length ≤ n
  con : ∀ c ∈ m.cons, c.vars.length ≤ 21 ∧ c.args.length ≤ 21 ∧ c.rows.length ≤ 13 ∧ ∀ r ∈ c.rows, r.length ≤ 21
theorem DSm.small {m : Mod} {n : Nat} (h : DSm m n) (hn : n ≤ 1000) : m.Small :=
  ⟨by have := h.doms; omega, by have := h.cons; omega, fun c hc => by
    obtain ⟨h1, h2, h3, h4⟩ := h.con c hc
    exact ⟨by omega, by omega, by omega, fun r hr => by have := h4 r hr; omega⟩⟩
theorem Own.keepO {B : Nat} {T : List Nat} {w w' : World} {e : TypeId} {v : Value} {xs : List Int} (h : Own B w e v xs) (hg : Gr T w w') (hT : ∀ g, v.ownBlock = some g → g ∉ T) : Own B w' e v xs := by
  refine ⟨h.1, ?_⟩
  rcases h.2 with h1 | ⟨g', cap', cur, e1, hb, hgg, rest⟩
  · exact .inl h1
  · subst e1
    exact .inr ⟨g', cap', cur, rfl, hb, hg.obj hgg (hT g' rfl), rest⟩
theorem Own.ownB {B : Nat} {w : World} {e : TypeId} {v : Value} {xs : List Int} (h : Own B w e v xs) {g : Nat} (hg : v.ownBlock = some g) : B ≤ g ∧ g < w.heap.size := by
  rcases h.2 with ⟨h1, _⟩ | ⟨g', cap', cur, e1, hb, hgg, rest⟩
  · subst h1; simp [Value.ownBlock] at hg
  · subst e1; simp [Value.ownBlock] at hg; subst hg; exact ⟨hb, lt_of_block hgg⟩
/-- The decoder's memory while it reads the lines. -/
structure DS (wz wr : World) (bm : Nat) (m : Mod) (dv cv : Value) : Prop where
  b : wr.heap[bm]? = some (.cells #[dv, cv] 27 (0, 0))
  own : Own wz.heap.size wr 3 dv m.doms
  nil : m.cons = [] → cv = .slice none 0 0
  con : ∃ B, wz.heap.size ≤ B ∧ B ≤ wr.heap.size ∧ OwnG 5 elConM B wr 49 cv m.cons ∧ (∀ b, dv.ownBlock = some b → b < B)
  gr : Gr [bm] wz wr

set_option maxRecDepth 100000 in
set_option maxHeartbeats 4000000 in
theorem specDecodeModel_c (s : Bs) (w : World) (hs : s.length ≤ 1000000000) :
    Calls Tryz.prog 8 #[.string ⟨s.toArray⟩] w fun e w' => ∃ mv, e = .returned (.tuple #[mv, .bool (decS s).isSome]) ∧ ModM (New w.heap.size w') w' mv ((decS s).getD zeroMod) ∧ Gr [] w w' := by
  obtain ⟨ps, hps⟩ : ∃ ps, ps = spN 10 11 s := ⟨_, rfl⟩
  have hpn := spN_len 10 s 11
  have hpl : ∀ x ∈ ps, x.length ≤ 1000000000 := by rw [hps]; exact fun x hx => Nat.le_trans (spN_piece 10 s 11 x hx) hs
  have hp0 : 0 < ps.length := by rw [hps]; exact List.length_pos_iff.2 (spN_ne 10 11 s)
  rw [← hps] at hpn
  have Hps := hid hps; have Hpl := hid hpl
  clear hps hpl
  have h20 := heap2 w (.cells #[.slice none 0 0, .slice none 0 0] 27) (.cells #[.slice none 0 0, .slice none 0 0] 27)
  have hg0 : Gr [] w ((w.alloc (.cells #[.slice none 0 0, .slice none 0 0] 27)).alloc (.cells #[.slice none 0 0, .slice none 0 0] 27)) := ((Gr.refl [] w).alloc _).alloc _
  have hs0 : ((w.alloc (.cells #[.slice none 0 0, .slice none 0 0] 27)).alloc (.cells #[.slice none 0 0, .slice none 0 0] 27)).heap.size = w.heap.size + 2 := by simp
  have Hr0 := hid h20.1; have Hb0 := hid h20.2; have Hg0 := hid hg0; have Hs0 := hid hs0
  clear h20 hg0 hs0
  go_enter Tryz.func8, Tryz.ntmps8
  go_wp2_with fail
  generalize hW0 : (w.alloc (.cells #[.slice none 0 0, .slice none 0 0] 27)).alloc (.cells #[.slice none 0 0, .slice none 0 0] 27) = w0 at *
  clear hW0
  obtain ⟨bm, hbm⟩ : ∃ bm, bm = w.heap.size + 1 := ⟨_, rfl⟩
  rw [← hbm] at Hb0
  refine (splitN_c 10 11 s w0 hs (by decide)).mono ?_
  rw [← Hps.out]
  rintro e wz ⟨v1, rfl, hown1, hgz⟩
  obtain ⟨po, pc, rfl, ⟨hpc1, hpc2, _⟩, hpz⟩ := hown1.strs (S := [bm]) (by intro b hb; simp at hb; subst hb; left; have := Hs0.out; omega)
  have hsz := hgz.size
  have HB0 := hid (hgz.obj Hb0.out (by simp)); have HR0 := hid (hgz.obj Hr0.out (by simp)); have Hgz := hid hgz; have Hpz := hid hpz
  have hbw : bm < wz.heap.size := lt_of_block HB0.out
  clear hown1 hgz hpz
  rw [← hbm]
  have Hbm := hid hbm
  clear hbm
  obtain ⟨ls, hls⟩ : ∃ ls, ls = ps.dropLast := ⟨_, rfl⟩
  have hll : ls.length + 1 = ps.length := by rw [hls, List.length_dropLast]; omega
  have hlg : ∀ n, n < ls.length → ps[n]? = ls[n]? := fun n hn => by rw [hls, List.getElem?_dropLast, if_pos (by omega)]
  have Hlg := hid hlg; have Hls := hid hls
  clear hls hlg
  go_wp2_with fail
  go_loopw [6] (fun i wr => ∃ (n : Nat) (m : Mod) (dv cv : Value), n ≤ ls.length ∧ i = .int .i64 n ∧ (ls.take n).foldlM stepS zeroMod = some m ∧ DSm m n ∧ DS wz wr bm m dv cv) (fun i _ => ps.length - (intOf i).toNat)
  case atStart =>
    refine ⟨0, zeroMod, _, _, Nat.zero_le _, rfl, rfl, ⟨by simp [zeroMod], by simp [zeroMod], by simp [zeroMod]⟩, ⟨HB0.out, Own.nil _ _ _, fun _ => rfl, ⟨_, Nat.le_refl _, Nat.le_refl _, OwnG.nil _ _ _, by intro b hb; simp [Value.ownBlock] at hb⟩, Gr.refl _ _⟩⟩
  case round =>
    obtain ⟨n, m, dv, cv, hn, rfl, hfold, hsm, hds⟩ := hrel
    have hsr := hds.gr.size
    have Hfold := hid hfold; have Hsm := hid hsm; have Hds := hid hds
    clear hfold hsm
    obtain ⟨xo, xc, rfl, -, -⟩ := hds.own.nums' (S := []) (by simp)
    obtain ⟨B, hB1, hB2, hoc, hdB⟩ := hds.con
    obtain ⟨co, cc, rfl, -, -, -⟩ := hoc.slice
    have hbr := hds.b
    have fbm := fld hbr; have ffbm := fldF hbr
    clear hds
    by_cases hlt : n < ls.length
    · have hn1 : decide ((n : Int) + 1 < (ps.length : Int)) = true := decide_eq_true (by omega)
      have hn2 : decide (n + 1 < ps.length) = true := decide_eq_true (by omega)
      have hnp : n < ps.length := by omega
      obtain ⟨l, hl⟩ : ∃ l, ls[n]? = some l := ⟨_, List.getElem?_eq_getElem hlt⟩
      have hlp : ps[n]? = some l := (Hlg.out n hlt).trans hl
      obtain ⟨pb, pq, e, hpb, hcl⟩ := Hpz.out n l hlp
      cases e
      have hcr := Hds.out.gr.cell hcl hpb
      have hll2 := Hpl.out l (List.mem_of_getElem? hlp)
      have hts : (ls.take (n + 1)).foldlM stepS zeroMod = stepS m l := by
        rw [List.take_add_one, hl, List.foldlM_append, Hfold.out]
        simp
      have Hts := hid hts
      clear hts
      obtain ⟨qs, hqs⟩ : ∃ qs, qs = spN 32 1 l := ⟨_, rfl⟩
      have hqn := spN_len 32 l 1
      have hqp : 0 < qs.length := by rw [hqs]; exact List.length_pos_iff.2 (spN_ne 32 1 l)
      rw [← hqs] at hqn
      obtain ⟨q0, hq0⟩ : ∃ q, qs[0]? = some q := ⟨_, List.getElem?_eq_getElem hqp⟩
      have hwd0 : wd qs 0 = q0 := by unfold wd; rw [List.getD_eq_getElem?_getD, hq0]; rfl
      have Hqs := hid hqs; have Hwd0 := hid hwd0; have Hq0 := hid hq0; have Hlp := hid hlp
      have hrr := Hds.out.gr.obj HR0.out (by simp; have := Hbm.out; omega)
      have HRR := hid hrr
      have hbmz : ∀ g, (Value.slice xo m.doms.length xc).ownBlock = some g → wz.heap.size ≤ g ∧ g < wr.heap.size := fun g hg => Hds.out.own.ownB hg
      have hbmc : ∀ g, (Value.slice co m.cons.length cc).ownBlock = some g → B ≤ g ∧ g < wr.heap.size := fun g hg => hoc.own hg
      have Hbz := hid hbmz; have Hbc := hid hbmc
      clear hqs hwd0 hq0 hrr hlp hl hbmz hbmc
      by_cases hvar : q0 = varT.dropLast ∧ qs.length = 2 ∧ m.cons.length = 0
      · obtain ⟨q1, hq1⟩ : ∃ q, qs[1]? = some q := ⟨_, List.getElem?_eq_getElem (by omega)⟩
        have hwd1 : wd qs 1 = q1 := by unfold wd; rw [List.getD_eq_getElem?_getD, hq1]; rfl
        have hstep : stepS m l = match decDom q1 with | none => none | some d => some ⟨m.doms ++ [(d : Int)], m.cons⟩ := by
          unfold stepS
          rw [← Hqs.out, if_pos ⟨by rw [Hwd0.out]; exact hvar.1, hvar.2.1, hvar.2.2⟩, hwd1]
          rfl
        have Hstep := hid hstep; have Hq1 := hid hq1
        have b1 : (q0 == [118, 97, 114]) = true := by rw [hvar.1]; rfl
        have b2 : ((qs.length : Int) == 2) = true := by rw [hvar.2.1]; rfl
        have b2' : (qs.length == 2) = true := by rw [hvar.2.1]; rfl
        have b3 : ((m.cons.length : Int) == 0) = true := by rw [hvar.2.2]; rfl
        have b3' : (m.cons.length == 0) = true := by rw [hvar.2.2]; rfl
        have hq2l : 1 < qs.length := by omega
        have Hvar := hid hvar
        clear hstep hwd1 hq1 hvar
        cases hdd : decDom q1 with
        | none =>
          have Hdd := hid hdd
          go_wp2_with (first
            | ((go_at_call 26; refine (splitN_c 32 1 l _ hll2 (by decide)).mono ?_; rw [← Hqs.out]; rintro e wq ⟨vq, rfl, hownq, hgq⟩; obtain ⟨qo, qc, rfl, ⟨hqc1, hqc2, _⟩, hqz⟩ := hownq.strs (S := []) (by simp); obtain ⟨qb, qo2, e, _, hcq⟩ := hqz 0 q0 Hq0.out; cases e; rw [Nat.add_zero] at hcq; have hcq1 := hqz 1 q1 Hq1.out; obtain ⟨_, _, e, _, hcq1⟩ := hcq1; cases e; have Hqz := hid hqz; have Hgq := hid hgq; have hsq := hgq.size; have hbq := hgq.obj hbr (by simp); have fbq := fld hbq; have ffbq := fldF hbq; have hclq := hgq.cell hcr (by simp); have HBq := hid hbq; clear hownq hqz hgq hbq))
            | (go_at_call 27; (with_reducible refine (specDecodeDomain_c q1 _).mono ?_); rw [Hdd.out]; rintro e wd ⟨rfl, hgd⟩; have hrd := hgd.obj (Hgq.out.obj HRR.out (by simp)) (by simp); have frd := fld hrd; have ffrd := fldF hrd; have Hrd := hid hrd; have Hgd := hid hgd; clear hrd hgd))
          have h5 := set2 _ _ (.slice none 0 0) (.slice none 0 0) Hrd.out
          generalize ((wd.setCell ⟨w.heap.size, 0, none⟩ (.slice none 0 0)).setCell ⟨w.heap.size, 1, none⟩ (.slice none 0 0)) = WE at h5 ⊢
          obtain ⟨h5, hG⟩ := h5
          have flE := fld h5
          have hdec : decS s = none := by
            have e : ls.foldlM stepS zeroMod = none := by
              conv => lhs; rw [← List.take_append_drop (n + 1) ls]
              rw [List.foldlM_append, Hts.out, Hstep.out, Hdd.out]; rfl
            unfold decS
            rw [← Hps.out, ← Hls.out, show (⟨[], []⟩ : Mod) = zeroMod from rfl, e]
          refine bodyPost_ret (v := .tuple #[.agg #[.slice none 0 0, .slice none 0 0], .bool false]) ?_ rfl ?_
          · simp [results, Tryz.results8, go_sem, flE]
          · refine ⟨_, by rw [hdec]; rfl, by rw [hdec]; exact zeroModM _ _, ?_⟩
            have h1 : Gr [] w wr := (Hg0.out.trans Hgz.out).step Hds.out.gr (fun i hi => .inr (by simp at hi; have := Hbm.out; omega))
            exact ((h1.trans Hgq.out).trans Hgd.out).step hG (fun i hi => .inr (by simp at hi; omega))
        | some d =>
          have Hdd := hid hdd
          have hd64 := (decDom_some hdd).1
          go_wp2_with (first
            | (go_at_call 26; refine (splitN_c 32 1 l _ hll2 (by decide)).mono ?_; rw [← Hqs.out]; rintro e wq ⟨vq, rfl, hownq, hgq⟩; obtain ⟨qo, qc, rfl, ⟨hqc1, hqc2, _⟩, hqz⟩ := hownq.strs (S := []) (by simp); obtain ⟨qb, qo2, e, _, hcq⟩ := hqz 0 q0 Hq0.out; cases e; rw [Nat.add_zero] at hcq; have hcq1 := hqz 1 q1 Hq1.out; obtain ⟨_, _, e, _, hcq1⟩ := hcq1; cases e; have Hqz := hid hqz; have Hgq := hid hgq; have hsq := hgq.size; have hbq := hgq.obj hbr (by simp); have fbq := fld hbq; have ffbq := fldF hbq; have hclq := hgq.cell hcr (by simp); have HBq := hid hbq; clear hownq hqz hgq hbq)
            | (go_at_call 27; (with_reducible refine (specDecodeDomain_c q1 _).mono ?_); rw [Hdd.out]; rintro e wd ⟨rfl, hgd⟩; have hbd := hgd.obj HBq.out (by simp); have fbd := fld hbd; have ffbd := fldF hbd; have Hbd := hid hbd; have hgx : Gr [] wr wd := Hgq.out.trans hgd; have HOd := hid (Hds.out.own.gr hgx (by simp)); have HGx := hid hgx; have hsd := hgx.size; clear hbd hgd hgx)
            | (at_builtin; refine wp_appIL rfl _ _ 24 rfl wz.heap.size 3 infoT Tryz.underlying24 (.slice xo m.doms.length xc) m.doms rfl (HOd.out.alloc _) _ 1 (d : Int) rfl (cell_new _ _ _) (by have := Hsm.out.doms; omega) (by rw [World.size_alloc]; omega) ?_; intro g4 c4 w4 hown4 hg4 hwh4 hlt4; have hb4 := hg4.obj (((Gr.refl [] wd).alloc _).obj Hbd.out (by simp)) (fun hm => by have := (Hbz.out bm (by simpa using hm)).1; omega); have fb4 := fld hb4; have ffb4 := fldF hb4; have Hb4 := hid hb4; have HOwn4 := hid hown4; have HG4 := hid hg4; have Hwh4 := hid hwh4; clear hb4 hown4 hg4 hwh4))
          have hc0 : m.cons = [] := List.eq_nil_of_length_eq_zero Hvar.out.2.2
          have hcn := Hds.out.nil hc0
          have hg4bm : g4 ≠ bm := by
            rcases Hwh4.out with h | h
            · have := (Hbz.out g4 h).1; omega
            · rw [World.size_alloc] at h; omega
          have hG5 : Gr [bm] w4 (w4.setCell ⟨bm, 0, none⟩ (.slice (some ⟨g4, 0, none⟩) (m.doms.length + 1) c4)) := Gr.cell1 [bm] w4 ⟨bm, 0, none⟩ _ (by simp)
          refine ⟨⟨n + 1, ⟨m.doms ++ [(d : Int)], m.cons⟩, .slice (some ⟨g4, 0, none⟩) (m.doms.length + 1) c4, .slice co m.cons.length cc, by omega, by go_num, by rw [Hts.out, Hstep.out, Hdd.out], ⟨by have := Hsm.out.doms; simp; omega, by have := Hsm.out.cons; simp; omega, Hsm.out.con⟩, ⟨?_, ?_, fun _ => hcn, ⟨_, ?_, Nat.le_refl _, ?_, ?_⟩, ?_⟩⟩, by simp [intOf]; omega⟩
          · have := block_cells (cur' := #[]) Hb4.out 0 (.slice (some ⟨g4, 0, none⟩) (m.doms.length + 1) c4)
            simpa using this
          · exact HOwn4.out.keepO hG5 (fun g hg => by simp [Value.ownBlock] at hg; subst hg; simpa using hg4bm)
          · have h1 := HG4.out.size; have h2 := hG5.size; rw [World.size_alloc] at h1; omega
          · rw [hcn, hc0]; exact OwnG.nil _ _ _
          · intro b hb; simp [Value.ownBlock] at hb; subst hb; simpa using hlt4
          · refine (((Hds.out.gr.trans HGx.out.any).alloc _).step HG4.out fun i hi => ?_).trans hG5
            exact .inr ((Hbz.out i (by simpa using hi)).1)
      · have hstep : stepS m l = some ⟨m.doms, m.cons ++ [parC l]⟩ := by
          unfold stepS
          rw [← Hqs.out, if_neg (by rw [Hwd0.out]; exact hvar)]
        have Hstep := hid hstep
        have hcase : (q0 == [118, 97, 114]) = false ∨ ((q0 == [118, 97, 114]) = true ∧ ((qs.length : Int) == 2) = false ∧ (qs.length == 2) = false) ∨
            ((q0 == [118, 97, 114]) = true ∧ ((qs.length : Int) == 2) = true ∧ (qs.length == 2) = true ∧ ((m.cons.length : Int) == 0) = false ∧ (m.cons.length == 0) = false) := by
          by_cases h1 : q0 = varT.dropLast
          · by_cases h2 : qs.length = 2
            · by_cases h3 : m.cons.length = 0
              · exact absurd ⟨h1, h2, h3⟩ hvar
              · exact .inr (.inr ⟨by rw [h1]; rfl, by rw [h2]; rfl, by rw [h2]; rfl, beq_eq_false_iff_ne.2 (by omega), beq_eq_false_iff_ne.2 h3⟩)
            · exact .inr (.inl ⟨by rw [h1]; rfl, beq_eq_false_iff_ne.2 (by omega), beq_eq_false_iff_ne.2 h2⟩)
          · refine .inl ?_
            have : varT.dropLast = [118, 97, 114] := rfl
            rw [← this]
            exact bneL h1
        clear hstep hvar
        have HOc := hid hoc
        have hps := parC_sizes l
        have Hps2 := hid hps
        have hmcl : m.cons.length ≤ 11 := by have := Hsm.out.cons; omega
        clear hoc hps
        rcases hcase with b1 | ⟨b1, b2, b2'⟩ | ⟨b1, b2, b2', b3, b3'⟩
        all_goals
          go_wp2_with (go_at_call 26; refine (splitN_c 32 1 l _ hll2 (by decide)).mono ?_; rw [← Hqs.out]; rintro e wq ⟨vq, rfl, hownq, hgq⟩; obtain ⟨qo, qc, rfl, ⟨hqc1, hqc2, _⟩, hqz⟩ := hownq.strs (S := []) (by simp); obtain ⟨qb, qo2, e, _, hcq⟩ := hqz 0 q0 Hq0.out; cases e; rw [Nat.add_zero] at hcq; have Hqz := hid hqz; have Hgq := hid hgq; have hsq := hgq.size; have hbq := hgq.obj hbr (by simp); have fbq := fld hbq; have ffbq := fldF hbq; have hclq := hgq.cell hcr (by simp); have HBq := hid hbq; clear hownq hqz hgq hbq)
          have HBK : Hid (∀ W, Gr [] wq W → W.heap[bm]? = some (.cells #[.slice xo m.doms.length xc, .slice co m.cons.length cc] 27 (0, 0))) := hid fun W h => h.obj HBq.out (by simp)
          go_region_law (first
            | (go_simp; go_at_call 28; refine (parseConstraint_c l _ hll2).mono ?_; rintro e w5 ⟨uo, uc, po', pc', ro', rc', rfl, hm5, hg5⟩; have hgx : Gr [] wq w5 := ((Gr.refl [] wq).drew).trans hg5; have hq5 : Gr (bm :: (Value.slice co m.cons.length cc).ownBlock.toList) wq w5 := Gr.any hgx; have HGX := hid hgx; have Hm5 := hid hm5; have HO5 := hid (HOc.out.gr elConM_ok (Hgq.out.trans hgx) (by simp)); have fb5 := fld (HBK.out _ hgx); have hs5 := hgx.size; have fa5 := fld (HBK.out _ (hgx.alloc (.cells #[.int .i64 (parC l).kind, .slice uo (parC l).vars.length uc, .slice po' (parC l).args.length pc', .int .i64 (parC l).bound, .slice ro' (parC l).rows.length rc'] 49))); have Hown' := Hbc; have Hov := hid (fun b hb => (Hbc.out b hb).1); clear hm5 hg5 hgx)
            | (refine step_appH rfl _ _ 25 rfl 5 elConM elConM_ok B 49 (.agg #[.int .i64 0, .slice none 0 0, .slice none 0 0, .int .i64 0, .slice none 0 0]) 88 infoC rfl (by omega) (by omega) Tryz.underlying25 (.slice co m.cons.length cc) m.cons rfl (HO5.out.gr elConM_ok ((Gr.refl [] w5).alloc _) (by simp)) w5.heap.size 1 (parC l) [.int .i64 (parC l).kind, .slice uo (parC l).vars.length uc, .slice po' (parC l).args.length pc', .int .i64 (parC l).bound, .slice ro' (parC l).rows.length rc'] rfl rfl (by simp [Value.oneCell']) (fun j q hj => by rw [fld (heap_alloc_new w5 _) j]; simpa using hj) (fun S hS => ⟨_, _, _, _, _, _, rfl, Hm5.out.gr' ((Gr.refl [] w5).alloc _) (by simp) (fun b hlt hb hm => by rcases hS b hm with h | h | h; (have := hb.1; simp at this; omega); (simp at h; omega); (have := (Hown'.out b h).2; have := hb.1; simp at this; omega))⟩) (by omega) (by simp; omega) ?_; intro g7 c7 w7 hown7 hg7; have HO7 := hid hown7; have HG7 := hid hg7; have hq7 : Gr (bm :: (Value.slice co m.cons.length cc).ownBlock.toList) wq w7 := Gr.trans (hq5.alloc _) (hg7.sub (fun k _ hk => by simp at hk ⊢; exact .inr hk)); have hr7 := hg7.obj (HBK.out _ (HGX.out.alloc _)) (fun hm => by have := Hov.out bm (by simpa using hm); omega); have Hr7 := hid hr7; have fb7 := fld hr7; have ff7 := fldF hr7; clear hown7 hg7 hr7))
          all_goals
            go_wp2_with fail
            have hG8 : Gr [bm] w7 (w7.setCell ⟨bm, 1, none⟩ (.slice (some ⟨g7, 0, none⟩) (m.cons.length + 1) c7)) := Gr.cell1 [bm] w7 ⟨bm, 1, none⟩ _ (by simp)
            have hs7 := hq7.size; have hs8 := hG8.size
            refine ⟨⟨n + 1, ⟨m.doms, m.cons ++ [parC l]⟩, .slice xo m.doms.length xc, .slice (some ⟨g7, 0, none⟩) (m.cons.length + 1) c7, by omega, by go_num, by rw [Hts.out, Hstep.out], ⟨by have := Hsm.out.doms; simp; omega, by have := Hsm.out.cons; simp; omega, ?_⟩, ⟨?_, ?_, fun h => by simp at h, ⟨B, hB1, by omega, ?_, hdB⟩, ?_⟩⟩, by simp [intOf]; omega⟩
            · intro c hc
              rcases List.mem_append.1 hc with hc | hc
              · exact Hsm.out.con c hc
              · simp at hc; subst hc; exact Hps2.out
            · have := block_cells (cur' := #[]) Hr7.out 1 (.slice (some ⟨g7, 0, none⟩) (m.cons.length + 1) c7)
              simpa using this
            · refine Hds.out.own.keepO ((Hgq.out.any.trans hq7).trans (hG8.sub (fun k _ hk => by simp at hk ⊢; exact .inl hk))) (fun g hg hm => ?_)
              have h1 := hdB g hg; have h2 := (Hbz.out g hg).1
              rcases List.mem_cons.1 hm with h | h
              · omega
              · have := (Hbc.out g (by simpa using h)).1; omega
            · exact HO7.out.gr elConM_ok hG8 (by simp; omega)
            · refine (((Hds.out.gr.trans ((Hgq.out.trans HGX.out).any)).alloc _).step HG7.out fun i hi => ?_).trans hG8
              exact .inr (by have := (Hbc.out i (by simpa using hi)).1; omega)
    · have hn1 : decide ((n : Int) + 1 < (ps.length : Int)) = false := decide_eq_false (by omega)
      have hn2 : decide (n + 1 < ps.length) = false := decide_eq_false (by omega)
      have hnl : n = ls.length := by omega
      have hdec : decS s = if validM m = true ∧ encM m = s then some m else none := by
        have e := Hfold.out
        rw [hnl, List.take_length] at e
        unfold decS
        rw [← Hps.out, ← Hls.out, show (⟨[], []⟩ : Mod) = zeroMod from rfl, e]
      have Hdec := hid hdec
      have hMM : ModM (New (w.heap.size + 2) wr) wr (.agg #[.slice xo m.doms.length xc, .slice co m.cons.length cc]) m := by
        refine ⟨_, _, rfl, (Own.numsM Hds.out.own).gr' (Gr.refl [] _) (by simp) (fun b _ h => ⟨by have := h.1; have := Hs0.out; omega, h.2⟩), hoc.consM.gr' (Gr.refl [] _) (by simp) (fun b _ h => ⟨by have := h.1; have := Hs0.out; omega, h.2⟩)⟩
      have HMM := hid hMM
      have HMV := hid (hMM.mod (S := []) (by simp))
      have Hsmall := hid (Hsm.out.small (by omega))
      have HRR := hid (Hds.out.gr.obj HR0.out (by simp; have := Hbm.out; omega))
      have HBR := hid hbr
      have HgW : Hid (Gr [] w wr) := hid ((Hg0.out.trans Hgz.out).step Hds.out.gr (fun i hi => .inr (by simp at hi; have := Hbm.out; omega)))
      clear hnl hdec hMM
      cases hvm : validM m
      · have Hvm := hid hvm
        go_wp2_with (go_at_call 29; (with_reducible refine (specValidModel_c m _ _ HMV.out Hsmall.out).mono ?_); rw [Hvm.out]; rintro e w1 ⟨rfl, hg1⟩; have hr1 := hg1.obj HRR.out (by simp); have fr1 := fld hr1; have ffr1 := fldF hr1; have Hr1 := hid hr1; have Hg1 := hid hg1; clear hr1 hg1)
        have h5 := set2 _ _ (.slice none 0 0) (.slice none 0 0) Hr1.out
        generalize ((w1.setCell ⟨w.heap.size, 0, none⟩ (.slice none 0 0)).setCell ⟨w.heap.size, 1, none⟩ (.slice none 0 0)) = WE at h5 ⊢
        obtain ⟨h5, hG⟩ := h5
        have flE := fld h5
        have hd : decS s = none := by rw [Hdec.out, if_neg (by rw [Hvm.out]; simp)]
        refine bodyPost_ret (v := .tuple #[.agg #[.slice none 0 0, .slice none 0 0], .bool false]) ?_ rfl ?_
        · simp [results, Tryz.results8, go_sem, flE]
        · exact ⟨_, by rw [hd]; rfl, by rw [hd]; exact zeroModM _ _, (HgW.out.trans Hg1.out).step hG (fun i hi => .inr (by simp at hi; omega))⟩
      · have Hvm := hid hvm
        obtain ⟨E, hE⟩ : ∃ E, E = encM m := ⟨_, rfl⟩
        have HE := hid hE
        clear hE
        by_cases hes : E = s
        · have b1 := beqL hes
          have b2 : (E != s) = false := by unfold bne; rw [b1]; rfl
          have Hes := hid hes
          clear hes
          go_wp2_with (first
            | (go_at_call 29; (with_reducible refine (specValidModel_c m _ _ HMV.out Hsmall.out).mono ?_); rw [Hvm.out]; rintro e w1 ⟨rfl, hg1⟩; have fb1 := fld (hg1.obj HBR.out (by simp)); have Hg1 := hid hg1; clear hg1)
            | (go_at_call 30; (with_reducible refine (formatModel_c m _ _ (HMV.out.gr Hg1.out) (mod_ok Hvm.out)).mono ?_); rw [← HE.out]; rintro e w2 ⟨rfl, hg2⟩; have hgx : Gr [] wr w2 := Hg1.out.trans hg2; have hr1 := hgx.obj HRR.out (by simp); have fr1 := fld hr1; have ffr1 := fldF hr1; have Hr1 := hid hr1; have fb2 := fld (hgx.obj HBR.out (by simp)); have Hg2 := hid hgx; clear hr1 hg2 hgx))
          have h5 := set2 _ _ (.slice xo m.doms.length xc) (.slice co m.cons.length cc) Hr1.out
          generalize ((w2.setCell ⟨w.heap.size, 0, none⟩ (.slice xo m.doms.length xc)).setCell ⟨w.heap.size, 1, none⟩ (.slice co m.cons.length cc)) = WE at h5 ⊢
          obtain ⟨h5, hG⟩ := h5
          have flE := fld h5
          have hd : decS s = some m := by rw [Hdec.out, if_pos ⟨Hvm.out, HE.out.symm.trans Hes.out⟩]
          have hsE := hG.size; have hs2 := Hg2.out.size
          refine bodyPost_ret (v := .tuple #[.agg #[.slice xo m.doms.length xc, .slice co m.cons.length cc], .bool true]) ?_ rfl ?_
          · simp [results, Tryz.results8, go_sem, flE]
          · refine ⟨_, by rw [hd]; rfl, ?_, (HgW.out.trans Hg2.out).step hG (fun i hi => .inr (by simp at hi; omega))⟩
            rw [hd]
            exact (HMM.out.gr' (M' := New (w.heap.size + 2) w2) Hg2.out (by simp) (fun b _ h => ⟨h.1, by have := h.2; omega⟩)).gr' (M' := New w.heap.size WE) hG (fun b hb hm => by have := hm.1; simp at hb; omega) (fun b _ hm => ⟨by have := hm.1; omega, by have := hm.2; omega⟩)
        · have b1 := bneL hes
          have b2 : (E != s) = true := by unfold bne; rw [b1]; rfl
          have Hes := hid hes
          clear hes
          go_wp2_with (first
            | (go_at_call 29; (with_reducible refine (specValidModel_c m _ _ HMV.out Hsmall.out).mono ?_); rw [Hvm.out]; rintro e w1 ⟨rfl, hg1⟩; have fb1 := fld (hg1.obj HBR.out (by simp)); have Hg1 := hid hg1; clear hg1)
            | (go_at_call 30; (with_reducible refine (formatModel_c m _ _ (HMV.out.gr Hg1.out) (mod_ok Hvm.out)).mono ?_); rw [← HE.out]; rintro e w2 ⟨rfl, hg2⟩; have hgx : Gr [] wr w2 := Hg1.out.trans hg2; have hr1 := hgx.obj HRR.out (by simp); have fr1 := fld hr1; have ffr1 := fldF hr1; have Hr1 := hid hr1; have fb2 := fld (hgx.obj HBR.out (by simp)); have Hg2 := hid hgx; clear hr1 hg2 hgx))
          have h5 := set2 _ _ (.slice none 0 0) (.slice none 0 0) Hr1.out
          generalize ((w2.setCell ⟨w.heap.size, 0, none⟩ (.slice none 0 0)).setCell ⟨w.heap.size, 1, none⟩ (.slice none 0 0)) = WE at h5 ⊢
          obtain ⟨h5, hG⟩ := h5
          have flE := fld h5
          have hd : decS s = none := by rw [Hdec.out, if_neg (by rintro ⟨-, h⟩; exact Hes.out (HE.out.trans h))]
          refine bodyPost_ret (v := .tuple #[.agg #[.slice none 0 0, .slice none 0 0], .bool false]) ?_ rfl ?_
          · simp [results, Tryz.results8, go_sem, flE]
          · exact ⟨_, by rw [hd]; rfl, by rw [hd]; exact zeroModM _ _, (HgW.out.trans Hg2.out).step hG (fun i hi => .inr (by simp at hi; omega))⟩
end Go.Proofs.YtmonhpoogfdpoaaGreatDoor
