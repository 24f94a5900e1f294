/-
  Walk of the program's reading of a model.
-/
import Derived.Test.YtmonhpoogfdpoaaGreatDoorPV6
import Derived.Test.YtmonhpoogfdpoaaGreatDoorPU7
import Derived.Test.YtmonhpoogfdpoaaGreatDoorPCql
set_option linter.unusedVariables false
set_option linter.unusedSimpArgs false
namespace Go.Proofs.YtmonhpoogfdpoaaGreatDoor
open Go.RowKit
attribute [local go_sem] ByteArray.mk_append_mk

theorem modOk_small' {m : Mod} (h : ModOk m) : m.Small :=
  ⟨by have := h.ld; omega, by have := h.lc; omega, fun c hc => by
    have hk := con_ok (h.con c hc)
    exact ⟨by have := hk.lv; omega, by have := hk.la; omega, by have := hk.lr; omega, fun r hr => by have := (hk.rows r hr).2; omega⟩⟩
theorem tw_stop {α : Type} (p : α → Bool) : ∀ (l : List α) (x : α), l[(l.takeWhile p).length]? = some x → p x = false
  | [], x, h => by simp at h
  | y :: l, x, h => by
    rw [List.takeWhile_cons] at h
    split at h
    · rw [List.length_cons, List.getElem?_cons_succ] at h
      exact tw_stop p l x h
    · rename_i hy
      simp at h
      subst h
      simpa using hy
theorem hasPrefix_len {s p : Bs} (h : Lib.hasPrefix s p = true) : p.length ≤ s.length := by
  unfold Lib.hasPrefix at h
  exact (List.isPrefixOf_iff_prefix.1 h).length_le
theorem mapM_take {α β : Type} (f : α → Option β) (l : List α) (n : Nat) {x : α} {r : List β} {y : β} (hx : l[n]? = some x) (h : (l.take n).mapM f = some r) (hy : f x = some y) : (l.take (n + 1)).mapM f = some (r ++ [y]) := by
  rw [List.take_add_one, hx]
  exact (mapM_snoc f _ x).trans (by rw [h, hy]; rfl)
theorem mapM_fail {α β : Type} (f : α → Option β) (l : List α) (n : Nat) {x : α} (hx : l[n]? = some x) (hy : f x = none) : l.mapM f = none := by
  have h : (l.take (n + 1)).mapM f = none := by
    rw [List.take_add_one, hx]
    refine (mapM_snoc f _ x).trans ?_
    cases (l.take n).mapM f <;> simp [hy]
  have := mapM_pre f (l.take (n + 1)) (l.drop (n + 1)) h
  rwa [List.take_append_drop] at this

set_option maxRecDepth 100000 in
set_option maxHeartbeats 4000000 in
theorem DecodeModel_c (s : Bs) (w : World) (hs : s.length ≤ 1100000) (hT : TabT w) :
    Calls Tryz.prog 7 #[.string ⟨s.toArray⟩] w fun e w' => ∃ xo xc co cc m, e = .returned (.tuple #[.agg #[.slice xo m.doms.length xc, .slice co m.cons.length cc], .bool (decI s).isSome]) ∧ m = (decI s).getD zeroMod ∧
      ModM (New w.heap.size w') w' (.agg #[.slice xo m.doms.length xc, .slice co m.cons.length cc]) m ∧
      (leavesN (.slice xo m.doms.length xc) ++ leavesCs w' (.slice co m.cons.length cc)).Nodup ∧ Gr [] w w' := by
  have HT := hid hT; clear hT
  obtain ⟨ps, hps⟩ : ∃ ps, ps = sp 10 s := ⟨_, rfl⟩
  have hp0 : 0 < ps.length := by rw [hps, sp_len]; omega
  have hpl : ∀ x ∈ ps, x.length ≤ 1100000 := by rw [hps]; exact fun x hx => Nat.le_trans (sp_piece 10 s x hx) hs
  have Hps := hid hps; have Hpl := hid hpl
  clear hps hpl
  have hr0 := heap_alloc_new w (.cells #[.slice none 0 0, .slice none 0 0] 27)
  have hg0 : Gr [] w (w.alloc (.cells #[.slice none 0 0, .slice none 0 0] 27)) := (Gr.refl [] w).alloc _
  have hs0 : (w.alloc (.cells #[.slice none 0 0, .slice none 0 0] 27)).heap.size = w.heap.size + 1 := by simp
  have Hr0 := hid hr0; have Hg0 := hid hg0; have Hs0 := hid hs0
  clear hr0 hg0 hs0
  by_cases h11 : 11 < ps.length
  · have hC : Hid (decI s = none) := hid (by unfold decI; rw [← Hps.out, if_pos h11])
    have h11i : (11 : Int) < (ps.length : Int) := by omega
    go_enter Tryz.func7, Tryz.ntmps7
    go_wp2_with (go_at_call 21; refine (Split_c s 10 _ (by omega)).mono ?_; rw [← Hps.out]; rintro e w1 ⟨pc, rfl, hst, hg1⟩; have Hg1 := hid hg1; have Hr1 := hid (hg1.obj Hr0.out (by simp)); have fr1 := fld Hr1.out; have fr1F := fldF Hr1.out; clear hst hg1)
    have h5 := set2 _ _ (.slice none 0 0) (.slice none 0 0) Hr1.out
    generalize ((w1.setCell ⟨w.heap.size, 0, none⟩ (.slice none 0 0)).setCell ⟨w.heap.size, 1, none⟩ (.slice none 0 0)) = WE at h5 ⊢
    obtain ⟨h5, hG⟩ := h5
    have flE := fld h5
    refine bodyPost_ret (v := .tuple #[.agg #[.slice none 0 0, .slice none 0 0], .bool false]) ?_ rfl ?_
    · simp [results, Tryz.results7, go_sem, flE]
    · (try rw [hC.out])
      refine ⟨none, 0, none, 0, zeroMod, rfl, rfl, zeroModM _ _, by simp [leavesN, leavesCs], ?_⟩
      exact (Hg0.out.trans Hg1.out).step hG (fun i hi => .inr (by simp at hi; omega))
  · have hp11 : ps.length ≤ 11 := by omega
    have h11i : ¬ (11 : Int) < (ps.length : Int) := by omega
    obtain ⟨vs, hvs⟩ : ∃ vs, vs = ps.takeWhile (Lib.hasPrefix · varT) := ⟨_, rfl⟩
    have hvp : vs <+: ps := by rw [hvs]; exact List.takeWhile_prefix _
    have hvl : vs.length ≤ ps.length := hvp.length_le
    have hvg : ∀ n, n < vs.length → ps[n]? = vs[n]? := fun n hn => by
      obtain ⟨t, ht⟩ := hvp
      rw [← ht, List.getElem?_append_left hn]
    have hvt : ∀ n x, vs[n]? = some x → Lib.hasPrefix x varT = true := fun n x hx => by
      have := List.mem_of_getElem? hx
      rw [hvs] at this
      exact List.all_takeWhile (p := (Lib.hasPrefix · varT)) |> fun h => (List.all_eq_true.1 h) x this
    have hvf : ∀ x, ps[vs.length]? = some x → Lib.hasPrefix x varT = false := fun x hx => tw_stop (Lib.hasPrefix · varT) ps x (by rw [hvs] at hx; exact hx)
    obtain ⟨cl, hcl⟩ : ∃ cl, cl = ps.dropLast.drop vs.length := ⟨_, rfl⟩
    have hC : Hid (decI s = match vs.mapM (fun l => decDom (l.drop 4)) with
      | none => none
      | some ds => match cl.mapM (fun l => rdC l ds.length) with
        | none => none
        | some cs => if validM ⟨ints ds, cs⟩ = true ∧ encM ⟨ints ds, cs⟩ = s then some ⟨ints ds, cs⟩ else none) := hid (by
      unfold decI; rw [← Hps.out, if_neg h11, hcl, hvs]; rfl)
    have hclg : ∀ n, vs.length ≤ n → n + 1 < ps.length → ps[n]? = cl[n - vs.length]? := fun n h1 h2 => by
      rw [hcl, List.getElem?_drop, List.getElem?_dropLast, if_pos (by omega)]
      congr 1; omega
    have hcll : cl.length = ps.length - 1 - vs.length := by rw [hcl]; simp
    have Hvs := hid hvs; have Hvg := hid hvg; have Hvt := hid hvt; have Hvf := hid hvf; have Hclg := hid hclg; have Hcll := hid hcll
    clear hvs hvg hvt hvf hclg hcll hcl hvp h11
    go_enter Tryz.func7, Tryz.ntmps7
    go_wp2_with (go_at_call 21; refine (Split_c s 10 _ (by omega)).mono ?_; rw [← Hps.out]; rintro e w1 ⟨pc, rfl, hst, hg1⟩; have hw01 : w.heap.size + 1 < w1.heap.size := (by obtain ⟨x, hx⟩ : ∃ x, ps[0]? = some x := ⟨_, List.getElem?_eq_getElem hp0⟩; have := World.block_lt_of_cell? w1 _ (strs_cell hst 0 x hx); simpa using this); have Hg1 := hid hg1; have Hr1 := hid (hg1.obj Hr0.out (by simp)); have HcP : Hid (∀ (j : Nat) x, ps[j]? = some x → w1.cell? ⟨w.heap.size + 1, j, none⟩ = some (.string ⟨x.toArray⟩)) := hid (fun j x hj => by simpa using strs_cell hst j x hj); have hpc := strs_cap hst; clear hst hg1)
    obtain ⟨bm, hbm⟩ : ∃ bm, bm = w1.heap.size := ⟨_, rfl⟩
    have hgz : Gr [] w1 (w1.alloc (.cells #[.slice none 0 0, .slice none 0 0] 27)) := (Gr.refl _ _).alloc _
    have hBz := heap_alloc_new w1 (.cells #[.slice none 0 0, .slice none 0 0] 27)
    generalize w1.alloc (.cells #[.slice none 0 0, .slice none 0 0] 27) = wz at hgz hBz ⊢
    rw [← hbm] at hBz ⊢
    have hbz := lt_of_block hBz
    have hbw : w.heap.size + 1 < bm := by omega
    have HBz := hid hBz; have Hgz := hid hgz
    have HcZ : Hid (∀ (j : Nat) x, ps[j]? = some x → wz.cell? ⟨w.heap.size + 1, j, none⟩ = some (.string ⟨x.toArray⟩)) := hid fun j x hj => hgz.cell (HcP.out j x hj) (by simp)
    clear hgz hBz hbm
    go_loopw [6] (fun i wr => ∃ (n : Nat) (ds : List Nat) (m : Mod) (dv : Value), n ≤ vs.length ∧ i = .int .i64 n ∧ (vs.take n).mapM (fun l => decDom (l.drop 4)) = some ds ∧ m = ⟨ints ds, []⟩ ∧ DS wz wr bm m dv (.slice none 0 0)) (fun i _ => ps.length - (intOf i).toNat)
    case atStart => exact ⟨0, [], ⟨ints [], []⟩, _, Nat.zero_le _, rfl, rfl, rfl, ⟨HBz.out, Own.nil _ _ _, fun _ => rfl, ⟨_, Nat.le_refl _, Nat.le_refl _, OwnG.nil _ _ _, by intro b hb; simp [Value.ownBlock] at hb⟩, Gr.refl _ _⟩⟩
    case round =>
      obtain ⟨n, ds, m, dv, hn, rfl, hfold, hm, hds⟩ := hrel
      have hdl : ds.length = n := by rw [mapM_len _ _ _ hfold, List.length_take]; omega
      have hsr := hds.gr.size
      have hxl : m.doms.length = n := by rw [hm]; unfold ints; simpa using hdl
      obtain ⟨xo, xc, hdv, -, -⟩ := hds.own.nums' (S := []) (by simp)
      rw [hxl] at hdv
      subst hdv
      have Hfold := hid hfold; have Hds := hid hds
      have hrr := hds.gr.obj (Hgz.out.obj Hr1.out (by simp)) (by simp; omega)
      have Hrr := hid hrr; have frr := fld hrr; have frrF := fldF hrr
      have hbr := hds.b
      have fbm := fld hbr; have ffbm := fldF hbr
      have gwr : Gr [] w wr := ((Hg0.out.trans Hg1.out).trans Hgz.out).step hds.gr (fun i hi => .inr (by simp at hi; omega))
      have Gwr := hid gwr
      have Hm := hid hm; clear hm
      have Hxl := hid hxl; have Hdl := hid hdl
      clear hfold hds hrr hbr gwr hxl hdl
      by_cases hlt : n < vs.length
      · obtain ⟨l, hl⟩ : ∃ l, vs[n]? = some l := ⟨_, List.getElem?_eq_getElem hlt⟩
        have hlp : ps[n]? = some l := (Hvg.out n hlt).trans hl
        have hnp : n < ps.length := by omega
        have hni : (n : Int) < (ps.length : Int) := by omega
        have hcr : wr.cell? ⟨w.heap.size + 1, n, none⟩ = some (.string ⟨l.toArray⟩) := Hds.out.gr.cell (HcZ.out n l hlp) (by simp; omega)
        have hpx := Hvt.out n l hl
        have hl4 : 4 ≤ l.length := hasPrefix_len hpx
        have hll2 := Hpl.out l (List.mem_of_getElem? hlp)
        have Hl := hid hl
        have he2 : ((⟨l.toArray⟩ : ByteArray).extract 4 l.length) = ⟨(l.drop 4).toArray⟩ := Value.string.inj (str_rest l 4)
        have hl4i : ¬ (l.length : Int) < 4 := by omega
        have Hpx := hid hpx; clear hpx
        clear hl hlp
        cases hdd : decDom (l.drop 4) with
        | none =>
          have hC2 : decI s = none := by
            rw [hC.out, mapM_fail (fun l => decDom (l.drop 4)) vs n Hl.out hdd]
          have Hdd := hid hdd; clear hdd
          go_wp2_with (first
            | (go_at_call 22; refine (HasPrefix_c l varT _).mono ?_; rintro e wq ⟨rfl, hwq⟩; subst hwq; rw [Hpx.out])
            | (go_at_call 23; refine (DecodeDomain_c (l.drop 4) _ (HT.out.gr Gwr.out)).mono ?_; rw [Hdd.out]; rintro e wd ⟨rfl, hgd⟩; have hrd := hgd.obj Hrr.out (by simp); have frd := fld hrd; have frdF := fldF hrd; have Hrd := hid hrd; have Hgd := hid hgd; clear hrd hgd frr frrF fbm ffbm))
          have h5 := set2 _ _ (.slice none 0 0) (.slice none 0 0) Hrd.out
          generalize ((wd.setCell ⟨w.heap.size, 0, none⟩ (.slice none 0 0)).setCell ⟨w.heap.size, 1, none⟩ (.slice none 0 0)) = WE at h5 ⊢
          obtain ⟨h5, hG⟩ := h5
          have flE := fld h5
          refine bodyPost_ret (v := .tuple #[.agg #[.slice none 0 0, .slice none 0 0], .bool false]) ?_ rfl ?_
          · simp [results, Tryz.results7, go_sem, flE]
          · (try rw [hC2])
            refine ⟨none, 0, none, 0, zeroMod, rfl, rfl, zeroModM _ _, by simp [leavesN, leavesCs], ?_⟩
            exact (Gwr.out.trans Hgd.out).step hG (fun i hi => .inr (by simp at hi; omega))
        | some d =>
          have Hdd := hid hdd; clear hdd
          have Hbz := hid fun g hg => Hds.out.own.ownB (g := g) hg
          go_wp2_with (first
            | (go_at_call 22; refine (HasPrefix_c l varT _).mono ?_; rintro e wq ⟨rfl, hwq⟩; subst hwq; rw [Hpx.out])
            | (go_at_call 23; refine (DecodeDomain_c (l.drop 4) _ (HT.out.gr Gwr.out)).mono ?_; rw [Hdd.out]; rintro e wd ⟨rfl, hgd⟩; have hbd := hgd.obj Hds.out.b (by simp); have fbd := fld hbd; have ffbd := fldF hbd; have Hbd := hid hbd; have HOd := hid (Hds.out.own.gr hgd (by simp)); have HGx := hid hgd; have hsd := hgd.size; clear hbd hgd frr frrF fbm ffbm)
            | (at_builtin; refine wp_appIL rfl _ _ 24 rfl wz.heap.size 3 infoT Tryz.underlying24 (.slice xo n xc) m.doms rfl (HOd.out.alloc _) _ 1 (d : Int) rfl (cell_new _ _ _) (by have := Hxl.out; omega) (by rw [World.size_alloc]; omega) ?_; intro g4 c4 w4 hown4 hg4 hwh4 hlt4; have hb4 := hg4.obj (((Gr.refl [] wd).alloc _).obj Hbd.out (by simp)) (fun hm => by have := (Hbz.out bm (by simpa using hm)).1; omega); have fb4 := fld hb4; have ffb4 := fldF hb4; have Hb4 := hid hb4; have HOwn4 := hid hown4; have HG4 := hid hg4; have Hwh4 := hid hwh4; clear hb4 hown4 hg4 hwh4))
          have hg4bm : g4 ≠ bm := by
            rcases Hwh4.out with h | h
            · have := (Hbz.out g4 h).1; omega
            · rw [World.size_alloc] at h; omega
          have hG5 : Gr [bm] w4 (w4.setCell ⟨bm, 0, none⟩ (.slice (some ⟨g4, 0, none⟩) (m.doms.length + 1) c4)) := Gr.cell1 [bm] w4 ⟨bm, 0, none⟩ _ (by simp)
          have hint : ints (ds ++ [d]) = ints ds ++ [(d : Int)] := by simp [ints]
          refine ⟨⟨n + 1, ds ++ [d], ⟨m.doms ++ [(d : Int)], []⟩, .slice (some ⟨g4, 0, none⟩) (m.doms.length + 1) c4, by omega, by go_num, mapM_take _ vs n Hl.out Hfold.out Hdd.out, by rw [Hm.out, hint], ⟨?_, ?_, fun _ => rfl, ⟨_, ?_, Nat.le_refl _, OwnG.nil _ _ _, ?_⟩, ?_⟩⟩, by simp [intOf]; omega⟩
          · have := block_cells (cur' := #[]) Hb4.out 0 (.slice (some ⟨g4, 0, none⟩) (m.doms.length + 1) c4)
            simpa using this
          · exact HOwn4.out.keepO hG5 (fun g hg => by simp [Value.ownBlock] at hg; subst hg; simpa using hg4bm)
          · have h1 := HG4.out.size; have h2 := hG5.size; rw [World.size_alloc] at h1; omega
          · intro b hb; simp [Value.ownBlock] at hb; subst hb; simpa using hlt4
          · refine (((Hds.out.gr.trans HGx.out.any).alloc _).step HG4.out fun i hi => ?_).trans hG5
            exact .inr ((Hbz.out i (by simpa using hi)).1)
      · have hnv : n = vs.length := by omega
        have Hnv := hid hnv
        have hfin : n < ps.length → ∃ l, Lib.hasPrefix l varT = false ∧ wr.cell? ⟨w.heap.size + 1, n, none⟩ = some (.string ⟨l.toArray⟩) := fun h => by
          obtain ⟨l, hl⟩ : ∃ l, ps[n]? = some l := ⟨_, List.getElem?_eq_getElem h⟩
          exact ⟨l, Hvf.out l (by rw [← hnv]; exact hl), Hds.out.gr.cell (HcZ.out n l hl) (by simp; omega)⟩
        have hfold2 : vs.mapM (fun l => decDom (l.drop 4)) = some ds := by have := Hfold.out; rwa [hnv, List.take_length] at this
        have hcln : cl.length = ps.length - 1 - n := by rw [Hcll.out, hnv]
        have hclx : ∀ k, k < cl.length → ps[n + k]? = cl[k]? := fun k hk => by rw [Hclg.out (n + k) (by omega) (by omega)]; congr 1; omega
        have Hf2 := hid hfold2; have Hcln := hid hcln; have Hclx := hid hclx
        clear hfold2 hnv hcln hclx
        by_cases hnp : n < ps.length
        · obtain ⟨l, hpx, hcr⟩ := hfin hnp
          have Hpx := hid hpx; clear hpx hfin
          have hni : (n : Int) < (ps.length : Int) := by omega
          go_wp2_with (first
            | (go_at_call 22; refine (HasPrefix_c l varT _).mono ?_; rintro e wq ⟨rfl, hwq⟩; subst hwq; rw [Hpx.out]))
          clear frr frrF fbm ffbm hcr
          go_loopw [6] (fun i wr2 => ∃ (j k : Nat) (cs : List Con) (m2 : Mod) (cv : Value), j = n + k ∧ i = .int .i64 (j : Int) ∧ k ≤ cl.length ∧ (cl.take k).mapM (fun l => rdC l ds.length) = some cs ∧ m2 = ⟨ints ds, cs⟩ ∧ DS wz wr2 bm m2 (.slice xo n xc) cv) (fun i _ => ps.length - (intOf i).toNat)
          case atStart => exact ⟨n, 0, [], m, _, rfl, rfl, Nat.zero_le _, rfl, Hm.out, Hds.out⟩
          case round =>
            obtain ⟨j, k, cs, m2, cv, hj, rfl, hk, hfold, hm2, hds⟩ := hrel
            have Hj := hid hj
            have hsr2 := hds.gr.size
            have hcsl : cs.length = k := by rw [mapM_len _ _ _ hfold, List.length_take]; omega
            have hmc : m2.cons.length = k := by rw [hm2]; exact hcsl
            obtain ⟨B, hB1, hB2, hoc, hdB⟩ := hds.con
            obtain ⟨co, cc, hcv, -, -, -⟩ := hoc.slice
            rw [hmc] at hcv
            subst hcv
            have Hfold2 := hid hfold; have Hds2 := hid hds; have Hm2 := hid hm2; have HOc := hid hoc; have Hmc := hid hmc
            have hrr := hds.gr.obj (Hgz.out.obj Hr1.out (by simp)) (by simp; omega)
            have Hrr2 := hid hrr; have frr := fld hrr; have frrF := fldF hrr
            have hbr := hds.b
            have fbm := fld hbr; have ffbm := fldF hbr
            have HBM := hid hbr
            have gwr : Gr [] w wr := ((Hg0.out.trans Hg1.out).trans Hgz.out).step hds.gr (fun i hi => .inr (by simp at hi; omega))
            have Gwr2 := hid gwr
            have Hdb := hid hdB
            clear hfold hds hm2 hoc hmc hcsl hrr hbr gwr hdB
            have hcl1 := Hcln.out
            by_cases hlt : k < cl.length
            · obtain ⟨l, hl⟩ : ∃ l, cl[k]? = some l := ⟨_, List.getElem?_eq_getElem hlt⟩
              have hlp : ps[j]? = some l := by rw [hj]; exact (Hclx.out k hlt).trans hl
              have hnk : j < ps.length := by omega
              have hnki : (j : Int) < (ps.length : Int) - 1 := by omega
              have hcr : wr.cell? ⟨w.heap.size + 1, j, none⟩ = some (.string ⟨l.toArray⟩) := Hds2.out.gr.cell (HcZ.out j l hlp) (by simp; omega)
              have hll2 := Hpl.out l (List.mem_of_getElem? hlp)
              have Hl := hid hl
              clear hl hlp hcl1 hj
              have hc0 : wr.cell? ⟨bm, 0, none⟩ = some (.slice xo n xc) := fld HBM.out 0
              have HCR := hid hcr; have HC0 := hid hc0
              go_wp2_with fail
              go_cut [9, 10] from 56 to 66 (fun p q wx => ∃ (bx : Nat) (uo : Option Addr) (uc : Nat) (po : Option Addr) (pc' : Nat) (ro : Option Addr) (rc : Nat) (c : Con), p = .pointer (some ⟨bx, 0, none⟩) ∧ q = .bool (rdC l n).isSome ∧ c = (rdC l n).getD zeroCon ∧ wr.heap.size ≤ bx ∧ wx.heap[bx]? = some (.cells #[.int .i64 c.kind, .slice uo c.vars.length uc, .slice po c.args.length pc', .int .i64 c.bound, .slice ro c.rows.length rc] 49 (0, 0)) ∧ ConM (New wr.heap.size wx) wx (.agg #[.int .i64 c.kind, .slice uo c.vars.length uc, .slice po c.args.length pc', .int .i64 c.bound, .slice ro c.rows.length rc]) c ∧ Gr [] wr wx)
              case first =>
                refine wp_region_held_drew (S := (fun W => W.cell? ⟨w.heap.size + 1, j, none⟩ = some (.string ⟨l.toArray⟩) ∧ W.cell? ⟨bm, 0, none⟩ = some (.slice xo n xc))) (by kernel_rfl) ?_ (fun hHeld => ?_)
                · exact ⟨hcr, hc0⟩
                refine wpAnyH_take (i := 0) (v := ?_) rfl (by kernel_rfl) (by kernel_rfl) (by kernel_rfl) (fun _ _ _ h => h) (Or.inl ⟨by rfl, ?_⟩) (by assumption) ?_
                rotate_left
                · intro Wx hSw; (try dsimp only at hSw); obtain ⟨hS1, hS2⟩ := hSw; go_simp; (try with_reducible rfl)
                try simp only [Act.put, List.setIfInBounds_toArray, List.set_cons_zero, List.set_cons_succ, List.getElem_toArray, List.getElem_cons_zero, List.getElem_cons_succ]
                refine wpAnyH_take (i := 1) (v := ?_) rfl (by kernel_rfl) (by kernel_rfl) (by kernel_rfl) (fun _ _ _ h => h) (Or.inl ⟨by rfl, ?_⟩) (by assumption) ?_
                rotate_left
                · intro Wx hSw; (try dsimp only at hSw); obtain ⟨hS1, hS2⟩ := hSw; go_simp; (try with_reducible rfl)
                try simp only [Act.put, List.setIfInBounds_toArray, List.set_cons_zero, List.set_cons_succ, List.getElem_toArray, List.getElem_cons_zero, List.getElem_cons_succ]
                refine wpAnyH_take (i := 2) (v := ?_) rfl (by kernel_rfl) (by kernel_rfl) (by kernel_rfl) (fun _ _ _ h => h) (Or.inl ⟨by rfl, ?_⟩) (by assumption) ?_
                rotate_left
                · intro Wx hSw; (try dsimp only at hSw); obtain ⟨hS1, hS2⟩ := hSw; go_simp; (try with_reducible rfl)
                try simp only [Act.put, List.setIfInBounds_toArray, List.set_cons_zero, List.set_cons_succ, List.getElem_toArray, List.getElem_cons_zero, List.getElem_cons_succ]
                refine wpAnyH_take (i := 3) (v := ?_) rfl (by kernel_rfl) (by kernel_rfl) (by kernel_rfl) (fun _ _ _ h => h) (Or.inl ⟨by rfl, ?_⟩) (by assumption) ?_
                rotate_left
                · intro Wx hSw; (try dsimp only at hSw); obtain ⟨hS1, hS2⟩ := hSw; go_simp; (try with_reducible rfl)
                try simp only [Act.put, List.setIfInBounds_toArray, List.set_cons_zero, List.set_cons_succ, List.getElem_toArray, List.getElem_cons_zero, List.getElem_cons_succ]
                refine wpAnyH_take (i := 4) (v := ?_) rfl (by kernel_rfl) (by kernel_rfl) (by kernel_rfl) (fun _ _ _ h => h) (Or.inl ⟨by rfl, ?_⟩) (by assumption) ?_
                rotate_left
                · intro Wx hSw; (try dsimp only at hSw); obtain ⟨hS1, hS2⟩ := hSw; go_simp; (try with_reducible rfl)
                try simp only [Act.put, List.setIfInBounds_toArray, List.set_cons_zero, List.set_cons_succ, List.getElem_toArray, List.getElem_cons_zero, List.getElem_cons_succ]
                refine wpAnyH_take (i := 5) (v := ?_) rfl (by kernel_rfl) (by kernel_rfl) (by kernel_rfl) (fun _ _ _ h => h) (Or.inl ⟨by rfl, ?_⟩) (by assumption) ?_
                rotate_left
                · intro Wx hSw; (try dsimp only at hSw); obtain ⟨hS1, hS2⟩ := hSw; go_simp; (try with_reducible rfl)
                try simp only [Act.put, List.setIfInBounds_toArray, List.set_cons_zero, List.set_cons_succ, List.getElem_toArray, List.getElem_cons_zero, List.getElem_cons_succ]
                refine wpAnyH_take (i := 6) (v := ?_) rfl (by kernel_rfl) (by kernel_rfl) (by kernel_rfl) (fun _ _ _ h => h) (Or.inl ⟨by rfl, ?_⟩) (by assumption) ?_
                rotate_left
                · intro Wx hSw; (try dsimp only at hSw); obtain ⟨hS1, hS2⟩ := hSw; go_simp; (try with_reducible rfl)
                try simp only [Act.put, List.setIfInBounds_toArray, List.set_cons_zero, List.set_cons_succ, List.getElem_toArray, List.getElem_cons_zero, List.getElem_cons_succ]
                refine wpAnyH_ready (rs := [7, 11]) (by kernel_rfl) (by simp) ?_
                refine AllReadyH.cons rfl (fun Kx hKx => ?_) (AllReadyH.cons rfl (fun Kx hKx => ?_) AllReadyH.nil)
                ·
                  go_simp; refine (readConstraint_c l n _ hll2 ((HT.out.gr Gwr2.out).gr (((Gr.refl [] wr).drew)))).mono ?_; rintro e wa ⟨uo, uc, po, pc', ro, rc, c, rfl, hcc, hcm, hga⟩; have Hcc := hid hcc; clear hcc; have hgw : Gr [] wr wa := Gr.trans (((Gr.refl [] wr).drew)) hga; have Hcm := hid hcm; have hsa : (wr.drew).heap.size ≤ wa.heap.size := hga.size; (try dsimp only)
                  refine hKx.out _ _ ?_ (fun hHeld => ?_)
                  · (try dsimp only); (exact ⟨hgw.cell HCR.out (by simp), hgw.cell HC0.out (by simp)⟩)
                  clear hKx Kx
                  try simp only [Act.put, List.setIfInBounds_toArray, List.set_cons_zero, List.set_cons_succ, List.getElem_toArray, List.getElem_cons_zero, List.getElem_cons_succ]
                  refine wpAnyH_take (i := 8) (v := ?_) rfl (by kernel_rfl) (by kernel_rfl) (by kernel_rfl) (fun _ _ _ h => h) (Or.inl ⟨by rfl, ?_⟩) (by assumption) ?_
                  rotate_left
                  · intro Wx hSw; (try dsimp only at hSw); go_simp; (try with_reducible rfl)
                  try simp only [Act.put, List.setIfInBounds_toArray, List.set_cons_zero, List.set_cons_succ, List.getElem_toArray, List.getElem_cons_zero, List.getElem_cons_succ]
                  refine wpAnyH_take (i := 9) (v := ?_) rfl (by kernel_rfl) (by kernel_rfl) (by kernel_rfl) (fun _ _ _ h => h) (Or.inl ⟨by rfl, ?_⟩) (by assumption) ?_
                  rotate_left
                  · intro Wx hSw; (try dsimp only at hSw); go_simp; (try with_reducible rfl)
                  try simp only [Act.put, List.setIfInBounds_toArray, List.set_cons_zero, List.set_cons_succ, List.getElem_toArray, List.getElem_cons_zero, List.getElem_cons_succ]
                  refine wpAnyH_take (i := 10) (v := ?_) rfl (by kernel_rfl) (by kernel_rfl) (by kernel_rfl) (fun _ _ _ h => h) (Or.inl ⟨by rfl, ?_⟩) (by assumption) ?_
                  rotate_left
                  · intro Wx hSw; (try dsimp only at hSw); go_simp; (try with_reducible rfl)
                  try simp only [Act.put, List.setIfInBounds_toArray, List.set_cons_zero, List.set_cons_succ, List.getElem_toArray, List.getElem_cons_zero, List.getElem_cons_succ]
                  refine wpAnyH_ready (rs := [11]) (by kernel_rfl) (by simp) ?_
                  refine AllReadyH.cons rfl (fun Kx hKx => ?_) AllReadyH.nil
                  go_simp
                  refine hKx.out _ _ ?_ (fun hHeld => ?_)
                  · (try dsimp only); (exact ⟨(hgw.alloc _).cell HCR.out (by simp), (hgw.alloc _).cell HC0.out (by simp)⟩)
                  clear hKx Kx
                  try simp only [Act.put, List.setIfInBounds_toArray, List.set_cons_zero, List.set_cons_succ, List.getElem_toArray, List.getElem_cons_zero, List.getElem_cons_succ]
                  refine wpAnyH_ready (rs := [12]) (by kernel_rfl) (by simp) ?_
                  refine AllReadyH.cons rfl (fun Kx hKx => ?_) AllReadyH.nil
                  go_simp
                  refine hKx.out _ _ ?_ (fun hHeld => ?_)
                  · (try dsimp only); (exact ⟨(hgw.alloc _).cell HCR.out (by simp), (hgw.alloc _).cell HC0.out (by simp)⟩)
                  clear hKx Kx
                  try simp only [Act.put, List.setIfInBounds_toArray, List.set_cons_zero, List.set_cons_succ, List.getElem_toArray, List.getElem_cons_zero, List.getElem_cons_succ]
                  refine wpAnyH_take (i := 13) (v := ?_) rfl (by kernel_rfl) (by kernel_rfl) (by kernel_rfl) (fun _ _ _ h => h) (Or.inl ⟨by rfl, ?_⟩) (by assumption) ?_
                  rotate_left
                  · intro Wx hSw; (try dsimp only at hSw); go_simp; (try with_reducible rfl)
                  try simp only [Act.put, List.setIfInBounds_toArray, List.set_cons_zero, List.set_cons_succ, List.getElem_toArray, List.getElem_cons_zero, List.getElem_cons_succ]
                  refine wpAnyH_done (by kernel_rfl) ?_ _
                  go_wp2_with fail
                  go_meet
                  refine ⟨wa.heap.size, uo, uc, po, pc', ro, rc, c, rfl, rfl, Hcc.out, hgw.size, ?_, ?_, hgw.alloc _⟩
                  · exact heap_alloc_new _ _
                  · exact Hcm.out.gr' ((Gr.refl [] wa).alloc _) (by simp) (fun b _ h => ⟨h.1, by have := h.2; simp; omega⟩)
                ·
                  go_simp
                  refine hKx.out _ _ ?_ (fun hHeld => ?_)
                  · (try dsimp only); (exact ⟨(((Gr.refl [] wr).drew).alloc _).cell HCR.out (by simp), (((Gr.refl [] wr).drew).alloc _).cell HC0.out (by simp)⟩)
                  clear hKx Kx
                  try simp only [Act.put, List.setIfInBounds_toArray, List.set_cons_zero, List.set_cons_succ, List.getElem_toArray, List.getElem_cons_zero, List.getElem_cons_succ]
                  refine wpAnyH_ready (rs := [7]) (by kernel_rfl) (by simp) ?_
                  refine AllReadyH.cons rfl (fun Kx hKx => ?_) AllReadyH.nil
                  go_simp; refine (readConstraint_c l n _ hll2 ((HT.out.gr Gwr2.out).gr (((Gr.refl [] wr).drew).alloc (.cells #[.int .i64 0, .slice none 0 0, .slice none 0 0, .int .i64 0, .slice none 0 0] 49)))).mono ?_; rintro e wa ⟨uo, uc, po, pc', ro, rc, c, rfl, hcc, hcm, hga⟩; have Hcc := hid hcc; clear hcc; have hgw : Gr [] wr wa := Gr.trans (((Gr.refl [] wr).drew).alloc (.cells #[.int .i64 0, .slice none 0 0, .slice none 0 0, .int .i64 0, .slice none 0 0] 49)) hga; have Hcm := hid hcm; have hsa : (wr.drew.alloc (.cells #[.int .i64 0, .slice none 0 0, .slice none 0 0, .int .i64 0, .slice none 0 0] 49)).heap.size ≤ wa.heap.size := hga.size; (try dsimp only)
                  refine hKx.out _ _ ?_ (fun hHeld => ?_)
                  · (try dsimp only); (exact ⟨hgw.cell HCR.out (by simp), hgw.cell HC0.out (by simp)⟩)
                  clear hKx Kx
                  try simp only [Act.put, List.setIfInBounds_toArray, List.set_cons_zero, List.set_cons_succ, List.getElem_toArray, List.getElem_cons_zero, List.getElem_cons_succ]
                  have hB : wa.heap[wr.heap.size]? = some (.cells #[.int .i64 0, .slice none 0 0, .slice none 0 0, .int .i64 0, .slice none 0 0] 49 (0, 0)) := hga.obj (heap_alloc_new wr.drew _) (by simp)
                  refine wpAnyH_take (i := 8) (v := ?_) rfl (by kernel_rfl) (by kernel_rfl) (by kernel_rfl) (fun _ _ _ h => h) (Or.inl ⟨by rfl, ?_⟩) (by assumption) ?_
                  rotate_left
                  · intro Wx hSw; (try dsimp only at hSw); go_simp; (try with_reducible rfl)
                  try simp only [Act.put, List.setIfInBounds_toArray, List.set_cons_zero, List.set_cons_succ, List.getElem_toArray, List.getElem_cons_zero, List.getElem_cons_succ]
                  refine wpAnyH_take (i := 9) (v := ?_) rfl (by kernel_rfl) (by kernel_rfl) (by kernel_rfl) (fun _ _ _ h => h) (Or.inl ⟨by rfl, ?_⟩) (by assumption) ?_
                  rotate_left
                  · intro Wx hSw; (try dsimp only at hSw); go_simp; (try with_reducible rfl)
                  try simp only [Act.put, List.setIfInBounds_toArray, List.set_cons_zero, List.set_cons_succ, List.getElem_toArray, List.getElem_cons_zero, List.getElem_cons_succ]
                  refine wpAnyH_take (i := 10) (v := ?_) rfl (by kernel_rfl) (by kernel_rfl) (by kernel_rfl) (fun _ _ _ h => h) (Or.inl ⟨by rfl, ?_⟩) (by assumption) ?_
                  rotate_left
                  · intro Wx hSw; (try dsimp only at hSw); go_simp; (try with_reducible rfl)
                  try simp only [Act.put, List.setIfInBounds_toArray, List.set_cons_zero, List.set_cons_succ, List.getElem_toArray, List.getElem_cons_zero, List.getElem_cons_succ]
                  refine wpAnyH_ready (rs := [12]) (by kernel_rfl) (by simp) ?_
                  refine AllReadyH.cons rfl (fun Kx hKx => ?_) AllReadyH.nil
                  have fB := fld hB; have fBF := fldF hB
                  go_simp
                  have h5 := sets5 _ _ _ _ _ (.int .i64 c.kind) (.slice uo c.vars.length uc) (.slice po c.args.length pc') (.int .i64 c.bound) (.slice ro c.rows.length rc) hB
                  have hG := setsG (w := wa) wr.heap.size (.int .i64 c.kind) (.slice uo c.vars.length uc) (.slice po c.args.length pc') (.int .i64 c.bound) (.slice ro c.rows.length rc)
                  generalize (((((wa.setCell ⟨wr.heap.size, 0, none⟩ (.int .i64 c.kind)).setCell ⟨wr.heap.size, 1, none⟩ (.slice uo c.vars.length uc)).setCell ⟨wr.heap.size, 2, none⟩ (.slice po c.args.length pc')).setCell ⟨wr.heap.size, 3, none⟩ (.int .i64 c.bound)).setCell ⟨wr.heap.size, 4, none⟩ (.slice ro c.rows.length rc)) = WE at h5 hG ⊢
                  have hGE : Gr [] wr WE := hgw.step hG (fun i hi => .inr (by simp at hi; omega))
                  have hsE := hG.size
                  refine hKx.out _ _ ?_ (fun hHeld => ?_)
                  · (try dsimp only); (exact ⟨hGE.cell HCR.out (by simp), hGE.cell HC0.out (by simp)⟩)
                  clear hKx Kx
                  try simp only [Act.put, List.setIfInBounds_toArray, List.set_cons_zero, List.set_cons_succ, List.getElem_toArray, List.getElem_cons_zero, List.getElem_cons_succ]
                  refine wpAnyH_take (i := 13) (v := ?_) rfl (by kernel_rfl) (by kernel_rfl) (by kernel_rfl) (fun _ _ _ h => h) (Or.inl ⟨by rfl, ?_⟩) (by assumption) ?_
                  rotate_left
                  · intro Wx hSw; (try dsimp only at hSw); go_simp; (try with_reducible rfl)
                  try simp only [Act.put, List.setIfInBounds_toArray, List.set_cons_zero, List.set_cons_succ, List.getElem_toArray, List.getElem_cons_zero, List.getElem_cons_succ]
                  refine wpAnyH_done (by kernel_rfl) ?_ _
                  go_wp2_with fail
                  go_meet
                  refine ⟨wr.heap.size, uo, uc, po, pc', ro, rc, c, rfl, rfl, Hcc.out, Nat.le_refl _, h5, ?_, hGE⟩
                  exact Hcm.out.gr' hG (fun b hb hm => by have := hm.1; simp at hb this; omega) (fun b _ h => ⟨by have := h.1; simp at this; omega, by have := h.2; omega⟩)
              case rest =>
                obtain ⟨bx, uo, uc, po, pc', ro, rc, c, rfl, rfl, hcc, hbx, hbc, hcm, hgx⟩ := hcut
                have hrr3 := hgx.obj Hrr2.out (by simp)
                have frr3 := fld hrr3; have frr3F := fldF hrr3
                have Hrr3 := hid hrr3; have Hgx := hid hgx; have Hcm := hid hcm; have Hcc := hid hcc; have Hbc := hid hbc
                have hb3 := hgx.obj HBM.out (by simp)
                have fb3 := fld hb3; have fb3F := fldF hb3; have fcx := fld hbc
                have HB3 := hid hb3
                have hsx := hgx.size
                clear hrr3 hgx hcm hcc hbc hb3 frr frrF fbm ffbm hc0 hcr
                cases hrc : rdC l n with
                | none =>
                  have hC2 : decI s = none := by
                    rw [hC.out, Hf2.out]
                    have e := mapM_fail (fun l => rdC l ds.length) cl k Hl.out (by rw [Hdl.out]; exact hrc)
                    simp only [e]
                  have Hrc := hid hrc; clear hrc
                  go_wp2_with fail
                  have h5 := set2 _ _ (.slice none 0 0) (.slice none 0 0) Hrr3.out
                  generalize ((wc.setCell ⟨w.heap.size, 0, none⟩ (.slice none 0 0)).setCell ⟨w.heap.size, 1, none⟩ (.slice none 0 0)) = WE at h5 ⊢
                  obtain ⟨h5, hG⟩ := h5
                  have flE := fld h5
                  refine bodyPost_ret (v := .tuple #[.agg #[.slice none 0 0, .slice none 0 0], .bool false]) ?_ rfl ?_
                  · simp [results, Tryz.results7, go_sem, flE]
                  · (try rw [hC2])
                    refine ⟨none, 0, none, 0, zeroMod, rfl, rfl, zeroModM _ _, by simp [leavesN, leavesCs], ?_⟩
                    exact ((Gwr2.out.trans Hgx.out)).step hG (fun i hi => .inr (by simp at hi; omega))
                | some c' =>
                  rw [hrc] at Hcc
                  have hcc' : c = c' := Hcc.out
                  subst hcc'
                  have Hrc := hid hrc; clear hrc
                  have HO5 := hid (HOc.out.gr elConM_ok Hgx.out (by simp))
                  have Hown' := hid (fun b hb => HOc.out.own (b := b) hb)
                  have hkk : m2.cons.length ≤ 100 := by have := Hmc.out; have := Hcll.out; omega
                  have Hkk := hid hkk; clear hkk
                  go_wp2_with (at_builtin; go_loud (refine wp_appH rfl _ _ 25 rfl 5 elConM elConM_ok B 49 (.agg #[.int .i64 0, .slice none 0 0, .slice none 0 0, .int .i64 0, .slice none 0 0]) 88 infoC rfl (by omega) (by omega) Tryz.underlying25 (.slice co k cc) m2.cons rfl (HO5.out.gr elConM_ok ((Gr.refl [] wc).alloc _) (by simp)) wc.heap.size 1 c [.int .i64 c.kind, .slice uo c.vars.length uc, .slice po c.args.length pc', .int .i64 c.bound, .slice ro c.rows.length rc] rfl rfl (by simp [Value.oneCell']) (fun j q hj => by rw [fld (heap_alloc_new wc _) j]; simpa using hj) (fun S hS => ⟨_, _, _, _, _, _, rfl, Hcm.out.gr' ((Gr.refl [] wc).alloc _) (by simp) (fun b hlt hb hm => by rcases hS b hm with h | h | h; (have := hb.1; omega); (simp at h; omega); (have := (Hown'.out b h).2; have := hb.1; omega))⟩) (by have := Hkk.out; omega) (by simp; omega) ?_; intro v7 w7 hown7 hg7; have hsl7 := hown7.slice; have Hq7 := hid (hg7.obj (((Gr.refl [] wc).alloc _).obj HB3.out (by simp)) (fun hm => by have := (Hown'.out bm (by simpa using hm)).1; omega)); have HO7 := hid hown7; have HG7 := hid hg7; have fb7 := fld Hq7.out; have fb7F := fldF Hq7.out; obtain ⟨g7, c7, rfl, _, _, _⟩ := hsl7; clear hown7 hg7 fb3 fb3F))
                  have e7 : (m2.cons ++ [c]).length = m2.cons.length + 1 := by simp
                  have HO8 := HO7.out
                  rw [e7] at HO8
                  have hmcs : m2.cons = cs := by rw [Hm2.out]
                  have hmds : m2.doms = ints ds := by rw [Hm2.out]
                  have hG8 : Gr [bm] w7 (w7.setCell ⟨bm, 1, none⟩ (.slice g7 (m2.cons.length + 1) c7)) := Gr.cell1 [bm] w7 ⟨bm, 1, none⟩ _ (by simp)
                  have hs8 := hG8.size
                  have hs7 := HG7.out.size
                  rw [World.size_alloc] at hs7
                  have hcc2 := Hcll.out
                  refine ⟨⟨j + 1, k + 1, cs ++ [c], ⟨ints ds, cs ++ [c]⟩, .slice g7 (m2.cons.length + 1) c7, by have := Hj.out; omega, by go_num, by omega, mapM_take _ cl k Hl.out Hfold2.out (by rw [Hdl.out]; exact Hrc.out), rfl, ⟨?_, ?_, fun h => by simp at h, ⟨B, hB1, by omega, ?_, Hdb.out⟩, ?_⟩⟩, by simp [intOf]; omega⟩
                  · have := block_cells (cur' := #[]) Hq7.out 1 (.slice g7 (m2.cons.length + 1) c7)
                    simpa using this
                  · have ho := Hds2.out.own
                    rw [hmds] at ho
                    refine ho.keepO (T := bm :: (Value.slice co k cc).ownBlock.toList) (((((Gr.refl _ wr).trans Hgx.out.any).alloc _).trans (HG7.out.sub (fun b _ hb => by simp at hb ⊢; exact .inr hb))).trans (hG8.sub (fun b _ hb => by simp at hb ⊢; exact .inl hb))) (fun g hg hm => ?_)
                    have h1 := Hdb.out g hg; have h2 := (Hds2.out.own.ownB hg).1
                    rcases List.mem_cons.1 hm with h | h
                    · omega
                    · have := (Hown'.out g (by simpa using h)).1; omega
                  · show OwnG 5 elConM B _ _ _ (cs ++ [c])
                    rw [← hmcs]
                    exact HO8.gr elConM_ok hG8 (by simp; omega)
                  · exact (((Hds2.out.gr.trans Hgx.out.any).alloc _).step HG7.out (fun i hi => .inr (by have := (Hown'.out i (by simpa using hi)).1; omega))).trans hG8
            · have hnki : ¬ (j : Int) < (ps.length : Int) - 1 := by omega
              have hkl : k = cl.length := by omega
              have hfull : cl.mapM (fun l => rdC l ds.length) = some cs := by have := Hfold2.out; rwa [hkl, List.take_length] at this
              have hdec : decI s = if validM m2 = true ∧ encM m2 = s then some m2 else none := by
                rw [hC.out, Hf2.out, Hm2.out]
                simp only [hfull]
              have hMM : ModM (New (w.heap.size + 1) wr) wr (.agg #[.slice xo n xc, .slice co k cc]) m2 :=
                ⟨_, _, rfl, (Own.numsM Hds2.out.own).gr' (Gr.refl [] _) (by simp) (fun b _ h => ⟨by have := h.1; omega, h.2⟩), HOc.out.consM.gr' (Gr.refl [] _) (by simp) (fun b _ h => ⟨by have := h.1; omega, h.2⟩)⟩
              have Hdec := hid hdec
              have HMV := hid (hMM.mod (S := []) (by simp))
              clear hkl hfull hdec hMM hcl1 hj
              go_wp2_with fail
              refine (ValidModel_c m2 _ wr HMV.out).mono ?_
              rintro e w6 ⟨rfl, hg6⟩
              have hr6 := hg6.obj Hrr2.out (by simp)
              have fr6 := fld hr6; have fr6F := fldF hr6
              have Hr6 := hid hr6; have Hg6 := hid hg6
              have fb6 := fld (hg6.obj HBM.out (by simp))
              clear hr6 hg6 frr frrF fbm ffbm
              cases hvm : validM m2
              · have hC2 : decI s = none := by rw [Hdec.out, if_neg (by rw [hvm]; simp)]
                have Hvm := hid hvm; clear hvm
                go_wp2_with fail
                have h5 := set2 _ _ (.slice none 0 0) (.slice none 0 0) Hr6.out
                generalize ((w6.setCell ⟨w.heap.size, 0, none⟩ (.slice none 0 0)).setCell ⟨w.heap.size, 1, none⟩ (.slice none 0 0)) = WE at h5 ⊢
                obtain ⟨h5, hG⟩ := h5
                have flE := fld h5
                refine bodyPost_ret (v := .tuple #[.agg #[.slice none 0 0, .slice none 0 0], .bool false]) ?_ rfl ?_
                · simp [results, Tryz.results7, go_sem, flE]
                · (try rw [hC2])
                  refine ⟨none, 0, none, 0, zeroMod, rfl, rfl, zeroModM _ _, by simp [leavesN, leavesCs], ?_⟩
                  exact ((Gwr2.out.trans Hg6.out)).step hG (fun i hi => .inr (by simp at hi; omega))
              · have Hvm := hid hvm; clear hvm
                go_wp2_with fail
                refine (EncodeModel_c m2 _ w6 (HMV.out.gr Hg6.out) (HT.out.gr (Gwr2.out.trans Hg6.out))).mono ?_
                rw [if_pos Hvm.out]
                rintro e w7 ⟨rfl, hg7⟩
                have hr7 := hg7.obj Hr6.out (by simp)
                have fr7 := fld hr7; have fr7F := fldF hr7
                have Hr7 := hid hr7; have Hg7 := hid hg7
                have fb7 := fld (hg7.obj (Hg6.out.obj HBM.out (by simp)) (by simp))
                clear hr7 hg7 fr6 fr6F fb6
                by_cases hes : encM m2 = s
                · have hd : decI s = some m2 := by rw [Hdec.out, if_pos ⟨Hvm.out, hes⟩]
                  have b1 := beqL hes
                  have b2 : (encM m2 != s) = false := by unfold bne; rw [b1]; rfl
                  have Hd := hid hd
                  clear hes hd
                  go_wp2_with fail
                  have hsm : m2.Small := modOk_small' (mod_ok Hvm.out)
                  refine (modCopied_l m2 _ w7 ((HMV.out.gr Hg6.out).gr Hg7.out) hsm).mono ?_
                  rintro e w8 ⟨yo, yc, zo, zc, rfl, hmm, hnd, hg8⟩
                  have hr8 := hg8.obj Hr7.out (by simp)
                  have fr8 := fld hr8; have fr8F := fldF hr8
                  have Hr8 := hid hr8; have Hg8 := hid hg8; have Hmm := hid hmm; have Hnd := hid hnd
                  have hs6 := Hg6.out.size; have hs7 := Hg7.out.size; have hsw := Gwr2.out.size
                  clear hr8 hg8 hmm hnd fr7 fr7F fb7
                  go_wp2_with fail
                  have h5 := set2 _ _ (.slice yo m2.doms.length yc) (.slice zo m2.cons.length zc) Hr8.out
                  generalize ((w8.setCell ⟨w.heap.size, 0, none⟩ (.slice yo m2.doms.length yc)).setCell ⟨w.heap.size, 1, none⟩ (.slice zo m2.cons.length zc)) = WE at h5 ⊢
                  obtain ⟨h5, hG⟩ := h5
                  have flE := fld h5
                  have hbl : w.heap.size < wr.heap.size := lt_of_block Hrr2.out
                  have hsE := hG.size
                  refine bodyPost_ret (v := .tuple #[.agg #[.slice yo m2.doms.length yc, .slice zo m2.cons.length zc], .bool true]) ?_ rfl ?_
                  · simp [results, Tryz.results7, go_sem, flE]
                  · rw [Hd.out]
                    obtain ⟨dv, cv, e, n1, n2⟩ := Hmm.out
                    cases e
                    have hnb : ∀ b ∈ [w.heap.size], ¬ New w7.heap.size w8 b := fun b hb hm => by have := hm.1; simp at hb; omega
                    refine ⟨yo, yc, zo, zc, m2, rfl, rfl, ?_, ?_, ((((Gwr2.out.trans Hg6.out).trans Hg7.out).trans Hg8.out)).step hG (fun i hi => .inr (by simp at hi; omega))⟩
                    · exact Hmm.out.gr' hG hnb (fun b _ hm => ⟨by have := hm.1; omega, by have := hm.2; omega⟩)
                    · rw [n2.leaves_gr hG hnb]; exact Hnd.out
                · have hC2 : decI s = none := by rw [Hdec.out, if_neg (by rintro ⟨-, h⟩; exact hes h)]
                  have b1 := bneL hes
                  have b2 : (encM m2 != s) = true := by unfold bne; rw [b1]; rfl
                  clear hes
                  go_wp2_with fail
                  have h5 := set2 _ _ (.slice none 0 0) (.slice none 0 0) Hr7.out
                  generalize ((w7.setCell ⟨w.heap.size, 0, none⟩ (.slice none 0 0)).setCell ⟨w.heap.size, 1, none⟩ (.slice none 0 0)) = WE at h5 ⊢
                  obtain ⟨h5, hG⟩ := h5
                  have flE := fld h5
                  refine bodyPost_ret (v := .tuple #[.agg #[.slice none 0 0, .slice none 0 0], .bool false]) ?_ rfl ?_
                  · simp [results, Tryz.results7, go_sem, flE]
                  · (try rw [hC2])
                    refine ⟨none, 0, none, 0, zeroMod, rfl, rfl, zeroModM _ _, by simp [leavesN, leavesCs], ?_⟩
                    exact (((Gwr2.out.trans Hg6.out).trans Hg7.out)).step hG (fun i hi => .inr (by simp at hi; omega))
        · have hni : ¬ (n : Int) < (ps.length : Int) := by omega
          clear hfin
          go_wp2_with fail
          clear frr frrF fbm ffbm
          go_loopw [6] (fun i wr2 => ∃ (j k : Nat) (cs : List Con) (m2 : Mod) (cv : Value), j = n + k ∧ i = .int .i64 (j : Int) ∧ k ≤ cl.length ∧ (cl.take k).mapM (fun l => rdC l ds.length) = some cs ∧ m2 = ⟨ints ds, cs⟩ ∧ DS wz wr2 bm m2 (.slice xo n xc) cv) (fun i _ => ps.length - (intOf i).toNat)
          case atStart => exact ⟨n, 0, [], m, _, rfl, rfl, Nat.zero_le _, rfl, Hm.out, Hds.out⟩
          case round =>
            obtain ⟨j, k, cs, m2, cv, hj, rfl, hk, hfold, hm2, hds⟩ := hrel
            have Hj := hid hj
            have hsr2 := hds.gr.size
            have hcsl : cs.length = k := by rw [mapM_len _ _ _ hfold, List.length_take]; omega
            have hmc : m2.cons.length = k := by rw [hm2]; exact hcsl
            obtain ⟨B, hB1, hB2, hoc, hdB⟩ := hds.con
            obtain ⟨co, cc, hcv, -, -, -⟩ := hoc.slice
            rw [hmc] at hcv
            subst hcv
            have Hfold2 := hid hfold; have Hds2 := hid hds; have Hm2 := hid hm2; have HOc := hid hoc; have Hmc := hid hmc
            have hrr := hds.gr.obj (Hgz.out.obj Hr1.out (by simp)) (by simp; omega)
            have Hrr2 := hid hrr; have frr := fld hrr; have frrF := fldF hrr
            have hbr := hds.b
            have fbm := fld hbr; have ffbm := fldF hbr
            have HBM := hid hbr
            have gwr : Gr [] w wr := ((Hg0.out.trans Hg1.out).trans Hgz.out).step hds.gr (fun i hi => .inr (by simp at hi; omega))
            have Gwr2 := hid gwr
            have Hdb := hid hdB
            clear hfold hds hm2 hoc hmc hcsl hrr hbr gwr hdB
            have hcl1 := Hcln.out
            by_cases hlt : k < cl.length
            · obtain ⟨l, hl⟩ : ∃ l, cl[k]? = some l := ⟨_, List.getElem?_eq_getElem hlt⟩
              have hlp : ps[j]? = some l := by rw [hj]; exact (Hclx.out k hlt).trans hl
              have hnk : j < ps.length := by omega
              have hnki : (j : Int) < (ps.length : Int) - 1 := by omega
              have hcr : wr.cell? ⟨w.heap.size + 1, j, none⟩ = some (.string ⟨l.toArray⟩) := Hds2.out.gr.cell (HcZ.out j l hlp) (by simp; omega)
              have hll2 := Hpl.out l (List.mem_of_getElem? hlp)
              have Hl := hid hl
              clear hl hlp hcl1 hj
              have hc0 : wr.cell? ⟨bm, 0, none⟩ = some (.slice xo n xc) := fld HBM.out 0
              have HCR := hid hcr; have HC0 := hid hc0
              go_wp2_with fail
              go_cut [9, 10] from 56 to 66 (fun p q wx => ∃ (bx : Nat) (uo : Option Addr) (uc : Nat) (po : Option Addr) (pc' : Nat) (ro : Option Addr) (rc : Nat) (c : Con), p = .pointer (some ⟨bx, 0, none⟩) ∧ q = .bool (rdC l n).isSome ∧ c = (rdC l n).getD zeroCon ∧ wr.heap.size ≤ bx ∧ wx.heap[bx]? = some (.cells #[.int .i64 c.kind, .slice uo c.vars.length uc, .slice po c.args.length pc', .int .i64 c.bound, .slice ro c.rows.length rc] 49 (0, 0)) ∧ ConM (New wr.heap.size wx) wx (.agg #[.int .i64 c.kind, .slice uo c.vars.length uc, .slice po c.args.length pc', .int .i64 c.bound, .slice ro c.rows.length rc]) c ∧ Gr [] wr wx)
              case first =>
                refine wp_region_held_drew (S := (fun W => W.cell? ⟨w.heap.size + 1, j, none⟩ = some (.string ⟨l.toArray⟩) ∧ W.cell? ⟨bm, 0, none⟩ = some (.slice xo n xc))) (by kernel_rfl) ?_ (fun hHeld => ?_)
                · exact ⟨hcr, hc0⟩
                refine wpAnyH_take (i := 0) (v := ?_) rfl (by kernel_rfl) (by kernel_rfl) (by kernel_rfl) (fun _ _ _ h => h) (Or.inl ⟨by rfl, ?_⟩) (by assumption) ?_
                rotate_left
                · intro Wx hSw; (try dsimp only at hSw); obtain ⟨hS1, hS2⟩ := hSw; go_simp; (try with_reducible rfl)
                try simp only [Act.put, List.setIfInBounds_toArray, List.set_cons_zero, List.set_cons_succ, List.getElem_toArray, List.getElem_cons_zero, List.getElem_cons_succ]
                refine wpAnyH_take (i := 1) (v := ?_) rfl (by kernel_rfl) (by kernel_rfl) (by kernel_rfl) (fun _ _ _ h => h) (Or.inl ⟨by rfl, ?_⟩) (by assumption) ?_
                rotate_left
                · intro Wx hSw; (try dsimp only at hSw); obtain ⟨hS1, hS2⟩ := hSw; go_simp; (try with_reducible rfl)
                try simp only [Act.put, List.setIfInBounds_toArray, List.set_cons_zero, List.set_cons_succ, List.getElem_toArray, List.getElem_cons_zero, List.getElem_cons_succ]
                refine wpAnyH_take (i := 2) (v := ?_) rfl (by kernel_rfl) (by kernel_rfl) (by kernel_rfl) (fun _ _ _ h => h) (Or.inl ⟨by rfl, ?_⟩) (by assumption) ?_
                rotate_left
                · intro Wx hSw; (try dsimp only at hSw); obtain ⟨hS1, hS2⟩ := hSw; go_simp; (try with_reducible rfl)
                try simp only [Act.put, List.setIfInBounds_toArray, List.set_cons_zero, List.set_cons_succ, List.getElem_toArray, List.getElem_cons_zero, List.getElem_cons_succ]
                refine wpAnyH_take (i := 3) (v := ?_) rfl (by kernel_rfl) (by kernel_rfl) (by kernel_rfl) (fun _ _ _ h => h) (Or.inl ⟨by rfl, ?_⟩) (by assumption) ?_
                rotate_left
                · intro Wx hSw; (try dsimp only at hSw); obtain ⟨hS1, hS2⟩ := hSw; go_simp; (try with_reducible rfl)
                try simp only [Act.put, List.setIfInBounds_toArray, List.set_cons_zero, List.set_cons_succ, List.getElem_toArray, List.getElem_cons_zero, List.getElem_cons_succ]
                refine wpAnyH_take (i := 4) (v := ?_) rfl (by kernel_rfl) (by kernel_rfl) (by kernel_rfl) (fun _ _ _ h => h) (Or.inl ⟨by rfl, ?_⟩) (by assumption) ?_
                rotate_left
                · intro Wx hSw; (try dsimp only at hSw); obtain ⟨hS1, hS2⟩ := hSw; go_simp; (try with_reducible rfl)
                try simp only [Act.put, List.setIfInBounds_toArray, List.set_cons_zero, List.set_cons_succ, List.getElem_toArray, List.getElem_cons_zero, List.getElem_cons_succ]
                refine wpAnyH_take (i := 5) (v := ?_) rfl (by kernel_rfl) (by kernel_rfl) (by kernel_rfl) (fun _ _ _ h => h) (Or.inl ⟨by rfl, ?_⟩) (by assumption) ?_
                rotate_left
                · intro Wx hSw; (try dsimp only at hSw); obtain ⟨hS1, hS2⟩ := hSw; go_simp; (try with_reducible rfl)
                try simp only [Act.put, List.setIfInBounds_toArray, List.set_cons_zero, List.set_cons_succ, List.getElem_toArray, List.getElem_cons_zero, List.getElem_cons_succ]
                refine wpAnyH_take (i := 6) (v := ?_) rfl (by kernel_rfl) (by kernel_rfl) (by kernel_rfl) (fun _ _ _ h => h) (Or.inl ⟨by rfl, ?_⟩) (by assumption) ?_
                rotate_left
                · intro Wx hSw; (try dsimp only at hSw); obtain ⟨hS1, hS2⟩ := hSw; go_simp; (try with_reducible rfl)
                try simp only [Act.put, List.setIfInBounds_toArray, List.set_cons_zero, List.set_cons_succ, List.getElem_toArray, List.getElem_cons_zero, List.getElem_cons_succ]
                refine wpAnyH_ready (rs := [7, 11]) (by kernel_rfl) (by simp) ?_
                refine AllReadyH.cons rfl (fun Kx hKx => ?_) (AllReadyH.cons rfl (fun Kx hKx => ?_) AllReadyH.nil)
                ·
                  go_simp; refine (readConstraint_c l n _ hll2 ((HT.out.gr Gwr2.out).gr (((Gr.refl [] wr).drew)))).mono ?_; rintro e wa ⟨uo, uc, po, pc', ro, rc, c, rfl, hcc, hcm, hga⟩; have Hcc := hid hcc; clear hcc; have hgw : Gr [] wr wa := Gr.trans (((Gr.refl [] wr).drew)) hga; have Hcm := hid hcm; have hsa : (wr.drew).heap.size ≤ wa.heap.size := hga.size; (try dsimp only)
                  refine hKx.out _ _ ?_ (fun hHeld => ?_)
                  · (try dsimp only); (exact ⟨hgw.cell HCR.out (by simp), hgw.cell HC0.out (by simp)⟩)
                  clear hKx Kx
                  try simp only [Act.put, List.setIfInBounds_toArray, List.set_cons_zero, List.set_cons_succ, List.getElem_toArray, List.getElem_cons_zero, List.getElem_cons_succ]
                  refine wpAnyH_take (i := 8) (v := ?_) rfl (by kernel_rfl) (by kernel_rfl) (by kernel_rfl) (fun _ _ _ h => h) (Or.inl ⟨by rfl, ?_⟩) (by assumption) ?_
                  rotate_left
                  · intro Wx hSw; (try dsimp only at hSw); go_simp; (try with_reducible rfl)
                  try simp only [Act.put, List.setIfInBounds_toArray, List.set_cons_zero, List.set_cons_succ, List.getElem_toArray, List.getElem_cons_zero, List.getElem_cons_succ]
                  refine wpAnyH_take (i := 9) (v := ?_) rfl (by kernel_rfl) (by kernel_rfl) (by kernel_rfl) (fun _ _ _ h => h) (Or.inl ⟨by rfl, ?_⟩) (by assumption) ?_
                  rotate_left
                  · intro Wx hSw; (try dsimp only at hSw); go_simp; (try with_reducible rfl)
                  try simp only [Act.put, List.setIfInBounds_toArray, List.set_cons_zero, List.set_cons_succ, List.getElem_toArray, List.getElem_cons_zero, List.getElem_cons_succ]
                  refine wpAnyH_take (i := 10) (v := ?_) rfl (by kernel_rfl) (by kernel_rfl) (by kernel_rfl) (fun _ _ _ h => h) (Or.inl ⟨by rfl, ?_⟩) (by assumption) ?_
                  rotate_left
                  · intro Wx hSw; (try dsimp only at hSw); go_simp; (try with_reducible rfl)
                  try simp only [Act.put, List.setIfInBounds_toArray, List.set_cons_zero, List.set_cons_succ, List.getElem_toArray, List.getElem_cons_zero, List.getElem_cons_succ]
                  refine wpAnyH_ready (rs := [11]) (by kernel_rfl) (by simp) ?_
                  refine AllReadyH.cons rfl (fun Kx hKx => ?_) AllReadyH.nil
                  go_simp
                  refine hKx.out _ _ ?_ (fun hHeld => ?_)
                  · (try dsimp only); (exact ⟨(hgw.alloc _).cell HCR.out (by simp), (hgw.alloc _).cell HC0.out (by simp)⟩)
                  clear hKx Kx
                  try simp only [Act.put, List.setIfInBounds_toArray, List.set_cons_zero, List.set_cons_succ, List.getElem_toArray, List.getElem_cons_zero, List.getElem_cons_succ]
                  refine wpAnyH_ready (rs := [12]) (by kernel_rfl) (by simp) ?_
                  refine AllReadyH.cons rfl (fun Kx hKx => ?_) AllReadyH.nil
                  go_simp
                  refine hKx.out _ _ ?_ (fun hHeld => ?_)
                  · (try dsimp only); (exact ⟨(hgw.alloc _).cell HCR.out (by simp), (hgw.alloc _).cell HC0.out (by simp)⟩)
                  clear hKx Kx
                  try simp only [Act.put, List.setIfInBounds_toArray, List.set_cons_zero, List.set_cons_succ, List.getElem_toArray, List.getElem_cons_zero, List.getElem_cons_succ]
                  refine wpAnyH_take (i := 13) (v := ?_) rfl (by kernel_rfl) (by kernel_rfl) (by kernel_rfl) (fun _ _ _ h => h) (Or.inl ⟨by rfl, ?_⟩) (by assumption) ?_
                  rotate_left
                  · intro Wx hSw; (try dsimp only at hSw); go_simp; (try with_reducible rfl)
                  try simp only [Act.put, List.setIfInBounds_toArray, List.set_cons_zero, List.set_cons_succ, List.getElem_toArray, List.getElem_cons_zero, List.getElem_cons_succ]
                  refine wpAnyH_done (by kernel_rfl) ?_ _
                  go_wp2_with fail
                  go_meet
                  refine ⟨wa.heap.size, uo, uc, po, pc', ro, rc, c, rfl, rfl, Hcc.out, hgw.size, ?_, ?_, hgw.alloc _⟩
                  · exact heap_alloc_new _ _
                  · exact Hcm.out.gr' ((Gr.refl [] wa).alloc _) (by simp) (fun b _ h => ⟨h.1, by have := h.2; simp; omega⟩)
                ·
                  go_simp
                  refine hKx.out _ _ ?_ (fun hHeld => ?_)
                  · (try dsimp only); (exact ⟨(((Gr.refl [] wr).drew).alloc _).cell HCR.out (by simp), (((Gr.refl [] wr).drew).alloc _).cell HC0.out (by simp)⟩)
                  clear hKx Kx
                  try simp only [Act.put, List.setIfInBounds_toArray, List.set_cons_zero, List.set_cons_succ, List.getElem_toArray, List.getElem_cons_zero, List.getElem_cons_succ]
                  refine wpAnyH_ready (rs := [7]) (by kernel_rfl) (by simp) ?_
                  refine AllReadyH.cons rfl (fun Kx hKx => ?_) AllReadyH.nil
                  go_simp; refine (readConstraint_c l n _ hll2 ((HT.out.gr Gwr2.out).gr (((Gr.refl [] wr).drew).alloc (.cells #[.int .i64 0, .slice none 0 0, .slice none 0 0, .int .i64 0, .slice none 0 0] 49)))).mono ?_; rintro e wa ⟨uo, uc, po, pc', ro, rc, c, rfl, hcc, hcm, hga⟩; have Hcc := hid hcc; clear hcc; have hgw : Gr [] wr wa := Gr.trans (((Gr.refl [] wr).drew).alloc (.cells #[.int .i64 0, .slice none 0 0, .slice none 0 0, .int .i64 0, .slice none 0 0] 49)) hga; have Hcm := hid hcm; have hsa : (wr.drew.alloc (.cells #[.int .i64 0, .slice none 0 0, .slice none 0 0, .int .i64 0, .slice none 0 0] 49)).heap.size ≤ wa.heap.size := hga.size; (try dsimp only)
                  refine hKx.out _ _ ?_ (fun hHeld => ?_)
                  · (try dsimp only); (exact ⟨hgw.cell HCR.out (by simp), hgw.cell HC0.out (by simp)⟩)
                  clear hKx Kx
                  try simp only [Act.put, List.setIfInBounds_toArray, List.set_cons_zero, List.set_cons_succ, List.getElem_toArray, List.getElem_cons_zero, List.getElem_cons_succ]
                  have hB : wa.heap[wr.heap.size]? = some (.cells #[.int .i64 0, .slice none 0 0, .slice none 0 0, .int .i64 0, .slice none 0 0] 49 (0, 0)) := hga.obj (heap_alloc_new wr.drew _) (by simp)
                  refine wpAnyH_take (i := 8) (v := ?_) rfl (by kernel_rfl) (by kernel_rfl) (by kernel_rfl) (fun _ _ _ h => h) (Or.inl ⟨by rfl, ?_⟩) (by assumption) ?_
                  rotate_left
                  · intro Wx hSw; (try dsimp only at hSw); go_simp; (try with_reducible rfl)
                  try simp only [Act.put, List.setIfInBounds_toArray, List.set_cons_zero, List.set_cons_succ, List.getElem_toArray, List.getElem_cons_zero, List.getElem_cons_succ]
                  refine wpAnyH_take (i := 9) (v := ?_) rfl (by kernel_rfl) (by kernel_rfl) (by kernel_rfl) (fun _ _ _ h => h) (Or.inl ⟨by rfl, ?_⟩) (by assumption) ?_
                  rotate_left
                  · intro Wx hSw; (try dsimp only at hSw); go_simp; (try with_reducible rfl)
                  try simp only [Act.put, List.setIfInBounds_toArray, List.set_cons_zero, List.set_cons_succ, List.getElem_toArray, List.getElem_cons_zero, List.getElem_cons_succ]
                  refine wpAnyH_take (i := 10) (v := ?_) rfl (by kernel_rfl) (by kernel_rfl) (by kernel_rfl) (fun _ _ _ h => h) (Or.inl ⟨by rfl, ?_⟩) (by assumption) ?_
                  rotate_left
                  · intro Wx hSw; (try dsimp only at hSw); go_simp; (try with_reducible rfl)
                  try simp only [Act.put, List.setIfInBounds_toArray, List.set_cons_zero, List.set_cons_succ, List.getElem_toArray, List.getElem_cons_zero, List.getElem_cons_succ]
                  refine wpAnyH_ready (rs := [12]) (by kernel_rfl) (by simp) ?_
                  refine AllReadyH.cons rfl (fun Kx hKx => ?_) AllReadyH.nil
                  have fB := fld hB; have fBF := fldF hB
                  go_simp
                  have h5 := sets5 _ _ _ _ _ (.int .i64 c.kind) (.slice uo c.vars.length uc) (.slice po c.args.length pc') (.int .i64 c.bound) (.slice ro c.rows.length rc) hB
                  have hG := setsG (w := wa) wr.heap.size (.int .i64 c.kind) (.slice uo c.vars.length uc) (.slice po c.args.length pc') (.int .i64 c.bound) (.slice ro c.rows.length rc)
                  generalize (((((wa.setCell ⟨wr.heap.size, 0, none⟩ (.int .i64 c.kind)).setCell ⟨wr.heap.size, 1, none⟩ (.slice uo c.vars.length uc)).setCell ⟨wr.heap.size, 2, none⟩ (.slice po c.args.length pc')).setCell ⟨wr.heap.size, 3, none⟩ (.int .i64 c.bound)).setCell ⟨wr.heap.size, 4, none⟩ (.slice ro c.rows.length rc)) = WE at h5 hG ⊢
                  have hGE : Gr [] wr WE := hgw.step hG (fun i hi => .inr (by simp at hi; omega))
                  have hsE := hG.size
                  refine hKx.out _ _ ?_ (fun hHeld => ?_)
                  · (try dsimp only); (exact ⟨hGE.cell HCR.out (by simp), hGE.cell HC0.out (by simp)⟩)
                  clear hKx Kx
                  try simp only [Act.put, List.setIfInBounds_toArray, List.set_cons_zero, List.set_cons_succ, List.getElem_toArray, List.getElem_cons_zero, List.getElem_cons_succ]
                  refine wpAnyH_take (i := 13) (v := ?_) rfl (by kernel_rfl) (by kernel_rfl) (by kernel_rfl) (fun _ _ _ h => h) (Or.inl ⟨by rfl, ?_⟩) (by assumption) ?_
                  rotate_left
                  · intro Wx hSw; (try dsimp only at hSw); go_simp; (try with_reducible rfl)
                  try simp only [Act.put, List.setIfInBounds_toArray, List.set_cons_zero, List.set_cons_succ, List.getElem_toArray, List.getElem_cons_zero, List.getElem_cons_succ]
                  refine wpAnyH_done (by kernel_rfl) ?_ _
                  go_wp2_with fail
                  go_meet
                  refine ⟨wr.heap.size, uo, uc, po, pc', ro, rc, c, rfl, rfl, Hcc.out, Nat.le_refl _, h5, ?_, hGE⟩
                  exact Hcm.out.gr' hG (fun b hb hm => by have := hm.1; simp at hb this; omega) (fun b _ h => ⟨by have := h.1; simp at this; omega, by have := h.2; omega⟩)
              case rest =>
                obtain ⟨bx, uo, uc, po, pc', ro, rc, c, rfl, rfl, hcc, hbx, hbc, hcm, hgx⟩ := hcut
                have hrr3 := hgx.obj Hrr2.out (by simp)
                have frr3 := fld hrr3; have frr3F := fldF hrr3
                have Hrr3 := hid hrr3; have Hgx := hid hgx; have Hcm := hid hcm; have Hcc := hid hcc; have Hbc := hid hbc
                have hb3 := hgx.obj HBM.out (by simp)
                have fb3 := fld hb3; have fb3F := fldF hb3; have fcx := fld hbc
                have HB3 := hid hb3
                have hsx := hgx.size
                clear hrr3 hgx hcm hcc hbc hb3 frr frrF fbm ffbm hc0 hcr
                cases hrc : rdC l n with
                | none =>
                  have hC2 : decI s = none := by
                    rw [hC.out, Hf2.out]
                    have e := mapM_fail (fun l => rdC l ds.length) cl k Hl.out (by rw [Hdl.out]; exact hrc)
                    simp only [e]
                  have Hrc := hid hrc; clear hrc
                  go_wp2_with fail
                  have h5 := set2 _ _ (.slice none 0 0) (.slice none 0 0) Hrr3.out
                  generalize ((wc.setCell ⟨w.heap.size, 0, none⟩ (.slice none 0 0)).setCell ⟨w.heap.size, 1, none⟩ (.slice none 0 0)) = WE at h5 ⊢
                  obtain ⟨h5, hG⟩ := h5
                  have flE := fld h5
                  refine bodyPost_ret (v := .tuple #[.agg #[.slice none 0 0, .slice none 0 0], .bool false]) ?_ rfl ?_
                  · simp [results, Tryz.results7, go_sem, flE]
                  · (try rw [hC2])
                    refine ⟨none, 0, none, 0, zeroMod, rfl, rfl, zeroModM _ _, by simp [leavesN, leavesCs], ?_⟩
                    exact ((Gwr2.out.trans Hgx.out)).step hG (fun i hi => .inr (by simp at hi; omega))
                | some c' =>
                  rw [hrc] at Hcc
                  have hcc' : c = c' := Hcc.out
                  subst hcc'
                  have Hrc := hid hrc; clear hrc
                  have HO5 := hid (HOc.out.gr elConM_ok Hgx.out (by simp))
                  have Hown' := hid (fun b hb => HOc.out.own (b := b) hb)
                  have hkk : m2.cons.length ≤ 100 := by have := Hmc.out; have := Hcll.out; omega
                  have Hkk := hid hkk; clear hkk
                  go_wp2_with (at_builtin; go_loud (refine wp_appH rfl _ _ 25 rfl 5 elConM elConM_ok B 49 (.agg #[.int .i64 0, .slice none 0 0, .slice none 0 0, .int .i64 0, .slice none 0 0]) 88 infoC rfl (by omega) (by omega) Tryz.underlying25 (.slice co k cc) m2.cons rfl (HO5.out.gr elConM_ok ((Gr.refl [] wc).alloc _) (by simp)) wc.heap.size 1 c [.int .i64 c.kind, .slice uo c.vars.length uc, .slice po c.args.length pc', .int .i64 c.bound, .slice ro c.rows.length rc] rfl rfl (by simp [Value.oneCell']) (fun j q hj => by rw [fld (heap_alloc_new wc _) j]; simpa using hj) (fun S hS => ⟨_, _, _, _, _, _, rfl, Hcm.out.gr' ((Gr.refl [] wc).alloc _) (by simp) (fun b hlt hb hm => by rcases hS b hm with h | h | h; (have := hb.1; omega); (simp at h; omega); (have := (Hown'.out b h).2; have := hb.1; omega))⟩) (by have := Hkk.out; omega) (by simp; omega) ?_; intro v7 w7 hown7 hg7; have hsl7 := hown7.slice; have Hq7 := hid (hg7.obj (((Gr.refl [] wc).alloc _).obj HB3.out (by simp)) (fun hm => by have := (Hown'.out bm (by simpa using hm)).1; omega)); have HO7 := hid hown7; have HG7 := hid hg7; have fb7 := fld Hq7.out; have fb7F := fldF Hq7.out; obtain ⟨g7, c7, rfl, _, _, _⟩ := hsl7; clear hown7 hg7 fb3 fb3F))
                  have e7 : (m2.cons ++ [c]).length = m2.cons.length + 1 := by simp
                  have HO8 := HO7.out
                  rw [e7] at HO8
                  have hmcs : m2.cons = cs := by rw [Hm2.out]
                  have hmds : m2.doms = ints ds := by rw [Hm2.out]
                  have hG8 : Gr [bm] w7 (w7.setCell ⟨bm, 1, none⟩ (.slice g7 (m2.cons.length + 1) c7)) := Gr.cell1 [bm] w7 ⟨bm, 1, none⟩ _ (by simp)
                  have hs8 := hG8.size
                  have hs7 := HG7.out.size
                  rw [World.size_alloc] at hs7
                  have hcc2 := Hcll.out
                  refine ⟨⟨j + 1, k + 1, cs ++ [c], ⟨ints ds, cs ++ [c]⟩, .slice g7 (m2.cons.length + 1) c7, by have := Hj.out; omega, by go_num, by omega, mapM_take _ cl k Hl.out Hfold2.out (by rw [Hdl.out]; exact Hrc.out), rfl, ⟨?_, ?_, fun h => by simp at h, ⟨B, hB1, by omega, ?_, Hdb.out⟩, ?_⟩⟩, by simp [intOf]; omega⟩
                  · have := block_cells (cur' := #[]) Hq7.out 1 (.slice g7 (m2.cons.length + 1) c7)
                    simpa using this
                  · have ho := Hds2.out.own
                    rw [hmds] at ho
                    refine ho.keepO (T := bm :: (Value.slice co k cc).ownBlock.toList) (((((Gr.refl _ wr).trans Hgx.out.any).alloc _).trans (HG7.out.sub (fun b _ hb => by simp at hb ⊢; exact .inr hb))).trans (hG8.sub (fun b _ hb => by simp at hb ⊢; exact .inl hb))) (fun g hg hm => ?_)
                    have h1 := Hdb.out g hg; have h2 := (Hds2.out.own.ownB hg).1
                    rcases List.mem_cons.1 hm with h | h
                    · omega
                    · have := (Hown'.out g (by simpa using h)).1; omega
                  · show OwnG 5 elConM B _ _ _ (cs ++ [c])
                    rw [← hmcs]
                    exact HO8.gr elConM_ok hG8 (by simp; omega)
                  · exact (((Hds2.out.gr.trans Hgx.out.any).alloc _).step HG7.out (fun i hi => .inr (by have := (Hown'.out i (by simpa using hi)).1; omega))).trans hG8
            · have hnki : ¬ (j : Int) < (ps.length : Int) - 1 := by omega
              have hkl : k = cl.length := by omega
              have hfull : cl.mapM (fun l => rdC l ds.length) = some cs := by have := Hfold2.out; rwa [hkl, List.take_length] at this
              have hdec : decI s = if validM m2 = true ∧ encM m2 = s then some m2 else none := by
                rw [hC.out, Hf2.out, Hm2.out]
                simp only [hfull]
              have hMM : ModM (New (w.heap.size + 1) wr) wr (.agg #[.slice xo n xc, .slice co k cc]) m2 :=
                ⟨_, _, rfl, (Own.numsM Hds2.out.own).gr' (Gr.refl [] _) (by simp) (fun b _ h => ⟨by have := h.1; omega, h.2⟩), HOc.out.consM.gr' (Gr.refl [] _) (by simp) (fun b _ h => ⟨by have := h.1; omega, h.2⟩)⟩
              have Hdec := hid hdec
              have HMV := hid (hMM.mod (S := []) (by simp))
              clear hkl hfull hdec hMM hcl1 hj
              go_wp2_with fail
              refine (ValidModel_c m2 _ wr HMV.out).mono ?_
              rintro e w6 ⟨rfl, hg6⟩
              have hr6 := hg6.obj Hrr2.out (by simp)
              have fr6 := fld hr6; have fr6F := fldF hr6
              have Hr6 := hid hr6; have Hg6 := hid hg6
              have fb6 := fld (hg6.obj HBM.out (by simp))
              clear hr6 hg6 frr frrF fbm ffbm
              cases hvm : validM m2
              · have hC2 : decI s = none := by rw [Hdec.out, if_neg (by rw [hvm]; simp)]
                have Hvm := hid hvm; clear hvm
                go_wp2_with fail
                have h5 := set2 _ _ (.slice none 0 0) (.slice none 0 0) Hr6.out
                generalize ((w6.setCell ⟨w.heap.size, 0, none⟩ (.slice none 0 0)).setCell ⟨w.heap.size, 1, none⟩ (.slice none 0 0)) = WE at h5 ⊢
                obtain ⟨h5, hG⟩ := h5
                have flE := fld h5
                refine bodyPost_ret (v := .tuple #[.agg #[.slice none 0 0, .slice none 0 0], .bool false]) ?_ rfl ?_
                · simp [results, Tryz.results7, go_sem, flE]
                · (try rw [hC2])
                  refine ⟨none, 0, none, 0, zeroMod, rfl, rfl, zeroModM _ _, by simp [leavesN, leavesCs], ?_⟩
                  exact ((Gwr2.out.trans Hg6.out)).step hG (fun i hi => .inr (by simp at hi; omega))
              · have Hvm := hid hvm; clear hvm
                go_wp2_with fail
                refine (EncodeModel_c m2 _ w6 (HMV.out.gr Hg6.out) (HT.out.gr (Gwr2.out.trans Hg6.out))).mono ?_
                rw [if_pos Hvm.out]
                rintro e w7 ⟨rfl, hg7⟩
                have hr7 := hg7.obj Hr6.out (by simp)
                have fr7 := fld hr7; have fr7F := fldF hr7
                have Hr7 := hid hr7; have Hg7 := hid hg7
                have fb7 := fld (hg7.obj (Hg6.out.obj HBM.out (by simp)) (by simp))
                clear hr7 hg7 fr6 fr6F fb6
                by_cases hes : encM m2 = s
                · have hd : decI s = some m2 := by rw [Hdec.out, if_pos ⟨Hvm.out, hes⟩]
                  have b1 := beqL hes
                  have b2 : (encM m2 != s) = false := by unfold bne; rw [b1]; rfl
                  have Hd := hid hd
                  clear hes hd
                  go_wp2_with fail
                  have hsm : m2.Small := modOk_small' (mod_ok Hvm.out)
                  refine (modCopied_l m2 _ w7 ((HMV.out.gr Hg6.out).gr Hg7.out) hsm).mono ?_
                  rintro e w8 ⟨yo, yc, zo, zc, rfl, hmm, hnd, hg8⟩
                  have hr8 := hg8.obj Hr7.out (by simp)
                  have fr8 := fld hr8; have fr8F := fldF hr8
                  have Hr8 := hid hr8; have Hg8 := hid hg8; have Hmm := hid hmm; have Hnd := hid hnd
                  have hs6 := Hg6.out.size; have hs7 := Hg7.out.size; have hsw := Gwr2.out.size
                  clear hr8 hg8 hmm hnd fr7 fr7F fb7
                  go_wp2_with fail
                  have h5 := set2 _ _ (.slice yo m2.doms.length yc) (.slice zo m2.cons.length zc) Hr8.out
                  generalize ((w8.setCell ⟨w.heap.size, 0, none⟩ (.slice yo m2.doms.length yc)).setCell ⟨w.heap.size, 1, none⟩ (.slice zo m2.cons.length zc)) = WE at h5 ⊢
                  obtain ⟨h5, hG⟩ := h5
                  have flE := fld h5
                  have hbl : w.heap.size < wr.heap.size := lt_of_block Hrr2.out
                  have hsE := hG.size
                  refine bodyPost_ret (v := .tuple #[.agg #[.slice yo m2.doms.length yc, .slice zo m2.cons.length zc], .bool true]) ?_ rfl ?_
                  · simp [results, Tryz.results7, go_sem, flE]
                  · rw [Hd.out]
                    obtain ⟨dv, cv, e, n1, n2⟩ := Hmm.out
                    cases e
                    have hnb : ∀ b ∈ [w.heap.size], ¬ New w7.heap.size w8 b := fun b hb hm => by have := hm.1; simp at hb; omega
                    refine ⟨yo, yc, zo, zc, m2, rfl, rfl, ?_, ?_, ((((Gwr2.out.trans Hg6.out).trans Hg7.out).trans Hg8.out)).step hG (fun i hi => .inr (by simp at hi; omega))⟩
                    · exact Hmm.out.gr' hG hnb (fun b _ hm => ⟨by have := hm.1; omega, by have := hm.2; omega⟩)
                    · rw [n2.leaves_gr hG hnb]; exact Hnd.out
                · have hC2 : decI s = none := by rw [Hdec.out, if_neg (by rintro ⟨-, h⟩; exact hes h)]
                  have b1 := bneL hes
                  have b2 : (encM m2 != s) = true := by unfold bne; rw [b1]; rfl
                  clear hes
                  go_wp2_with fail
                  have h5 := set2 _ _ (.slice none 0 0) (.slice none 0 0) Hr7.out
                  generalize ((w7.setCell ⟨w.heap.size, 0, none⟩ (.slice none 0 0)).setCell ⟨w.heap.size, 1, none⟩ (.slice none 0 0)) = WE at h5 ⊢
                  obtain ⟨h5, hG⟩ := h5
                  have flE := fld h5
                  refine bodyPost_ret (v := .tuple #[.agg #[.slice none 0 0, .slice none 0 0], .bool false]) ?_ rfl ?_
                  · simp [results, Tryz.results7, go_sem, flE]
                  · (try rw [hC2])
                    refine ⟨none, 0, none, 0, zeroMod, rfl, rfl, zeroModM _ _, by simp [leavesN, leavesCs], ?_⟩
                    exact (((Gwr2.out.trans Hg6.out).trans Hg7.out)).step hG (fun i hi => .inr (by simp at hi; omega))
end Go.Proofs.YtmonhpoogfdpoaaGreatDoor
