/-
  Walks of the exact laws: marks upon a model.
-/
import Derived.Test.YtjmjjdgbkibdaaaGreatEF
set_option linter.unusedVariables false
namespace Go.Proofs.YtjmjjdgbkibdaaaGreat
open Go.RowKit

def mkC (c : Con) : Nat := 2 + c.vars.length + c.args.length + mkR c.rows
def mkCs (cs : List Con) : Nat := (cs.map mkC).sum
def mkMo (m : Mod) : Nat := m.doms.length + mkCs m.cons
theorem mk_le {m : Mod} (h : szMo m ≤ 1048576) : mkMo m ≤ 2097152 := by
  have h1 : mkCs m.cons ≤ 2 * m.cons.length + (m.cons.map szC).sum := by
    unfold mkCs
    generalize m.cons = cs
    induction cs with
    | nil => simp
    | cons c r ih =>
      have : mkC c ≤ 2 + szC c := by unfold mkC szC szR mkR; omega
      simp only [List.map_cons, List.sum_cons, List.length_cons]; omega
  unfold szMo szCs at h
  unfold mkMo; omega

theorem ConsM.seg {M M' : Nat → Prop} {w w' : World} {b o n cap : Nat} {cs : List Con} (h : ConsM M w (.slice (some ⟨b, o, none⟩) n cap) cs) (k : Mk M' w w') {i : Nat} {c : Con} (hi : cs[i]? = some c) :
    ∃ kd bd vo vc xo xc ro rc vs ars rs, M b ∧ (w'.cell? ⟨b, o + i * 5, none⟩ = some (.int .i64 kd) ∧ w'.cell? ⟨b, o + i * 5 + 1, none⟩ = some (.slice vo c.vars.length vc) ∧ w'.cell? ⟨b, o + i * 5 + 2, none⟩ = some (.slice xo c.args.length xc) ∧
      w'.cell? ⟨b, o + i * 5 + 3, none⟩ = some (.int .i64 bd) ∧ w'.cell? ⟨b, o + i * 5 + 4, none⟩ = some (.slice ro c.rows.length rc)) ∧ (∀ j, w'.frozen? ⟨b, j, none⟩ = false) ∧
      (vs.length = c.vars.length ∧ ars.length = c.args.length ∧ mkR rs = mkR c.rows) ∧
      NumsM (but M b) w' (.slice vo c.vars.length vc) vs ∧ NumsM (but M b) w' (.slice xo c.args.length xc) ars ∧ RowsM (but M b) w' (.slice ro c.rows.length rc) rs := by
  obtain ⟨b', o', vv, av, rv, e, hm, ⟨c0, c1, c2, c3, c4⟩, hf, n1, n2, n3⟩ := h.at hi
  simp only [Option.some.injEq, Addr.mk.injEq] at e
  obtain ⟨rfl, rfl, _⟩ := e
  obtain ⟨vo, vc, rfl, _⟩ := id n1
  obtain ⟨xo, xc, rfl, _⟩ := id n2
  obtain ⟨ro, rc, rfl, _⟩ := id n3
  obtain ⟨kd, hkd⟩ := k.int _ _ c0
  obtain ⟨bd, hbd⟩ := k.int _ _ c3
  obtain ⟨vs, l1, m1⟩ := n1.mk k
  obtain ⟨ars, l2, m2⟩ := n2.mk k
  obtain ⟨rs, l3, m3⟩ := n3.mk k
  exact ⟨kd, bd, vo, vc, xo, xc, ro, rc, vs, ars, rs, hm, ⟨hkd, k.same _ _ c1 n1.form, k.same _ _ c2 n2.form, hbd, k.same _ _ c4 n3.form⟩,
    fun j => (k.frozen ⟨b, j, none⟩ (show b < w.heap.size from World.block_lt_of_cell? w ⟨b, o + i * 5, none⟩ c0)).trans (hf j), ⟨l1, l2, by unfold mkR; rw [l3]⟩, m1, m2, m3⟩

set_option maxRecDepth 100000 in
theorem markConstraintS_c (M : Nat → Prop) (cs : List Con) (k : Int) (v : Value) (w : World) (hv : ConsM M w v cs) (hk : 0 ≤ k ∧ k ≤ 10000000) (hl : mkCs cs ≤ 10000000) :
    Calls Tryz.prog 81 #[v, .int .i64 k] w fun e w' => e = .returned (.int .i64 (k + mkCs cs)) ∧ Mk M w w' := by
  have Hv := hid hv
  obtain ⟨ao, cap, rfl, ⟨h1, h2, _⟩, _⟩ := hv
  go_enter Tryz.func81, Tryz.ntmps81
  go_wp2_with fail
  go_loopw [1, 5] (fun kv i wr => ∃ (n : Nat) (q : Nat), n ≤ cs.length ∧ i = .int .i64 n ∧ kv = .int .i64 (k + q) ∧ q = ((cs.take n).map mkC).sum ∧ Mk M w wr) (fun _ i _ => cs.length - (intOf i).toNat)
  case atStart => exact ⟨0, 0, Nat.zero_le _, rfl, by simp, by simp, Mk.refl _ _⟩
  case round =>
    obtain ⟨n, q, hn, rfl, rfl, hq, hg⟩ := hrel
    have hq2 : q ≤ 10000000 := by have := sum_take_le mkC cs n; unfold mkCs at hl; omega
    have Hq := hid hq; clear hq
    by_cases hlt : n < cs.length
    · obtain ⟨c, hc⟩ := get_some hlt
      have hst := sum_take mkC hc
      have hsl := sum_take_le mkC cs (n + 1)
      have hcl : mkC c ≤ 10000000 := by unfold mkCs at hl; omega
      obtain ⟨b, o, _, _, _, rfl, _⟩ := Hv.out.at hc
      obtain ⟨kd, bd, vo, vc, xo, xc, ro, rc, vs, ars, rs, hm, ⟨c0, c1, c2, c3, c4⟩, hf, ⟨l1, l2, l3⟩, n1, n2, n3⟩ := Hv.out.seg hg hc
      have Hg := hid hg; have Hc := hid hc; have Hst := hid hst; have Hcl := hid hcl
      have hmk1 := hg.set (y := k + q) hm c0
      have hs1 : Mk M wr (wr.setCell ⟨b, o + n * 5, none⟩ (.int .i64 (k + q))) := (Mk.refl M wr).set hm c0
      have hd1 : (wr.setCell ⟨b, o + n * 5, none⟩ (.int .i64 (k + q))).cell? ⟨b, o + n * 5 + 1, none⟩ = some (.slice vo c.vars.length vc) := hs1.same _ _ c1 (by intro x h; cases h)
      obtain ⟨vs1, l1', m1⟩ := n1.mk hs1
      have Hm1 := hid m1; have Hmk1 := hid hmk1; have L1 := hid (l1'.trans l1)
      have hvl : c.vars.length ≤ 10000000 := by unfold mkC at hcl; omega
      have hm' := hid hm
      clear hg hc hst hsl n1 n2 n3 m1 hmk1 hs1 l1 l2 l3 l1' hm c1 c2 c3 c4
      go_wp2_with fail
      have hcall := markIntS_c (but M b) vs1 (k + q + 1) _ _ Hm1.out (by omega) (by rw [L1.out]; omega)
      rw [L1.out] at hcall
      (with_reducible refine hcall.mono ?_)
      clear hcall
      rintro e w2 ⟨rfl, _, hmk2⟩
      have hmk2 := Hmk1.out.trans (hmk2.imp fun _ h => h.1)
      obtain ⟨kd2, bd2, vo2, vc2, xo2, xc2, ro2, rc2, vs2, ars2, rs2, _, ⟨d0, d1, d2, d3, d4⟩, hf2, ⟨_, l2, _⟩, _, n2, _⟩ := Hv.out.seg hmk2 Hc.out
      have Hn2 := hid n2; have Hmk2 := hid hmk2; have L2 := hid l2
      have hal : c.args.length ≤ 10000000 := by have := Hcl.out; unfold mkC at this; omega
      clear n2 hmk2 l2 c0 hf hd1 d0 d1 d3 d4
      go_wp2_with fail
      have hcall := markIntS_c (but M b) ars2 (k + q + 1 + c.vars.length) _ _ Hn2.out (by omega) (by rw [L2.out]; omega)
      rw [L2.out] at hcall
      (with_reducible refine hcall.mono ?_)
      clear hcall
      rintro e w3 ⟨rfl, _, hmk3⟩
      have hmk3 := Hmk2.out.trans (hmk3.imp fun _ h => h.1)
      obtain ⟨kd3, bd3, vo3, vc3, xo3, xc3, ro3, rc3, vs3, ars3, rs3, _, ⟨e0, e1, e2, e3, e4⟩, hf3, ⟨_, _, l3⟩, _, _, n3⟩ := Hv.out.seg hmk3 Hc.out
      have hmk4 := hmk3.set (y := k + q + 1 + c.vars.length + c.args.length) hm'.out e3
      have hs4 : Mk M w3 (w3.setCell ⟨b, o + n * 5 + 3, none⟩ (.int .i64 (k + q + 1 + c.vars.length + c.args.length))) := (Mk.refl M w3).set hm'.out e3
      have he4 : (w3.setCell ⟨b, o + n * 5 + 3, none⟩ (.int .i64 (k + q + 1 + c.vars.length + c.args.length))).cell? ⟨b, o + n * 5 + 4, none⟩ = some (.slice ro3 c.rows.length rc3) := hs4.same _ _ e4 (by intro x h; cases h)
      obtain ⟨rs4, l4, n4⟩ := n3.mk hs4
      have Hn4 := hid n4; have Hmk4 := hid hmk4; have L4 := hid (show mkR rs4 = mkR c.rows by rw [← l3]; unfold mkR; rw [l4])
      have hrl : mkR c.rows ≤ 10000000 := by have := Hcl.out; unfold mkC at this; omega
      clear n3 n4 hmk3 hmk4 l3 l4 hs4 hf2 d2 e0 e1 e2 e4
      go_wp2_with fail
      have hcall := markIntSS_c (but M b) rs4 (k + q + 1 + c.vars.length + c.args.length + 1) _ _ Hn4.out (by omega) (by rw [L4.out]; omega)
      rw [L4.out] at hcall
      (with_reducible refine hcall.mono ?_)
      clear hcall
      rintro e w5 ⟨rfl, hmk5⟩
      have Hmk5 := hid (Hmk4.out.trans (hmk5.imp fun _ h => h.1))
      obtain ⟨z, hz⟩ : ∃ z, z = mkR c.rows := ⟨_, rfl⟩
      rw [← hz]
      have Hz := hid hz
      clear hmk5 he4 e3 hf3 hz
      go_wp2_with fail
      refine ⟨⟨n + 1, q + mkC c, by omega, by go_num, ?_, by rw [Hst.out, Hq.out], Hmk5.out⟩, by simp [intOf]; omega⟩
      have := Hz.out
      unfold mkC
      rw [← this]
      congr 1
      omega
    · have hnl : q = mkCs cs := by rw [Hq.out, List.take_of_length_le (by omega)]; rfl
      have Hnl := hid hnl; have Hg := hid hg
      clear hnl hg
      go_wp2_with fail
      go_ret
      exact ⟨ret_int (by rw [Hnl.out]), Hg.out⟩

theorem markModel_c (M : Nat → Prop) (m : Mod) (k : Int) (v : Value) (w : World) (hv : ModM M w v m) (hk : 0 ≤ k ∧ k ≤ 1000000) (hl : mkMo m ≤ 5000000) :
    Calls Tryz.prog 24 #[v, .int .i64 k] w fun e w' => e = .returned (.int .i64 (k + mkMo m)) ∧ Mk M w w' := by
  obtain ⟨dv, cv, rfl, hd, hc⟩ := hv
  have Hd := hid hd; have Hc := hid hc
  obtain ⟨xo, xc, rfl, -, -⟩ := hd
  obtain ⟨co, cc, rfl, -, -⟩ := hc
  have hg0 : Gr [] w (w.alloc (.cells #[.slice xo m.doms.length xc, .slice co m.cons.length cc] 31)) := (Gr.refl _ _).alloc _
  have hb0 : (w.alloc (.cells #[.slice xo m.doms.length xc, .slice co m.cons.length cc] 31)).heap[w.heap.size]? = some (.cells #[.slice xo m.doms.length xc, .slice co m.cons.length cc] 31 (0, 0)) := heap_alloc_new _ _
  have hfl := fld hb0
  have Hg0 := hid hg0; have Hb0 := hid hb0
  have hdl : m.doms.length ≤ 5000000 := by unfold mkMo at hl; omega
  have hcl : mkCs m.cons ≤ 5000000 := by unfold mkMo at hl; omega
  have Hcl := hid hcl
  clear hb0 hg0 hl hcl
  go_enter Tryz.func24, Tryz.ntmps24
  go_wp2_with fail
  have hcall := markIntS_c M m.doms k _ _ (Hd.out.gr' Hg0.out (by simp) (fun _ _ h => h)) (by omega) (by omega)
  (with_reducible refine hcall.mono ?_)
  clear hcall
  rintro e w2 ⟨rfl, _, hmk2⟩
  have hb2 := hmk2.same ⟨w.heap.size, 1, none⟩ _ (fld Hb0.out 1) (by intro x h; cases h)
  simp at hb2
  have Hc2 := (Hc.out.gr' Hg0.out (by simp) (fun _ _ h => h)).mk hmk2
  obtain ⟨cs', hcs1, hcs2, hcs3⟩ := Hc2
  have hmke : mkCs cs' = mkCs m.cons := by
    unfold mkCs
    congr 1
    refine List.ext_getElem? fun i => ?_
    rw [List.getElem?_map, List.getElem?_map]
    cases hi : m.cons[i]? with
    | none => rw [List.getElem?_eq_none (by have := List.getElem?_eq_none_iff.1 hi; omega)]
    | some c =>
      obtain ⟨c', hc'⟩ := get_some (xs := cs') (k := i) (by have := (List.getElem?_eq_some_iff.1 hi).1; omega)
      obtain ⟨s1, s2, s3⟩ := hcs2 i c c' hi hc'
      rw [hc']
      simp only [Option.map_some, mkC, mkR, s1, s2, s3]
  have Hcs3 := hid hcs3; have Hmk2 := hid ((Mk.of_gr Hg0.out).trans hmk2); have Hmke := hid hmke
  clear hmk2 hcs1 hcs2 hcs3 hmke hfl
  go_wp2_with fail
  have hcall := markConstraintS_c M cs' (k + m.doms.length) _ _ Hcs3.out (by omega) (by rw [Hmke.out]; have := Hcl.out; omega)
  rw [Hmke.out] at hcall
  (with_reducible refine hcall.mono ?_)
  clear hcall
  rintro e w3 ⟨rfl, hmk3⟩
  have Hmk3 := hid (Hmk2.out.trans hmk3)
  obtain ⟨z, hz⟩ : ∃ z, z = mkCs m.cons := ⟨_, rfl⟩
  rw [← hz]
  have Hz := hid hz
  clear hmk3 hz hb2
  go_wp2_with fail
  go_ret
  refine ⟨ret_int ?_, Hmk3.out⟩
  have := Hz.out
  unfold mkMo
  rw [← this]
  omega
end Go.Proofs.YtjmjjdgbkibdaaaGreat
