/-
  Walk of the program's numbering of the nodes.
-/
import Derived.Test.YtmonhpoogfdpoaaGreatXBp
set_option linter.unusedVariables false
set_option linter.unusedSimpArgs false
namespace Go.Proofs.YtmonhpoogfdpoaaGreat
open Go.RowKit

theorem infoRw : (Tryz.prog.info? 23).map (fun i => (i.zero, i.size, i.bytes)) = some (some (.slice none 0 0), 1, 24) := by kernel_rfl
theorem infoRr : (Tryz.prog.info? 24).map (fun i => (i.zero, i.size, i.bytes)) = some (some (.slice none 0 0), 1, 24) := by kernel_rfl
theorem ob (g n c : Nat) : (Value.slice (some ⟨g, 0, none⟩) n c).ownBlock = some g := rfl
theorem dgm_get0 {n i : Nat} (S0 : SS) (h : i < n) : (dgm n [S0])[i]? = some ((layS S0 i).map (rowP (layS S0 (i + 1)))) := by
  have := dgm_get n i S0 0 h
  simpa [layS] using this

theorem clipI_c (g n cap : Nat) (w : World) (h1 : n ≤ cap) (h2 : cap ≤ 9223372036854775807) :
    Calls Tryz.prog 45 #[.slice (some ⟨g, 0, none⟩) n cap] w fun e w' => e = .returned (.slice (some ⟨g, 0, none⟩) n n) ∧ w' = w := by
  go_enter Tryz.func45, Tryz.ntmps45
  go_wp2_with fail
  go_ret
  exact ⟨rfl, rfl⟩
theorem clipD_c (g n cap : Nat) (w : World) (h1 : n ≤ cap) (h2 : cap ≤ 9223372036854775807) :
    Calls Tryz.prog 46 #[.slice (some ⟨g, 0, none⟩) n cap] w fun e w' => e = .returned (.slice (some ⟨g, 0, none⟩) n n) ∧ w' = w := by
  go_enter Tryz.func46, Tryz.ntmps46
  go_wp2_with fail
  go_ret
  exact ⟨rfl, rfl⟩
theorem Nums.cap {S : List Nat} {w : World} {k : IntKind} {g n cap : Nat} {xs : List Int} (h : Nums S w k (.slice (some ⟨g, 0, none⟩) n cap) xs) : Nums S w k (.slice (some ⟨g, 0, none⟩) n n) xs := by
  obtain ⟨ao, cap', e, ⟨h1, h2, h3⟩, hc⟩ := h
  cases e
  exact ⟨_, _, rfl, ⟨Nat.le_refl _, by omega, by simp⟩, hc⟩
structure N1 (p : MkP) (w : World) (D : List (List SS)) (S0 : SS) (i : Nat) (outv metv : Value) (ous : List Value) (ks : List Nat) (wr : World) : Prop where
  gr : Gr [] w wr
  ow : OwnV 1 w.heap.size wr 24 outv (ous.map fun u => [u])
  ol : ous.length = i
  oe : ∀ (j : Nat) u L, ous[j]? = some u → (dgm p.W.length [S0])[j]? = some L → RowsV outv.ownBlock.toList wr u L
  mt : Nums outv.ownBlock.toList wr .i64 metv (ints ks)
  nb : i < p.W.length → Nmb (lay D i) ks (layS S0 i)
structure N2 (p : MkP) (X : List Nat) (D : List (List SS)) (S0 : SS) (i a : Nat) (nextv layerv : Value) (us : List Value) (ns : List Nat) (wr wq : World) : Prop where
  gr : Gr [] wr wq
  nx : Own wr.heap.size wq 3 nextv (ints ns)
  ly : OwnV 1 wr.heap.size wq 23 layerv (us.map fun u => [u])
  ne : ∀ b, nextv.ownBlock = some b → layerv.ownBlock ≠ some b
  ul : us.length = a
  el : ∀ (j : Nat) u r, us[j]? = some u → ((layS S0 i).map (rowP (layS S0 (i + 1))))[j]? = some r → Nums (nextv.ownBlock.toList ++ (layerv.ownBlock.toList ++ X)) wq .i64 u r
  nn : i + 1 < p.W.length → Nmb (lay D (i + 1)) ns (nextL ((layS S0 i).take a) [])
  nl : i + 1 = p.W.length → ns = []
structure N3 (p : MkP) (D : List (List SS)) (S0 S : SS) (i a c B : Nat) (next0 nextv : Value) (g rc : Nat) (ns : List Nat) (row : List Int) (wq wz : World) : Prop where
  gr : Gr (g :: next0.ownBlock.toList) wq wz
  nx : Own B wz 3 nextv (ints ns)
  rw : Own B wz 3 (.slice (some ⟨g, 0, none⟩) 6 rc) row
  rl : row.length = 6
  rd : ∀ j : Nat, j < c → row[j]? = some (ixL (layS S0 (i + 1)) (sufs S (j : Int)))
  ro : ∀ j : Nat, c ≤ j → j < 6 → row[j]? = some (ixL (lay D (i + 1)) (sufs S (j : Int)))
  nn : i + 1 < p.W.length → Nmb (lay D (i + 1)) ns (nextV S (vs6.take c) (nextL ((layS S0 i).take a) []))
  nl : i + 1 = p.W.length → ns = []
  nb : ∀ b, nextv.ownBlock = some b → next0.ownBlock = some b ∨ wq.heap.size ≤ b
  rn : ∀ b, nextv.ownBlock = some b → b ≠ g

section
variable {p : MkP} {D : List (List SS)} {S0 S : SS} {i a c B : Nat} {next0 nextv : Value} {g rc : Nat} {ns : List Nat} {row : List Int} {wq wz : World}
theorem rowP_get (nx : List SS) (S : SS) {j : Nat} (hj : j < 6) : (rowP nx S)[j]? = some (ixL nx (sufs S (j : Int))) := by
  unfold rowP; rw [List.getElem?_map, vs6_get hj]; rfl
theorem N3.skip (h : N3 p D S0 S i a c B next0 nextv g rc ns row wq wz) (hc : c < 6) (he : ixL (lay D (i + 1)) (sufs S (c : Int)) = ixL (layS S0 (i + 1)) (sufs S (c : Int))) (hx : i + 1 < p.W.length → sufs S (c : Int) = []) :
    N3 p D S0 S i a (c + 1) B next0 nextv g rc ns row wq wz :=
  ⟨h.gr, h.nx, h.rw, h.rl, fun j hj => by
    by_cases e : j = c
    · subst e; rw [h.ro j (Nat.le_refl _) hc, he]
    · exact h.rd j (by omega), fun j hj h6 => h.ro j (by omega) h6, fun hi => by
    rw [nextV_snoc (vs6_get hc), hx hi]
    have : ∀ nx : List SS, hitL nx [] = nx := fun nx => by unfold hitL; rw [if_pos (.inl rfl)]
    rw [this]; exact h.nn hi, h.nl, h.nb, h.rn⟩
theorem N3.put (h : N3 p D S0 S i a c B next0 nextv g rc ns row wq wz) (hc : c < 6) {k : Nat} (h0 : sufs S (c : Int) ≠ []) (hi : i + 1 < p.W.length) (hk : (lay D (i + 1))[k]? = some (sufs S (c : Int))) (hnd : (lay D (i + 1)).Nodup) (hSa : (layS S0 i)[a]? = some S)
    {nextv2 : Value} {ns2 : List Nat} {w1 : World} (hks : k ∈ ns2) (hn2 : Nmb (lay D (i + 1)) ns2 (hitL (nextV S (vs6.take c) (nextL ((layS S0 i).take a) [])) (sufs S (c : Int))))
    (hnx : Own B w1 3 nextv2 (ints ns2)) (hg : Gr nextv.ownBlock.toList wz w1) (hg0 : g < wq.heap.size) (hb2 : ∀ b, nextv2.ownBlock = some b → nextv.ownBlock = some b ∨ wz.heap.size ≤ b) :
    N3 p D S0 S i a (c + 1) B next0 nextv2 g rc ns2 (row.set c (ixI (ints ns2) (k : Int))) wq (w1.setCell ⟨g, c, none⟩ (.int .i64 (ixI (ints ns2) (k : Int)))) := by
  have hgs : Gr [g] w1 (w1.setCell ⟨g, c, none⟩ (.int .i64 (ixI (ints ns2) (k : Int)))) := (Gr.refl _ _).setCell _ _ (.inl (by simp))
  have hwz := h.gr.size
  have hb3 : ∀ b, nextv2.ownBlock = some b → b ≠ g := fun b hb => by
    rcases hb2 b hb with hb | hb
    · exact h.rn b hb
    · omega
  have hval : ixI (ints ns2) (k : Int) = ixL (layS S0 (i + 1)) (sufs S (c : Int)) := by
    unfold ixI
    rw [if_pos (ints_mem'.2 hks), ints_idx hks]
    have hin : sufs S (c : Int) ∈ hitL (nextV S (vs6.take c) (nextL ((layS S0 i).take a) [])) (sufs S (c : Int)) := hitL_mem _ h0
    rw [← hn2.idx hnd hk hks]
    have hp : hitL (nextV S (vs6.take c) (nextL ((layS S0 i).take a) [])) (sufs S (c : Int)) <+: layS S0 (i + 1) := by
      rw [← nextV_snoc (vs6_get hc)]
      exact nextVL_take hSa _ _
    rw [ixL_pre hp (.inr hin)]
    unfold ixL
    rw [if_neg h0]
  refine ⟨?_, hnx.keepB hgs (fun b hb hx => hb3 b hb (List.mem_singleton.1 hx)), ?_, by rw [List.length_set]; exact h.rl, fun j hj => ?_, fun j hj h6 => ?_, fun _ => ?_, fun h' => by omega, fun b hb => ?_, hb3⟩
  · refine (h.gr.step hg fun t ht => ?_).step hgs fun t ht => .inl (by simp at ht; simp [ht])
    simp only [Option.mem_toList] at ht
    rcases h.nb t ht with h' | h'
    · exact .inl (by simp [h'])
    · exact .inr h'
  · refine Own.set (h.rw.keep hg fun hx => ?_) c _ (by rw [h.rl]; exact hc)
    simp only [Option.mem_toList] at hx
    exact h.rn _ hx rfl
  · by_cases e : j = c
    · subst e; rw [List.getElem?_set_self (by rw [h.rl]; exact hc), hval]
    · rw [List.getElem?_set_ne (fun e' => e e'.symm)]; exact h.rd j (by omega)
  · rw [List.getElem?_set_ne (by omega)]; exact h.ro j (by omega) h6
  · rw [nextV_snoc (vs6_get hc)]; exact hn2
  · rcases hb2 b hb with hb | hb
    · exact h.nb b hb
    · exact .inr (by omega)
end

set_option maxRecDepth 100000 in
set_option maxHeartbeats 4000000 in
theorem numbered_c (p : MkP) (hp : MkOk p) (w : World) (svs : List Value) (D : List (List SS)) (h : MkV p w svs D) (k0 : Nat) (S0 : SS) (hS : (lay D 0)[k0]? = some S0) (hlen : ∀ j, j < p.W.length → (lay D j).length ≤ 10000) :
    Calls Tryz.prog 20 #[.pointer (some ⟨p.M, 0, none⟩), .int .i64 k0] w fun e w' => ∃ v, e = .returned v ∧ DgV [] w' v (dgm p.W.length [S0]) ∧ Gr [] w w' := by
  have Hp := hid hp; have H := hid h; have HS := hid hS; have Hlen := hid hlen
  have hw4 := hp.w4
  have hel := h.ok.el 0 _ S0 (h.ok.at (by omega)) (List.mem_of_getElem? hS)
  have Hgood := hid hel.2.1; have Hne := hid hel.1
  obtain ⟨n, hn⟩ : ∃ n, n = p.W.length := ⟨_, rfl⟩
  rw [← hn] at hw4
  have Hn := hid hn
  have hg2 : Gr [] w ((w.alloc (.cells #[] 24)).alloc (.cells #[.int .i64 (k0 : Int)] 3)) := ((Gr.refl _ _).alloc _).alloc _
  have fM2 := fld (hg2.obj H.out.blk (by simp))
  rw [← hn] at fM2
  have HI0 : Hid (N1 p w D S0 0 (.slice (some ⟨w.heap.size, 0, none⟩) 0 0) (.slice (some ⟨w.heap.size + 1, 0, none⟩) 1 1) [] [k0] ((w.alloc (.cells #[] 24)).alloc (.cells #[.int .i64 (k0 : Int)] 3))) := hid (by
    refine ⟨hg2, (OwnV.empty w _ (Nat.le_refl _)).gr ((Gr.refl _ _).alloc _), rfl, by simp, ?_, fun _ => ⟨?_, ?_⟩⟩
    · have := nums_new (w.alloc (.cells #[] 24)) 3 [(k0 : Int)] (S := [w.heap.size]) (by simp)
      rw [World.size_alloc] at this
      exact this
    · simp only [nsets, List.map_cons, List.map_nil, layS]
      simp [List.getD_eq_getElem?_getD, HS.out]
    · intro k hk
      obtain rfl := List.mem_singleton.1 hk
      exact (List.getElem?_eq_some_iff.1 HS.out).1)
  clear hp h hS hlen hel hn hg2
  go_enter Tryz.func20, Tryz.ntmps20
  go_wp2_with fail
  generalize ((w.alloc (.cells #[] 24)).alloc (.cells #[.int .i64 (k0 : Int)] 3)) = w2 at *
  clear fM2
  go_loopw [5, 6, 23] (fun outv metv u wr => ∃ (i : Nat) (ous : List Value) (ks : List Nat), i ≤ n ∧ u = .int .i64 i ∧ N1 p w D S0 i outv metv ous ks wr) (fun _ _ u _ => n - (intOf u).toNat)
  case atStart => exact ⟨0, [], [k0], by omega, rfl, HI0.out⟩
  case round =>
    obtain ⟨i, ous, ks, hin, rfl, hI⟩ := hrel
    have HI := hid hI
    obtain ⟨oo, oc, hov, hoc⟩ := hI.ow.form
    rw [List.length_map] at hov hoc
    subst hov
    obtain ⟨mo, mc, rfl, hmc, -⟩ := id hI.mt
    rw [ints_len] at hmc
    clear hI
    by_cases hlt : i < n
    · have hkl := (HI.out.nb (by rw [← Hn.out]; exact hlt)).len
      have hLS := layS_len (S0 := S0) i
      have hpw : 6 ^ i ≤ 6 ^ 3 := Nat.pow_le_pow_right (by decide) (by omega)
      obtain ⟨kn, hkn⟩ : ∃ kn, kn = ks.length := ⟨_, rfl⟩
      have hk216 : kn ≤ 216 := by rw [hkn, hkl]; exact Nat.le_trans hLS hpw
      have Hkn := hid hkn
      rw [ints_len, ← hkn]
      rw [← hkn] at hmc
      have hmc1 := hmc.1; have hmc2 := hmc.2.1
      have hoc1 := hoc.1; have hoc2 := hoc.2.1
      clear hkn hkl hLS hpw hmc hoc
      go_wp2_with (first | (at_make; refine wp_mkV0 rfl _ _ 24 rfl 1 wr.heap.size 23 _ 24 infoRw (by omega) Tryz.underlying24 kn rfl rfl (by omega) (by simp) ?_; intro w3 hown3 hg3))
      rw [World.size_alloc] at hown3
      have HJ0 : Hid (N2 p (Value.slice oo ous.length oc).ownBlock.toList D S0 i 0 (.slice (some ⟨wr.heap.size, 0, none⟩) 0 0) (.slice (some ⟨wr.heap.size + 1, 0, none⟩) 0 kn) [] [] wr w3) := hid ⟨((Gr.refl _ _).alloc _).trans hg3, (Own.empty wr _ (Nat.le_refl _)).keepB hg3 (by simp), hown3, fun b hb hx => by rw [ob] at hb hx; cases hb; simp at hx, rfl, by simp, fun _ => Nmb.nil _, fun _ => rfl⟩
      clear hown3 hg3
      go_loopw [8, 9, 32] (fun nextv layerv u wq => ∃ (a : Nat) (us : List Value) (ns : List Nat), a ≤ kn ∧ u = .int .i64 a ∧ N2 p (Value.slice oo ous.length oc).ownBlock.toList D S0 i a nextv layerv us ns wr wq) (fun _ _ u _ => kn - (intOf u).toNat)
      case atStart => exact ⟨0, [], [], by omega, rfl, HJ0.out⟩
      case round =>
        obtain ⟨wq, rfl⟩ : ∃ wq, wq = wr := ⟨_, rfl⟩
        obtain ⟨a, us, ns, hak, rfl, hJ⟩ := hrel
        have HJ := hid hJ
        obtain ⟨no, nc, rfl, hn1, hn2⟩ := hJ.nx.form2
        obtain ⟨lo, lc, hlv, hlc⟩ := hJ.ly.form
        rw [List.length_map] at hlv hlc
        subst hlv
        clear hJ
        have hlc1 := hlc.1; have hlc2 := hlc.2.1
        rw [ints_len] at hn1
        by_cases hla : a < kn
        · have hiW : i < p.W.length := by rw [← Hn.out]; exact hlt
          obtain ⟨k, hk⟩ := get_some (xs := ks) (k := a) (by rw [← Hkn.out]; exact hla)
          obtain ⟨S, hSa, hSk⟩ := (HI.out.nb hiW).get hk
          have hmt := HI.out.mt.gr HJ.out.gr.any
          obtain ⟨bm, om, rfl, -, hcm⟩ := hmt.at (i := a) (x := (k : Int)) (by rw [ints_get, hk]; rfl)
          have hmv := H.out.gr0 (HI.out.gr.trans HJ.out.gr)
          obtain ⟨s, hs⟩ := get_some (xs := svs) (k := i) (by rw [hmv.sl]; exact hiW)
          have hrk : (rowsD D i)[k]? = some (rowP (lay D (i + 1)) S) := by unfold rowsD; rw [List.getElem?_map, hSk]; rfl
          have hrow := hmv.row i s hs
          obtain ⟨gs, gc, rfl, hgs, hcells, -⟩ := hrow.at (i := k) (cs := (rowP (lay D (i + 1)) S).map (Value.int .i64)) (by unfold cells6; rw [List.getElem?_map, hrk]; rfl)
          have hkl := (List.getElem?_eq_some_iff.1 hSk).1
          have hl6 : (cells6 (rowsD D i)).length = (lay D i).length := by simp [cells6, rowsD]
          rw [hl6] at hs
          obtain ⟨L, hL⟩ : ∃ L, L = (lay D i).length := ⟨_, rfl⟩
          have hL1 : L ≤ 10000 := by rw [hL]; exact Hlen.out i hiW
          rw [← hL] at hs hkl
          have fM := fld hmv.blk
          rw [← Hn.out] at fM
          have fN : wq.cell? ⟨p.Nb, i, none⟩ = some (.slice (some ⟨gs, 0, none⟩) L gc) := by
            rw [fld hmv.nod i]; simpa using hs
          have hnc := Hp.out.nc
          rw [← Hn.out] at hnc
          have hnr : Nums [] wq .i64 (.slice (some ⟨gs, k * 6, none⟩) 6 6) (rowP (lay D (i + 1)) S) :=
            ⟨_, _, rfl, ⟨Nat.le_refl 6, by decide, by simp⟩, fun j x hj => ⟨gs, k * 6, rfl, by simp, hcells j _ (by rw [List.getElem?_map, hj]; rfl)⟩⟩
          have hoc3 := hrow.form
          have Hnr := hid hnr; have HSa := hid hSa; have HSk := hid hSk
          clear hnr hSa hSk hmt hmv hs hrk hrow hcells hk hgs hl6 hL
          go_wp2_with fail
          refine (Clone_c _ _ wq Hnr.out (by show 6 ≤ 2000000; decide)).mono ?_
          rintro e w4 ⟨rv, rfl, hrv, hg4⟩
          obtain ⟨g, rc, rfl, ⟨hgB, hgl⟩, -, -⟩ := hrv.open (by show 0 < 6; decide)
          have e6 : (rowP (lay D (i + 1)) S).length = 6 := rfl
          rw [e6] at hrv ⊢
          have hsr := HJ.out.gr.size
          have hnob : ∀ b, (Value.slice no (ints ns).length nc).ownBlock = some b → b < wq.heap.size := fun b hb => (HJ.out.nx.ownB hb).2
          have HK0 : Hid (N3 p D S0 S i a 0 wr.heap.size (.slice no (ints ns).length nc) (.slice no (ints ns).length nc) g rc ns (rowP (lay D (i + 1)) S) w4 w4) := hid
            ⟨Gr.refl _ _, HJ.out.nx.keepB hg4 (by simp), hrv.le (by omega), e6, fun j hj => by omega, fun j _ hj => rowP_get _ _ hj, fun h => HJ.out.nn h, HJ.out.nl, fun b hb => .inl hb, fun b hb e => by have := hnob b hb; omega⟩
          have Hg4 := hid hg4; have Hrcc := hid hrv.form2
          clear hrv hg4 fM fN
          have hrc : 6 ≤ rc ∧ rc ≤ 9223372036854775807 := by
            obtain ⟨ao, cap, e, h1, h2⟩ := Hrcc.out
            cases e; exact ⟨h1, h2⟩
          have hrc1 := hrc.1; have hrc2 := hrc.2
          clear hrc
          go_wp2_with fail
          go_loopw [8, 49] (fun nextv u wz => ∃ (c : Nat) (ns' : List Nat) (row : List Int), c ≤ 6 ∧ u = .int .i64 c ∧ N3 p D S0 S i a c wr.heap.size (.slice no (ints ns).length nc) nextv g rc ns' row w4 wz) (fun _ u _ => 6 - (intOf u).toNat)
          case atStart => exact ⟨0, ns, _, by omega, rfl, HK0.out⟩
          case round =>
            obtain ⟨wz, rfl⟩ : ∃ wz, wz = wr := ⟨_, rfl⟩
            obtain ⟨c, ns', row, hc6, rfl, hK⟩ := hrel
            have HK := hid hK
            obtain ⟨zo, zc, rfl, hz1, hz2⟩ := hK.nx.form2
            rw [ints_len] at hz1
            clear hK
            by_cases hlc : c < 6
            · obtain ⟨r, hr⟩ : ∃ r, r = sufs S (c : Int) := ⟨_, rfl⟩
              have hrow := HK.out.ro c (Nat.le_refl _) hlc
              rw [← hr] at hrow
              obtain ⟨hcell, hfro⟩ := HK.out.rw.at hrow
              have Hr := hid hr
              clear hr hrow
              by_cases h0 : r = []
              · have hto : ixL (lay D (i + 1)) r = -1 := by unfold ixL; rw [if_pos h0]
                rw [hto] at hcell
                have H0 := hid h0
                clear hto h0
                go_wp2_with fail
                refine ⟨⟨c + 1, ns', row, by omega, by go_num, HK.out.skip hlc ?_ (fun _ => by rw [← Hr.out]; exact H0.out)⟩, by simp [intOf]; omega⟩
                rw [← Hr.out]
                unfold ixL
                rw [if_pos H0.out, if_pos H0.out]
              · have hcl := H.out.ok.el i _ S (H.out.ok.at hiW) (List.mem_of_getElem? HSk.out)
                have hrin : r ∈ lay D (i + 1) := by
                  have := hcl.2.2 (c : Int) (List.mem_of_getElem? (vs6_get hlc))
                  rw [← Hr.out] at this
                  exact this.resolve_left h0
                obtain ⟨kk, hkk⟩ : ∃ kk, kk = (lay D (i + 1)).idxOf r := ⟨_, rfl⟩
                have hto : ixL (lay D (i + 1)) r = (kk : Int) := by unfold ixL; rw [if_neg h0, hkk]
                have hget : (lay D (i + 1))[kk]? = some r := by rw [hkk, List.getElem?_eq_getElem (List.idxOf_lt_length_of_mem hrin), List.getElem_idxOf]
                rw [hto] at hcell
                have hgz : Gr [] w wz := ((HI.out.gr.trans HJ.out.gr).trans Hg4.out).step HK.out.gr (fun t ht => by
                  have h1 := HI.out.gr.size; have h2 := HJ.out.gr.size
                  simp only [List.mem_cons, Option.mem_toList] at ht
                  rcases ht with rfl | ht
                  · exact .inr (by omega)
                  · have := (HJ.out.nx.ownB ht).1; exact .inr (by omega))
                have fMz := fld (hgz.obj H.out.blk (by simp))
                rw [← Hn.out] at fMz
                have Hget := hid hget; have H0 := hid h0; have Hgz := hid hgz; have Hto := hid hto
                clear hcl hrin hkk hto hget hgz h0
                by_cases hl2 : i + 1 = n
                · have hlast : ((i : Int) == (n : Int) - 1) = true := by rw [beq_iff_eq]; omega
                  have Hl2 := hid hl2
                  clear hl2
                  go_wp2_with fail
                  refine ⟨⟨c + 1, ns', row, by omega, by go_num, HK.out.skip hlc ?_ (fun h => by have := Hl2.out; have := Hn.out; omega)⟩, by simp [intOf]; omega⟩
                  have e1 : lay D (i + 1) = [[[]]] := lay_end (by rw [H.out.ok.len]; have := Hl2.out; have := Hn.out; omega)
                  have e2 : layS S0 (i + 1) = [[[]]] := by
                    have := layS_ok Hgood.out Hne.out (i + 1) (by have := Hl2.out; have := Hn.out; omega)
                    rw [show p.W.length - 0 - (i + 1) = 0 by have := Hl2.out; have := Hn.out; omega] at this
                    exact layOk_end this
                  rw [e1, e2]
                · have hlast : ((i : Int) == (n : Int) - 1) = false := by rw [beq_eq_false_iff_ne]; omega
                  have hi1 : i + 1 < p.W.length := by have := Hn.out; omega
                  have hnn := HK.out.nn hi1
                  have hnl : ns'.length ≤ 10000 := by
                    have h1 := hnn.len
                    have h2 := (nextVL_take HSa.out c []).length_le
                    have h3 := layS_len (S0 := S0) (i + 1)
                    have h4 : 6 ^ (i + 1) ≤ 6 ^ 4 := Nat.pow_le_pow_right (by decide) (by omega)
                    have e : layS S0 (i + 1) = nextL (layS S0 i) [] := rfl
                    rw [e] at h3
                    omega
                  have hnd := H.out.ok.nodup (i + 1) _ (H.out.ok.at hi1)
                  have Hnn := hid hnn; have Hnd := hid hnd; have Hi1 := hid hi1
                  clear hnn hnd hi1 hl2
                  go_wp2_with fail
                  refine (containsInt_c (ints ns') (kk : Int) _ wz (HK.out.nx.numsB (by simp))).mono ?_
                  rintro e w5 ⟨rfl, hg5⟩
                  have Hg5 := hid hg5
                  clear hg5 hcell hfro fMz
                  cases hmb : memB (kk : Int) (ints ns')
                  · have hni : kk ∉ ns' := fun h => by
                      have : (kk : Int) ∈ ints ns' := ints_mem'.2 h
                      simp only [memB, decide_eq_false_iff_not] at hmb
                      exact hmb this
                    have Hni := hid hni; clear hni hmb
                    have hown5 := HK.out.nx.keepB Hg5.out (by simp)
                    have Hown5 := hid hown5; clear hown5
                    go_wp2_with (at_builtin; refine wp_appNL rfl _ _ 23 rfl wr.heap.size 3 infoInt Tryz.underlying23 _ (ints ns') rfl (Hown5.out.alloc _) _ 1 (kk : Int) rfl (cell_new _ _ _) (by rw [ints_len]; omega) (by have h1 := HJ.out.gr.size; have h2 := Hg4.out.size; have h3 := HK.out.gr.size; have h4 := Hg5.out.size; simp; omega) ?_; intro g6 c6 w6 hown6 hg6 hwh6 hlt6)
                    rw [← ints_snoc] at hown6
                    have hg56 : Gr (Value.slice zo (ints ns').length zc).ownBlock.toList wz w6 := (Hg5.out.any.trans ((Gr.refl _ _).alloc _)).trans hg6
                    have hwh : ∀ b, (Value.slice (some ⟨g6, 0, none⟩) ((ints ns').length + 1) c6).ownBlock = some b → (Value.slice zo (ints ns').length zc).ownBlock = some b ∨ wz.heap.size ≤ b := fun b hb => by
                      rw [ob] at hb
                      cases hb
                      exact hwh6.imp id fun h => by have := Hg5.out.size; simp at h; omega
                    refine (indexInt_x (ints (ns' ++ [kk])) (kk : Int) _ w6 (hown6.numsB (by simp))).mono ?_
                    obtain ⟨q, hq⟩ : ∃ q, q = ixI (ints (ns' ++ [kk])) (kk : Int) := ⟨_, rfl⟩
                    rw [← hq]
                    rintro e w7 ⟨rfl, hg7⟩
                    have hg57 := hg56.trans hg7.any
                    have hn2 : Nmb (lay D (i + 1)) (ns' ++ [kk]) (hitL (nextV S (vs6.take c) (nextL ((layS S0 i).take a) [])) (sufs S (c : Int))) := by
                      have h1 : r ∉ nextV S (vs6.take c) (nextL ((layS S0 i).take a) []) := fun h => Hni.out ((Hnn.out.mem Hnd.out Hget.out).2 h)
                      have h2 := Hnn.out.add Hget.out
                      unfold hitL
                      rw [← Hr.out, if_neg (by rw [not_or]; exact ⟨H0.out, h1⟩)]
                      exact h2
                    have hP := HK.out.put hlc (by rw [← Hr.out]; exact H0.out) Hi1.out (by rw [← Hr.out]; exact Hget.out) Hnd.out HSa.out (by simp) hn2 (hown6.keepB hg7 (by simp)) hg57 hgl hwh
                    rw [← hq] at hP
                    have HP := hid hP
                    have hrow7 := HK.out.ro c (Nat.le_refl _) hlc
                    obtain ⟨hcell7, hfro7⟩ := (HK.out.rw.keep hg57 (fun hx => by simp only [Option.mem_toList] at hx; exact HK.out.rn _ hx rfl)).at hrow7
                    clear hP hn2 hg57 hg7 hq hwh hg56 hown6 hg6 hwh6 hrow7
                    go_wp2_with fail
                    exact ⟨⟨c + 1, _, _, by omega, by go_num, HP.out⟩, by simp [intOf]; omega⟩
                  · have hmi : kk ∈ ns' := by
                      simp only [memB, decide_eq_true_eq] at hmb
                      exact ints_mem'.1 hmb
                    have Hmi := hid hmi; clear hmi hmb
                    go_wp2_with fail
                    refine (indexInt_x (ints ns') (kk : Int) _ w5 ((HK.out.nx.keepB Hg5.out (by simp)).numsB (by simp))).mono ?_
                    obtain ⟨q, hq⟩ : ∃ q, q = ixI (ints ns') (kk : Int) := ⟨_, rfl⟩
                    rw [← hq]
                    rintro e w7 ⟨rfl, hg7⟩
                    have hg57 : Gr (Value.slice zo (ints ns').length zc).ownBlock.toList wz w7 := (Hg5.out.trans hg7).any
                    have hn2 : Nmb (lay D (i + 1)) ns' (hitL (nextV S (vs6.take c) (nextL ((layS S0 i).take a) [])) (sufs S (c : Int))) := by
                      have h1 : r ∈ nextV S (vs6.take c) (nextL ((layS S0 i).take a) []) := (Hnn.out.mem Hnd.out Hget.out).1 Hmi.out
                      unfold hitL
                      rw [← Hr.out, if_pos (.inr h1)]
                      exact Hnn.out
                    have hP := HK.out.put hlc (by rw [← Hr.out]; exact H0.out) Hi1.out (by rw [← Hr.out]; exact Hget.out) Hnd.out HSa.out Hmi.out hn2 (HK.out.nx.keepB (Hg5.out.trans hg7) (by simp)) hg57 hgl (fun b hb => .inl hb)
                    rw [← hq] at hP
                    have HP := hid hP
                    have hrow7 := HK.out.ro c (Nat.le_refl _) hlc
                    obtain ⟨hcell7, hfro7⟩ := (HK.out.rw.keep hg57 (fun hx => by simp only [Option.mem_toList] at hx; exact HK.out.rn _ hx rfl)).at hrow7
                    clear hP hn2 hg57 hg7 hq hrow7
                    go_wp2_with fail
                    exact ⟨⟨c + 1, _, _, by omega, by go_num, HP.out⟩, by simp [intOf]; omega⟩
            · have hc6' : c = 6 := by omega
              subst hc6'
              have hrow : row = rowP (layS S0 (i + 1)) S := List.ext_getElem? fun j => by
                by_cases hj : j < 6
                · rw [HK.out.rd j hj, rowP_get _ _ hj]
                · rw [List.getElem?_eq_none (by rw [HK.out.rl]; omega), List.getElem?_eq_none (by have : (rowP (layS S0 (i + 1)) S).length = 6 := rfl; omega)]
              have Hrow := hid hrow
              clear hrow hlc
              go_wp2_with fail
              refine (clipI_c g 6 rc wz hrc1 hrc2).mono ?_
              rintro e w5 ⟨rfl, hw5⟩
              rw [hw5]
              clear hw5
              have hlyb : ∀ b, (Value.slice lo us.length lc).ownBlock = some b → b ≠ g ∧ (Value.slice no (ints ns).length nc).ownBlock ≠ some b ∧ b < wq.heap.size := fun b hb => by
                have h1 := HJ.out.ly.own hb
                exact ⟨by omega, fun hx => HJ.out.ne b hx hb, h1.2⟩
              have hly5 := (HJ.out.ly.gr Hg4.out).keep HK.out.gr (fun b hb hx => by
                simp only [List.mem_cons, Option.mem_toList] at hx
                rcases hx with hx | hx
                · exact (hlyb b hb).1 hx
                · exact (hlyb b hb).2.1 hx)
              have Hly5 := hid hly5; have Hlyb := hid hlyb
              clear hly5 hlyb
              have hus : us.length ≤ 216 := by rw [HJ.out.ul]; omega
              go_wp2_with (at_builtin; refine wp_appV rfl _ _ 24 rfl 1 wr.heap.size 23 _ 24 infoRw rfl (by omega) (by omega) Tryz.underlying24 _ (us.map fun u => [u]) rfl (Hly5.out.gr ((Gr.refl _ _).alloc _)) _ 1 [.slice (some ⟨g, 0, none⟩) 6 6] rfl rfl (by simp [Value.oneCell']) (fun j u hj => by match j, hj with | 0, hj => (simp at hj; subst hj; exact cell_new _ _ _) | j + 1, hj => simp at hj) (by rw [List.length_map]; omega) (by have h1 := HJ.out.gr.size; have h2 := Hg4.out.size; have h3 := HK.out.gr.size; simp; omega) ?_; intro g7 c7 w7 hown7 hg7 hwh7 hlt7)
              have hs1 := HJ.out.gr.size; have hs2 := Hg4.out.size; have hs3 := HK.out.gr.size
              have hnl : ∀ b, (Value.slice zo (ints ns').length zc).ownBlock = some b → (Value.slice lo us.length lc).ownBlock ≠ some b := fun b hb hx => by
                rcases HK.out.nb b hb with h | h
                · exact HJ.out.ne b h hx
                · have := (Hlyb.out b hx).2.2; omega
              have hnz : ∀ b, (Value.slice zo (ints ns').length zc).ownBlock = some b → b < wz.heap.size := fun b hb => (HK.out.nx.ownB hb).2
              have hgal : Gr [] wz (wz.alloc (.cells #[.slice (some ⟨g, 0, none⟩) 6 6] 23)) := (Gr.refl _ _).alloc _
              have hsA := hgal.size
              have hg7' : Gr (Value.slice lo us.length lc).ownBlock.toList wz w7 := hgal.any.trans hg7
              have hqz : Gr (g :: (Value.slice no (ints ns).length nc).ownBlock.toList) wq wz := Hg4.out.any.trans HK.out.gr
              have hgg7 : g ≠ g7 := fun e => by
                rcases hwh7 with h | h
                · exact (Hlyb.out _ h).1 e.symm
                · omega
              rw [List.length_map] at hown7
              refine ⟨⟨a + 1, us ++ [.slice (some ⟨g, 0, none⟩) 6 6], ns', by omega, by go_num, ?_⟩, by simp [intOf]; omega⟩
              refine ⟨(HJ.out.gr.step hqz fun t ht => ?_).step hg7' fun t ht => ?_, HK.out.nx.keepB hg7' (fun b hb hx => by simp only [Option.mem_toList] at hx; exact hnl b hb hx), by simpa using hown7, fun b hb hx => ?_, by simp [HJ.out.ul], fun j u' r' h1 h2 => ?_, fun hi => ?_, HK.out.nl⟩
              · simp only [List.mem_cons, Option.mem_toList] at ht
                rcases ht with rfl | ht
                · exact .inr (by omega)
                · exact .inr (HJ.out.nx.ownB ht).1
              · simp only [Option.mem_toList] at ht
                exact .inr (HJ.out.ly.own ht).1
              · rw [ob] at hx
                cases hx
                rcases hwh7 with h | h
                · exact hnl _ hb h
                · have := hnz _ hb; omega
              · by_cases hj : j < us.length
                · rw [List.getElem?_append_left hj] at h1
                  have hold := HJ.out.el j u' r' h1 h2
                  have hq7 : Gr (g :: ((Value.slice no (ints ns).length nc).ownBlock.toList ++ (Value.slice lo us.length lc).ownBlock.toList)) wq w7 :=
                    (hqz.sub (fun t _ ht => by rcases List.mem_cons.1 ht with rfl | ht <;> simp_all)).trans (hg7'.sub (fun t _ ht => by simp_all))
                  refine hold.mv hq7 (fun t ht => ?_) fun b hb => ?_
                  · rcases List.mem_cons.1 ht with rfl | ht
                    · exact .inr hgB
                    · rcases List.mem_append.1 ht with ht | ht
                      · exact .inl (List.mem_append.2 (.inl ht))
                      · exact .inl (List.mem_append.2 (.inr (List.mem_append.2 (.inl ht))))
                  · rcases List.mem_append.1 hb with hb | hb
                    · simp only [Option.mem_toList] at hb
                      rcases HK.out.nb b hb with h | h
                      · exact .inl (List.mem_append.2 (.inl (Option.mem_toList.2 h)))
                      · exact .inr (by omega)
                    · rcases List.mem_append.1 hb with hb | hb
                      · rw [ob] at hb
                        simp only [Option.toList_some, List.mem_singleton] at hb
                        subst hb
                        rcases hwh7 with h | h
                        · exact .inl (List.mem_append.2 (.inr (List.mem_append.2 (.inl (Option.mem_toList.2 h)))))
                        · exact .inr (by omega)
                      · exact .inl (List.mem_append.2 (.inr (List.mem_append.2 (.inr hb))))
                · have hj2 : j = us.length := by have := (List.getElem?_eq_some_iff.1 h1).1; simp at this; omega
                  subst hj2
                  rw [List.getElem?_append_right (Nat.le_refl _)] at h1
                  simp only [Nat.sub_self, List.getElem?_cons_zero, Option.some.injEq] at h1
                  subst h1
                  rw [HJ.out.ul, List.getElem?_map, HSa.out] at h2
                  simp only [Option.map_some, Option.some.injEq] at h2
                  subst h2
                  rw [← Hrow.out]
                  have hnum : Nums ((Value.slice zo (ints ns').length zc).ownBlock.toList ++ (g7 :: (Value.slice oo ous.length oc).ownBlock.toList ++ (Value.slice lo us.length lc).ownBlock.toList)) wz .i64 (.slice (some ⟨g, 0, none⟩) 6 6) row :=
                    Nums.cap (HK.out.rw.numsB fun b hb hx => by
                      rw [ob] at hb
                      cases hb
                      simp only [List.mem_append, List.mem_cons, Option.mem_toList] at hx
                      rcases hx with hx | (hx | hx) | hx
                      · exact HK.out.rn _ hx rfl
                      · exact hgg7 hx
                      · have := (HI.out.ow.own hx).2; omega
                      · exact (Hlyb.out _ hx).1 rfl)
                  refine (hnum.gr (hg7'.sub (fun t _ ht => List.mem_append.2 (.inr (List.mem_append.2 (.inr ht)))))).sub (fun b _ hb => ?_)
                  rcases List.mem_append.1 hb with hb | hb
                  · exact List.mem_append.2 (.inl hb)
                  · rcases List.mem_append.1 hb with hb | hb
                    · rw [ob] at hb
                      simp only [Option.toList_some, List.mem_singleton] at hb
                      exact List.mem_append.2 (.inr (by simp [hb]))
                    · exact List.mem_append.2 (.inr (List.mem_append.2 (.inl (List.mem_cons_of_mem _ hb))))
              · have := HK.out.nn hi
                rw [show vs6.take 6 = vs6 from rfl, ← nextL_snoc HSa.out] at this
                exact this
        · have hak' : a = kn := by omega
          subst hak'
          clear hla
          have hous : ous.length ≤ 4 := by rw [HI.out.ol]; omega
          have hown3 := HI.out.ow.gr HJ.out.gr
          have Hown3 := hid hown3
          clear hown3
          go_wp2_with (at_builtin; refine wp_appV rfl _ _ 29 rfl 1 w.heap.size 24 _ 24 infoRr rfl (by omega) (by omega) Tryz.underlying29 _ (ous.map fun u => [u]) rfl (Hown3.out.gr ((Gr.refl _ _).alloc _)) _ 1 [.slice lo us.length lc] rfl rfl (by simp [Value.oneCell']) (fun j u hj => by match j, hj with | 0, hj => (simp at hj; subst hj; exact cell_new _ _ _) | j + 1, hj => simp at hj) (by rw [List.length_map]; omega) (by have h1 := HJ.out.gr.size; have h2 := HI.out.gr.size; simp; omega) ?_; intro g7 c7 w7 hown7 hg7 hwh7 hlt7)
          have hs1 := HJ.out.gr.size; have hs2 := HI.out.gr.size
          have hgal : Gr [] wq (wq.alloc (.cells #[.slice lo us.length lc] 24)) := (Gr.refl _ _).alloc _
          have hsA := hgal.size
          have hg7' : Gr (Value.slice oo ous.length oc).ownBlock.toList wq w7 := hgal.any.trans hg7
          have hout : ∀ b, (Value.slice oo ous.length oc).ownBlock = some b → b < wr.heap.size := fun b hb => (HI.out.ow.own hb).2
          have hg7b : (Value.slice oo ous.length oc).ownBlock = some g7 ∨ wq.heap.size ≤ g7 := hwh7.imp id fun h => by omega
          have hnew : ∀ b, wr.heap.size ≤ b → b < wq.heap.size → b ∉ g7 :: (Value.slice oo ous.length oc).ownBlock.toList := fun b h1 h2 hx => by
            simp only [List.mem_cons, Option.mem_toList] at hx
            rcases hx with hx | hx
            · subst hx
              rcases hg7b with h | h
              · have := hout _ h; omega
              · omega
            · have := hout _ hx; omega
          have hiW : i < p.W.length := by rw [← Hn.out]; exact hlt
          have hka : (layS S0 i).length = a := by rw [← (HI.out.nb hiW).len, ← Hkn.out]
          rw [List.length_map] at hown7
          refine ⟨⟨i + 1, ous ++ [.slice lo us.length lc], ns, by omega, by go_num, ?_⟩, by simp [intOf]; omega⟩
          refine ⟨(HI.out.gr.trans HJ.out.gr).step hg7' fun t ht => ?_, by simpa using hown7, by simp [HI.out.ol], fun j u L h1 h2 => ?_, ?_, fun hi => ?_⟩
          · simp only [Option.mem_toList] at ht
            exact .inr (HI.out.ow.own ht).1
          · by_cases hj : j < ous.length
            · rw [List.getElem?_append_left hj] at h1
              refine (HI.out.oe j u L h1 h2).mv (HJ.out.gr.any.trans hg7') (fun t ht => .inl ht) fun b hb => ?_
              rw [ob] at hb
              simp only [Option.toList_some, List.mem_singleton] at hb
              subst hb
              exact hg7b.imp (fun h => Option.mem_toList.2 h) (fun h => by omega)
            · have hj2 : j = ous.length := by have := (List.getElem?_eq_some_iff.1 h1).1; simp at this; omega
              subst hj2
              rw [List.getElem?_append_right (Nat.le_refl _)] at h1
              simp only [Nat.sub_self, List.getElem?_cons_zero, Option.some.injEq] at h1
              subst h1
              rw [HI.out.ol, dgm_get0 _ hiW] at h2
              simp only [Option.some.injEq] at h2
              subst h2
              have hr : RowsV (g7 :: (Value.slice oo ous.length oc).ownBlock.toList) wq (.slice lo us.length lc) ((layS S0 i).map (rowP (layS S0 (i + 1)))) :=
                HJ.out.ly.rows (by rw [List.length_map, hka, HJ.out.ul]) (fun b hb => by
                  have := HJ.out.ly.own hb
                  exact hnew b this.1 this.2) fun j u r hu hr => by
                  refine (HJ.out.el j u r hu hr).sub fun b hbl hb => ?_
                  refine List.mem_append.2 (.inr (List.mem_append.2 (.inr ?_)))
                  rcases List.mem_cons.1 hb with rfl | hb
                  · exact Option.mem_toList.2 (hg7b.resolve_right (by omega))
                  · exact hb
              refine (hr.gr (hg7'.sub fun t _ ht => List.mem_cons_of_mem _ ht)).sub fun b _ hb => ?_
              rw [ob] at hb
              simp only [Option.toList_some, List.mem_singleton] at hb
              rw [hb]; exact List.mem_cons_self
          · rw [ob]
            refine ((HJ.out.nx.numsB (S := g7 :: (Value.slice oo ous.length oc).ownBlock.toList) fun b hb => ?_).gr (hg7'.sub fun t _ ht => List.mem_cons_of_mem _ ht)).sub fun b _ hb => ?_
            · have := HJ.out.nx.ownB hb
              exact hnew b this.1 this.2
            · simp only [Option.toList_some, List.mem_singleton] at hb
              rw [hb]; exact List.mem_cons_self
          · have := HJ.out.nn hi
            rw [List.take_of_length_le (by omega)] at this
            exact this
    · have hin' : i = n := by omega
      subst hin'
      obtain ⟨u0, hu0⟩ := get_some (xs := ous) (k := 0) (by rw [HI.out.ol]; omega)
      obtain ⟨go, co, eo, hgo, -, -⟩ := HI.out.ow.at (i := 0) (cs := [u0]) (by rw [List.getElem?_map, hu0]; rfl)
      rw [List.length_map] at eo
      cases eo
      have hoc1 := hoc.1; have hoc2 := hoc.2.1
      have hd : DgV [] wr (.slice (some ⟨go, 0, none⟩) ous.length oc) (dgm p.W.length [S0]) :=
        HI.out.ow.dg (by rw [HI.out.ol, dgm_len, Hn.out]) (by simp) fun j u L hu hL => (HI.out.oe j u L hu hL).sub (by simp)
      have Hd := hid hd
      have Hgr := hid HI.out.gr
      clear hd hoc hu0 hlt
      go_wp2_with fail
      refine (clipD_c go ous.length oc wr hoc1 hoc2).mono ?_
      rintro e w5 ⟨rfl, hw5⟩
      rw [hw5]
      clear hw5
      go_wp2_with fail
      go_ret
      refine ⟨_, rfl, ?_, Hgr.out⟩
      obtain ⟨ao, cap, e, ⟨h1, h2, h3⟩, hc⟩ := Hd.out
      simp only [Value.slice.injEq] at e
      obtain ⟨rfl, e2, rfl⟩ := e
      exact ⟨some ⟨go, 0, none⟩, ous.length, by rw [← e2]; rfl, ⟨by omega, by omega, by simp⟩, hc⟩
end Go.Proofs.YtmonhpoogfdpoaaGreat
