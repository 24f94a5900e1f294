/-
  Walks of the reference's copyStore and validStore.
-/
import Derived.Test.YtihkeihnpiddoaaGreatXSc
import Derived.Test.YtihkeihnpiddoaaGreatXLv
set_option linter.unusedVariables false
set_option linter.unusedSimpArgs false
namespace Go.Proofs.YtihkeihnpiddoaaGreat
open Go.RowKit


set_option maxRecDepth 100000 in
set_option maxHeartbeats 4000000 in
theorem copyStore_c (s : Sto) (v : Value) (w : World) (hv : StoV [] w v s) (hs : s.mod.Small) (h9 : ∀ c ∈ s.mod.cons, c.rows.length ≤ 1000) (hl : s.lv.length ≤ 1000) (hr : ∀ r ∈ s.lv, 1 ≤ r.length ∧ r.length ≤ 1000) :
    Calls Tryz.prog 44 #[v] w fun e w' => ∃ (xo : Option Addr) (xc : Nat) (co : Option Addr) (cc : Nat) (lo : Option Addr) (lc : Nat) (M : Nat → Prop) (xs : List (List Int × Nat)), e = .returned (.agg #[.slice xo s.mod.doms.length xc, .slice co s.mod.cons.length cc, .slice lo s.lv.length lc]) ∧
      ModM M w' (.agg #[.slice xo s.mod.doms.length xc, .slice co s.mod.cons.length cc]) s.mod ∧ (∀ b, M b → (w.heap.size ≤ b ∧ b < w'.heap.size) ∧ (Value.slice lo s.lv.length lc).ownBlock ≠ some b ∧ b ∉ xs.map Prod.snd) ∧ xs.map Prod.fst = s.lv ∧ (xs.map Prod.snd).Nodup ∧ (∀ g ∈ xs.map Prod.snd, w.heap.size ≤ g ∧ g < w'.heap.size) ∧
      OwnG 1 elRowO w.heap.size w' 23 (.slice lo s.lv.length lc) xs ∧ Gr [] w w' := by
  obtain ⟨xo, xc, co, cc, lo, lc, rfl, n1, n2⟩ := hv.open
  have h20 := heap2 w (.cells #[.slice xo s.mod.doms.length xc, .slice co s.mod.cons.length cc, .slice lo s.lv.length lc] 29) (.cells #[.slice none 0 0, .slice none 0 0, .slice none 0 0] 29)
  have hg0 : Gr [] w ((w.alloc (.cells #[.slice xo s.mod.doms.length xc, .slice co s.mod.cons.length cc, .slice lo s.lv.length lc] 29)).alloc (.cells #[.slice none 0 0, .slice none 0 0, .slice none 0 0] 29)) := ((Gr.refl [] w).alloc _).alloc _
  have fb0 := fld h20.1
  have Hb0 := hid h20.1; have Hr0 := hid h20.2; have Hg0 := hid hg0; have HR := hid hr; have Hs := hid hs; have H9 := hid h9
  have H1 := hid (n1.gr hg0); have H2 := hid (n2.gr hg0)
  have hs0 : ((w.alloc (.cells #[.slice xo s.mod.doms.length xc, .slice co s.mod.cons.length cc, .slice lo s.lv.length lc] 29)).alloc (.cells #[.slice none 0 0, .slice none 0 0, .slice none 0 0] 29)).heap.size = w.heap.size + 2 := by simp
  clear n1 n2 hs h20 hg0 hr hv h9
  go_enter Tryz.func44, Tryz.ntmps44
  go_wp2_with fail
  generalize hW0 : (w.alloc (.cells #[.slice xo s.mod.doms.length xc, .slice co s.mod.cons.length cc, .slice lo s.lv.length lc] 29)).alloc (.cells #[.slice none 0 0, .slice none 0 0, .slice none 0 0] 29) = w0 at *
  clear hW0
  have Hs0 := hid hs0
  clear hs0
  have hcall := copyModel_c s.mod _ _ H1.out Hs.out H9.out
  (with_reducible refine hcall.mono ?_)
  clear hcall
  rintro e w1 ⟨ufo, ufc, uco, ucc, rfl, hma, hg1⟩
  have hga : Gr [] w1 (w1.alloc (.cells #[.slice ufo s.mod.doms.length ufc, .slice uco s.mod.cons.length ucc, .slice none 0 0] 29)) := (Gr.refl [] w1).alloc _
  have hbk := sto3 w1 (.slice ufo s.mod.doms.length ufc) (.slice uco s.mod.cons.length ucc) (.slice none 0 0)
  have hs1 := hg1.size
  have hsw : (w1.alloc (.cells #[.slice ufo s.mod.doms.length ufc, .slice uco s.mod.cons.length ucc, .slice none 0 0] 29)).heap.size = w1.heap.size + 1 := by simp
  have HMc := hid (hma.gr' (M' := New w0.heap.size w1) hga (by simp) (fun _ _ h => h))
  have Hbk := hid hbk; have Hgc := hid (hg1.trans hga)
  have fb1 := fld (hg1.obj Hb0.out (by simp))
  clear hma hg1 hga hbk fb0
  go_wp2_with fail
  generalize hWc : w1.alloc (.cells #[.slice ufo s.mod.doms.length ufc, .slice uco s.mod.cons.length ucc, .slice none 0 0] 29) = wc at *
  clear hWc fb1
  have hs00 := Hs0.out
  obtain ⟨X, hXd⟩ : ∃ X : Nat → Prop, ∀ b, X b ↔ b < wc.heap.size := ⟨fun b => b < wc.heap.size, fun _ => Iff.rfl⟩
  have Hown0 : Hid (OwnGX X 1 elRowO wc.heap.size wc 23 (.slice none 0 0) ([] : List (List Int × Nat))) :=
    hid (OwnGX.ofG (OwnG.nil wc.heap.size _ _) (fun b h => .inl ((hXd b).1 h)))
  have HXd := hid hXd
  have hbw : w1.heap.size < wc.heap.size := by omega
  clear hXd
  go_loopw [4] (fun i wr => ∃ (n : Nat) (ov : Value) (xs : List (List Int × Nat)), n ≤ s.lv.length ∧ i = .int .i64 n ∧ xs.map Prod.fst = s.lv.take n ∧ (xs.map Prod.snd).Nodup ∧ (∀ g ∈ xs.map Prod.snd, wc.heap.size ≤ g ∧ g < wr.heap.size) ∧ OwnGX X 1 elRowO wc.heap.size wr 23 ov xs ∧ wr.heap[w1.heap.size]? = some (.cells #[.slice ufo s.mod.doms.length ufc, .slice uco s.mod.cons.length ucc, ov] 29 (0, 0)) ∧ Gr [w1.heap.size] wc wr) (fun i _ => s.lv.length - (intOf i).toNat)
  case atStart => exact ⟨0, _, [], Nat.zero_le _, rfl, by rw [List.take_zero]; rfl, by simp, by simp, Hown0.out, Hbk.out, Gr.refl _ _⟩
  case round =>
    obtain ⟨n, ov, xs, hn, rfl, hx1, hx2, hx3, hown, hb, hg⟩ := hrel
    have hsg := hg.size
    have hgw' : Gr [] w wr := (Hg0.out.trans Hgc.out).step hg (fun i hi => .inr (by simp at hi; omega))
    have hov : ∀ b, ov.ownBlock = some b → wc.heap.size ≤ b ∧ b < wr.heap.size := fun b h => (hown.own h).2
    have Hown := hid hown; have Hb := hid hb; have Hg := hid hg; have Hgw := hid hgw'; have Hov := hid hov
    have hoc : xs.length = n := by have := congrArg List.length hx1; simp at this; omega
    have Hx1 := hid hx1; have Hx2 := hid hx2; have Hx3 := hid hx3
    have HBX : Hid (wr.heap[w.heap.size]? = some (.cells #[.slice xo s.mod.doms.length xc, .slice co s.mod.cons.length cc, .slice lo s.lv.length lc] 29 (0, 0))) := hid (hg.obj (Hgc.out.obj Hb0.out (by simp)) (by simp; omega))
    obtain ⟨oo, oc, rfl, ho1, ho2⟩ := hown.slice
    rw [hoc] at Hown Hb Hov
    have Hoc := hid hoc
    clear hoc hown hb hg hgw' hov ho1 hx1 hx2 hx3
    have fbx := fld HBX.out
    have fbk := fld Hb.out
    by_cases hlt : n < s.lv.length
    · obtain ⟨r, hx⟩ := get_some hlt
      have hrl := HR.out r (List.mem_of_getElem? hx)
      obtain ⟨b, oz, u, e1, hcell, hnu⟩ := (H2.out.gr (Hgc.out.step Hg.out (fun i hi => .inr (by simp at hi; omega)))).at0 hx
      subst e1
      obtain ⟨uo, uc, rfl⟩ : ∃ uo uc, u = .slice uo r.length uc := by obtain ⟨a, c, e, -⟩ := hnu; exact ⟨a, c, e⟩
      have Hx := hid hx; have Hnu := hid hnu
      clear hx hnu
      go_wp2_with fail
      have HBK : Hid (∀ W, Gr [] wr W → W.heap[w1.heap.size]? = some (.cells #[.slice ufo s.mod.doms.length ufc, .slice uco s.mod.cons.length ucc, .slice oo n oc] 29 (0, 0))) := hid fun W h => h.obj Hb.out (by simp)
      go_region_law (first
        | (go_simp; go_at_call 46; refine (copyInts_c _ r _ (Hnu.out.gr (Gr.refl [] wr).drew) (by omega)).mono ?_; rintro e w5 ⟨v5, rfl, ho5, hg5⟩; obtain ⟨g5, pc, rfl, hgl5, -, -⟩ := ho5.open (by omega); have Ho5 := hid (ho5.le (B' := 0) (by omega)); have hgl6 : wr.heap.size ≤ g5 ∧ g5 < w5.heap.size := hgl5; have hgx : Gr [] wr w5 := ((Gr.refl [] wr).drew).trans hg5; have HGX := hid hgx; have HO5 := hid (Hown.out.gr elRowO_ok hgx (by simp)); have fb5 := fld (HBK.out _ hgx); have hs5 := hgx.size; have fa5 := fld (HBK.out _ (hgx.alloc (.cells #[.slice (some ⟨g5, 0, none⟩) r.length pc] 23))); clear ho5 hg5 hgx)
        | (refine step_appGX rfl _ _ 27 rfl 1 elRowO elRowO_ok wc.heap.size 23 (.slice none 0 0) 24 infoR rfl (by omega) (by omega) Tryz.underlying27 (.slice oo n oc) xs rfl X (fun b hb => by have := ((HXd.out b).1 hb); simp; omega) (HO5.out.gr elRowO_ok ((Gr.refl [] w5).alloc _) (by simp)) w5.heap.size 1 (r, g5) [.slice (some ⟨g5, 0, none⟩) r.length pc] rfl rfl (by simp [Value.oneCell']) (fun j q hj => by match j, hj with | 0, hj => (simp at hj; subst hj; exact cell_one _ _ _) | j + 1, hj => simp at hj) (fun S hS => ⟨_, rfl, Ho5.out.alloc _, fun hm => by rcases hS _ hm with h | h | h; (have h2 := ((HXd.out _).1 h); (try simp at h2); omega); (simp at h; omega); (have := (Hov.out _ h).2; (try simp at this); omega)⟩) (by rw [Hoc.out]; omega) (by simp; omega) ?_; intro g7 c7 w7 hown7 hg7 hwh7 hlt7; rw [Hoc.out] at hown7 ⊢; have HO7 := hid hown7; have HG7 := hid hg7; have hr7 := hg7.obj (HBK.out _ (HGX.out.alloc _)) (fun hm => by have := (Hov.out w1.heap.size (by simpa using hm)).1; omega); have Hr7 := hid hr7; have fb7 := fld hr7; have ff7 := fldF hr7; clear hown7 hg7 hr7 hwh7))
      all_goals
        go_wp2_with fail
        refine ⟨⟨n + 1, .slice (some ⟨g7, 0, none⟩) (n + 1) c7, xs ++ [(r, g5)], by omega, by go_num, ?_, ?_, ?_, ?_, ?_, ?_⟩, by simp [intOf]; omega⟩
        · rw [List.take_add_one, Hx.out, List.map_append, Hx1.out]; rfl
        · rw [List.map_append]; exact List.nodup_append.2 ⟨Hx2.out, by simp, fun a ha b hb => by simp at hb; subst hb; have := (Hx3.out a ha).2; omega⟩
        · intro g hg
          have hs7 := HG7.out.size
          simp only [World.size_alloc] at hs7
          rw [List.map_append] at hg
          rcases List.mem_append.1 hg with hg | hg
          · have := Hx3.out g hg; simp; omega
          · simp at hg; subst hg; simp; omega
        · have := HO7.out.gr elRowO_ok (Gr.cell1 [w1.heap.size] w7 ⟨w1.heap.size, 2, none⟩ (.slice (some ⟨g7, 0, none⟩) (n + 1) c7) (by simp)) (fun b hb => by simp at hb; subst hb; exact (HXd.out _).2 hbw)
          exact this
        · have := block_cells (cur' := #[]) Hr7.out 2 (.slice (some ⟨g7, 0, none⟩) (n + 1) c7)
          simpa using this
        · exact ((Hg.out.trans (Gr.any (HGX.out.alloc _))).step HG7.out (fun i hi => .inr (Hov.out i (by simpa using hi)).1)).setCell _ _ (.inl (by simp))
    · have e1 : n = s.lv.length := by omega
      subst e1
      have HG := hid ((Hown.out.g (fun b hb => (HXd.out b).2 hb)).le (B' := w.heap.size + 2) (by have := Hgc.out.size; omega))
      have hrr : wr.heap[w.heap.size + 1]? = some (.cells #[.slice none 0 0, .slice none 0 0, .slice none 0 0] 29 (0, 0)) := Hg.out.obj (Hgc.out.obj Hr0.out (by simp)) (by simp; omega)
      have Hrr := hid hrr; have frr := fld hrr; have ffr := fldF hrr
      clear hrr
      go_wp2_with fail
      have h5 := set3 (.slice ufo s.mod.doms.length ufc) (.slice uco s.mod.cons.length ucc) (.slice oo s.lv.length oc) Hrr.out
      generalize (((wr.setCell ⟨w.heap.size + 1, 0, none⟩ (.slice ufo s.mod.doms.length ufc)).setCell ⟨w.heap.size + 1, 1, none⟩ (.slice uco s.mod.cons.length ucc)).setCell ⟨w.heap.size + 1, 2, none⟩ (.slice oo s.lv.length oc)) = WE at h5 ⊢
      obtain ⟨h5, hG⟩ := h5
      have flE := fld h5
      have hsE := hG.size
      refine bodyPost_ret (v := .agg #[.slice ufo s.mod.doms.length ufc, .slice uco s.mod.cons.length ucc, .slice oo s.lv.length oc]) ?_ rfl ?_
      · simp [results, Tryz.results44, go_sem, flE]
      · refine ⟨_, _, _, _, _, _, New w0.heap.size w1, xs, rfl, (HMc.out.gr' (M' := New w0.heap.size w1) Hg.out (fun b hb hm => by have h1 := hm.2; simp at hb; omega) (fun _ _ h => h)).gr' hG (fun b hb hm => by have := hm.1; simp at hb; omega) (fun _ _ h => h), fun b hm => ⟨⟨by have := hm.1; omega, by have := hm.2; omega⟩, fun h => ?_, fun h => ?_⟩, by rw [Hx1.out, List.take_length], Hx2.out, fun g hg => by have := Hx3.out g hg; omega, ((HG.out.gr elRowO_ok hG (by simp)).le (by omega)), Hgw.out.step hG (fun i hi => .inr (by simp at hi; omega))⟩
        · have h1 := (Hov.out b h).1
          have h2 := hm.2
          omega
        · have h1 := (Hx3.out b h).1
          have h2 := hm.2
          omega

end Go.Proofs.YtihkeihnpiddoaaGreat
