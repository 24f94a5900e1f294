/-
  slices.DeleteFunc over rows of numbers, with whatever function.
-/
import Derived.Test.YtdpcjfbnakfflaaGreatRe
import Derived.Lib.SliceRun
set_option linter.unusedVariables false
set_option linter.unusedSimpArgs false
namespace Go.Proofs.YtdpcjfbnakfflaaGreat
open Go.RowKit

theorem idxRow2_c (cs : List (List Int)) (p : List Int → Bool) (v : Value) (k : Nat) (C : Array Value) (w : World) (hv : RowsV [] w v cs)
    (hk : ∀ args w, (callFunc k args).run Tryz.prog w = .ok (.enter k args) w)
    (hf : ∀ c cv w1, c ∈ cs → Gr [] w w1 → Nums [] w1 .i64 cv c → Calls Tryz.prog k (#[cv] ++ C) w1 fun e w2 => e = .returned (.bool (p c)) ∧ Gr [] w1 w2) :
    Calls Tryz.prog 176 #[v, .func (.func k) #[] C] w fun e w' => (∃ i : Int, e = .returned (.int .i64 i) ∧ ((i = -1 ∧ ∀ x ∈ cs, p x = false) ∨ ∃ (n : Nat) (x : List Int), i = (n : Int) ∧ cs[n]? = some x ∧ p x = true ∧ ∀ (j : Nat) y, j < n → cs[j]? = some y → p y = false)) ∧ Gr [] w w' := by
  obtain ⟨ao, cap, rfl, ⟨hlc, hcm, _⟩, hc⟩ := hv
  have hlen : cs.length ≤ 9223372036854775807 := by omega
  have Hf := hid hf; clear hf
  have Hc := hid hc; clear hc
  go_enter Tryz.func176, Tryz.ntmps176
  go_wp2_with fail
  go_loopw [8] (fun i wr => ∃ n : Nat, n ≤ cs.length ∧ i = .int .i64 n ∧ (∀ (j : Nat) x, j < n → cs[j]? = some x → p x = false) ∧ Gr [] w wr) (fun i _ => cs.length - (intOf i).toNat)
  case atStart => exact ⟨0, Nat.zero_le _, rfl, by intro j x hj; omega, Gr.refl _ _⟩
  case round =>
    obtain ⟨n, hn, rfl, hp, hg⟩ := hrel
    have HP := hid hp; clear hp
    by_cases hlt : n < cs.length
    · obtain ⟨c, hx⟩ := get_some hlt
      obtain ⟨b, o, cv, rfl, hs, h0, hcv⟩ := (Hc.out.gr hg) n c hx
      have HX := hid hx; clear hx
      have Hcv := hid hcv; clear hcv
      go_wp2_with fail
      refine (Hf.out c _ _ (List.mem_of_getElem? HX.out) hg Hcv.out).mono ?_
      rintro e w2 ⟨rfl, hg2⟩
      cases hb : p c
      all_goals go_wp2_with fail
      · exact ⟨⟨n + 1, by omega, by go_num, below_snoc HP.out HX.out hb, hg.trans hg2⟩, by simp [intOf]; omega⟩
      · go_ret
        exact ⟨⟨n, rfl, .inr ⟨n, c, rfl, HX.out, hb, HP.out⟩⟩, hg.trans hg2⟩
    · go_wp2_with fail
      go_ret
      refine ⟨⟨-1, rfl, .inl ⟨rfl, fun x hx => ?_⟩⟩, hg⟩
      obtain ⟨j, hj⟩ := List.mem_iff_getElem?.1 hx
      exact HP.out j x (by have := (List.getElem?_eq_some_iff.1 hj).1; omega) hj

/-! ### The places of what is kept -/
def keptI (p : List Int → Bool) (zs : List (List Int)) (j : Nat) : List Nat := (List.range j).filter fun t => !p (zs.getD t [])
theorem getD_of {zs : List (List Int)} {t : Nat} {x : List Int} (h : zs[t]? = some x) : zs.getD t [] = x := by rw [List.getD_eq_getElem?_getD, h]; rfl
theorem keptI_succ {p : List Int → Bool} {zs : List (List Int)} {j : Nat} {x : List Int} (h : zs[j]? = some x) : keptI p zs (j + 1) = keptI p zs j ++ if p x then [] else [j] := by
  unfold keptI
  rw [List.range_succ, List.filter_append]
  congr 1
  simp only [List.filter_cons, List.filter_nil, getD_of h]
  cases p x <;> rfl
theorem keptI_map (p : List Int → Bool) (zs : List (List Int)) : ∀ n, n ≤ zs.length → (keptI p zs n).map (fun t => zs.getD t []) = (zs.take n).filter fun x => !p x := by
  intro n
  induction n with
  | zero => intro _; simp [keptI]
  | succ n ih =>
    intro h
    obtain ⟨x, hx⟩ := get_some (xs := zs) (k := n) (by omega)
    rw [keptI_succ hx, List.map_append, ih (by omega), List.take_add_one, hx, List.filter_append]
    congr 1
    cases hp : p x
    · simp [hp, hx]
    · simp [hp]
theorem keptI_all {p : List Int → Bool} {zs : List (List Int)} {n : Nat} (hn : n ≤ zs.length) (h : ∀ (j : Nat) y, j < n → zs[j]? = some y → p y = false) : keptI p zs n = List.range n := by
  unfold keptI
  rw [List.filter_eq_self]
  intro t ht
  have := List.mem_range.1 ht
  obtain ⟨x, hx⟩ := get_some (xs := zs) (k := t) (by omega)
  rw [getD_of hx, h t x this hx]; rfl
theorem keptI_sorted (p : List Int → Bool) (zs : List (List Int)) (n : Nat) : (keptI p zs n).Pairwise (· < ·) := List.Pairwise.filter _ List.pairwise_lt_range
theorem keptI_lt {p : List Int → Bool} {zs : List (List Int)} {n t : Nat} (h : t ∈ keptI p zs n) : t < n := List.mem_range.1 (List.mem_filter.1 h).1
theorem Gr.setCells {S : List Nat} {g : Nat} (hg : g ∈ S) : ∀ (vs : List Value) (o : Nat) {w w' : World}, Gr S w w' → Gr S w (w'.setCells g o vs)
  | [], _, _, _, h => h
  | v :: vs, o, w, w', h => Gr.setCells hg vs (o + 1) (h.setCell ⟨g, o, none⟩ v (.inl hg))
set_option maxRecDepth 100000 in
theorem zeroRow : ∀ w, (zeroValue 22).run Tryz.prog w = .ok (.slice none 0 0) w := by
  intro w
  first
    | rfl
    | kernel_rfl
    | (simp [zeroValue, go_sem]; done)

set_option maxRecDepth 100000 in
set_option maxHeartbeats 2000000 in
theorem DeleteFunc_c (zs : List (List Int)) (p : List Int → Bool) (B E k : Nat) (C : Array Value) (lv : Value) (w : World) (hl : RowsE B E w lv zs)
    (hk : ∀ args w, (callFunc k args).run Tryz.prog w = .ok (.enter k args) w)
    (hf : ∀ (S : List Nat) x cv W, x ∈ zs → (∀ b ∈ S, B ≤ b ∧ b < E) → Gr S w W → Nums [] W .i64 cv x → Calls Tryz.prog k (#[cv] ++ C) W fun e W' => e = .returned (.bool (p x)) ∧ Gr [] W W') :
    Calls Tryz.prog 198 #[lv, .func (.func k) #[] C] w fun e w' => ∃ v', e = .returned v' ∧ RowsE B E w' v' (zs.filter fun x => !p x) ∧ ∃ g, B ≤ g ∧ Gr [g] w w' := by
  have Hl := hid hl; have Hf := hid hf; have Hk := hid hk
  have HR := hid (hl.rows (S := []) (by simp))
  obtain ⟨ao, cap, rfl, ⟨hl1, hl2, hl3⟩, gs, hnd, hgl, hrow⟩ := hl
  have Hrow := hid hrow; have Hnd := hid hnd; have Hgl := hid hgl
  clear hf hrow hnd hgl hl3
  go_enter Tryz.func198, Tryz.ntmps198
  go_wp2_with fail
  have hcall := idxRow2_c zs p _ k C w HR.out Hk.out (fun c cv w1 hc hg hn => Hf.out [] c cv w1 hc (by simp) hg hn)
  (with_reducible refine hcall.mono ?_)
  clear hcall
  rintro e w1 ⟨⟨i, rfl, hi⟩, hg1⟩
  rcases hi with ⟨rfl, hno⟩ | ⟨n, x0, rfl, hx0, hp0, hbef⟩
  · have Hno := hid hno; clear hno
    go_wp2_with fail
    go_ret
    refine ⟨_, rfl, ?_, B, Nat.le_refl _, hg1.any⟩
    rw [List.filter_eq_self.2 (fun x hx => by rw [Hno.out x hx]; rfl)]
    exact Hl.out.keep hg1 (by simp)
  · have hn := (List.getElem?_eq_some_iff.1 hx0).1
    obtain ⟨g, _, _, e1, _, ⟨hgB, hgE⟩, _⟩ := Hrow.out n x0 hx0
    subst e1
    have hne1 : (((n : Nat) : Int) == -1) = false := beq_eq_false_iff_ne.2 (by omega)
    obtain ⟨U, hU⟩ : ∃ U : Nat → Value, U = fun t => (w.cell? ⟨g, t, none⟩).getD (.slice none 0 0) := ⟨_, rfl⟩
    have HU : Hid (∀ (t : Nat) r, zs[t]? = some r → ∃ b c, gs[t]? = some b ∧ (B ≤ b ∧ b < E) ∧ b ≠ g ∧ U t = .slice (some ⟨b, 0, none⟩) r.length c ∧ w.cell? ⟨g, t, none⟩ = some (U t) ∧ w.frozen? ⟨g, t, none⟩ = false ∧ InB b w (.slice (some ⟨b, 0, none⟩) r.length c) r) := hid fun t r hr => by
      obtain ⟨g', b, c, e2, k1, k2, k3, k4, k5, k6, k7⟩ := Hrow.out t r hr
      have : g' = g := by simpa using e2.symm
      subst this
      refine ⟨b, c, k1, k3, fun e => k4 (by rw [← e]; exact List.mem_of_getElem? k1), by rw [hU]; simp only [k5]; rfl, by rw [hU]; simp only [k5]; rfl, k6 t, k7⟩
    have Hgn : Hid (g ∉ gs) := hid (by
      obtain ⟨g', b, c, e2, k1, k2, k3, k4, _⟩ := Hrow.out n x0 hx0
      have : g' = g := by simpa using e2.symm
      rw [← this]; exact k4)
    have HF0 : Hid (∀ t, w.frozen? ⟨g, t, none⟩ = false) := hid (by
      obtain ⟨g', b, c, e2, k1, k2, k3, k4, k5, k6, k7⟩ := Hrow.out n x0 hx0
      have : g' = g := by simpa using e2.symm
      rw [← this]; exact k6)
    have hgw : g < w.heap.size := by
      obtain ⟨b, c, _, _, _, _, k, _⟩ := HU.out n x0 hx0
      exact World.block_lt_of_cell? _ _ k
    have Hx0 := hid hx0; have Hbef := hid hbef; have Hg1 := hid hg1
    have HK0 := hid (keptI_succ (p := p) hx0)
    clear hU hx0 hbef hg1
    go_wp2_with fail
    go_loopw [5, 6] (fun s5 s6 wr => ∃ (j i : Nat), s5 = .int .i64 i ∧ s6 = .int .i64 j ∧ j ≤ zs.length ∧ i = (keptI p zs j).length ∧ i < j ∧ (∀ (t q : Nat), (keptI p zs j)[t]? = some q → wr.cell? ⟨g, t, none⟩ = some (U q)) ∧ (∀ t, j ≤ t → t < zs.length → wr.cell? ⟨g, t, none⟩ = some (U t)) ∧ (∀ t, t < zs.length → (wr.cell? ⟨g, t, none⟩).isSome = true) ∧ (∀ t, wr.frozen? ⟨g, t, none⟩ = false) ∧ Gr [g] w wr) (fun _ s6 _ => zs.length - (intOf s6).toNat)
    case atStart =>
      have hk0 : keptI p zs (n + 1) = List.range n := by rw [HK0.out, hp0, if_pos rfl, List.append_nil, keptI_all (by omega) Hbef.out]
      refine ⟨n + 1, n, rfl, by go_num, by omega, by rw [hk0, List.length_range], by omega, fun t q hq => ?_, fun t h1 h2 => ?_, fun t ht => ?_, fun t => (Hg1.out.frozen (a := ⟨g, t, none⟩) hgw (by simp)).trans (HF0.out t), Hg1.out.any⟩
      · rw [hk0] at hq
        have h1 := (List.getElem?_eq_some_iff.1 hq)
        obtain ⟨h2, h3⟩ := h1
        rw [List.getElem_range] at h3
        subst h3
        rw [List.length_range] at h2
        obtain ⟨r, hr⟩ := get_some (xs := zs) (k := t) (by omega)
        obtain ⟨b, c, _, _, _, _, k, _⟩ := HU.out t r hr
        exact Hg1.out.cell k (by simp)
      · obtain ⟨r, hr⟩ := get_some h2
        obtain ⟨b, c, _, _, _, _, k, _⟩ := HU.out t r hr
        exact Hg1.out.cell k (by simp)
      · obtain ⟨r, hr⟩ := get_some ht
        obtain ⟨b, c, _, _, _, _, k, kf, _⟩ := HU.out t r hr
        rw [Hg1.out.cell k (by simp)]; rfl
    case round =>
      obtain ⟨j, i, rfl, rfl, hj, hi, hij, hkc, hrest, hall, hfz, hg⟩ := hrel
      have Hkc := hid hkc; have Hrest := hid hrest; have Hall := hid hall; have Hfz := hid hfz; have Hg := hid hg; have Hi := hid hi
      have hgr : g < wr.heap.size := Nat.lt_of_lt_of_le hgw hg.size
      clear hkc hrest hall hg hi hfz
      by_cases hlt : j < zs.length
      · obtain ⟨x, hx⟩ := get_some hlt
        obtain ⟨b, c, _, hbE, hbg, hUj, hcell, _, hin⟩ := HU.out j x hx
        have hcj := Hrest.out j (Nat.le_refl _) hlt
        rw [hUj] at hcj
        have Hin := hid (hin.gr' (M' := fun q => q = b) Hg.out (by intro q hq e; simp at hq; omega) (fun _ _ h => h))
        have hso := Hall.out i (by omega)
        have hfo := Hfz.out i
        obtain ⟨old, hold⟩ := Option.isSome_iff_exists.1 hso
        have Hx := hid hx; have HUj := hid hUj
        have hgs : ∀ q ∈ [g], B ≤ q ∧ q < E := by intro q hq; simp at hq; omega
        have Hgs := hid hgs
        clear hx hUj hin hcell hso hgs
        go_wp2_with fail
        refine (Hf.out [g] x _ wr (List.mem_of_getElem? Hx.out) Hgs.out Hg.out (Hin.out.nums (by simp))).mono ?_
        rintro e w5 ⟨rfl, hg5⟩
        have hold5 := hg5.cell hold (by simp)
        have hfo5 := (hg5.frozen (a := ⟨g, i, none⟩) (World.block_lt_of_cell? _ _ hold) (by simp)).trans hfo
        have Hg5 := hid hg5
        have hlg := World.block_lt_of_cell? _ _ hold
        clear hg5 hcj hold hfo
        have HS := hid (keptI_succ (p := p) Hx.out)
        cases hb : p x
        · have Hb := hid hb; clear hb
          go_wp2_with fail
          have hks : keptI p zs (j + 1) = keptI p zs j ++ [j] := by rw [HS.out, Hb.out]; rfl
          have oth : ∀ (v : Value) t, t ≠ i → (w5.setCell ⟨g, i, none⟩ v).cell? ⟨g, t, none⟩ = w5.cell? ⟨g, t, none⟩ := fun v t h => World.cell?_setCell_other _ _ _ _ (by first | (simp; done) | (simp; exact fun e => h e.symm) | (simp; exact h))
          refine ⟨⟨j + 1, i + 1, by go_num, by go_num, by omega, by rw [hks, List.length_append, Hi.out, List.length_singleton], by omega, fun t q hq => ?_, fun t h1 h2 => ?_, fun t ht => ?_, fun t => by rw [World.frozen?_setCell]; exact (Hg5.out.frozen (a := ⟨g, t, none⟩) hgr (by simp)).trans (Hfz.out t), (Hg.out.trans Hg5.out.any).setCell _ _ (.inl (by simp))⟩, by simp [intOf]; omega⟩
          · rw [hks] at hq
            have hiK := Hi.out
            by_cases hti : t < i
            · rw [List.getElem?_append_left (by omega)] at hq
              rw [oth _ t (by omega)]
              exact Hg5.out.cell (Hkc.out t q hq) (by simp)
            · have hl := (List.getElem?_eq_some_iff.1 hq).1
              rw [List.length_append, List.length_singleton] at hl
              have : t = i := by omega
              subst this
              rw [List.getElem?_append_right (by omega), show t - (keptI p zs j).length = 0 by omega] at hq
              simp at hq
              subst hq
              rw [HUj.out]
              exact World.cell?_setCell_same _ _ _ hold5
          · rw [oth _ t (by omega)]
            exact Hg5.out.cell (Hrest.out t (by omega) h2) (by simp)
          · obtain ⟨o1, ho1⟩ := Option.isSome_iff_exists.1 (Hall.out t ht)
            have h5 := Hg5.out.cell ho1 (by simp)
            by_cases hti : t = i
            · subst hti; rw [World.cell?_setCell_same _ _ _ hold5]; rfl
            · rw [oth _ t hti, h5]; rfl
        · have Hb := hid hb; clear hb
          go_wp2_with fail
          have hks : keptI p zs (j + 1) = keptI p zs j := by rw [HS.out, Hb.out, if_pos rfl, List.append_nil]
          refine ⟨⟨j + 1, i, by go_num, by go_num, by omega, by rw [hks]; exact Hi.out, by omega, fun t q hq => ?_, fun t h1 h2 => ?_, fun t ht => ?_, fun t => (Hg5.out.frozen (a := ⟨g, t, none⟩) hgr (by simp)).trans (Hfz.out t), Hg.out.trans Hg5.out.any⟩, by simp [intOf]; omega⟩
          · rw [hks] at hq; exact Hg5.out.cell (Hkc.out t q hq) (by simp)
          · exact Hg5.out.cell (Hrest.out t (by omega) h2) (by simp)
          · obtain ⟨o1, ho1⟩ := Option.isSome_iff_exists.1 (Hall.out t ht)
            rw [Hg5.out.cell ho1 (by simp)]; rfl
      · have hjn : j = zs.length := by omega
        subst hjn
        have hcl : ∀ ty, (Builtin.clear_ #[61] ty #[.slice (some ⟨g, i, none⟩) (zs.length - i) (cap - i)]).run Tryz.prog wr = .ok (.tuple #[]) (wr.setCells g i (List.replicate (zs.length - i) (.slice none 0 0))) :=
          fun ty => Go.Lib.run_clear_slice wr _ _ ty _ Tryz.underlying61 zeroRow rfl rfl g i _ _ (by omega) (fun t ht => Hall.out (i + t) (by omega)) (fun t ht => Hfz.out (i + t))
        go_wp2_with fail
        go_ret
        have hgE2 : Gr [g] w (wr.setCells g i (List.replicate (zs.length - i) (.slice none 0 0))) := Gr.setCells (by simp) _ _ Hg.out
        have hfil : (zs.filter fun x => !p x) = (keptI p zs zs.length).map (fun t => zs.getD t []) := by rw [keptI_map p zs _ (Nat.le_refl _), List.take_length]
        refine ⟨.slice (some ⟨g, 0, none⟩) i cap, rfl, ?_, g, hgB, hgE2⟩
        rw [hfil]
        refine ⟨some ⟨g, 0, none⟩, cap, by rw [List.length_map, ← Hi.out], ⟨by rw [List.length_map, ← Hi.out]; omega, hl2, by simp⟩, (keptI p zs zs.length).map (fun t => gs.getD t 0), ?_, by rw [List.length_map, List.length_map], fun t r ht => ?_⟩
        · rw [List.Nodup, List.pairwise_map]
          refine List.Pairwise.imp_of_mem (fun {a b} ha hb hab e => ?_) (keptI_sorted p zs zs.length)
          have ha := keptI_lt ha; have hb := keptI_lt hb
          have h1 : gs.getD a 0 = gs[a]'(by rw [Hgl.out]; exact ha) := by rw [List.getD_eq_getElem?_getD, List.getElem?_eq_getElem]; rfl
          have h2 : gs.getD b 0 = gs[b]'(by rw [Hgl.out]; exact hb) := by rw [List.getD_eq_getElem?_getD, List.getElem?_eq_getElem]; rfl
          rw [h1, h2] at e
          have := (List.getElem_inj Hnd.out).1 e
          omega
        · rw [List.getElem?_map] at ht
          obtain ⟨q, hq, rfl⟩ := Option.map_eq_some_iff.1 ht
          have hql := keptI_lt (List.mem_of_getElem? hq)
          obtain ⟨r, hr⟩ := get_some hql
          obtain ⟨b, c, k1, k2, k3, k4, k5, k6, k7⟩ := HU.out q r hr
          rw [getD_of hr]
          have htl := (List.getElem?_eq_some_iff.1 hq).1
          refine ⟨g, b, c, rfl, ?_, ⟨hgB, hgE⟩, k2, ?_, ?_, fun t' => ?_, k7.gr' hgE2 (by intro q hq e; simp at hq; omega) (fun _ _ h => h)⟩
          · rw [List.getElem?_map, hq]; simp [List.getD_eq_getElem?_getD, k1]
          · intro hm
            obtain ⟨a, ha, e⟩ := List.mem_map.1 hm
            have hal := keptI_lt ha
            have : gs.getD a 0 ∈ gs := by rw [List.getD_eq_getElem?_getD, List.getElem?_eq_getElem (by rw [Hgl.out]; exact hal)]; exact List.getElem_mem _
            rw [e] at this
            exact Hgn.out this
          · rw [World.cell?_setCells_out _ _ _ _ _ (fun _ _ => .inl (by show t < i; have := Hi.out; omega)), Hkc.out t q hq, k4]
          · rw [World.frozen?_setCells]; exact Hfz.out t'
end Go.Proofs.YtdpcjfbnakfflaaGreat
