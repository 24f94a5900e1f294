/-
  Walks: validity of a list of clauses, implied clauses: the reference.
-/
import Derived.Test.YtpfelbbmgbfkeaaGreatWi
set_option linter.unusedVariables false
set_option linter.unusedSimpArgs false
namespace Go.Proofs.YtpfelbbmgbfkeaaGreat
open Go.RowKit

theorem restL_bit (c : Cls) : ∀ (D : List Nat) (k b : Nat), ((restL D c).getD k 0).testBit b = ((D.getD k 0).testBit b && c.all fun l => l.var.toNat != k || (litD l).testBit b) := by
  induction c with
  | nil => intro D k b; simp [restL]
  | cons l r ih =>
    intro D k b
    show ((restL (andAt D _ _) r).getD k 0).testBit b = _
    rw [ih, andAt_get, List.all_cons]
    by_cases h : k = l.var.toNat
    · subst h
      simp [Nat.testBit_and, Bool.and_assoc]
    · have : (l.var.toNat != k) = true := by rw [bne_iff_ne]; exact fun e => h e.symm
      rw [if_neg h, this]
      simp
theorem restL_ext {c d : Cls} (h : ∀ l, l ∈ c ↔ l ∈ d) (D : List Nat) : restL D c = restL D d := by
  refine List.ext_getElem? fun k => ?_
  by_cases hk : k < D.length
  · have e : (restL D c).getD k 0 = (restL D d).getD k 0 := by
      refine Nat.eq_of_testBit_eq fun b => ?_
      rw [restL_bit, restL_bit]
      congr 1
      rw [Bool.eq_iff_iff, List.all_eq_true, List.all_eq_true]
      exact ⟨fun hh l hl => hh l ((h l).2 hl), fun hh l hl => hh l ((h l).1 hl)⟩
    rw [List.getD_eq_getElem?_getD, List.getD_eq_getElem?_getD] at e
    have h1 : k < (restL D c).length := by rw [restL_len]; exact hk
    have h2 : k < (restL D d).length := by rw [restL_len]; exact hk
    rw [List.getElem?_eq_getElem h1, List.getElem?_eq_getElem h2] at e ⊢
    simpa using e
  · rw [List.getElem?_eq_none (by rw [restL_len]; omega), List.getElem?_eq_none (by rw [restL_len]; omega)]
theorem restL_negs (c : Cls) (D : List Nat) : restL D (c.map negL) = restL D (negsL c) := restL_ext (fun l => by unfold negsL; rw [mem_sortL]) D
theorem litD_neg (l : Lit) (h : 0 ≤ l.val ∧ l.val ≤ 5) : litD (negL l) = 63 - litD l := by
  obtain ⟨a, b, c⟩ := l
  have : b = 0 ∨ b = 1 ∨ b = 2 ∨ b = 3 ∨ b = 4 ∨ b = 5 := by simp at h; omega
  rcases this with rfl | rfl | rfl | rfl | rfl | rfl <;> cases c <;> rfl

set_option maxRecDepth 100000 in
set_option maxHeartbeats 4000000 in
theorem assume_c (D : List Nat) (c : Cls) (dv cv : Value) (w : World) (hd : Nums [] w .i64 dv (ints D)) (hc : LitsV [] w cv c) (hok : ∀ l ∈ c, litOk D.length l = true) (hl : 1 ≤ D.length ∧ D.length ≤ 4) (hb : Below64 D) (hcl : c.length ≤ 1000) :
    Calls Tryz.prog 143 #[dv, cv] w fun e w' => ∃ v', e = .returned v' ∧ OwnC w.heap.size w' 3 v' (ints (restL D (negsL c))) ∧ Gr [] w w' := by
  have Hd := hid hd; have Hc := hid hc; have Hok := hid hok; have H64 := hid hb
  obtain ⟨co, cc, rfl, ⟨hc1, hc2⟩⟩ := hc.slice
  obtain ⟨xo, xc, e1, ⟨hx1, hx2, -⟩, -⟩ := id hd
  rw [ints_len] at e1 hx1
  subst e1
  clear hd hc hok hb
  go_enter Tryz.func143, Tryz.ntmps143
  go_wp2_with fail
  have hcall := copyInts_c _ (ints D) _ Hd.out (by rw [ints_len]; omega)
  (with_reducible refine hcall.mono ?_)
  clear hcall
  rintro e w1 ⟨v1, rfl, ho1', hg1⟩
  have ho1 := ho1'.c
  obtain ⟨g, cap, rfl⟩ := ho1.open (by rw [ints_len]; omega)
  rw [ints_len] at ho1
  rw [ints_len]
  have hgB := ho1.block
  have Ho1 := hid ho1; have Hg1 := hid hg1
  clear ho1 hg1 ho1'
  go_wp2_with fail
  go_loopw [6] (fun i wr => ∃ (n : Nat), n ≤ c.length ∧ i = .int .i64 n ∧ OwnC w.heap.size wr 3 (.slice (some ⟨g, 0, none⟩) D.length cap) (ints (restL D ((c.map negL).take n))) ∧ Gr [g] w1 wr) (fun i _ => c.length - (intOf i).toNat)
  case atStart => exact ⟨0, Nat.zero_le _, rfl, by simpa [restL] using Ho1.out, Gr.refl _ _⟩
  case round =>
    obtain ⟨n, hn, rfl, hown, hg⟩ := hrel
    have Hg := hid hg
    have Hgw : Hid (Gr [] w wr) := hid (Hg1.out.step hg (fun i hi => .inr (by simp at hi; omega)))
    have HOwn := hid hown
    clear hown
    by_cases hlt : n < c.length
    · obtain ⟨l, hx⟩ := get_some hlt
      obtain ⟨⟨hv0, hv1⟩, hval⟩ := litOk_iff.1 (Hok.out l (List.mem_of_getElem? hx))
      have hln := litD_neg l hval
      have hsn := restL_snoc (c := c.map negL) (n := n) (l := negL l) D (by rw [List.getElem?_map, hx]; rfl)
      rw [hln] at hsn
      obtain ⟨b, o, rfl, -, k0, k1, k2⟩ := (Hc.out.gr Hgw.out).at hx
      obtain ⟨lv, lw, ln⟩ := l
      dsimp only at hv0 hv1 hval k0 k1 k2
      obtain ⟨k, rfl⟩ := Int.eq_ofNat_of_zero_le hv0
      have hk : k < D.length := by omega
      obtain ⟨d, hdd⟩ := get_some (xs := restL D ((c.map negL).take n)) (k := k) (by rw [restL_len]; exact hk)
      have hd64 : d < 64 := restL_below _ H64.out d (List.mem_of_getElem? hdd)
      have hl64 := litD_lt ⟨(k : Int), lw, ln⟩ hval
      generalize hA : litD ⟨(k : Int), lw, ln⟩ = a at *
      have hwr : IntKind.i64.wrap (63 - (a : Int)) = ((63 - a : Nat) : Int) := by rw [IntKind.wrap_i64]; omega
      have hand := i64_and d (63 - a) (by omega) (by omega)
      have hset := HOwn.out.set k (((d &&& (63 - a) : Nat)) : Int)
      have hsn' : restL D ((c.map negL).take (n + 1)) = (restL D ((c.map negL).take n)).set k (d &&& (63 - a)) := by rw [hsn]; exact andAt_set _ hdd
      have HSN := hid hsn'; have Hval := hid hval; have HSet := hid hset; have Hdd := hid hdd
      have hat := fun (W : World) (h : Gr [] wr W) => (HOwn.out.gr h (by simp)).at (i := k) (x := d) (by rw [ints_get, Hdd.out]; rfl)
      have Hat := hid hat
      obtain ⟨ca1, ca2⟩ := hat _ (Gr.refl [] wr).drew
      obtain ⟨cb1, cb2⟩ := hat _ (Gr.refl [] wr)
      have Hk := hid (fun (W : World) (h : Gr [] wr W) => (⟨h.cell k0 (by simp), h.cell k1 (by simp), h.cell k2 (by simp)⟩ : W.cell? ⟨b, o + n * 3, none⟩ = some (.int .i64 (k : Int)) ∧ W.cell? ⟨b, o + n * 3 + 1, none⟩ = some (.int .i64 lw) ∧ W.cell? ⟨b, o + n * 3 + 2, none⟩ = some (.bool ln)))
      obtain ⟨ka0, ka1, ka2⟩ := Hk.out _ (Gr.refl [] wr).drew
      have HA := hid hA
      clear hat hset hval hv0 hdd hd64 hl64 hg hsn hsn' hln hA hx
      go_wp2_with fail
      go_region_law (first
        | (go_simp; go_at_call 65; refine (literalDomain_c ⟨(k : Int), lw, ln⟩ _ Hval.out).mono ?_; rw [HA.out]; rintro e w5 ⟨rfl, hg5⟩; have hgx : Gr [] wr w5 := Gr.trans (by first | exact (Gr.refl [] wr).drew | exact Gr.refl [] wr) hg5; have HGX := hid hgx; obtain ⟨cc1, cc2⟩ := Hat.out _ hgx; obtain ⟨kb0, kb1, kb2⟩ := Hk.out _ hgx; clear hg5 hgx; (try dsimp only)))
      all_goals
        go_wp2_with fail
        refine ⟨⟨n + 1, by omega, by go_num, ?_, ?_⟩, by simp [intOf]; omega⟩
        · rw [HSN.out, ints_set]
          exact (HOwn.out.gr HGX.out (by simp)).set k _
        · exact (Hg.out.trans (Gr.any HGX.out)).setCell _ _ (.inl (by simp))
    · have hk : n = c.length := by omega
      subst hk
      rw [List.take_of_length_le (by simp)] at HOwn
      rw [restL_negs] at HOwn
      go_wp2_with fail
      go_ret
      exact ⟨_, rfl, HOwn.out, Hgw.out⟩

set_option maxRecDepth 100000 in
set_option maxHeartbeats 2000000 in
theorem refute_c (m : Mod) (cls : List Cls) (d : List Nat) (mv kv dv : Value) (w : World) (hv : ModV [] w mv m) (hk : ClsV [] w kv cls) (hx : Nums [] w .i64 dv (ints d)) (hc : VCs m.cons d.length) (hd : Below64 d) (hdl : 1 ≤ d.length ∧ d.length ≤ 4) (hok : KOk cls d.length) :
    Calls Tryz.prog 142 #[mv, kv, dv] w fun e w' => e = .returned (.bool (refB m.cons cls d)) ∧ Gr [] w w' := by
  have Hv := hid hv; have Hk0 := hid hk
  obtain ⟨mdv, mcv, rfl, _, hcv⟩ := hv
  obtain ⟨ko, kc, rfl, ⟨hk1, hk2⟩⟩ := hk.slice
  have hg0 : Gr [] w (w.alloc (.cells #[mdv, mcv] 26)) := (Gr.refl _ _).alloc _
  have Hb0 := hid (heap_alloc_new w (.cells #[mdv, mcv] 26))
  have HC := hid hc; have HD := hid hd; have Hx := hid (hx.gr hg0); have Hdl := hid hdl; have Hok := hid hok
  have Hmv := hid (Hv.out.gr hg0); have Hkv := hid (Hk0.out.gr hg0); have Hg0 := hid hg0
  have hfew := hok.few
  clear hcv hc hd hx hdl hok hk hg0
  go_enter Tryz.func142, Tryz.ntmps142
  go_wp2_with fail
  have hbs : w.heap.size < (w.alloc (.cells #[mdv, mcv] 26)).heap.size := by simp
  generalize hW : w.alloc (.cells #[mdv, mcv] 26) = w0 at *
  clear hW
  have hcall := copyInts_c _ (ints d) _ Hx.out (by rw [ints_len]; have := Hdl.out; omega)
  (with_reducible refine hcall.mono ?_)
  clear hcall
  rintro e w1 ⟨v1, rfl, hown1, hg1⟩
  have Hown1 := hid hown1.c; have Hg1 := hid hg1; clear hown1 hg1
  go_wp2_with fail
  go_loopg [7] (d.sum + 1) (fun k v wr => ∃ D : List Nat, D.sum < k ∧ OwnC w0.heap.size wr 3 v (ints D) ∧ D.length = d.length ∧ Below64 D ∧ refB m.cons cls D = refB m.cons cls d ∧ Gr [] w0 wr)
  case atStart => exact ⟨d, by omega, Hown1.out, rfl, HD.out, rfl, Hg1.out⟩
  case round =>
    obtain ⟨D, hk, hown, hDl, hDb, hfix, hg⟩ := hrel
    have hflr := fld (hg.obj Hb0.out (by simp))
    have HCD : Hid (VCs m.cons D.length) := hid (by rw [hDl]; exact HC.out)
    have HOk : Hid (KOk cls D.length) := hid (by rw [hDl]; exact Hok.out)
    have Hdl4 : Hid (1 ≤ D.length ∧ D.length ≤ 4) := hid (by rw [hDl]; exact Hdl.out)
    have Hn := hid (hown.nums' (S := []) (by simp))
    have Hown := hid hown; have HDl := hid hDl; have HDb := hid hDb; have Hfix := hid hfix; have Hg := hid hg
    clear hown hDl hDb hfix hg
    go_wp2_with fail
    have hcall := specFixpoint_c m D _ _ _ (Hmv.out.gr Hg.out) Hn.out HCD.out HDb.out Hdl4.out.2
    (with_reducible refine hcall.mono ?_)
    clear hcall
    rintro e w2 ⟨v2, rfl, hown2, hg2⟩
    have Hown2 := hid (hown2.c.le (B' := w0.heap.size) Hg.out.size); have Hg2 := hid hg2
    have HFb := hid (fix_below HCD.out HDb.out)
    have HFl := hid (fix_len HCD.out)
    clear hown2 hg2 hflr
    go_wp2_with fail
    go_loopw [8, 9] (fun v i wr2 => ∃ n : Nat, n ≤ cls.length ∧ i = .int .i64 n ∧ OwnC w0.heap.size wr2 3 v (ints (clsF (cls.take n) (fix m.cons D))) ∧ Gr [] w2 wr2) (fun _ i _ => cls.length - (intOf i).toNat)
    case atStart => exact ⟨0, Nat.zero_le _, rfl, by simpa [clsF] using Hown2.out, Gr.refl _ _⟩
    case round =>
      obtain ⟨n, hn, rfl, hown, hgi⟩ := hrel
      have Hgi := hid hgi
      have Hg3 := hid ((Hg.out.trans Hg2.out).trans hgi)
      have Hn3 := hid (hown.nums' (S := []) (by simp))
      have Hown3 := hid hown; clear hown hgi
      by_cases hlt : n < cls.length
      · obtain ⟨c, hx⟩ := get_some hlt
        obtain ⟨b, o, vo, vc, rfl, -, k0, hlv⟩ := (Hkv.out.gr Hg3.out).at hx
        have HX := hid hx; have Hlv := hid hlv
        have Hcm := hid (List.mem_of_getElem? hx)
        clear hx hlv
        go_wp2_with fail
        have hcall := clauseFilter_c (clsF (cls.take n) (fix m.cons D)) c _ _ _ Hn3.out Hlv.out (by rw [clsF_len, HFl.out]; exact HOk.out.lits c Hcm.out) (by rw [clsF_len, HFl.out]; exact Hdl4.out) (clsF_below HFb.out) (HOk.out.short c Hcm.out)
        (with_reducible refine hcall.mono ?_)
        clear hcall
        rintro e w4 ⟨v4, rfl, hown4, hg4⟩
        rw [← clsF_snoc HX.out] at hown4
        have Hown4 := hid (hown4.le (B' := w0.heap.size) Hg3.out.size); clear hown4
        go_wp2_with fail
        exact ⟨⟨n + 1, by omega, by go_num, Hown4.out, Hgi.out.trans hg4⟩, by simp [intOf]; omega⟩
      · have hnt : cls.take n = cls := List.take_of_length_le (by omega)
        rw [hnt] at Hown3 Hn3
        obtain ⟨S, hS⟩ : ∃ S, S = stepC m.cons cls D := ⟨_, rfl⟩
        change Hid (OwnC w0.heap.size _ _ _ (ints (stepC m.cons cls D))) at Hown3
        change Hid (Nums [] _ _ _ (ints (stepC m.cons cls D))) at Hn3
        clear hnt hS
        cases h0 : memB 0 (ints (stepC m.cons cls D))
        · have h0' : 0 ∉ stepC m.cons cls D := by rw [memB_ints] at h0; simpa using h0
          have H0 := hid h0; have H0' := hid h0'
          clear h0 h0'
          have hD0 : 0 ∉ D := fun h => H0'.out (stepC_zero HCD.out (by have := Hdl4.out; omega) h)
          have HD0 := hid hD0
          clear hD0
          go_wp2_with (go_at_call 126; refine (hasEmpty_c _ _ _ Hn3.out).mono ?_; rw [H0.out]; rintro e w' ⟨rfl, rfl⟩)
          have hcall := equalInts_c _ _ _ _ _ Hn3.out (Hn.out.gr (Hg2.out.trans Hgi.out))
          (with_reducible refine hcall.mono ?_)
          clear hcall
          rw [decide_ints]
          rintro e w5 ⟨rfl, hg5⟩
          have Hg5 := hid hg5; clear hg5
          by_cases hs : stepC m.cons cls D = D
          · have hs' : decide (stepC m.cons cls D = D) = true := by simpa using hs
            have HS := hid hs; clear hs
            rw [hs']
            clear hs'
            go_wp2_with fail
            go_ret
            exact ⟨ret_bool (by rw [← Hfix.out, refB_done HCD.out (by have := Hdl4.out; omega) HD0.out HS.out]), (Hg0.out.trans Hg3.out).trans Hg5.out⟩
          · have hs' : decide (stepC m.cons cls D = D) = false := by simpa using hs
            have HS := hid hs; clear hs
            rw [hs']
            clear hs'
            have hlt2 := stepC_lt HCD.out HS.out
            go_wp2_with fail
            go_roundg (D.sum)
            case measure => omega
            case rel => exact ⟨stepC m.cons cls D, hlt2, Hown3.out.gr Hg5.out (by simp), by rw [stepC_len HCD.out, HDl.out], stepC_below HCD.out HDb.out, by rw [← refB_more HCD.out HD0.out]; exact Hfix.out, Hg3.out.trans Hg5.out⟩
        · have h0' : 0 ∈ stepC m.cons cls D := by rw [memB_ints] at h0; simpa using h0
          have H0 := hid h0; have H0' := hid h0'
          clear h0 h0'
          go_wp2_with (go_at_call 126; refine (hasEmpty_c _ _ _ Hn3.out).mono ?_; rw [H0.out]; rintro e w' ⟨rfl, rfl⟩)
          go_ret
          exact ⟨ret_bool (by rw [← Hfix.out, refB_empty HCD.out (by have := Hdl4.out; omega) H0'.out]), Hg0.out.trans Hg3.out⟩
end Go.Proofs.YtpfelbbmgbfkeaaGreat
