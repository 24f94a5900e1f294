/-
  Lists of clauses that came in as an argument: how they are read; walks of the exact laws' conversions of them.
-/
import Derived.Test.YtpfelbbmgbfkeaaGreatLO
import Derived.Test.YtpfelbbmgbfkeaaGreatEG
set_option linter.unusedVariables false
set_option linter.unusedSimpArgs false
namespace Go.Proofs.YtpfelbbmgbfkeaaGreat
open Go.RowKit Go.ChangeShapes Go.WideShapes

section
variable {H : Type} {enc : TypeId × Value → H} {W : World} {held : Bool}
set_option maxRecDepth 100000
theorem open_clss {fuel : Nat} {u : Value} {x : DataW H × List MemPlace} (h : DataW.trod enc Tryz.prog W 0 (fun _ => true) held fuel 64 [u] = some x) : ∃ cls, ClsV [] W u cls := by
  rcases Go.Deep.open_slice1 Tryz.underlying64 (by kernel_rfl) h with ⟨hcs, _⟩ | ⟨a, len, cap, m, n, V, D, Pl, hcs, _, hl, hm, hmm, _, hx⟩
  · cases hcs
    exact ⟨[], none, 0, rfl, by simp, fun i x hi => by simp at hi⟩
  · cases hcs
    simp only [if_true] at hmm
    have hmm' := hmm.symm
    subst hmm'
    obtain ⟨f, hf⟩ := Go.Deep.choose_lt (n := len) (p := fun i r => LitsV [] W (V i) r) (fun i hi => open_lits (hx i (by omega)).2)
    refine ⟨(List.range len).map f, some a, cap, by simp, ⟨by simpa using hl, by simpa [maxLen] using hm, by simp⟩, fun i r hi => ?_⟩
    have hil : i < len := by have := (List.getElem?_eq_some_iff.1 hi).1; simpa using this
    have hr : r = f i := by
      rw [List.getElem?_map, List.getElem?_range hil] at hi
      simpa using hi.symm
    subst hr
    have h1 := (hx i (by omega)).1
    have h0 := spot_none (hx 0 (by omega)).1
    simp [Addr.add] at h0
    rw [addr_plain h0, addr_add] at h1
    exact ⟨a.block, a.off, V i, by rw [← addr_plain h0], by simp, h1, hf i hil⟩
end

/-- The size of a list of clauses. -/
def szK (cls : List Cls) : Nat := cls.length + (cls.map List.length).sum
theorem szK_few {cls : List Cls} {n : Nat} (h : szK cls ≤ n) : cls.length ≤ n ∧ ∀ c ∈ cls, c.length ≤ n := by
  unfold szK at h
  refine ⟨by omega, fun c hc => ?_⟩
  have := sum_mem List.length hc
  omega
theorem szLiteralSS_c (rows : List Cls) (left : Int) (v : Value) (w : World) (hv : ClsV [] w v rows) (hl : 0 ≤ left ∧ left ≤ 2000000) :
    Calls Tryz.prog 36 #[v, .int .i64 left] w fun e w' => e = .returned (.int .i64 (cut left (szK rows))) ∧ Gr [] w w' := by
  have Hv := hid hv
  obtain ⟨ao, cap, rfl, ⟨h1, h2, _⟩, _⟩ := hv
  by_cases hlt : left < (rows.length : Int)
  · rw [cut_neg (by unfold szK; omega)]
    go_enter Tryz.func36, Tryz.ntmps36
    go_wp2_with fail
    go_ret
    exact ⟨rfl, Gr.refl _ _⟩
  · go_enter Tryz.func36, Tryz.ntmps36
    go_wp2_with fail
    go_loopw [1, 5] (fun lv i wr => ∃ (n : Nat) (l : Int), n ≤ rows.length ∧ i = .int .i64 n ∧ lv = .int .i64 l ∧ (0 ≤ l ∧ l ≤ 2000000) ∧ l = left - (rows.length + ((rows.take n).map List.length).sum : Nat) ∧ Gr [] w wr) (fun _ i _ => rows.length - (intOf i).toNat)
    case atStart => exact ⟨0, left - rows.length, Nat.zero_le _, rfl, by go_num, by omega, by simp, Gr.refl _ _⟩
    case round =>
      obtain ⟨n, l, hn, rfl, rfl, hl, he, hg⟩ := hrel
      have He := hid he; clear he
      by_cases hlt : n < rows.length
      · obtain ⟨r, hr⟩ := get_some hlt
        obtain ⟨b1, o1, uo, uc, rfl, -, hc1, hn1⟩ := (Hv.out.gr hg).at hr
        have Hn1 := hid hn1; have Hs := hid (sum_take List.length hr); have Hle := hid (sum_take_le List.length rows (n + 1)); have Hg := hid hg
        clear hr hn1 hg
        go_wp2_with fail
        have hcall := szLiteralS_c r l _ wr Hn1.out hl
        (with_reducible refine hcall.mono ?_)
        clear hcall
        rintro e w2 ⟨rfl, rfl⟩
        by_cases hlr : l < (r.length : Int)
        · rw [cut_neg hlr]
          go_wp2_with fail
          go_ret
          exact ⟨ret_int (by rw [cut_neg]; have := He.out; have := Hs.out; have := Hle.out; unfold szK; omega), Hg.out⟩
        · rw [cut_pos (by omega)]
          go_wp2_with fail
          exact ⟨⟨n + 1, l - r.length, by omega, by go_num, rfl, by omega, by have := He.out; have := Hs.out; omega, Hg.out⟩, by simp [intOf]; omega⟩
      · go_wp2_with fail
        go_ret
        refine ⟨ret_int ?_, hg⟩
        have := He.out
        rw [List.take_of_length_le (by omega)] at this
        rw [cut_pos (by unfold szK; omega)]; unfold szK; omega

/-! ### Copies -/
theorem infoK : (Tryz.prog.info? 56).map (fun i => (i.zero, i.size, i.bytes)) = some (some (.slice none 0 0), 1, 24) := by kernel_rfl
/-- A new list of clauses, of which the first n are there. -/
def KNew (g : Nat) (e : TypeId) (w : World) (N n : Nat) (cls : List Cls) : Prop :=
  ∃ cur, w.heap[g]? = some (.cells cur e (0, 0)) ∧ cur.size = N ∧ ∀ i c, i < n → cls[i]? = some c → ∃ u, cur[i]? = some u ∧ LitsM (fun b => g < b) w u c
theorem KNew.gr {g : Nat} {e : TypeId} {w w' : World} {N n : Nat} {cls : List Cls} (h : KNew g e w N n cls) (hg : Gr [] w w') : KNew g e w' N n cls := by
  obtain ⟨cur, h1, h2, h3⟩ := h
  refine ⟨cur, hg.obj h1 (by simp), h2, fun i c hi hc => ?_⟩
  obtain ⟨u, k1, k2⟩ := h3 i c hi hc
  exact ⟨u, k1, k2.gr hg⟩
theorem KNew.cell {g : Nat} {e : TypeId} {w : World} {N n : Nat} {cls : List Cls} (h : KNew g e w N n cls) {i : Nat} (hi : i < N) : (∃ u, w.cell? ⟨g, i, none⟩ = some u) ∧ w.frozen? ⟨g, i, none⟩ = false := by
  obtain ⟨cur, h1, h2, -⟩ := h
  have : i < cur.size := by omega
  exact ⟨⟨cur[i], by rw [fld h1 i]; exact Array.getElem?_eq_getElem this⟩, fldF h1 i⟩
theorem KNew.set {g : Nat} {e : TypeId} {w : World} {N n : Nat} {cls : List Cls} (h : KNew g e w N n cls) {c : Cls} (hc : cls[n]? = some c) (hn : n < N) {u : Value} (hu : LitsM (fun b => g < b) w u c) : KNew g e (w.setCell ⟨g, n, none⟩ u) N (n + 1) cls := by
  obtain ⟨cur, h1, h2, h3⟩ := h
  have mv : ∀ {v c}, LitsM (fun b => g < b) w v c → LitsM (fun b => g < b) (w.setCell ⟨g, n, none⟩ u) v c := fun h => h.move fun a x ha hx => ⟨by
    rw [World.cell?_setCell_other _ _ _ _ (by rintro rfl; simp at ha)]; exact hx, by simp, ha⟩
  refine ⟨cur.setIfInBounds n u, block_cells (cur' := #[]) h1 n u, by simpa using h2, fun i d hi hd => ?_⟩
  by_cases e : i = n
  · subst e
    rw [hc] at hd
    cases hd
    exact ⟨u, by simp [h2, hn], mv hu⟩
  · obtain ⟨u', k1, k2⟩ := h3 i d (by omega) hd
    exact ⟨u', by rw [Array.getElem?_setIfInBounds_ne (by omega)]; exact k1, mv k2⟩
theorem KNew.clsV {g : Nat} {e : TypeId} {w : World} {cls : List Cls} (h : KNew g e w cls.length cls.length cls) (hl : cls.length ≤ 9223372036854775807) : ClsV [] w (.slice (some ⟨g, 0, none⟩) cls.length cls.length) cls := by
  obtain ⟨cur, h1, h2, h3⟩ := h
  refine ⟨_, _, rfl, ⟨Nat.le_refl _, hl, by simp⟩, fun i c hi => ?_⟩
  obtain ⟨u, k1, k2⟩ := h3 i c (List.getElem?_eq_some_iff.1 hi).1 hi
  exact ⟨g, 0, u, rfl, by simp, by rw [Nat.zero_add, fld h1 i]; exact k1, k2.lits (by simp)⟩
theorem kNew_made {w : World} {B g n : Nat} {e : TypeId} {xs : List Value} (h : w.ownsRow B e 1 (.slice (some ⟨g, 0, none⟩) n n) n xs) (cls : List Cls) : KNew g e w n 0 cls := by
  rcases h.2 with ⟨e1, _⟩ | ⟨g', cap, cur, e1, hB, hg, h6, h7, h8, h9⟩
  · cases e1
  · cases e1
    exact ⟨cur, hg, by omega, fun i c hi => by omega⟩

set_option maxRecDepth 100000 in
theorem toLiteralSS_c (rows : List Cls) (v : Value) (w : World) (hv : ClsV [] w v rows) (hl : rows.length ≤ 2000000) (hr : ∀ r ∈ rows, r.length ≤ 2000000) :
    Calls Tryz.prog 39 #[v] w fun e w' => ∃ v', e = .returned v' ∧ ClsV [] w' v' rows ∧ Gr [] w w' := by
  have Hv := hid hv; have Hr := hid hr
  obtain ⟨ao, cap, rfl, ⟨h1, h2, _⟩, _⟩ := hv
  clear hr
  go_enter Tryz.func39, Tryz.ntmps39
  go_wp2_with (at_make; refine wp_mkG rfl _ _ 55 rfl 56 (.slice none 0 0) 1 24 infoK (by omega) Tryz.underlying55 rows.length rfl rfl (by omega) ?_; intro w1 hown1 hg1; have HO1 := hid (kNew_made hown1 rows); have HG1 := hid hg1; clear hown1 hg1)
  go_loopw [4] (fun i wr => ∃ n : Nat, n ≤ rows.length ∧ i = .int .i64 n ∧ KNew w.heap.size 56 wr rows.length n rows ∧ Gr [] w wr) (fun i _ => rows.length - (intOf i).toNat)
  case atStart => exact ⟨0, Nat.zero_le _, rfl, HO1.out, HG1.out⟩
  case round =>
    obtain ⟨n, hn, rfl, hown, hg⟩ := hrel
    by_cases hlt : n < rows.length
    · obtain ⟨x, hx⟩ := get_some hlt
      obtain ⟨b, o, uo, uc, rfl, -, h0, hn0⟩ := (Hv.out.gr hg).at hx
      have hxl := Hr.out x (List.mem_of_getElem? hx)
      have hgs : w.heap.size < wr.heap.size := by obtain ⟨cur, k, -⟩ := hown; exact lt_of_block k
      have Hn0 := hid hn0; have Hown := hid hown; have Hg := hid hg; have Hx := hid hx
      clear hn0 hown hg hx
      go_wp2_with fail
      have hcall := toLiteralS_c x _ wr Hn0.out hxl
      (with_reducible refine hcall.mono ?_)
      clear hcall
      rintro e w2 ⟨v2, rfl, hown2, hg2⟩
      have hM : LitsM (fun b => w.heap.size < b) w2 v2 x := hown2.move fun a u hm hu => ⟨hu, rfl, by have := hm.1; omega⟩
      have hK2 := Hown.out.gr hg2
      obtain ⟨⟨u0, hc1⟩, hc2⟩ := hK2.cell hlt
      have hset := hK2.set Hx.out hlt hM
      have hne : Gr [] w (w2.setCell ⟨w.heap.size, n, none⟩ v2) := (Hg.out.trans hg2).setCell _ _ (.inr (Nat.le_refl _))
      obtain ⟨vo, vc, rfl, -⟩ := hown2.slice
      have Hset := hid hset; have Hne := hid hne
      clear hset hne hown2 hg2 hM hK2
      go_wp2_with fail
      exact ⟨⟨n + 1, by omega, by go_num, Hset.out, Hne.out⟩, by simp [intOf]; omega⟩
    · have hk : n = rows.length := by omega
      subst hk
      have Hown := hid (hown.clsV (by omega))
      clear hown
      go_wp2_with fail
      go_ret
      exact ⟨_, rfl, Hown.out, hg⟩

set_option maxRecDepth 100000 in
theorem eqLiteralSS_t (xs : List Cls) (vx vy : Value) (w : World) (hx : ClsV [] w vx xs) (hy : ClsV [] w vy xs) :
    Calls Tryz.prog 42 #[vx, vy] w fun e w' => e = .returned (.bool true) ∧ Gr [] w w' := by
  have Hx := hid hx; have Hy := hid hy
  obtain ⟨xo, xc, rfl, ⟨hx1, hx2, _⟩, _⟩ := hx
  obtain ⟨yo, yc, rfl, ⟨hy1, hy2, _⟩, _⟩ := hy
  go_enter Tryz.func42, Tryz.ntmps42
  go_wp2_with fail
  go_loopw [5] (fun i wr => ∃ n : Nat, n ≤ xs.length ∧ i = .int .i64 n ∧ Gr [] w wr) (fun i _ => xs.length - (intOf i).toNat)
  case atStart => exact ⟨0, Nat.zero_le _, rfl, Gr.refl _ _⟩
  case round =>
    obtain ⟨n, hn, rfl, hg⟩ := hrel
    by_cases hlt : n < xs.length
    · obtain ⟨x, hx⟩ := get_some hlt
      obtain ⟨b1, o1, p1, q1, rfl, -, hc1, hn1⟩ := (Hx.out.gr hg).at hx
      obtain ⟨b2, o2, p2, q2, rfl, -, hc2, hn2⟩ := (Hy.out.gr hg).at hx
      have HS : Hid (∀ w', Gr [] wr w' → w'.cell? ⟨b1, o1 + n, none⟩ = some (.slice p1 x.length q1) ∧ w'.cell? ⟨b2, o2 + n, none⟩ = some (.slice p2 x.length q2) ∧ Gr [] wr w') := hid fun w' h => ⟨h.cell hc1 (by simp), h.cell hc2 (by simp), h⟩
      have Hn1 := hid hn1; have Hn2 := hid hn2; have Hg := hid hg
      clear hx hn1 hn2 hg
      go_wp2_with fail
      go_region_held3 (fun w' => w'.cell? ⟨b1, o1 + n, none⟩ = some (.slice p1 x.length q1) ∧ w'.cell? ⟨b2, o2 + n, none⟩ = some (.slice p2 x.length q2) ∧ Gr [] wr w')
        (first | exact HS.out _ ((Gr.refl [] _).drew) | (go_split_ands; exact HS.out _ (Gr.trans (by assumption) hg3)))
        (first
          | (go_at_call 43; go_split_ands; refine (eqLiteralS_t x _ _ _ (Hn1.out.gr (by assumption)) (Hn2.out.gr (by assumption))).mono ?_; rintro e w3 ⟨rfl, hg3⟩))
      all_goals
        go_wp2_with fail
        exact ⟨⟨n + 1, by omega, by go_num, (Hg.out.trans ((Gr.refl _ _).drew)).trans hg3⟩, by simp [intOf]; omega⟩
    · go_wp2_with fail
      go_ret
      exact ⟨rfl, hg⟩
end Go.Proofs.YtpfelbbmgbfkeaaGreat
