/-
  FnIsImplied: readings, generators and the law, joined.
-/
import Derived.Test.YtpfelbbmgbfkeaaGreatLE
import Derived.Test.YtpfelbbmgbfkeaaGreatEO
import Derived.Lib.SmallJoins
import Derived.Deep.Slices
import Derived.ChangeArms
import Derived.Test.YtpfelbbmgbfkeaaGreatEG
import Derived.Test.YtpfelbbmgbfkeaaGreatVl
import Derived.Test.YtpfelbbmgbfkeaaGreatTr
import Derived.Test.YtpfelbbmgbfkeaaGreatWj
import Derived.Test.YtpfelbbmgbfkeaaGreatGc
import Derived.Test.YtpfelbbmgbfkeaaGreatG8
import Derived.Test.YtpfelbbmgbfkeaaGreatWl
import Derived.Test.YtpfelbbmgbfkeaaGreatSk
import Derived.Test.YtpfelbbmgbfkeaaGreatEH
import Derived.Deep.RegionHeldLaw
/-
  How lists of literals that came in as an argument are read.
-/
set_option linter.unusedVariables false
set_option linter.unusedSimpArgs false
namespace Go.Proofs.YtpfelbbmgbfkeaaGreat
open Go.RowKit Go.ChangeShapes Go.WideShapes

theorem list3 {α : Type} {l : List α} (h : l.length = 3) : ∃ a b c, l = [a, b, c] := by
  match l, h with
  | [a, b, c], _ => exact ⟨a, b, c, rfl⟩
section
variable {H : Type} {enc : TypeId × Value → H} {W : World} {held : Bool}
theorem cellsL3 : Tryz.prog.cellsOf 49 = 3 := by kernel_rfl
theorem cellsL1 : Tryz.prog.cellsOf 3 = 1 := by kernel_rfl
theorem cellsLb : Tryz.prog.cellsOf 4 = 1 := by kernel_rfl
set_option maxRecDepth 100000
theorem open_lit {fuel : Nat} {cs : List Value} {x : DataW H × List MemPlace} (h : DataW.trod enc Tryz.prog W 0 (fun _ => true) held fuel 49 cs = some x) : ∃ l, cs = litC l := by
  obtain ⟨xs, n, _, _, hl, hlen, hf⟩ := DataW.trod_struct Tryz.underlying49 h
  rw [cellsL3] at hl
  obtain ⟨c0, c1, c2, rfl⟩ := list3 hl
  obtain ⟨x0, x1, x2, rfl⟩ := list3 (hlen.trans rfl)
  have f0 := hf 0 _ rfl
  have f1 := hf 1 _ rfl
  have f2 := hf 2 _ rfl
  simp only [List.getElem?_cons_zero, List.getElem?_cons_succ, cellsL1, cellsLb, List.drop_zero, List.drop_succ_cons, List.take_succ_cons, List.take_zero] at f0 f1 f2
  obtain ⟨a, ha, _, _⟩ := DataW.trod_int Tryz.underlying3 f0
  obtain ⟨b, hb, _, _⟩ := DataW.trod_int Tryz.underlying3 f1
  obtain ⟨c, hc, _⟩ := DataW.trod_bool Tryz.underlying4 f2
  cases ha; cases hb; cases hc
  exact ⟨⟨a, b, c⟩, rfl⟩
theorem open_lits {fuel : Nat} {u : Value} {x : DataW H × List MemPlace} (h : DataW.trod enc Tryz.prog W 0 (fun _ => true) held fuel 65 [u] = some x) : ∃ ls, LitsV [] W u ls := by
  rcases Go.Deep.open_slice Tryz.underlying65 h with ⟨hcs, _⟩ | ⟨a, len, cap, m, n, D, Pl, hcs, _, hl, hm, hmm, _, hx⟩
  · cases hcs
    exact ⟨[], none, 0, rfl, by simp, fun i x hi => by simp at hi⟩
  · cases hcs
    simp only [if_true] at hmm
    have hmm' := hmm.symm
    subst hmm'
    obtain ⟨f, hf⟩ := Go.Deep.choose_lt (n := len) (p := fun i (y : List Value × Lit) => W.cells? 0 (a.add (i * 3)) 3 = some y.1 ∧ y.1 = litC y.2) (fun i hi => by
      obtain ⟨cs', h1, h2⟩ := hx i (by omega)
      rw [cellsL3] at h1
      obtain ⟨c, hc⟩ := open_lit h2
      exact ⟨(cs', c), h1, hc⟩)
    refine ⟨(List.range len).map fun i => (f i).2, some a, cap, by simp, ⟨by simpa using hl, by simpa [maxLen] using hm, by simp⟩, fun i r hi => ?_⟩
    have hil : i < len := by have := (List.getElem?_eq_some_iff.1 hi).1; simpa using this
    have hr : r = (f i).2 := by
      rw [List.getElem?_map, List.getElem?_range hil] at hi
      simpa using hi.symm
    subst hr
    obtain ⟨hc, e⟩ := hf i hil
    obtain ⟨_, _, hcell⟩ := World.cells?_some hc
    rw [e] at hcell
    have hs : a.spot = none := by
      obtain ⟨hc', e'⟩ := hf 0 (by omega)
      obtain ⟨_, _, hcell'⟩ := World.cells?_some hc'
      rw [e'] at hcell'
      have := spot_none ((hcell' 0 (by omega)).trans rfl)
      simpa [Addr.add] using this
    have ha := addr_plain hs
    rw [ha] at hcell
    have each : ∀ j, j < 3 → W.cell? ⟨a.block, a.off + i * 3 + j, none⟩ = (litC (f i).2)[j]? := fun j hj => by
      have := hcell j hj
      rwa [addr_add, addr_add] at this
    exact ⟨a.block, a.off, by rw [← ha], by simp, (by have := each 0 (by omega); rw [Nat.add_zero] at this; exact this), each 1 (by omega), each 2 (by omega)⟩
end
end Go.Proofs.YtpfelbbmgbfkeaaGreat

/-
  Lists of clauses that came in as an argument: how they are read; walks of the exact laws' conversions of them.
-/
set_option linter.unusedVariables false
set_option linter.unusedSimpArgs false
namespace Go.Proofs.YtpfelbbmgbfkeaaGreat
open Go.RowKit Go.ChangeShapes Go.WideShapes

section
variable {H : Type} {enc : TypeId × Value → H} {W : World} {held : Bool}
set_option maxRecDepth 100000
theorem open_clss {fuel : Nat} {u : Value} {x : DataW H × List MemPlace} (h : DataW.trod enc Tryz.prog W 0 (fun _ => true) held fuel 64 [u] = some x) : ∃ cls, ClsV [] W u cls := by
  rcases Go.Deep.open_slice1 Tryz.underlying64 (by kernel_rfl) h with ⟨hcs, _⟩ | ⟨a, len, cap, m, n, V, D, Pl, hcs, _, hl, hm, hmm, _, hx⟩
  · cases hcs
    exact ⟨[], none, 0, rfl, by simp, fun i x hi => by simp at hi⟩
  · cases hcs
    simp only [if_true] at hmm
    have hmm' := hmm.symm
    subst hmm'
    obtain ⟨f, hf⟩ := Go.Deep.choose_lt (n := len) (p := fun i r => LitsV [] W (V i) r) (fun i hi => open_lits (hx i (by omega)).2)
    refine ⟨(List.range len).map f, some a, cap, by simp, ⟨by simpa using hl, by simpa [maxLen] using hm, by simp⟩, fun i r hi => ?_⟩
    have hil : i < len := by have := (List.getElem?_eq_some_iff.1 hi).1; simpa using this
    have hr : r = f i := by
      rw [List.getElem?_map, List.getElem?_range hil] at hi
      simpa using hi.symm
    subst hr
    have h1 := (hx i (by omega)).1
    have h0 := spot_none (hx 0 (by omega)).1
    simp [Addr.add] at h0
    rw [addr_plain h0, addr_add] at h1
    exact ⟨a.block, a.off, V i, by rw [← addr_plain h0], by simp, h1, hf i hil⟩
end

/-- The size of a list of clauses. -/
def szK (cls : List Cls) : Nat := cls.length + (cls.map List.length).sum
theorem szK_few {cls : List Cls} {n : Nat} (h : szK cls ≤ n) : cls.length ≤ n ∧ ∀ c ∈ cls, c.length ≤ n := by
  unfold szK at h
  refine ⟨by omega, fun c hc => ?_⟩
  have := sum_mem List.length hc
  omega
theorem szLiteralSS_c (rows : List Cls) (left : Int) (v : Value) (w : World) (hv : ClsV [] w v rows) (hl : 0 ≤ left ∧ left ≤ 2000000) :
    Calls Tryz.prog 36 #[v, .int .i64 left] w fun e w' => e = .returned (.int .i64 (cut left (szK rows))) ∧ Gr [] w w' := by
  have Hv := hid hv
  obtain ⟨ao, cap, rfl, ⟨h1, h2, _⟩, _⟩ := hv
  by_cases hlt : left < (rows.length : Int)
  · rw [cut_neg (by unfold szK; omega)]
    go_enter Tryz.func36, Tryz.ntmps36
    go_wp2_with fail
    go_ret
    exact ⟨rfl, Gr.refl _ _⟩
  · go_enter Tryz.func36, Tryz.ntmps36
    go_wp2_with fail
    go_loopw [1, 5] (fun lv i wr => ∃ (n : Nat) (l : Int), n ≤ rows.length ∧ i = .int .i64 n ∧ lv = .int .i64 l ∧ (0 ≤ l ∧ l ≤ 2000000) ∧ l = left - (rows.length + ((rows.take n).map List.length).sum : Nat) ∧ Gr [] w wr) (fun _ i _ => rows.length - (intOf i).toNat)
    case atStart => exact ⟨0, left - rows.length, Nat.zero_le _, rfl, by go_num, by omega, by simp, Gr.refl _ _⟩
    case round =>
      obtain ⟨n, l, hn, rfl, rfl, hl, he, hg⟩ := hrel
      have He := hid he; clear he
      by_cases hlt : n < rows.length
      · obtain ⟨r, hr⟩ := get_some hlt
        obtain ⟨b1, o1, uo, uc, rfl, -, hc1, hn1⟩ := (Hv.out.gr hg).at hr
        have Hn1 := hid hn1; have Hs := hid (sum_take List.length hr); have Hle := hid (sum_take_le List.length rows (n + 1)); have Hg := hid hg
        clear hr hn1 hg
        go_wp2_with fail
        have hcall := szLiteralS_c r l _ wr Hn1.out hl
        (with_reducible refine hcall.mono ?_)
        clear hcall
        rintro e w2 ⟨rfl, rfl⟩
        by_cases hlr : l < (r.length : Int)
        · rw [cut_neg hlr]
          go_wp2_with fail
          go_ret
          exact ⟨ret_int (by rw [cut_neg]; have := He.out; have := Hs.out; have := Hle.out; unfold szK; omega), Hg.out⟩
        · rw [cut_pos (by omega)]
          go_wp2_with fail
          exact ⟨⟨n + 1, l - r.length, by omega, by go_num, rfl, by omega, by have := He.out; have := Hs.out; omega, Hg.out⟩, by simp [intOf]; omega⟩
      · go_wp2_with fail
        go_ret
        refine ⟨ret_int ?_, hg⟩
        have := He.out
        rw [List.take_of_length_le (by omega)] at this
        rw [cut_pos (by unfold szK; omega)]; unfold szK; omega

/-! ### Copies -/
theorem infoK : (Tryz.prog.info? 56).map (fun i => (i.zero, i.size, i.bytes)) = some (some (.slice none 0 0), 1, 24) := by kernel_rfl
/-- A new list of clauses, of which the first n are there. -/
def KNew (g : Nat) (e : TypeId) (w : World) (N n : Nat) (cls : List Cls) : Prop :=
  ∃ cur, w.heap[g]? = some (.cells cur e (0, 0)) ∧ cur.size = N ∧ ∀ i c, i < n → cls[i]? = some c → ∃ u, cur[i]? = some u ∧ LitsM (fun b => g < b) w u c
theorem KNew.gr {g : Nat} {e : TypeId} {w w' : World} {N n : Nat} {cls : List Cls} (h : KNew g e w N n cls) (hg : Gr [] w w') : KNew g e w' N n cls := by
  obtain ⟨cur, h1, h2, h3⟩ := h
  refine ⟨cur, hg.obj h1 (by simp), h2, fun i c hi hc => ?_⟩
  obtain ⟨u, k1, k2⟩ := h3 i c hi hc
  exact ⟨u, k1, k2.gr hg⟩
theorem KNew.cell {g : Nat} {e : TypeId} {w : World} {N n : Nat} {cls : List Cls} (h : KNew g e w N n cls) {i : Nat} (hi : i < N) : (∃ u, w.cell? ⟨g, i, none⟩ = some u) ∧ w.frozen? ⟨g, i, none⟩ = false := by
  obtain ⟨cur, h1, h2, -⟩ := h
  have : i < cur.size := by omega
  exact ⟨⟨cur[i], by rw [fld h1 i]; exact Array.getElem?_eq_getElem this⟩, fldF h1 i⟩
theorem KNew.set {g : Nat} {e : TypeId} {w : World} {N n : Nat} {cls : List Cls} (h : KNew g e w N n cls) {c : Cls} (hc : cls[n]? = some c) (hn : n < N) {u : Value} (hu : LitsM (fun b => g < b) w u c) : KNew g e (w.setCell ⟨g, n, none⟩ u) N (n + 1) cls := by
  obtain ⟨cur, h1, h2, h3⟩ := h
  have mv : ∀ {v c}, LitsM (fun b => g < b) w v c → LitsM (fun b => g < b) (w.setCell ⟨g, n, none⟩ u) v c := fun h => h.move fun a x ha hx => ⟨by
    rw [World.cell?_setCell_other _ _ _ _ (by rintro rfl; simp at ha)]; exact hx, by simp, ha⟩
  refine ⟨cur.setIfInBounds n u, block_cells (cur' := #[]) h1 n u, by simpa using h2, fun i d hi hd => ?_⟩
  by_cases e : i = n
  · subst e
    rw [hc] at hd
    cases hd
    exact ⟨u, by simp [h2, hn], mv hu⟩
  · obtain ⟨u', k1, k2⟩ := h3 i d (by omega) hd
    exact ⟨u', by rw [Array.getElem?_setIfInBounds_ne (by omega)]; exact k1, mv k2⟩
theorem KNew.clsV {g : Nat} {e : TypeId} {w : World} {cls : List Cls} (h : KNew g e w cls.length cls.length cls) (hl : cls.length ≤ 9223372036854775807) : ClsV [] w (.slice (some ⟨g, 0, none⟩) cls.length cls.length) cls := by
  obtain ⟨cur, h1, h2, h3⟩ := h
  refine ⟨_, _, rfl, ⟨Nat.le_refl _, hl, by simp⟩, fun i c hi => ?_⟩
  obtain ⟨u, k1, k2⟩ := h3 i c (List.getElem?_eq_some_iff.1 hi).1 hi
  exact ⟨g, 0, u, rfl, by simp, by rw [Nat.zero_add, fld h1 i]; exact k1, k2.lits (by simp)⟩
theorem kNew_made {w : World} {B g n : Nat} {e : TypeId} {xs : List Value} (h : w.ownsRow B e 1 (.slice (some ⟨g, 0, none⟩) n n) n xs) (cls : List Cls) : KNew g e w n 0 cls := by
  rcases h.2 with ⟨e1, _⟩ | ⟨g', cap, cur, e1, hB, hg, h6, h7, h8, h9⟩
  · cases e1
  · cases e1
    exact ⟨cur, hg, by omega, fun i c hi => by omega⟩

set_option maxRecDepth 100000 in
theorem toLiteralSS_c (rows : List Cls) (v : Value) (w : World) (hv : ClsV [] w v rows) (hl : rows.length ≤ 2000000) (hr : ∀ r ∈ rows, r.length ≤ 2000000) :
    Calls Tryz.prog 39 #[v] w fun e w' => ∃ v', e = .returned v' ∧ ClsV [] w' v' rows ∧ Gr [] w w' := by
  have Hv := hid hv; have Hr := hid hr
  obtain ⟨ao, cap, rfl, ⟨h1, h2, _⟩, _⟩ := hv
  clear hr
  go_enter Tryz.func39, Tryz.ntmps39
  go_wp2_with (at_make; refine wp_mkG rfl _ _ 55 rfl 56 (.slice none 0 0) 1 24 infoK (by omega) Tryz.underlying55 rows.length rfl rfl (by omega) ?_; intro w1 hown1 hg1; have HO1 := hid (kNew_made hown1 rows); have HG1 := hid hg1; clear hown1 hg1)
  go_loopw [4] (fun i wr => ∃ n : Nat, n ≤ rows.length ∧ i = .int .i64 n ∧ KNew w.heap.size 56 wr rows.length n rows ∧ Gr [] w wr) (fun i _ => rows.length - (intOf i).toNat)
  case atStart => exact ⟨0, Nat.zero_le _, rfl, HO1.out, HG1.out⟩
  case round =>
    obtain ⟨n, hn, rfl, hown, hg⟩ := hrel
    by_cases hlt : n < rows.length
    · obtain ⟨x, hx⟩ := get_some hlt
      obtain ⟨b, o, uo, uc, rfl, -, h0, hn0⟩ := (Hv.out.gr hg).at hx
      have hxl := Hr.out x (List.mem_of_getElem? hx)
      have hgs : w.heap.size < wr.heap.size := by obtain ⟨cur, k, -⟩ := hown; exact lt_of_block k
      have Hn0 := hid hn0; have Hown := hid hown; have Hg := hid hg; have Hx := hid hx
      clear hn0 hown hg hx
      go_wp2_with fail
      have hcall := toLiteralS_c x _ wr Hn0.out hxl
      (with_reducible refine hcall.mono ?_)
      clear hcall
      rintro e w2 ⟨v2, rfl, hown2, hg2⟩
      have hM : LitsM (fun b => w.heap.size < b) w2 v2 x := hown2.move fun a u hm hu => ⟨hu, rfl, by have := hm.1; omega⟩
      have hK2 := Hown.out.gr hg2
      obtain ⟨⟨u0, hc1⟩, hc2⟩ := hK2.cell hlt
      have hset := hK2.set Hx.out hlt hM
      have hne : Gr [] w (w2.setCell ⟨w.heap.size, n, none⟩ v2) := (Hg.out.trans hg2).setCell _ _ (.inr (Nat.le_refl _))
      obtain ⟨vo, vc, rfl, -⟩ := hown2.slice
      have Hset := hid hset; have Hne := hid hne
      clear hset hne hown2 hg2 hM hK2
      go_wp2_with fail
      exact ⟨⟨n + 1, by omega, by go_num, Hset.out, Hne.out⟩, by simp [intOf]; omega⟩
    · have hk : n = rows.length := by omega
      subst hk
      have Hown := hid (hown.clsV (by omega))
      clear hown
      go_wp2_with fail
      go_ret
      exact ⟨_, rfl, Hown.out, hg⟩

set_option maxRecDepth 100000 in
theorem eqLiteralSS_t (xs : List Cls) (vx vy : Value) (w : World) (hx : ClsV [] w vx xs) (hy : ClsV [] w vy xs) :
    Calls Tryz.prog 42 #[vx, vy] w fun e w' => e = .returned (.bool true) ∧ Gr [] w w' := by
  have Hx := hid hx; have Hy := hid hy
  obtain ⟨xo, xc, rfl, ⟨hx1, hx2, _⟩, _⟩ := hx
  obtain ⟨yo, yc, rfl, ⟨hy1, hy2, _⟩, _⟩ := hy
  go_enter Tryz.func42, Tryz.ntmps42
  go_wp2_with fail
  go_loopw [5] (fun i wr => ∃ n : Nat, n ≤ xs.length ∧ i = .int .i64 n ∧ Gr [] w wr) (fun i _ => xs.length - (intOf i).toNat)
  case atStart => exact ⟨0, Nat.zero_le _, rfl, Gr.refl _ _⟩
  case round =>
    obtain ⟨n, hn, rfl, hg⟩ := hrel
    by_cases hlt : n < xs.length
    · obtain ⟨x, hx⟩ := get_some hlt
      obtain ⟨b1, o1, p1, q1, rfl, -, hc1, hn1⟩ := (Hx.out.gr hg).at hx
      obtain ⟨b2, o2, p2, q2, rfl, -, hc2, hn2⟩ := (Hy.out.gr hg).at hx
      have HS : Hid (∀ w', Gr [] wr w' → w'.cell? ⟨b1, o1 + n, none⟩ = some (.slice p1 x.length q1) ∧ w'.cell? ⟨b2, o2 + n, none⟩ = some (.slice p2 x.length q2) ∧ Gr [] wr w') := hid fun w' h => ⟨h.cell hc1 (by simp), h.cell hc2 (by simp), h⟩
      have Hn1 := hid hn1; have Hn2 := hid hn2; have Hg := hid hg
      clear hx hn1 hn2 hg
      go_wp2_with fail
      go_region_held3 (fun w' => w'.cell? ⟨b1, o1 + n, none⟩ = some (.slice p1 x.length q1) ∧ w'.cell? ⟨b2, o2 + n, none⟩ = some (.slice p2 x.length q2) ∧ Gr [] wr w')
        (first | exact HS.out _ ((Gr.refl [] _).drew) | (go_split_ands; exact HS.out _ (Gr.trans (by assumption) hg3)))
        (first
          | (go_at_call 43; go_split_ands; refine (eqLiteralS_t x _ _ _ (Hn1.out.gr (by assumption)) (Hn2.out.gr (by assumption))).mono ?_; rintro e w3 ⟨rfl, hg3⟩))
      all_goals
        go_wp2_with fail
        exact ⟨⟨n + 1, by omega, by go_num, (Hg.out.trans ((Gr.refl _ _).drew)).trans hg3⟩, by simp [intOf]; omega⟩
    · go_wp2_with fail
      go_ret
      exact ⟨rfl, hg⟩
end Go.Proofs.YtpfelbbmgbfkeaaGreat

/-
  Walks: when a clause holds; lists of literals compared; when all literals are true.
-/
set_option linter.unusedVariables false
set_option linter.unusedSimpArgs false
namespace Go.Proofs.YtpfelbbmgbfkeaaGreat
open Go.RowKit

theorem below_snocT {c : Cls} {p : Lit → Bool} {n : Nat} {l : Lit} (h : ∀ (j : Nat) x, j < n → c[j]? = some x → p x = true) (hl : c[n]? = some l) (hp : p l = true) : ∀ (j : Nat) x, j < n + 1 → c[j]? = some x → p x = true := by
  intro j y hj hy
  by_cases e : j = n
  · subst e; rw [hl] at hy; cases hy; exact hp
  · exact h j y (by omega) hy
theorem allTB_no {c : Cls} {xs : List Int} {n : Nat} {l : Lit} (hl : c[n]? = some l) (hp : trueB l xs = false) : allTB c xs = false := by
  unfold allTB
  rw [List.all_eq_false]
  exact ⟨l, List.mem_of_getElem? hl, by rw [hp]; simp⟩
/-- slices.IndexFunc over literals. -/
theorem idxLit_c (cs : Cls) (p : Lit → Bool) (v : Value) (k : Nat) (C : Array Value) (w : World) (hv : LitsV [] w v cs)
    (hk : ∀ args w, (callFunc k args).run Tryz.prog w = .ok (.enter k args) w)
    (hf : ∀ c w1, c ∈ cs → Gr [] w w1 → Calls Tryz.prog k (#[.agg #[.int .i64 c.var, .int .i64 c.val, .bool c.neg]] ++ C) w1 fun e w2 => e = .returned (.bool (p c)) ∧ Gr [] w1 w2) :
    Calls Tryz.prog 153 #[v, .func (.func k) #[] C] w fun e w' => (∃ i : Int, e = .returned (.int .i64 i) ∧ (0 ≤ i ↔ anyG p cs = true)) ∧ Gr [] w w' := by
  obtain ⟨ao, cap, rfl, ⟨hlc, hcm, _⟩, hc⟩ := hv
  have hlen : cs.length ≤ 9223372036854775807 := by omega
  have Hf := hid hf; clear hf
  have Hc : Hid (LitsV [] w (.slice ao cs.length cap) cs) := hid ⟨_, _, rfl, ⟨hlc, hcm, by assumption⟩, hc⟩; clear hc
  go_enter Tryz.func153, Tryz.ntmps153
  go_wp2_with fail
  go_loopw [8] (fun i wr => ∃ n : Nat, n ≤ cs.length ∧ i = .int .i64 n ∧ (∀ (j : Nat) x, j < n → cs[j]? = some x → p x = false) ∧ Gr [] w wr) (fun i _ => cs.length - (intOf i).toNat)
  case atStart => exact ⟨0, Nat.zero_le _, rfl, by intro j x hj; omega, Gr.refl _ _⟩
  case round =>
    obtain ⟨n, hn, rfl, hp, hg⟩ := hrel
    have HP := hid hp; clear hp
    by_cases hlt : n < cs.length
    · obtain ⟨c, hx⟩ := get_some hlt
      obtain ⟨b, o, rfl, hs, h0, h1, h2⟩ := (Hc.out.gr hg).at hx
      have HX := hid hx; clear hx
      go_wp2_with fail
      refine (Hf.out c _ (List.mem_of_getElem? HX.out) hg).mono ?_
      rintro e w2 ⟨rfl, hg2⟩
      cases hb : p c
      all_goals go_wp2_with fail
      · exact ⟨⟨n + 1, by omega, by go_num, below_snoc HP.out HX.out hb, hg.trans hg2⟩, by simp [intOf]; omega⟩
      · go_ret
        exact ⟨⟨n, rfl, ⟨fun _ => anyG_true HX.out hb, fun _ => by omega⟩⟩, hg.trans hg2⟩
    · go_wp2_with fail
      go_ret
      refine ⟨⟨-1, rfl, ⟨fun h => by omega, fun h => ?_⟩⟩, hg⟩
      rw [anyG_false (fun j x hj => HP.out j x (by omega))] at h; cases h
theorem containsLit_c (cs : Cls) (p : Lit → Bool) (v : Value) (k : Nat) (C : Array Value) (w : World) (hv : LitsV [] w v cs)
    (hk : ∀ args w, (callFunc k args).run Tryz.prog w = .ok (.enter k args) w)
    (hf : ∀ c w1, c ∈ cs → Gr [] w w1 → Calls Tryz.prog k (#[.agg #[.int .i64 c.var, .int .i64 c.val, .bool c.neg]] ++ C) w1 fun e w2 => e = .returned (.bool (p c)) ∧ Gr [] w1 w2) :
    Calls Tryz.prog 97 #[v, .func (.func k) #[] C] w fun e w' => e = .returned (.bool (anyG p cs)) ∧ Gr [] w w' := by
  have Hf := hid hf; clear hf
  have Hk := hid hk; clear hk
  go_enter Tryz.func97, Tryz.ntmps97
  go_wp2_with fail
  refine (idxLit_c cs p v k C _ hv Hk.out Hf.out).mono ?_
  rintro e w' ⟨⟨i, rfl, hi⟩, hg⟩
  have Hi := hid hi; clear hi
  go_wp2_with fail
  go_ret
  exact ⟨ret_bool (by rw [Bool.eq_iff_iff, ← Hi.out]; simp), hg⟩



set_option maxRecDepth 100000 in
set_option maxHeartbeats 1000000 in
theorem holds1_c (l : Lit) (xs : List Int) (B : Nat) (xo : Option Addr) (xc : Nat) (w : World) (hl : litOk xs.length l = true) (hx : Nums [] w .i64 (.slice xo xs.length xc) xs) (h5 : ∀ x ∈ xs, 0 ≤ x ∧ x ≤ 5) (hB : w.heap[B]? = some (.cells #[.slice xo xs.length xc] 23 (0, 0))) (hlen : xs.length ≤ 100) :
    Calls Tryz.prog 98 #[.agg #[.int .i64 l.var, .int .i64 l.val, .bool l.neg], .pointer (some ⟨B, 0, none⟩)] w fun e w' => e = .returned (.bool (trueB l xs)) ∧ Gr [] w w' := by
  obtain ⟨⟨hv0, hv1⟩, hval⟩ := litOk_iff.1 hl
  obtain ⟨lv, la, ln⟩ := l
  dsimp only at hv0 hv1 hval ⊢
  obtain ⟨k, rfl⟩ := Int.eq_ofNat_of_zero_le hv0
  have hk : k < xs.length := by omega
  obtain ⟨x, hxk⟩ := get_some hk
  have hx5 := h5 x (List.mem_of_getElem? hxk)
  obtain ⟨v, rfl⟩ := Int.eq_ofNat_of_zero_le hx5.1
  have hv6 : v < 6 := by omega
  obtain ⟨b, o, rfl, -, hcell⟩ := hx.at hxk
  have htb : trueB ⟨(k : Int), la, ln⟩ xs = (litD ⟨(k : Int), la, ln⟩).testBit v := by
    rw [litD_bit _ _ hval hv6]
    unfold trueB
    simp only [Int.toNat_natCast]
    rw [List.getD_eq_getElem?_getD, hxk]; rfl
  have hl64 := litD_lt ⟨(k : Int), la, ln⟩ hval
  rw [htb]
  have ha : Gr [] w (w.alloc (.cells #[.int .i64 (k : Int), .int .i64 la, .bool ln] 31)) := (Gr.refl _ _).alloc _
  have hbx := heap_alloc_new w (.cells #[.int .i64 (k : Int), .int .i64 la, .bool ln] 31)
  have Hbx := hid hbx; have Ha := hid ha; have HB := hid (ha.obj hB (by simp)); have HC := hid (ha.cell hcell (by simp))
  have fbx := fld hbx
  have Hval := hid hval
  obtain ⟨D, hD⟩ : ∃ D, D = litD ⟨(k : Int), la, ln⟩ := ⟨_, rfl⟩
  have HT : Hid (∀ W, Calls Tryz.prog 99 #[.agg #[.int .i64 (k : Int), .int .i64 la, .bool ln]] W fun e w' => e = .returned (.int .i64 (D : Nat)) ∧ Gr [] W w') := hid fun W => by rw [hD]; exact trues_c ⟨(k : Int), la, ln⟩ W hval
  rw [← hD] at hl64 ⊢
  clear hv0 hv1 hval h5 hxk hx5 hcell htb ha hbx hB hx hl hD
  go_enter Tryz.func98, Tryz.ntmps98
  go_wp2_with fail
  generalize hWa : w.alloc (.cells #[.int .i64 (k : Int), .int .i64 la, .bool ln] 31) = wa at *
  clear hWa fbx
  have ebx : ∀ (q : GrW [] wa) j, q.val.cell? ⟨w.heap.size, j, none⟩ = #[.int .i64 (k : Int), .int .i64 la, .bool ln][j]? := fun q => fld (q.gr.obj Hbx.out (by simp))
  have eB : ∀ (q : GrW [] wa) j, q.val.cell? ⟨B, j, none⟩ = #[.slice (some ⟨b, o, none⟩) xs.length xc][j]? := fun q => fld (q.gr.obj HB.out (by simp))
  have eC : ∀ (q : GrW [] wa), q.val.cell? ⟨b, o + k, none⟩ = some (.int .i64 (v : Int)) := fun q => q.gr.cell HC.out (by simp)
  refine wp_region_gr [] _ (by kernel_rfl) (by kernel_rfl) (Gr.refl _ _) ?_
  repeat (go_big_quiet_step (first | (go_at_call 99; exact Calls.gr_of (HT.out _)) | (go_at_call 76; exact Calls.gr_of ((has_c D v hl64 hv6 _).mono fun e w' h => ⟨h.1, by rw [h.2]; exact Gr.refl _ _⟩))))
  refine wpQuiet_nil ?_
  rintro w9 ⟨n9, rfl⟩
  have hg9 := n9.gr
  go_wp2_with fail
  go_ret
  exact ⟨rfl, Ha.out.trans hg9⟩
set_option maxRecDepth 100000 in
set_option maxHeartbeats 1000000 in
theorem ClauseHolds_c (c : Cls) (xs : List Int) (cv xv : Value) (w : World) (hc : LitsV [] w cv c) (hx : Nums [] w .i64 xv xs) (h1 : 1 ≤ xs.length ∧ xs.length ≤ 4) (h5 : allB 0 5 xs = true) (hv : validCl c xs.length = true) :
    Calls Tryz.prog 34 #[cv, xv] w fun e w' => e = .returned (.bool (holdsB c xs)) ∧ Gr [] w w' := by
  have hcl : c.length ≤ 12 := by unfold validCl at hv; rw [Bool.and_eq_true] at hv; exact (validClS_iff.1 hv.2).2.2
  have hok : ∀ l ∈ c, litOk xs.length l = true := by unfold validCl at hv; rw [Bool.and_eq_true] at hv; exact (validClS_iff.1 hv.2).1
  obtain ⟨co, cc, rfl, ⟨hc1, hc2⟩⟩ := hc.slice
  obtain ⟨xo, xc, e1, ⟨hx1, hx2, -⟩, -⟩ := id hx
  subst e1
  have ha : Gr [] w (w.alloc (.cells #[.slice xo xs.length xc] 23)) := (Gr.refl _ _).alloc _
  have hbx := heap_alloc_new w (.cells #[.slice xo xs.length xc] 23)
  have Hbx := hid hbx; have Ha := hid ha; have Hc := hid (hc.gr ha); have Hx := hid (hx.gr ha); have H5 := hid h5; have Hv := hid hv; have Hok := hid hok
  have fbx := fld hbx
  have hw4 : inB 1 4 ((xs.length : Nat) : Int) = true := inB_iff.2 (by omega)
  have Hw4 := hid hw4
  clear hc hx h5 hv hok hbx ha hw4
  go_enter Tryz.func34, Tryz.ntmps34
  go_wp2_with fail
  generalize hWa : w.alloc (.cells #[.slice xo xs.length xc] 23) = wa at *
  clear hWa
  (with_reducible refine (within_c _ _ _ _).mono ?_)
  rw [Hw4.out]
  rintro e w1 ⟨rfl, rfl⟩
  go_wp2_with fail
  (with_reducible refine (allIn_c _ _ _ _ _ Hx.out).mono ?_)
  rw [H5.out]
  rintro e w2 ⟨rfl, hg2⟩
  have Hb2 := hid (hg2.obj Hbx.out (by simp)); have Hc2 := hid (Hc.out.gr hg2); have Hx2 := hid (Hx.out.gr hg2); have Hg2 := hid (Ha.out.trans hg2)
  have fb2 := fld Hb2.out
  clear hg2 fbx
  go_wp2_with fail
  have hcall := ValidClause_c c xs.length _ _ Hc2.out (by omega) (by constructor <;> omega)
  (with_reducible refine hcall.mono ?_)
  clear hcall
  rw [Hv.out]
  rintro e w3 ⟨rfl, hg3⟩
  have Hb3 := hid (hg3.obj Hb2.out (by simp)); have Hc3 := hid (Hc2.out.gr hg3); have Hx3 := hid (Hx2.out.gr hg3); have Hg3 := hid (Hg2.out.trans hg3)
  clear hg3 fb2
  go_wp2_with fail
  refine (containsLit_c c (fun l => trueB l xs) _ 98 _ _ Hc3.out (fun _ _ => by kernel_rfl) ?_).mono ?_
  · intro l w4 hl hg4
    exact holds1_c l xs w.heap.size xo xc w4 (Hok.out l hl) (Hx3.out.gr hg4) (allB_iff.1 H5.out) (hg4.obj Hb3.out (by simp)) (by omega)
  rintro e w4 ⟨rfl, hg4⟩
  go_wp2_with fail
  go_ret
  exact ⟨rfl, Hg3.out.trans hg4⟩


end Go.Proofs.YtpfelbbmgbfkeaaGreat

/-
  Plain law: what reverse propagation refutes is implied; a clause implies itself. No program is mentioned.
-/
set_option linter.unusedVariables false
set_option linter.unusedSimpArgs false
namespace Go.Proofs.YtpfelbbmgbfkeaaGreat
open Go.RowKit

theorem In.lit {x : List Int} {D : List Nat} {l : Lit} (h : In x D) (hok : litOk D.length l = true) :
    ∃ n : Nat, n < 6 ∧ (D.getD l.var.toNat 0).testBit n = true ∧ x[l.var.toNat]? = some (n : Int) ∧ (litD l).testBit n = trueB l x := by
  obtain ⟨⟨h0, h1⟩, hv⟩ := litOk_iff.1 hok
  obtain ⟨n, h2, h3, h4⟩ := h.get (i := l.var.toNat) (by omega)
  refine ⟨n, h3, h4, h2, ?_⟩
  rw [litD_bit l n hv h3]
  unfold trueB
  rw [List.getD_eq_getElem?_getD, h2]
  rfl
theorem In.opn {x : List Int} {D : List Nat} {l : Lit} (h : In x D) (hok : litOk D.length l = true) (ht : trueB l x = true) : opn D l = true := by
  obtain ⟨n, h1, h2, -, h4⟩ := h.lit hok
  unfold Go.Proofs.YtpfelbbmgbfkeaaGreat.opn
  rw [bne_iff_ne]
  intro e
  have := congrArg (fun k => Nat.testBit k n) e
  simp only [Nat.testBit_and, h2, h4, ht, Nat.zero_testBit] at this
  cases this
theorem In.andAt {x : List Int} {D : List Nat} {l : Lit} (h : In x D) (hok : litOk D.length l = true) (ht : trueB l x = true) : In x (andAt D l.var.toNat (litD l)) := by
  obtain ⟨n, h1, h2, h3, h4⟩ := h.lit hok
  refine In.of (by rw [andAt_len]; exact tups_len h) fun i hi => ?_
  rw [andAt_len] at hi
  rw [andAt_get]
  split
  · rename_i e
    subst e
    exact ⟨n, h3, h1, by rw [Nat.testBit_and, h2, h4, ht]; rfl⟩
  · exact h.get hi
theorem In.unit {x : List Int} {D : List Nat} {c : Cls} (h : In x D) (hok : ∀ l ∈ c, litOk D.length l = true) (ht : holdsB c x = true) : In x (unitF c D) := by
  unfold holdsB at ht
  obtain ⟨l, hl, hlt⟩ := List.any_eq_true.1 ht
  have hm : l ∈ opens D c := List.mem_filter.2 ⟨hl, h.opn (hok l hl) hlt⟩
  match e : opens D c, hm with
  | [l'], hm =>
    have : l = l' := by simpa using hm
    subst this
    rw [unitF_1 e]
    exact h.andAt (hok l hl) hlt
  | a :: b :: r, _ =>
    rw [unitF_2 (by rw [e]; simp)]
    exact h
theorem In.cls {x : List Int} {cls : List Cls} : ∀ {D : List Nat}, In x D → (∀ c ∈ cls, ∀ l ∈ c, litOk D.length l = true) → (∀ c ∈ cls, holdsB c x = true) → In x (clsF cls D) := by
  induction cls with
  | nil => intro D h _ _; exact h
  | cons c r ih =>
    intro D h hok ht
    exact ih (h.unit (hok c (by simp)) (ht c (by simp))) (fun d hd => by rw [unitF_len]; exact hok d (by simp [hd])) (fun d hd => ht d (by simp [hd]))
theorem In.fixC {x : List Int} {cs : List Con} {cls : List Cls} {D : List Nat} (h : In x D) (hv : VCs cs D.length) (hs : Sol cs x) (hok : ∀ c ∈ cls, ∀ l ∈ c, litOk D.length l = true) (ht : ∀ c ∈ cls, holdsB c x = true) : In x (fixC cs cls D) := by
  have key := fixC_ind (cs := cs) (cls := cls) (fun D E => (∀ c ∈ cls, ∀ l ∈ c, litOk D.length l = true) → In x D → In x E) (fun D _ h0 _ hx => absurd h0 hx.nonzero) (fun D _ _ _ _ hx => hx)
    (fun D E hv _ ih hok hx => ih (by rw [stepC_len hv]; exact hok) (In.cls (hx.fix hv hs) (by rw [fix_len hv]; exact hok) ht)) _ D hv (Nat.lt_succ_self _)
  exact key hok h
theorem In.rest {x : List Int} {c : Cls} : ∀ {D : List Nat}, In x D → (∀ l ∈ c, litOk D.length l = true) → (∀ l ∈ c, trueB l x = true) → In x (restL D c) := by
  induction c with
  | nil => intro D h _ _; exact h
  | cons l r ih =>
    intro D h hok ht
    exact ih (h.andAt (hok l (by simp)) (ht l (by simp))) (fun d hd => by rw [andAt_len]; exact hok d (by simp [hd])) (fun d hd => ht d (by simp [hd]))
theorem refB_sound {x : List Int} {cs : List Con} {cls : List Cls} {D : List Nat} {c : Cls} (h : In x D) (hl : 0 < D.length) (hv : VCs cs D.length) (hs : Sol cs x) (hok : ∀ c ∈ cls, ∀ l ∈ c, litOk D.length l = true) (ht : ∀ c ∈ cls, holdsB c x = true)
    (hc : ∀ l ∈ c, litOk D.length l = true) (hr : refB cs cls (restL D (negsL c)) = true) : holdsB c x = true := by
  cases hb : holdsB c x
  · exfalso
    have hf : ∀ l ∈ c, trueB l x = false := fun l hm => by
      unfold holdsB at hb
      have := List.any_eq_false.1 hb l hm
      cases ht : trueB l x
      · rfl
      · exact absurd ht this
    have h1 : In x (restL D (negsL c)) := h.rest (negs_ok hc) fun l hm => by
      have := hf _ (mem_negsL.1 hm)
      rw [trueB_negL] at this
      simpa using this
    have hlen := restL_len (negsL c) D
    have h2 := h1.fixC (cs := cs) (cls := cls) (by rw [hlen]; exact hv) hs (by rw [hlen]; exact hok) ht
    have h3 : (fixC cs cls (restL D (negsL c))).length = D.length := by rw [fixC_len (by rw [hlen]; exact hv), hlen]
    obtain ⟨n, -, -, h4⟩ := h2.get (i := 0) (by rw [h3]; exact hl)
    unfold refB at hr
    rw [beq_iff_eq] at hr
    rw [hr] at h4
    simp at h4
  · rfl
theorem opens_none {E D : List Nat} {c : Cls} (hs : Sub E (restL D (negsL c))) (hc : ∀ l ∈ c, 0 ≤ l.val ∧ l.val ≤ 5) : opens E c = [] := by
  refine List.filter_eq_nil_iff.2 fun l hl => ?_
  unfold opn
  rw [Bool.not_eq_true, bne_eq_false_iff_eq]
  refine Nat.eq_of_testBit_eq fun b => ?_
  rw [Nat.testBit_and, Nat.zero_testBit]
  cases h1 : (E.getD l.var.toNat 0).testBit b
  · rfl
  · cases h2 : (litD l).testBit b
    · rfl
    · exfalso
      have h3 := hs.2 l.var.toNat b h1
      rw [restL_bit, Bool.and_eq_true, List.all_eq_true] at h3
      have h4 := h3.2 (negL l) (mem_negsL.2 (by rw [negL_negL]; exact hl))
      have hb : b < 6 := by
        rcases Nat.lt_or_ge b 6 with h | h
        · exact h
        · exfalso
          have := Nat.testBit_lt_two_pow (Nat.lt_of_lt_of_le (litD_lt l (hc l hl)) (show 64 ≤ 2 ^ b from Nat.pow_le_pow_right (show 0 < 2 by omega) h))
          rw [h2] at this; cases this
      have e : (negL l).var = l.var := rfl
      rw [e] at h4
      have h5 : (litD (negL l)).testBit b = true := by simpa using h4
      rw [litD_bit (negL l) b (hc l hl) hb] at h5
      rw [litD_bit l b (hc l hl) hb] at h2
      have e2 : (negL l).val = l.val := rfl
      have e3 : (negL l).neg = !l.neg := rfl
      rw [e2, e3] at h5
      revert h2 h5
      cases ((b : Int) == l.val) <;> cases l.neg <;> simp
theorem refB_self {cs : List Con} {cls : List Cls} {D : List Nat} {c : Cls} (hl : 0 < D.length) (hv : VCs cs D.length) (hc : ∀ l ∈ c, litOk D.length l = true) : refB cs (cls ++ [c]) (restL D (negsL c)) = true := by
  have hlen := restL_len (negsL c) D
  have hv' : VCs cs (restL D (negsL c)).length := by rw [hlen]; exact hv
  refine refB_empty hv' (by rw [hlen]; exact hl) ?_
  have e : stepC cs (cls ++ [c]) (restL D (negsL c)) = unitF c (clsF cls (fix cs (restL D (negsL c)))) := by
    unfold stepC clsF
    rw [List.foldl_append]
    rfl
  rw [e, unitF_0 (opens_none (D := D) ((clsF_sub cls _).trans (fix_sub hv')) fun l hm => (litOk_iff.1 (hc l hm)).2), clsF_len, fix_len hv', hlen]
  exact zeros_mem hl
end Go.Proofs.YtpfelbbmgbfkeaaGreat

/-
  Walk: the generator of IsImplied's arguments.
-/
set_option linter.unusedVariables false
set_option linter.unusedSimpArgs false
namespace Go.Proofs.YtpfelbbmgbfkeaaGreat
open Go.RowKit

/-! ### Own lists of clauses -/
def elK (S : List Nat) (w : World) (cs : List Value) (c : Cls) : Prop := ∃ u, cs = [u] ∧ LitsV S w u c
theorem elK_ok : ElOk elK := ⟨fun ⟨u, e, h⟩ hg => ⟨u, e, h.gr hg⟩, fun ⟨u, e, h⟩ hs => ⟨u, e, h.sub hs⟩⟩
theorem OwnG.clss {B : Nat} {w : World} {e : TypeId} {v : Value} {cls : List Cls} (h : OwnG 1 elK B w e v cls) {S : List Nat} (hS : ∀ b ∈ S, b < B ∨ w.heap.size ≤ b) : ClsV S w v cls := by
  obtain ⟨ao, cap, rfl, h1, h2, h3⟩ := h.slice
  refine ⟨ao, cap, rfl, ⟨h1, h2, h3⟩, fun i r hi => ?_⟩
  obtain ⟨g, cap', cs, e1, hb, hlt, hl, hc, hf, hel⟩ := h.cell hi
  cases e1
  obtain ⟨u, rfl, hn⟩ := hel S (fun b hb => (hS b hb).imp id .inl)
  refine ⟨g, 0, u, rfl, fun hm => by rcases hS g hm with h | h <;> omega, ?_, hn⟩
  have := hc 0 u rfl
  simpa using this

set_option maxRecDepth 100000 in
set_option maxHeartbeats 4000000 in
theorem DrawIsImplied_c (v : Value) (bs : List Int) (w : World) (ao : Option Addr) (cap : Nat) (hv : v = .slice ao bs.length cap) (hlen : bs.length ≤ 9223372036854775807) (hcap : bs.length ≤ cap) (hc : Cells [] w .u8 ao bs) (hb : ∀ b ∈ bs, 0 ≤ b ∧ b ≤ 255) :
    Calls Tryz.prog 28 #[v] w fun e w' => ∃ (m : Mod) (mv kv cv : Value) (cls : List Cls) (c : Cls), e = .returned (.tuple #[mv, kv, cv]) ∧ ModV [] w' mv m ∧ m.Small ∧ (1 ≤ m.doms.length ∧ m.doms.length ≤ 4) ∧
      ClsV [] w' kv cls ∧ (∃ ad kc, kv = .slice (some ad) cls.length kc) ∧ cls.length ≤ 3 ∧ (∀ c ∈ cls, ascOk m.doms.length c) ∧ LitsV [] w' cv c ∧ c.length ≤ 8 ∧ Gr [] w w' := by
  subst hv
  have Hc := hid hc; have Hb := hid hb; clear hc hb
  have hg0 : Gr [] w (w.alloc (.cells #[.slice none 0 0, .slice none 0 0] 26)) := (Gr.refl _ _).alloc _
  have hr0 : (w.alloc (.cells #[.slice none 0 0, .slice none 0 0] 26)).heap[w.heap.size]? = some (.cells #[.slice none 0 0, .slice none 0 0] 26 (0, 0)) := heap_alloc_new _ _
  have Hr0 := hid hr0; have Hg0 := hid hg0; clear hr0 hg0
  go_enter Tryz.func28, Tryz.ntmps28
  go_wp2_with fail
  have hcall := newReader_c _ bs _ ao cap rfl hlen hcap (Hc.out.gr Hg0.out) Hb.out
  (with_reducible refine hcall.mono ?_)
  clear hcall
  rintro e w1 ⟨⟨R, cs, rfl, hR, hrd1⟩, hg1⟩
  go_wp2_with fail
  have hcall := anyModel_c R cs 0 _ hrd1 (by omega)
  (with_reducible refine hcall.mono ?_)
  clear hcall
  rintro e w2 ⟨m, M, bo, ac, co, cc, rfl, hown, hdM, ⟨hM1, hM2⟩, hcs, ⟨hd1, hd4⟩, hc4, htv, hrd2, hg2⟩
  simp only [World.size_alloc] at hR
  have hRw1 := hrd1.lt
  have hr2 := hg2.obj (hg1.obj Hr0.out (by simp)) (by simp; omega)
  have hmv := ModPost.modv (S := [w.heap.size, w2.heap.size, R]) (by have := hg1.size; simp at this; intro b hb; (simp at hb ⊢; omega)) hM1 hown hcs
  have hms := mod_small hd4 hc4 htv
  have HG : Hid (Gr [] w w2) := hid ((Hg0.out.trans hg1).step hg2 (fun i hi => .inr (by simp at hi; omega)))
  have hRl := hrd2.lt
  have ha3 : Gr [] w2 (w2.alloc (.cells #[.slice bo m.doms.length ac, .slice co m.cons.length cc] 26)) := (Gr.refl _ _).alloc _
  have hb3 : (w2.alloc (.cells #[.slice bo m.doms.length ac, .slice co m.cons.length cc] 26)).heap[w2.heap.size]? = some (.cells #[.slice bo m.doms.length ac, .slice co m.cons.length cc] 26 (0, 0)) := heap_alloc_new _ _
  have hwl := lt_of_block hr2
  have hr3 := ha3.obj hr2 (by simp)
  have hs3 : w2.heap.size < (w2.alloc (.cells #[.slice bo m.doms.length ac, .slice co m.cons.length cc] 26)).heap.size := by simp
  have Hmv := hid (hmv.gr ha3.any); have Hms := hid hms; have Hr3 := hid hr3; have Hrd3 := hid (hrd2.gr ha3); have Hb3 := hid hb3
  have HG3 := hid (HG.out.trans ha3)
  have fl3 := fld hb3
  clear hown hcs htv hr2 hg1 hg2 hrd1 hrd2 hmv hms ha3 hb3 HG hdM hr3
  have hs3e : (w2.alloc (.cells #[.slice bo m.doms.length ac, .slice co m.cons.length cc] 26)).heap.size = w2.heap.size + 1 := by simp
  have Hs3e := hid hs3e
  clear hs3e
  go_wp2_with fail
  generalize hW3 : w2.alloc (.cells #[.slice bo m.doms.length ac, .slice co m.cons.length cc] 26) = w3 at *
  clear hW3
  have hg4 : Gr [] w3 (w3.alloc (.cells #[] 56)) := (Gr.refl _ _).alloc _
  have HK4 : Hid (OwnG 1 elK w3.heap.size (w3.alloc (.cells #[] 56)) 56 (.slice (some ⟨w3.heap.size, 0, none⟩) 0 0) []) := hid ⟨[], rfl, by simp, World.ownsRow_made w3 #[] 0 (Nat.le_refl _) (by simp [maxLen]) rfl, by intro i cs x h; simp at h⟩
  have HK4' : Hid (OwnG 1 elK w3.heap.size (w3.alloc (.cells #[] 56)) 56 (.slice (some ⟨w2.heap.size + 1, 0, none⟩) 0 0) []) := hid (by have := HK4.out; rw [Hs3e.out] at this ⊢; exact this)
  have Hg4 := hid hg4
  clear hg4 HK4
  generalize hW4 : w3.alloc (.cells #[] 56) = w4 at *
  clear hW4
  have hcall := pick_c R cs (0 + 2000) 3 _ (Hrd3.out.gr Hg4.out) (by omega) (by omega)
  (with_reducible refine hcall.mono ?_)
  clear hcall
  rintro e w5 ⟨⟨r1, rfl, hr10, hr1n⟩, hrd5, hg5⟩
  obtain ⟨r1, rfl⟩ := Int.eq_ofNat_of_zero_le hr10
  have hr13 : r1 < 3 := by omega
  have HK5 := hid (HK4'.out.gr elK_ok hg5 (by simp; omega)); have HG5 : Hid (Gr [R] w3 w5) := hid (Hg4.out.any.trans hg5); have Hrd5 := hid hrd5
  clear hg5 hrd5 hr10 hr1n fl3
  go_wp2_with fail
  go_loopw [7, 8] (fun v i wr => ∃ (k vc : Nat) (vo : Option Addr) (ls : List Cls), k ≤ 3 ∧ i = .int .i64 k ∧ v = .slice vo ls.length vc ∧ ls.length + k ≤ 3 ∧ Hid (vo ≠ none) ∧ Hid (OwnG 1 elK w3.heap.size wr 56 (.slice vo ls.length vc) ls) ∧ Hid (∀ c ∈ ls, ascOk m.doms.length c) ∧ Hid (Rd wr R cs (2001 + 10 * (3 - k))) ∧ Hid (Gr [R] w3 wr)) (fun _ i _ => (intOf i).toNat)
  case atStart => exact ⟨r1, 0, _, [], by omega, rfl, rfl, by simp; omega, hid (by simp), HK5, hid (by simp), hid (Hrd5.out.le (by omega)), HG5⟩
  case round =>
    obtain ⟨k, vc, vo, ls, hk, rfl, rfl, hlk, Hvo, Ho, Hok, Hrd, HL⟩ := hrel
    have fl3 := fld (HL.out.obj Hb3.out (by simp; omega))
    by_cases hlt : 0 < k
    · go_wp2_with fail
      have hcall := randomClause_c R cs (2001 + 10 * (3 - k)) m.doms.length _ Hrd.out (by omega) (by omega)
      (with_reducible refine hcall.mono ?_)
      clear hcall
      rintro e w6 ⟨y, ym, yg, yc, rfl, hy, hy8, hya, hrd6, hg6⟩
      have HY := hid hy; have HYa := hid hya; have Hrd6 := hid hrd6; have HG6 : Hid (Gr [R] w3 w6) := hid (HL.out.trans hg6); have Ho6 := hid (Ho.out.gr elK_ok hg6 (by simp; omega))
      have hs6 := HL.out.size
      have Hob : Hid (∀ b, (Value.slice vo ls.length vc).ownBlock = some b → b < wr.heap.size) := hid fun b hb => by obtain ⟨css, -, -, h3, -⟩ := Ho.out; exact (ownsRow_ownBlock h3 hb).2
      have hs6' := hg6.size
      clear hy hya hrd6 hg6 fl3
      go_wp2_with (at_builtin; go_loud (refine wp_appG rfl _ _ 55 rfl 1 elK elK_ok w3.heap.size 56 (.slice none 0 0) 24 infoK rfl (by omega) (by omega) Tryz.underlying55 (.slice vo ls.length vc) ls rfl (Ho6.out.gr elK_ok ((Gr.refl [] _).alloc _) (by simp)) w6.heap.size 1 y [.slice (some ⟨yg, 0, none⟩) ym yc] rfl rfl (by simp [Value.oneCell']) (fun j u hj => by rw [fld (heap_alloc_new w6 (.cells #[.slice (some ⟨yg, 0, none⟩) ym yc] 56))]; simpa using hj) (fun S hS => ⟨_, rfl, ?_⟩) (by omega) (by simp; omega) ?_; rotate_left; intro v8 w8 hown8 hg8))
      · have HG7 : Hid (Gr [R] w3 (w6.alloc (.cells #[.slice (some ⟨yg, 0, none⟩) ym yc] 56))) := hid (HG6.out.alloc _)
        have hownB : ∀ b ∈ (Value.slice vo ls.length vc).ownBlock.toList, w3.heap.size ≤ b := fun b hb => by
          obtain ⟨css, -, -, h3, -⟩ := Ho.out
          exact (ownsRow_ownBlock h3 (by simpa using hb)).1
        have HG8 : Hid (Gr [R] w3 w8) := hid (HG7.out.step hg8 (fun i hi => .inr (hownB i hi)))
        have Hrd8 : Hid (Rd w8 R cs (2001 + 10 * (3 - k) + 10)) := hid (rdS (rdS (S := []) Hrd6.out ((Gr.refl [] w6).alloc _) (by simp)) hg8 (fun i hi => by have := hownB i hi; omega))
        obtain ⟨vo8, vc8, rfl, hl8, -, hn8⟩ := hown8.slice
        have Hv8 : Hid (vo8 ≠ none) := hid (fun e => by have := hn8 e; rw [List.length_append] at hl8; simp at hl8; omega)
        clear hn8 hl8
        have Hown8 := hid hown8
        clear hown8 hg8 hownB
        have hwk : IntKind.i64.wrap ((k : Int) - 1) = ((k - 1 : Nat) : Int) := by rw [IntKind.wrap_i64]; omega
        go_wp2_with fail
        refine ⟨⟨k - 1, vc8, vo8, ls ++ [y], by omega, by first | rfl | (congr 1; omega), rfl, by rw [List.length_append]; simp; omega, Hv8, Hown8, hid fun c hc => ?_, hid (Hrd8.out.le (by omega)), HG8⟩, by simp [intOf]; omega⟩
        rcases List.mem_append.1 hc with h | h
        · exact Hok.out c h
        · simp at h; subst h; exact HYa.out
      · have h1 := (HY.out.litsM.gr ((Gr.refl [] w6).alloc (.cells #[.slice (some ⟨yg, 0, none⟩) ym yc] 56)))
        refine h1.lits fun b hb hM => ?_
        obtain ⟨hm1, hm2⟩ := hM
        rcases hS b hb with h | h | h
        · omega
        · simp at h; omega
        · have := Hob.out b h; omega
    · have HRx : Hid (∀ W, Gr [R] wr W → W.heap[w.heap.size]? = some (.cells #[.slice none 0 0, .slice none 0 0] 26 (0, 0)) ∧ W.heap[w2.heap.size]? = some (.cells #[.slice bo m.doms.length ac, .slice co m.cons.length cc] 26 (0, 0))) :=
        hid fun W h => ⟨h.obj (HL.out.obj Hr3.out (by simp; omega)) (by simp; omega), h.obj (HL.out.obj Hb3.out (by simp; omega)) (by simp; omega)⟩
      have frd := fld (HRx.out _ ((Gr.refl [R] wr).drew)).2
      have fwd := fld (HRx.out _ ((Gr.refl [R] wr).drew)).1
      have ffd := fldF (HRx.out _ ((Gr.refl [R] wr).drew)).1
      have fw := fld (HRx.out _ (Gr.refl [R] wr)).1
      have ff := fldF (HRx.out _ (Gr.refl [R] wr)).1
      have hkl : ls.length ≤ 3 := by omega
      go_wp2_with fail
      go_region_law (first | (go_simp; go_at_call 85; refine (anyClause_c R cs (2001 + 10 * (3 - k)) m.doms.length _ (Hrd.out.gr (by first | exact (Gr.refl [] wr).drew | exact Gr.refl [] wr)) (by omega) (by omega)).mono ?_; rintro e w6 ⟨ls6, m6, g6, c6, rfl, ho6, hl6, -, hrd6, hg6⟩; have hgx : Gr [R] wr w6 := Gr.trans (by first | exact (Gr.refl [R] wr).drew | exact Gr.refl [R] wr) hg6; have HGX := hid hgx; have HO6 := hid ho6; have fr6 := fld (HRx.out _ hgx).2; have fw6 := fld (HRx.out _ hgx).1; have ff6 := fldF (HRx.out _ hgx).1; clear ho6 hrd6 hg6 hgx; (try dsimp only)))
      all_goals
        go_wp2_with fail
        have hr6 := (HRx.out _ HGX.out).1
        have hbE := block_cells (cur' := #[]) (block_cells (cur' := #[]) hr6 0 (.slice bo m.doms.length ac)) 1 (.slice co m.cons.length cc)
        have flE := fld hbE
        refine bodyPost_ret (v := .tuple #[.agg #[.slice bo m.doms.length ac, .slice co m.cons.length cc], .slice vo ls.length vc, .slice (some ⟨g6, 0, none⟩) m6 c6]) ?_ rfl ?_
        · simp [results, Tryz.results28, go_sem, flE]
        · have hgE : Gr [w.heap.size, w2.heap.size, R] w6 ((w6.setCell ⟨w.heap.size, 0, none⟩ (.slice bo m.doms.length ac)).setCell ⟨w.heap.size, 1, none⟩ (.slice co m.cons.length cc)) :=
            ((Gr.refl _ _).setCell _ _ (.inl (by simp))).setCell _ _ (.inl (by simp))
          have hgF : Gr [w.heap.size, w2.heap.size, R] wr ((w6.setCell ⟨w.heap.size, 0, none⟩ (.slice bo m.doms.length ac)).setCell ⟨w.heap.size, 1, none⟩ (.slice co m.cons.length cc)) :=
            (HGX.out.sub (fun k _ hk => by simp at hk ⊢; exact .inr (.inr hk))).trans hgE
          have hgH : Gr [w.heap.size, w2.heap.size, R] w3 ((w6.setCell ⟨w.heap.size, 0, none⟩ (.slice bo m.doms.length ac)).setCell ⟨w.heap.size, 1, none⟩ (.slice co m.cons.length cc)) :=
            (HL.out.sub (fun k _ hk => by simp at hk ⊢; exact .inr (.inr hk))).trans hgF
          have hsz := HL.out.size
          have hkS := (Ho.out.clss (S := [w.heap.size, w2.heap.size, R]) (by intro b hb; simp at hb; omega)).gr hgF
          have hcS := (HO6.out.lits (S := [w.heap.size, w2.heap.size, R]) (by intro b hb; simp at hb; first | omega | (show b < wr.heap.size; omega))).gr hgE
          exact ⟨m, _, _, _, ls, ls6, rfl, (Hmv.out.gr hgH).sub (fun b _ hb => by simp at hb), Hms.out, ⟨hd1, hd4⟩, hkS.sub (fun b _ hb => by simp at hb), (by have := Hvo.out; cases vo with | none => exact absurd rfl this | some ad => exact ⟨ad, vc, rfl⟩), hkl, Hok.out, hcS.sub (fun b _ hb => by simp at hb), hl6, HG3.out.step hgH (fun i hi => .inr (by simp at hi; omega))⟩
end Go.Proofs.YtpfelbbmgbfkeaaGreat

/-
  Walk of FnIsImplied.
-/
set_option linter.unusedVariables false
set_option linter.unusedSimpArgs false
namespace Go.Proofs.YtpfelbbmgbfkeaaGreat
open Go.RowKit

/-! ### Appending to a list of slices -/
theorem own0 {B g : Nat} {w : World} {e : TypeId} (h : w.heap[g]? = some (.cells #[] e (0, 0))) (hB : B ≤ g) : w.ownsRow B e 1 (.slice (some ⟨g, 0, none⟩) 0 0) 0 [] :=
  ⟨rfl, .inr ⟨g, 0, #[], rfl, hB, h, Nat.le_refl _, by simp [maxLen], rfl, rfl⟩⟩
theorem wp_appK {P : Program} {w : World} {o : Oper} {a : Act} {K : Act → World → Prop} {Q : Exit → Act → World → Prop} (s x : Operand) (t : TypeId)
    (ho : o.op = .call { callee := .builtin .append, args := #[s, x], argTypes := #[t, t] }) (B : Nat) (e : TypeId) (z : Value) (bytes : Nat) (hinfo : (P.info? e).map (fun i => (i.zero, i.size, i.bytes)) = some (some z, 1, bytes)) (hzs : z.cells.size = 1) (hby : bytes ≤ 100)
    (ht : P.underlying t = some (.slice e)) (g : Nat) (n c : Nat) (us news : List Value) (hs : a.eval s = .slice (some ⟨g, 0, none⟩) n c) (hown : w.ownsRow B e 1 (.slice (some ⟨g, 0, none⟩) n c) n us) (ad : Addr) (m c2 : Nat) (hx : a.eval x = .slice (some ad) m c2) (hl : news.length = m)
    (hn : ∀ j u, news[j]? = some u → w.cell? (ad.add j) = some u) (h1 : ∀ u ∈ news, u.oneCell' = true) (hlen : n + m ≤ 10000000) (hB : B ≤ w.heap.size)
    (h : ∀ g' c' w', w'.ownsRow B e 1 (.slice (some ⟨g', 0, none⟩) (n + m) c') (n + m) (us ++ news) → Gr [g] w w' → K (a.put o.dst (.slice (some ⟨g', 0, none⟩) (n + m) c')) w') : Oper.wp P o a w K Q := by
  obtain ⟨i0, hi, hz0, hz1, hz2⟩ := info_parts hinfo
  have hbb : (n + m) * bytes ≤ (n + m) * 100 := Nat.mul_le_mul_left _ hby
  refine wp_append_own w s x t ho B e i0 z 1 bytes ht hi hz0 hz1 hz2 hzs (by decide) _ n _ (by rw [hs]) hown ad m c2 news hx (by rw [hl]; omega) hn h1 (by simp only [maxLen]; omega) (by omega) hB ?_
  intro v' w' hown' hgrow hnil'
  rcases hown'.2 with ⟨e1, _⟩ | ⟨g', c', cur, e1, h2⟩
  · have := hnil'.1 e1; cases this.1
  · subst e1
    refine h g' c' w' ⟨hown'.1, .inr ⟨g', c', cur, rfl, h2⟩⟩ ⟨hgrow.os, hgrow.tape, hgrow.output, hgrow.size, fun k hk hs => hgrow.block k hk (fun e => hs (by simp [Value.ownBlock] at e; simp [e]))⟩
theorem step_appK {P : Program} {w : World} {ops : Array Oper} {o : Oper} {a : Act} {K : Act → World → Prop} {Q : Exit → Act → World → Prop} {E : Prop} (hgd : o.guard = none) (s x : Operand) (t : TypeId)
    (ho : o.op = .call { callee := .builtin .append, args := #[s, x], argTypes := #[t, t] }) (B : Nat) (e : TypeId) (z : Value) (bytes : Nat) (hinfo : (P.info? e).map (fun i => (i.zero, i.size, i.bytes)) = some (some z, 1, bytes)) (hzs : z.cells.size = 1) (hby : bytes ≤ 100)
    (ht : P.underlying t = some (.slice e)) (g : Nat) (n c : Nat) (us news : List Value) (hs : a.eval s = .slice (some ⟨g, 0, none⟩) n c) (hown : w.ownsRow B e 1 (.slice (some ⟨g, 0, none⟩) n c) n us) (ad : Addr) (m c2 : Nat) (hx : a.eval x = .slice (some ad) m c2) (hl : news.length = m)
    (hn : ∀ j u, news[j]? = some u → w.cell? (ad.add j) = some u) (h1 : ∀ u ∈ news, u.oneCell' = true) (hlen : n + m ≤ 10000000) (hB : B ≤ w.heap.size)
    (h : ∀ g' c' w', w'.ownsRow B e 1 (.slice (some ⟨g', 0, none⟩) (n + m) c') (n + m) (us ++ news) → Gr [g] w w' → K (a.put o.dst (.slice (some ⟨g', 0, none⟩) (n + m) c')) w') : if Region.wanted o (yielded ops a.tmps) = true then Oper.wp P o a w K Q else E := by
  rw [if_pos (by simp [Region.wanted, hgd])]
  exact wp_appK s x t ho B e z bytes hinfo hzs hby ht g n c us news hs hown ad m c2 hx hl hn h1 hlen hB h
theorem ownsRow_clsV {B g n c : Nat} {w : World} {e : TypeId} {us : List Value} {cls : List Cls} (h : w.ownsRow B e 1 (.slice (some ⟨g, 0, none⟩) n c) n us) (hl : cls.length = n) (hu : ∀ (i : Nat) u d, us[i]? = some u → cls[i]? = some d → LitsV [] w u d) : ClsV [] w (.slice (some ⟨g, 0, none⟩) n c) cls := by
  obtain ⟨h0, h⟩ := h
  rcases h with ⟨e1, _⟩ | ⟨g', cap, cur, e1, hB, hg, h6, h7, h8, h9⟩
  · cases e1
  · cases e1
    subst hl
    refine ⟨_, _, rfl, ⟨h6, h7, by simp⟩, fun i d hi => ?_⟩
    have hil := (List.getElem?_eq_some_iff.1 hi).1
    obtain ⟨u, hus⟩ := get_some (xs := us) (k := i) (by omega)
    refine ⟨g, 0, u, rfl, by simp, ?_, hu i u d hus hi⟩
    rw [Nat.zero_add, fld hg i]
    have : (cur.toList.take (cls.length * 1))[i]? = some u := by rw [h9]; exact hus
    rw [List.getElem?_take, if_pos (by omega)] at this
    simpa using this
/-- The cells of a list of clauses. -/
theorem ClsV.cells {S : List Nat} {w : World} {ad : Addr} {n cap : Nat} {cls : List Cls} (h : ClsV S w (.slice (some ad) n cap) cls) :
    ∃ us : List Value, us.length = n ∧ (∀ j u, us[j]? = some u → w.cell? (ad.add j) = some u) ∧ (∀ u ∈ us, u.oneCell' = true) ∧ ∀ (i : Nat) u d, us[i]? = some u → cls[i]? = some d → LitsV S w u d := by
  obtain ⟨ao, cap', e, ⟨h1, h2, h3⟩, hc⟩ := h
  cases e
  obtain ⟨f, hf⟩ := Go.Deep.choose_lt (n := cls.length) (p := fun i (u : Value) => w.cell? (ad.add i) = some u ∧ u.oneCell' = true ∧ ∀ d, cls[i]? = some d → LitsV S w u d) (fun i hi => by
    obtain ⟨d, hd⟩ := get_some hi
    obtain ⟨b, o, u, e1, -, hcell, hl⟩ := hc i d hd
    cases e1
    refine ⟨u, by rw [addr_add]; exact hcell, ?_, fun d' hd' => by rw [hd] at hd'; cases hd'; exact hl⟩
    obtain ⟨x, y, rfl, -⟩ := hl.slice
    rfl)
  refine ⟨(List.range cls.length).map f, by simp, fun j u hj => ?_, fun u hu => ?_, fun i u d hi hd => ?_⟩
  · have hjl : j < cls.length := by have := (List.getElem?_eq_some_iff.1 hj).1; simpa using this
    rw [List.getElem?_map, List.getElem?_range hjl] at hj
    have : f j = u := by simpa using hj
    rw [← this]; exact (hf j hjl).1
  · obtain ⟨j, hj, rfl⟩ := List.mem_map.1 hu
    exact (hf j (List.mem_range.1 hj)).2.1
  · have hil := (List.getElem?_eq_some_iff.1 hd).1
    rw [List.getElem?_map, List.getElem?_range hil] at hi
    have : f i = u := by simpa using hi
    rw [← this]; exact (hf i hil).2.2 d hd

theorem all_snoc {cls : List Cls} {p : Cls → Bool} {j : Nat} {c : Cls} (h : cls[j]? = some c) : (cls.take (j + 1)).all p = ((cls.take j).all p && p c) := by
  rw [List.take_add_one, h, List.all_append]
  simp

set_option maxRecDepth 100000 in
set_option maxHeartbeats 16000000 in
theorem FnIsImplied_c (v : Value) (bs : List Int) (ao : Option Addr) (cap : Nat) (w : World) (hv : v = .slice ao bs.length cap) (hlen : bs.length ≤ 9223372036854775807) (hcap : bs.length ≤ cap) (hc : Cells [] w .u8 ao bs) (hb : ∀ b ∈ bs, 0 ≤ b ∧ b ≤ 255) :
    Calls Tryz.prog 6 #[v] w fun e w' => e = .returned (.bool true) ∧ Gr [] w w' := by
  subst hv
  have Hc := hid hc; have Hb := hid hb; clear hc hb
  by_cases hbig : 1048576 < bs.length
  · go_enter Tryz.func6, Tryz.ntmps6
    go_wp2_with fail
    go_ret
    exact ⟨rfl, Gr.refl _ _⟩
  have hbig' : decide ((1048576 : Int) < (bs.length : Int)) = false := by simp; omega
  go_enter Tryz.func6, Tryz.ntmps6
  go_wp2_with fail
  have hcall := DrawIsImplied_c _ bs w ao cap rfl hlen hcap Hc.out Hb.out
  (with_reducible refine hcall.mono ?_)
  clear hcall
  rintro e w1 ⟨m, mv, kv, cv, cls, c, rfl, hmv, hms, ⟨hd1, hd4⟩, hk, ⟨ad, kc, rfl⟩, hk3, hka, hcl, hc8, hg1⟩
  obtain ⟨xo, xc, co, cc, rfl⟩ := hmv.slices
  obtain ⟨lo, lc, rfl, ⟨hc1, hc2⟩⟩ := hcl.slice
  have ha2 : Gr [] w1 (w1.alloc (.cells #[.slice xo m.doms.length xc, .slice co m.cons.length cc] 26)) := (Gr.refl _ _).alloc _
  have hb2 : (w1.alloc (.cells #[.slice xo m.doms.length xc, .slice co m.cons.length cc] 26)).heap[w1.heap.size]? = some (.cells #[.slice xo m.doms.length xc, .slice co m.cons.length cc] 26 (0, 0)) := heap_alloc_new _ _
  have HG2 := hid (hg1.trans ha2); have Hmv2 := hid (hmv.gr ha2); have Hms := hid hms; have Hb2 := hid hb2
  have HK2 := hid (hk.gr ha2); have HC2 := hid (hcl.gr ha2)
  have HKv : Hid (∀ c ∈ cls, validCl c m.doms.length = true) := hid fun c h => ascOk_valid (hka c h) ⟨hd1, hd4⟩
  have HKl : Hid (∀ c ∈ cls, c.length ≤ 2000000) := hid fun c h => by have := (hka c h).1; omega
  clear hmv hms ha2 hb2 hg1 hbig hk hka hcl
  obtain ⟨D, hD⟩ := openVM m
  have HD := hid hD; clear hD
  obtain ⟨r, hr⟩ : ∃ r, r = implB m D cls c := ⟨_, rfl⟩
  have HR := hid hr; clear hr
  have hne : (r != r) = false := by cases r <;> rfl
  have heq : (r == r) = true := by cases r <;> rfl
  go_wp2_with fail
  generalize hW : w1.alloc (.cells #[.slice xo m.doms.length xc, .slice co m.cons.length cc] 26) = w2 at *
  clear hW
  have hcall := IsImplied_c m D cls c _ _ _ _ Hmv2.out HD.out Hms.out HK2.out HKl.out HC2.out (by omega)
  (with_reducible refine hcall.mono ?_)
  clear hcall
  rw [← HR.out]
  rintro e w3 ⟨rfl, hg3⟩
  have HG3 := hid hg3
  have fl3 := fld (HG3.out.obj Hb2.out (by simp))
  clear hg3
  go_wp2_with fail
  have hcall := specIsImplied_c m D cls c _ _ _ _ (Hmv2.out.gr HG3.out) HD.out Hms.out (HK2.out.gr HG3.out) HKl.out (HC2.out.gr HG3.out) (by omega)
  (with_reducible refine hcall.mono ?_)
  clear hcall
  rw [← HR.out]
  rintro e w4 ⟨rfl, hg4⟩
  have HG4 := hid (HG3.out.trans hg4)
  have fl4 := fld (HG4.out.obj Hb2.out (by simp))
  clear hg4 fl3
  go_wp2_with fail
  have hcall := ValidModel_c m _ _ (Hmv2.out.gr HG4.out)
  (with_reducible refine hcall.mono ?_)
  clear hcall
  rintro e w5 ⟨rfl, hg5⟩
  have HG5 := hid (HG4.out.trans hg5)
  have fl5 := fld (HG5.out.obj Hb2.out (by simp))
  clear hg5 fl4
  cases hb : validM m
  · have Hb0 := hid hb
    clear hb
    go_wp2_with fail
    have hcall := specIsImplied_c m D cls c _ _ _ _ (Hmv2.out.gr HG5.out) HD.out Hms.out (HK2.out.gr HG5.out) HKl.out (HC2.out.gr HG5.out) (by omega)
    (with_reducible refine hcall.mono ?_)
    clear hcall
    rw [← HR.out]
    rintro e w6 ⟨rfl, hg6⟩
    go_wp2_with fail
    go_ret
    exact ⟨rfl, (HG2.out.trans HG5.out).trans hg6⟩
  have HVM := hid (HD.out hb)
  have Hval := hid hb
  have HDL : Hid (m.doms.length = D.length) := hid (by rw [HVM.out.doms, ints_len])
  have hI : I64 (m.doms.length : Int) := by unfold I64; omega
  have HI := hid hI
  clear hb hI
  go_wp2_with fail
  have hcall := ValidClause_c c m.doms.length _ _ (HC2.out.gr HG5.out) (by omega) HI.out
  (with_reducible refine hcall.mono ?_)
  clear hcall
  rintro e w6 ⟨rfl, hg6⟩
  have HG6 := hid (HG5.out.trans hg6)
  have fl6 := fld (HG6.out.obj Hb2.out (by simp))
  clear hg6 fl5
  cases hb2 : validCl c m.doms.length
  · have Hb0 := hid hb2
    clear hb2
    go_wp2_with fail
    have hcall := specIsImplied_c m D cls c _ _ _ _ (Hmv2.out.gr HG6.out) HD.out Hms.out (HK2.out.gr HG6.out) HKl.out (HC2.out.gr HG6.out) (by omega)
    (with_reducible refine hcall.mono ?_)
    clear hcall
    rw [← HR.out]
    rintro e w7 ⟨rfl, hg7⟩
    go_wp2_with fail
    go_ret
    exact ⟨rfl, (HG2.out.trans HG6.out).trans hg7⟩
  have HCv := hid hb2
  have hD4 : D.length ≤ 4 := HVM.out.len.2
  have hD1 : 1 ≤ D.length := HVM.out.len.1
  clear hb2
  go_wp2_with fail
  have hcall := SolveAll_c m 20 _ _ (Hmv2.out.gr HG6.out) D HD.out
  (with_reducible refine hcall.mono ?_)
  clear hcall
  rintro e w7 ⟨v7, rfl, hr7, hg7⟩
  obtain ⟨zs, hzs⟩ : ∃ zs, zs = allO m 20 D := ⟨_, rfl⟩
  rw [← hzs] at hr7
  have Hzm : Hid (∀ x ∈ zs, x ∈ sols m.cons D) := hid (by rw [hzs]; unfold allO; split; exact fun x hx => List.mem_of_mem_take hx; simp)
  have Hr7 := hid hr7
  obtain ⟨ro, rc, rfl, ⟨hr1, hr2, -⟩, -⟩ := hr7
  have HG7 := hid (HG6.out.trans hg7)
  have Hb7 := hid (HG7.out.obj Hb2.out (by simp))
  clear hzs hg7 fl6
  go_wp2_with fail
  go_loopw [8] (fun i' wr => ∃ n : Nat, n ≤ zs.length ∧ i' = .int .i64 n ∧ Gr [] w7 wr) (fun i' _ => zs.length - (intOf i').toNat)
  case atStart => exact ⟨0, Nat.zero_le _, rfl, Gr.refl _ _⟩
  case round =>
  obtain ⟨n, hn, rfl, hg⟩ := hrel
  have flr := fld (hg.obj Hb7.out (by simp))
  have Hg := hid hg
  by_cases hlt : n < zs.length
  · obtain ⟨x, hx⟩ := get_some hlt
    have hxs := Hzm.out x (List.mem_of_getElem? hx)
    have hxl : x.length = D.length := tups_len (mem_sols.1 hxs).1
    have hx05 : allB 0 5 x = true := allB_iff.2 (tups_val (mem_sols.1 hxs).1)
    obtain ⟨b, o', u, e1, hc0, hn0⟩ := (Hr7.out.gr hg).at0 hx
    subst e1
    obtain ⟨xo', xc', rfl, ⟨hx1, hx2, -⟩, -⟩ := id hn0
    have Hxs := hid hxs; have Hxl := hid hxl; have Hn0 := hid hn0; have Hc0 := hid hc0; have Hx05 := hid hx05
    clear hx hxs hxl hn0 hg hx05 hc0
    have hcl1000 : cls.length ≤ 1000 := by omega
    obtain ⟨wo, hwo⟩ : ∃ wo, wo = wr := ⟨_, rfl⟩
    subst hwo
    go_wp2_with fail
    go_loopw [9, 10] (fun bv i' wq => ∃ (j : Nat) (t : Bool), j ≤ cls.length ∧ i' = .int .i64 j ∧ bv = .bool t ∧ Hid (t = (cls.take j).all fun d => holdsB d x) ∧ Gr [] wo wq) (fun _ i' _ => cls.length - (intOf i').toNat)
    case atStart => exact ⟨0, true, Nat.zero_le _, rfl, rfl, hid (by simp), Gr.refl _ _⟩
    case round =>
    obtain ⟨j, t, hj, rfl, rfl, Ht, hgq⟩ := hrel
    have Hgq := hid (HG7.out.trans (Hg.out.trans hgq)); have Hgi := hid hgq
    by_cases hjl : j < cls.length
    · obtain ⟨d, hd⟩ := get_some hjl
      obtain ⟨kb, ko, po, pc, e9, -, k0, hlv⟩ := (HK2.out.gr Hgq.out).at hd
      cases e9
      have hdv := HKv.out d (List.mem_of_getElem? hd)
      have Hdv : Hid (validCl d x.length = true) := hid (by rw [Hxl.out, ← HDL.out]; exact hdv)
      have hsn := all_snoc (p := fun d => holdsB d x) hd
      have Hsn := hid hsn; have Hlv := hid hlv
      have eK : ∀ q : GrW [] wr, q.val.cell? ⟨kb, ko + j, none⟩ = some (.slice po d.length pc) := fun q => q.gr.cell k0 (by simp)
      have eX : ∀ q : GrW [] wr, q.val.cell? ⟨b, o' + n, none⟩ = some (.slice xo' x.length xc') := fun q => (hgq.trans q.gr).cell Hc0.out (by simp)
      obtain ⟨hh, hhd⟩ : ∃ hh, hh = holdsB d x := ⟨_, rfl⟩
      have hH : ∀ q : GrW [] wr, Calls Tryz.prog 34 #[.slice po d.length pc, .slice xo' x.length xc'] q.val fun e w'' => e = .returned (.bool hh) ∧ ∃ m : GrW [] wr, w'' = m.val := fun q =>
        Calls.gr_of ((ClauseHolds_c d x _ _ _ (Hlv.out.gr q.gr) (Hn0.out.gr (Hgi.out.trans q.gr)) (by rw [Hxl.out]; exact ⟨hD1, hD4⟩) Hx05.out Hdv.out).mono fun e w' h => by rw [hhd]; exact h)
      have HH := hid hH; have Hhd := hid hhd
      clear hd k0 hlv hdv hsn hgq hH hhd
      cases t
      · go_wp2_with fail
        refine wp_region_gr [] _ (by kernel_rfl) (by kernel_rfl) (Gr.refl _ _) ?_
        repeat (go_big_quiet_step (fail))
        refine wpQuiet_nil ?_
        rintro w9 ⟨n9, rfl⟩
        have hg9 := n9.gr
        clear eK eX
        go_wp2_with fail
        exact ⟨⟨j + 1, false, by omega, by go_num, rfl, hid (by rw [Hsn.out, ← Ht.out]; rfl), Hgi.out.trans hg9⟩, by simp [intOf]; omega⟩
      · go_wp2_with fail
        refine wp_region_gr [] _ (by kernel_rfl) (by kernel_rfl) (Gr.refl _ _) ?_
        repeat (go_big_quiet_step ((go_at_call 34; exact HH.out _)))
        refine wpQuiet_nil ?_
        rintro w9 ⟨n9, rfl⟩
        have hg9 := n9.gr
        clear eK eX
        go_wp2_with fail
        exact ⟨⟨j + 1, hh, by omega, by go_num, rfl, hid (by rw [Hsn.out, ← Ht.out, Hhd.out]; rfl), Hgi.out.trans hg9⟩, by simp [intOf]; omega⟩
    · have hje : j = cls.length := by omega
      subst hje
      rw [List.take_length] at Ht
      have hcx := Hgi.out.cell Hc0.out (by simp)
      have Hgo := hid (Hg.out.trans Hgi.out)
      clear hgq hjl
      cases r
      · go_wp2_with fail
        exact ⟨⟨n + 1, by omega, by go_num, Hgo.out⟩, by simp [intOf]; omega⟩
      · have hi : implB m D cls c = true := HR.out.symm
        unfold implB at hi
        simp only [Bool.and_eq_true] at hi
        obtain ⟨-, -, -, href⟩ := hi
        have Href := hid href
        clear href
        cases t
        · go_wp2_with fail
          exact ⟨⟨n + 1, by omega, by go_num, Hgo.out⟩, by simp [intOf]; omega⟩
        · have hcv := HCv.out
          have hokc : ∀ l ∈ c, litOk D.length l = true := by rw [← HDL.out]; unfold validCl at hcv; rw [Bool.and_eq_true] at hcv; exact (validClS_iff.1 hcv.2).1
          have hcvx : validCl c x.length = true := by rw [Hxl.out, ← HDL.out]; exact hcv
          have hokk : ∀ d ∈ cls, ∀ l ∈ d, litOk D.length l = true := fun d hd => by
            have := HKv.out d hd
            unfold validCl at this
            rw [Bool.and_eq_true, HDL.out] at this
            exact (validClS_iff.1 this.2).1
          have hhx : holdsB c x = true := refB_sound (mem_sols.1 Hxs.out).1 (by omega) HVM.out.cons (mem_sols.1 Hxs.out).2 hokk (fun d hd => List.all_eq_true.1 Ht.out.symm d hd) hokc Href.out
          have Hhx := hid hhx; have Hcvx := hid hcvx
          clear hhx hcv hokc hokk hcvx
          go_wp2_with fail
          have hcall := ClauseHolds_c c x _ _ _ (HC2.out.gr Hgq.out) (Hn0.out.gr Hgi.out) (by rw [Hxl.out]; exact ⟨hD1, hD4⟩) Hx05.out Hcvx.out
          (with_reducible refine hcall.mono ?_)
          clear hcall
          rw [Hhx.out]
          rintro e w9 ⟨rfl, hg9⟩
          go_wp2_with fail
          exact ⟨⟨n + 1, by omega, by go_num, Hgo.out.trans hg9⟩, by simp [intOf]; omega⟩
  · have HGr := hid (HG7.out.trans hg)
    have hfd := fld (hg.drew.obj Hb7.out (by simp))
    obtain ⟨us, hu1, hu2, hu3, hu4⟩ := (HK2.out.gr HGr.out).cells
    have Hu2 := hid hu2; have Hu3 := hid hu3; have Hu4 := hid hu4
    have hself : implB m D (cls ++ [c]) c = true := by
      have hcv := HCv.out
      have hokc : ∀ l ∈ c, litOk D.length l = true := by rw [← HDL.out]; unfold validCl at hcv; rw [Bool.and_eq_true] at hcv; exact (validClS_iff.1 hcv.2).1
      unfold implB clsB
      rw [Hval.out, hcv, refB_self (by omega) HVM.out.cons hokc, List.all_append, List.all_eq_true.2 HKv.out, List.all_cons, hcv, decide_eq_true (by rw [List.length_append]; simp; omega)]
      rfl
    have Hself := hid hself
    have Hkl2 : Hid (∀ d ∈ cls ++ [c], d.length ≤ 2000000) := hid fun d hd => by
      rcases List.mem_append.1 hd with h | h
      · exact HKl.out d h
      · simp at h; subst h; omega
    clear hu2 hu3 hu4 hself hg
    go_wp2_with fail
    have HS : Hid (∀ W, Gr [] wr W → W.cell? ⟨w1.heap.size, 0, none⟩ = some (.slice xo m.doms.length xc) ∧ W.cell? ⟨w1.heap.size, 1, none⟩ = some (.slice co m.cons.length cc)) :=
      hid fun W h => ⟨fld ((Hg.out.trans h).obj Hb7.out (by simp)) 0, fld ((Hg.out.trans h).obj Hb7.out (by simp)) 1⟩
    have hu5 : ∀ (i : Nat) u d, (us ++ [Value.slice lo c.length lc])[i]? = some u → (cls ++ [c])[i]? = some d → LitsV [] wr u d := by
      intro i u d hi hd
      by_cases hil : i < cls.length
      · rw [List.getElem?_append_left (by omega)] at hi hd
        exact Hu4.out i u d hi hd
      · rw [List.getElem?_append_right (by omega), hu1] at hi
        rw [List.getElem?_append_right (by omega)] at hd
        match hk : i - cls.length with
        | 0 =>
          rw [hk] at hi hd
          simp at hi hd
          subst hi hd
          exact HC2.out.gr HGr.out
        | k + 1 => rw [hk] at hi; simp at hi
    have HB0 : Hid (∀ (W : World) (g n c : Nat), W.ownsRow wr.heap.size 56 1 (.slice (some ⟨g, 0, none⟩) n c) n us → wr.heap.size ≤ g) := hid fun W g n c h => (ownsRow_ownBlock h rfl).1
    have Hu5 := hid hu5
    have HImp : Hid (∀ (W : World) (kv : Value), ClsV [] W kv (cls ++ [c]) → Gr [] wr W → Calls Tryz.prog 29 #[.agg #[.slice xo m.doms.length xc, .slice co m.cons.length cc], kv, .slice lo c.length lc] W fun e w' => e = .returned (.bool true) ∧ Gr [] W w') := hid fun W kv hk hg => by
      refine (IsImplied_c m D (cls ++ [c]) c _ _ _ W (Hmv2.out.gr (HGr.out.trans hg)) HD.out Hms.out hk Hkl2.out (HC2.out.gr (HGr.out.trans hg)) (by omega)).mono ?_
      rw [Hself.out]
      exact fun e w' h => h
    clear hu5
    refine wp_region_held_drew (S := (fun W => W.cell? ⟨w1.heap.size, 0, none⟩ = some (.slice xo m.doms.length xc) ∧ W.cell? ⟨w1.heap.size, 1, none⟩ = some (.slice co m.cons.length cc))) (by kernel_rfl) ?_ (fun hHeld => ?_)
    · exact HS.out _ (Gr.refl [] wr).drew
    refine wpAnyH_take (i := 0) (v := ?_) rfl (by kernel_rfl) (by kernel_rfl) (by kernel_rfl) (fun _ _ _ h => h) (Or.inl ⟨by rfl, ?_⟩) (by assumption) ?_
    rotate_left
    · intro w hSw; (try dsimp only at hSw); go_simp; (try with_reducible rfl)
    try simp only [Act.put, List.setIfInBounds_toArray, List.set_cons_zero, List.set_cons_succ, List.getElem_toArray, List.getElem_cons_zero, List.getElem_cons_succ]
    refine wpAnyH_take (i := 2) (v := ?_) rfl (by kernel_rfl) (by kernel_rfl) (by kernel_rfl) (fun _ _ _ h => h) (Or.inl ⟨by rfl, ?_⟩) (by assumption) ?_
    rotate_left
    · intro w hSw; (try dsimp only at hSw); go_simp; (try with_reducible rfl)
    try simp only [Act.put, List.setIfInBounds_toArray, List.set_cons_zero, List.set_cons_succ, List.getElem_toArray, List.getElem_cons_zero, List.getElem_cons_succ]
    refine wpAnyH_take (i := 4) (v := ?_) rfl (by kernel_rfl) (by kernel_rfl) (by kernel_rfl) (fun _ _ _ h => h) (Or.inl ⟨by rfl, ?_⟩) (by assumption) ?_
    rotate_left
    · intro w hSw; (try dsimp only at hSw); go_simp; (try with_reducible rfl)
    try simp only [Act.put, List.setIfInBounds_toArray, List.set_cons_zero, List.set_cons_succ, List.getElem_toArray, List.getElem_cons_zero, List.getElem_cons_succ]
    refine wpAnyH_take (i := 7) (v := ?_) rfl (by kernel_rfl) (by kernel_rfl) (by kernel_rfl) (fun _ _ _ h => h) (Or.inl ⟨by rfl, ?_⟩) (by assumption) ?_
    rotate_left
    · intro w hSw; (try dsimp only at hSw); go_simp; (try with_reducible rfl)
    try simp only [Act.put, List.setIfInBounds_toArray, List.set_cons_zero, List.set_cons_succ, List.getElem_toArray, List.getElem_cons_zero, List.getElem_cons_succ]
    refine wpAnyH_ready (rs := [1, 5]) (by kernel_rfl) (by simp) ?_
    refine AllReadyH.cons rfl (fun K hK => ?_) ?_
    · go_simp
      refine hK.out _ _ ?_ (fun hHeld => ?_)
      · (try dsimp only); (first | exact HS.out _ (Gr.refl [] wr) | exact HS.out _ (Gr.refl [] wr).drew | exact HS.out _ ((Gr.refl [] wr).alloc _).drew | exact HS.out _ (((Gr.refl [] wr).alloc _).alloc _).drew | exact HS.out _ (((Gr.refl [] wr).drew.alloc _).alloc _) | exact HS.out _ ((Gr.refl [] wr).drew.alloc _) | exact HS.out _ HG8.out | exact HS.out _ (HG8.out.alloc _) | exact HS.out _ HG9.out | exact HS.out _ HGz.out | assumption)
      clear hK K
      try simp only [Act.put, List.setIfInBounds_toArray, List.set_cons_zero, List.set_cons_succ, List.getElem_toArray, List.getElem_cons_zero, List.getElem_cons_succ]
      refine wpAnyH_ready (rs := [3, 5]) (by kernel_rfl) (by simp) ?_
      refine AllReadyH.cons rfl (fun K hK => ?_) ?_
      · (refine step_appK rfl _ _ 55 rfl wr.heap.size 56 (.slice none 0 0) 24 infoK rfl (by omega) Tryz.underlying55 _ 0 0 [] us rfl (own0 (heap_alloc_new wr.drew (.cells #[] 56)) (by first | (simp; done) | (simp; omega))) ad cls.length kc rfl hu1 (fun j u h => Gr.cell ((Gr.refl [] wr).drew.alloc (.cells #[] 56)) (Hu2.out j u h) (by simp)) Hu3.out (by omega) (by first | (simp; done) | (simp; omega)) ?_; intro g8 c8 w8 ho8 hg8; have HO8 := hid ho8; have HO8' : Hid (w8.ownsRow wr.heap.size 56 1 (.slice (some ⟨g8, 0, none⟩) cls.length c8) cls.length ([] ++ us)) := hid (by have := ho8; rw [Nat.zero_add] at this; exact this); have HG8 : Hid (Gr [] wr w8) := hid (Gr.step ((Gr.refl [] wr).drew.alloc (.cells #[] 56)) hg8 (fun i hi => .inr (by simp at hi; omega))); clear ho8 hg8)
        refine hK.out _ _ ?_ (fun hHeld => ?_)
        · (try dsimp only); (first | exact HS.out _ (Gr.refl [] wr) | exact HS.out _ (Gr.refl [] wr).drew | exact HS.out _ ((Gr.refl [] wr).alloc _).drew | exact HS.out _ (((Gr.refl [] wr).alloc _).alloc _).drew | exact HS.out _ (((Gr.refl [] wr).drew.alloc _).alloc _) | exact HS.out _ ((Gr.refl [] wr).drew.alloc _) | exact HS.out _ HG8.out | exact HS.out _ (HG8.out.alloc _) | exact HS.out _ HG9.out | exact HS.out _ HGz.out | assumption)
        clear hK K
        try simp only [Act.put, List.setIfInBounds_toArray, List.set_cons_zero, List.set_cons_succ, List.getElem_toArray, List.getElem_cons_zero, List.getElem_cons_succ]
        refine wpAnyH_ready (rs := [5]) (by kernel_rfl) (by simp) ?_
        refine AllReadyH.cons rfl (fun K hK => ?_) ?_
        · go_simp
          refine hK.out _ _ ?_ (fun hHeld => ?_)
          · (try dsimp only); (first | exact HS.out _ (Gr.refl [] wr) | exact HS.out _ (Gr.refl [] wr).drew | exact HS.out _ ((Gr.refl [] wr).alloc _).drew | exact HS.out _ (((Gr.refl [] wr).alloc _).alloc _).drew | exact HS.out _ (((Gr.refl [] wr).drew.alloc _).alloc _) | exact HS.out _ ((Gr.refl [] wr).drew.alloc _) | exact HS.out _ HG8.out | exact HS.out _ (HG8.out.alloc _) | exact HS.out _ HG9.out | exact HS.out _ HGz.out | assumption)
          clear hK K
          try simp only [Act.put, List.setIfInBounds_toArray, List.set_cons_zero, List.set_cons_succ, List.getElem_toArray, List.getElem_cons_zero, List.getElem_cons_succ]
          refine wpAnyH_ready (rs := [6]) (by kernel_rfl) (by simp) ?_
          refine AllReadyH.cons rfl (fun K hK => ?_) ?_
          · (refine step_appK rfl _ _ 55 rfl wr.heap.size 56 (.slice none 0 0) 24 infoK rfl (by omega) Tryz.underlying55 g8 _ c8 ([] ++ us) [(.slice lo c.length lc)] rfl (by first | exact ((Gr.refl [] w8).alloc _).ownsRow HO8'.out (by simp) | exact ((Gr.refl [] w8).alloc _).ownsRow HO8.out (by simp)) _ 1 1 rfl rfl (fun j u h => by match j, h with | 0, h => (simp at h; subst h; rw [addr_add]; exact fld (heap_alloc_new w8 (.cells #[(.slice lo c.length lc)] 56)) 0) | j + 1, h => simp at h) (by simp [Value.oneCell']) (by omega) (by have := HG8.out.size; simp; omega) ?_; intro g9 c9 w9 ho9 hg9; have HG9 : Hid (Gr [] wr w9) := hid (Gr.step (HG8.out.alloc _) hg9 (fun i hi => .inr (by simp at hi; subst hi; exact HB0.out _ _ _ _ HO8.out))); have hc9 := ownsRow_clsV (cls := cls ++ [c]) ho9 (by simp) (fun i u d hi hd => (Hu5.out i u d hi hd).gr HG9.out); have HC9 := hid hc9; clear ho9 hg9 hc9)
            refine hK.out _ _ ?_ (fun hHeld => ?_)
            · (try dsimp only); (first | exact HS.out _ (Gr.refl [] wr) | exact HS.out _ (Gr.refl [] wr).drew | exact HS.out _ ((Gr.refl [] wr).alloc _).drew | exact HS.out _ (((Gr.refl [] wr).alloc _).alloc _).drew | exact HS.out _ (((Gr.refl [] wr).drew.alloc _).alloc _) | exact HS.out _ ((Gr.refl [] wr).drew.alloc _) | exact HS.out _ HG8.out | exact HS.out _ (HG8.out.alloc _) | exact HS.out _ HG9.out | exact HS.out _ HGz.out | assumption)
            clear hK K
            try simp only [Act.put, List.setIfInBounds_toArray, List.set_cons_zero, List.set_cons_succ, List.getElem_toArray, List.getElem_cons_zero, List.getElem_cons_succ]
            refine wpAnyH_ready (rs := [8]) (by kernel_rfl) (by simp) ?_
            refine AllReadyH.cons rfl (fun K hK => ?_) ?_
            · (go_simp; go_at_call 29; refine (HImp.out _ _ HC9.out HG9.out).mono ?_; rintro e wz ⟨rfl, hgz⟩; have HGz := hid (HG9.out.trans hgz); clear hgz; (try dsimp only))
              refine hK.out _ _ ?_ (fun hHeld => ?_)
              · (try dsimp only); (first | exact HS.out _ (Gr.refl [] wr) | exact HS.out _ (Gr.refl [] wr).drew | exact HS.out _ ((Gr.refl [] wr).alloc _).drew | exact HS.out _ (((Gr.refl [] wr).alloc _).alloc _).drew | exact HS.out _ (((Gr.refl [] wr).drew.alloc _).alloc _) | exact HS.out _ ((Gr.refl [] wr).drew.alloc _) | exact HS.out _ HG8.out | exact HS.out _ (HG8.out.alloc _) | exact HS.out _ HG9.out | exact HS.out _ HGz.out | assumption)
              clear hK K
              try simp only [Act.put, List.setIfInBounds_toArray, List.set_cons_zero, List.set_cons_succ, List.getElem_toArray, List.getElem_cons_zero, List.getElem_cons_succ]
              refine wpAnyH_take (i := 9) (v := ?_) rfl (by kernel_rfl) (by kernel_rfl) (by kernel_rfl) (fun _ _ _ h => h) (Or.inl ⟨by rfl, ?_⟩) (by assumption) ?_
              rotate_left
              · intro w hSw; (try dsimp only at hSw); go_simp; (try with_reducible rfl)
              try simp only [Act.put, List.setIfInBounds_toArray, List.set_cons_zero, List.set_cons_succ, List.getElem_toArray, List.getElem_cons_zero, List.getElem_cons_succ]
              refine wpAnyH_take (i := 10) (v := undef) rfl (by kernel_rfl) (by kernel_rfl) (by kernel_rfl) (fun _ _ _ h => h) (Or.inr ⟨by rfl, rfl⟩) (by assumption) ?_
              try simp only [Act.put, List.setIfInBounds_toArray, List.set_cons_zero, List.set_cons_succ, List.getElem_toArray, List.getElem_cons_zero, List.getElem_cons_succ]
              refine wpAnyH_take (i := 11) (v := undef) rfl (by kernel_rfl) (by kernel_rfl) (by kernel_rfl) (fun _ _ _ h => h) (Or.inr ⟨by rfl, rfl⟩) (by assumption) ?_
              try simp only [Act.put, List.setIfInBounds_toArray, List.set_cons_zero, List.set_cons_succ, List.getElem_toArray, List.getElem_cons_zero, List.getElem_cons_succ]
              refine wpAnyH_take (i := 12) (v := undef) rfl (by kernel_rfl) (by kernel_rfl) (by kernel_rfl) (fun _ _ _ h => h) (Or.inr ⟨by rfl, rfl⟩) (by assumption) ?_
              try simp only [Act.put, List.setIfInBounds_toArray, List.set_cons_zero, List.set_cons_succ, List.getElem_toArray, List.getElem_cons_zero, List.getElem_cons_succ]
              refine wpAnyH_take (i := 13) (v := undef) rfl (by kernel_rfl) (by kernel_rfl) (by kernel_rfl) (fun _ _ _ h => h) (Or.inr ⟨by rfl, rfl⟩) (by assumption) ?_
              try simp only [Act.put, List.setIfInBounds_toArray, List.set_cons_zero, List.set_cons_succ, List.getElem_toArray, List.getElem_cons_zero, List.getElem_cons_succ]
              refine wpAnyH_take (i := 14) (v := undef) rfl (by kernel_rfl) (by kernel_rfl) (by kernel_rfl) (fun _ _ _ h => h) (Or.inr ⟨by rfl, rfl⟩) (by assumption) ?_
              try simp only [Act.put, List.setIfInBounds_toArray, List.set_cons_zero, List.set_cons_succ, List.getElem_toArray, List.getElem_cons_zero, List.getElem_cons_succ]
              refine wpAnyH_take (i := 15) (v := undef) rfl (by kernel_rfl) (by kernel_rfl) (by kernel_rfl) (fun _ _ _ h => h) (Or.inr ⟨by rfl, rfl⟩) (by assumption) ?_
              try simp only [Act.put, List.setIfInBounds_toArray, List.set_cons_zero, List.set_cons_succ, List.getElem_toArray, List.getElem_cons_zero, List.getElem_cons_succ]
              refine wpAnyH_take (i := 16) (v := undef) rfl (by kernel_rfl) (by kernel_rfl) (by kernel_rfl) (fun _ _ _ h => h) (Or.inr ⟨by rfl, rfl⟩) (by assumption) ?_
              try simp only [Act.put, List.setIfInBounds_toArray, List.set_cons_zero, List.set_cons_succ, List.getElem_toArray, List.getElem_cons_zero, List.getElem_cons_succ]
              refine wpAnyH_take (i := 17) (v := undef) rfl (by kernel_rfl) (by kernel_rfl) (by kernel_rfl) (fun _ _ _ h => h) (Or.inr ⟨by rfl, rfl⟩) (by assumption) ?_
              try simp only [Act.put, List.setIfInBounds_toArray, List.set_cons_zero, List.set_cons_succ, List.getElem_toArray, List.getElem_cons_zero, List.getElem_cons_succ]
              refine wpAnyH_take (i := 18) (v := undef) rfl (by kernel_rfl) (by kernel_rfl) (by kernel_rfl) (fun _ _ _ h => h) (Or.inr ⟨by rfl, rfl⟩) (by assumption) ?_
              try simp only [Act.put, List.setIfInBounds_toArray, List.set_cons_zero, List.set_cons_succ, List.getElem_toArray, List.getElem_cons_zero, List.getElem_cons_succ]
              refine wpAnyH_take (i := 19) (v := ?_) rfl (by kernel_rfl) (by kernel_rfl) (by kernel_rfl) (fun _ _ _ h => h) (Or.inl ⟨by rfl, ?_⟩) (by assumption) ?_
              rotate_left
              · intro w hSw; (try dsimp only at hSw); go_simp; (try with_reducible rfl)
              try simp only [Act.put, List.setIfInBounds_toArray, List.set_cons_zero, List.set_cons_succ, List.getElem_toArray, List.getElem_cons_zero, List.getElem_cons_succ]
              refine wpAnyH_take (i := 20) (v := ?_) rfl (by kernel_rfl) (by kernel_rfl) (by kernel_rfl) (fun _ _ _ h => h) (Or.inl ⟨by rfl, ?_⟩) (by assumption) ?_
              rotate_left
              · intro w hSw; (try dsimp only at hSw); go_simp; (try with_reducible rfl)
              try simp only [Act.put, List.setIfInBounds_toArray, List.set_cons_zero, List.set_cons_succ, List.getElem_toArray, List.getElem_cons_zero, List.getElem_cons_succ]
              refine wpAnyH_done (by kernel_rfl) ?_ _
              go_wp2_with fail
              go_ret
              exact ⟨rfl, (HG2.out.trans HGr.out).trans HGz.out⟩
            exact AllReadyH.nil
          exact AllReadyH.nil
        exact AllReadyH.nil
      refine AllReadyH.cons rfl (fun K hK => ?_) ?_
      · go_simp
        refine hK.out _ _ ?_ (fun hHeld => ?_)
        · (try dsimp only); (first | exact HS.out _ (Gr.refl [] wr) | exact HS.out _ (Gr.refl [] wr).drew | exact HS.out _ ((Gr.refl [] wr).alloc _).drew | exact HS.out _ (((Gr.refl [] wr).alloc _).alloc _).drew | exact HS.out _ (((Gr.refl [] wr).drew.alloc _).alloc _) | exact HS.out _ ((Gr.refl [] wr).drew.alloc _) | exact HS.out _ HG8.out | exact HS.out _ (HG8.out.alloc _) | exact HS.out _ HG9.out | exact HS.out _ HGz.out | assumption)
        clear hK K
        try simp only [Act.put, List.setIfInBounds_toArray, List.set_cons_zero, List.set_cons_succ, List.getElem_toArray, List.getElem_cons_zero, List.getElem_cons_succ]
        refine wpAnyH_ready (rs := [3]) (by kernel_rfl) (by simp) ?_
        refine AllReadyH.cons rfl (fun K hK => ?_) ?_
        · (refine step_appK rfl _ _ 55 rfl wr.heap.size 56 (.slice none 0 0) 24 infoK rfl (by omega) Tryz.underlying55 _ 0 0 [] us rfl (own0 (((Gr.refl [] _).alloc (.cells #[(.slice lo c.length lc)] 56)).obj (heap_alloc_new wr.drew (.cells #[] 56)) (by simp)) (by first | (simp; done) | (simp; omega))) ad cls.length kc rfl hu1 (fun j u h => Gr.cell (((Gr.refl [] wr).drew.alloc (.cells #[] 56)).alloc (.cells #[(.slice lo c.length lc)] 56)) (Hu2.out j u h) (by simp)) Hu3.out (by omega) (by first | (simp; done) | (simp; omega)) ?_; intro g8 c8 w8 ho8 hg8; have HO8 := hid ho8; have HO8' : Hid (w8.ownsRow wr.heap.size 56 1 (.slice (some ⟨g8, 0, none⟩) cls.length c8) cls.length ([] ++ us)) := hid (by have := ho8; rw [Nat.zero_add] at this; exact this); have HG8 : Hid (Gr [] wr w8) := hid (Gr.step (((Gr.refl [] wr).drew.alloc (.cells #[] 56)).alloc (.cells #[(.slice lo c.length lc)] 56)) hg8 (fun i hi => .inr (by simp at hi; omega))); have hb8 := hg8.obj (heap_alloc_new (wr.drew.alloc (.cells #[] 56)) (.cells #[(.slice lo c.length lc)] 56)) (by simp); rw [show (wr.drew.alloc (.cells #[] 56)).heap.size = wr.heap.size + 1 by simp] at hb8; have HB8 := hid hb8; clear hb8; clear ho8 hg8)
          refine hK.out _ _ ?_ (fun hHeld => ?_)
          · (try dsimp only); (first | exact HS.out _ (Gr.refl [] wr) | exact HS.out _ (Gr.refl [] wr).drew | exact HS.out _ ((Gr.refl [] wr).alloc _).drew | exact HS.out _ (((Gr.refl [] wr).alloc _).alloc _).drew | exact HS.out _ (((Gr.refl [] wr).drew.alloc _).alloc _) | exact HS.out _ ((Gr.refl [] wr).drew.alloc _) | exact HS.out _ HG8.out | exact HS.out _ (HG8.out.alloc _) | exact HS.out _ HG9.out | exact HS.out _ HGz.out | assumption)
          clear hK K
          try simp only [Act.put, List.setIfInBounds_toArray, List.set_cons_zero, List.set_cons_succ, List.getElem_toArray, List.getElem_cons_zero, List.getElem_cons_succ]
          refine wpAnyH_ready (rs := [6]) (by kernel_rfl) (by simp) ?_
          refine AllReadyH.cons rfl (fun K hK => ?_) ?_
          · (refine step_appK rfl _ _ 55 rfl wr.heap.size 56 (.slice none 0 0) 24 infoK rfl (by omega) Tryz.underlying55 g8 _ c8 ([] ++ us) [(.slice lo c.length lc)] rfl (by first | exact HO8.out | exact HO8'.out) _ 1 1 rfl rfl (fun j u h => by match j, h with | 0, h => (simp at h; subst h; rw [addr_add]; exact fld HB8.out 0) | j + 1, h => simp at h) (by simp [Value.oneCell']) (by omega) HG8.out.size ?_; intro g9 c9 w9 ho9 hg9; have HG9 : Hid (Gr [] wr w9) := hid (Gr.step HG8.out hg9 (fun i hi => .inr (by simp at hi; subst hi; exact HB0.out _ _ _ _ HO8.out))); have hc9 := ownsRow_clsV (cls := cls ++ [c]) ho9 (by simp) (fun i u d hi hd => (Hu5.out i u d hi hd).gr HG9.out); rw [Nat.zero_add] at hc9; have HC9 := hid hc9; clear ho9 hg9 hc9)
            refine hK.out _ _ ?_ (fun hHeld => ?_)
            · (try dsimp only); (first | exact HS.out _ (Gr.refl [] wr) | exact HS.out _ (Gr.refl [] wr).drew | exact HS.out _ ((Gr.refl [] wr).alloc _).drew | exact HS.out _ (((Gr.refl [] wr).alloc _).alloc _).drew | exact HS.out _ (((Gr.refl [] wr).drew.alloc _).alloc _) | exact HS.out _ ((Gr.refl [] wr).drew.alloc _) | exact HS.out _ HG8.out | exact HS.out _ (HG8.out.alloc _) | exact HS.out _ HG9.out | exact HS.out _ HGz.out | assumption)
            clear hK K
            try simp only [Act.put, List.setIfInBounds_toArray, List.set_cons_zero, List.set_cons_succ, List.getElem_toArray, List.getElem_cons_zero, List.getElem_cons_succ]
            refine wpAnyH_ready (rs := [8]) (by kernel_rfl) (by simp) ?_
            refine AllReadyH.cons rfl (fun K hK => ?_) ?_
            · (go_simp; go_at_call 29; refine (HImp.out _ _ HC9.out HG9.out).mono ?_; rintro e wz ⟨rfl, hgz⟩; have HGz := hid (HG9.out.trans hgz); clear hgz; (try dsimp only))
              refine hK.out _ _ ?_ (fun hHeld => ?_)
              · (try dsimp only); (first | exact HS.out _ (Gr.refl [] wr) | exact HS.out _ (Gr.refl [] wr).drew | exact HS.out _ ((Gr.refl [] wr).alloc _).drew | exact HS.out _ (((Gr.refl [] wr).alloc _).alloc _).drew | exact HS.out _ (((Gr.refl [] wr).drew.alloc _).alloc _) | exact HS.out _ ((Gr.refl [] wr).drew.alloc _) | exact HS.out _ HG8.out | exact HS.out _ (HG8.out.alloc _) | exact HS.out _ HG9.out | exact HS.out _ HGz.out | assumption)
              clear hK K
              try simp only [Act.put, List.setIfInBounds_toArray, List.set_cons_zero, List.set_cons_succ, List.getElem_toArray, List.getElem_cons_zero, List.getElem_cons_succ]
              refine wpAnyH_take (i := 9) (v := ?_) rfl (by kernel_rfl) (by kernel_rfl) (by kernel_rfl) (fun _ _ _ h => h) (Or.inl ⟨by rfl, ?_⟩) (by assumption) ?_
              rotate_left
              · intro w hSw; (try dsimp only at hSw); go_simp; (try with_reducible rfl)
              try simp only [Act.put, List.setIfInBounds_toArray, List.set_cons_zero, List.set_cons_succ, List.getElem_toArray, List.getElem_cons_zero, List.getElem_cons_succ]
              refine wpAnyH_take (i := 10) (v := undef) rfl (by kernel_rfl) (by kernel_rfl) (by kernel_rfl) (fun _ _ _ h => h) (Or.inr ⟨by rfl, rfl⟩) (by assumption) ?_
              try simp only [Act.put, List.setIfInBounds_toArray, List.set_cons_zero, List.set_cons_succ, List.getElem_toArray, List.getElem_cons_zero, List.getElem_cons_succ]
              refine wpAnyH_take (i := 11) (v := undef) rfl (by kernel_rfl) (by kernel_rfl) (by kernel_rfl) (fun _ _ _ h => h) (Or.inr ⟨by rfl, rfl⟩) (by assumption) ?_
              try simp only [Act.put, List.setIfInBounds_toArray, List.set_cons_zero, List.set_cons_succ, List.getElem_toArray, List.getElem_cons_zero, List.getElem_cons_succ]
              refine wpAnyH_take (i := 12) (v := undef) rfl (by kernel_rfl) (by kernel_rfl) (by kernel_rfl) (fun _ _ _ h => h) (Or.inr ⟨by rfl, rfl⟩) (by assumption) ?_
              try simp only [Act.put, List.setIfInBounds_toArray, List.set_cons_zero, List.set_cons_succ, List.getElem_toArray, List.getElem_cons_zero, List.getElem_cons_succ]
              refine wpAnyH_take (i := 13) (v := undef) rfl (by kernel_rfl) (by kernel_rfl) (by kernel_rfl) (fun _ _ _ h => h) (Or.inr ⟨by rfl, rfl⟩) (by assumption) ?_
              try simp only [Act.put, List.setIfInBounds_toArray, List.set_cons_zero, List.set_cons_succ, List.getElem_toArray, List.getElem_cons_zero, List.getElem_cons_succ]
              refine wpAnyH_take (i := 14) (v := undef) rfl (by kernel_rfl) (by kernel_rfl) (by kernel_rfl) (fun _ _ _ h => h) (Or.inr ⟨by rfl, rfl⟩) (by assumption) ?_
              try simp only [Act.put, List.setIfInBounds_toArray, List.set_cons_zero, List.set_cons_succ, List.getElem_toArray, List.getElem_cons_zero, List.getElem_cons_succ]
              refine wpAnyH_take (i := 15) (v := undef) rfl (by kernel_rfl) (by kernel_rfl) (by kernel_rfl) (fun _ _ _ h => h) (Or.inr ⟨by rfl, rfl⟩) (by assumption) ?_
              try simp only [Act.put, List.setIfInBounds_toArray, List.set_cons_zero, List.set_cons_succ, List.getElem_toArray, List.getElem_cons_zero, List.getElem_cons_succ]
              refine wpAnyH_take (i := 16) (v := undef) rfl (by kernel_rfl) (by kernel_rfl) (by kernel_rfl) (fun _ _ _ h => h) (Or.inr ⟨by rfl, rfl⟩) (by assumption) ?_
              try simp only [Act.put, List.setIfInBounds_toArray, List.set_cons_zero, List.set_cons_succ, List.getElem_toArray, List.getElem_cons_zero, List.getElem_cons_succ]
              refine wpAnyH_take (i := 17) (v := undef) rfl (by kernel_rfl) (by kernel_rfl) (by kernel_rfl) (fun _ _ _ h => h) (Or.inr ⟨by rfl, rfl⟩) (by assumption) ?_
              try simp only [Act.put, List.setIfInBounds_toArray, List.set_cons_zero, List.set_cons_succ, List.getElem_toArray, List.getElem_cons_zero, List.getElem_cons_succ]
              refine wpAnyH_take (i := 18) (v := undef) rfl (by kernel_rfl) (by kernel_rfl) (by kernel_rfl) (fun _ _ _ h => h) (Or.inr ⟨by rfl, rfl⟩) (by assumption) ?_
              try simp only [Act.put, List.setIfInBounds_toArray, List.set_cons_zero, List.set_cons_succ, List.getElem_toArray, List.getElem_cons_zero, List.getElem_cons_succ]
              refine wpAnyH_take (i := 19) (v := ?_) rfl (by kernel_rfl) (by kernel_rfl) (by kernel_rfl) (fun _ _ _ h => h) (Or.inl ⟨by rfl, ?_⟩) (by assumption) ?_
              rotate_left
              · intro w hSw; (try dsimp only at hSw); go_simp; (try with_reducible rfl)
              try simp only [Act.put, List.setIfInBounds_toArray, List.set_cons_zero, List.set_cons_succ, List.getElem_toArray, List.getElem_cons_zero, List.getElem_cons_succ]
              refine wpAnyH_take (i := 20) (v := ?_) rfl (by kernel_rfl) (by kernel_rfl) (by kernel_rfl) (fun _ _ _ h => h) (Or.inl ⟨by rfl, ?_⟩) (by assumption) ?_
              rotate_left
              · intro w hSw; (try dsimp only at hSw); go_simp; (try with_reducible rfl)
              try simp only [Act.put, List.setIfInBounds_toArray, List.set_cons_zero, List.set_cons_succ, List.getElem_toArray, List.getElem_cons_zero, List.getElem_cons_succ]
              refine wpAnyH_done (by kernel_rfl) ?_ _
              go_wp2_with fail
              go_ret
              exact ⟨rfl, (HG2.out.trans HGr.out).trans HGz.out⟩
            exact AllReadyH.nil
          exact AllReadyH.nil
        exact AllReadyH.nil
      exact AllReadyH.nil
    refine AllReadyH.cons rfl (fun K hK => ?_) ?_
    · go_simp
      refine hK.out _ _ ?_ (fun hHeld => ?_)
      · (try dsimp only); (first | exact HS.out _ (Gr.refl [] wr) | exact HS.out _ (Gr.refl [] wr).drew | exact HS.out _ ((Gr.refl [] wr).alloc _).drew | exact HS.out _ (((Gr.refl [] wr).alloc _).alloc _).drew | exact HS.out _ (((Gr.refl [] wr).drew.alloc _).alloc _) | exact HS.out _ ((Gr.refl [] wr).drew.alloc _) | exact HS.out _ HG8.out | exact HS.out _ (HG8.out.alloc _) | exact HS.out _ HG9.out | exact HS.out _ HGz.out | assumption)
      clear hK K
      try simp only [Act.put, List.setIfInBounds_toArray, List.set_cons_zero, List.set_cons_succ, List.getElem_toArray, List.getElem_cons_zero, List.getElem_cons_succ]
      refine wpAnyH_ready (rs := [1]) (by kernel_rfl) (by simp) ?_
      refine AllReadyH.cons rfl (fun K hK => ?_) ?_
      · go_simp
        refine hK.out _ _ ?_ (fun hHeld => ?_)
        · (try dsimp only); (first | exact HS.out _ (Gr.refl [] wr) | exact HS.out _ (Gr.refl [] wr).drew | exact HS.out _ ((Gr.refl [] wr).alloc _).drew | exact HS.out _ (((Gr.refl [] wr).alloc _).alloc _).drew | exact HS.out _ (((Gr.refl [] wr).drew.alloc _).alloc _) | exact HS.out _ ((Gr.refl [] wr).drew.alloc _) | exact HS.out _ HG8.out | exact HS.out _ (HG8.out.alloc _) | exact HS.out _ HG9.out | exact HS.out _ HGz.out | assumption)
        clear hK K
        try simp only [Act.put, List.setIfInBounds_toArray, List.set_cons_zero, List.set_cons_succ, List.getElem_toArray, List.getElem_cons_zero, List.getElem_cons_succ]
        refine wpAnyH_ready (rs := [3]) (by kernel_rfl) (by simp) ?_
        refine AllReadyH.cons rfl (fun K hK => ?_) ?_
        · (refine step_appK rfl _ _ 55 rfl wr.heap.size 56 (.slice none 0 0) 24 infoK rfl (by omega) Tryz.underlying55 _ 0 0 [] us rfl (own0 (by have hx9 := heap_alloc_new (wr.drew.alloc (.cells #[(.slice lo c.length lc)] 56)) (.cells #[] 56); rw [show (wr.drew.alloc (.cells #[(.slice lo c.length lc)] 56)).heap.size = wr.heap.size + 1 by simp] at hx9; exact hx9) (by first | (simp; done) | (simp; omega))) ad cls.length kc rfl hu1 (fun j u h => Gr.cell (((Gr.refl [] wr).drew.alloc (.cells #[(.slice lo c.length lc)] 56)).alloc (.cells #[] 56)) (Hu2.out j u h) (by simp)) Hu3.out (by omega) (by first | (simp; done) | (simp; omega)) ?_; intro g8 c8 w8 ho8 hg8; have HO8 := hid ho8; have HO8' : Hid (w8.ownsRow wr.heap.size 56 1 (.slice (some ⟨g8, 0, none⟩) cls.length c8) cls.length ([] ++ us)) := hid (by have := ho8; rw [Nat.zero_add] at this; exact this); have HG8 : Hid (Gr [] wr w8) := hid (Gr.step (((Gr.refl [] wr).drew.alloc (.cells #[(.slice lo c.length lc)] 56)).alloc (.cells #[] 56)) hg8 (fun i hi => .inr (by simp at hi; omega))); have HB8 := hid (hg8.obj (((Gr.refl [] _).alloc (.cells #[] 56)).obj (heap_alloc_new wr.drew (.cells #[(.slice lo c.length lc)] 56)) (by simp)) (by simp)); clear ho8 hg8)
          refine hK.out _ _ ?_ (fun hHeld => ?_)
          · (try dsimp only); (first | exact HS.out _ (Gr.refl [] wr) | exact HS.out _ (Gr.refl [] wr).drew | exact HS.out _ ((Gr.refl [] wr).alloc _).drew | exact HS.out _ (((Gr.refl [] wr).alloc _).alloc _).drew | exact HS.out _ (((Gr.refl [] wr).drew.alloc _).alloc _) | exact HS.out _ ((Gr.refl [] wr).drew.alloc _) | exact HS.out _ HG8.out | exact HS.out _ (HG8.out.alloc _) | exact HS.out _ HG9.out | exact HS.out _ HGz.out | assumption)
          clear hK K
          try simp only [Act.put, List.setIfInBounds_toArray, List.set_cons_zero, List.set_cons_succ, List.getElem_toArray, List.getElem_cons_zero, List.getElem_cons_succ]
          refine wpAnyH_ready (rs := [6]) (by kernel_rfl) (by simp) ?_
          refine AllReadyH.cons rfl (fun K hK => ?_) ?_
          · (refine step_appK rfl _ _ 55 rfl wr.heap.size 56 (.slice none 0 0) 24 infoK rfl (by omega) Tryz.underlying55 g8 _ c8 ([] ++ us) [(.slice lo c.length lc)] rfl (by first | exact HO8.out | exact HO8'.out) _ 1 1 rfl rfl (fun j u h => by match j, h with | 0, h => (simp at h; subst h; rw [addr_add]; exact fld HB8.out 0) | j + 1, h => simp at h) (by simp [Value.oneCell']) (by omega) HG8.out.size ?_; intro g9 c9 w9 ho9 hg9; have HG9 : Hid (Gr [] wr w9) := hid (Gr.step HG8.out hg9 (fun i hi => .inr (by simp at hi; subst hi; exact HB0.out _ _ _ _ HO8.out))); have hc9 := ownsRow_clsV (cls := cls ++ [c]) ho9 (by simp) (fun i u d hi hd => (Hu5.out i u d hi hd).gr HG9.out); rw [Nat.zero_add] at hc9; have HC9 := hid hc9; clear ho9 hg9 hc9)
            refine hK.out _ _ ?_ (fun hHeld => ?_)
            · (try dsimp only); (first | exact HS.out _ (Gr.refl [] wr) | exact HS.out _ (Gr.refl [] wr).drew | exact HS.out _ ((Gr.refl [] wr).alloc _).drew | exact HS.out _ (((Gr.refl [] wr).alloc _).alloc _).drew | exact HS.out _ (((Gr.refl [] wr).drew.alloc _).alloc _) | exact HS.out _ ((Gr.refl [] wr).drew.alloc _) | exact HS.out _ HG8.out | exact HS.out _ (HG8.out.alloc _) | exact HS.out _ HG9.out | exact HS.out _ HGz.out | assumption)
            clear hK K
            try simp only [Act.put, List.setIfInBounds_toArray, List.set_cons_zero, List.set_cons_succ, List.getElem_toArray, List.getElem_cons_zero, List.getElem_cons_succ]
            refine wpAnyH_ready (rs := [8]) (by kernel_rfl) (by simp) ?_
            refine AllReadyH.cons rfl (fun K hK => ?_) ?_
            · (go_simp; go_at_call 29; refine (HImp.out _ _ HC9.out HG9.out).mono ?_; rintro e wz ⟨rfl, hgz⟩; have HGz := hid (HG9.out.trans hgz); clear hgz; (try dsimp only))
              refine hK.out _ _ ?_ (fun hHeld => ?_)
              · (try dsimp only); (first | exact HS.out _ (Gr.refl [] wr) | exact HS.out _ (Gr.refl [] wr).drew | exact HS.out _ ((Gr.refl [] wr).alloc _).drew | exact HS.out _ (((Gr.refl [] wr).alloc _).alloc _).drew | exact HS.out _ (((Gr.refl [] wr).drew.alloc _).alloc _) | exact HS.out _ ((Gr.refl [] wr).drew.alloc _) | exact HS.out _ HG8.out | exact HS.out _ (HG8.out.alloc _) | exact HS.out _ HG9.out | exact HS.out _ HGz.out | assumption)
              clear hK K
              try simp only [Act.put, List.setIfInBounds_toArray, List.set_cons_zero, List.set_cons_succ, List.getElem_toArray, List.getElem_cons_zero, List.getElem_cons_succ]
              refine wpAnyH_take (i := 9) (v := ?_) rfl (by kernel_rfl) (by kernel_rfl) (by kernel_rfl) (fun _ _ _ h => h) (Or.inl ⟨by rfl, ?_⟩) (by assumption) ?_
              rotate_left
              · intro w hSw; (try dsimp only at hSw); go_simp; (try with_reducible rfl)
              try simp only [Act.put, List.setIfInBounds_toArray, List.set_cons_zero, List.set_cons_succ, List.getElem_toArray, List.getElem_cons_zero, List.getElem_cons_succ]
              refine wpAnyH_take (i := 10) (v := undef) rfl (by kernel_rfl) (by kernel_rfl) (by kernel_rfl) (fun _ _ _ h => h) (Or.inr ⟨by rfl, rfl⟩) (by assumption) ?_
              try simp only [Act.put, List.setIfInBounds_toArray, List.set_cons_zero, List.set_cons_succ, List.getElem_toArray, List.getElem_cons_zero, List.getElem_cons_succ]
              refine wpAnyH_take (i := 11) (v := undef) rfl (by kernel_rfl) (by kernel_rfl) (by kernel_rfl) (fun _ _ _ h => h) (Or.inr ⟨by rfl, rfl⟩) (by assumption) ?_
              try simp only [Act.put, List.setIfInBounds_toArray, List.set_cons_zero, List.set_cons_succ, List.getElem_toArray, List.getElem_cons_zero, List.getElem_cons_succ]
              refine wpAnyH_take (i := 12) (v := undef) rfl (by kernel_rfl) (by kernel_rfl) (by kernel_rfl) (fun _ _ _ h => h) (Or.inr ⟨by rfl, rfl⟩) (by assumption) ?_
              try simp only [Act.put, List.setIfInBounds_toArray, List.set_cons_zero, List.set_cons_succ, List.getElem_toArray, List.getElem_cons_zero, List.getElem_cons_succ]
              refine wpAnyH_take (i := 13) (v := undef) rfl (by kernel_rfl) (by kernel_rfl) (by kernel_rfl) (fun _ _ _ h => h) (Or.inr ⟨by rfl, rfl⟩) (by assumption) ?_
              try simp only [Act.put, List.setIfInBounds_toArray, List.set_cons_zero, List.set_cons_succ, List.getElem_toArray, List.getElem_cons_zero, List.getElem_cons_succ]
              refine wpAnyH_take (i := 14) (v := undef) rfl (by kernel_rfl) (by kernel_rfl) (by kernel_rfl) (fun _ _ _ h => h) (Or.inr ⟨by rfl, rfl⟩) (by assumption) ?_
              try simp only [Act.put, List.setIfInBounds_toArray, List.set_cons_zero, List.set_cons_succ, List.getElem_toArray, List.getElem_cons_zero, List.getElem_cons_succ]
              refine wpAnyH_take (i := 15) (v := undef) rfl (by kernel_rfl) (by kernel_rfl) (by kernel_rfl) (fun _ _ _ h => h) (Or.inr ⟨by rfl, rfl⟩) (by assumption) ?_
              try simp only [Act.put, List.setIfInBounds_toArray, List.set_cons_zero, List.set_cons_succ, List.getElem_toArray, List.getElem_cons_zero, List.getElem_cons_succ]
              refine wpAnyH_take (i := 16) (v := undef) rfl (by kernel_rfl) (by kernel_rfl) (by kernel_rfl) (fun _ _ _ h => h) (Or.inr ⟨by rfl, rfl⟩) (by assumption) ?_
              try simp only [Act.put, List.setIfInBounds_toArray, List.set_cons_zero, List.set_cons_succ, List.getElem_toArray, List.getElem_cons_zero, List.getElem_cons_succ]
              refine wpAnyH_take (i := 17) (v := undef) rfl (by kernel_rfl) (by kernel_rfl) (by kernel_rfl) (fun _ _ _ h => h) (Or.inr ⟨by rfl, rfl⟩) (by assumption) ?_
              try simp only [Act.put, List.setIfInBounds_toArray, List.set_cons_zero, List.set_cons_succ, List.getElem_toArray, List.getElem_cons_zero, List.getElem_cons_succ]
              refine wpAnyH_take (i := 18) (v := undef) rfl (by kernel_rfl) (by kernel_rfl) (by kernel_rfl) (fun _ _ _ h => h) (Or.inr ⟨by rfl, rfl⟩) (by assumption) ?_
              try simp only [Act.put, List.setIfInBounds_toArray, List.set_cons_zero, List.set_cons_succ, List.getElem_toArray, List.getElem_cons_zero, List.getElem_cons_succ]
              refine wpAnyH_take (i := 19) (v := ?_) rfl (by kernel_rfl) (by kernel_rfl) (by kernel_rfl) (fun _ _ _ h => h) (Or.inl ⟨by rfl, ?_⟩) (by assumption) ?_
              rotate_left
              · intro w hSw; (try dsimp only at hSw); go_simp; (try with_reducible rfl)
              try simp only [Act.put, List.setIfInBounds_toArray, List.set_cons_zero, List.set_cons_succ, List.getElem_toArray, List.getElem_cons_zero, List.getElem_cons_succ]
              refine wpAnyH_take (i := 20) (v := ?_) rfl (by kernel_rfl) (by kernel_rfl) (by kernel_rfl) (fun _ _ _ h => h) (Or.inl ⟨by rfl, ?_⟩) (by assumption) ?_
              rotate_left
              · intro w hSw; (try dsimp only at hSw); go_simp; (try with_reducible rfl)
              try simp only [Act.put, List.setIfInBounds_toArray, List.set_cons_zero, List.set_cons_succ, List.getElem_toArray, List.getElem_cons_zero, List.getElem_cons_succ]
              refine wpAnyH_done (by kernel_rfl) ?_ _
              go_wp2_with fail
              go_ret
              exact ⟨rfl, (HG2.out.trans HGr.out).trans HGz.out⟩
            exact AllReadyH.nil
          exact AllReadyH.nil
        exact AllReadyH.nil
      exact AllReadyH.nil
    exact AllReadyH.nil
end Go.Proofs.YtpfelbbmgbfkeaaGreat

