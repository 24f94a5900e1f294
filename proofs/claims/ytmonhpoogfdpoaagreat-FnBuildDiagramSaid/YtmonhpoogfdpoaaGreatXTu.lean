/-
  Walks of the reference's list of the tuples that satisfy a constraint, and of its test whether all of them do.
-/
import Derived.Test.YtmonhpoogfdpoaaGreatXM1
import Derived.Test.YtmonhpoogfdpoaaGreatXG1
import Derived.Test.YtmonhpoogfdpoaaGreatXEnt
import Derived.Test.YtmonhpoogfdpoaaGreatXSiSf
set_option linter.unusedVariables false
set_option linter.unusedSimpArgs false
namespace Go.Proofs.YtmonhpoogfdpoaaGreat
open Go.RowKit

/-- A walker over the tuples in memory: its struct in block E, its tuple in block bx, what it reads below B0. -/
structure TL (W : World) (B0 E bx : Nat) (T : TypeId) (cs : Array Value) (c : Con) (cv dv : Value) (d : List Nat) (xs : List Int) : Prop where
  e : W.heap[E]? = some (.cells cs T (0, 0))
  con : ∀ S : List Nat, (∀ b ∈ S, B0 ≤ b) → ConV S W cv c
  dom : ∀ S : List Nat, (∀ b ∈ S, B0 ≤ b) → Nums S W .i64 dv (ints d)
  x : Own bx W 3 (.slice (some ⟨bx, 0, none⟩) c.vars.length c.vars.length) xs
  lo : B0 ≤ bx ∧ bx < E
section
variable {W W' : World} {B0 E bx : Nat} {T : TypeId} {cs cs' : Array Value} {c : Con} {cv dv : Value} {d : List Nat} {xs : List Int}
theorem TL.step (h : TL W B0 E bx T cs c cv dv d xs) {S : List Nat} (hg : Gr S W W') (hS : ∀ b ∈ S, B0 ≤ b ∧ b ≠ bx) (he : W'.heap[E]? = some (.cells cs' T (0, 0))) : TL W' B0 E bx T cs' c cv dv d xs :=
  ⟨he, fun S2 h2 => ((h.con (S ++ S2) (fun b hb => (List.mem_append.1 hb).elim (fun x => (hS b x).1) (h2 b))).gr (hg.sub fun k _ hk => List.mem_append.2 (.inl hk))).sub fun b _ hb => List.mem_append.2 (.inr hb),
   fun S2 h2 => ((h.dom (S ++ S2) (fun b hb => (List.mem_append.1 hb).elim (fun x => (hS b x).1) (h2 b))).gr (hg.sub fun k _ hk => List.mem_append.2 (.inl hk))).sub fun b _ hb => List.mem_append.2 (.inr hb),
   h.x.keep hg fun hm => (hS _ hm).2 rfl, h.lo⟩
theorem TL.gr (h : TL W B0 E bx T cs c cv dv d xs) (hg : Gr [] W W') : TL W' B0 E bx T cs c cv dv d xs := h.step hg (by simp) (hg.obj h.e (by simp))
theorem TL.drewN (h : TL W B0 E bx T cs c cv dv d xs) (n : Nat) : TL (W.drewN n) B0 E bx T cs c cv dv d xs := h.gr ((Gr.refl _ _).drewN n)
theorem TL.setX (h : TL W B0 E bx T cs c cv dv d xs) (i : Nat) (v : Int) (hi : i < xs.length) : TL (W.setCell ⟨bx, i, none⟩ (.int .i64 v)) B0 E bx T cs c cv dv d (xs.set i v) := by
  have hg : Gr [bx] W (W.setCell ⟨bx, i, none⟩ (.int .i64 v)) := (Gr.refl _ _).setCell _ _ (.inl (by simp))
  have h1 := h.lo
  refine ⟨hg.obj h.e (by simp; omega), fun S2 h2 => ?_, fun S2 h2 => ?_, h.x.set i v hi, h.lo⟩
  · exact ((h.con (bx :: S2) (by intro b hb; rcases List.mem_cons.1 hb with rfl | hb; exact h1.1; exact h2 b hb)).gr (hg.sub fun k _ hk => by simp at hk; simp [hk])).sub fun b _ hb => by simp [hb]
  · exact ((h.dom (bx :: S2) (by intro b hb; rcases List.mem_cons.1 hb with rfl | hb; exact h1.1; exact h2 b hb)).gr (hg.sub fun k _ hk => by simp at hk; simp [hk])).sub fun b _ hb => by simp [hb]
theorem TL.xlen (h : TL W B0 E bx T cs c cv dv d xs) : c.vars.length = xs.length := h.x.len
end
theorem Gr.under {S : List Nat} {w w' : World} (h : Gr S w w') {B : Nat} (hS : ∀ b ∈ S, B ≤ b) (hB : B ≤ w.heap.size) : Below B w w' :=
  ⟨h.os, h.tape, h.output, h.size, fun k hk => h.block k (by omega) fun hm => by have := hS k hm; omega⟩
theorem Below.of_gr0 {w w' : World} (h : Gr [] w w') {B : Nat} (hB : B ≤ w.heap.size) : Below B w w' := h.under (by simp) hB
theorem flat_len {α β : Type} (f : α → List β) (K : Nat) (l : List α) (h : ∀ a ∈ l, (f a).length ≤ K) : (l.flatMap f).length ≤ l.length * K := by
  induction l with
  | nil => simp
  | cons a r ih =>
    have h1 := h a (List.mem_cons_self ..)
    have h2 := ih fun b hb => h b (List.mem_cons_of_mem _ hb)
    rw [List.flatMap_cons, List.length_append, List.length_cons, Nat.succ_mul]; omega
theorem from_len (p : List Int) (D : List Nat) : (tupsFrom p (D.map vals)).length ≤ 6 ^ D.length := by
  have := tups_length D
  unfold tups at this
  unfold tupsFrom
  rwa [List.length_map]

def tlCells (c : Con) (vo : Option Addr) (vc : Nat) (av rv dv : Value) (bx : Nat) (fv : Value) : Array Value :=
  #[.int .i64 c.kind, .slice vo c.vars.length vc, av, .int .i64 c.bound, rv, dv, .slice (some ⟨bx, 0, none⟩) c.vars.length c.vars.length, fv]
def TWPost (B0 E bx : Nat) (c : Con) (vo : Option Addr) (vc : Nat) (av rv dv : Value) (d : List Nat) (i : Nat) (xs : List Int) (rows : List (List Int)) (W : World) (e : Ending) (w' : World) : Prop :=
  (∃ v, e = .returned v) ∧ ∃ (xs' : List Int) (fv' : Value), xs'.take i = xs.take i ∧ xs'.length = c.vars.length ∧
    TL w' B0 E bx 85 (tlCells c vo vc av rv dv bx fv') c (.agg #[.int .i64 c.kind, .slice vo c.vars.length vc, av, .int .i64 c.bound, rv]) dv d xs' ∧
    OwnG 1 elRow (E + 1) w' 23 fv' (rows ++ (tupsFrom (xs.take i) (((wordN c.vars d).drop i).map vals)).filter (satB c)) ∧ Below B0 W w'


set_option maxRecDepth 100000 in
set_option maxHeartbeats 2000000 in
theorem twalk_leaf (B0 E bx : Nat) (c : Con) (vo : Option Addr) (vc : Nat) (av rv dv fv : Value) (d : List Nat) (hc : VC c d.length) (xs : List Int) (rows : List (List Int)) (W : World)
    (hT : TL W B0 E bx 85 (tlCells c vo vc av rv dv bx fv) c (.agg #[.int .i64 c.kind, .slice vo c.vars.length vc, av, .int .i64 c.bound, rv]) dv d xs) (hF : OwnG 1 elRow (E + 1) W 23 fv rows) (hx : ∀ x ∈ xs, 0 ≤ x ∧ x ≤ 5) (hrl : rows.length + 1 ≤ 1000000) :
    Calls Tryz.prog 53 #[.pointer (some ⟨E, 0, none⟩), .int .i64 c.vars.length] W (TWPost B0 E bx c vo vc av rv dv d c.vars.length xs rows W) := by
  have hxl := hT.xlen
  obtain ⟨fo, fc, rfl, _, _, _⟩ := hF.slice
  have fE : ∀ i, W.cell? ⟨E, i, none⟩ = #[.int .i64 c.kind, .slice vo c.vars.length vc, av, .int .i64 c.bound, rv, dv, .slice (some ⟨bx, 0, none⟩) c.vars.length c.vars.length, .slice fo rows.length fc][i]? := fld hT.e
  have hk4 : c.vars.length ≤ 4 := by have := hc.k; have := hc.n4; omega
  have HF' : Hid (Fit c xs) := hid ⟨hc.fits, hxl.symm, by have := hc.k; omega, by omega, hx⟩
  have HT := hid hT; have HF := hid hF; have Hxl := hid hxl
  have hlo := hT.lo
  have hEl := lt_of_block hT.e
  have HFB : Hid (∀ b, (Value.slice fo rows.length fc).ownBlock = some b → E + 1 ≤ b ∧ b < W.heap.size) := hid fun b hb => hF.ownB hb
  have hp : tupsFrom (xs.take c.vars.length) (((wordN c.vars d).drop c.vars.length).map vals) = [xs] := by
    rw [drop_end (by rw [wordN_len]; exact Nat.le_refl _), List.take_of_length_le (by omega)]; simp [tupsFrom_nil]
  have Hp := hid hp
  clear hT hF hx hxl hp hc
  go_enter Tryz.func53, Tryz.ntmps53
  go_wp2_with fail
  have fE2 : ∀ (n : GrW [] W) j, n.val.cell? ⟨E, j, none⟩ = #[.int .i64 c.kind, .slice vo c.vars.length vc, av, .int .i64 c.bound, rv, dv, .slice (some ⟨bx, 0, none⟩) c.vars.length c.vars.length, .slice fo rows.length fc][j]? := fun n j => fld (n.gr.obj HT.out.e (by simp)) j
  have HxN : Hid (Nums [] W .i64 (.slice (some ⟨bx, 0, none⟩) c.vars.length c.vars.length) xs) := hid (HT.out.x.nums (by simp))
  cases hsat : satB c xs
  all_goals
    have hcall : ∀ n : GrW [] W, Calls Tryz.prog 78 #[.agg #[.int .i64 c.kind, .slice vo c.vars.length vc, av, .int .i64 c.bound, rv], .slice (some ⟨bx, 0, none⟩) c.vars.length c.vars.length] n.val fun e w'' => e = .returned (.bool (satB c xs)) ∧ ∃ m : GrW [] W, w'' = m.val := fun n =>
      Calls.gr_of (satisfies_c c xs _ _ _ ((HT.out.con [] (by simp)).gr n.gr) (HxN.out.gr n.gr) HF'.out)
    rw [hsat] at hcall
    have Hsat := hid hsat
    clear hsat
    refine wp_region_gr [] _ (by kernel_rfl) (by kernel_rfl) (Gr.refl _ _) ?_
    repeat (go_big_quiet_step ((go_at_call 78; exact hcall _)))
    refine wpQuiet_nil ?_
    rintro wa ⟨n6, rfl⟩
    have hga : Gr [] W n6.val := n6.gr
    obtain ⟨wb, hwb⟩ : ∃ wb, wb = n6.val := ⟨_, rfl⟩
    rw [← hwb] at hga ⊢
    have hEa : wb.heap[E]? = some (.cells #[.int .i64 c.kind, .slice vo c.vars.length vc, av, .int .i64 c.bound, rv, dv, .slice (some ⟨bx, 0, none⟩) c.vars.length c.vars.length, .slice fo rows.length fc] 85 (0, 0)) := hga.obj HT.out.e (by simp)
    have Hga := hid hga; have HEa := hid hEa
    have fEa : ∀ i, wb.cell? ⟨E, i, none⟩ = #[.int .i64 c.kind, .slice vo c.vars.length vc, av, .int .i64 c.bound, rv, dv, .slice (some ⟨bx, 0, none⟩) c.vars.length c.vars.length, .slice fo rows.length fc][i]? := fld hEa
    have ffEa := fldF hEa
    have hsa := hga.size
    clear hcall hwb hEa hga fE fE2
  · go_wp2_with fail
    refine bodyPost_end (results_none rfl _ _ _) rfl ?_
    refine ⟨⟨_, rfl⟩, xs, _, rfl, Hxl.out.symm, HT.out.gr Hga.out, ?_, Below.of_gr0 Hga.out (by omega)⟩
    rw [Hp.out]
    simp only [List.filter_cons, Hsat.out, List.filter_nil, List.append_nil]
    simpa using HF.out.gr elRow_ok Hga.out (by simp)
  · go_wp2_with fail
    have HX : Hid (Nums [] wb .i64 (.slice (some ⟨bx, 0, none⟩) c.vars.length c.vars.length) xs) := hid (HxN.out.gr Hga.out)
    have hxs4 : xs.length ≤ 4 := by rw [← Hxl.out]; exact hk4
    go_region_law (first
      | (go_simp; go_at_call 79; refine (copyInts_c _ xs _ (HX.out.gr ((Gr.refl [] wb).drew)) (by omega)).mono ?_; rintro e w6 ⟨v6, rfl, hown6, hg6⟩; have hgx : Gr [] wb w6 := Gr.trans ((Gr.refl [] wb).drew) hg6; obtain ⟨xo6, xc6, rfl⟩ := hown6.c.form; have HG6 := hid hgx; have Hown6 := hid hown6; have fl6 := fld (hgx.obj HEa.out (by simp)); have ff6 := fldF (hgx.obj HEa.out (by simp)); have hs6 := hgx.size; have hlt6 := lt_of_block (hgx.obj HEa.out (by simp)); clear hown6 hg6 hgx)
      | (refine step_appG rfl _ _ 24 rfl 1 elRow elRow_ok (E + 1) 23 (.slice none 0 0) 24 infoR rfl (by omega) (by omega) Tryz.underlying24 (.slice fo rows.length fc) rows rfl (((HF.out.gr elRow_ok Hga.out (by simp)).gr elRow_ok HG6.out (by simp)).gr elRow_ok ((Gr.refl [] _).alloc _) (by simp)) w6.heap.size 1 xs [.slice xo6 xs.length xc6] rfl rfl (by simp [Value.oneCell']) (fun j u hj => by rw [fld (heap_alloc_new w6 (.cells #[.slice xo6 xs.length xc6] 23))]; simpa using hj) (fun S hS => rowEl (Hown6.out.c.gr ((Gr.refl [] _).alloc _) (by simp)) (fun b hb => by rcases hS b hb with h | h | h; exact .inl (by simp; omega); exact .inr h; exact .inl (by have := (HFB.out b h).2; simp; omega))) (by omega) (by simp; omega) ?_; intro g7 c7 w7 hown7 hg7; have hE7 : w7.heap[E]? = some (.cells #[.int .i64 c.kind, .slice vo c.vars.length vc, av, .int .i64 c.bound, rv, dv, .slice (some ⟨bx, 0, none⟩) c.vars.length c.vars.length, .slice fo rows.length fc] 85 (0, 0)) := hg7.obj (((Gr.refl [] w6).alloc (.cells #[.slice xo6 xs.length xc6] 23)).obj (HG6.out.obj HEa.out (by simp)) (by simp)) (by intro hm; have := HFB.out E (by simpa using hm); omega); have HE7 := hid hE7; have HA7 := hid hown7; have HG7 := hid hg7; have fl7 := fld hE7; have ff7 := fldF hE7; clear hown7 hg7 hE7))
    all_goals
      go_wp2_with fail
      refine bodyPost_end (results_none rfl _ _ _) rfl ?_
      have hgs : Gr [E] w7 (w7.setCell ⟨E, 7, none⟩ (.slice (some ⟨g7, 0, none⟩) (rows.length + 1) c7)) := Gr.cell1 _ _ _ _ (by simp)
      have hgall : Gr (E :: (Value.slice fo rows.length fc).ownBlock.toList) W (w7.setCell ⟨E, 7, none⟩ (.slice (some ⟨g7, 0, none⟩) (rows.length + 1) c7)) :=
        (((Hga.out.trans HG6.out).alloc _).any.trans (HG7.out.sub fun k _ h => by simp at h ⊢; exact .inr h)).trans (hgs.sub fun k _ h => by simp at h ⊢; exact .inl h)
      have hS : ∀ b ∈ E :: (Value.slice fo rows.length fc).ownBlock.toList, B0 ≤ b ∧ b ≠ bx := fun b hb => by
        rcases List.mem_cons.1 hb with rfl | h
        · omega
        · have := HFB.out b (by simpa using h); omega
      refine ⟨⟨_, rfl⟩, xs, .slice (some ⟨g7, 0, none⟩) (rows.length + 1) c7, rfl, Hxl.out.symm, HT.out.step hgall hS (cells_set HE7.out 7 _), ?_, hgall.under (fun b hb => (hS b hb).1) (by omega)⟩
      rw [Hp.out]
      simp only [List.filter_cons, Hsat.out, List.filter_nil, if_true]
      exact HA7.out.gr elRow_ok hgs (by simp)

set_option maxRecDepth 100000 in
set_option maxHeartbeats 2000000 in
theorem twalk_c (B0 E bx : Nat) (c : Con) (vo : Option Addr) (vc : Nat) (av rv : Value) (dO : Option Addr) (dc : Nat) (d : List Nat) (hc : VC c d.length) (hd : Below64 d) (r : Nat) :
    ∀ (i : Nat) (xs : List Int) (rows : List (List Int)) (fv : Value) (W : World), i + r = c.vars.length → TL W B0 E bx 85 (tlCells c vo vc av rv (.slice dO d.length dc) bx fv) c (.agg #[.int .i64 c.kind, .slice vo c.vars.length vc, av, .int .i64 c.bound, rv]) (.slice dO d.length dc) d xs →
    OwnG 1 elRow (E + 1) W 23 fv rows → (∀ x ∈ xs.take i, 0 ≤ x ∧ x ≤ 5) → rows.length + 6 ^ r ≤ 1000000 →
    Calls Tryz.prog 53 #[.pointer (some ⟨E, 0, none⟩), .int .i64 i] W (TWPost B0 E bx c vo vc av rv (.slice dO d.length dc) d i xs rows W) := by
  induction r with
  | zero =>
    intro i xs rows fv W hi hT hF hx hrl
    have hi' : i = c.vars.length := by omega
    subst hi'
    rw [List.take_of_length_le (by rw [← hT.xlen]; exact Nat.le_refl _)] at hx
    exact twalk_leaf B0 E bx c vo vc av rv _ fv d hc xs rows W hT hF hx (by simpa using hrl)
  | succ r ih =>
    intro i xs rows fv W hi hT hF hx hrl
    have hilt : i < c.vars.length := by omega
    have hin : ((i : Int) == (c.vars.length : Int)) = false := by simp; omega
    have hxl := hT.xlen
    obtain ⟨fo, fc, rfl, _, _, _⟩ := hF.slice
    have fE : ∀ i, W.cell? ⟨E, i, none⟩ = #[.int .i64 c.kind, .slice vo c.vars.length vc, av, .int .i64 c.bound, rv, .slice dO d.length dc, .slice (some ⟨bx, 0, none⟩) c.vars.length c.vars.length, .slice fo rows.length fc][i]? := fld hT.e
    obtain ⟨v, hv⟩ := get_some hilt
    have hvr := hc.rng v (List.mem_of_getElem? hv)
    obtain ⟨v, rfl⟩ := Int.eq_ofNat_of_zero_le hvr.1
    have hvd : v < d.length := by omega
    have hdi : (ints d)[v]? = some ((d.getD v 0 : Nat) : Int) := by rw [ints_get, List.getElem?_eq_getElem hvd]; simp [List.getD_eq_getElem?_getD, hvd]
    have hd64 : d.getD v 0 < 64 := by rw [List.getD_eq_getElem?_getD, List.getElem?_eq_getElem hvd]; exact hd _ (List.getElem_mem hvd)
    have hw : (wordN c.vars d).drop i = d.getD v 0 :: (wordN c.vars d).drop (i + 1) := drop_cons (by rw [wordN_get _ _ _ _ hv]; rfl)
    have hfrom : tupsFrom (xs.take i) (((wordN c.vars d).drop i).map vals) = (vals (d.getD v 0)).flatMap fun u => tupsFrom (xs.take i ++ [u]) (((wordN c.vars d).drop (i + 1)).map vals) := by
      rw [hw, List.map_cons, tupsFrom_cons]
    have hk4 : c.vars.length ≤ 4 := by have := hc.k; have := hc.n4; omega
    have hlo := hT.lo
    have hEl := lt_of_block hT.e
    have hpw : ((wordN c.vars d).drop (i + 1)).length = r := by rw [List.length_drop, wordN_len]; omega
    have HB : Hid (∀ n, n ≤ 6 → rows.length + (((valsBelow (d.getD v 0) n).flatMap fun u => tupsFrom (xs.take i ++ [u]) (((wordN c.vars d).drop (i + 1)).map vals)).filter (satB c)).length ≤ rows.length + n * 6 ^ r) := hid fun n hn => by
      have h1 := List.length_filter_le (satB c) ((valsBelow (d.getD v 0) n).flatMap fun u => tupsFrom (xs.take i ++ [u]) (((wordN c.vars d).drop (i + 1)).map vals))
      have h2 := flat_len (fun u => tupsFrom (xs.take i ++ [u]) (((wordN c.vars d).drop (i + 1)).map vals)) (6 ^ r) (valsBelow (d.getD v 0) n) (fun a _ => by have := from_len (xs.take i ++ [a]) ((wordN c.vars d).drop (i + 1)); rwa [hpw] at this)
      have h3 := Nat.mul_le_mul_right (6 ^ r) (valsBelow_len (d.getD v 0) n)
      omega
    have hvl := (hT.con [] (by simp))
    obtain ⟨vv', a2, r2, e1, hvars, _⟩ := hvl
    cases e1
    have hdoms := hT.dom [] (by simp)
    have HX := hid hx; have HT := hid hT; have HF := hid hF; have Hxl := hid hxl; have Hfrom := hid hfrom; have HV := hid hv; have HDI := hid hdi; have Hih := hid ih; have Hi := hid hi; have Hrl := hid hrl
    obtain ⟨di, hdi2⟩ : ∃ di, di = d.getD v 0 := ⟨_, rfl⟩
    have Hdi2 := hid hdi2
    clear hT hF hx hxl hfrom hw hv hdi ih hi hc hrl hvars hdoms hpw
    rw [← hdi2] at hd64 HB
    clear hdi2
    go_enter Tryz.func53, Tryz.ntmps53
    go_wp2_with fail
    go_loopw [4] (fun u wr => ∃ n : Nat, n ≤ 6 ∧ u = .int .i64 n ∧ ∃ xs' fv', xs'.take i = xs.take i ∧ xs'.length = c.vars.length ∧
      TL wr B0 E bx 85 (tlCells c vo vc av rv (.slice dO d.length dc) bx fv') c (.agg #[.int .i64 c.kind, .slice vo c.vars.length vc, av, .int .i64 c.bound, rv]) (.slice dO d.length dc) d xs' ∧
      OwnG 1 elRow (E + 1) wr 23 fv' (rows ++ (((valsBelow di n).flatMap fun u => tupsFrom (xs.take i ++ [u]) (((wordN c.vars d).drop (i + 1)).map vals)).filter (satB c))) ∧ Below B0 W wr) (fun u _ => 6 - (intOf u).toNat)
    case atStart => exact ⟨0, by omega, rfl, xs, _, rfl, Hxl.out.symm, HT.out, by simpa [valsBelow] using HF.out, Below.refl _ _⟩
    case round =>
      obtain ⟨n, hn, rfl, xs', fv', hxt, hxl', hT, hF, hg⟩ := hrel
      obtain ⟨ys, hys⟩ : ∃ ys, ys = rows ++ (((valsBelow di n).flatMap fun u => tupsFrom (xs.take i ++ [u]) (((wordN c.vars d).drop (i + 1)).map vals)).filter (satB c)) := ⟨_, rfl⟩
      rw [← hys] at hF
      have hyl : ys.length ≤ rows.length + n * 6 ^ r := by rw [hys, List.length_append]; exact HB.out n hn
      obtain ⟨fo', fc', rfl, _, _, _⟩ := hF.slice
      have fEr : ∀ i, wr.cell? ⟨E, i, none⟩ = #[.int .i64 c.kind, .slice vo c.vars.length vc, av, .int .i64 c.bound, rv, .slice dO d.length dc, .slice (some ⟨bx, 0, none⟩) c.vars.length c.vars.length, .slice fo' ys.length fc'][i]? := fld hT.e
      have Hys := hid hys; have Hyl := hid hyl
      clear hys hyl
      by_cases hlt : n < 6
      · have hn5 : n ≤ 5 := by omega
        obtain ⟨vv', a2, r2, e1, hvars, _⟩ := hT.con [] (by simp)
        cases e1
        obtain ⟨bv, ov, hvo, _, hcv⟩ := hvars.at HV.out
        obtain ⟨bd, od, hdo, _, hcd⟩ := (hT.dom [] (by simp)).at HDI.out
        rw [← Hdi2.out] at hcd
        subst hvo hdo
        have hsucc := valsBelow_succ di n
        have HTr := hid hT; have HFr := hid hF; have Hg := hid hg; have Hxt := hid hxt; have Hxl' := hid hxl'; have Hsucc := hid hsucc
        clear hT hF hg hxt hxl' hsucc fE hvars
        cases hb : di.testBit n
        · have Hb := hid hb; clear hb
          go_wp2_with fail
          go_quiet ((go_at_call 80; exact Calls.quiet_of_same (domainHas_f hd64 hlt Hb.out _)))
          go_wp2_with fail
          refine ⟨⟨n + 1, by omega, by go_num, xs', _, Hxt.out, Hxl'.out, HTr.out.drewN _, ?_, Hg.out.trans (Below.of_gr0 ((Gr.refl _ _).drewN _) (by have := Hg.out.size; omega))⟩, by simp [intOf]; omega⟩
          have e9 : rows ++ (((valsBelow di (n + 1)).flatMap fun u => tupsFrom (xs.take i ++ [u]) (((wordN c.vars d).drop (i + 1)).map vals)).filter (satB c)) = ys := by rw [Hsucc.out, Hb.out, Hys.out]; simp
          rw [e9]
          exact HFr.out.gr elRow_ok ((Gr.refl [] wr).drewN nq) (by simp)
        · have Hb := hid hb; clear hb
          have hxi : i < xs'.length := by rw [Hxl'.out]; exact hilt
          obtain ⟨xi, hxi2⟩ := get_some hxi
          obtain ⟨hx1, hx2⟩ := HTr.out.x.at hxi2
          clear hxi2
          go_wp2_with fail
          go_quiet ((go_at_call 80; exact Calls.quiet_of_same (domainHas_t hd64 hlt Hb.out _)))
          have Hxi := hid hxi; clear hxi
          go_wp2_with fail
          have hT3 := (HTr.out.drewN nq).setX i n Hxi.out
          have hgs3 : Gr [bx] wr ((wr.drewN nq).setCell ⟨bx, i, none⟩ (.int .i64 n)) := ((Gr.refl _ _).drewN nq).setCell _ _ (.inl (by simp))
          have hF3 := HFr.out.gr elRow_ok hgs3 (by simp; omega)
          have hpow : 6 ^ (r + 1) = 6 * 6 ^ r := by rw [Nat.pow_succ, Nat.mul_comm]
          have hnb : n * 6 ^ r ≤ 5 * 6 ^ r := Nat.mul_le_mul_right _ hn5
          have hcall := Hih.out (i + 1) (xs'.set i n) ys _ _ (by have := Hi.out; omega) hT3 hF3 (by rw [take_set Hxt.out Hxi.out]; intro x hx; rcases List.mem_append.1 hx with h | h; exact HX.out x h; simp at h; omega) (by have := Hyl.out; have := Hrl.out; omega)
          rw [Int.natCast_succ] at hcall
          (with_reducible refine hcall.mono ?_)
          clear hcall hpow hnb
          rintro e w5 ⟨⟨ev, rfl⟩, xs5, fv5, hx5, hxl5, hT5, hF5, hg5⟩
          rw [take_set Hxt.out Hxi.out] at hF5
          have hx5' : xs5.take i = xs.take i := by
            have := congrArg (List.take i) hx5
            rw [List.take_take, List.take_take, Nat.min_eq_left (by omega)] at this
            rw [this, List.take_set_of_le (Nat.le_refl _)]; exact Hxt.out
          have HT5 := hid hT5; have HF5 := hid hF5; have Hx5 := hid hx5'; have Hxl5 := hid hxl5
          have Hg5 := hid ((Hg.out.trans (hgs3.under (by simp; omega) (by have := Hg.out.size; omega))).trans hg5)
          clear hT5 hF5 hx5 hxl5 hg5 hx5' hT3 hF3 hgs3
          go_wp2_with fail
          refine ⟨⟨n + 1, by omega, by go_num, xs5, _, Hx5.out, Hxl5.out, HT5.out, ?_, Hg5.out⟩, by simp [intOf]; omega⟩
          rw [Hsucc.out, Hb.out, if_pos rfl, List.flatMap_append, List.filter_append, ← List.append_assoc, ← Hys.out]
          simpa using HF5.out
      · have hn6 : n = 6 := by omega
        subst hn6
        have HTr := hid hT; have HFr := hid hF; have Hg := hid hg; have Hxt := hid hxt; have Hxl' := hid hxl'
        clear hT hF hg hxt hxl'
        go_wp2_with fail
        refine bodyPost_end (results_none rfl _ _ _) rfl ?_
        refine ⟨⟨_, rfl⟩, xs', _, Hxt.out, Hxl'.out, HTr.out, ?_, Hg.out⟩
        have e1 : valsBelow di 6 = vals di := rfl
        rw [Hfrom.out, ← Hdi2.out, ← e1, ← Hys.out]
        exact HFr.out

theorem heap2T (w : World) (a b : Obj) : ((w.alloc a).alloc b).heap[w.heap.size]? = some a ∧ ((w.alloc a).alloc b).heap[w.heap.size + 1]? = some b := by
  refine ⟨(heap_alloc_old _ _ (by simp)).trans (heap_alloc_new _ _), ?_⟩
  have := heap_alloc_new (w.alloc a) b
  rwa [World.size_alloc] at this
theorem tl_start {w W : World} {E bx : Nat} {T : TypeId} {cs : Array Value} {c : Con} {cv dv : Value} {d : List Nat} (hv : ConV [] w cv c) (hd : Nums [] w .i64 dv (ints d)) (hg : Gr [] w W) {B0 : Nat} (hB : w.heap.size ≤ B0) (hlo : B0 ≤ bx ∧ bx < E) (hl : c.vars.length ≤ 4)
    (he : W.heap[E]? = some (.cells cs T (0, 0))) (hx : W.heap[bx]? = some (.cells (madeCells #[.int .i64 0] c.vars.length) 3 (0, 0))) : TL W B0 E bx T cs c cv dv d (List.replicate c.vars.length 0) :=
  ⟨he, fun S hS => (ConV.sub (S' := S) hv (fun b hb hm => by have := hS b hm; omega)).gr hg.any, fun S hS => (Nums.sub (S' := S) hd (fun b hb hm => by have := hS b hm; omega)).gr hg.any, own_made hx (Nat.le_refl _) (by omega), hlo⟩


set_option maxRecDepth 100000 in
set_option maxHeartbeats 1000000 in
theorem specTuples_c (c : Con) (d : List Nat) (cv dv : Value) (w : World) (hv : ConV [] w cv c) (hx : Nums [] w .i64 dv (ints d)) (hc : VC c d.length) (hd : Below64 d) :
    Calls Tryz.prog 24 #[cv, dv] w fun e w' => ∃ v', e = .returned v' ∧ OwnG 1 elRow w.heap.size w' 23 v' ((tups (wordN c.vars d)).filter (satB c)) ∧ Gr [] w w' := by
  have Hv := hid hv
  have Hx := hid hx
  have HC := hid hc
  have HD := hid hd
  have hl : c.vars.length ≤ 4 := by have := hc.k; have := hc.n4; omega
  obtain ⟨vv, av, rv, rfl, hvv, hav, hrv⟩ := hv
  obtain ⟨vo, vc, rfl, ⟨hv1, hv2, _⟩, hvvc⟩ := hvv
  obtain ⟨dO, dc, rfl, ⟨hd1, hd2, _⟩, _⟩ := hx
  have hdl := ints_len d
  rw [hdl] at hd1 Hx ⊢
  have hb0 : (w.alloc (.cells #[.int .i64 c.kind, .slice vo c.vars.length vc, av, .int .i64 c.bound, rv] 26)).heap[w.heap.size]? = some (.cells #[.int .i64 c.kind, .slice vo c.vars.length vc, av, .int .i64 c.bound, rv] 26 (0, 0)) := heap_alloc_new _ _
  have hfl := fld hb0
  have Hb0 := hid hb0
  have hmk := fun w => run_make_row' (P := Tryz.prog) 23 3 (.int .i64 0) 8 Tryz.underlying23 infoI rfl .i64 .i64 c.vars.length (by omega) (by omega) w
  clear hc hd hav hrv hvvc hdl hb0
  go_enter Tryz.func24, Tryz.ntmps24
  go_wp2_with fail
  go_region
  all_goals
    generalize hW1 : World.drew (World.alloc _ _) = W1
    have h3 := heap2T (w.alloc (.cells #[.int .i64 c.kind, .slice vo c.vars.length vc, av, .int .i64 c.bound, rv] 26)) (.cells (madeCells #[.int .i64 0] c.vars.length) 3)
    have hgw : Gr [] w W1 := by rw [← hW1]; exact ((((Gr.refl [] w).alloc _).alloc _).alloc _).drew
    simp only [World.size_alloc] at h3
    have hT : TL W1 (w.heap.size + 1) (w.heap.size + 1 + 1) (w.heap.size + 1) 85 (tlCells c vo vc av rv (.slice dO d.length dc) (w.heap.size + 1) (.slice none 0 0)) c (.agg #[.int .i64 c.kind, .slice vo c.vars.length vc, av, .int .i64 c.bound, rv]) (.slice dO d.length dc) d (List.replicate c.vars.length 0) :=
      tl_start Hv.out Hx.out hgw (by omega) (by omega) hl (by rw [← hW1]; exact (h3 _).2) (by rw [← hW1]; exact (h3 _).1)
    have Hgw := hid hgw; have HT := hid hT
    have hs1 := lt_of_block hT.e
    clear hW1 h3 hgw hT
    go_wp2_with fail
    have hcall := twalk_c (w.heap.size + 1) (w.heap.size + 1 + 1) (w.heap.size + 1) c vo vc av rv dO dc d HC.out HD.out c.vars.length 0 _ [] (.slice none 0 0) W1 (by omega) HT.out (OwnG.nil _ _ _) (by simp) (by
      have : 6 ^ c.vars.length ≤ 6 ^ 4 := Nat.pow_le_pow_right (by omega) hl
      simp; omega)
    rw [Int.natCast_zero] at hcall
    (with_reducible refine hcall.mono ?_)
    clear hcall
    rintro e W2 ⟨⟨ev, rfl⟩, xs2, fv2, _, _, hT2, hF2, hg2⟩
    have e1 : tupsFrom ((List.replicate c.vars.length (0 : Int)).take 0) (((wordN c.vars d).drop 0).map vals) = tups (wordN c.vars d) := by
      rw [List.take_zero, List.drop_zero]; unfold tupsFrom tups; simp
    rw [e1, List.nil_append] at hF2
    obtain ⟨ys, hys⟩ : ∃ ys, ys = (tups (wordN c.vars d)).filter (satB c) := ⟨_, rfl⟩
    rw [← hys] at hF2
    have Hys := hid hys
    obtain ⟨fo2, fc2, rfl, _, _, _⟩ := hF2.slice
    have fE2 : ∀ i, W2.cell? ⟨w.heap.size + 1 + 1, i, none⟩ = #[.int .i64 c.kind, .slice vo c.vars.length vc, av, .int .i64 c.bound, rv, .slice dO d.length dc, .slice (some ⟨w.heap.size + 1, 0, none⟩) c.vars.length c.vars.length, .slice fo2 ys.length fc2][i]? := fld hT2.e
    have HF2 := hid hF2; have Hg2 := hid hg2
    clear hT2 hF2 hg2 hys e1
    go_wp2_with fail
    go_ret
    exact ⟨_, rfl, by rw [← Hys.out]; exact OwnG.le HF2.out (by omega), Hgw.out.low Hg2.out (by omega)⟩



end Go.Proofs.YtmonhpoogfdpoaaGreat
