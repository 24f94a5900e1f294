/-
  Walks of the program's soft constraints.
-/
import Derived.Test.YtngpcoilgilmjaaGreatSoP
import Derived.Test.YtngpcoilgilmjaaGreatSk
import Derived.Test.YtngpcoilgilmjaaGreatCF
import Derived.Test.YtngpcoilgilmjaaGreatOb
set_option linter.unusedVariables false
set_option linter.unusedSimpArgs false
namespace Go.Proofs.YtngpcoilgilmjaaGreat
open Go.RowKit

def SftV (S : List Nat) (w : World) (v : Value) (s : Sft) : Prop :=
  ∃ vv av rv, v = .agg #[.int .i64 s.con.kind, vv, av, .int .i64 s.con.bound, rv, .int .i64 s.wt] ∧ ConV S w (.agg #[.int .i64 s.con.kind, vv, av, .int .i64 s.con.bound, rv]) s.con
theorem SftV.gr {S : List Nat} {w w' : World} {v : Value} {s : Sft} (h : SftV S w v s) (hg : Gr S w w') : SftV S w' v s :=
  let ⟨vv, av, rv, e, h1⟩ := h; ⟨vv, av, rv, e, h1.gr hg⟩


theorem idxSft_c (cs : List Sft) (p : Sft → Bool) (v : Value) (k : Nat) (C : Array Value) (w : World) (hv : SftsV [] w v cs)
    (hk : ∀ args w, (callFunc k args).run Tryz.prog w = .ok (.enter k args) w)
    (hf : ∀ c cv w1, c ∈ cs → Gr [] w w1 → SftV [] w1 cv c → Calls Tryz.prog k (#[cv] ++ C) w1 fun e w2 => e = .returned (.bool (p c)) ∧ Gr [] w1 w2) :
    Calls Tryz.prog 149 #[v, .func (.func k) #[] C] w fun e w' => (∃ i : Int, e = .returned (.int .i64 i) ∧ (0 ≤ i ↔ anyG p cs = true)) ∧ Gr [] w w' := by
  obtain ⟨ao, cap, rfl, hlc, hcm⟩ := hv.slice
  have hlen : cs.length ≤ 9223372036854775807 := by omega
  have Hf := hid hf; clear hf
  have Hv := hid hv; clear hv
  go_enter Tryz.func149, Tryz.ntmps149
  go_wp2_with fail
  go_loopw [8] (fun i wr => ∃ n : Nat, n ≤ cs.length ∧ i = .int .i64 n ∧ (∀ (j : Nat) x, j < n → cs[j]? = some x → p x = false) ∧ Gr [] w wr) (fun i _ => cs.length - (intOf i).toNat)
  case atStart => exact ⟨0, Nat.zero_le _, rfl, by intro j x hj; omega, Gr.refl _ _⟩
  case round =>
    obtain ⟨n, hn, rfl, hp, hg⟩ := hrel
    have HP := hid hp; clear hp
    by_cases hlt : n < cs.length
    · obtain ⟨c, hx⟩ := get_some hlt
      obtain ⟨b, o, vo, vc, xo, xc, ro, rc, rfl, hs, ⟨h0, h1, h2, h3, h4, h5⟩, hcon⟩ := (Hv.out.gr hg).at hx
      have HX := hid hx; clear hx
      have Hcon : Hid (SftV [] wr _ c) := hid ⟨_, _, _, rfl, hcon⟩
      clear hcon
      go_wp2_with fail
      refine (Hf.out c _ _ (List.mem_of_getElem? HX.out) hg Hcon.out).mono ?_
      rintro e w2 ⟨rfl, hg2⟩
      cases hb : p c
      all_goals go_wp2_with fail
      · exact ⟨⟨n + 1, by omega, by go_num, below_snoc HP.out HX.out hb, hg.trans hg2⟩, by simp [intOf]; omega⟩
      · go_ret
        exact ⟨⟨n, rfl, ⟨fun _ => anyG_true HX.out hb, fun _ => by omega⟩⟩, hg.trans hg2⟩
    · go_wp2_with fail
      go_ret
      refine ⟨⟨-1, rfl, ⟨fun h => by omega, fun h => ?_⟩⟩, hg⟩
      rw [anyG_false (fun j x hj => HP.out j x (by omega))] at h; cases h
theorem containsSft_c (cs : List Sft) (p : Sft → Bool) (v : Value) (k : Nat) (C : Array Value) (w : World) (hv : SftsV [] w v cs)
    (hk : ∀ args w, (callFunc k args).run Tryz.prog w = .ok (.enter k args) w)
    (hf : ∀ c cv w1, c ∈ cs → Gr [] w w1 → SftV [] w1 cv c → Calls Tryz.prog k (#[cv] ++ C) w1 fun e w2 => e = .returned (.bool (p c)) ∧ Gr [] w1 w2) :
    Calls Tryz.prog 106 #[v, .func (.func k) #[] C] w fun e w' => e = .returned (.bool (anyG p cs)) ∧ Gr [] w w' := by
  have Hf := hid hf; clear hf
  have Hk := hid hk; clear hk
  have Hv := hid hv
  obtain ⟨ao, cap, rfl, -, -⟩ := hv.slice
  clear hv
  go_enter Tryz.func106, Tryz.ntmps106
  go_wp2_with fail
  refine (idxSft_c cs p _ k C _ Hv.out Hk.out Hf.out).mono ?_
  rintro e w' ⟨⟨i, rfl, hi⟩, hg⟩
  have Hi := hid hi; clear hi
  go_wp2_with fail
  go_ret
  exact ⟨ret_bool (by rw [Bool.eq_iff_iff, ← Hi.out]; simp), hg⟩


theorem softOkLit_c (s : Sft) (n : Int) (cv : Value) (q : Nat) (w : World) (hv : SftV [] w cv s) (hq : w.cell? ⟨q, 0, none⟩ = some (.int .i64 n)) :
    Calls Tryz.prog 107 #[cv, .pointer (some ⟨q, 0, none⟩)] w fun e w' => e = .returned (.bool (!softOne n s)) ∧ Gr [] w w' := by
  obtain ⟨vv, av, rv, rfl, hcon⟩ := hv
  have hg0 : Gr [] w (w.alloc (.cells #[.int .i64 s.con.kind, vv, av, .int .i64 s.con.bound, rv, .int .i64 s.wt] 39)) := (Gr.refl _ _).alloc _
  have hb0 : (w.alloc (.cells #[.int .i64 s.con.kind, vv, av, .int .i64 s.con.bound, rv, .int .i64 s.wt] 39)).heap[w.heap.size]? = some (.cells #[.int .i64 s.con.kind, vv, av, .int .i64 s.con.bound, rv, .int .i64 s.wt] 39 (0, 0)) := heap_alloc_new _ _
  have hfl := fld hb0
  have hq0 := hg0.cell hq (by simp)
  have Hcon := hid (hcon.gr hg0); have Hg0 := hid hg0
  clear hb0 hcon hq hg0
  cases h1 : inB 1 9 s.wt
  · have H1 := hid h1
    go_enter Tryz.func107, Tryz.ntmps107
    go_wp2_with (go_at_call 93; refine (within_c _ _ _ _).mono ?_; rintro e w' ⟨rfl, rfl⟩)
    go_ret
    exact ⟨ret_bool (by unfold softOne; rw [H1.out]; rfl), Hg0.out⟩
  · have H1 := hid h1
    go_enter Tryz.func107, Tryz.ntmps107
    go_wp2_with (go_at_call 93; refine (within_c _ _ _ _).mono ?_; rintro e w' ⟨rfl, rfl⟩)
    have hcall := ValidConstraint_c s.con n _ _ Hcon.out
    (with_reducible refine hcall.mono ?_)
    clear hcall
    rintro e w1 ⟨rfl, hg1⟩
    go_wp2_with fail
    go_ret
    exact ⟨ret_bool (by unfold softOne; rw [H1.out]; rfl), Hg0.out.trans hg1⟩
theorem softOk_c (ss : List Sft) (n : Int) (sv : Value) (w : World) (hv : SftsV [] w sv ss) :
    Calls Tryz.prog 47 #[sv, .int .i64 n] w fun e w' => e = .returned (.bool (softB ss n)) ∧ Gr [] w w' := by
  have Hv := hid hv
  obtain ⟨so, sc, rfl, hs1, hs2⟩ := hv.slice
  have hg0 : Gr [] w (w.alloc (.cells #[.int .i64 n] 3)) := (Gr.refl _ _).alloc _
  have hb0 : (w.alloc (.cells #[.int .i64 n] 3)).heap[w.heap.size]? = some (.cells #[.int .i64 n] 3 (0, 0)) := heap_alloc_new _ _
  have Hg0 := hid hg0; have Hb0 := hid hb0
  clear hv hg0 hb0
  by_cases h4 : (ss.length : Int) ≤ 4
  · have h4' : decide ((ss.length : Int) ≤ 4) = true := decide_eq_true h4
    have H4 := hid h4'
    clear h4
    go_enter Tryz.func47, Tryz.ntmps47
    go_wp2_with fail
    have hcall := containsSft_c ss (fun s => !softOne n s) _ 107 #[.pointer (some ⟨w.heap.size, 0, none⟩)] _ (Hv.out.gr Hg0.out) (fun _ _ => by kernel_rfl) (fun s cv W hs hg hc => softOkLit_c s n cv w.heap.size W hc (fld (hg.obj Hb0.out (by simp)) 0))
    (with_reducible refine hcall.mono ?_)
    clear hcall
    rintro e w2 ⟨rfl, hg2⟩
    go_wp2_with fail
    go_ret
    exact ⟨ret_bool (by unfold softB; rw [H4.out]; simp only [anyG, Bool.true_and]; rw [List.all_eq_not_any_not]), Hg0.out.trans hg2⟩
  · have h4' : decide ((ss.length : Int) ≤ 4) = false := decide_eq_false h4
    have H4 := hid h4'
    clear h4
    go_enter Tryz.func47, Tryz.ntmps47
    go_wp2_with fail
    go_ret
    exact ⟨ret_bool (by unfold softB; rw [H4.out]; rfl), Hg0.out⟩


set_option maxRecDepth 100000 in
set_option maxHeartbeats 1000000 in
theorem softCost_c (ss : List Sft) (x : List Int) (sv xv : Value) (w : World) (hv : SftsV [] w sv ss) (hx : Nums [] w .i64 xv x) (hw : ∀ s ∈ ss, (1 ≤ s.wt ∧ s.wt ≤ 9) ∧ VC s.con x.length) (hl : ss.length ≤ 4) (hr : ∀ y ∈ x, 0 ≤ y ∧ y ≤ 5) :
    Calls Tryz.prog 75 #[sv, xv] w fun e w' => e = .returned (.int .i64 (costN ss x)) ∧ Gr [] w w' := by
  have Hv := hid hv; have Hx := hid hx; have Hw := hid hw; have Hr := hid hr
  obtain ⟨so, sc, rfl, hs1, hs2⟩ := hv.slice
  obtain ⟨xo, xc, rfl, -, -⟩ := hx
  clear hv hw hr
  go_enter Tryz.func75, Tryz.ntmps75
  go_wp2_with fail
  go_loopw [5, 10] (fun s i wr => ∃ n : Nat, n ≤ ss.length ∧ i = .int .i64 n ∧ s = .int .i64 (costN (ss.take n) x) ∧ Gr [] w wr) (fun _ i _ => ss.length - (intOf i).toNat)
  case atStart => exact ⟨0, Nat.zero_le _, rfl, by simp [costN], Gr.refl _ _⟩
  case round =>
    obtain ⟨n, hn, rfl, rfl, hg⟩ := hrel
    have Hg := hid hg
    have hbd := costN_bd (ss := ss.take n) (fun s hs => (Hw.out s (List.mem_of_mem_take hs)).1) x
    rw [List.length_take] at hbd
    obtain ⟨A, hA⟩ : ∃ A, A = costN (ss.take n) x := ⟨_, rfl⟩
    rw [← hA] at hbd ⊢
    have HA := hid hA
    have hA1 : 0 ≤ A ∧ A ≤ 100 := by omega
    clear hA hbd
    by_cases hlt : n < ss.length
    · obtain ⟨s, hs⟩ := get_some hlt
      obtain ⟨b, o, vo, vc, xo', xc', ro, rc, rfl, -, ⟨h0, h1, h2, h3, h4, h5⟩, hcon⟩ := (Hv.out.gr hg).at hs
      have hwt := (Hw.out s (List.mem_of_getElem? hs)).1
      have HVC := hid (Hw.out s (List.mem_of_getElem? hs)).2
      have HS := hid (costN_succ hs x)
      have Hcon := hid hcon
      clear hs hcon hg
      have hga : Gr [] wr (wr.alloc (.cells #[.int .i64 s.con.kind, .slice vo s.con.vars.length vc, .slice xo' s.con.args.length xc', .int .i64 s.con.bound, .slice ro s.con.rows.length rc, .int .i64 s.wt] 39)) := (Gr.refl _ _).alloc _
      have hba := heap_alloc_new wr (.cells #[.int .i64 s.con.kind, .slice vo s.con.vars.length vc, .slice xo' s.con.args.length xc', .int .i64 s.con.bound, .slice ro s.con.rows.length rc, .int .i64 s.wt] 39)
      have fla := fld hba
      have Hba := hid hba; have Hga := hid hga
      clear hba hga
      go_wp2_with fail
      have hcall := holds_c s.con x _ _ _ (Hcon.out.gr Hga.out) (Hx.out.gr (Hg.out.trans Hga.out)) HVC.out Hr.out
      (with_reducible refine hcall.mono ?_)
      clear hcall
      rintro e w3 ⟨rfl, hg3⟩
      have fl3 := fld (hg3.obj Hba.out (by simp))
      have Hg3 := hid (Hg.out.trans (Hga.out.trans hg3))
      clear fla hg3
      rw [show satB s.con (word s.con.vars x) = metB s x from rfl]
      cases hm : metB s x
      · have Hm := hid hm
        go_wp2_with fail
        exact ⟨⟨n + 1, by omega, by go_num, by rw [HS.out, ← HA.out, Hm.out]; go_num, Hg3.out⟩, by simp [intOf]; omega⟩
      · have Hm := hid hm
        go_wp2_with fail
        exact ⟨⟨n + 1, by omega, by go_num, by rw [HS.out, ← HA.out, Hm.out]; simp, Hg3.out⟩, by simp [intOf]; omega⟩
    · have hne : ss.take n = ss := List.take_of_length_le (by omega)
      rw [hne] at HA
      clear hg
      go_wp2_with fail
      go_ret
      exact ⟨ret_int HA.out, Hg.out⟩

end Go.Proofs.YtngpcoilgilmjaaGreat
