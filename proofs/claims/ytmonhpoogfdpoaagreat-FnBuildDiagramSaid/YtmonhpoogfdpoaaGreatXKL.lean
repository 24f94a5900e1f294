/-
  Walks of what the reference's satisfaction is made of. Walks of what the reference's satisfaction is made of, the rest.
  The walk of the reference's satisfaction, a theorem for each kind.
-/
import Derived.Test.YtmonhpoogfdpoaaGreatXHJ
import Derived.Test.YtmonhpoogfdpoaaGreatXCF
set_option linter.unusedVariables false
namespace Go.Proofs.YtmonhpoogfdpoaaGreat
open Go.RowKit

theorem specAccepts_c (c : Con) (xs : List Int) (cv xv : Value) (w : World) (hv : ConV [] w cv c) (hx : Nums [] w .i64 xv xs) (hval : ∀ x ∈ xs, 0 ≤ x ∧ x ≤ 5)
    (hrows : rowsInB c.rows 6 (-1) ((c.rows.length : Int) - 1) = true) :
    Calls Tryz.prog 99 #[cv, xv] w fun e w' => e = .returned (.bool (acceptsB c.args c.rows xs)) ∧ Gr [] w w' := by
  obtain ⟨vv, av, rv, rfl, hvv, hav, hrv⟩ := hv
  have hg0 : Gr [] w (w.alloc (.cells #[.int .i64 c.kind, vv, av, .int .i64 c.bound, rv] 26)) := (Gr.refl _ _).alloc _
  have hb0 : (w.alloc (.cells #[.int .i64 c.kind, vv, av, .int .i64 c.bound, rv] 26)).heap[w.heap.size]? = some (.cells #[.int .i64 c.kind, vv, av, .int .i64 c.bound, rv] 26 (0, 0)) := heap_alloc_new _ _
  obtain ⟨ao, ac, rfl, ⟨ha1, ha2, _⟩, hac⟩ := hav
  obtain ⟨ro, rc, rfl, ⟨hr1, hr2, _⟩, hrc⟩ := hrv
  obtain ⟨xo, xc, rfl, ⟨hx1, hx2, _⟩, hxc⟩ := hx
  have Hrc := hid (hrc.gr hg0); have Hxc := hid (hxc.gr hg0); have Hac := hid (hac.gr hg0)
  have hrp := rowsIn_pos hrows
  have Hrows := hid hrows; have Hval := hid hval
  clear hrc hxc hvv hac hrows hval
  have Hb0 := hid hb0; clear hb0
  have hxl : xs.length ≤ 9223372036854775807 := by omega
  have hal : c.args.length ≤ 9223372036854775807 := by omega
  go_enter Tryz.func99, Tryz.ntmps99
  go_wp2_with fail
  go_loopw [5, 6] (fun s i wr => ∃ (n k : Nat), n ≤ xs.length ∧ i = .int .i64 n ∧ s = .int .i64 k ∧ k < c.rows.length ∧ runA c.rows k (xs.drop n) = runA c.rows 0 xs ∧ Gr [] (w.alloc (.cells #[.int .i64 c.kind, vv, .slice ao c.args.length ac, .int .i64 c.bound, .slice ro c.rows.length rc] 26)) wr) (fun _ i _ => xs.length - (intOf i).toNat)
  case atStart => exact ⟨0, 0, Nat.zero_le _, rfl, rfl, by omega, rfl, Gr.refl _ _⟩
  case round =>
    obtain ⟨n, k, hn, rfl, rfl, hk, hR, hg⟩ := hrel
    have HR := hid hR; clear hR
    have hfl := fld (hg.obj Hb0.out (by simp))
    by_cases hlt : n < xs.length
    · obtain ⟨v, hv⟩ := get_some hlt
      have hvr := Hval.out v (List.mem_of_getElem? hv)
      obtain ⟨v, rfl⟩ := Int.eq_ofNat_of_zero_le hvr.1
      obtain ⟨r, hr⟩ := get_some hk
      have hrr := rowsIn_get Hrows.out hr
      have hvl : v < r.length := by omega
      obtain ⟨s, hs⟩ := get_some hvl
      have hsr := hrr.2 s (List.mem_of_getElem? hs)
      obtain ⟨b, o, rfl, _, h0⟩ := (Hxc.out.gr hg) n _ hv
      obtain ⟨b', o', rv, rfl, _, h1, hrn⟩ := (Hrc.out.gr hg) k r hr
      obtain ⟨po, pc, rfl, ⟨hp1, hp2, _⟩, hpc⟩ := hrn
      obtain ⟨b2, o2, rfl, _, h2⟩ := hpc v s hs
      have HS : Hid (stepA c.rows k v = s) := hid (by simp [stepA, hr, hs])
      have HV := hid (drop_cons hv)
      clear hv hr hs hpc hrr
      by_cases hneg : s < 0
      · go_wp2_with fail
        go_quiet (fail)
        go_wp2_with fail
        go_ret
        refine ⟨ret_bool ?_, (hg0.trans hg).drewN _⟩
        have : runA c.rows 0 xs = -1 := by rw [← HR.out, HV.out, runA, HS.out, if_pos hneg]
        simp [acceptsB, this]
      · have hneg' : 0 ≤ s := by omega
        obtain ⟨s, rfl⟩ := Int.eq_ofNat_of_zero_le hneg'
        go_wp2_with fail
        go_quiet (fail)
        go_wp2_with fail
        refine ⟨⟨n + 1, s, by omega, by go_num, rfl, by omega, ?_, hg.drewN _⟩, by simp [intOf]; omega⟩
        rw [← HR.out, HV.out, runA, HS.out, if_neg (by omega)]
    · have hfin : acceptsB c.args c.rows xs = memB k c.args := by
        have : runA c.rows 0 xs = k := by rw [← HR.out, drop_end (by omega)]; rfl
        simp [acceptsB, this, memB]
      have Hfin := hid hfin; clear hfin
      have Hac' := hid (Hac.out.gr hg)
      go_wp2_with fail
      go_loopw [7] (fun i w2 => ∃ (m : Nat), m ≤ c.args.length ∧ i = .int .i64 m ∧ (∀ (j : Nat) a, j < m → c.args[j]? = some a → eqI a k = false) ∧ Gr [] wr w2) (fun i _ => c.args.length - (intOf i).toNat)
      case atStart => exact ⟨0, Nat.zero_le _, rfl, by intro j x hj; omega, Gr.refl _ _⟩
      case round =>
        obtain ⟨m, hm, rfl, hp, hg2⟩ := hrel
        have HP := hid hp; clear hp
        have hfl2 := fld ((hg.trans hg2).obj Hb0.out (by simp))
        by_cases hml : m < c.args.length
        · obtain ⟨a, ha⟩ := get_some hml
          obtain ⟨b, o, rfl, _, h0⟩ := (Hac'.out.gr hg2) m a ha
          have HA := hid ha; clear ha
          cases hb : (a == (k : Int))
          · go_wp2_with fail
            exact ⟨⟨m + 1, by omega, by go_num, below_snoc HP.out HA.out (by simpa [eqI] using hb), hg2⟩, by simp [intOf]; omega⟩
          · have hak : a = k := by simpa using hb
            have Hak := hid hak; clear hak
            go_wp2_with fail
            go_ret
            refine ⟨ret_bool ?_, (hg0.trans hg).trans hg2⟩
            rw [Hfin.out, ← Hak.out]
            symm; simpa [memB] using List.mem_of_getElem? HA.out
        · go_wp2_with fail
          go_ret
          refine ⟨ret_bool ?_, (hg0.trans hg).trans hg2⟩
          rw [Hfin.out]
          symm
          simp only [memB, decide_eq_false_iff_not]
          intro hm2
          obtain ⟨j, hj, e⟩ := List.mem_iff_getElem.1 hm2
          have := HP.out j _ (by omega) (List.getElem?_eq_getElem hj)
          simp [eqI, e] at this

set_option maxHeartbeats 800000 in
theorem withinCapacity_c (c : Con) (xs : List Int) (cv xv : Value) (w : World) (hv : ConV [] w cv c) (hx : Nums [] w .i64 xv xs) (hval : ∀ x ∈ xs, 0 ≤ x ∧ x ≤ 5)
    (hl : c.args.length = 2 * xs.length) (hxl4 : xs.length ≤ 4) (hargs : ∀ a ∈ c.args, 0 ≤ a ∧ a ≤ 9) :
    Calls Tryz.prog 98 #[cv, xv] w fun e w' => e = .returned (.bool (roomyB c.args c.bound xs)) ∧ Gr [] w w' := by
  obtain ⟨vv, av, rv, rfl, hvv, hav, hrv⟩ := hv
  have hg0 : Gr [] w (w.alloc (.cells #[.int .i64 c.kind, vv, av, .int .i64 c.bound, rv] 26)) := (Gr.refl _ _).alloc _
  have hb0 : (w.alloc (.cells #[.int .i64 c.kind, vv, av, .int .i64 c.bound, rv] 26)).heap[w.heap.size]? = some (.cells #[.int .i64 c.kind, vv, av, .int .i64 c.bound, rv] 26 (0, 0)) := heap_alloc_new _ _
  obtain ⟨ao, ac, rfl, ⟨ha1, ha2, _⟩, hac⟩ := hav
  obtain ⟨xo, xc, rfl, ⟨hx1, hx2, _⟩, hxc⟩ := hx
  have Hac := hid (hac.gr hg0); have Hxc := hid (hxc.gr hg0)
  have Hval := hid hval; have Hargs := hid hargs
  have hl1 : c.args.length ≤ 2 * xs.length := by omega
  have hl2 : 2 * xs.length ≤ c.args.length := by omega
  have hal : c.args.length ≤ 9223372036854775807 := by omega
  clear hl hac hxc hvv hrv hval hargs
  have Hb0 := hid hb0; clear hb0
  have hW : ∀ W, Gr [] (w.alloc (.cells #[.int .i64 c.kind, vv, .slice ao c.args.length ac, .int .i64 c.bound, rv] 26)) W → ∀ i, W.cell? ⟨w.heap.size, i, none⟩ = #[Value.int .i64 c.kind, vv, .slice ao c.args.length ac, Value.int .i64 c.bound, rv][i]? := fun W hg => fld (hg.obj Hb0.out (by simp))
  have HW := hid hW; clear hW
  go_enter Tryz.func98, Tryz.ntmps98
  go_wp2_with fail
  go_loopw [6] (fun i wr => ∃ n : Nat, n ≤ 15 ∧ i = .int .i64 n ∧ (∀ t : Nat, t < n → load t xs (c.args.take xs.length) (c.args.drop xs.length) ≤ c.bound) ∧ Gr [] (w.alloc (.cells #[.int .i64 c.kind, vv, .slice ao c.args.length ac, .int .i64 c.bound, rv] 26)) wr) (fun i _ => 15 - (intOf i).toNat)
  case atStart => exact ⟨0, Nat.zero_le _, rfl, by intro t ht; omega, Gr.refl _ _⟩
  case round =>
    obtain ⟨t, ht, rfl, hT, hg⟩ := hrel
    have HT := hid hT; clear hT
    by_cases hlt : t < 15
    · obtain ⟨wo, hwo⟩ : ∃ wo : World, wo = wr := ⟨_, rfl⟩
      subst hwo
      have Hg := hid hg; clear hg
      have h14 : decide ((t : Int) ≤ 14) = true := by simp; omega
      go_wp2_with fail
      go_loopw [7, 8] (fun s i wr => ∃ (n k : Nat), n ≤ xs.length ∧ i = .int .i64 n ∧ s = .int .i64 k ∧ k ≤ 9 * n ∧ (k : Int) + load t (xs.drop n) ((c.args.take xs.length).drop n) ((c.args.drop xs.length).drop n) = load t xs (c.args.take xs.length) (c.args.drop xs.length) ∧ Gr [] (w.alloc (.cells #[.int .i64 c.kind, vv, .slice ao c.args.length ac, .int .i64 c.bound, rv] 26)) wr) (fun _ i _ => xs.length - (intOf i).toNat)
      case atStart => exact ⟨0, 0, Nat.zero_le _, rfl, rfl, by omega, by simp, Hg.out⟩
      case round =>
        obtain ⟨n, k, hn, rfl, rfl, hk, hR, hg⟩ := hrel
        have HR := hid hR; clear hR
        have hfl := HW.out _ hg
        by_cases hnl : n < xs.length
        · obtain ⟨x, hx⟩ := get_some hnl
          obtain ⟨d, hd⟩ := get_some (show n < c.args.length by omega)
          obtain ⟨e, he⟩ := get_some (show xs.length + n < c.args.length by omega)
          have hxr := Hval.out x (List.mem_of_getElem? hx)
          have hdr := Hargs.out d (List.mem_of_getElem? hd)
          have her := Hargs.out e (List.mem_of_getElem? he)
          obtain ⟨b, o, rfl, _, h0⟩ := (Hxc.out.gr hg) n x hx
          obtain ⟨b', o', rfl, _, h1⟩ := (Hac.out.gr hg) n d hd
          obtain ⟨b2, o2, e2, _, h2⟩ := (Hac.out.gr hg) (xs.length + n) e he
          obtain ⟨rfl, rfl⟩ : b2 = b' ∧ o2 = o' := by simpa [eq_comm] using e2
          have HX := hid (drop_cons hx)
          have HD := hid (drop_cons (xs := c.args.take xs.length) (k := n) (x := d) (by rw [List.getElem?_take, if_pos hnl]; exact hd))
          have HE := hid (drop_cons (xs := c.args.drop xs.length) (k := n) (x := e) (by rw [List.getElem?_drop]; exact he))
          clear hx hd he e2
          have hna : n < c.args.length := by omega
          have hnb : xs.length + n < c.args.length := by omega
          obtain ⟨e, rfl⟩ := Int.eq_ofNat_of_zero_le her.1
          have Hfin : Hid (∀ k' : Nat, k' = (if x ≤ (t : Int) ∧ (t : Int) < x + d then k + e else k) → (k' : Int) + load t (xs.drop (n + 1)) ((c.args.take xs.length).drop (n + 1)) ((c.args.drop xs.length).drop (n + 1)) = load t xs (c.args.take xs.length) (c.args.drop xs.length)) := hid (by
            intro k' hk'
            rw [← HR.out, HX.out, HD.out, HE.out, load]
            rw [hk']
            split <;> omega)
          by_cases hc1 : x ≤ (t : Int)
          · have hd1 : decide (x ≤ (t : Int)) = true := by simpa using hc1
            by_cases hc2 : (t : Int) < x + d
            · go_wp2_with fail
              try go_quiet (fail)
              try go_wp2_with fail
              exact ⟨⟨n + 1, k + e, by omega, by go_num, by go_num, by omega, Hfin.out _ (by rw [if_pos ⟨hc1, hc2⟩]), by first | exact hg | exact hg.drewN _⟩, by simp [intOf]; omega⟩
            · go_wp2_with fail
              try go_quiet (fail)
              try go_wp2_with fail
              exact ⟨⟨n + 1, k, by omega, by go_num, rfl, by omega, Hfin.out _ (by rw [if_neg (by omega)]), by first | exact hg | exact hg.drewN _⟩, by simp [intOf]; omega⟩
          · have hd1 : decide (x ≤ (t : Int)) = false := by simpa using hc1
            go_wp2_with fail
            try go_quiet (fail)
            try go_wp2_with fail
            exact ⟨⟨n + 1, k, by omega, by go_num, rfl, by omega, Hfin.out _ (by rw [if_neg (by omega)]), by first | exact hg | exact hg.drewN _⟩, by simp [intOf]; omega⟩
        · have hk' : (k : Int) = load t xs (c.args.take xs.length) (c.args.drop xs.length) := by
            have := HR.out
            rw [drop_end (xs := xs) (by omega)] at this
            simpa [load] using this
          have HK := hid hk'; clear hk'
          by_cases hb : c.bound < (k : Int)
          · go_wp2_with fail
            go_ret
            refine ⟨ret_bool ?_, hg0.trans hg⟩
            symm
            unfold roomyB
            rw [List.all_eq_false]
            exact ⟨t, by simpa using hlt, by rw [← HK.out]; simp; omega⟩
          · go_wp2_with fail
            refine ⟨⟨t + 1, by omega, by go_num, ?_, hg⟩, by simp [intOf]; omega⟩
            intro t' ht'
            by_cases e : t' = t
            · subst e; rw [← HK.out]; omega
            · exact HT.out t' (by omega)
    · go_wp2_with fail
      go_ret
      refine ⟨ret_bool ?_, hg0.trans hg⟩
      symm
      unfold roomyB
      rw [List.all_eq_true]
      intro t' ht'
      have : t' < 15 := by simpa using ht'
      simpa using HT.out t' (by omega)
end Go.Proofs.YtmonhpoogfdpoaaGreat

namespace Go.Proofs.YtmonhpoogfdpoaaGreat
open Go.RowKit

theorem isCircuit_c (xs : List Int) (v : Value) (w : World) (hv : Nums [] w .i64 v xs) (hl : 1 ≤ xs.length ∧ xs.length ≤ 4) (hval : ∀ x ∈ xs, 0 ≤ x ∧ x ≤ 5) :
    Calls Tryz.prog 100 #[v] w fun e w' => e = .returned (.bool (circuitB xs)) ∧ Gr [] w w' := by
  obtain ⟨ao, cap, rfl, ⟨hlc, hcm, _⟩, hc⟩ := hv
  have Hc := hid hc; have Hval := hid hval; clear hc hval
  go_enter Tryz.func100, Tryz.ntmps100
  go_wp2_with fail
  go_loopw [3, 4] (fun a s wr => ∃ (p n : Nat), a = .int .i64 p ∧ s = .int .i64 n ∧ p < xs.length ∧ (1 ≤ n ∧ n ≤ xs.length + 1) ∧ circ xs (xs.length + 1 - n) p n = circuitB xs ∧ Gr [] w wr) (fun _ s _ => xs.length + 1 - (intOf s).toNat)
  case atStart => exact ⟨0, 1, rfl, rfl, by omega, by omega, rfl, Gr.refl _ _⟩
  case round =>
    obtain ⟨p, n, rfl, rfl, hp, hn, hR, hg⟩ := hrel
    have HR := hid hR; clear hR
    by_cases hnl : n ≤ xs.length
    · obtain ⟨y, hy⟩ := get_some hp
      have hyr := Hval.out y (List.mem_of_getElem? hy)
      obtain ⟨y, rfl⟩ := Int.eq_ofNat_of_zero_le hyr.1
      obtain ⟨b, o, rfl, _, h0⟩ := (Hc.out.gr hg) p _ hy
      obtain ⟨f, hf⟩ : ∃ f, xs.length + 1 - n = f + 1 := ⟨xs.length - n, by omega⟩
      have hf' : f = xs.length + 1 - (n + 1) := by omega
      have hstep : circuitB xs = if (xs.length : Int) ≤ (y : Int) then false else if (y : Int) = 0 then decide ((n : Int) = xs.length) else circ xs (xs.length + 1 - (n + 1)) y ((n : Int) + 1) := by
        rw [← HR.out, hf, circ, ← hf']
        have : xs.getD (p : Int).toNat 0 = y := by simp [hy]
        rw [this]
      have HS := hid hstep
      clear hy hf hf' hstep HR
      by_cases hyl : xs.length ≤ y
      · go_wp2_with fail
        try go_quiet (fail)
        try go_wp2_with fail
        go_ret
        refine ⟨ret_bool ?_, by first | exact hg | exact hg.drewN _⟩
        rw [HS.out, if_pos (by omega)]
      · cases hy0 : ((y : Int) == 0)
        · have hyz : ¬ (y : Int) = 0 := by simpa using hy0
          have Hyz := hid hyz; clear hyz
          go_wp2_with fail
          try go_quiet (fail)
          try go_wp2_with fail
          refine ⟨⟨y, n + 1, rfl, by go_num, by omega, by omega, ?_, by first | exact hg | exact hg.drewN _⟩, by simp [intOf]; omega⟩
          rw [HS.out, if_neg (by omega), if_neg Hyz.out]; rfl
        · have hyz : (y : Int) = 0 := by simpa using hy0
          have Hyz := hid hyz; clear hyz
          go_wp2_with fail
          try go_quiet (fail)
          try go_wp2_with fail
          go_ret
          refine ⟨ret_bool ?_, by first | exact hg | exact hg.drewN _⟩
          rw [HS.out, if_neg (by omega), if_pos Hyz.out]; rfl
    · go_wp2_with fail
      go_ret
      refine ⟨ret_bool ?_, hg⟩
      rw [← HR.out]
      have : xs.length + 1 - n = 0 := by omega
      rw [this]; rfl

theorem take_eq_snoc {r xs : List Int} {k : Nat} {a b : Int} (hr : r[k]? = some a) (hx : xs[k]? = some b) : decide (r.take (k + 1) = xs.take (k + 1)) = (decide (r.take k = xs.take k) && (a == b)) := by
  obtain ⟨h1, rfl⟩ := List.getElem?_eq_some_iff.1 hr
  obtain ⟨h2, rfl⟩ := List.getElem?_eq_some_iff.1 hx
  rw [List.take_succ_eq_append_getElem h1, List.take_succ_eq_append_getElem h2, Bool.eq_iff_iff]
  simp only [decide_eq_true_eq, Bool.and_eq_true, beq_iff_eq]
  constructor
  · intro h
    have := List.append_inj h (by simp [List.length_take]; omega)
    exact ⟨this.1, by simpa using this.2⟩
  · rintro ⟨h, e⟩; rw [h, e]

set_option maxHeartbeats 800000 in
theorem hasRow_c (rows : List (List Int)) (xs : List Int) (rv xv : Value) (w : World) (hr : RowsV [] w rv rows) (hx : Nums [] w .i64 xv xs) (hlen : ∀ r ∈ rows, r.length = xs.length) :
    Calls Tryz.prog 97 #[rv, xv] w fun e w' => e = .returned (.bool (rows.any fun r => decide (r = xs))) ∧ Gr [] w w' := by
  obtain ⟨ro, rc, rfl, ⟨hr1, hr2, _⟩, hrc⟩ := hr
  obtain ⟨xo, xc, rfl, ⟨hx1, hx2, _⟩, hxc⟩ := hx
  have Hrc := hid hrc; have Hxc := hid hxc; have Hlen := hid hlen
  clear hrc hxc hlen
  have hrl : rows.length ≤ 9223372036854775807 := by omega
  have hxl : xs.length ≤ 9223372036854775807 := by omega
  go_enter Tryz.func97, Tryz.ntmps97
  go_wp2_with fail
  go_loopw [5] (fun i wr => ∃ n : Nat, n ≤ rows.length ∧ i = .int .i64 n ∧ (∀ (j : Nat) r, j < n → rows[j]? = some r → decide (r = xs) = false) ∧ Gr [] w wr) (fun i _ => rows.length - (intOf i).toNat)
  case atStart => exact ⟨0, Nat.zero_le _, rfl, by intro j x hj; omega, Gr.refl _ _⟩
  case round =>
    obtain ⟨n, hn, rfl, hp, hg⟩ := hrel
    have HP := hid hp; clear hp
    by_cases hlt : n < rows.length
    · obtain ⟨r, hr⟩ := get_some hlt
      obtain ⟨b, o, rv, rfl, _, h0, hrv⟩ := (Hrc.out.gr hg) n r hr
      obtain ⟨po, pc, rfl, ⟨hp1, hp2, _⟩, hpc⟩ := hrv
      have hl1 : r.length ≤ xs.length := by have := Hlen.out r (List.mem_of_getElem? hr); omega
      have hl2 : xs.length ≤ r.length := by have := Hlen.out r (List.mem_of_getElem? hr); omega
      have HR := hid hr; have Hpc := hid hpc; clear hr hpc
      obtain ⟨wo, hwo⟩ : ∃ wo : World, wo = wr := ⟨_, rfl⟩
      subst hwo
      have Hg := hid hg; clear hg
      have H0 := hid h0; clear h0
      go_wp2_with fail
      go_loopw [6, 7] (fun s i w2 => ∃ (k : Nat) (t : Bool), k ≤ xs.length ∧ i = .int .i64 k ∧ s = .bool t ∧ t = decide (r.take k = xs.take k) ∧ Gr [] wo w2) (fun _ i _ => xs.length - (intOf i).toNat)
      case atStart => exact ⟨0, true, Nat.zero_le _, rfl, rfl, by simp, Gr.refl _ _⟩
      case round =>
        obtain ⟨k, t, hk, rfl, rfl, ht, hg2⟩ := hrel
        have HT := hid ht; clear ht
        by_cases hkl : k < xs.length
        · obtain ⟨a, ha⟩ := get_some (show k < r.length by omega)
          obtain ⟨x, hx⟩ := get_some hkl
          obtain ⟨b1, o1, rfl, _, h1⟩ := (Hpc.out.gr hg2) k a ha
          obtain ⟨b2, o2, rfl, _, h2⟩ := ((Hxc.out.gr Hg.out).gr hg2) k x hx
          have h0 := hg2.cell H0.out (by simp)
          have HN := hid (take_eq_snoc ha hx)
          have hkr : k < r.length := by omega
          clear ha hx
          cases t
          · go_wp2_with fail
            try go_quiet (fail)
            try go_wp2_with fail
            refine ⟨⟨k + 1, false, by omega, by go_num, rfl, ?_, by first | exact hg2 | exact hg2.drewN _⟩, by simp [intOf]; omega⟩
            rw [HN.out, ← HT.out]; rfl
          · go_wp2_with fail
            try go_quiet (fail)
            try go_wp2_with fail
            refine ⟨⟨k + 1, a == x, by omega, by go_num, rfl, ?_, by first | exact hg2 | exact hg2.drewN _⟩, by simp [intOf]; omega⟩
            rw [HN.out, ← HT.out]; simp
        · have hfin : t = decide (r = xs) := by
            have := HT.out
            rwa [List.take_of_length_le (by omega), List.take_of_length_le (by omega)] at this
          have HF := hid hfin; clear hfin
          cases t
          · go_wp2_with fail
            exact ⟨⟨n + 1, by omega, by go_num, below_snoc HP.out HR.out HF.out.symm, Hg.out.trans hg2⟩, by simp [intOf]; omega⟩
          · go_wp2_with fail
            go_ret
            refine ⟨ret_bool ?_, Hg.out.trans hg2⟩
            symm
            exact List.any_eq_true.2 ⟨r, List.mem_of_getElem? HR.out, HF.out.symm⟩
    · go_wp2_with fail
      go_ret
      refine ⟨ret_bool ?_, hg⟩
      have := anyG_false (p := fun r => decide (r = xs)) (xs := rows) (fun j x hj => HP.out j x (by omega))
      exact this.symm
end Go.Proofs.YtmonhpoogfdpoaaGreat

set_option linter.unusedVariables false
namespace Go.Proofs.YtmonhpoogfdpoaaGreat
open Go.RowKit

set_option maxHeartbeats 800000 in
theorem sps1_c (c : Con) (xs : List Int) (cv xv : Value) (w : World) (hv : ConV [] w cv c) (hx : Nums [] w .i64 xv xs) (hF : Fit c xs) (hk : c.kind = 1) :
    Calls Tryz.prog 78 #[cv, xv] w fun e w' => e = .returned (.bool (satB c xs)) ∧ Gr [] w w' := by
  obtain ⟨vv, av, rv, rfl, hvv, hav, hrv⟩ := hv
  have hx' := hx
  obtain ⟨xo, xc, rfl, _, _⟩ := hx
  have hg0 : Gr [] w (w.alloc (.cells #[.int .i64 c.kind, vv, av, .int .i64 c.bound, rv] 26)) := (Gr.refl _ _).alloc _
  have hb0 : (w.alloc (.cells #[.int .i64 c.kind, vv, av, .int .i64 c.bound, rv] 26)).heap[w.heap.size]? = some (.cells #[.int .i64 c.kind, vv, av, .int .i64 c.bound, rv] 26 (0, 0)) := heap_alloc_new _ _
  have Hx := hid (hx'.gr hg0); have Hav := hid (hav.gr hg0); have Hrv := hid (hrv.gr hg0)
  have Hcv : Hid (ConV [] (w.alloc (.cells #[.int .i64 c.kind, vv, av, .int .i64 c.bound, rv] 26)) (.agg #[.int .i64 c.kind, vv, av, .int .i64 c.bound, rv]) c) := hid (ConV.gr ⟨vv, av, rv, rfl, hvv, hav, hrv⟩ hg0)
  have hfit := hF.fits; have Hxl := hid hF.len; have h1 := hF.k1; have h4 := hF.k4; have hval := hF.val
  clear hF hx'
  have t1 : (c.kind == 1) = true := by rw [hk]; rfl
  have hfl := fld hb0
  have Hb0 := hid hb0; have Hval := hid hval; have Hfit := hid hfit; have Hk := hid hk
  clear hb0 hval hfit hk
  have hf := Hfit.out
  rw [fitsB_1 Hk.out] at hf
  simp only [argsB, eqI, Bool.and_eq_true, beq_iff_eq] at hf
  obtain ⟨⟨⟨hal, hab⟩, hbd⟩, q1⟩ := hf
  clear q1
  have hal' : c.args.length ≤ xs.length := by have := Hxl.out; omega
  have hal2 : xs.length ≤ c.args.length := by have := Hxl.out; omega
  have Hsa := hid (small_of_allB hab (by omega) (by omega))
  have Hsx : Hid (Small xs) := hid (fun x hx => by have := Hval.out x hx; omega)
  clear hal hab hbd
  obtain ⟨xo', xc', exv, ⟨hxc1, hxc2, _⟩, hxc⟩ := Hx.out
  obtain ⟨rfl, rfl⟩ : xo' = xo ∧ xc' = xc := by simpa [eq_comm] using exv
  clear exv
  obtain ⟨ao, ac, rfl, ⟨hac1, hac2, _⟩, hac⟩ := Hav.out
  have Hxc := hid hxc; have Hac := hid hac; clear hxc hac
  go_enter Tryz.func78, Tryz.ntmps78
  go_wp2_with fail
  go_loopw [5, 6] (fun s i wr => ∃ (n : Nat) (t : Int), n ≤ xs.length ∧ i = .int .i64 n ∧ s = .int .i64 t ∧ (-1000000 * (n : Int) ≤ t ∧ t ≤ 1000000 * (n : Int)) ∧ t + dot (c.args.drop n) (xs.drop n) = dot c.args xs ∧ Gr [] (w.alloc (.cells #[.int .i64 c.kind, vv, .slice ao c.args.length ac, .int .i64 c.bound, rv] 26)) wr) (fun _ i _ => xs.length - (intOf i).toNat)
  case atStart => exact ⟨0, 0, Nat.zero_le _, rfl, rfl, by omega, by simp, Gr.refl _ _⟩
  case round =>
    obtain ⟨n, t, hn, rfl, rfl, ht, hdot, hg⟩ := hrel
    have Hdot := hid hdot; clear hdot
    have hflr := fld (hg.obj Hb0.out (by simp))
    by_cases hlt : n < xs.length
    · obtain ⟨x, hx⟩ := get_some (show n < c.args.length by omega)
      obtain ⟨y, hy⟩ := get_some hlt
      obtain ⟨b, o, rfl, _, hcell⟩ := (Hac.out.gr hg) n x hx
      obtain ⟨b', o', rfl, _, hcell'⟩ := (Hxc.out.gr hg) n y hy
      have hmul := mul_bd (Hsa.out x (List.mem_of_getElem? hx)) (Hsx.out y (List.mem_of_getElem? hy))
      have HX := hid (drop_cons hx); have HY := hid (drop_cons hy); clear hx hy
      have hnx : n < c.args.length := by omega
      go_wp2_with fail
      go_quiet (fail)
      go_wp2_with fail
      refine ⟨⟨n + 1, t + x * y, by omega, by go_num, rfl, by omega, ?_, hg.drewN _⟩, by simp [intOf]; omega⟩
      rw [← Hdot.out, HX.out, HY.out]; simp [dot]; omega
    · have ht' : t = dot c.args xs := by
        have := Hdot.out; rw [drop_end (xs := xs) (by omega)] at this
        rw [drop_end (xs := c.args) (by omega)] at this; simpa [dot] using this
      have HT := hid ht'; clear ht'
      go_wp2_with fail
      go_ret
      exact ⟨ret_bool (by unfold satB; rw [if_pos Hk.out, ← HT.out]), hg0.trans hg⟩
set_option maxHeartbeats 800000 in
theorem sps2_c (c : Con) (xs : List Int) (cv xv : Value) (w : World) (hv : ConV [] w cv c) (hx : Nums [] w .i64 xv xs) (hF : Fit c xs) (hk : c.kind = 2) :
    Calls Tryz.prog 78 #[cv, xv] w fun e w' => e = .returned (.bool (satB c xs)) ∧ Gr [] w w' := by
  obtain ⟨vv, av, rv, rfl, hvv, hav, hrv⟩ := hv
  have hx' := hx
  obtain ⟨xo, xc, rfl, _, _⟩ := hx
  have hg0 : Gr [] w (w.alloc (.cells #[.int .i64 c.kind, vv, av, .int .i64 c.bound, rv] 26)) := (Gr.refl _ _).alloc _
  have hb0 : (w.alloc (.cells #[.int .i64 c.kind, vv, av, .int .i64 c.bound, rv] 26)).heap[w.heap.size]? = some (.cells #[.int .i64 c.kind, vv, av, .int .i64 c.bound, rv] 26 (0, 0)) := heap_alloc_new _ _
  have Hx := hid (hx'.gr hg0); have Hav := hid (hav.gr hg0); have Hrv := hid (hrv.gr hg0)
  have Hcv : Hid (ConV [] (w.alloc (.cells #[.int .i64 c.kind, vv, av, .int .i64 c.bound, rv] 26)) (.agg #[.int .i64 c.kind, vv, av, .int .i64 c.bound, rv]) c) := hid (ConV.gr ⟨vv, av, rv, rfl, hvv, hav, hrv⟩ hg0)
  have hfit := hF.fits; have Hxl := hid hF.len; have h1 := hF.k1; have h4 := hF.k4; have hval := hF.val
  clear hF hx'
  have t1 : (c.kind == 1) = false := by rw [hk]; rfl
  have t2 : (c.kind == 2) = true := by rw [hk]; rfl
  have hfl := fld hb0
  have Hb0 := hid hb0; have Hval := hid hval; have Hfit := hid hfit; have Hk := hid hk
  clear hb0 hval hfit hk
  have hf := Hfit.out
  rw [fitsB_2 Hk.out] at hf
  simp only [argsB, eqI, Bool.and_eq_true, beq_iff_eq] at hf
  obtain ⟨⟨⟨hv2, ⟨ha1, hab⟩⟩, q1⟩, q2⟩ := hf
  clear q1 q2
  obtain ⟨x0, hx0'⟩ := get_some (show 0 < xs.length by omega)
  obtain ⟨x1, hx1'⟩ := get_some (show 1 < xs.length by have := Hxl.out; omega)
  obtain ⟨a0, ha0⟩ := get_some (show 0 < c.args.length by omega)
  have hx0r := Hval.out x0 (List.mem_of_getElem? hx0'); have hx1r := Hval.out x1 (List.mem_of_getElem? hx1')
  have ha0r := allB_iff.1 hab a0 (List.mem_of_getElem? ha0)
  obtain ⟨xo', xc', exv, ⟨hxc1, hxc2, _⟩, hxc⟩ := Hx.out
  obtain ⟨rfl, rfl⟩ : xo' = xo ∧ xc' = xc := by simpa [eq_comm] using exv
  clear exv
  obtain ⟨ao, ac, rfl, ⟨hac1, hac2, _⟩, hac⟩ := Hav.out
  obtain ⟨b, o, rfl, _, c0⟩ := hxc 0 x0 hx0'
  obtain ⟨b', o', e1, _, c1⟩ := hxc 1 x1 hx1'
  obtain ⟨rfl, rfl⟩ : b' = b ∧ o' = o := by simpa [eq_comm] using e1
  obtain ⟨b2, o2, rfl, _, c2⟩ := hac 0 a0 ha0
  rw [Nat.add_zero] at c0 c2
  have HE : Hid (xs.getD 0 0 = x0 ∧ xs.getD 1 0 = x1 ∧ c.args.getD 0 0 = a0) := hid ⟨by simp [hx0'], by simp [hx1'], by simp [ha0]⟩
  have l1 : 1 < xs.length := by have := Hxl.out; omega
  have l2 : 0 < c.args.length := by omega
  have l3 : 0 < xs.length := by omega
  clear hv2 ha1 hab hx0' hx1' ha0 hxc hac e1
  go_enter Tryz.func78, Tryz.ntmps78
  go_wp2_with fail
  go_quiet (fail)
  go_wp2_with fail
  go_ret
  refine ⟨ret_bool ?_, hg0.drewN _⟩
  unfold satB
  rw [if_neg (by have := Hk.out; omega), if_pos Hk.out, HE.out.1, HE.out.2.1, HE.out.2.2]
  rfl
set_option maxHeartbeats 800000 in
theorem sps3_c (c : Con) (xs : List Int) (cv xv : Value) (w : World) (hv : ConV [] w cv c) (hx : Nums [] w .i64 xv xs) (hF : Fit c xs) (hk : c.kind = 3) :
    Calls Tryz.prog 78 #[cv, xv] w fun e w' => e = .returned (.bool (satB c xs)) ∧ Gr [] w w' := by
  obtain ⟨vv, av, rv, rfl, hvv, hav, hrv⟩ := hv
  have hx' := hx
  obtain ⟨xo, xc, rfl, _, _⟩ := hx
  have hg0 : Gr [] w (w.alloc (.cells #[.int .i64 c.kind, vv, av, .int .i64 c.bound, rv] 26)) := (Gr.refl _ _).alloc _
  have hb0 : (w.alloc (.cells #[.int .i64 c.kind, vv, av, .int .i64 c.bound, rv] 26)).heap[w.heap.size]? = some (.cells #[.int .i64 c.kind, vv, av, .int .i64 c.bound, rv] 26 (0, 0)) := heap_alloc_new _ _
  have Hx := hid (hx'.gr hg0); have Hav := hid (hav.gr hg0); have Hrv := hid (hrv.gr hg0)
  have Hcv : Hid (ConV [] (w.alloc (.cells #[.int .i64 c.kind, vv, av, .int .i64 c.bound, rv] 26)) (.agg #[.int .i64 c.kind, vv, av, .int .i64 c.bound, rv]) c) := hid (ConV.gr ⟨vv, av, rv, rfl, hvv, hav, hrv⟩ hg0)
  have hfit := hF.fits; have Hxl := hid hF.len; have h1 := hF.k1; have h4 := hF.k4; have hval := hF.val
  clear hF hx'
  have t1 : (c.kind == 1) = false := by rw [hk]; rfl
  have t2 : (c.kind == 2) = false := by rw [hk]; rfl
  have t3 : (c.kind == 3) = true := by rw [hk]; rfl
  have hfl := fld hb0
  have Hb0 := hid hb0; have Hval := hid hval; have Hfit := hid hfit; have Hk := hid hk
  clear hb0 hval hfit hk
  go_enter Tryz.func78, Tryz.ntmps78
  go_wp2_with fail
  refine (specDistinct_c xs _ _ Hx.out).mono ?_
  rintro e w1 ⟨rfl, hg1⟩
  go_wp2_with fail
  go_ret
  refine ⟨ret_bool ?_, hg0.trans hg1⟩
  unfold satB
  rw [if_neg (by have := Hk.out; omega), if_neg (by have := Hk.out; omega), if_pos Hk.out]
set_option maxHeartbeats 800000 in
theorem sps4_c (c : Con) (xs : List Int) (cv xv : Value) (w : World) (hv : ConV [] w cv c) (hx : Nums [] w .i64 xv xs) (hF : Fit c xs) (hk : c.kind = 4) :
    Calls Tryz.prog 78 #[cv, xv] w fun e w' => e = .returned (.bool (satB c xs)) ∧ Gr [] w w' := by
  obtain ⟨vv, av, rv, rfl, hvv, hav, hrv⟩ := hv
  have hx' := hx
  obtain ⟨xo, xc, rfl, _, _⟩ := hx
  have hg0 : Gr [] w (w.alloc (.cells #[.int .i64 c.kind, vv, av, .int .i64 c.bound, rv] 26)) := (Gr.refl _ _).alloc _
  have hb0 : (w.alloc (.cells #[.int .i64 c.kind, vv, av, .int .i64 c.bound, rv] 26)).heap[w.heap.size]? = some (.cells #[.int .i64 c.kind, vv, av, .int .i64 c.bound, rv] 26 (0, 0)) := heap_alloc_new _ _
  have Hx := hid (hx'.gr hg0); have Hav := hid (hav.gr hg0); have Hrv := hid (hrv.gr hg0)
  have Hcv : Hid (ConV [] (w.alloc (.cells #[.int .i64 c.kind, vv, av, .int .i64 c.bound, rv] 26)) (.agg #[.int .i64 c.kind, vv, av, .int .i64 c.bound, rv]) c) := hid (ConV.gr ⟨vv, av, rv, rfl, hvv, hav, hrv⟩ hg0)
  have hfit := hF.fits; have Hxl := hid hF.len; have h1 := hF.k1; have h4 := hF.k4; have hval := hF.val
  clear hF hx'
  have t1 : (c.kind == 1) = false := by rw [hk]; rfl
  have t2 : (c.kind == 2) = false := by rw [hk]; rfl
  have t3 : (c.kind == 3) = false := by rw [hk]; rfl
  have t4 : (c.kind == 4) = true := by rw [hk]; rfl
  have hfl := fld hb0
  have Hb0 := hid hb0; have Hval := hid hval; have Hfit := hid hfit; have Hk := hid hk
  clear hb0 hval hfit hk
  have hf := Hfit.out
  rw [fitsB_4 Hk.out] at hf
  simp only [Bool.and_eq_true, beq_iff_eq] at hf
  obtain ⟨⟨⟨⟨hv2, ha1⟩, hab⟩, q1⟩, q2⟩ := hf
  clear q1 q2
  obtain ⟨x0, hx0'⟩ := get_some (show 0 < xs.length by omega)
  obtain ⟨x1, hx1'⟩ := get_some (show 1 < xs.length by have := Hxl.out; omega)
  have hx0r := Hval.out x0 (List.mem_of_getElem? hx0')
  obtain ⟨x0, rfl⟩ := Int.eq_ofNat_of_zero_le hx0r.1
  obtain ⟨xo', xc', exv, ⟨hxc1, hxc2, _⟩, hxc⟩ := Hx.out
  obtain ⟨rfl, rfl⟩ : xo' = xo ∧ xc' = xc := by simpa [eq_comm] using exv
  clear exv
  obtain ⟨ao, ac, rfl, ⟨hac1, hac2, _⟩, hac⟩ := Hav.out
  obtain ⟨b, o, rfl, _, c0⟩ := hxc 0 _ hx0'
  obtain ⟨b', o', e1, _, c1⟩ := hxc 1 x1 hx1'
  obtain ⟨rfl, rfl⟩ : b' = b ∧ o' = o := by simpa [eq_comm] using e1
  rw [Nat.add_zero] at c0
  have HE : Hid (xs.getD 0 0 = x0 ∧ xs.getD 1 0 = x1) := hid ⟨by simp [hx0'], by simp [hx1']⟩
  have l1 : 1 < xs.length := by have := Hxl.out; omega
  have l3 : 0 < xs.length := by omega
  by_cases hlt : x0 < c.args.length
  · obtain ⟨a, ha⟩ := get_some hlt
    obtain ⟨b2, o2, rfl, _, c2⟩ := hac x0 a ha
    have HA : Hid (c.args.getD x0 0 = a) := hid (by simp [ha])
    have hd : decide ((x0 : Int) < (c.args.length : Int)) = true := by simpa using hlt
    clear hv2 ha1 hab hx0' hx1' hxc hac e1 ha
    go_enter Tryz.func78, Tryz.ntmps78
    go_wp2_with fail
    go_quiet (fail)
    go_wp2_with fail
    go_ret
    refine ⟨ret_bool ?_, hg0.drewN _⟩
    unfold satB
    rw [if_neg (by have := Hk.out; omega), if_neg (by have := Hk.out; omega), if_neg (by have := Hk.out; omega), if_pos Hk.out, HE.out.1, HE.out.2, hd, Int.toNat_natCast, HA.out]
    rfl
  · have hd : decide ((x0 : Int) < (c.args.length : Int)) = false := by simpa using hlt
    clear hv2 ha1 hab hx0' hx1' hxc hac e1
    go_enter Tryz.func78, Tryz.ntmps78
    go_wp2_with fail
    go_quiet (fail)
    go_wp2_with fail
    go_ret
    refine ⟨ret_bool ?_, hg0.drewN _⟩
    unfold satB
    rw [if_neg (by have := Hk.out; omega), if_neg (by have := Hk.out; omega), if_neg (by have := Hk.out; omega), if_pos Hk.out, HE.out.1, hd]
    rfl
set_option maxHeartbeats 800000 in
theorem sps5_c (c : Con) (xs : List Int) (cv xv : Value) (w : World) (hv : ConV [] w cv c) (hx : Nums [] w .i64 xv xs) (hF : Fit c xs) (hk : c.kind = 5) :
    Calls Tryz.prog 78 #[cv, xv] w fun e w' => e = .returned (.bool (satB c xs)) ∧ Gr [] w w' := by
  obtain ⟨vv, av, rv, rfl, hvv, hav, hrv⟩ := hv
  have hx' := hx
  obtain ⟨xo, xc, rfl, _, _⟩ := hx
  have hg0 : Gr [] w (w.alloc (.cells #[.int .i64 c.kind, vv, av, .int .i64 c.bound, rv] 26)) := (Gr.refl _ _).alloc _
  have hb0 : (w.alloc (.cells #[.int .i64 c.kind, vv, av, .int .i64 c.bound, rv] 26)).heap[w.heap.size]? = some (.cells #[.int .i64 c.kind, vv, av, .int .i64 c.bound, rv] 26 (0, 0)) := heap_alloc_new _ _
  have Hx := hid (hx'.gr hg0); have Hav := hid (hav.gr hg0); have Hrv := hid (hrv.gr hg0)
  have Hcv : Hid (ConV [] (w.alloc (.cells #[.int .i64 c.kind, vv, av, .int .i64 c.bound, rv] 26)) (.agg #[.int .i64 c.kind, vv, av, .int .i64 c.bound, rv]) c) := hid (ConV.gr ⟨vv, av, rv, rfl, hvv, hav, hrv⟩ hg0)
  have hfit := hF.fits; have Hxl := hid hF.len; have h1 := hF.k1; have h4 := hF.k4; have hval := hF.val
  clear hF hx'
  have t1 : (c.kind == 1) = false := by rw [hk]; rfl
  have t2 : (c.kind == 2) = false := by rw [hk]; rfl
  have t3 : (c.kind == 3) = false := by rw [hk]; rfl
  have t4 : (c.kind == 4) = false := by rw [hk]; rfl
  have t5 : (c.kind == 5) = true := by rw [hk]; rfl
  have hfl := fld hb0
  have Hb0 := hid hb0; have Hval := hid hval; have Hfit := hid hfit; have Hk := hid hk
  clear hb0 hval hfit hk
  have hf := Hfit.out
  rw [fitsB_5 Hk.out] at hf
  simp only [Bool.and_eq_true, beq_iff_eq] at hf
  have Hlen : Hid (∀ r ∈ c.rows, r.length = xs.length) := hid (by
    intro r hr
    obtain ⟨i, hi, rfl⟩ := List.mem_iff_getElem.1 hr
    have := (rowsIn_get hf.2 (List.getElem?_eq_getElem hi)).1
    have := Hxl.out
    omega)
  clear hf
  go_enter Tryz.func78, Tryz.ntmps78
  go_wp2_with fail
  refine (hasRow_c c.rows xs _ _ _ Hrv.out Hx.out Hlen.out).mono ?_
  rintro e w1 ⟨rfl, hg1⟩
  go_wp2_with fail
  go_ret
  refine ⟨ret_bool ?_, hg0.trans hg1⟩
  unfold satB
  rw [if_neg (by have := Hk.out; omega), if_neg (by have := Hk.out; omega), if_neg (by have := Hk.out; omega), if_neg (by have := Hk.out; omega), if_pos Hk.out]
set_option maxHeartbeats 800000 in
theorem sps6_c (c : Con) (xs : List Int) (cv xv : Value) (w : World) (hv : ConV [] w cv c) (hx : Nums [] w .i64 xv xs) (hF : Fit c xs) (hk : c.kind = 6) :
    Calls Tryz.prog 78 #[cv, xv] w fun e w' => e = .returned (.bool (satB c xs)) ∧ Gr [] w w' := by
  obtain ⟨vv, av, rv, rfl, hvv, hav, hrv⟩ := hv
  have hx' := hx
  obtain ⟨xo, xc, rfl, _, _⟩ := hx
  have hg0 : Gr [] w (w.alloc (.cells #[.int .i64 c.kind, vv, av, .int .i64 c.bound, rv] 26)) := (Gr.refl _ _).alloc _
  have hb0 : (w.alloc (.cells #[.int .i64 c.kind, vv, av, .int .i64 c.bound, rv] 26)).heap[w.heap.size]? = some (.cells #[.int .i64 c.kind, vv, av, .int .i64 c.bound, rv] 26 (0, 0)) := heap_alloc_new _ _
  have Hx := hid (hx'.gr hg0); have Hav := hid (hav.gr hg0); have Hrv := hid (hrv.gr hg0)
  have Hcv : Hid (ConV [] (w.alloc (.cells #[.int .i64 c.kind, vv, av, .int .i64 c.bound, rv] 26)) (.agg #[.int .i64 c.kind, vv, av, .int .i64 c.bound, rv]) c) := hid (ConV.gr ⟨vv, av, rv, rfl, hvv, hav, hrv⟩ hg0)
  have hfit := hF.fits; have Hxl := hid hF.len; have h1 := hF.k1; have h4 := hF.k4; have hval := hF.val
  clear hF hx'
  have t1 : (c.kind == 1) = false := by rw [hk]; rfl
  have t2 : (c.kind == 2) = false := by rw [hk]; rfl
  have t3 : (c.kind == 3) = false := by rw [hk]; rfl
  have t4 : (c.kind == 4) = false := by rw [hk]; rfl
  have t5 : (c.kind == 5) = false := by rw [hk]; rfl
  have t6 : (c.kind == 6) = true := by rw [hk]; rfl
  have hfl := fld hb0
  have Hb0 := hid hb0; have Hval := hid hval; have Hfit := hid hfit; have Hk := hid hk
  clear hb0 hval hfit hk
  have hf := Hfit.out
  rw [fitsB_6 Hk.out] at hf
  simp only [argsB, eqI, Bool.and_eq_true, beq_iff_eq] at hf
  obtain ⟨⟨⟨ha1, hab⟩, q1⟩, q2⟩ := hf
  clear q1 q2
  obtain ⟨a0, ha0⟩ := get_some (show 0 < c.args.length by omega)
  obtain ⟨xo', xc', exv, ⟨hxc1, hxc2, _⟩, hxc⟩ := Hx.out
  obtain ⟨rfl, rfl⟩ : xo' = xo ∧ xc' = xc := by simpa [eq_comm] using exv
  clear exv
  obtain ⟨ao, ac, rfl, ⟨hac1, hac2, _⟩, hac⟩ := Hav.out
  obtain ⟨b2, o2, rfl, _, c2⟩ := hac 0 a0 ha0
  rw [Nat.add_zero] at c2
  have HE : Hid (c.args.getD 0 0 = a0) := hid (by simp [ha0])
  have l2 : 0 < c.args.length := by omega
  have Hxc := hid hxc; have C2 := hid c2
  clear ha1 hab ha0 hxc hac c2
  go_enter Tryz.func78, Tryz.ntmps78
  go_wp2_with fail
  go_loopw [7, 8] (fun s i wr => ∃ (n k : Nat), n ≤ xs.length ∧ i = .int .i64 n ∧ s = .int .i64 k ∧ k ≤ n ∧ (k : Int) + countB a0 (xs.drop n) = countB a0 xs ∧ Gr [] (w.alloc (.cells #[.int .i64 c.kind, vv, .slice (some ⟨b2, o2, none⟩) c.args.length ac, .int .i64 c.bound, rv] 26)) wr) (fun _ i _ => xs.length - (intOf i).toNat)
  case atStart => exact ⟨0, 0, Nat.zero_le _, rfl, rfl, by omega, by simp, Gr.refl _ _⟩
  case round =>
    obtain ⟨n, k, hn, rfl, rfl, hkn, hR, hg⟩ := hrel
    have HR := hid hR; clear hR
    have hflr := fld (hg.obj Hb0.out (by simp))
    have c2 := hg.cell C2.out (by simp)
    by_cases hlt : n < xs.length
    · obtain ⟨x, hx⟩ := get_some hlt
      obtain ⟨b, o, rfl, _, c0⟩ := (Hxc.out.gr hg) n x hx
      have HX := hid (drop_cons hx); clear hx
      cases hb : (x == a0)
      · have hne : x ≠ a0 := by simpa using hb
        have Hne := hid hne; clear hne
        go_wp2_with fail
        go_quiet (fail)
        go_wp2_with fail
        refine ⟨⟨n + 1, k, by omega, by go_num, rfl, by omega, ?_, hg.drewN _⟩, by simp [intOf]; omega⟩
        rw [← HR.out, HX.out, countB, if_neg Hne.out]; omega
      · have heq : x = a0 := by simpa using hb
        have Heq := hid heq; clear heq
        go_wp2_with fail
        go_quiet (fail)
        go_wp2_with fail
        refine ⟨⟨n + 1, k + 1, by omega, by go_num, by go_num, by omega, ?_, hg.drewN _⟩, by simp [intOf]; omega⟩
        rw [← HR.out, HX.out, countB, if_pos Heq.out]; omega
    · have hk' : (k : Int) = countB a0 xs := by
        have := HR.out; rw [drop_end (by omega)] at this; simpa [countB] using this
      have HK := hid hk'; clear hk'
      go_wp2_with fail
      go_ret
      refine ⟨ret_bool ?_, hg0.trans hg⟩
      unfold satB
      rw [if_neg (by have := Hk.out; omega), if_neg (by have := Hk.out; omega), if_neg (by have := Hk.out; omega), if_neg (by have := Hk.out; omega), if_neg (by have := Hk.out; omega), if_pos Hk.out, HE.out, ← HK.out]
set_option maxHeartbeats 800000 in
theorem sps7_c (c : Con) (xs : List Int) (cv xv : Value) (w : World) (hv : ConV [] w cv c) (hx : Nums [] w .i64 xv xs) (hF : Fit c xs) (hk : c.kind = 7) :
    Calls Tryz.prog 78 #[cv, xv] w fun e w' => e = .returned (.bool (satB c xs)) ∧ Gr [] w w' := by
  obtain ⟨vv, av, rv, rfl, hvv, hav, hrv⟩ := hv
  have hx' := hx
  obtain ⟨xo, xc, rfl, _, _⟩ := hx
  have hg0 : Gr [] w (w.alloc (.cells #[.int .i64 c.kind, vv, av, .int .i64 c.bound, rv] 26)) := (Gr.refl _ _).alloc _
  have hb0 : (w.alloc (.cells #[.int .i64 c.kind, vv, av, .int .i64 c.bound, rv] 26)).heap[w.heap.size]? = some (.cells #[.int .i64 c.kind, vv, av, .int .i64 c.bound, rv] 26 (0, 0)) := heap_alloc_new _ _
  have Hx := hid (hx'.gr hg0); have Hav := hid (hav.gr hg0); have Hrv := hid (hrv.gr hg0)
  have Hcv : Hid (ConV [] (w.alloc (.cells #[.int .i64 c.kind, vv, av, .int .i64 c.bound, rv] 26)) (.agg #[.int .i64 c.kind, vv, av, .int .i64 c.bound, rv]) c) := hid (ConV.gr ⟨vv, av, rv, rfl, hvv, hav, hrv⟩ hg0)
  have hfit := hF.fits; have Hxl := hid hF.len; have h1 := hF.k1; have h4 := hF.k4; have hval := hF.val
  clear hF hx'
  have t1 : (c.kind == 1) = false := by rw [hk]; rfl
  have t2 : (c.kind == 2) = false := by rw [hk]; rfl
  have t3 : (c.kind == 3) = false := by rw [hk]; rfl
  have t4 : (c.kind == 4) = false := by rw [hk]; rfl
  have t5 : (c.kind == 5) = false := by rw [hk]; rfl
  have t6 : (c.kind == 6) = false := by rw [hk]; rfl
  have t7 : (c.kind == 7) = true := by rw [hk]; rfl
  have hfl := fld hb0
  have Hb0 := hid hb0; have Hval := hid hval; have Hfit := hid hfit; have Hk := hid hk
  clear hb0 hval hfit hk
  have hf := Hfit.out
  rw [fitsB_7 Hk.out] at hf
  simp only [argsB, eqI, Bool.and_eq_true, beq_iff_eq] at hf
  obtain ⟨⟨⟨ha1, hab⟩, q1⟩, q2⟩ := hf
  clear q1 q2
  have Hal : Hid (c.args.length = 2 * xs.length) := hid (by have := Hxl.out; omega)
  have Hab := hid (allB_iff.1 hab)
  clear ha1 hab
  go_enter Tryz.func78, Tryz.ntmps78
  go_wp2_with fail
  refine (withinCapacity_c c xs _ _ _ Hcv.out Hx.out Hval.out Hal.out h4 Hab.out).mono ?_
  rintro e w1 ⟨rfl, hg1⟩
  go_wp2_with fail
  go_ret
  refine ⟨ret_bool ?_, hg0.trans hg1⟩
  unfold satB
  rw [if_neg (by have := Hk.out; omega), if_neg (by have := Hk.out; omega), if_neg (by have := Hk.out; omega), if_neg (by have := Hk.out; omega), if_neg (by have := Hk.out; omega), if_neg (by have := Hk.out; omega), if_pos Hk.out]
set_option maxHeartbeats 800000 in
theorem sps8_c (c : Con) (xs : List Int) (cv xv : Value) (w : World) (hv : ConV [] w cv c) (hx : Nums [] w .i64 xv xs) (hF : Fit c xs) (hk : c.kind = 8) :
    Calls Tryz.prog 78 #[cv, xv] w fun e w' => e = .returned (.bool (satB c xs)) ∧ Gr [] w w' := by
  obtain ⟨vv, av, rv, rfl, hvv, hav, hrv⟩ := hv
  have hx' := hx
  obtain ⟨xo, xc, rfl, _, _⟩ := hx
  have hg0 : Gr [] w (w.alloc (.cells #[.int .i64 c.kind, vv, av, .int .i64 c.bound, rv] 26)) := (Gr.refl _ _).alloc _
  have hb0 : (w.alloc (.cells #[.int .i64 c.kind, vv, av, .int .i64 c.bound, rv] 26)).heap[w.heap.size]? = some (.cells #[.int .i64 c.kind, vv, av, .int .i64 c.bound, rv] 26 (0, 0)) := heap_alloc_new _ _
  have Hx := hid (hx'.gr hg0); have Hav := hid (hav.gr hg0); have Hrv := hid (hrv.gr hg0)
  have Hcv : Hid (ConV [] (w.alloc (.cells #[.int .i64 c.kind, vv, av, .int .i64 c.bound, rv] 26)) (.agg #[.int .i64 c.kind, vv, av, .int .i64 c.bound, rv]) c) := hid (ConV.gr ⟨vv, av, rv, rfl, hvv, hav, hrv⟩ hg0)
  have hfit := hF.fits; have Hxl := hid hF.len; have h1 := hF.k1; have h4 := hF.k4; have hval := hF.val
  clear hF hx'
  have t1 : (c.kind == 1) = false := by rw [hk]; rfl
  have t2 : (c.kind == 2) = false := by rw [hk]; rfl
  have t3 : (c.kind == 3) = false := by rw [hk]; rfl
  have t4 : (c.kind == 4) = false := by rw [hk]; rfl
  have t5 : (c.kind == 5) = false := by rw [hk]; rfl
  have t6 : (c.kind == 6) = false := by rw [hk]; rfl
  have t7 : (c.kind == 7) = false := by rw [hk]; rfl
  have t8 : (c.kind == 8) = true := by rw [hk]; rfl
  have hfl := fld hb0
  have Hb0 := hid hb0; have Hval := hid hval; have Hfit := hid hfit; have Hk := hid hk
  clear hb0 hval hfit hk
  have hf := Hfit.out
  rw [fitsB_8 Hk.out] at hf
  simp only [Bool.and_eq_true] at hf
  have Hrows := hid hf.1.1.1
  clear hf
  go_enter Tryz.func78, Tryz.ntmps78
  go_wp2_with fail
  refine (specAccepts_c c xs _ _ _ Hcv.out Hx.out Hval.out Hrows.out).mono ?_
  rintro e w1 ⟨rfl, hg1⟩
  go_wp2_with fail
  go_ret
  refine ⟨ret_bool ?_, hg0.trans hg1⟩
  unfold satB
  rw [if_neg (by have := Hk.out; omega), if_neg (by have := Hk.out; omega), if_neg (by have := Hk.out; omega), if_neg (by have := Hk.out; omega), if_neg (by have := Hk.out; omega), if_neg (by have := Hk.out; omega), if_neg (by have := Hk.out; omega), if_pos Hk.out]
set_option maxHeartbeats 800000 in
theorem sps9_c (c : Con) (xs : List Int) (cv xv : Value) (w : World) (hv : ConV [] w cv c) (hx : Nums [] w .i64 xv xs) (hF : Fit c xs) (hk : c.kind = 9) :
    Calls Tryz.prog 78 #[cv, xv] w fun e w' => e = .returned (.bool (satB c xs)) ∧ Gr [] w w' := by
  obtain ⟨vv, av, rv, rfl, hvv, hav, hrv⟩ := hv
  have hx' := hx
  obtain ⟨xo, xc, rfl, _, _⟩ := hx
  have hg0 : Gr [] w (w.alloc (.cells #[.int .i64 c.kind, vv, av, .int .i64 c.bound, rv] 26)) := (Gr.refl _ _).alloc _
  have hb0 : (w.alloc (.cells #[.int .i64 c.kind, vv, av, .int .i64 c.bound, rv] 26)).heap[w.heap.size]? = some (.cells #[.int .i64 c.kind, vv, av, .int .i64 c.bound, rv] 26 (0, 0)) := heap_alloc_new _ _
  have Hx := hid (hx'.gr hg0); have Hav := hid (hav.gr hg0); have Hrv := hid (hrv.gr hg0)
  have Hcv : Hid (ConV [] (w.alloc (.cells #[.int .i64 c.kind, vv, av, .int .i64 c.bound, rv] 26)) (.agg #[.int .i64 c.kind, vv, av, .int .i64 c.bound, rv]) c) := hid (ConV.gr ⟨vv, av, rv, rfl, hvv, hav, hrv⟩ hg0)
  have hfit := hF.fits; have Hxl := hid hF.len; have h1 := hF.k1; have h4 := hF.k4; have hval := hF.val
  clear hF hx'
  have t1 : (c.kind == 1) = false := by rw [hk]; rfl
  have t2 : (c.kind == 2) = false := by rw [hk]; rfl
  have t3 : (c.kind == 3) = false := by rw [hk]; rfl
  have t4 : (c.kind == 4) = false := by rw [hk]; rfl
  have t5 : (c.kind == 5) = false := by rw [hk]; rfl
  have t6 : (c.kind == 6) = false := by rw [hk]; rfl
  have t7 : (c.kind == 7) = false := by rw [hk]; rfl
  have t8 : (c.kind == 8) = false := by rw [hk]; rfl
  have hfl := fld hb0
  have Hb0 := hid hb0; have Hval := hid hval; have Hfit := hid hfit; have Hk := hid hk
  clear hb0 hval hfit hk
  go_enter Tryz.func78, Tryz.ntmps78
  go_wp2_with fail
  refine (isCircuit_c xs _ _ Hx.out ⟨h1, h4⟩ Hval.out).mono ?_
  rintro e w1 ⟨rfl, hg1⟩
  go_wp2_with fail
  go_ret
  refine ⟨ret_bool ?_, hg0.trans hg1⟩
  unfold satB
  rw [if_neg (by have := Hk.out; omega), if_neg (by have := Hk.out; omega), if_neg (by have := Hk.out; omega), if_neg (by have := Hk.out; omega), if_neg (by have := Hk.out; omega), if_neg (by have := Hk.out; omega), if_neg (by have := Hk.out; omega), if_neg (by have := Hk.out; omega)]
theorem satisfies_c (c : Con) (xs : List Int) (cv xv : Value) (w : World) (hv : ConV [] w cv c) (hx : Nums [] w .i64 xv xs) (hF : Fit c xs) :
    Calls Tryz.prog 78 #[cv, xv] w fun e w' => e = .returned (.bool (satB c xs)) ∧ Gr [] w w' := by
  by_cases h0 : 1 ≤ c.kind ∧ c.kind ≤ 9
  · have : c.kind = 1 ∨ c.kind = 2 ∨ c.kind = 3 ∨ c.kind = 4 ∨ c.kind = 5 ∨ c.kind = 6 ∨ c.kind = 7 ∨ c.kind = 8 ∨ c.kind = 9 := by omega
    rcases this with h | h | h | h | h | h | h | h | h
    · exact sps1_c c xs cv xv w hv hx hF h
    · exact sps2_c c xs cv xv w hv hx hF h
    · exact sps3_c c xs cv xv w hv hx hF h
    · exact sps4_c c xs cv xv w hv hx hF h
    · exact sps5_c c xs cv xv w hv hx hF h
    · exact sps6_c c xs cv xv w hv hx hF h
    · exact sps7_c c xs cv xv w hv hx hF h
    · exact sps8_c c xs cv xv w hv hx hF h
    · exact sps9_c c xs cv xv w hv hx hF h
  · have := hF.fits
    rw [fitsB_0 h0] at this
    cases this
end Go.Proofs.YtmonhpoogfdpoaaGreat
