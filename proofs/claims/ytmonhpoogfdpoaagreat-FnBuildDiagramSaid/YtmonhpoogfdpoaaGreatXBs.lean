/-
  Walks of the reference's layers: suffixes, equalTuples, nextLayer.
-/
import Derived.Test.YtmonhpoogfdpoaaGreatXBq
import Derived.Test.YtmonhpoogfdpoaaGreatXM1
set_option linter.unusedVariables false
set_option linter.unusedSimpArgs false
namespace Go.Proofs.YtmonhpoogfdpoaaGreat
open Go.RowKit

theorem sufs_snoc {xs : SS} {n : Nat} {t : List Int} (h : xs[n]? = some t) (v : Int) : sufs (xs.take (n + 1)) v = sufs (xs.take n) v ++ (if t.head? = some v then [t.tail] else []) := by
  unfold sufs
  rw [List.take_add_one, h, Option.toList_some, List.filter_append, List.map_append]
  congr 1
  by_cases e : t.head? = some v
  · rw [if_pos e]; simp [e]
  · rw [if_neg e]
    have : (t.head? == some v) = false := by simpa using e
    simp [this]
structure SfI (X : List Nat) (xs : SS) (v : Int) (w : World) (n : Nat) (us : List Value) (outv : Value) (wr : World) : Prop where
  gr : Gr [] w wr
  ow : OwnV 1 w.heap.size wr 23 outv (us.map fun u => [u])
  ul : us.length = (sufs (xs.take n) v).length
  el : ∀ (j : Nat) u r, us[j]? = some u → (sufs (xs.take n) v)[j]? = some r → Nums (X ++ outv.ownBlock.toList) wr .i64 u r
theorem sufs_len (xs : SS) (v : Int) : (sufs xs v).length ≤ xs.length := by
  unfold sufs; rw [List.length_map]; exact List.length_filter_le _ _
set_option maxRecDepth 100000 in
set_option maxHeartbeats 2000000 in
theorem suffixes_c (X : List Nat) (xs : SS) (xv : Value) (v : Int) (w : World) (hx : RowsV X w xv xs) (hX : ∀ b ∈ X, b < w.heap.size) (hne : ∀ t ∈ xs, t ≠ []) (hl : xs.length ≤ 10000) :
    Calls Tryz.prog 54 #[xv, .int .i64 v] w fun e w' => ∃ u, e = .returned u ∧ RowsV X w' u (sufs xs v) ∧ Gr [] w w' := by
  have Hx := hid hx; have HX := hid hX; have Hne := hid hne
  obtain ⟨xo, xc, rfl, ⟨h1, h2, -⟩, -⟩ := hx
  have HI0 : Hid (SfI X xs v w 0 [] (.slice (some ⟨w.heap.size, 0, none⟩) 0 0) (w.alloc (.cells #[] 23))) := hid ⟨(Gr.refl _ _).alloc _, OwnV.empty w _ (Nat.le_refl _), by simp [sufs], by simp⟩
  clear hX hne
  go_enter Tryz.func54, Tryz.ntmps54
  go_wp2_with fail
  go_loopw [5, 6] (fun outv i wr => ∃ (n : Nat) (us : List Value), n ≤ xs.length ∧ i = .int .i64 n ∧ SfI X xs v w n us outv wr) (fun _ i _ => xs.length - (intOf i).toNat)
  case atStart => exact ⟨0, [], by omega, rfl, HI0.out⟩
  case round =>
    obtain ⟨n, us, hn, rfl, hI⟩ := hrel
    have HI := hid hI
    obtain ⟨oo, oc, hov, hoc⟩ := hI.ow.form
    rw [List.length_map] at hov hoc
    subst hov
    clear hI
    by_cases hlt : n < xs.length
    · obtain ⟨t, ht⟩ := get_some hlt
      have hxr : RowsV (X ++ (Value.slice oo us.length oc).ownBlock.toList) wr (.slice xo xs.length xc) xs :=
        (Hx.out.sub (fun b hb hm => by
          rcases List.mem_append.1 hm with hm | hm
          · exact hm
          · have := (HI.out.ow.own (Option.mem_toList.1 hm)).1; omega)).gr HI.out.gr.any
      obtain ⟨b, o, uo, uc, rfl, -, hcell, ⟨hu1, hu2⟩, hnum⟩ := hxr.at3 ht
      have htn := Hne.out t (List.mem_of_getElem? ht)
      obtain ⟨a, r, rfl⟩ : ∃ a r, t = a :: r := by
        cases t with
        | nil => exact absurd rfl htn
        | cons a r => exact ⟨a, r, rfl⟩
      obtain ⟨b2, o2, rfl, -, hc2⟩ := hnum.at (i := 0) (x := a) rfl
      obtain ⟨L, hL⟩ : ∃ L, L = (a :: r).length := ⟨_, rfl⟩
      have hL1 : 1 ≤ L := by rw [hL]; simp
      rw [← hL] at hcell hu1 hnum
      have HL := hid hL; have Hnum := hid hnum; have Ht := hid ht
      have hsn := sufs_snoc ht v
      simp only [List.head?_cons, Option.some.injEq, List.tail_cons] at hsn
      have Hsn := hid hsn
      clear hL hnum ht htn hxr hsn
      rw [Nat.add_zero] at hc2
      cases hav : (a == v)
      · have hne' : ¬ a = v := by simpa using hav
        have Hn := hid hne'
        clear hne'
        go_wp2_with fail
        refine ⟨⟨n + 1, us, by omega, by go_num, ⟨HI.out.gr, HI.out.ow, ?_, ?_⟩⟩, by simp [intOf]; omega⟩
        · rw [Hsn.out, if_neg Hn.out, List.append_nil]; exact HI.out.ul
        · rw [Hsn.out, if_neg Hn.out, List.append_nil]; exact HI.out.el
      · have hee : a = v := by simpa using hav
        have He := hid hee
        clear hee
        obtain ⟨ad, had, hnr⟩ : ∃ ad, (if uc = 1 then some (⟨b2, o2, none⟩ : Addr) else some ⟨b2, o2 + 1, none⟩) = some ad ∧ Nums (X ++ (Value.slice oo us.length oc).ownBlock.toList) wr .i64 (.slice (some ad) (L - 1) (uc - 1)) r := by
          have hr : r.length = L - 1 := by rw [HL.out]; simp
          obtain ⟨ao, cap, e, -, hc⟩ := Hnum.out
          cases e
          by_cases h1 : uc = 1
          · refine ⟨_, if_pos h1, ⟨_, _, by rw [hr], ⟨by omega, by omega, by simp⟩, fun i x hi => ?_⟩⟩
            have := (List.getElem?_eq_some_iff.1 hi).1; omega
          · refine ⟨_, if_neg h1, ⟨_, _, by rw [hr], ⟨by omega, by omega, by simp⟩, fun i x hi => ?_⟩⟩
            obtain ⟨b3, o3, e3, hs3, hc3⟩ := hc (i + 1) x (by simpa using hi)
            cases e3
            exact ⟨b2, o2 + 1, rfl, hs3, by rw [Nat.add_assoc, Nat.add_comm 1 i]; exact hc3⟩
        have Hnr := hid hnr
        clear hnr
        have hus : us.length ≤ 10000 := by
          have h1 := HI.out.ul; have h2 := sufs_len (xs.take n) v
          rw [List.length_take] at h2; omega
        go_wp2_with (at_builtin; refine wp_appV rfl _ _ 24 rfl 1 w.heap.size 23 _ 24 infoRw rfl (by omega) (by omega) Tryz.underlying24 _ (us.map fun u => [u]) rfl (HI.out.ow.gr ((Gr.refl _ _).alloc _)) _ 1 [.slice (some ad) (L - 1) (uc - 1)] rfl rfl (by simp [Value.oneCell']) (fun j u hj => by match j, hj with | 0, hj => (simp at hj; subst hj; exact cell_new _ _ _) | j + 1, hj => simp at hj) (by rw [List.length_map]; omega) (by have := HI.out.gr.size; simp; omega) ?_; intro g4 c4 w4 hown4 hg4 hwh4 hlt4)
        have hgal : Gr [] wr (wr.alloc (.cells #[.slice (some ad) (L - 1) (uc - 1)] 23)) := (Gr.refl _ _).alloc _
        have hsA := hgal.size
        have hg4' : Gr (Value.slice oo us.length oc).ownBlock.toList wr w4 := hgal.any.trans hg4
        have hmvT : ∀ t ∈ (Value.slice oo us.length oc).ownBlock.toList, t ∈ X ++ (Value.slice oo us.length oc).ownBlock.toList ∨ wr.heap.size ≤ t := fun t ht => .inl (List.mem_append.2 (.inr ht))
        have hmvL : ∀ b ∈ X ++ (Value.slice (some ⟨g4, 0, none⟩) (us.length + 1) c4).ownBlock.toList, b ∈ X ++ (Value.slice oo us.length oc).ownBlock.toList ∨ wr.heap.size ≤ b := fun b hb => by
          rcases List.mem_append.1 hb with hb | hb
          · exact .inl (List.mem_append.2 (.inl hb))
          · rw [ob] at hb
            simp only [Option.toList_some, List.mem_singleton] at hb
            subst hb
            rcases hwh4 with h | h
            · exact .inl (List.mem_append.2 (.inr (Option.mem_toList.2 h)))
            · exact .inr (by omega)
        rw [List.length_map] at hown4
        refine ⟨⟨n + 1, us ++ [.slice (some ad) (L - 1) (uc - 1)], by omega, by go_num, ⟨HI.out.gr.step hg4' fun t ht => .inr (HI.out.ow.own (Option.mem_toList.1 ht)).1, by simpa using hown4, ?_, ?_⟩⟩, by simp [intOf]; omega⟩
        · rw [Hsn.out, if_pos He.out, List.length_append, List.length_append, HI.out.ul]; rfl
        · rw [Hsn.out, if_pos He.out]
          exact get_snoc HI.out.ul (fun j u r hu hr => (HI.out.el j u r hu hr).mv hg4' hmvT hmvL) (Hnr.out.mv hg4' hmvT hmvL)
    · have hn' : n = xs.length := by omega
      subst hn'
      have Hfin := hid HI.out
      go_wp2_with fail
      go_ret
      have hf := Hfin.out
      refine ⟨_, rfl, ?_, hf.gr⟩
      have hul := hf.ul
      have hel := hf.el
      rw [List.take_length] at hul hel
      exact hf.ow.rows hul (fun b hb hx => by have := (hf.ow.own hb).1; have := HX.out b hx; omega) fun j u r hu hr => (hel j u r hu hr).sub (fun b _ hb => List.mem_append.2 (.inl hb))

theorem equalTuples_c (xs ys : SS) (xv yv : Value) (w : World) (hx : RowsV [] w xv xs) (hy : RowsV [] w yv ys) :
    Calls Tryz.prog 55 #[xv, yv] w fun e w' => e = .returned (.bool (decide (xs = ys))) ∧ Gr [] w w' := by
  have Hx := hid hx; have Hy := hid hy
  obtain ⟨xo, xc, rfl, ⟨hx1, hx2, _⟩, _⟩ := hx
  obtain ⟨yo, yc, rfl, ⟨hy1, hy2, _⟩, _⟩ := hy
  by_cases hl : xs.length = ys.length
  · have hlb : ((xs.length : Int) != (ys.length : Int)) = false := by simp [hl]
    have HL := hid hl
    clear hl
    go_enter Tryz.func55, Tryz.ntmps55
    go_wp2_with fail
    go_loopw [5] (fun i wr => ∃ n : Nat, n ≤ xs.length ∧ i = .int .i64 n ∧ xs.take n = ys.take n ∧ Gr [] w wr) (fun i _ => xs.length - (intOf i).toNat)
    case atStart => exact ⟨0, Nat.zero_le _, rfl, rfl, Gr.refl _ _⟩
    case round =>
      obtain ⟨n, hn, rfl, ht, hg⟩ := hrel
      have Ht := hid ht; clear ht
      by_cases hlt : n < xs.length
      · have hlt2 : n < ys.length := by have := HL.out; omega
        obtain ⟨x, hx⟩ := get_some hlt
        obtain ⟨y, hy⟩ := get_some hlt2
        obtain ⟨b1, o1, uo1, uc1, rfl, -, hc1, -, hn1⟩ := (Hx.out.gr hg).at3 hx
        obtain ⟨b2, o2, uo2, uc2, rfl, -, hc2, -, hn2⟩ := (Hy.out.gr hg).at3 hy
        have e1 : ∀ k : GrW [] wr, k.val.cell? ⟨b1, o1 + n, none⟩ = some (.slice uo1 x.length uc1) := fun k => k.gr.cell hc1 (by simp)
        have e2 : ∀ k : GrW [] wr, k.val.cell? ⟨b2, o2 + n, none⟩ = some (.slice uo2 y.length uc2) := fun k => k.gr.cell hc2 (by simp)
        have Hn1 := hid hn1; have Hn2 := hid hn2; have Hg := hid hg; have Hxx := hid hx; have Hyy := hid hy
        clear hx hy hn1 hn2 hg hc1 hc2
        have hsx : xs.take (n + 1) = xs.take n ++ [x] := by rw [List.take_add_one, Hxx.out]; rfl
        have hsy : ys.take (n + 1) = ys.take n ++ [y] := by rw [List.take_add_one, Hyy.out]; rfl
        have Hsx := hid hsx; have Hsy := hid hsy
        clear hsx hsy
        have HC : Hid (∀ W, Gr [] wr W → Calls Tryz.prog 81 #[.slice uo1 x.length uc1, .slice uo2 y.length uc2] W fun e w' => e = .returned (.bool (decide (x = y))) ∧ Gr [] W w') := hid fun W h => equalInts_c x y _ _ W (Hn1.out.gr h) (Hn2.out.gr h)
        cases hxy : decide (x = y)
        · rw [hxy] at HC
          have Hxy := hid hxy
          clear hxy
          go_wp2_with fail
          refine wp_region_gr [] _ (by kernel_rfl) (by kernel_rfl) (Gr.refl _ _) ?_
          repeat (go_big_quiet_step ((go_at_call 81; exact Calls.gr_of (HC.out _ (GrW.gr _)))))
          refine wpQuiet_nil ?_
          rintro w7 ⟨n7, hw7⟩
          have hg7 : Gr [] wr w7 := hw7 ▸ n7.gr
          clear hw7 n7 e1 e2
          go_wp2_with fail
          go_ret
          have hne : ¬ xs = ys := fun e => by
            have h1 := Hxx.out
            rw [e, Hyy.out] at h1
            have := of_decide_eq_false Hxy.out
            exact this (Option.some.inj h1).symm
          exact ⟨ret_bool (by rw [decide_eq_false hne]), Hg.out.trans hg7⟩
        · rw [hxy] at HC
          have Hxy := hid hxy
          clear hxy
          go_wp2_with fail
          refine wp_region_gr [] _ (by kernel_rfl) (by kernel_rfl) (Gr.refl _ _) ?_
          repeat (go_big_quiet_step ((go_at_call 81; exact Calls.gr_of (HC.out _ (GrW.gr _)))))
          refine wpQuiet_nil ?_
          rintro w7 ⟨n7, hw7⟩
          have hg7 : Gr [] wr w7 := hw7 ▸ n7.gr
          clear hw7 n7 e1 e2
          go_wp2_with fail
          refine ⟨⟨n + 1, by omega, by go_num, ?_, Hg.out.trans hg7⟩, by simp [intOf]; omega⟩
          rw [Hsx.out, Hsy.out, Ht.out, of_decide_eq_true Hxy.out]
      · have hn' : n = xs.length := by omega
        have Hn := hid hn'
        clear hn'
        go_wp2_with fail
        go_ret
        refine ⟨ret_bool ?_, hg⟩
        have h1 := Ht.out
        rw [Hn.out, List.take_length, HL.out, List.take_length] at h1
        rw [decide_eq_true h1]
  · have hlb : ((xs.length : Int) != (ys.length : Int)) = true := by simp; omega
    have hne : ¬ xs = ys := fun e => hl (by rw [e])
    have Hne := hid hne
    clear hl hne
    go_enter Tryz.func55, Tryz.ntmps55
    go_wp2_with fail
    go_ret
    exact ⟨ret_bool (by rw [decide_eq_false Hne.out]), Gr.refl _ _⟩
end Go.Proofs.YtmonhpoogfdpoaaGreat
