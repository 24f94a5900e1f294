/-
  Walks: validity of a list of clauses, implied clauses: the program.
-/
import Derived.Test.YtpfelbbmgbfkeaaGreatWk
import Derived.Test.YtpfelbbmgbfkeaaGreatRl
set_option linter.unusedVariables false
set_option linter.unusedSimpArgs false
namespace Go.Proofs.YtpfelbbmgbfkeaaGreat
open Go.RowKit

/-- A list of clauses that may be a proof. -/
def clsB (n : Int) (cls : List Cls) : Bool := decide (cls.length ≤ 200) && cls.all fun c => validCl c n
theorem clsB_ok {n : Nat} {cls : List Cls} (h : clsB n cls = true) : KOk cls n := by
  unfold clsB at h
  rw [Bool.and_eq_true, decide_eq_true_eq, List.all_eq_true] at h
  refine ⟨fun c hc => ?_, fun c hc => ?_, by omega⟩
  · have := h.2 c hc
    unfold validCl at this
    rw [Bool.and_eq_true] at this
    exact (validClS_iff.1 this.2).1
  · have := h.2 c hc
    unfold validCl at this
    rw [Bool.and_eq_true] at this
    have := (validClS_iff.1 this.2).2.2
    omega
/-- What IsImplied answers. -/
def implB (m : Mod) (D : List Nat) (cls : List Cls) (c : Cls) : Bool := validM m && (clsB m.doms.length cls && (validCl c m.doms.length && refB m.cons cls (restL D (negsL c))))
theorem litOk_negL {n : Int} {l : Lit} : litOk n (negL l) = litOk n l := rfl
theorem negs_ok {n : Int} {c : Cls} (h : ∀ l ∈ c, litOk n l = true) : ∀ l ∈ negsL c, litOk n l = true := fun l hl => by
  have := h _ (mem_negsL.1 hl)
  rwa [litOk_negL] at this
/-- slices.IndexFunc over clauses. -/
theorem idxK_c (cs : List Cls) (p : Cls → Bool) (v : Value) (k : Nat) (C : Array Value) (w : World) (hv : ClsV [] w v cs)
    (hk : ∀ args w, (callFunc k args).run Tryz.prog w = .ok (.enter k args) w)
    (hf : ∀ c cv w1, c ∈ cs → Gr [] w w1 → LitsV [] w1 cv c → Calls Tryz.prog k (#[cv] ++ C) w1 fun e w2 => e = .returned (.bool (p c)) ∧ Gr [] w1 w2) :
    Calls Tryz.prog 171 #[v, .func (.func k) #[] C] w fun e w' => (∃ i : Int, e = .returned (.int .i64 i) ∧ (0 ≤ i ↔ anyG p cs = true)) ∧ Gr [] w w' := by
  obtain ⟨ao, cap, rfl, ⟨hlc, hcm, _⟩, hc⟩ := hv
  have hlen : cs.length ≤ 9223372036854775807 := by omega
  have Hf := hid hf; clear hf
  have Hc : Hid (ClsV [] w (.slice ao cs.length cap) cs) := hid ⟨_, _, rfl, ⟨hlc, hcm, by assumption⟩, hc⟩; clear hc
  go_enter Tryz.func171, Tryz.ntmps171
  go_wp2_with fail
  go_loopw [8] (fun i wr => ∃ n : Nat, n ≤ cs.length ∧ i = .int .i64 n ∧ (∀ (j : Nat) x, j < n → cs[j]? = some x → p x = false) ∧ Gr [] w wr) (fun i _ => cs.length - (intOf i).toNat)
  case atStart => exact ⟨0, Nat.zero_le _, rfl, by intro j x hj; omega, Gr.refl _ _⟩
  case round =>
    obtain ⟨n, hn, rfl, hp, hg⟩ := hrel
    have HP := hid hp; clear hp
    by_cases hlt : n < cs.length
    · obtain ⟨c, hx⟩ := get_some hlt
      obtain ⟨b, o, vo, vc, rfl, hs, h0, hlv⟩ := (Hc.out.gr hg).at hx
      have HX := hid hx; clear hx
      have Hlv := hid hlv; clear hlv
      go_wp2_with fail
      refine (Hf.out c _ _ (List.mem_of_getElem? HX.out) hg Hlv.out).mono ?_
      rintro e w2 ⟨rfl, hg2⟩
      cases hb : p c
      all_goals go_wp2_with fail
      · exact ⟨⟨n + 1, by omega, by go_num, below_snoc HP.out HX.out hb, hg.trans hg2⟩, by simp [intOf]; omega⟩
      · go_ret
        exact ⟨⟨n, rfl, ⟨fun _ => anyG_true HX.out hb, fun _ => by omega⟩⟩, hg.trans hg2⟩
    · go_wp2_with fail
      go_ret
      refine ⟨⟨-1, rfl, ⟨fun h => by omega, fun h => ?_⟩⟩, hg⟩
      rw [anyG_false (fun j x hj => HP.out j x (by omega))] at h; cases h
theorem containsK_c (cs : List Cls) (p : Cls → Bool) (v : Value) (k : Nat) (C : Array Value) (w : World) (hv : ClsV [] w v cs)
    (hk : ∀ args w, (callFunc k args).run Tryz.prog w = .ok (.enter k args) w)
    (hf : ∀ c cv w1, c ∈ cs → Gr [] w w1 → LitsV [] w1 cv c → Calls Tryz.prog k (#[cv] ++ C) w1 fun e w2 => e = .returned (.bool (p c)) ∧ Gr [] w1 w2) :
    Calls Tryz.prog 136 #[v, .func (.func k) #[] C] w fun e w' => e = .returned (.bool (anyG p cs)) ∧ Gr [] w w' := by
  have Hf := hid hf; clear hf
  have Hk := hid hk; clear hk
  go_enter Tryz.func136, Tryz.ntmps136
  go_wp2_with fail
  refine (idxK_c cs p v k C _ hv Hk.out Hf.out).mono ?_
  rintro e w' ⟨⟨i, rfl, hi⟩, hg⟩
  have Hi := hid hi; clear hi
  go_wp2_with fail
  go_ret
  exact ⟨ret_bool (by rw [Bool.eq_iff_iff, ← Hi.out]; simp), hg⟩
theorem proofOkLit_c (c : Cls) (n : Int) (cv : Value) (b : Nat) (w : World) (hc : LitsV [] w cv c) (hl : c.length ≤ 2000000) (hn : I64 n) (hb : w.heap[b]? = some (.cells #[.int .i64 n] 3 (0, 0))) :
    Calls Tryz.prog 137 #[cv, .pointer (some ⟨b, 0, none⟩)] w fun e w' => e = .returned (.bool (!validCl c n)) ∧ Gr [] w w' := by
  have Hc := hid hc; have Hn := hid hn
  have fb := fld hb
  clear hc hb hn
  go_enter Tryz.func137, Tryz.ntmps137
  go_wp2_with fail
  have hcall := ValidClause_c c n _ _ Hc.out hl Hn.out
  (with_reducible refine hcall.mono ?_)
  clear hcall
  rintro e w1 ⟨rfl, hg1⟩
  go_wp2_with fail
  go_ret
  exact ⟨rfl, hg1⟩
theorem proofOk_c (cls : List Cls) (n : Int) (kv : Value) (w : World) (hk : ClsV [] w kv cls) (hl : ∀ c ∈ cls, c.length ≤ 2000000) (hn : I64 n) :
    Calls Tryz.prog 86 #[.int .i64 n, kv] w fun e w' => e = .returned (.bool (clsB n cls)) ∧ Gr [] w w' := by
  have Hk := hid hk; have Hl := hid hl; have Hn := hid hn
  obtain ⟨ko, kc, rfl, ⟨hk1, hk2⟩⟩ := hk.slice
  have hg0 : Gr [] w (w.alloc (.cells #[.int .i64 n] 3)) := (Gr.refl _ _).alloc _
  have Hb0 := hid (heap_alloc_new w (.cells #[.int .i64 n] 3))
  have Hg0 := hid hg0
  clear hk hl hn hg0
  by_cases h2 : cls.length ≤ 200
  · have t2 : decide ((cls.length : Int) ≤ 200) = true := by simp; omega
    go_enter Tryz.func86, Tryz.ntmps86
    go_wp2_with fail
    have hcall := containsK_c cls (fun c => !validCl c n) _ 137 #[.pointer (some ⟨w.heap.size, 0, none⟩)] _ (Hk.out.gr Hg0.out) (fun _ _ => by kernel_rfl) (fun c cv w1 hm hg1 hcv => proofOkLit_c c n cv _ w1 hcv (Hl.out c hm) Hn.out (hg1.obj Hb0.out (by simp)))
    (with_reducible refine hcall.mono ?_)
    clear hcall
    rintro e w3 ⟨rfl, hg3⟩
    go_wp2_with fail
    go_ret
    exact ⟨ret_bool (by unfold clsB anyG; rw [decide_eq_true h2, List.all_eq_not_any_not]; simp), Hg0.out.trans hg3⟩
  · have t2 : decide ((cls.length : Int) ≤ 200) = false := by simp; omega
    go_enter Tryz.func86, Tryz.ntmps86
    go_wp2_with fail
    go_ret
    exact ⟨ret_bool (by unfold clsB; rw [decide_eq_false h2]; rfl), Hg0.out⟩

set_option maxRecDepth 100000 in
set_option maxHeartbeats 4000000 in
theorem implied_c (m : Mod) (D : List Nat) (cls : List Cls) (c : Cls) (mv kv cv : Value) (w : World) (hv : ModV [] w mv m) (hD : VM m D) (hk : ClsV [] w kv cls) (hok : KOk cls D.length) (hc : LitsV [] w cv c) (hcv : validClS c D.length = true) :
    Calls Tryz.prog 87 #[mv, kv, cv] w fun e w' => e = .returned (.bool (refB m.cons cls (restL D (negsL c)))) ∧ Gr [] w w' := by
  obtain ⟨hc1, hc2, hc3⟩ := validClS_iff.1 hcv
  have Hv := hid hv; have HD := hid hD; have Hk := hid hk; have Hok := hid hok; have Hc := hid hc
  obtain ⟨mdv, mcv, rfl, hdv, _⟩ := hv
  obtain ⟨ko, kc, rfl, ⟨hk1, hk2⟩⟩ := hk.slice
  have hg0 : Gr [] w (w.alloc (.cells #[mdv, mcv] 26)) := (Gr.refl _ _).alloc _
  have hb0 := heap_alloc_new w (.cells #[mdv, mcv] 26)
  have Hdv := hid ((hdv.gr hg0)); have Hg0 := hid hg0
  have Hmv := hid (Hv.out.gr hg0); have Hkv := hid (hk.gr hg0); have Hcv := hid (hc.gr hg0)
  have Hnd := hid (asc_nodup hc2); have Hno := hid (negs_ok hc1)
  have hlen := negsL_len c
  have hdl := hD.len
  have hd0 : 0 < D.length := hdl.1
  have HrL := hid (restL_len (negsL c) D); have HrB := hid (restL_below (negsL c) hD.below)
  have Hb0 := hid hb0
  have hdm := hD.doms
  have hVr : VCs m.cons (restL D (negsL c)).length := by rw [restL_len]; exact hD.cons
  have hFl : (fixC m.cons cls (restL D (negsL c))).length = D.length := by rw [fixC_len hVr, restL_len]
  obtain ⟨x, hx⟩ := get_some (xs := fixC m.cons cls (restL D (negsL c))) (k := 0) (by rw [hFl]; omega)
  have HX := hid hx; have HFl := hid hFl
  have hrb : refB m.cons cls (restL D (negsL c)) = ((x : Int) == 0) := by
    unfold refB
    rw [List.getD_eq_getElem?_getD, hx, Bool.eq_iff_iff]
    simp
  rw [hrb]
  clear hVr hFl hx hrb
  have Hdm := hid hdm
  clear hk hok hc hb0 hg0 hdv hD hc1 hc2 hcv hdm
  go_enter Tryz.func87, Tryz.ntmps87
  go_wp2_with fail
  generalize hW : w.alloc (.cells #[mdv, mcv] 26) = w0 at *
  clear hW
  have f0 := fld Hb0.out
  have f0d := fld ((Gr.refl [] w0).drew.obj Hb0.out (by simp))
  go_region_law (first
    | (go_simp; go_at_call 139; refine (negations_c c _ _ (Hcv.out.gr (by first | exact (Gr.refl [] w0).drew | exact Gr.refl [] w0)) (by omega) Hnd.out).mono ?_; rintro e w5 ⟨v5, rfl, hn5, hg5⟩; have hgx : Gr [] w0 w5 := Gr.trans (by first | exact (Gr.refl [] w0).drew | exact Gr.refl [] w0) hg5; have HGX := hid hgx; have HN5 := hid hn5; have fb5 := fld (hgx.obj Hb0.out (by simp)); clear hg5 hgx hn5; (try dsimp only))
    | (go_simp; go_at_call 58; refine (restricted_c D (negsL c) _ _ _ (by rw [← Hdm.out]; exact Hdv.out.gr HGX.out) (HN5.out.lits (by simp)) Hno.out hdl HD.out.below (by omega)).mono ?_; rintro e w6 ⟨v6, rfl, ho6, hg6⟩; have HO6 := hid ho6; have HG6 := hid hg6; have fb6 := fld ((HGX.out.trans hg6).obj Hb0.out (by simp)); clear ho6 hg6; (try dsimp only))
    | (go_simp; go_at_call 138; refine (withClauses_c m cls (restL D (negsL c)) _ _ _ _ (Hmv.out.gr (HGX.out.trans HG6.out)) (Hkv.out.gr (HGX.out.trans HG6.out)) (HO6.out.nums' (by simp)) (by rw [HrL.out]; exact HD.out.cons) HrB.out (by rw [HrL.out]; exact hdl) (by rw [HrL.out]; exact Hok.out)).mono ?_; rintro e w7 ⟨v7, rfl, ho7, hg7⟩; obtain ⟨g7, c7, rfl⟩ := ho7.open (by rw [ints_len, HFl.out]; omega); obtain ⟨d1, d2⟩ := ho7.at (i := 0) (x := (x : Int)) (by rw [ints_get, HX.out]; rfl); rw [ints_len, HFl.out]; have HG7 := hid hg7; clear ho7 hg7 d2; (try dsimp only)))
  all_goals
    go_wp2_with fail
    go_ret
    exact ⟨rfl, Hg0.out.trans ((HGX.out.trans HG6.out).trans HG7.out)⟩

set_option maxRecDepth 100000 in
set_option maxHeartbeats 1000000 in
theorem IsImplied_c (m : Mod) (D : List Nat) (cls : List Cls) (c : Cls) (mv kv cv : Value) (w : World) (hv : ModV [] w mv m) (hD : validM m = true → VM m D) (hs : m.Small) (hk : ClsV [] w kv cls) (hl : ∀ c ∈ cls, c.length ≤ 2000000) (hc : LitsV [] w cv c) (hcl : c.length ≤ 2000000) :
    Calls Tryz.prog 29 #[mv, kv, cv] w fun e w' => e = .returned (.bool (implB m D cls c)) ∧ Gr [] w w' := by
  have Hv := hid hv; have HD := hid hD; have Hk := hid hk; have Hl := hid hl; have Hc := hid hc
  obtain ⟨mdv, mcv, rfl, hdv, _⟩ := hv
  obtain ⟨ko, kc, rfl, ⟨hk1, hk2⟩⟩ := hk.slice
  obtain ⟨xo, xc, rfl, ⟨hx1, hx2, -⟩, -⟩ := id hdv
  have hg0 : Gr [] w (w.alloc (.cells #[.slice xo m.doms.length xc, mcv] 26)) := (Gr.refl _ _).alloc _
  have hb0 := heap_alloc_new w (.cells #[.slice xo m.doms.length xc, mcv] 26)
  have Hmv := hid (Hv.out.gr hg0); have Hkv := hid (hk.gr hg0); have Hcv := hid (hc.gr hg0); have Hg0 := hid hg0; have Hb0 := hid hb0
  have hI : I64 (m.doms.length : Int) := by unfold I64; omega
  have HI := hid hI
  have f0 := fld hb0
  clear hk hl hc hdv hg0 hb0 hD hI
  go_enter Tryz.func29, Tryz.ntmps29
  go_wp2_with fail
  generalize hW : w.alloc (.cells #[.slice xo m.doms.length xc, mcv] 26) = w0 at *
  clear hW
  have hcall := ValidModel_c m _ _ Hmv.out
  (with_reducible refine hcall.mono ?_)
  clear hcall
  rintro e w1 ⟨rfl, hg1⟩
  have Hg1 := hid hg1
  cases hb : validM m
  · go_wp2_with fail
    go_ret
    exact ⟨ret_bool (by unfold implB; rw [hb]; rfl), Hg0.out.trans Hg1.out⟩
  · have hVM := HD.out hb
    have hdl := hVM.len
    have Hde : Hid (m.doms.length = D.length) := hid (by rw [hVM.doms, ints_len])
    have HVM := hid hVM; have Hb := hid hb
    clear hVM hg1 hb
    go_wp2_with fail
    have hcall := proofOk_c cls m.doms.length _ _ (Hkv.out.gr Hg1.out) Hl.out HI.out
    (with_reducible refine hcall.mono ?_)
    clear hcall
    rintro e w2 ⟨rfl, hg2⟩
    have Hg2 := hid (Hg1.out.trans hg2)
    cases hb2 : clsB m.doms.length cls
    · go_wp2_with fail
      go_ret
      exact ⟨ret_bool (by unfold implB; rw [Hb.out, hb2]; rfl), Hg0.out.trans Hg2.out⟩
    · have Hok : Hid (KOk cls D.length) := hid (by rw [Hde.out] at hb2; exact clsB_ok hb2)
      have Hb2 := hid hb2
      clear hb2 hg2
      go_wp2_with fail
      have hcall := ValidClause_c c m.doms.length _ _ (Hcv.out.gr Hg2.out) hcl HI.out
      (with_reducible refine hcall.mono ?_)
      clear hcall
      rintro e w3 ⟨rfl, hg3⟩
      have Hg3 := hid (Hg2.out.trans hg3)
      cases hb3 : validCl c m.doms.length
      · go_wp2_with fail
        go_ret
        exact ⟨ret_bool (by unfold implB; rw [Hb.out, Hb2.out, hb3]; rfl), Hg0.out.trans Hg3.out⟩
      · have Hcs : Hid (validClS c D.length = true) := hid (by unfold validCl at hb3; rw [Bool.and_eq_true, Hde.out] at hb3; exact hb3.2)
        have f3 := fld (Hg3.out.obj Hb0.out (by simp))
        have Hb3 := hid hb3
        clear hb3 hg3
        go_wp2_with fail
        have hcall := implied_c m D cls c _ _ _ _ (Hmv.out.gr Hg3.out) HVM.out (Hkv.out.gr Hg3.out) Hok.out (Hcv.out.gr Hg3.out) Hcs.out
        (with_reducible refine hcall.mono ?_)
        clear hcall
        rintro e w4 ⟨rfl, hg4⟩
        go_wp2_with fail
        go_ret
        exact ⟨ret_bool (by unfold implB; rw [Hb.out, Hb2.out, Hb3.out]; rfl), (Hg0.out.trans Hg3.out).trans hg4⟩
end Go.Proofs.YtpfelbbmgbfkeaaGreat
