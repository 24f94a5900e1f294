/-
  Walk of FnHardest.
-/
import Derived.Test.YtngpcoilgilmjaaGreatDh
import Derived.Test.YtngpcoilgilmjaaGreatHdP
import Derived.Test.YtngpcoilgilmjaaGreatSq
import Derived.Test.YtngpcoilgilmjaaGreatSh
import Derived.Test.YtngpcoilgilmjaaGreatWc
import Derived.Test.YtngpcoilgilmjaaGreatLPS
import Derived.Test.YtngpcoilgilmjaaGreatEH
set_option linter.unusedVariables false
set_option linter.unusedSimpArgs false
namespace Go.Proofs.YtngpcoilgilmjaaGreat
open Go.RowKit

theorem small_snoc {m : Mod} {c : Con} (h : m.Small) (hc : m.cons.length ≤ 1000) (hs : c.Small) : (withM m c).Small :=
  ⟨h.doms, by show (m.cons ++ [_]).length ≤ _; simp; omega, fun d hd => by
    rcases List.mem_append.1 (show d ∈ m.cons ++ [c] from hd) with hd | hd
    · exact h.con d hd
    · simp at hd; subst hd; exact hs⟩
theorem VM.snoc {m : Mod} {D : List Nat} {c : Con} (h : VM m D) (hc : m.cons.length < 6) (hv : VC c m.doms.length) : VM (withM m c) D := by
  have h1 : m.doms.length = D.length := by rw [h.doms, ints_len]
  refine ⟨h.doms, h.len, h.below, fun d hd => ?_, by show (m.cons ++ [_]).length ≤ _; simp; omega⟩
  rcases List.mem_append.1 (show d ∈ m.cons ++ [c] from hd) with hd | hd
  · exact h.cons d hd
  · simp at hd; subst hd
    rw [← h1]; exact hv
theorem soft_bad {ss : List Sft} {n : Nat} (h : SoftOk ss n) (hl : ss.length ≤ 4) (hb : softB ss n = false) : ∀ s, ss[0]? = some s → ¬ (1 ≤ s.wt ∧ s.wt ≤ 9) := by
  intro s hs hw
  have : softB ss n = true := by
    rw [softB_iff]
    refine ⟨hl, fun t ht => ⟨?_, h.1 t ht⟩⟩
    cases ss with
    | nil => simp at hs
    | cons a r =>
      simp at hs; subst hs
      rcases List.mem_cons.1 ht with rfl | ht
      · exact hw
      · exact h.2 t (by simpa using ht)
  rw [hb] at this; cases this
def HdCut (m : Mod) (c : Con) (V : Bool) (w0 wx : World) (p b : Value) : Prop :=
  ∃ (bk : Nat) (u0 u1 : Value), p = .pointer (some ⟨bk, 0, none⟩) ∧ b = .bool V ∧ wx.heap[bk]? = some (.cells #[u0, u1] 26 (0, 0)) ∧ (V = true → ModV [] wx (.agg #[u0, u1]) (withM m c)) ∧ Gr [] w0 wx
theorem hd_meet {m : Mod} {c : Con} {V : Bool} {w0 wb WE : World} {bk B : Nat} {u0 u1 : Value} (hbk : w0.heap.size ≤ bk) (hbb : WE.heap[bk]? = some (.cells #[u0, u1] 26 (0, 0))) (hg : Gr [] w0 wb) (hm : V = true → ModM (New B wb) wb (.agg #[u0, u1]) (withM m c)) (hgE : Gr [bk] wb WE) (hne : bk < B ∨ wb.heap.size ≤ bk) : HdCut m c V w0 WE (.pointer (some ⟨bk, 0, none⟩)) (.bool V) :=
  ⟨bk, u0, u1, rfl, rfl, hbb, fun h => ((hm h).gr' (M' := New B wb) hgE (fun b hb hm => by have h1 := hm.1; have h2 := hm.2; simp at hb; omega) (fun b _ h => h)).mod (by simp), hg.step hgE (fun i hi => .inr (by simp at hi; omega))⟩
theorem hd_shape {V : Bool} {M : Nat → Prop} {w : World} {u0 u1 : Value} {m : Mod} (h1 : V = true → ModM M w (.agg #[u0, u1]) m) (h2 : V = false → u0 = .slice none 0 0 ∧ u1 = .slice none 0 0) : (∃ a n c, u0 = .slice a n c) ∧ ∃ a n c, u1 = .slice a n c := by
  cases V with
  | false => obtain ⟨rfl, rfl⟩ := h2 rfl; exact ⟨⟨_, _, _, rfl⟩, _, _, _, rfl⟩
  | true =>
    obtain ⟨dv, cv, e, n1, n2⟩ := h1 rfl
    obtain ⟨a, c, rfl, -⟩ := n1
    obtain ⟨a2, c2, rfl, -⟩ := n2
    simp only [Value.agg.injEq, Array.mk.injEq, List.cons.injEq, and_true] at e
    obtain ⟨rfl, rfl⟩ := e
    exact ⟨⟨_, _, _, rfl⟩, _, _, _, rfl⟩


set_option maxRecDepth 100000 in
set_option maxHeartbeats 8000000 in
theorem FnHardest_c (v : Value) (bs : List Int) (ao : Option Addr) (cap : Nat) (w : World) (hv : v = .slice ao bs.length cap) (hlen : bs.length ≤ 9223372036854775807) (hcap : bs.length ≤ cap) (hc : Cells [] w .u8 ao bs) (hb : ∀ b ∈ bs, 0 ≤ b ∧ b ≤ 255) :
    Calls Tryz.prog 3 #[v] w fun e w' => e = .returned (.bool true) ∧ Gr [] w w' := by
  subst hv
  have Hc := hid hc; have Hb := hid hb; clear hc hb
  by_cases hbig : 1048576 < bs.length
  · go_enter Tryz.func3, Tryz.ntmps3
    go_wp2_with fail
    go_ret
    exact ⟨rfl, Gr.refl _ _⟩
  have hbig' : decide ((1048576 : Int) < (bs.length : Int)) = false := by simp; omega
  go_enter Tryz.func3, Tryz.ntmps3
  go_wp2_with fail
  have hcall := DrawHardest_c _ bs w ao cap rfl hlen hcap Hc.out Hb.out
  (with_reducible refine hcall.mono ?_)
  clear hcall
  rintro e w1 ⟨m, mv, sv, ss, rfl, hmv, hms, ⟨hd1, hd4⟩, hO, hOl, hOv, hok, hg1⟩
  obtain ⟨xo, xc, co, cc, rfl⟩ := hmv.slices
  have ha2 : Gr [] w1 (w1.alloc (.cells #[.slice xo m.doms.length xc, .slice co m.cons.length cc] 26)) := (Gr.refl _ _).alloc _
  have hb2 : (w1.alloc (.cells #[.slice xo m.doms.length xc, .slice co m.cons.length cc] 26)).heap[w1.heap.size]? = some (.cells #[.slice xo m.doms.length xc, .slice co m.cons.length cc] 26 (0, 0)) := heap_alloc_new _ _
  have HG2 := hid (hg1.trans ha2); have Hmv2 := hid (hmv.gr ha2); have Hms := hid hms; have Hb2 := hid hb2
  have HO2 := hid (hO.gr ha2); have HOL := hid hOl; have Hok := hid hok
  have HTV : Hid (∀ s ∈ ss, s.con.Small) := hid fun s hs => (hOv s hs).1.1.small
  have HOv : Hid (SftsSmall ss) := hid ⟨by omega, fun s hs => (hOv s hs).1.1.small⟩
  obtain ⟨oo, oc, rfl, hO1, hO2⟩ := hO.slice
  clear hO hOv hok
  clear hmv hms ha2 hb2 hg1 hbig
  obtain ⟨D, hD⟩ := openVM m
  have HD := hid hD; clear hD
  go_wp2_with fail
  have hcall := Hardest_c m ss _ _ _ Hmv2.out HO2.out D HD.out
  (with_reducible refine hcall.mono ?_)
  clear hcall
  obtain ⟨L, hL⟩ : ∃ L, L = hardO m D ss := ⟨_, rfl⟩
  rw [← hL]
  have HLs : Hid (L = hardO m D ss) := hid hL
  have HLl : Hid (L.length ≤ 1000000) := hid (by rw [hL]; exact hardO_len m ss D)
  clear hL
  rintro e w3 ⟨v3, rfl, hn3, hg3⟩
  have hn3 := hn3.nums (S := []) (by simp)
  have Hn3 := hid hn3
  obtain ⟨zo, zc, rfl, ⟨hz1, hz2, -⟩, -⟩ := hn3
  have fl3 := fld (hg3.obj Hb2.out (by simp))
  have HG3 := hid hg3; clear hg3
  go_wp2_with fail
  have hcall := specHardest_c m ss _ _ _ (Hmv2.out.gr HG3.out) Hms.out (HO2.out.gr HG3.out) HOv.out D HD.out
  (with_reducible refine hcall.mono ?_)
  clear hcall
  rw [← HLs.out]
  rintro e w4 ⟨v4, rfl, hn4, hg4⟩
  have Hn4 := hid hn4
  have HG4 := hid (HG3.out.trans hg4); have Hg4 := hid hg4
  have fl4 := fld (HG4.out.obj Hb2.out (by simp))
  clear hn4 hg4 fl3
  go_wp2_with fail
  have hcall := lawEqualInts_c L L _ _ _ (Hn3.out.gr Hg4.out) Hn4.out
  (with_reducible refine hcall.mono ?_)
  clear hcall
  rw [decide_eq_true (rfl : L = L)]
  rintro e w5 ⟨rfl, hg5⟩
  have HG5 := hid (HG4.out.trans hg5); have Hn5 := hid (Hn3.out.gr (Hg4.out.trans hg5)); have Hm5 := hid (Hn4.out.gr hg5)
  have Hb5 := hid (HG5.out.obj Hb2.out (by simp)); have fl5 := fld Hb5.out
  clear hg5 fl4
  go_wp2_with fail
  have hcall := ValidModel_c m _ _ (Hmv2.out.gr HG5.out)
  (with_reducible refine hcall.mono ?_)
  clear hcall
  rintro e w6 ⟨rfl, hg6⟩
  have HG6 := hid (HG5.out.trans hg6); have Hn6 := hid (Hn5.out.gr hg6); have HO6 := hid (HO2.out.gr HG6.out); have Hmv6 := hid (Hmv2.out.gr HG6.out)
  have Hb6 := hid (hg6.obj Hb5.out (by simp)); have fl6 := fld Hb6.out
  clear hg6 fl5
  cases hval : validM m
  · clear hval
    go_wp2_with fail
    have hcall := specHardest_c m ss _ _ _ Hmv6.out Hms.out HO6.out HOv.out D HD.out
    (with_reducible refine hcall.mono ?_)
    clear hcall
    rw [← HLs.out]
    rintro e w7 ⟨v7, rfl, hn7, hg7⟩
    have Hn7 := hid hn7; have Hg7 := hid hg7
    clear hn7 hg7
    go_wp2_with fail
    have hcall := lawEqualInts_c L L _ _ _ (Hn6.out.gr Hg7.out) Hn7.out
    (with_reducible refine hcall.mono ?_)
    clear hcall
    rw [decide_eq_true (rfl : L = L)]
    rintro e w8 ⟨rfl, hg8⟩
    go_wp2_with fail
    go_ret
    exact ⟨rfl, ((HG2.out.trans HG6.out).trans Hg7.out).trans hg8⟩
  have HVM := hid (HD.out hval); have Hval := hid hval
  have HDL : Hid (m.doms.length = D.length) := hid (by rw [HVM.out.doms, ints_len])
  have HCL : Hid (m.cons.length ≤ 1000) := hid (by have := HVM.out.many; omega)
  clear hval
  go_wp2_with fail
  go_loopw [6] (fun i' wr => ∃ n : Nat, n ≤ ss.length ∧ i' = .int .i64 n ∧ (softB ss m.doms.length = false → n = 0) ∧ Gr [] w6 wr) (fun i' _ => ss.length - (intOf i').toNat)
  case atStart => exact ⟨0, Nat.zero_le _, rfl, fun _ => rfl, Gr.refl _ _⟩
  case round =>
  obtain ⟨n, hn, rfl, hz, hg⟩ := hrel
  have flr := fld (hg.obj Hb6.out (by simp))
  have Hg := hid hg; have Hz := hid hz
  clear hz
  by_cases hlt : n < ss.length
  · obtain ⟨s, hs⟩ := get_some hlt
    obtain ⟨b, o, vo, vc, ao', ac, ro, rc, e1, -, ⟨k0, k1, k2, k3, k4, k5⟩, hcon⟩ := (HO6.out.gr hg).at hs
    subst e1
    have HM1 := hid (Hmv6.out.gr hg); have HN1 := hid (Hn6.out.gr hg); have HB1 := hid (hg.obj Hb6.out (by simp)); have HC1 := hid hcon; have Hs := hid hs
    have HK : Hid (∀ W, Gr [] wr W → (W.cell? ⟨b, o + n * 6, none⟩ = some (.int .i64 s.con.kind) ∧ W.cell? ⟨b, o + n * 6 + 1, none⟩ = some (.slice vo s.con.vars.length vc) ∧ W.cell? ⟨b, o + n * 6 + 2, none⟩ = some (.slice ao' s.con.args.length ac) ∧
      W.cell? ⟨b, o + n * 6 + 3, none⟩ = some (.int .i64 s.con.bound) ∧ W.cell? ⟨b, o + n * 6 + 4, none⟩ = some (.slice ro s.con.rows.length rc))) := hid fun W h => ⟨h.cell k0 (by simp), h.cell k1 (by simp), h.cell k2 (by simp), h.cell k3 (by simp), h.cell k4 (by simp)⟩
    have HK5 : Hid (∀ W, Gr [] wr W → W.cell? ⟨b, o + n * 6 + 5, none⟩ = some (.int .i64 s.wt)) := hid fun W h => h.cell k5 (by simp)
    have HVC : Hid (VC s.con m.doms.length) := hid (Hok.out.1 s (List.mem_of_getElem? hs))
    obtain ⟨V, hV⟩ : ∃ V, V = validM (withM m s.con) := ⟨_, rfl⟩
    have HV : Hid (validM (withM m s.con) = V) := hid hV.symm
    have HSM : Hid (withM m s.con).Small := hid (small_snoc Hms.out HCL.out (HTV.out s (List.mem_of_getElem? hs)))
    have hwm : w1.heap.size < wr.heap.size := lt_of_block HB1.out
    clear hs hg hcon k0 k1 k2 k3 k4 k5 hV flr
    go_wp2_with fail
    go_cut [7, 8] from 42 to 51 (fun p b wx => HdCut m s.con V wr wx p b)
    case first =>
      have HBX : Hid (∀ W, Gr [] wr W → W.heap[w1.heap.size]? = some (.cells #[.slice xo m.doms.length xc, .slice co m.cons.length cc] 26 (0, 0))) := hid fun W h => h.obj HB1.out (by simp)
      have HS : Hid (∀ W, Gr [] wr W → ((W.cell? ⟨w1.heap.size, 0, none⟩ = some (.slice xo m.doms.length xc) ∧ W.cell? ⟨w1.heap.size, 1, none⟩ = some (.slice co m.cons.length cc)) ∧ (W.cell? ⟨b, o + n * 6, none⟩ = some (.int .i64 s.con.kind) ∧ W.cell? ⟨b, o + n * 6 + 1, none⟩ = some (.slice vo s.con.vars.length vc) ∧ W.cell? ⟨b, o + n * 6 + 2, none⟩ = some (.slice ao' s.con.args.length ac) ∧
      W.cell? ⟨b, o + n * 6 + 3, none⟩ = some (.int .i64 s.con.bound) ∧ W.cell? ⟨b, o + n * 6 + 4, none⟩ = some (.slice ro s.con.rows.length rc))) ∧ Gr [] wr W) := hid fun W h => ⟨⟨⟨fld (HBX.out _ h) 0, fld (HBX.out _ h) 1⟩, HK.out W h⟩, h⟩
      have ne0 : w1.heap.size ≠ wr.heap.size := by omega
      have ne0' := ne0.symm
      go_region_held_law (fun W => ((W.cell? ⟨w1.heap.size, 0, none⟩ = some (.slice xo m.doms.length xc) ∧ W.cell? ⟨w1.heap.size, 1, none⟩ = some (.slice co m.cons.length cc)) ∧ (W.cell? ⟨b, o + n * 6, none⟩ = some (.int .i64 s.con.kind) ∧ W.cell? ⟨b, o + n * 6 + 1, none⟩ = some (.slice vo s.con.vars.length vc) ∧ W.cell? ⟨b, o + n * 6 + 2, none⟩ = some (.slice ao' s.con.args.length ac) ∧
      W.cell? ⟨b, o + n * 6 + 3, none⟩ = some (.int .i64 s.con.bound) ∧ W.cell? ⟨b, o + n * 6 + 4, none⟩ = some (.slice ro s.con.rows.length rc))) ∧ Gr [] wr W)
        ((refine HS.out _ ?_; first | exact HGb.out | exact (Gr.refl [] wr).drew | assumption | (go_split_ands; first | assumption | exact Gr.drew (by assumption) | exact Gr.alloc (by assumption) _ | exact Gr.alloc HGb.out _ | exact Gr.setCell (Gr.setCell HGb.out _ _ (.inr (by have h8 := HGb.out.size; (try simp); (try omega)))) _ _ (.inr (by have h8 := HGb.out.size; (try simp); (try omega))) | exact Gr.setCell (by assumption) _ _ (.inr (by have h8 := HGb.out.size; (try simp); (try omega))) | exact Gr.setCell (Gr.setCell (by assumption) _ _ (.inr (by have h8 := HGb.out.size; (try simp); (try omega)))) _ _ (.inr (by have h8 := HGb.out.size; (try simp); (try omega))))))
        (first
        | (go_simp; go_at_call 14; refine (WithConstraint_c m s.con _ _ _ (HM1.out.gr (by first | exact (Gr.refl [] wr).drew | exact ((Gr.refl [] wr).drew).alloc _)) (HC1.out.gr (by first | exact (Gr.refl [] wr).drew | exact ((Gr.refl [] wr).drew).alloc _)) HSM.out HCL.out).mono ?_; rw [HV.out]; rintro e wb ⟨u0, u1, rfl, hmb, hzb, hgb⟩; obtain ⟨⟨sa, sb, sc, rfl⟩, sd, se, sf, rfl⟩ := hd_shape hmb hzb; have hgx : Gr [] wr wb := Gr.trans (by first | exact (Gr.refl [] wr).drew | exact ((Gr.refl [] wr).drew).alloc _) hgb; have HGb := hid hgx; have HSb := hid hgb.size; have Hmb := hid hmb; have fbb := fld (HBX.out _ hgx); (try (have hz : wb.heap[wr.heap.size]? = some (.cells #[.slice none 0 0, .slice none 0 0] 26 (0, 0)) := hgb.obj (heap_alloc_new wr.drew (.cells #[.slice none 0 0, .slice none 0 0] 26)) (by simp); have HZb := hid hz; have foz := fld hz; have ffz := fldF hz; clear hz)); clear hgb hgx hmb hzb; (try dsimp only)))
      all_goals
        go_wp2_with fail
        go_meet
        first
          | exact hd_meet HGb.out.size (heap_alloc_new _ _) HGb.out (fun h => Hmb.out h) ((Gr.refl _ _).alloc _) (.inr (Nat.le_refl _))
          | exact hd_meet (Nat.le_refl _) (set2 _ _ _ _ HZb.out).1 HGb.out (fun h => Hmb.out h) (set2 _ _ _ _ HZb.out).2 (.inl (by simp))
    case rest =>
    obtain ⟨bk1, u0, u1, rfl, rfl, hbb1, hmm1, hgx1⟩ := hcut
    have Hbb1 := hid hbb1; have Hmm1 := hid hmm1; have HGX := hid hgx1
    have k5 := HK5.out _ hgx1; have fbb := fld hbb1
    clear hbb1 hmm1 hgx1
    cases hsb : softB ss m.doms.length
    · have hn0 := Hz.out hsb
      subst hn0
      have hbad := soft_bad Hok.out HOL.out hsb s Hs.out
      have hL0 : L = [] := by rw [HLs.out]; exact hardO_no (by rw [hsb]; simp)
      subst hL0
      clear hsb
      by_cases hw1 : s.wt < 1
      · go_wp2_with fail
        go_ret
        exact ⟨rfl, ((HG2.out.trans HG6.out).trans Hg.out).trans HGX.out⟩
      · have hw1' : decide (s.wt < 1) = false := by simp; omega
        have hw2 : (9 : Int) < s.wt := by omega
        clear hbad
        go_wp2_with fail
        go_ret
        exact ⟨rfl, ((HG2.out.trans HG6.out).trans Hg.out).trans HGX.out⟩
    · have hw := (softB_iff.1 hsb).2 s (List.mem_of_getElem? Hs.out)
      have hw1 : decide (s.wt < 1) = false := by have := hw.1; simp; omega
      have hw2 : decide ((9 : Int) < s.wt) = false := by have := hw.1; simp; omega
      have HLh : Hid (L = hardL ss (sols m.cons D) ss.length) := hid (by rw [HLs.out]; exact hardO_yes (by rw [Hval.out, hsb]; rfl))
      have HSB := hid hsb
      clear hw hsb
      cases V with
      | false =>
        go_wp2_with fail
        exact ⟨⟨n + 1, by omega, by go_num, (fun h => by have := HSB.out; rw [this] at h; cases h), Hg.out.trans HGX.out⟩, by simp [intOf]; omega⟩
      | true =>
        have hc6 : m.cons.length < 6 := by
          have h := HV.out
          rw [show withM m s.con = ⟨m.doms, m.cons ++ [s.con]⟩ from rfl, validM_snoc, Bool.and_eq_true, Bool.and_eq_true] at h
          exact of_decide_eq_true h.1.2
        have HVMa := hid (HVM.out.snoc hc6 HVC.out)
        obtain ⟨K, hK⟩ : ∃ K : Nat, K = (sols (m.cons ++ [s.con]) D).length := ⟨_, rfl⟩
        have HCI : Hid (countI (withM m s.con) D = (K : Int)) := hid (by unfold countI; rw [HV.out, if_pos rfl, hK]; rfl)
        have hmb : memB (n : Int) L = decide (K = 0) := by rw [HLh.out, hK]; exact hard_count Hs.out
        have HMB := hid hmb
        clear hc6 hK hmb
        go_wp2_with fail
        have hcall := CountSolutions_c (withM m s.con) _ _ (Hmm1.out (by trivial)) D (fun _ => HVMa.out)
        (with_reducible refine hcall.mono ?_)
        clear hcall
        rw [HCI.out]
        rintro e w8 ⟨rfl, hg8⟩
        have Hg8 := hid hg8
        clear hg8 fbb k5
        cases hk : (((K : Nat) : Int) == 0)
        · have hk0 : decide (K = 0) = false := by simp at hk ⊢; omega
          rw [hk0] at HMB
          clear hk0
          go_wp2_with fail
          have hcall := lawContainsH_c L (n : Int) _ _ (HN1.out.gr (HGX.out.trans Hg8.out))
          (with_reducible refine hcall.mono ?_)
          clear hcall
          rw [HMB.out]
          rintro e w9 ⟨rfl, rfl⟩
          go_wp2_with fail
          exact ⟨⟨n + 1, by omega, by go_num, (fun h => by have := HSB.out; rw [this] at h; cases h), (Hg.out.trans HGX.out).trans Hg8.out⟩, by simp [intOf]; omega⟩
        · have hk0 : decide (K = 0) = true := by simp at hk ⊢; omega
          rw [hk0] at HMB
          clear hk0
          go_wp2_with fail
          have hcall := lawContainsH_c L (n : Int) _ _ (HN1.out.gr (HGX.out.trans Hg8.out))
          (with_reducible refine hcall.mono ?_)
          clear hcall
          rw [HMB.out]
          rintro e w9 ⟨rfl, rfl⟩
          go_wp2_with fail
          exact ⟨⟨n + 1, by omega, by go_num, (fun h => by have := HSB.out; rw [this] at h; cases h), (Hg.out.trans HGX.out).trans Hg8.out⟩, by simp [intOf]; omega⟩
  · go_wp2_with fail
    go_ret
    exact ⟨rfl, (HG2.out.trans HG6.out).trans hg⟩

end Go.Proofs.YtngpcoilgilmjaaGreat
