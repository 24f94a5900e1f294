/-
  Walk of FnIsEntailed.
-/
import Derived.Test.YtngpcoilgilmjaaDE
import Derived.Test.YtngpcoilgilmjaaIE
import Derived.Test.YtngpcoilgilmjaaMcP
import Derived.Test.YtngpcoilgilmjaaWc
import Derived.Test.YtngpcoilgilmjaaEH
set_option linter.unusedVariables false
set_option linter.unusedSimpArgs false
namespace Go.Proofs.Ytngpcoilgilmjaa
open Go.RowKit

theorem VM.one {ds : List Int} {D : List Nat} (h : ds = ints D) (hb : Below64 D) (hl : 1 ≤ D.length ∧ D.length ≤ 4) : VM ⟨ds, []⟩ D :=
  ⟨h, hl, hb, by simp [VCs], by simp⟩
theorem VM.snoc1 {ds : List Int} {D : List Nat} {c : Con} (h : ds = ints D) (hb : Below64 D) (hl : 1 ≤ D.length ∧ D.length ≤ 4) (hc : VC c D.length) : VM (withM ⟨ds, []⟩ c) D :=
  ⟨h, hl, hb, fun d hd => by simp [withM] at hd; subst hd; exact hc, by simp [withM]⟩
theorem en_shape {V : Bool} {M : Nat → Prop} {w : World} {u0 u1 : Value} {m : Mod} (h1 : V = true → ModM M w (.agg #[u0, u1]) m) (h2 : V = false → u0 = .slice none 0 0 ∧ u1 = .slice none 0 0) : (∃ a n c, u0 = .slice a n c) ∧ ∃ a n c, u1 = .slice a n c := by
  cases V with
  | false => obtain ⟨rfl, rfl⟩ := h2 rfl; exact ⟨⟨_, _, _, rfl⟩, _, _, _, rfl⟩
  | true =>
    obtain ⟨dv, cv, e, n1, n2⟩ := h1 rfl
    obtain ⟨a, c, rfl, -⟩ := n1
    obtain ⟨a2, c2, rfl, -⟩ := n2
    simp only [Value.agg.injEq, Array.mk.injEq, List.cons.injEq, and_true] at e
    obtain ⟨rfl, rfl⟩ := e
    exact ⟨⟨_, _, _, rfl⟩, _, _, _, rfl⟩


set_option maxRecDepth 100000 in
set_option maxHeartbeats 8000000 in
theorem FnIsEntailed_c (v : Value) (bs : List Int) (ao : Option Addr) (cap : Nat) (w : World) (hv : v = .slice ao bs.length cap) (hlen : bs.length ≤ 9223372036854775807) (hcap : bs.length ≤ cap) (hc : Cells [] w .u8 ao bs) (hb : ∀ b ∈ bs, 0 ≤ b ∧ b ≤ 255) :
    Calls Try.prog 3 #[v] w fun e w' => e = .returned (.bool true) ∧ Gr [] w w' := by
  subst hv
  have Hc := hid hc; have Hb := hid hb; clear hc hb
  by_cases hbig : 1048576 < bs.length
  · go_enter Try.func3, Try.ntmps3
    go_wp2_with fail
    go_ret
    exact ⟨rfl, Gr.refl _ _⟩
  have hbig' : decide ((1048576 : Int) < (bs.length : Int)) = false := by simp; omega
  go_enter Try.func3, Try.ntmps3
  go_wp2_with fail
  have hcall := DrawIsEntailed_c _ bs w ao cap rfl hlen hcap Hc.out Hb.out
  (with_reducible refine hcall.mono ?_)
  clear hcall
  rintro e w1 ⟨c, cv, dv, ds, rfl, hcon, hdn, hsm, ⟨hd1, hd4⟩, hg1⟩
  obtain ⟨vo, vc, xo, xc, ro, rc, rfl⟩ := hcon.slices
  have ha2 : Gr [] w1 (w1.alloc (.cells #[.int .i64 c.kind, .slice vo c.vars.length vc, .slice xo c.args.length xc, .int .i64 c.bound, .slice ro c.rows.length rc] 26)) := (Gr.refl _ _).alloc _
  have hb2 : (w1.alloc (.cells #[.int .i64 c.kind, .slice vo c.vars.length vc, .slice xo c.args.length xc, .int .i64 c.bound, .slice ro c.rows.length rc] 26)).heap[w1.heap.size]? = some (.cells #[.int .i64 c.kind, .slice vo c.vars.length vc, .slice xo c.args.length xc, .int .i64 c.bound, .slice ro c.rows.length rc] 26 (0, 0)) := heap_alloc_new _ _
  have HG2 := hid (hg1.trans ha2); have Hcon2 := hid (hcon.gr ha2); have Hsm := hid hsm; have Hb2 := hid hb2; have Hdn2 := hid (hdn.gr ha2)
  obtain ⟨dO, dc, rfl, ⟨hdd1, hdd2, -⟩, -⟩ := hdn
  clear hcon hsm ha2 hb2 hg1 hbig
  obtain ⟨D, hD⟩ : ∃ D, domsOk ds = true → ds = ints D ∧ Below64 D := by
    by_cases h : domsOk ds = true
    · have h' := h
      unfold domsOk at h'
      rw [Bool.and_eq_true] at h'
      obtain ⟨D, h1, h2⟩ := ints_below (allB_iff.1 h'.2)
      exact ⟨D, fun _ => ⟨h1, h2⟩⟩
    · exact ⟨[], fun h' => absurd h' h⟩
  have HD := hid hD; clear hD
  obtain ⟨B, hB⟩ : ∃ B, B = (domsOk ds && validCon c ds.length && entB c D) := ⟨_, rfl⟩
  have HB := hid hB
  have hBB : (B != B) = false := by cases B <;> rfl
  have hBE : (B == B) = true := by cases B <;> rfl
  clear hB
  go_wp2_with fail
  have hcall := IsEntailed_c c ds D _ _ _ Hcon2.out Hdn2.out HD.out
  (with_reducible refine hcall.mono ?_)
  clear hcall
  rw [← HB.out]
  rintro e w3 ⟨rfl, hg3⟩
  have Hb3 := hid (hg3.obj Hb2.out (by simp)); have HG3 := hid (HG2.out.trans hg3); have Hcon3 := hid (Hcon2.out.gr hg3); have Hdn3 := hid (Hdn2.out.gr hg3)
  clear hg3
  have ha4 : Gr [] w3 (w3.alloc (.cells #[.slice dO ds.length dc, .slice none 0 0] 32)) := (Gr.refl _ _).alloc _
  have hm4 : (w3.alloc (.cells #[.slice dO ds.length dc, .slice none 0 0] 32)).heap[w3.heap.size]? = some (.cells #[.slice dO ds.length dc, .slice none 0 0] 32 (0, 0)) := heap_alloc_new _ _
  have Hb4 := hid (ha4.obj Hb3.out (by simp)); have HG4 := hid (HG3.out.trans ha4); have Hcon4 := hid (Hcon3.out.gr ha4); have Hdn4 := hid (Hdn3.out.gr ha4); have Hm4 := hid hm4
  have fb4 := fld Hb4.out; have fm4 := fld hm4
  clear ha4 hm4
  go_wp2_with fail
  generalize hW4 : w3.alloc (.cells #[.slice dO ds.length dc, .slice none 0 0] 32) = w4 at *
  clear hW4
  have HMV : Hid (ModV [] w4 (.agg #[.slice dO ds.length dc, .slice none 0 0]) ⟨ds, []⟩) := hid ⟨_, _, rfl, Hdn4.out, none, 0, rfl, by simp, fun i c h => by simp at h⟩
  have HSM : Hid (withM ⟨ds, []⟩ c).Small := hid ⟨by show ds.length ≤ _; omega, by simp [withM], fun d hd => by simp [withM] at hd; subst hd; exact Hsm.out⟩
  obtain ⟨V, hV⟩ : ∃ V, V = validM (withM ⟨ds, []⟩ c) := ⟨_, rfl⟩
  have HV := hid hV
  clear hV
  have hcall := WithConstraint_c ⟨ds, []⟩ c _ _ _ HMV.out Hcon4.out HSM.out (by simp)
  (with_reducible refine hcall.mono ?_)
  clear hcall
  rw [← HV.out]
  rintro e w5 ⟨u0, u1, rfl, hmx, hmz, hg5⟩
  obtain ⟨⟨sa, sb, sc, rfl⟩, sd, se, sf, rfl⟩ := en_shape hmx hmz
  have Hb5 := hid (hg5.obj Hb4.out (by simp)); have Hm5 := hid (hg5.obj Hm4.out (by simp)); have HG5 := hid (HG4.out.trans hg5); have Hcon5 := hid (Hcon4.out.gr hg5); have Hdn5 := hid (Hdn4.out.gr hg5); have HMV5 := hid (HMV.out.gr hg5)
  have Hmx5 : Hid (V = true → ModV [] w5 (.agg #[.slice sa sb sc, .slice sd se sf]) (withM ⟨ds, []⟩ c)) := hid fun h => (hmx h).mod (by simp)
  clear hmx hmz hg5 fb4 fm4
  have ha6 : Gr [] w5 (w5.alloc (.cells #[.slice sa sb sc, .slice sd se sf] 32)) := (Gr.refl _ _).alloc _
  have hx6 : (w5.alloc (.cells #[.slice sa sb sc, .slice sd se sf] 32)).heap[w5.heap.size]? = some (.cells #[.slice sa sb sc, .slice sd se sf] 32 (0, 0)) := heap_alloc_new _ _
  have Hb6 := hid (ha6.obj Hb5.out (by simp)); have Hm6 := hid (ha6.obj Hm5.out (by simp)); have HG6 := hid (HG5.out.trans ha6); have Hcon6 := hid (Hcon5.out.gr ha6); have Hdn6 := hid (Hdn5.out.gr ha6); have HMV6 := hid (HMV5.out.gr ha6); have Hx6 := hid hx6
  have Hmx6 : Hid (V = true → ModV [] (w5.alloc (.cells #[.slice sa sb sc, .slice sd se sf] 32)) (.agg #[.slice sa sb sc, .slice sd se sf]) (withM ⟨ds, []⟩ c)) := hid fun h => (Hmx5.out h).gr ha6
  have fb6 := fld Hb6.out
  clear ha6 hx6
  go_wp2_with fail
  generalize hW6 : w5.alloc (.cells #[.slice sa sb sc, .slice sd se sf] 32) = w6 at *
  clear hW6
  have hcall := specIsEntailed_c c ds D _ _ _ Hcon6.out Hdn6.out Hsm.out.vars HD.out
  (with_reducible refine hcall.mono ?_)
  clear hcall
  rw [← HB.out]
  rintro e w7 ⟨rfl, hg7⟩
  have Hb7 := hid (hg7.obj Hb6.out (by simp)); have Hm7 := hid (hg7.obj Hm6.out (by simp)); have HG7 := hid (HG6.out.trans hg7); have Hcon7 := hid (Hcon6.out.gr hg7); have Hdn7 := hid (Hdn6.out.gr hg7); have HMV7 := hid (HMV6.out.gr hg7); have Hx7 := hid (hg7.obj Hx6.out (by simp))
  have Hmx7 : Hid (V = true → ModV [] w7 (.agg #[.slice sa sb sc, .slice sd se sf]) (withM ⟨ds, []⟩ c)) := hid fun h => (Hmx6.out h).gr hg7
  have fb7 := fld Hb7.out
  clear hg7 fb6
  cases V with
  | false =>
    go_wp2_with fail
    have hcall := specIsEntailed_c c ds D _ _ _ Hcon7.out Hdn7.out Hsm.out.vars HD.out
    (with_reducible refine hcall.mono ?_)
    clear hcall
    rw [← HB.out]
    rintro e w8 ⟨rfl, hg8⟩
    go_wp2_with fail
    go_ret
    exact ⟨rfl, HG7.out.trans hg8⟩
  | true =>
  have hval := HV.out.symm
  rw [show withM ⟨ds, []⟩ c = ⟨ds, [] ++ [c]⟩ from rfl, validM_snoc (m := ⟨ds, []⟩)] at hval
  simp only [Bool.and_eq_true] at hval
  obtain ⟨⟨hv1, -⟩, hvc⟩ := hval
  have hdok : domsOk ds = true := (validM_iff.1 hv1).1
  obtain ⟨rfl, hb64⟩ := HD.out hdok
  have hdl := ints_len D
  rw [hdl] at hd1 hd4 hdd1 hvc
  have HVC : Hid (VC c D.length) := hid (validCon_iff.1 hvc)
  have HVM0 := hid (VM.one (ds := ints D) rfl hb64 ⟨hd1, hd4⟩)
  have HVM1 := hid (VM.snoc1 (ds := ints D) rfl hb64 ⟨hd1, hd4⟩ HVC.out)
  have HBE : Hid (B = entB c D) := hid (by rw [HB.out, hdok, hdl, hvc]; rfl)
  have HV0 := hid hv1; have HV1 := hid HV.out.symm; have H64 := hid hb64
  rw [hdl] at Hdn7
  clear hdok hvc hb64 hdl hv1
  rw [ints_len]
  go_wp2_with fail
  go_loopw [9] (fun i wr => ∃ n : Nat, n ≤ D.length ∧ i = .int .i64 n ∧ (∀ (j : Nat) d, j < n → D[j]? = some d → d ≠ 0) ∧ Gr [] w7 wr) (fun i _ => D.length - (intOf i).toNat)
  case atStart => exact ⟨0, Nat.zero_le _, rfl, fun j d h => absurd h (by omega), Gr.refl _ _⟩
  case round =>
  obtain ⟨n, hn, rfl, hz, hg⟩ := hrel
  have Hz := hid hz; have Hg := hid hg
  clear hz
  by_cases hlt : n < D.length
  · obtain ⟨d, hd⟩ := get_some hlt
    obtain ⟨b, o, e1, -, hc0⟩ := (Hdn7.out.gr hg).at (i := n) (x := (d : Int)) (by rw [ints_get, hd]; rfl)
    subst e1
    have Hd := hid hd
    clear hd hg
    cases h0 : (((d : Nat) : Int) == 0)
    · go_wp2_with fail
      refine ⟨⟨n + 1, by omega, by go_num, fun j e hj he => ?_, Hg.out⟩, by simp [intOf]; omega⟩
      by_cases hjn : j = n
      · subst hjn; rw [Hd.out] at he; cases he; simp at h0; omega
      · exact Hz.out j e (by omega) he
    · go_wp2_with fail
      go_ret
      exact ⟨rfl, HG7.out.trans Hg.out⟩
  · have h0 : 0 ∉ D := fun hm => by
      obtain ⟨j, hj⟩ := List.mem_iff_getElem?.1 hm
      exact Hz.out j 0 (by have := (List.getElem?_eq_some_iff.1 hj).1; omega) hj rfl
    have hct := ent_count HVC.out H64.out h0
    obtain ⟨K1, hK1⟩ : ∃ K1 : Nat, K1 = (sols [c] D).length := ⟨_, rfl⟩
    obtain ⟨K0, hK0⟩ : ∃ K0 : Nat, K0 = (sols [] D).length := ⟨_, rfl⟩
    rw [← hK1, ← hK0] at hct
    have HC1 : Hid (countI (withM ⟨ints D, []⟩ c) D = (K1 : Int)) := hid (by unfold countI; rw [HV1.out, if_pos rfl, hK1]; rfl)
    have HC0 : Hid (countI ⟨ints D, []⟩ D = (K0 : Int)) := hid (by unfold countI; rw [HV0.out, if_pos rfl, hK0])
    have hq : (B == (((K1 : Nat) : Int) == ((K0 : Nat) : Int))) = true := by
      rw [HBE.out, hct]
      by_cases h : K1 = K0
      · subst h; simp
      · have e1 : decide (K1 = K0) = false := decide_eq_false h
        have e2 : (((K1 : Nat) : Int) == ((K0 : Nat) : Int)) = false := beq_eq_false_iff_ne.2 (by omega)
        rw [e1, e2]; rfl
    have em : ∀ (k : GrW [] wr) j, k.val.cell? ⟨w3.heap.size, j, none⟩ = #[.slice dO D.length dc, .slice none 0 0][j]? := fun k j => by
      have := fld (k.gr.obj (hg.obj Hm7.out (by simp)) (by simp)) j
      rw [ints_len] at this
      exact this
    have ex : ∀ (k : GrW [] wr) j, k.val.cell? ⟨w5.heap.size, j, none⟩ = #[.slice sa sb sc, .slice sd se sf][j]? := fun k => fld (k.gr.obj (hg.obj Hx7.out (by simp)) (by simp))
    have hcx : ∀ k : GrW [] wr, Calls Try.prog 12 #[.agg #[.slice sa sb sc, .slice sd se sf]] k.val fun e w'' => e = .returned (.int .i64 (K1 : Int)) ∧ ∃ m : GrW [] wr, w'' = m.val := fun k => by
      rw [← HC1.out]
      exact Calls.gr_of (CountSolutions_c _ _ _ ((Hmx7.out (by trivial)).gr (hg.trans k.gr)) D (fun _ => HVM1.out))
    have hcm : ∀ k : GrW [] wr, Calls Try.prog 12 #[.agg #[.slice dO D.length dc, .slice none 0 0]] k.val fun e w'' => e = .returned (.int .i64 (K0 : Int)) ∧ ∃ m : GrW [] wr, w'' = m.val := fun k => by
      rw [← HC0.out]
      have h9 := HMV7.out.gr (hg.trans k.gr)
      rw [ints_len] at h9
      exact Calls.gr_of (CountSolutions_c _ _ _ h9 D (fun _ => HVM0.out))
    clear hK1 hK0 hct h0
    go_wp2_with fail
    refine wp_region_gr [] _ (by kernel_rfl) (by kernel_rfl) (Gr.refl _ _) ?_
    repeat (go_big_quiet_step ((go_at_call 12; first | exact hcx _ | exact hcm _)))
    refine wpQuiet_nil ?_
    rintro w9 ⟨n9, rfl⟩
    have hg9 := n9.gr
    go_wp2_with fail
    go_ret
    exact ⟨rfl, (HG7.out.trans hg).trans hg9⟩

end Go.Proofs.Ytngpcoilgilmjaa
