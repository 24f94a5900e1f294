/-
  Walks of laws.equalInts and FnIsConsistent.
  Walks of laws.isSubset and FnPropagateFixpoint.
  Walk of FnPropagateSound.
-/
import Derived.Test.YtngpcoilgilmjaaG8
import Derived.Test.YtngpcoilgilmjaaSk
set_option linter.unusedVariables false
namespace Go.Proofs.Ytngpcoilgilmjaa
open Go.RowKit

theorem lawEqualInts_c (xs ys : List Int) (vx vy : Value) (w : World) (hx : Nums [] w .i64 vx xs) (hy : Nums [] w .i64 vy ys) :
    Calls Try.prog 19 #[vx, vy] w fun e w' => e = .returned (.bool (decide (xs = ys))) ∧ Gr [] w w' := by
  obtain ⟨xo, xc, rfl, ⟨hx1, hx2, _⟩, hxc⟩ := hx
  obtain ⟨yo, yc, rfl, ⟨hy1, hy2, _⟩, hyc⟩ := hy
  have Hxc := hid hxc; have Hyc := hid hyc; clear hxc hyc
  have hxl : xs.length ≤ 9223372036854775807 := by omega
  have hyl : ys.length ≤ 9223372036854775807 := by omega
  cases hl : ((xs.length : Int) != (ys.length : Int))
  rotate_left
  · have hne : xs ≠ ys := by rintro rfl; simp at hl
    have Hne := hid hne; clear hne
    go_enter Try.func19, Try.ntmps19
    go_wp2_with fail
    go_ret
    exact ⟨ret_bool (by simp [Hne.out]), Gr.refl _ _⟩
  have hle : xs.length ≤ ys.length := by simp at hl; omega
  have hge : ys.length ≤ xs.length := by simp at hl; omega
  go_enter Try.func19, Try.ntmps19
  go_wp2_with fail
  go_loopw [5] (fun i wr => ∃ n : Nat, n ≤ xs.length ∧ i = .int .i64 n ∧ (xs.drop n = ys.drop n ↔ xs = ys) ∧ Gr [] w wr) (fun i _ => xs.length - (intOf i).toNat)
  case atStart => exact ⟨0, Nat.zero_le _, rfl, by simp, Gr.refl _ _⟩
  case round =>
    obtain ⟨n, hn, rfl, hd, hg⟩ := hrel
    have Hd := hid hd; clear hd
    by_cases hlt : n < xs.length
    · obtain ⟨x, hx⟩ := get_some hlt
      obtain ⟨y, hy⟩ := get_some (show n < ys.length by omega)
      obtain ⟨b, o, rfl, _, h0⟩ := (Hxc.out.gr hg) n x hx
      obtain ⟨b', o', rfl, _, h1⟩ := (Hyc.out.gr hg) n y hy
      have HX := hid (drop_cons hx); have HY := hid (drop_cons hy); clear hx hy
      have hny : n < ys.length := by omega
      cases hb : (x != y)
      · go_wp2_with fail
        go_quiet (fail)
        go_wp2_with fail
        refine ⟨⟨n + 1, by omega, by go_num, ?_, hg.drewN _⟩, by simp [intOf]; omega⟩
        have := Hd.out
        rw [HX.out, HY.out] at this
        have e : x = y := by simpa using hb
        rw [← this, e]; simp
      · go_wp2_with fail
        go_quiet (fail)
        go_wp2_with fail
        go_ret
        refine ⟨ret_bool ?_, hg.drewN _⟩
        have := Hd.out
        rw [HX.out, HY.out] at this
        have e : x ≠ y := by simpa using hb
        symm
        rw [decide_eq_false_iff_not, ← this]; simp [e]
    · go_wp2_with fail
      go_ret
      refine ⟨ret_bool ?_, hg⟩
      symm
      rw [decide_eq_true_eq, ← Hd.out, drop_end (by omega), drop_end (by omega)]

/-- Domains that no constraint changes are those that propagation leaves as they are. -/
theorem cons_iff_fix {m : Mod} {D : List Nat} (h : VM m D) (h0 : 0 ∉ D) : consB m.cons D = decide (fix m.cons D = D) := by
  rw [Bool.eq_iff_iff, consB_iff, decide_eq_true_eq, ← stepF_eq_iff h.cons]
  constructor
  · exact fix_done h.cons h0
  · intro he
    by_cases hs : stepF m.cons D = D
    · exact hs
    · have h1 := fix_more h.cons h0 hs
      have h2 := fix_sub (cs := m.cons) (D := stepF m.cons D) (by rw [stepF_len]; exact h.cons)
      rw [← h1, he] at h2
      have := stepF_sub h.cons
      exact this.antisymm h2

end Go.Proofs.Ytngpcoilgilmjaa

set_option linter.unusedVariables false
namespace Go.Proofs.Ytngpcoilgilmjaa
open Go.RowKit

theorem and_sub {D E : List Nat} (h : Sub D E) {i d e : Nat} (hd : D[i]? = some d) (he : E[i]? = some e) : d &&& e = d := by
  refine Nat.eq_of_testBit_eq fun n => ?_
  rw [Nat.testBit_and]
  cases hb : d.testBit n
  · rfl
  · have := h.2 i n (by simpa [List.getD_eq_getElem?_getD, hd] using hb)
    rw [List.getD_eq_getElem?_getD, he] at this
    simpa using this
theorem fix_bool {m : Mod} {D : List Nat} (h : VM m D) : ∃ fb : Bool, (∀ (i : Nat) d, (fix m.cons D)[i]? = some d → ((d : Int) == 0) = fb) ∧ isConsB ⟨ints (fix m.cons D), m.cons⟩ (fix m.cons D) = !fb := by
  have hl := fix_len h.cons
  have hv : VM ⟨ints (fix m.cons D), m.cons⟩ (fix m.cons D) := ⟨rfl, by rw [hl]; exact h.len, fix_below h.cons h.below, by rw [hl]; exact h.cons, h.many⟩
  rcases fix_end h.cons with e | ⟨h0, hs⟩
  · refine ⟨true, fun i d hd => ?_, ?_⟩
    · rw [e] at hd
      unfold zeros at hd
      have := List.eq_of_mem_replicate (List.mem_of_getElem? hd)
      subst this; rfl
    · have h0 : 0 ∈ fix m.cons D := by rw [e]; unfold zeros; rw [List.mem_replicate]; have := h.len; exact ⟨by omega, rfl⟩
      unfold isConsB
      simp [h0]
  · refine ⟨false, fun i d hd => ?_, ?_⟩
    · have : d ≠ 0 := fun e => h0 (e ▸ List.mem_of_getElem? hd)
      simp; omega
    · unfold isConsB
      have h1 : consB m.cons (fix m.cons D) = true := consB_iff.2 ((stepF_eq_iff (by rw [hl]; exact h.cons)).1 hs)
      rw [hv.valid]
      simp [h0, h1]
theorem VM.fixed {m : Mod} {D : List Nat} (h : VM m D) : VM ⟨ints (fix m.cons D), m.cons⟩ (fix m.cons D) := by
  have hl := fix_len h.cons
  exact ⟨rfl, by rw [hl]; exact h.len, fix_below h.cons h.below, by rw [hl]; exact h.cons, h.many⟩

end Go.Proofs.Ytngpcoilgilmjaa

set_option linter.unusedVariables false
namespace Go.Proofs.Ytngpcoilgilmjaa
open Go.RowKit

theorem RowsV.at {S : List Nat} {w : World} {ao : Option Addr} {n cap : Nat} {rows : List (List Int)} (h : RowsV S w (.slice ao n cap) rows) {i : Nat} {r : List Int} (hi : rows[i]? = some r) :
    ∃ b o u, ao = some ⟨b, o, none⟩ ∧ w.cell? ⟨b, o + i, none⟩ = some u ∧ Nums S w .i64 u r := by
  obtain ⟨ao', cap', e, _, hc⟩ := h
  cases e
  obtain ⟨b, o, u, e1, _, h1, h2⟩ := hc i r hi
  exact ⟨b, o, u, e1, h1, h2⟩

end Go.Proofs.Ytngpcoilgilmjaa
