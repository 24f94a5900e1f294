/-
  Walks of small functions of the reference.
  Walk of (*enumerator).walk: every tuple that satisfies the constraint gives its values support.
  Walks of the reference's propagation.
-/
import Derived.Test.YtmonhpoogfdpoaaGreatXFP
import Derived.Test.YtmonhpoogfdpoaaGreatXKL
import Derived.StillTailTactics
import Derived.BigFrame
import Derived.Test.YtmonhpoogfdpoaaGreatXVeG
import Derived.RegionTactic
import Derived.BigRegion
import Derived.ChangeAlike
set_option linter.unusedVariables false
namespace Go.Proofs.YtmonhpoogfdpoaaGreat
open Go.RowKit

theorem copyInts_c (v : Value) (xs : List Int) (w : World) (hx : Nums [] w .i64 v xs) (hl : xs.length ≤ 2000000) :
    Calls Tryz.prog 79 #[v] w fun e w' => ∃ v', e = .returned v' ∧ Own w.heap.size w' 3 v' xs ∧ Gr [] w w' := by
  have Hx := hid hx
  obtain ⟨ao, cap, rfl, ⟨h1, h2, _⟩, _⟩ := hx
  go_enter Tryz.func79, Tryz.ntmps79
  go_wp2_with (at_builtin; refine wp_appN rfl _ _ 23 rfl w.heap.size 3 infoI Tryz.underlying23 _ [] xs rfl (Own.empty w 3 (Nat.le_refl _)) _ [] rfl (Hx.out.gr ((Gr.refl [] w).alloc _)) (by simp; omega) (by simp) ?_; intro v' w' hown hb)
  go_ret
  exact ⟨_, rfl, by simpa using hown, ((Gr.refl [] w).alloc _).low hb (Nat.le_refl _)⟩

theorem equalInts_c (xs ys : List Int) (vx vy : Value) (w : World) (hx : Nums [] w .i64 vx xs) (hy : Nums [] w .i64 vy ys) :
    Calls Tryz.prog 81 #[vx, vy] w fun e w' => e = .returned (.bool (decide (xs = ys))) ∧ Gr [] w w' := by
  obtain ⟨xo, xc, rfl, ⟨hx1, hx2, _⟩, hxc⟩ := hx
  obtain ⟨yo, yc, rfl, ⟨hy1, hy2, _⟩, hyc⟩ := hy
  have Hxc := hid hxc; have Hyc := hid hyc; clear hxc hyc
  have hxl : xs.length ≤ 9223372036854775807 := by omega
  have hyl : ys.length ≤ 9223372036854775807 := by omega
  cases hl : ((xs.length : Int) != (ys.length : Int))
  rotate_left
  · have hne : xs ≠ ys := by rintro rfl; simp at hl
    have Hne := hid hne; clear hne
    go_enter Tryz.func81, Tryz.ntmps81
    go_wp2_with fail
    go_ret
    exact ⟨ret_bool (by simp [Hne.out]), Gr.refl _ _⟩
  have hle : xs.length ≤ ys.length := by simp at hl; omega
  have hge : ys.length ≤ xs.length := by simp at hl; omega
  go_enter Tryz.func81, Tryz.ntmps81
  go_wp2_with fail
  go_loopw [5] (fun i wr => ∃ n : Nat, n ≤ xs.length ∧ i = .int .i64 n ∧ (xs.drop n = ys.drop n ↔ xs = ys) ∧ Gr [] w wr) (fun i _ => xs.length - (intOf i).toNat)
  case atStart => exact ⟨0, Nat.zero_le _, rfl, by simp, Gr.refl _ _⟩
  case round =>
    obtain ⟨n, hn, rfl, hd, hg⟩ := hrel
    have Hd := hid hd; clear hd
    by_cases hlt : n < xs.length
    · obtain ⟨x, hx⟩ := get_some hlt
      obtain ⟨y, hy⟩ := get_some (show n < ys.length by omega)
      obtain ⟨b, o, rfl, _, h0⟩ := (Hxc.out.gr hg) n x hx
      obtain ⟨b', o', rfl, _, h1⟩ := (Hyc.out.gr hg) n y hy
      have HX := hid (drop_cons hx); have HY := hid (drop_cons hy); clear hx hy
      have hny : n < ys.length := by omega
      cases hb : (x != y)
      · go_wp2_with fail
        go_quiet (fail)
        go_wp2_with fail
        refine ⟨⟨n + 1, by omega, by go_num, ?_, hg.drewN _⟩, by simp [intOf]; omega⟩
        have := Hd.out
        rw [HX.out, HY.out] at this
        have e : x = y := by simpa using hb
        rw [← this, e]; simp
      · go_wp2_with fail
        go_quiet (fail)
        go_wp2_with fail
        go_ret
        refine ⟨ret_bool ?_, hg.drewN _⟩
        have := Hd.out
        rw [HX.out, HY.out] at this
        have e : x ≠ y := by simpa using hb
        symm
        rw [decide_eq_false_iff_not, ← this]; simp [e]
    · go_wp2_with fail
      go_ret
      refine ⟨ret_bool ?_, hg⟩
      symm
      rw [decide_eq_true_eq, ← Hd.out, drop_end (by omega), drop_end (by omega)]

def hasB (d : Nat) (v : Int) : Bool := inB 0 5 v && d.testBit v.toNat
theorem domainHas_c (d : Nat) (v : Int) (hd : d < 64) (w : World) :
    Calls Tryz.prog 80 #[.int .i64 d, .int .i64 v] w fun e w' => e = .returned (.bool (hasB d v)) ∧ w' = w := by
  cases hb : inB 0 5 v
  · go_enter Tryz.func80, Tryz.ntmps80
    go_wp2_with (go_at_call 49; refine (inRange_c _ _ _ _).mono ?_; rintro e w' ⟨rfl, rfl⟩)
    go_ret
    exact ⟨ret_bool (by unfold hasB; rw [hb]; rfl), rfl⟩
  · have hv := inB_iff.1 hb
    obtain ⟨v, rfl⟩ := Int.eq_ofNat_of_zero_le hv.1
    have hv6 : v < 6 := by omega
    clear hv
    go_enter Tryz.func80, Tryz.ntmps80
    go_wp2_with (go_at_call 49; refine (inRange_c _ _ _ _).mono ?_; rintro e w' ⟨rfl, rfl⟩)
    go_ret
    exact ⟨ret_bool (by unfold hasB; rw [hb, testBit_and d v hd]; rfl), rfl⟩
theorem hasB_nat (d v : Nat) (hv : v < 6) : hasB d v = d.testBit v := by
  unfold hasB
  rw [inB_iff.2 (by omega)]; simp

end Go.Proofs.YtmonhpoogfdpoaaGreat

namespace Go.Proofs.YtmonhpoogfdpoaaGreat
open Go.RowKit

theorem domainHas_t {d v : Nat} (hd : d < 64) (hv : v < 6) (hb : d.testBit v = true) (w : World) : Calls Tryz.prog 80 #[.int .i64 d, .int .i64 v] w fun e w' => e = .returned (.bool true) ∧ w' = w := by
  have := domainHas_c d v hd w
  rwa [hasB_nat d v hv, hb] at this
theorem domainHas_f {d v : Nat} (hd : d < 64) (hv : v < 6) (hb : d.testBit v = false) (w : World) : Calls Tryz.prog 80 #[.int .i64 d, .int .i64 v] w fun e w' => e = .returned (.bool false) ∧ w' = w := by
  have := domainHas_c d v hd w
  rwa [hasB_nat d v hv, hb] at this

theorem Own.len {B : Nat} {w : World} {e : TypeId} {ao : Option Addr} {n cap : Nat} {xs : List Int} (h : Own B w e (.slice ao n cap) xs) : n = xs.length := by
  rcases h.2 with ⟨h1, h2⟩ | ⟨g', cap', cur, e1, _⟩
  · cases h1; omega
  · cases e1; rfl

theorem take_set {xs xs' : List Int} {i : Nat} {v : Int} (h : xs'.take i = xs.take i) (hi : i < xs'.length) : (xs'.set i v).take (i + 1) = xs.take i ++ [v] := by
  rw [List.take_succ_eq_append_getElem (by simpa using hi), List.take_set_of_le (Nat.le_refl _), h]
  simp
end Go.Proofs.YtmonhpoogfdpoaaGreat

namespace Go.Proofs.YtmonhpoogfdpoaaGreat
open Go.RowKit

end Go.Proofs.YtmonhpoogfdpoaaGreat
