/-
  Walks of small functions of the reference.
  Walk of (*enumerator).walk: every tuple that satisfies the constraint gives its values support.
  Walks of the reference's propagation.
-/
import Derived.Test.YtihkeihnpiddoaaGreatXFP
import Derived.Test.YtihkeihnpiddoaaGreatXKL
import Derived.StillTailTactics
import Derived.BigFrame
import Derived.Test.YtihkeihnpiddoaaGreatXVeG
import Derived.RegionTactic
import Derived.BigRegion
import Derived.ChangeAlike
set_option linter.unusedVariables false
namespace Go.Proofs.YtihkeihnpiddoaaGreat
open Go.RowKit

theorem copyInts_c (v : Value) (xs : List Int) (w : World) (hx : Nums [] w .i64 v xs) (hl : xs.length ≤ 2000000) :
    Calls Tryz.prog 46 #[v] w fun e w' => ∃ v', e = .returned v' ∧ Own w.heap.size w' 3 v' xs ∧ Gr [] w w' := by
  have Hx := hid hx
  obtain ⟨ao, cap, rfl, ⟨h1, h2, _⟩, _⟩ := hx
  go_enter Tryz.func46, Tryz.ntmps46
  go_wp2_with (at_builtin; refine wp_appN rfl _ _ 23 rfl w.heap.size 3 infoI Tryz.underlying23 _ [] xs rfl (Own.empty w 3 (Nat.le_refl _)) _ [] rfl (Hx.out.gr ((Gr.refl [] w).alloc _)) (by simp; omega) (by simp) ?_; intro v' w' hown hb)
  go_ret
  exact ⟨_, rfl, by simpa using hown, ((Gr.refl [] w).alloc _).low hb (Nat.le_refl _)⟩

theorem equalInts_c (xs ys : List Int) (vx vy : Value) (w : World) (hx : Nums [] w .i64 vx xs) (hy : Nums [] w .i64 vy ys) :
    Calls Tryz.prog 142 #[vx, vy] w fun e w' => e = .returned (.bool (decide (xs = ys))) ∧ Gr [] w w' := by
  obtain ⟨xo, xc, rfl, ⟨hx1, hx2, _⟩, hxc⟩ := hx
  obtain ⟨yo, yc, rfl, ⟨hy1, hy2, _⟩, hyc⟩ := hy
  have Hxc := hid hxc; have Hyc := hid hyc; clear hxc hyc
  have hxl : xs.length ≤ 9223372036854775807 := by omega
  have hyl : ys.length ≤ 9223372036854775807 := by omega
  cases hl : ((xs.length : Int) != (ys.length : Int))
  rotate_left
  · have hne : xs ≠ ys := by rintro rfl; simp at hl
    have Hne := hid hne; clear hne
    go_enter Tryz.func142, Tryz.ntmps142
    go_wp2_with fail
    go_ret
    exact ⟨ret_bool (by simp [Hne.out]), Gr.refl _ _⟩
  have hle : xs.length ≤ ys.length := by simp at hl; omega
  have hge : ys.length ≤ xs.length := by simp at hl; omega
  go_enter Tryz.func142, Tryz.ntmps142
  go_wp2_with fail
  go_loopw [5] (fun i wr => ∃ n : Nat, n ≤ xs.length ∧ i = .int .i64 n ∧ (xs.drop n = ys.drop n ↔ xs = ys) ∧ Gr [] w wr) (fun i _ => xs.length - (intOf i).toNat)
  case atStart => exact ⟨0, Nat.zero_le _, rfl, by simp, Gr.refl _ _⟩
  case round =>
    obtain ⟨n, hn, rfl, hd, hg⟩ := hrel
    have Hd := hid hd; clear hd
    by_cases hlt : n < xs.length
    · obtain ⟨x, hx⟩ := get_some hlt
      obtain ⟨y, hy⟩ := get_some (show n < ys.length by omega)
      obtain ⟨b, o, rfl, _, h0⟩ := (Hxc.out.gr hg) n x hx
      obtain ⟨b', o', rfl, _, h1⟩ := (Hyc.out.gr hg) n y hy
      have HX := hid (drop_cons hx); have HY := hid (drop_cons hy); clear hx hy
      have hny : n < ys.length := by omega
      cases hb : (x != y)
      · go_wp2_with fail
        go_quiet (fail)
        go_wp2_with fail
        refine ⟨⟨n + 1, by omega, by go_num, ?_, hg.drewN _⟩, by simp [intOf]; omega⟩
        have := Hd.out
        rw [HX.out, HY.out] at this
        have e : x = y := by simpa using hb
        rw [← this, e]; simp
      · go_wp2_with fail
        go_quiet (fail)
        go_wp2_with fail
        go_ret
        refine ⟨ret_bool ?_, hg.drewN _⟩
        have := Hd.out
        rw [HX.out, HY.out] at this
        have e : x ≠ y := by simpa using hb
        symm
        rw [decide_eq_false_iff_not, ← this]; simp [e]
    · go_wp2_with fail
      go_ret
      refine ⟨ret_bool ?_, hg⟩
      symm
      rw [decide_eq_true_eq, ← Hd.out, drop_end (by omega), drop_end (by omega)]

theorem hasEmpty_c (xs : List Int) (v : Value) (w : World) (hx : Nums [] w .i64 v xs) :
    Calls Tryz.prog 97 #[v] w fun e w' => e = .returned (.bool (memB 0 xs)) ∧ w = w' := by
  obtain ⟨xo, xc, rfl, ⟨hx1, hx2, _⟩, hxc⟩ := hx
  have Hxc := hid hxc; clear hxc
  have hxl : xs.length ≤ 9223372036854775807 := by omega
  go_enter Tryz.func97, Tryz.ntmps97
  go_wp2_with fail
  go_loop [3] (fun i => ∃ n : Nat, n ≤ xs.length ∧ i = .int .i64 n ∧ (0 ∈ xs.drop n ↔ 0 ∈ xs)) (fun i => xs.length - (intOf i).toNat)
  case atStart => exact ⟨0, Nat.zero_le _, rfl, by simp⟩
  case round =>
    obtain ⟨n, hn, rfl, hd⟩ := hrel
    have Hd := hid hd; clear hd
    by_cases hlt : n < xs.length
    · obtain ⟨x, hx⟩ := get_some hlt
      obtain ⟨b, o, rfl, _, h0⟩ := Hxc.out n x hx
      have HX := hid (drop_cons hx); clear hx
      cases hb : (x == 0)
      · go_wp2_with fail
        refine ⟨⟨n + 1, by omega, by go_num, ?_⟩, by simp [intOf]; omega⟩
        have := Hd.out
        rw [HX.out] at this
        rw [← this]
        have e : ¬ 0 = x := by intro e; subst e; simp at hb
        simp [e]
      · go_wp2_with fail
        go_ret
        refine ⟨ret_bool ?_, rfl⟩
        have := Hd.out
        rw [HX.out] at this
        have e : x = 0 := by simpa using hb
        unfold memB
        symm
        rw [decide_eq_true_eq, ← this, e]; simp
    · go_wp2_with fail
      go_ret
      refine ⟨ret_bool ?_, rfl⟩
      unfold memB
      symm
      rw [decide_eq_false_iff_not, ← Hd.out, drop_end (by omega)]; simp

def hasB (d : Nat) (v : Int) : Bool := inB 0 5 v && d.testBit v.toNat
theorem domainHas_c (d : Nat) (v : Int) (hd : d < 64) (w : World) :
    Calls Tryz.prog 154 #[.int .i64 d, .int .i64 v] w fun e w' => e = .returned (.bool (hasB d v)) ∧ w' = w := by
  cases hb : inB 0 5 v
  · go_enter Tryz.func154, Tryz.ntmps154
    go_wp2_with (go_at_call 93; refine (inRange_c _ _ _ _).mono ?_; rintro e w' ⟨rfl, rfl⟩)
    go_ret
    exact ⟨ret_bool (by unfold hasB; rw [hb]; rfl), rfl⟩
  · have hv := inB_iff.1 hb
    obtain ⟨v, rfl⟩ := Int.eq_ofNat_of_zero_le hv.1
    have hv6 : v < 6 := by omega
    clear hv
    go_enter Tryz.func154, Tryz.ntmps154
    go_wp2_with (go_at_call 93; refine (inRange_c _ _ _ _).mono ?_; rintro e w' ⟨rfl, rfl⟩)
    go_ret
    exact ⟨ret_bool (by unfold hasB; rw [hb, testBit_and d v hd]; rfl), rfl⟩
theorem hasB_nat (d v : Nat) (hv : v < 6) : hasB d v = d.testBit v := by
  unfold hasB
  rw [inB_iff.2 (by omega)]; simp

end Go.Proofs.YtihkeihnpiddoaaGreat

namespace Go.Proofs.YtihkeihnpiddoaaGreat
open Go.RowKit

theorem domainHas_t {d v : Nat} (hd : d < 64) (hv : v < 6) (hb : d.testBit v = true) (w : World) : Calls Tryz.prog 154 #[.int .i64 d, .int .i64 v] w fun e w' => e = .returned (.bool true) ∧ w' = w := by
  have := domainHas_c d v hd w
  rwa [hasB_nat d v hv, hb] at this
theorem domainHas_f {d v : Nat} (hd : d < 64) (hv : v < 6) (hb : d.testBit v = false) (w : World) : Calls Tryz.prog 154 #[.int .i64 d, .int .i64 v] w fun e w' => e = .returned (.bool false) ∧ w' = w := by
  have := domainHas_c d v hd w
  rwa [hasB_nat d v hv, hb] at this

theorem Own.len {B : Nat} {w : World} {e : TypeId} {ao : Option Addr} {n cap : Nat} {xs : List Int} (h : Own B w e (.slice ao n cap) xs) : n = xs.length := by
  rcases h.2 with ⟨h1, h2⟩ | ⟨g', cap', cur, e1, _⟩
  · cases h1; omega
  · cases e1; rfl

/-- The enumerator's memory. -/
structure ES (W : World) (E bx bs : Nat) (c : Con) (vv av rv dv : Value) (d : List Nat) (xs : List Int) (sup : List Nat) : Prop where
  e : W.heap[E]? = some (.cells #[.int .i64 c.kind, vv, av, .int .i64 c.bound, rv, dv, .slice (some ⟨bx, 0, none⟩) c.vars.length c.vars.length, .slice (some ⟨bs, 0, none⟩) c.vars.length c.vars.length] 157 (0, 0))
  con : ConV [bx, bs] W (.agg #[.int .i64 c.kind, vv, av, .int .i64 c.bound, rv]) c
  vars : Nums [bx, bs] W .i64 vv c.vars
  dom : Nums [bx, bs] W .i64 dv (ints d)
  x : Own bx W 3 (.slice (some ⟨bx, 0, none⟩) c.vars.length c.vars.length) xs
  s : Own bs W 3 (.slice (some ⟨bs, 0, none⟩) c.vars.length c.vars.length) (ints sup)
theorem ES.gr {W W' : World} {E bx bs : Nat} {c : Con} {vv av rv dv : Value} {d : List Nat} {xs : List Int} {sup : List Nat} (h : ES W E bx bs c vv av rv dv d xs sup) (hg : Gr [] W W') : ES W' E bx bs c vv av rv dv d xs sup :=
  ⟨hg.obj h.e (by simp), h.con.gr hg.any, h.vars.gr hg.any, h.dom.gr hg.any, h.x.gr hg (by simp), h.s.gr hg (by simp)⟩
theorem ES.setX {W : World} {E bx bs : Nat} {c : Con} {vv av rv dv : Value} {d : List Nat} {xs : List Int} {sup : List Nat} (h : ES W E bx bs c vv av rv dv d xs sup) (hne : bx ≠ bs ∧ bx ≠ E ∧ bs ≠ E) (i : Nat) (v : Int) (hi : i < xs.length) :
    ES (W.setCell ⟨bx, i, none⟩ (.int .i64 v)) E bx bs c vv av rv dv d (xs.set i v) sup :=
  have hg : Gr [bx] W (W.setCell ⟨bx, i, none⟩ (.int .i64 v)) := (Gr.refl _ _).setCell _ _ (.inl (by simp))
  have hg2 : Gr [bx, bs] W (W.setCell ⟨bx, i, none⟩ (.int .i64 v)) := (Gr.refl _ _).setCell _ _ (.inl (by simp))
  ⟨hg.obj h.e (by simp; exact fun e => hne.2.1 e.symm), h.con.gr hg2, h.vars.gr hg2, h.dom.gr hg2, h.x.set i v hi, h.s.keep hg (by simp; exact fun e => hne.1 e.symm)⟩
theorem ES.setS {W : World} {E bx bs : Nat} {c : Con} {vv av rv dv : Value} {d : List Nat} {xs : List Int} {sup : List Nat} (h : ES W E bx bs c vv av rv dv d xs sup) (hne : bx ≠ bs ∧ bx ≠ E ∧ bs ≠ E) (i : Nat) (v : Nat) (hi : i < sup.length) :
    ES (W.setCell ⟨bs, i, none⟩ (.int .i64 v)) E bx bs c vv av rv dv d xs (sup.set i v) :=
  have hg : Gr [bs] W (W.setCell ⟨bs, i, none⟩ (.int .i64 v)) := (Gr.refl _ _).setCell _ _ (.inl (by simp))
  have hg2 : Gr [bx, bs] W (W.setCell ⟨bs, i, none⟩ (.int .i64 v)) := (Gr.refl _ _).setCell _ _ (.inl (by simp))
  ⟨hg.obj h.e (by simp; exact fun e => hne.2.2 e.symm), h.con.gr hg2, h.vars.gr hg2, h.dom.gr hg2, h.x.keep hg (by simp; exact hne.1), by rw [ints_set]; exact h.s.set i v (by rw [ints_len]; exact hi)⟩
theorem ES.drewN {W : World} {E bx bs : Nat} {c : Con} {vv av rv dv : Value} {d : List Nat} {xs : List Int} {sup : List Nat} (h : ES W E bx bs c vv av rv dv d xs sup) (n : Nat) : ES (W.drewN n) E bx bs c vv av rv dv d xs sup := h.gr ((Gr.refl _ _).drewN n)

theorem take_set {xs xs' : List Int} {i : Nat} {v : Int} (h : xs'.take i = xs.take i) (hi : i < xs'.length) : (xs'.set i v).take (i + 1) = xs.take i ++ [v] := by
  rw [List.take_succ_eq_append_getElem (by simpa using hi), List.take_set_of_le (Nat.le_refl _), h]
  simp
theorem suppFold_app (sat : List Int → Bool) (acc : List Nat) (A B : List (List Int)) : suppFold sat acc (A ++ B) = suppFold sat (suppFold sat acc A) B := by simp [suppFold, List.foldl_append]
theorem or_pow_of {z y : Nat} (hz : z < 64) (hy : y < 6) : (z.testBit y = true → z ||| 2 ^ y = z) ∧ (z.testBit y = false → z + 2 ^ y = z ||| 2 ^ y) := by
  have : ∀ (z : Fin 64) (y : Fin 6), (z.val.testBit y.val = true → z.val ||| 2 ^ y.val = z.val) ∧ (z.val.testBit y.val = false → z.val + 2 ^ y.val = z.val ||| 2 ^ y.val) := by decide +kernel
  exact this ⟨z, hz⟩ ⟨y, hy⟩
theorem plus_shl {z y : Nat} (hz : z < 64) (hy : y < 6) (hb : z.testBit y = false) : wrap64 ((z : Int) + wrap64 (2 ^ y)) = ((z ||| 2 ^ y : Nat) : Int) := by
  have h := pow_shl y hy
  rw [Int.one_mul] at h
  have h2 := (or_pow_of hz hy).2 hb
  have h3 := or_lt64 hz hy
  rw [← IntWalk.i64_left (2 ^ y), h, IntWalk.wrap64_in _ (by omega)]
  omega
/-- What 'walk' leaves. -/
def WalkPost (E bx bs : Nat) (c : Con) (vv av rv dv : Value) (d : List Nat) (i : Nat) (xs : List Int) (sup : List Nat) (W : World) (e : Ending) (w' : World) : Prop :=
  (∃ v, e = .returned v) ∧ ∃ xs', xs'.take i = xs.take i ∧ xs'.length = c.vars.length ∧ ES w' E bx bs c vv av rv dv d xs' (suppFold (satB c) sup (tupsFrom (xs.take i) (((wordN c.vars d).drop i).map vals))) ∧
    Below64 (suppFold (satB c) sup (tupsFrom (xs.take i) (((wordN c.vars d).drop i).map vals))) ∧ (suppFold (satB c) sup (tupsFrom (xs.take i) (((wordN c.vars d).drop i).map vals))).length = c.vars.length ∧ Gr [bx, bs] W w'

set_option maxRecDepth 100000 in
set_option maxHeartbeats 1000000 in
theorem walk_leaf (E bx bs : Nat) (c : Con) (vo : Option Addr) (vc : Nat) (av rv dv : Value) (d : List Nat) (hc : VC c d.length) (hne : bx ≠ bs ∧ bx ≠ E ∧ bs ≠ E) (xs : List Int) (sup : List Nat) (W : World)
    (hE : ES W E bx bs c (.slice vo c.vars.length vc) av rv dv d xs sup) (hs : Below64 sup) (hx : ∀ x ∈ xs, 0 ≤ x ∧ x ≤ 5) (hsl : sup.length = c.vars.length) :
    Calls Tryz.prog 143 #[.pointer (some ⟨E, 0, none⟩), .int .i64 c.vars.length] W (WalkPost E bx bs c (.slice vo c.vars.length vc) av rv dv d c.vars.length xs sup W) := by
  have hxl := hE.x.len
  have fE := fld hE.e
  have hk4 : c.vars.length ≤ 4 := by have := hc.k; have := hc.n4; omega
  have HF : Hid (Fit c xs) := hid ⟨hc.fits, hxl.symm, by have := hc.k; omega, by omega, hx⟩
  have HX := hid hx; have HE := hid hE; have HS := hid hs; have Hxl := hid hxl; have Hsl := hid hsl
  have hp : tupsFrom (xs.take c.vars.length) (((wordN c.vars d).drop c.vars.length).map vals) = [xs] := by
    rw [drop_end (by rw [wordN_len]; exact Nat.le_refl _), List.take_of_length_le (by omega)]; simp [tupsFrom_nil]
  have hpost : suppFold (satB c) sup [xs] = if satB c xs then addT sup xs else sup := by simp [suppFold]
  have Hp := hid (And.intro hp hpost)
  clear hE hs hx hxl hsl hp hpost hc
  go_enter Tryz.func143, Tryz.ntmps143
  go_wp2_with fail
  have fE2 : ∀ (n : GrW [] W) j, n.val.cell? ⟨E, j, none⟩ = #[.int .i64 c.kind, .slice vo c.vars.length vc, av, .int .i64 c.bound, rv, dv, .slice (some ⟨bx, 0, none⟩) c.vars.length c.vars.length, .slice (some ⟨bs, 0, none⟩) c.vars.length c.vars.length][j]? := fun n j => fld (n.gr.obj HE.out.e (by simp)) j
  have HxN : Hid (Nums [] W .i64 (.slice (some ⟨bx, 0, none⟩) c.vars.length c.vars.length) xs) := hid (HE.out.x.nums (by simp))
  cases hsat : satB c xs
  all_goals
    have hcall : ∀ n : GrW [] W, Calls Tryz.prog 153 #[.agg #[.int .i64 c.kind, .slice vo c.vars.length vc, av, .int .i64 c.bound, rv], .slice (some ⟨bx, 0, none⟩) c.vars.length c.vars.length] n.val fun e w'' => e = .returned (.bool (satB c xs)) ∧ ∃ m : GrW [] W, w'' = m.val := fun n =>
      Calls.gr_of (satisfies_c c xs _ _ _ ((HE.out.con.sub (by simp)).gr n.gr) (HxN.out.gr n.gr) HF.out)
    rw [hsat] at hcall
    have Hsat := hid hsat
    clear hsat
    refine wp_region_gr [] _ (by kernel_rfl) (by kernel_rfl) (Gr.refl _ _) ?_
    repeat (go_big_quiet_step ((go_at_call 153; exact hcall _)))
    refine wpQuiet_nil ?_
    rintro w6 ⟨n6, rfl⟩
    have hE6 := HE.out.gr n6.gr
    have Hg6 := hid n6.gr
    have fE6 := fld hE6.e
    clear hcall
  · go_wp2_with fail
    refine bodyPost_end (results_none rfl _ _ _) rfl ?_
    refine ⟨⟨_, rfl⟩, xs, rfl, Hxl.out.symm, ?_⟩
    rw [Hp.out.1, Hp.out.2, Hsat.out]
    exact ⟨hE6, HS.out, Hsl.out, Hg6.out.any⟩
  · have HE6 := hid hE6
    clear hE6 fE fE2
    go_wp2_with fail
    go_loopw [4] (fun i wr => ∃ n : Nat, n ≤ c.vars.length ∧ i = .int .i64 n ∧ ES wr E bx bs c (.slice vo c.vars.length vc) av rv dv d xs (addN n sup xs) ∧ Gr [bx, bs] n6.val wr) (fun i _ => c.vars.length - (intOf i).toNat)
    case atStart => exact ⟨0, Nat.zero_le _, rfl, by rw [addN_zero]; exact HE6.out, Gr.refl _ _⟩
    case round =>
      obtain ⟨n, hn, rfl, hE, hg⟩ := hrel
      have fEr := fld hE.e
      by_cases hlt : n < c.vars.length
      · have hac : xs.length = sup.length := by rw [Hsl.out, Hxl.out]
        obtain ⟨y, hy⟩ := get_some (xs := xs) (k := n) (by rw [← Hxl.out]; exact hlt)
        have hyr := HX.out y (List.mem_of_getElem? hy)
        obtain ⟨y, rfl⟩ := Int.eq_ofNat_of_zero_le hyr.1
        obtain ⟨z, hz⟩ := get_some (xs := sup) (k := n) (by rw [Hsl.out]; exact hlt)
        have hz64 := HS.out z (List.mem_of_getElem? hz)
        have hy6 : y < 6 := by omega
        obtain ⟨hx1, hx2⟩ := hE.x.at hy
        obtain ⟨hs1, hs2⟩ := hE.s.at (i := n) (x := z) (by rw [ints_get, addN_get hac (by rw [Hsl.out]; exact hlt), hz]; rfl)
        have hsu := addN_succ hac hz hy
        have hset := hE.setS hne n (z ||| 2 ^ y) (by rw [addN_len hac, Hsl.out]; exact hlt)
        rw [hsu] at hset
        have hor := or_pow_of hz64 hy6
        have hnoset : z.testBit y = true → addN n sup xs = addN (n + 1) sup xs := fun hb => by
          rw [← hsu, hor.1 hb]
          refine (List.ext_getElem? fun j => ?_)
          by_cases hj : n = j
          · subst hj
            rw [List.getElem?_set_self (by rw [addN_len hac, Hsl.out]; exact hlt), addN_get hac (by rw [Hsl.out]; exact hlt), hz]
          · rw [List.getElem?_set_ne hj]
        have HXY := hid hy; have HSU := hid hsu; have HL := hid (show n < (addN n sup xs).length by rw [addN_len hac, Hsl.out]; exact hlt)
        have HSZ : Hid ((ints (addN n sup xs))[n]? = some ((z : Nat) : Int)) := hid (by rw [ints_get, addN_get hac (by rw [Hsl.out]; exact hlt), hz]; rfl)
        have HEr := hid hE; have Hg := hid hg; have Hor := hid hor; have Hno := hid hnoset
        clear hset hE hg hor hnoset hsu hz hy hac
        clear hyr
        cases hb : z.testBit y
        · have Hb := hid hb; clear hb
          go_wp2_with fail
          go_quiet ((go_at_call 154; exact Calls.quiet_of_same (domainHas_f hz64 hy6 Hb.out _)))
          go_wp2_with fail
          have hxy := HXY.out
          have hsz := HSZ.out
          clear hx1 hx2 hs1 hs2 fEr
          refine wp_still_tail 22 (by kernel_rfl) (by kernel_rfl) ?_
          intro W2 hg2
          have hg02 : Gr [] wr W2 := ((Gr.refl _ _).drewN _).trans hg2
          have hE2 := HEr.out.gr hg02
          have fE2 := fld hE2.e
          obtain ⟨hx1, hx2⟩ := hE2.x.at hxy
          obtain ⟨hs1, hs2⟩ := hE2.s.at hsz
          have hset2 := hE2.setS hne n (z ||| 2 ^ y) HL.out
          rw [HSU.out] at hset2
          have HE2 := hid hset2; have Hg02 := hid hg02
          clear hE2 hset2 hg2 hg02 hxy hsz
          simp only [List.take_succ_cons, List.take_zero, List.drop_succ_cons, List.drop_zero]
          repeat still_step
          refine wpStill_nil ?_
          go_wp2_with fail
          refine ⟨⟨n + 1, by omega, by go_num, ?_, (Hg.out.trans Hg02.out.any).setCell _ _ (.inl (by simp))⟩, by simp [intOf]; omega⟩
          rw [plus_shl hz64 hy6 Hb.out]
          exact HE2.out
        · have Hb := hid hb; clear hb
          go_wp2_with fail
          go_quiet ((go_at_call 154; exact Calls.quiet_of_same (domainHas_t hz64 hy6 Hb.out _)))
          go_wp2_with fail
          refine ⟨⟨n + 1, by omega, by go_num, ?_, Hg.out.drewN _⟩, by simp [intOf]; omega⟩
          rw [← Hno.out Hb.out]
          exact HEr.out.drewN _
      · go_wp2_with fail
        refine bodyPost_end (results_none rfl _ _ _) rfl ?_
        refine ⟨⟨_, rfl⟩, xs, rfl, Hxl.out.symm, ?_⟩
        have hac : xs.length = sup.length := by rw [Hsl.out, Hxl.out]
        have hb := addN_below HS.out HX.out n
        rw [addN_all hac (by rw [Hsl.out]; omega)] at hE hb
        rw [Hp.out.1, Hp.out.2, Hsat.out, if_pos rfl]
        exact ⟨hE, hb, by rw [addT_len hac, Hsl.out], Hg6.out.any.trans hg⟩

set_option maxRecDepth 100000 in
set_option maxHeartbeats 1000000 in
theorem walk_c (E bx bs : Nat) (c : Con) (vo : Option Addr) (vc : Nat) (av rv : Value) (dO : Option Addr) (dc : Nat) (d : List Nat) (hc : VC c d.length) (hd : Below64 d) (hne : bx ≠ bs ∧ bx ≠ E ∧ bs ≠ E) (r : Nat) :
    ∀ (i : Nat) (xs : List Int) (sup : List Nat) (W : World), i + r = c.vars.length → ES W E bx bs c (.slice vo c.vars.length vc) av rv (.slice dO d.length dc) d xs sup → Below64 sup → (∀ x ∈ xs.take i, 0 ≤ x ∧ x ≤ 5) → sup.length = c.vars.length →
    Calls Tryz.prog 143 #[.pointer (some ⟨E, 0, none⟩), .int .i64 i] W (WalkPost E bx bs c (.slice vo c.vars.length vc) av rv (.slice dO d.length dc) d i xs sup W) := by
  induction r with
  | zero =>
    intro i xs sup W hi hE hs hx hsl
    have hi' : i = c.vars.length := by omega
    subst hi'
    rw [List.take_of_length_le (by rw [← hE.x.len]; exact Nat.le_refl _)] at hx
    exact walk_leaf E bx bs c vo vc av rv _ d hc hne xs sup W hE hs hx hsl
  | succ r ih =>
    intro i xs sup W hi hE hs hx hsl
    have hilt : i < c.vars.length := by omega
    have hxl := hE.x.len
    have fE := fld hE.e
    obtain ⟨v, hv⟩ := get_some hilt
    have hvr := hc.rng v (List.mem_of_getElem? hv)
    obtain ⟨v, rfl⟩ := Int.eq_ofNat_of_zero_le hvr.1
    have hvd : v < d.length := by omega
    have hdi : (ints d)[v]? = some ((d.getD v 0 : Nat) : Int) := by rw [ints_get, List.getElem?_eq_getElem hvd]; simp [List.getD_eq_getElem?_getD, hvd]
    have hd64 : d.getD v 0 < 64 := by rw [List.getD_eq_getElem?_getD, List.getElem?_eq_getElem hvd]; exact hd _ (List.getElem_mem hvd)
    have hw : (wordN c.vars d).drop i = d.getD v 0 :: (wordN c.vars d).drop (i + 1) := drop_cons (by rw [wordN_get _ _ _ _ hv]; rfl)
    have hfrom : tupsFrom (xs.take i) (((wordN c.vars d).drop i).map vals) = (vals (d.getD v 0)).flatMap fun u => tupsFrom (xs.take i ++ [u]) (((wordN c.vars d).drop (i + 1)).map vals) := by
      rw [hw, List.map_cons, tupsFrom_cons]
    have hk4 : c.vars.length ≤ 4 := by have := hc.k; have := hc.n4; omega
    have hvl := hE.vars.len
    have hdl := hE.dom.len
    have HX := hid hx; have HE := hid hE; have HS := hid hs; have Hxl := hid hxl; have Hsl := hid hsl; have Hfrom := hid hfrom; have HV := hid hv; have HDI := hid hdi; have Hih := hid ih; have Hi := hid hi; have HV2 := hid hvl; have HD2 := hid hdl
    obtain ⟨di, hdi2⟩ : ∃ di, di = d.getD v 0 := ⟨_, rfl⟩
    have Hdi2 := hid hdi2
    clear hE hs hx hxl hsl hfrom hw hv hdi ih hi hc hvl hdl
    rw [← hdi2] at hd64
    clear hdi2
    go_enter Tryz.func143, Tryz.ntmps143
    go_wp2_with fail
    go_loopw [5] (fun u wr => ∃ n : Nat, n ≤ 6 ∧ u = .int .i64 n ∧ ∃ xs' sup', xs'.take i = xs.take i ∧ xs'.length = c.vars.length ∧ sup' = suppFold (satB c) sup ((valsBelow di n).flatMap fun u => tupsFrom (xs.take i ++ [u]) (((wordN c.vars d).drop (i + 1)).map vals)) ∧
      ES wr E bx bs c (.slice vo c.vars.length vc) av rv (.slice dO d.length dc) d xs' sup' ∧ Below64 sup' ∧ sup'.length = c.vars.length ∧ Gr [bx, bs] W wr) (fun u _ => 6 - (intOf u).toNat)
    case atStart => exact ⟨0, by omega, rfl, xs, sup, rfl, Hxl.out.symm, by simp [valsBelow, suppFold], HE.out, HS.out, Hsl.out, Gr.refl _ _⟩
    case round =>
      obtain ⟨n, hn, rfl, xs', sup', hxt, hxl', hsup, hE, hs, hsl, hg⟩ := hrel
      have fEr := fld hE.e
      by_cases hlt : n < 6
      · have hn5 : n ≤ 5 := by omega
        obtain ⟨bv, ov, hvo, _, hcv⟩ := hE.vars.at HV.out
        obtain ⟨bd, od, hdo, _, hcd⟩ := hE.dom.at HDI.out
        rw [← Hdi2.out] at hcd
        subst hvo hdo
        have hsucc := valsBelow_succ di n
        have HEr := hid hE; have Hs := hid hs; have Hsl' := hid hsl; have Hg := hid hg; have Hxt := hid hxt; have Hxl' := hid hxl'; have Hsup := hid hsup; have Hsucc := hid hsucc
        clear hE hs hsl hg hxt hxl' hsup hsucc fE
        cases hb : di.testBit n
        · have Hb := hid hb; clear hb
          go_wp2_with fail
          go_quiet ((go_at_call 154; exact Calls.quiet_of_same (domainHas_f hd64 hlt Hb.out _)))
          go_wp2_with fail
          refine ⟨⟨n + 1, by omega, by go_num, xs', sup', Hxt.out, Hxl'.out, ?_, HEr.out.drewN _, Hs.out, Hsl'.out, Hg.out.drewN _⟩, by simp [intOf]; omega⟩
          rw [Hsucc.out, Hb.out, Hsup.out]; simp
        · have Hb := hid hb; clear hb
          have hxi : i < xs'.length := by rw [Hxl'.out]; exact hilt
          obtain ⟨xi, hxi2⟩ := get_some hxi
          obtain ⟨hx1, hx2⟩ := HEr.out.x.at hxi2
          clear hxi2
          go_wp2_with fail
          go_quiet ((go_at_call 154; exact Calls.quiet_of_same (domainHas_t hd64 hlt Hb.out _)))
          have Hxi := hid hxi; clear hxi
          go_wp2_with fail
          have hE3 := (HEr.out.drewN nq).setX hne i n Hxi.out
          have hcall := Hih.out (i + 1) (xs'.set i n) sup' _ (by have := Hi.out; omega) hE3 Hs.out (by rw [take_set Hxt.out Hxi.out]; intro x hx; rcases List.mem_append.1 hx with h | h; exact HX.out x h; simp at h; omega) Hsl'.out
          rw [Int.natCast_succ] at hcall
          (with_reducible refine hcall.mono ?_)
          clear hcall
          rintro e w5 ⟨⟨ev, rfl⟩, xs5, hx5, hxl5, hE5, hs5, hsl5, hg5⟩
          rw [take_set Hxt.out Hxi.out] at hE5 hs5 hsl5
          have hx5' : xs5.take i = xs.take i := by
            have := congrArg (List.take i) hx5
            rw [List.take_take, List.take_take, Nat.min_eq_left (by omega)] at this
            rw [this, List.take_set_of_le (Nat.le_refl _)]; exact Hxt.out
          have HE5 := hid hE5; have Hs5 := hid hs5; have Hsl5 := hid hsl5; have Hx5 := hid hx5'; have Hxl5 := hid hxl5
          have Hg5 := hid (((Hg.out.drewN nq).setCell ⟨bx, i, none⟩ (.int .i64 n) (.inl (by simp))).trans hg5)
          clear hE5 hs5 hsl5 hx5 hxl5 hg5 hx5' hE3
          go_wp2_with fail
          refine ⟨⟨n + 1, by omega, by go_num, xs5, _, Hx5.out, Hxl5.out, ?_, HE5.out, Hs5.out, Hsl5.out, Hg5.out⟩, by simp [intOf]; omega⟩
          rw [Hsucc.out, Hb.out, Hsup.out, List.flatMap_append, suppFold_app]; simp
      · have hn6 : n = 6 := by omega
        subst hn6
        go_wp2_with fail
        refine bodyPost_end (results_none rfl _ _ _) rfl ?_
        refine ⟨⟨_, rfl⟩, xs', hxt, hxl', ?_⟩
        have e1 : valsBelow di 6 = vals di := rfl
        rw [Hfrom.out, ← Hdi2.out, ← e1, ← hsup]
        exact ⟨hE, hs, hsl, hg⟩
end Go.Proofs.YtihkeihnpiddoaaGreat

namespace Go.Proofs.YtihkeihnpiddoaaGreat
open Go.RowKit

theorem es_start (w W : World) (E bx bs : Nat) (c : Con) (vo : Option Addr) (vc : Nat) (av rv dv : Value) (d : List Nat) (hv : ConV [] w (.agg #[.int .i64 c.kind, .slice vo c.vars.length vc, av, .int .i64 c.bound, rv]) c) (hd : Nums [] w .i64 dv (ints d))
    (hg : Gr [] w W) (hbx : w.heap.size ≤ bx) (hbs : w.heap.size ≤ bs) (hl : c.vars.length ≤ 4)
    (he : W.heap[E]? = some (.cells #[.int .i64 c.kind, .slice vo c.vars.length vc, av, .int .i64 c.bound, rv, dv, .slice (some ⟨bx, 0, none⟩) c.vars.length c.vars.length, .slice (some ⟨bs, 0, none⟩) c.vars.length c.vars.length] 157 (0, 0)))
    (hx : W.heap[bx]? = some (.cells (madeCells #[.int .i64 0] c.vars.length) 3 (0, 0))) (hs : W.heap[bs]? = some (.cells (madeCells #[.int .i64 0] c.vars.length) 3 (0, 0))) :
    ES W E bx bs c (.slice vo c.vars.length vc) av rv dv d (List.replicate c.vars.length 0) (List.replicate c.vars.length 0) := by
  have hsub : ∀ b, b < w.heap.size → b ∈ [bx, bs] → b ∈ ([] : List Nat) := by intro b h1 h2; simp at h2; omega
  have hv' := (hv.sub hsub).gr hg.any
  obtain ⟨vv, a2, r2, e1, hvv, _⟩ := hv
  cases e1
  refine ⟨he, hv', (hvv.sub hsub).gr hg.any, (hd.sub hsub).gr hg.any, own_made hx (Nat.le_refl _) (by omega), ?_⟩
  have : ints (List.replicate c.vars.length 0) = List.replicate c.vars.length (0 : Int) := by simp [ints]
  rw [this]; exact own_made hs (Nat.le_refl _) (by omega)

set_option maxRecDepth 100000 in
set_option maxHeartbeats 1000000 in
theorem supported_c (c : Con) (d : List Nat) (cv dv : Value) (w : World) (hv : ConV [] w cv c) (hx : Nums [] w .i64 dv (ints d)) (hc : VC c d.length) (hd : Below64 d) :
    Calls Tryz.prog 98 #[cv, dv] w fun e w' => ∃ v', e = .returned v' ∧ Own w.heap.size w' 3 v' (ints (filt c d)) ∧ Gr [] w w' := by
  have Hv := hid hv
  have Hx := hid hx
  have HC := hid hc
  have HD := hid hd
  have hl : c.vars.length ≤ 4 := by have := hc.k; have := hc.n4; omega
  obtain ⟨vv, av, rv, rfl, hvv, hav, hrv⟩ := hv
  obtain ⟨vo, vc, rfl, ⟨hv1, hv2, _⟩, hvvc⟩ := hvv
  obtain ⟨dO, dc, rfl, ⟨hd1, hd2, _⟩, _⟩ := hx
  have Hvvc := hid hvvc
  have hdl := ints_len d
  rw [hdl] at hd1 Hx ⊢
  have hb0 : (w.alloc (.cells #[.int .i64 c.kind, .slice vo c.vars.length vc, av, .int .i64 c.bound, rv] 41)).heap[w.heap.size]? = some (.cells #[.int .i64 c.kind, .slice vo c.vars.length vc, av, .int .i64 c.bound, rv] 41 (0, 0)) := heap_alloc_new _ _
  have hfl := fld hb0
  have Hb0 := hid hb0
  have hmk := fun w => run_make_row' (P := Tryz.prog) 23 3 (.int .i64 0) 8 Tryz.underlying23 infoI rfl .i64 .i64 c.vars.length (by omega) (by omega) w
  clear hc hd hav hrv hvvc hdl hb0
  go_enter Tryz.func98, Tryz.ntmps98
  go_wp2_with fail
  go_region
  all_goals
    generalize hW1 : World.drew (World.alloc _ _) = W1
    have h3 := heap3 (w.alloc (.cells #[.int .i64 c.kind, .slice vo c.vars.length vc, av, .int .i64 c.bound, rv] 41)) (.cells (madeCells #[.int .i64 0] c.vars.length) 3) (.cells (madeCells #[.int .i64 0] c.vars.length) 3)
    have hgw : Gr [] w W1 := by rw [← hW1]; exact (((((Gr.refl [] w).alloc _).alloc _).alloc _).alloc _).drew
    have hgb : Gr [] (w.alloc (.cells #[.int .i64 c.kind, .slice vo c.vars.length vc, av, .int .i64 c.bound, rv] 41)) W1 := by rw [← hW1]; exact ((((Gr.refl [] _).alloc _).alloc _).alloc _).drew
    obtain ⟨bx, bs, hne, hpos, hE⟩ : ∃ bx bs, (bx ≠ bs ∧ bx ≠ w.heap.size + 1 + 1 + 1 ∧ bs ≠ w.heap.size + 1 + 1 + 1) ∧ (w.heap.size < bx ∧ w.heap.size < bs) ∧ ES W1 (w.heap.size + 1 + 1 + 1) bx bs c (.slice vo c.vars.length vc) av rv (.slice dO d.length dc) d (List.replicate c.vars.length 0) (List.replicate c.vars.length 0) := by
      simp only [World.size_alloc] at h3
      first
      | exact ⟨w.heap.size + 1, w.heap.size + 1 + 1, by omega, by omega, es_start w W1 _ _ _ c vo vc av rv _ d Hv.out Hx.out hgw (by omega) (by omega) hl (by rw [← hW1]; exact (h3 _).2.2) (by rw [← hW1]; exact (h3 _).1) (by rw [← hW1]; exact (h3 _).2.1)⟩
      | exact ⟨w.heap.size + 1 + 1, w.heap.size + 1, by omega, by omega, es_start w W1 _ _ _ c vo vc av rv _ d Hv.out Hx.out hgw (by omega) (by omega) hl (by rw [← hW1]; exact (h3 _).2.2) (by rw [← hW1]; exact (h3 _).2.1) (by rw [← hW1]; exact (h3 _).1)⟩
    have Hgw := hid hgw; have Hgb := hid hgb
    have hfl1 := fld (hgb.obj Hb0.out (by simp))
    have HE := hid hE; have Hne := hid hne; have Hpos := hid hpos
    clear hW1 h3 hgw hgb hE hne hpos
    go_wp2_with fail
    have hcall := walk_c (w.heap.size + 1 + 1 + 1) bx bs c vo vc av rv dO dc d HC.out HD.out Hne.out c.vars.length 0 _ _ W1 (by omega) HE.out (replicate_below _) (by simp) (by simp)
    rw [Int.natCast_zero] at hcall
    (with_reducible refine hcall.mono ?_)
    clear hcall
    rintro e W2 ⟨⟨ev, rfl⟩, xs2, _, _, hE2, hs2, hsl2, hg2⟩
    have e1 : suppFold (satB c) (List.replicate c.vars.length 0) (tupsFrom ((List.replicate c.vars.length (0 : Int)).take 0) (((wordN c.vars d).drop 0).map vals)) = supp (satB c) c.vars.length (tups (wordN c.vars d)) := by
      have : tupsFrom [] ((wordN c.vars d).map vals) = tups (wordN c.vars d) := by unfold tupsFrom tups; simp
      rw [List.take_zero, List.drop_zero, this]; rfl
    rw [e1] at hE2 hs2 hsl2
    have hgw2 : Gr [] w W2 := Hgw.out.step hg2 (fun i hi => .inr (by have := Hpos.out; simp at hi; omega))
    have hb2 := hg2.obj (Hgb.out.obj Hb0.out (by simp)) (by have := Hpos.out; simp; omega)
    have hfl2 := fld hb2
    have HE2 := hid hE2; have Hsl2 := hid hsl2; have Hgw2 := hid hgw2; have Hb2 := hid hb2
    clear hE2 hs2 hsl2 hg2 hgw2 e1 hfl1 hb2
    go_wp2_with fail
    have hcall := copyInts_c _ (ints d) _ (Hx.out.gr Hgw2.out) (by have := HC.out.n4; rw [ints_len]; omega)
    (with_reducible refine hcall.mono ?_)
    clear hcall
    rintro e W3 ⟨v3, rfl, hown3, hg3⟩
    have hdp : 0 < (ints d).length := by have := HC.out.n4; rw [ints_len]; omega
    obtain ⟨go, goc, rfl, hgo, _⟩ := hown3.open hdp
    have hlo := ints_len d
    have Hown3 := hid hown3; have Hg3 := hid hg3
    have hfl3 := fld (hg3.obj Hb2.out (by simp))
    have hfe3 := fld (HE2.out.gr hg3).e
    have HE3 := hid (HE2.out.gr hg3)
    clear hown3 hg3 hfl2 hdp
    rw [hlo] at Hown3 ⊢
    clear hlo
    have hgow := Hgw2.out.size
    have hgne : go ≠ w.heap.size + 1 + 1 + 1 ∧ w.heap.size < go ∧ go ≠ bs := by
      have h1 := lt_of_block HE2.out.e
      have h2 := lt_of_block Hb2.out
      have h3 : bs < W2.heap.size := by
        obtain ⟨g, gc, e2, ⟨_, h⟩, _⟩ := HE2.out.s.open (by have := HC.out.k; rw [ints_len, Hsl2.out]; omega)
        simp only [Value.slice.injEq, Option.some.injEq, Addr.mk.injEq] at e2
        omega
      omega
    have Hgne := hid hgne
    clear hgne
    go_wp2_with fail
    go_loopw [7] (fun i wr => ∃ n : Nat, n ≤ c.vars.length ∧ i = .int .i64 n ∧ Own W2.heap.size wr 3 (.slice (some ⟨go, 0, none⟩) d.length goc) (ints (setAll (c.vars.take n) ((supp (satB c) c.vars.length (tups (wordN c.vars d))).take n) d)) ∧ Gr [go] W3 wr) (fun i _ => c.vars.length - (intOf i).toNat)
    case atStart => exact ⟨0, Nat.zero_le _, rfl, by simpa [setAll] using Hown3.out, Gr.refl _ _⟩
    case round =>
      obtain ⟨n, hn, rfl, hown, hgr⟩ := hrel
      have hb3 := hgr.obj ((Hg3.out).obj Hb2.out (by simp)) (by have := Hgne.out; simp; omega)
      have hflr := fld hb3
      by_cases hlt : n < c.vars.length
      · obtain ⟨v, hv⟩ := get_some hlt
        have hvr := HC.out.rng v (List.mem_of_getElem? hv)
        obtain ⟨v, rfl⟩ := Int.eq_ofNat_of_zero_le hvr.1
        obtain ⟨s, hs⟩ := get_some (xs := supp (satB c) c.vars.length (tups (wordN c.vars d))) (k := n) (by rw [Hsl2.out]; exact hlt)
        have hsl := setAll_len (c.vars.take n) ((supp (satB c) c.vars.length (tups (wordN c.vars d))).take n) d
        obtain ⟨a, ha⟩ := get_some (xs := setAll (c.vars.take n) ((supp (satB c) c.vars.length (tups (wordN c.vars d))).take n) d) (k := v) (by rw [hsl]; omega)
        have hvd : v < d.length := by omega
        have hset := hown.set v (s : Int) (by rw [ints_len, hsl]; exact hvd)
        have hsn := setAll_snoc (D := d) hv hs
        rw [Int.toNat_natCast] at hsn
        rw [← ints_set, ← hsn] at hset
        have Hgr := hid hgr; have Hown := hid hown; have HV := hid hv; have HA := hid ha; have HSS := hid hs; have Hb3 := hid hb3
        have Hgw3 : Hid (Gr [] w wr) := hid ((Hgw2.out.trans Hg3.out).step hgr (fun i hi => .inr (by have := Hgne.out; simp at hi; omega)))
        obtain ⟨bv, ov, rfl, _, _⟩ := Hvvc.out n _ hv
        clear hgr hown hv ha hs hset hsn hsl hb3
        go_wp2_with fail
        clear hflr
        refine wp_still_tail 14 (by kernel_rfl) (by kernel_rfl) ?_
        intro W4 hg4
        have hflr := fld (hg4.obj Hb3.out (by simp))
        have hfe := fld (hg4.obj (Hgr.out.obj HE3.out.e (by have := Hgne.out; simp; omega)) (by simp))
        obtain ⟨hc1, hc2⟩ := (Hown.out.gr hg4 (by simp)).at (i := v) (x := a) (by rw [ints_get, HA.out]; rfl)
        obtain ⟨hc3, hc4⟩ := ((HE3.out.s.keep Hgr.out (by have := Hgne.out; simp; omega)).gr hg4 (by simp)).at (i := n) (x := s) (by rw [ints_get, HSS.out]; rfl)
        obtain ⟨bv', ov', e5, _, hcv⟩ := (Hvvc.out.gr (Hgw3.out.trans hg4)) n _ HV.out
        cases e5
        have hset := (Hown.out.gr hg4 (by simp)).set v (s : Int) (by rw [ints_len, setAll_len]; exact hvd)
        have hsn := setAll_snoc (D := d) HV.out HSS.out
        rw [Int.toNat_natCast] at hsn
        rw [← ints_set, ← hsn] at hset
        have Hset := hid hset; have Hg4 := hid hg4
        clear hset hsn hg4
        simp only [List.take_succ_cons, List.take_zero, List.drop_succ_cons, List.drop_zero]
        repeat still_step
        refine wpStill_nil ?_
        go_wp2_with fail
        refine ⟨⟨n + 1, by omega, by go_num, Hset.out, (Hgr.out.trans Hg4.out.any).setCell _ _ (.inl (by simp))⟩, by simp [intOf]; omega⟩
      · go_wp2_with fail
        go_ret
        rw [List.take_of_length_le (by omega), List.take_of_length_le (by rw [Hsl2.out]; omega)] at hown
        exact ⟨_, rfl, hown.le Hgw2.out.size, (Hgw2.out.trans Hg3.out).step hgr (fun i hi => .inr (by have := Hgne.out; simp at hi; omega))⟩
end Go.Proofs.YtihkeihnpiddoaaGreat
