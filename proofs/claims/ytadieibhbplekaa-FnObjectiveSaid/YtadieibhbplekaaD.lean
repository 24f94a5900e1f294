/-
  Walks of the reader of codes and of the small generators.
-/
import Derived.Test.YtadieibhbplekaaA
import Derived.Deep.QuietTactic
import Derived.BigQuiet
namespace Go.Proofs.Ytadieibhbplekaa
open Go.RowKit

/-- The reader: block R holds the code and the position, which is at most q. -/
def Rd (w : World) (R : Nat) (bs : List Int) (q : Nat) : Prop :=
  ∃ (ao : Option Addr) (cap p : Nat), w.heap[R]? = some (.cells #[.slice ao bs.length cap, .int .i64 p] 35 (0, 0)) ∧ Cells [R] w .u8 ao bs ∧ (∀ a, ao = some a → 0 < bs.length → a.block < R) ∧ p ≤ q ∧ bs.length ≤ 2000 ∧ ∀ b ∈ bs, 0 ≤ b ∧ b ≤ 255

theorem two_set1 {w : World} {b : Nat} {u v : Value} {t : TypeId} (h : w.heap[b]? = some (.cells #[u, v] t (0, 0))) (v' : Value) : (w.setCell ⟨b, 1, none⟩ v').heap[b]? = some (.cells #[u, v'] t (0, 0)) := by
  simp [World.setCell, Array.getElem?_modify, h]

theorem Rd.moved {w : World} {R : Nat} {bs : List Int} {q p cap : Nat} {ao : Option Addr} (hR : w.heap[R]? = some (.cells #[.slice ao bs.length cap, .int .i64 (p : Nat)] 35 (0, 0))) (hn : Cells [R] w .u8 ao bs) (hb : ∀ a, ao = some a → 0 < bs.length → a.block < R) (hp : p ≤ q) (hl : bs.length ≤ 2000) (h : ∀ b ∈ bs, 0 ≤ b ∧ b ≤ 255) :
    Rd (w.setCell ⟨R, 1, none⟩ (.int .i64 ((p : Int) + 1))) R bs (q + 1) :=
  ⟨ao, cap, p + 1, by rw [two_set1 hR]; rfl, hn.gr ((Gr.refl _ _).setCell _ _ (by simp)), hb, by omega, hl, h⟩
theorem Rd.gr {w w' : World} {R : Nat} {bs : List Int} {q : Nat} (h : Rd w R bs q) (hg : Gr [] w w') : Rd w' R bs q :=
  let ⟨ao, cap, p, hR, hn, hb, hp, hl, h⟩ := h; ⟨ao, cap, p, hg.obj hR (by simp), hn.gr hg.any, hb, hp, hl, h⟩
theorem Rd.low {B : Nat} {w w' : World} {R : Nat} {bs : List Int} {q : Nat} (h : Rd w R bs q) (hg : Below B w w') (hB : R < B) : Rd w' R bs q :=
  let ⟨ao, cap, p, hR, hn, hb, hp, hl, h⟩ := h; ⟨ao, cap, p, (hg.block R hB).trans hR, hn.low hg (fun a ha h0 => Nat.lt_trans (hb a ha h0) hB), hb, hp, hl, h⟩
theorem Rd.le {w : World} {R : Nat} {bs : List Int} {q q' : Nat} (h : Rd w R bs q) (hq : q ≤ q') : Rd w R bs q' :=
  let ⟨ao, cap, p, hR, hn, hb, hp, hl, h⟩ := h; ⟨ao, cap, p, hR, hn, hb, by omega, hl, h⟩
theorem Rd.drew {w : World} {R : Nat} {bs : List Int} {q : Nat} (h : Rd w R bs q) : Rd w.drew R bs q := h
theorem Rd.lt {w : World} {R : Nat} {bs : List Int} {q : Nat} (h : Rd w R bs q) : R < w.heap.size := let ⟨_, _, _, hR, _⟩ := h; lt_of_block hR

def PickPost (R : Nat) (bs : List Int) (q : Nat) (n : Int) (w : World) (e : Ending) (w' : World) : Prop :=
  (∃ r : Int, e = .returned (.int .i64 r) ∧ 0 ≤ r ∧ (r < n ∨ r = 0)) ∧ Rd w' R bs (q + 1) ∧ Gr [R] w w'

theorem pick_c (R : Nat) (bs : List Int) (q : Nat) (n : Int) (w : World) (hr : Rd w R bs q) (hq : q ≤ 1000000000) (hn : n ≤ 1000000) :
    Calls Try.prog 8 #[.pointer (some ⟨R, 0, none⟩), .int .i64 n] w (PickPost R bs q n w) := by
  obtain ⟨ao, cap, p, hR, hc, hab, hpq, hbl, hbb⟩ := hr
  have hrd := Rd.moved hR hc hab hpq hbl hbb
  have hc0 : w.cell? ⟨R, 0, none⟩ = some (.slice ao bs.length cap) := by simp [World.cell?, hR]
  have hc1 : w.cell? ⟨R, 1, none⟩ = some (.int .i64 p) := by simp [World.cell?, hR]
  have hf : w.frozen? ⟨R, 1, none⟩ = false := by simp [World.frozen?, hR]
  have hg : Gr [R] w (w.setCell ⟨R, 1, none⟩ (.int .i64 ((p : Int) + 1))) := (Gr.refl _ _).setCell _ _ (by simp)
  have hd1 : (w.setCell ⟨R, 1, none⟩ (.int .i64 ((p : Int) + 1))).cell? ⟨R, 1, none⟩ = some (.int .i64 ((p : Int) + 1)) := World.cell?_setCell_same _ _ _ hc1
  have hd0 : (w.setCell ⟨R, 1, none⟩ (.int .i64 ((p : Int) + 1))).cell? ⟨R, 0, none⟩ = some (.slice ao bs.length cap) := by rw [World.cell?_setCell_other _ _ _ _ (by simp)]; exact hc0
  have hcg := hc.gr hg
  clear hR hab
  have Hbb := hid hbb; clear hbb
  have Hrd := hid hrd; clear hrd
  by_cases hn1 : n < 1
  · go_enter Try.func8, Try.ntmps8
    go_wp2_with fail
    go_ret
    exact ⟨⟨0, rfl, by omega, by omega⟩, Hrd.out, hg⟩
  · by_cases hb0 : bs.length = 0
    · go_enter Try.func8, Try.ntmps8
      go_wp2_with fail
      all_goals first | omega | skip
      go_ret
      exact ⟨⟨0, rfl, by omega, by omega⟩, Hrd.out, hg⟩
    · by_cases hpl : p < bs.length
      · obtain ⟨x, hx⟩ := get_some hpl
        obtain ⟨b, o, rfl, hs, hcell⟩ := hcg p x hx
        have hxb := Hbb.out x (List.mem_of_getElem? hx)
        have HX := hid hx; clear hx hc hcg
        go_enter Try.func8, Try.ntmps8
        go_wp2_with fail
        go_ret
        exact ⟨⟨x % n, rfl, Int.emod_nonneg _ (by omega), Or.inl (Int.emod_lt_of_pos _ (by omega))⟩, Hrd.out, hg⟩
      · obtain ⟨x, hx⟩ := get_some (show p % bs.length < bs.length from Nat.mod_lt _ (by omega))
        obtain ⟨y, hy⟩ := get_some (show (p * 7 + 3) % bs.length < bs.length from Nat.mod_lt _ (by omega))
        obtain ⟨b, o, rfl, hs, hcx⟩ := hcg _ x hx
        obtain ⟨b', o', he, _, hcy⟩ := hcg _ y hy
        obtain ⟨rfl, rfl⟩ : b' = b ∧ o' = o := by simpa [eq_comm] using he
        have hxb := Hbb.out x (List.mem_of_getElem? hx)
        have hyb := Hbb.out y (List.mem_of_getElem? hy)
        have hm1 : (p : Int) % bs.length < bs.length := Int.emod_lt_of_pos _ (by omega)
        have hm2 : ((p : Int) * 7 + 3) % bs.length < bs.length := Int.emod_lt_of_pos _ (by omega)
        have hm3 : 0 ≤ (p : Int) % bs.length := Int.emod_nonneg _ (by omega)
        have hm4 : 0 ≤ ((p : Int) * 7 + 3) % bs.length := Int.emod_nonneg _ (by omega)
        have hd : 0 ≤ (p : Int) / bs.length ∧ (p : Int) / bs.length ≤ p := IntWalk.tdiv_le _ _ (by omega) (by omega)
        have hE := i64_xor_nn (x * 131 + y * 1117 + (p : Int) * 29 + (p : Int) / bs.length * 53) ((x * 131 + y * 1117 + (p : Int) * 29 + (p : Int) / bs.length * 53) / 64) (by omega) (by omega)
        clear hx hy hc hcg he
        go_enter Try.func8, Try.ntmps8
        go_wp2_with fail
        go_quiet (fail)
        go_wp2_with fail
        go_ret
        exact ⟨⟨_, rfl, Int.emod_nonneg _ (by omega), Or.inl (Int.emod_lt_of_pos _ (by omega))⟩, Hrd.out, hg.drewN _⟩

theorem infoInt : (Try.prog.info? 3).map (fun i => (i.zero, i.size, i.bytes)) = some (some (.int .i64 0), 1, 8) := by kernel_rfl

/-- What a generator leaves: the reader further on, at most k places; nothing but the reader's block was written. -/
def RowPost (B R : Nat) (bs : List Int) (q : Nat) (Pr : List Int → Prop) (w : World) (e : Ending) (w' : World) : Prop :=
  ∃ v xs, e = .returned v ∧ Own B w' 3 v xs ∧ Pr xs ∧ Rd w' R bs q ∧ Gr [R] w w'

theorem cell_new (w : World) (v : Value) (t : TypeId) : (w.alloc (.cells #[v] t)).cell? ⟨w.heap.size, 0, none⟩ = some v := by
  rw [World.cell?_alloc_at _ _ _ _ rfl]; rfl

set_option maxHeartbeats 400000 in
theorem randomRow_c (R : Nat) (bs : List Int) (q : Nat) (k : Nat) (w : World) (hr : Rd w R bs q) (hq : q ≤ 100000000) (hk : k ≤ 100000) :
    Calls Try.prog 10 #[.pointer (some ⟨R, 0, none⟩), .int .i64 k] w (RowPost w.heap.size R bs (q + k) (fun xs => xs.length = k ∧ ∀ x ∈ xs, 0 ≤ x ∧ x ≤ 5) w) := by
  have hRlt := hr.lt
  have Hr := hid hr; clear hr
  go_enter Try.func10, Try.ntmps10
  go_wp2_with fail
  have hg0 : Gr [R] w (w.alloc (Obj.cells #[] 3)) := (Gr.refl _ _).alloc _
  go_loopw [5, 6] (fun v i wr => ∃ (n : Nat) (xs : List Int), n ≤ k ∧ i = .int .i64 n ∧ Own w.heap.size wr 3 v xs ∧ xs.length = n ∧ (∀ x ∈ xs, 0 ≤ x ∧ x ≤ 5) ∧ Rd wr R bs (q + n) ∧ Gr [R] w wr) (fun _ i _ => k - (intOf i).toNat)
  case atStart => exact ⟨0, [], by omega, rfl, Own.empty _ _ (Nat.le_refl _), rfl, by simp, Hr.out.gr ((Gr.refl _ _).alloc _), hg0⟩
  case round =>
    obtain ⟨n, xs, hn, rfl, hown, hl, hx, hrd, hg⟩ := hrel
    have hsz := hg.size
    by_cases hlt : n < k
    · have Hx := hid hx; clear hx
      have Hl := hid hl; clear hl
      go_wp2_with fail
      refine (pick_c R bs (q + n) 6 wr hrd (by omega) (by omega)).mono ?_
      rintro e w1 ⟨⟨r, rfl, hr0, hr6⟩, hrd1, hg1⟩
      have hown1 := hown.gr hg1 (by simp; omega)
      have hsz1 := hg1.size
      have Hg1 := hid hg1; clear hg1
      go_wp2_with (at_builtin; refine wp_app1 rfl _ _ 23 rfl w.heap.size 3 infoInt Try.underlying23 _ xs rfl (hown1.alloc _) _ 1 r rfl (cell_new _ _ _) (by have := Hl.out; omega) (by simp; omega) ?_; intro v' w2 hown2 hb2)
      refine ⟨⟨n + 1, xs ++ [r], by omega, by go_num, hown2, by rw [List.length_append, Hl.out]; rfl, ?_, ?_, ?_⟩, by simp [intOf]; omega⟩
      · intro x hx
        rcases List.mem_append.1 hx with hx | hx
        · exact Hx.out x hx
        · obtain rfl := List.mem_singleton.1 hx; omega
      · exact (hrd1.gr ((Gr.refl _ _).alloc _)).low hb2 hRlt
      · exact ((hg.trans Hg1.out).alloc _).low hb2 (Nat.le_refl _)
    · go_wp2_with fail
      go_ret
      exact ⟨_, xs, rfl, hown, ⟨by omega, hx⟩, hrd.le (by omega), hg⟩

/-- 'one': a member of a list that is not empty. -/
theorem one_c (R : Nat) (bs : List Int) (q : Nat) (v : Value) (xs : List Int) (w : World) (hr : Rd w R bs q) (hv : Nums [R] w .i64 v xs) (hq : q ≤ 1000000000) (hx : xs ≠ []) (hxl : xs.length ≤ 1000000) :
    Calls Try.prog 11 #[.pointer (some ⟨R, 0, none⟩), v] w (fun e w' => (∃ x, e = .returned (.int .i64 x) ∧ x ∈ xs) ∧ Rd w' R bs (q + 1) ∧ Gr [R] w w') := by
  have hpos : 0 < xs.length := List.length_pos_iff.2 hx
  obtain ⟨ao, cap, rfl, ⟨hlc, hcm, hnil⟩, hc⟩ := hv
  have hlen : xs.length ≤ 9223372036854775807 := by omega
  clear hnil
  have Hc := hid hc; clear hc
  go_enter Try.func11, Try.ntmps11
  go_wp2_with fail
  refine (pick_c R bs q xs.length w hr hq (by omega)).mono ?_
  rintro e w1 ⟨⟨r, rfl, hr0, hr6⟩, hrd1, hg1⟩
  obtain ⟨r, rfl⟩ := Int.eq_ofNat_of_zero_le hr0
  obtain ⟨x, hxr⟩ := get_some (show r < xs.length by omega)
  obtain ⟨b, o, rfl, hs, hcell⟩ := (Hc.out.gr hg1) r x hxr
  have HX := hid hxr; clear hxr
  have hrl : r < xs.length := by omega
  go_wp2_with fail
  go_ret
  exact ⟨⟨x, rfl, List.mem_of_getElem? HX.out⟩, hrd1, hg1⟩

theorem newReader_c (v : Value) (bs : List Int) (w : World) (ao : Option Addr) (cap : Nat) (hv : v = .slice ao bs.length cap) (hlen : bs.length ≤ 9223372036854775807) (hcap : bs.length ≤ cap) (hc : Cells [] w .u8 ao bs) (hb : ∀ b ∈ bs, 0 ≤ b ∧ b ≤ 255) :
    Calls Try.prog 7 #[v] w (fun e w' => (∃ R cs, e = .returned (.pointer (some ⟨R, 0, none⟩)) ∧ w.heap.size ≤ R ∧ Rd w' R cs 0) ∧ Gr [] w w') := by
  subst hv
  have hal : ∀ a, ao = some a → 0 < bs.length → a.block < w.heap.size := by
    intro a ha hl
    obtain ⟨x, hx⟩ := get_some hl
    obtain ⟨b, o, he, _, hcell⟩ := hc 0 x hx
    rw [he] at ha; cases ha
    exact World.block_lt_of_cell? w _ hcell
  have Hc := hid hc; clear hc
  have Hal := hid hal; clear hal
  have Hb := hid hb; clear hb
  by_cases hl : 2000 < bs.length
  · have hl' : (2000 : Nat) ≤ bs.length := by omega
    have htl : (bs.take 2000).length = 2000 := by rw [List.length_take]; omega
    have hcl : bs.length ≤ cap := hcap
    obtain ⟨b, o, rfl⟩ : ∃ b o, ao = some ⟨b, o, none⟩ := by
      obtain ⟨x, hx⟩ := get_some (show 0 < bs.length by omega)
      obtain ⟨b, o, e, _⟩ := Hc.out 0 x hx
      exact ⟨b, o, e⟩
    go_enter Try.func7, Try.ntmps7
    go_wp2_with fail
    go_ret
    refine ⟨⟨w.heap.size, bs.take 2000, rfl, Nat.le_refl _, some ⟨b, o, none⟩, cap, 0, ?_, ?_, fun a ha _ => Hal.out a ha (by omega), Nat.le_refl _, by omega, fun x hx => Hb.out x (List.mem_of_mem_take hx)⟩, (Gr.refl _ _).alloc _⟩
    · rw [htl]; exact heap_alloc_new _ _
    · refine Cells.gr (S := [w.heap.size]) ?_ ((Gr.refl _ _).alloc _)
      intro i x hi
      rw [List.getElem?_take] at hi
      split at hi
      · obtain ⟨b', o', e, _, hcell⟩ := Hc.out i x hi
        exact ⟨b', o', e, by have := World.block_lt_of_cell? w _ hcell; simp at this ⊢; omega, hcell⟩
      · cases hi
  · go_enter Try.func7, Try.ntmps7
    go_wp2_with fail
    go_ret
    refine ⟨⟨w.heap.size, bs, rfl, Nat.le_refl _, ao, cap, 0, heap_alloc_new _ _, ?_, Hal.out, Nat.le_refl _, by omega, Hb.out⟩, (Gr.refl _ _).alloc _⟩
    refine Cells.gr (S := [w.heap.size]) ?_ ((Gr.refl _ _).alloc _)
    intro i x hi
    obtain ⟨b', o', e, _, hcell⟩ := Hc.out i x hi
    exact ⟨b', o', e, by have := World.block_lt_of_cell? w _ hcell; simp at this ⊢; omega, hcell⟩
end Go.Proofs.Ytadieibhbplekaa
