/-
  Walk of the generator of an objective and a word.
-/
import Derived.Test.YtadieibhbplekaaO
namespace Go.Proofs.Ytadieibhbplekaa
open Go.RowKit

set_option maxHeartbeats 400000 in
theorem DrawObjectiveValue_c (code : Value) (bs : List Int) (ao : Option Addr) (cap : Nat) (w : World) (hv : code = .slice ao bs.length cap) (hlen : bs.length ≤ 9223372036854775807) (hcap : bs.length ≤ cap) (hc : Cells [] w .u8 ao bs) (hb : ∀ b ∈ bs, 0 ≤ b ∧ b ≤ 255) :
    Calls Try.prog 4 #[code] w (fun e w' => ∃ v1 v2 xs ys, e = .returned (.tuple #[v1, v2]) ∧ (Nums [] w' .i64 v1 xs ∧ Nums [] w' .i64 v2 ys) ∧ (xs.length ≤ 1000000 ∧ ys.length ≤ 1000000) ∧ Gr [] w w') := by
  subst hv
  have Hc := hid hc; have Hb := hid hb; clear hc hb
  go_enter Try.func4, Try.ntmps4
  go_wp2_with fail
  refine (newReader_c _ bs w ao cap rfl hlen hcap Hc.out Hb.out).mono ?_
  rintro e w1 ⟨⟨R, cs, rfl, hRw, hrd1⟩, hg1⟩
  go_wp2_with fail
  refine (pick_c R cs 0 6 w1 hrd1 (by omega) (by omega)).mono ?_
  rintro e w2 ⟨⟨n, rfl, hn0, hn6⟩, hrd2, hg2⟩
  obtain ⟨n, rfl⟩ := Int.eq_ofNat_of_zero_le hn0
  go_wp2_with fail
  refine (objective_c R cs 1 n w2 hrd2 (by omega) (by omega)).mono ?_
  rintro e w3 ⟨v1, xs, rfl, hown3, ⟨hxl, hxb⟩, hrd3, hg3⟩
  have hrl3 := hrd3.lt
  have Hxb := hid hxb; clear hxb
  go_wp2_with fail
  refine (randomRow_c R cs (1 + n + 1) n w3 hrd3 (by omega) (by omega)).mono ?_
  rintro e w4 ⟨v2, ys, rfl, hown4, ⟨hyl, hyb⟩, hrd4, hg4⟩
  have Hyb := hid hyb; clear hyb
  have Hyl := hid hyl; clear hyl
  have hrl4 := hrd4.lt
  go_wp2_with fail
  refine (pick_c R cs _ 10 w4 hrd4 (by omega) (by omega)).mono ?_
  rintro e w5 ⟨⟨z, rfl, hz0, hz6⟩, hrd5, hg5⟩
  have hrl5 := hrd5.lt
  have hRw2 : R < w2.heap.size := hrd2.lt
  have hs1 := hg1.size
  have hs2 := hg2.size
  have hs3 := hg3.size
  have hs4 := hg4.size
  have hs5 := hg5.size
  have hown3' : Nums [R] w3 .i64 v1 xs := hown3.nums (by simp; omega)
  have hown5 : Nums [R] w5 .i64 v1 xs := (hown3'.gr hg4).gr hg5
  have hown4' := hown4.gr hg5 (by simp; omega)
  have hg : Gr [] w w5 := (((hg1.step hg2 (S' := [R]) (by simp; omega)).step hg3 (by simp; omega)).step hg4 (by simp; omega)).step hg5 (by simp; omega)
  have Hg := hid hg; clear hg
  have hg35 := hid (hg4.trans hg5)
  clear hg1 hg2 hg3 hg4 hg5
  by_cases hz : z = 0 ∧ 0 < n
  · obtain ⟨rfl, hn⟩ := hz
    obtain ⟨g, cap2, rfl, ⟨hgB, hglt⟩, hcell, hfz⟩ := hown4'.open (by have := Hyl.out; omega)
    have Hcell := hid hcell; clear hcell
    have Hfz := hid hfz; clear hfz
    have hyp : 0 < ys.length := by have := Hyl.out; omega
    go_wp2_with fail
    refine (one_c R cs _ _ [-1, 6] _ (hrd5.gr ((Gr.refl _ _).alloc _)) (nums_new _ _ _ (by simp; omega)) (by omega) (by simp) (by simp)).mono ?_
    rintro e w6 ⟨⟨r, rfl, hr6⟩, hrd6, hg6⟩
    have hs6 := hg6.size
    simp at hs6
    have hg56 : Gr [R] w5 w6 := ((Gr.refl _ _).alloc _).trans hg6
    have hown6 := hown4'.gr hg56 (by simp; omega)
    obtain ⟨y0, hy0⟩ := get_some hyp
    have hcell6 := hg56.cell (Hcell.out 0 y0 hy0) (by simp; omega)
    have hf6 : w6.frozen? ⟨g, 0, none⟩ = false := (hg56.frozen (a := ⟨g, 0, none⟩) hglt (by simp; omega)).trans (Hfz.out 0)
    have hset := hown6.set 0 r hyp
    have hobj6 : Nums [R, g] w6 .i64 v1 xs := ((hown3.nums' (S := [R, g]) (by simp; omega)).gr (Gr.sub hg35.out (by simp; omega))).gr (Gr.sub hg56 (by simp; omega))
    have hgs : Gr [R, g] w6 (w6.setCell ⟨g, 0, none⟩ (.int .i64 r)) := (Gr.refl _ _).setCell _ _ (by simp)
    have Hgs := hid hgs; have Hg56 := hid hg56; have Hset := hid hset; have Hobj := hid hobj6
    clear hr6 hg6 hgs hg56 hset hobj6 hown6
    go_wp2_with fail
    go_ret2
    exact ⟨_, _, xs, ys.set 0 r, rfl, ⟨(Hobj.out.gr Hgs.out).sub (by simp), Hset.out.nums (by simp)⟩, ⟨by omega, by rw [List.length_set, Hyl.out]; omega⟩,
      (Hg.out.step Hg56.out (by simp; omega)).step (S' := [g]) ((Gr.refl _ _).setCell _ _ (by simp)) (by simp; omega)⟩
  · have fin : ∀ (e : Ending), e = .returned (.tuple #[v1, v2]) → (∃ u1 u2 xs ys, e = .returned (.tuple #[u1, u2]) ∧ (Nums [] w5 .i64 u1 xs ∧ Nums [] w5 .i64 u2 ys) ∧ (xs.length ≤ 1000000 ∧ ys.length ≤ 1000000) ∧ Gr [] w w5) :=
      fun e he => ⟨v1, v2, xs, ys, he, ⟨hown5.sub (by simp), hown4'.nums (by simp)⟩, ⟨by omega, by rw [Hyl.out]; omega⟩, Hg.out⟩
    have Fin := hid fin; clear fin
    by_cases hz0' : z = 0
    · subst hz0'
      have hn : n = 0 := by omega
      subst hn
      go_wp2_with fail
      go_ret2
      exact Fin.out _ rfl
    · have hzb : (z == 0) = false := by simpa using hz0'
      go_wp2_with fail
      go_ret2
      exact Fin.out _ rfl
end Go.Proofs.Ytadieibhbplekaa
