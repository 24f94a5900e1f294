/-
  Walks of generators: damaged constraints.
  Walk of the generator of valid models.
  Walk of the generator of models.
  Walks of the generators DrawPropagate and DrawIsConsistent.
-/
import Derived.Test.YtihkeihnpiddoaaGreatDG4
import Derived.Test.YtihkeihnpiddoaaGreatDM1
import Derived.Test.YtihkeihnpiddoaaGreatDFP
import Derived.Test.YtihkeihnpiddoaaGreatDM4M5
set_option linter.unusedVariables false
namespace Go.Proofs.YtihkeihnpiddoaaGreat
open Go.RowKit

end Go.Proofs.YtihkeihnpiddoaaGreat

set_option linter.unusedVariables false
namespace Go.Proofs.YtihkeihnpiddoaaGreat
open Go.RowKit

/-- What a generator of models leaves. -/
def ModPost (Pr : Con → Prop) (B R : Nat) (bs : List Int) (q : Nat) (w : World) (e : Ending) (w' : World) : Prop :=
  ∃ (m : Mod) (M : Nat) (ao : Option Addr) (ac : Nat) (co : Option Addr) (cc : Nat), e = .returned (.agg #[.slice ao m.doms.length ac, .slice co m.cons.length cc]) ∧
    Own B w' 3 (.slice ao m.doms.length ac) m.doms ∧ (∀ b, (Value.slice ao m.doms.length ac).ownBlock = some b → b < M) ∧ (B ≤ M ∧ M ≤ w'.heap.size) ∧
    OwnG 5 elCon M w' 41 (.slice co m.cons.length cc) m.cons ∧ (1 ≤ m.doms.length ∧ m.doms.length ≤ 4) ∧ m.cons.length ≤ 4 ∧ (∀ c ∈ m.cons, Pr c) ∧ Rd w' R bs q ∧ Gr [R] w w'
def TinyV (c : Con) : Prop := Tiny c ∧ 1 ≤ c.vars.length

theorem app_end2 {R Cb : Nat} {bs : List Int} {q fi : Nat} {w1 wr w6 w7 : World} {o : Obj} {cs : Array Value} {t : TypeId} {nv : Value}
    (hL : Gr [R, Cb] w1 wr) (h6 : Gr [R] wr w6) (hbl : Below w1.heap.size (w6.alloc o) w7) (hR : R < Cb) (hC : Cb < w1.heap.size)
    (hb6 : w6.heap[Cb]? = some (.cells cs t (0, 0))) (hrd : Rd w6 R bs q) :
    (w7.setCell ⟨Cb, fi, none⟩ nv).heap[Cb]? = some (.cells (cs.setIfInBounds fi nv) t (0, 0)) ∧ Gr [Cb] w7 (w7.setCell ⟨Cb, fi, none⟩ nv) ∧ Rd (w7.setCell ⟨Cb, fi, none⟩ nv) R bs q ∧ Gr [R, Cb] w1 (w7.setCell ⟨Cb, fi, none⟩ nv) := by
  have hgs : Gr [Cb] w7 (w7.setCell ⟨Cb, fi, none⟩ nv) := Gr.cell1 _ _ _ _ (by simp)
  have ha : Gr [] w6 (w6.alloc o) := (Gr.refl _ _).alloc _
  have hb7 : w7.heap[Cb]? = some (.cells cs t (0, 0)) := (hbl.block _ hC).trans (ha.obj hb6 (by simp))
  refine ⟨cells_set hb7 _ _, hgs, ?_, ?_⟩
  · exact ((hrd.gr ha).low hbl (by omega)).grS hgs (by simp; omega)
  · exact (((hL.trans (h6.sub (by intro k _ h; simp at h ⊢; exact .inl h))).alloc o).low hbl (Nat.le_refl _)).trans (hgs.sub (by intro k _ h; simp at h ⊢; exact .inr h))
theorem sizeM : (Tryz.prog.info? 26).map (·.size) = some 2 := by kernel_rfl
theorem one2 (x1 x2 : Option Addr) (n1 n2 c1 c2 : Nat) : (#[Value.slice x1 n1 c1, .slice x2 n2 c2]).all (·.oneCell') = true := by simp [Value.oneCell']

end Go.Proofs.YtihkeihnpiddoaaGreat

set_option linter.unusedVariables false
namespace Go.Proofs.YtihkeihnpiddoaaGreat
open Go.RowKit

def SmallV (c : Con) : Prop := c.Small ∧ 1 ≤ c.vars.length

end Go.Proofs.YtihkeihnpiddoaaGreat

set_option linter.unusedVariables false
namespace Go.Proofs.YtihkeihnpiddoaaGreat
open Go.RowKit

theorem ModPost.modv {S : List Nat} {B : Nat} {w' : World} {m : Mod} {M ac cc : Nat} {ao co : Option Addr} (hS : ∀ b ∈ S, b < B ∨ w'.heap.size ≤ b) (hBM : B ≤ M) (h1 : Own B w' 3 (.slice ao m.doms.length ac) m.doms) (h2 : OwnG 5 elCon M w' 41 (.slice co m.cons.length cc) m.cons) :
    ModV S w' (.agg #[.slice ao m.doms.length ac, .slice co m.cons.length cc]) m := ⟨_, _, rfl, h1.nums' hS, h2.cons fun b hb => (hS b hb).imp (by omega) id⟩
theorem ModV.parts {S : List Nat} {w : World} {dv cv : Value} {m : Mod} (h : ModV S w (.agg #[dv, cv]) m) : Nums S w .i64 dv m.doms ∧ ConsV S w cv m.cons := by
  obtain ⟨dv', cv', e, h1, h2⟩ := h
  simp only [Value.agg.injEq] at e
  have e1 := congrArg (fun a => a[0]?) e
  have e2 := congrArg (fun a => a[1]?) e
  simp at e1 e2
  subst e1 e2
  exact ⟨h1, h2⟩
theorem mod_small {m : Mod} (h1 : m.doms.length ≤ 4) (h2 : m.cons.length ≤ 4) (h3 : ∀ c ∈ m.cons, SmallV c) : m.Small := ⟨by omega, by omega, fun c hc => (h3 c hc).1⟩

end Go.Proofs.YtihkeihnpiddoaaGreat
