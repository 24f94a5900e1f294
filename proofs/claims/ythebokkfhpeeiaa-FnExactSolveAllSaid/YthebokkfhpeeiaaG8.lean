/-
  Walks of the generators DrawPropagate and DrawIsConsistent.
-/
import Derived.Test.YthebokkfhpeeiaaG7
import Derived.Test.YthebokkfhpeeiaaM5
set_option linter.unusedVariables false
namespace Go.Proofs.Ythebokkfhpeeiaa
open Go.RowKit

/-- A model in memory. -/
def DrawPost (w : World) (e : Ending) (w' : World) : Prop := ∃ (m : Mod) (mv : Value), e = .returned mv ∧ ModV [] w' mv m ∧ m.Small ∧ Gr [] w w'
theorem ModPost.modv {S : List Nat} {B : Nat} {w' : World} {m : Mod} {M ac cc : Nat} {ao co : Option Addr} (hS : ∀ b ∈ S, b < B ∨ w'.heap.size ≤ b) (hBM : B ≤ M) (h1 : Own B w' 3 (.slice ao m.doms.length ac) m.doms) (h2 : OwnG 5 elCon M w' 26 (.slice co m.cons.length cc) m.cons) :
    ModV S w' (.agg #[.slice ao m.doms.length ac, .slice co m.cons.length cc]) m := ⟨_, _, rfl, h1.nums' hS, h2.cons fun b hb => (hS b hb).imp (by omega) id⟩
theorem ModV.sub0 {S : List Nat} {w : World} {v : Value} {m : Mod} (h : ModV S w v m) : ModV [] w v m := ModV.sub h (by simp)
theorem Nums.eq {S : List Nat} {w : World} {k : IntKind} {v : Value} {xs ys : List Int} (h : Nums S w k v xs) (e : xs = ys) : Nums S w k v ys := e ▸ h
theorem ModV.parts {S : List Nat} {w : World} {dv cv : Value} {m : Mod} (h : ModV S w (.agg #[dv, cv]) m) : Nums S w .i64 dv m.doms ∧ ConsV S w cv m.cons := by
  obtain ⟨dv', cv', e, h1, h2⟩ := h
  simp only [Value.agg.injEq] at e
  have e1 := congrArg (fun a => a[0]?) e
  have e2 := congrArg (fun a => a[1]?) e
  simp at e1 e2
  subst e1 e2
  exact ⟨h1, h2⟩
theorem mod_small {m : Mod} (h1 : m.doms.length ≤ 4) (h2 : m.cons.length ≤ 4) (h3 : ∀ c ∈ m.cons, SmallV c) : m.Small := ⟨by omega, by omega, fun c hc => (h3 c hc).1⟩

end Go.Proofs.Ythebokkfhpeeiaa
