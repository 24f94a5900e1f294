/-
  Walks of generators: damaged constraints.
  Walk of the generator of valid models.
  Walk of the generator of models.
  Walks of the generators DrawPropagate and DrawIsConsistent.
-/
import Derived.Test.YtihkeihnpiddoaaGreatXG4
import Derived.Test.YtihkeihnpiddoaaGreatXM1
import Derived.Test.YtihkeihnpiddoaaGreatXFP
import Derived.Test.YtihkeihnpiddoaaGreatXM4M5
set_option linter.unusedVariables false
namespace Go.Proofs.YtihkeihnpiddoaaGreat
open Go.RowKit

end Go.Proofs.YtihkeihnpiddoaaGreat

set_option linter.unusedVariables false
namespace Go.Proofs.YtihkeihnpiddoaaGreat
open Go.RowKit

end Go.Proofs.YtihkeihnpiddoaaGreat

set_option linter.unusedVariables false
namespace Go.Proofs.YtihkeihnpiddoaaGreat
open Go.RowKit

end Go.Proofs.YtihkeihnpiddoaaGreat

set_option linter.unusedVariables false
namespace Go.Proofs.YtihkeihnpiddoaaGreat
open Go.RowKit

theorem ModV.parts {S : List Nat} {w : World} {dv cv : Value} {m : Mod} (h : ModV S w (.agg #[dv, cv]) m) : Nums S w .i64 dv m.doms ∧ ConsV S w cv m.cons := by
  obtain ⟨dv', cv', e, h1, h2⟩ := h
  simp only [Value.agg.injEq] at e
  have e1 := congrArg (fun a => a[0]?) e
  have e2 := congrArg (fun a => a[1]?) e
  simp at e1 e2
  subst e1 e2
  exact ⟨h1, h2⟩
end Go.Proofs.YtihkeihnpiddoaaGreat
