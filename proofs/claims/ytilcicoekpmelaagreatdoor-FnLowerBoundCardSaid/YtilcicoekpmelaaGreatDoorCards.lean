/-
  DERIVED. GIVEN WITH THE SEED: THE CARDS: each row of YtilcicoekpmelaaGreatDoorRows.lean that lists a variable, with what it lists TIED to the program's text (the seventh form; the later family's looks); each row that meets fmt, with fmt's text TOLD by the authors' own Lean function (tested against real Go, not proved from fmt's source: count such statements apart). THE CARD IS WHAT COUNTS. Prove the row's statement (the work); the ties are given (YtilcicoekpmelaaGreatDoorTie.lean); close each card by the builder's one call (the guide's Derived/Test/ToyasCard.lean, 'card_holds'). Laid BY PROGRAM, IN A SANDBOX (cutbox-door.mjs). By AI agents, Wed Nov 11 2026. No macro, syntax, notation, axiom, sorry.
-/
import Derived.Test.YtilcicoekpmelaaGreatDoorRows
import GoSem.ClaimSeven
namespace Go.Proofs.YtilcicoekpmelaaGreatDoor
namespace Rows

/-- THE TIED CARD OF 'laws.FnLowerBound'. -/
def fnLowerBoundCard : Claim7 := { stood := { row := fnLowerBoundRow, standIns := [], harness := (true, "0f6654fd33b696f710712792814ac15d4eb75a6f8cae4279b223a0ea439246bc"), looks := false }, kinds := [], alts := [], laidByText := true, laidKinds := [.data, .data], laidTests := true, laidLooks := .later }
def FnLowerBoundCardSaid : Prop := Claim7.holds Tryz.pinned (.plain (OpenSpec.ofChange fnLowerBoundSpec)) fnLowerBoundCard

/-- THE TIED CARD OF 'laws.FnMinimize'. -/
def fnMinimizeCard : Claim7 := { stood := { row := fnMinimizeRow, standIns := [], harness := (true, "0f6654fd33b696f710712792814ac15d4eb75a6f8cae4279b223a0ea439246bc"), looks := false }, kinds := [], alts := [], laidByText := true, laidKinds := [.data, .data], laidTests := true, laidLooks := .later }
def FnMinimizeCardSaid : Prop := Claim7.holds Tryz.pinned (.plain (OpenSpec.ofChange fnMinimizeSpec)) fnMinimizeCard

/-- THE SECOND FORM's CARD OF 'laws.FnLowerBound'. -/
def fnLowerBoundUptoCard : Claim7 := { stood := { row := fnLowerBoundUptoRow, standIns := [], harness := (true, "0f6654fd33b696f710712792814ac15d4eb75a6f8cae4279b223a0ea439246bc"), looks := false }, kinds := [], alts := [], laidByText := true, laidKinds := [.data, .data], laidTests := true, laidLooks := .later }
def FnLowerBoundUptoCardSaid : Prop := Claim7.holds Tryz.pinned (.plain (OpenSpec.upto fnLowerBoundSpec)) fnLowerBoundUptoCard

/-- THE SECOND FORM's CARD OF 'laws.FnMinimize'. -/
def fnMinimizeUptoCard : Claim7 := { stood := { row := fnMinimizeUptoRow, standIns := [], harness := (true, "0f6654fd33b696f710712792814ac15d4eb75a6f8cae4279b223a0ea439246bc"), looks := false }, kinds := [], alts := [], laidByText := true, laidKinds := [.data, .data], laidTests := true, laidLooks := .later }
def FnMinimizeUptoCardSaid : Prop := Claim7.holds Tryz.pinned (.plain (OpenSpec.upto fnMinimizeSpec)) fnMinimizeUptoCard
end Rows
end Go.Proofs.YtilcicoekpmelaaGreatDoor
