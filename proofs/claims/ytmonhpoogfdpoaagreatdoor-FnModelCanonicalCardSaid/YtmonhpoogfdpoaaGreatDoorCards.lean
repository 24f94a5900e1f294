/-
  DERIVED. GIVEN WITH THE SEED: THE CARDS: each row of YtmonhpoogfdpoaaGreatDoorRows.lean that lists a variable, with what it lists TIED to the program's text (the seventh form; the later family's looks); each row that meets fmt, with fmt's text TOLD by the authors' own Lean function (tested against real Go, not proved from fmt's source: count such statements apart). THE CARD IS WHAT COUNTS. Prove the row's statement (the work); the ties are given (YtmonhpoogfdpoaaGreatDoorTie.lean); close each card by the builder's one call (the guide's Derived/Test/ToyasCard.lean, 'card_holds'). Laid BY PROGRAM, IN A SANDBOX (cutbox-door.mjs). By AI agents, Wed Nov 11 2026. No macro, syntax, notation, axiom, sorry.
-/
import Derived.Test.YtmonhpoogfdpoaaGreatDoorRows
import GoSem.ClaimSeven
namespace Go.Proofs.YtmonhpoogfdpoaaGreatDoor
namespace Rows

/-- THE TIED CARD OF 'laws.FnModelCanonical'. -/
def fnModelCanonicalCard : Claim7 := { stood := { row := fnModelCanonicalRow, standIns := [], harness := (true, "172bf34b7a893eaf56fe781cadbb6b0f3138206df3b12edec97624711137427f"), looks := true }, kinds := [], alts := [], laidByText := true, laidKinds := [.data, .data, .data, .data, .sentinel, .sentinel, .pinned], laidTests := true, laidLooks := .later }
def FnModelCanonicalCardSaid : Prop := Claim7.holds Tryz.pinned (.plain (OpenSpec.ofChange fnModelCanonicalSpec)) fnModelCanonicalCard

/-- THE TIED CARD OF 'laws.FnModelRoundTrip'. -/
def fnModelRoundTripCard : Claim7 := { stood := { row := fnModelRoundTripRow, standIns := [], harness := (true, "172bf34b7a893eaf56fe781cadbb6b0f3138206df3b12edec97624711137427f"), looks := true }, kinds := [], alts := [], laidByText := true, laidKinds := [.data, .data, .data, .data, .sentinel, .sentinel, .pinned], laidTests := true, laidLooks := .later }
def FnModelRoundTripCardSaid : Prop := Claim7.holds Tryz.pinned (.plain (OpenSpec.ofChange fnModelRoundTripSpec)) fnModelRoundTripCard

/-- THE TIED CARD OF 'laws.FnExactDecodeModel'. -/
def fnExactDecodeModelCard : Claim7 := { stood := { row := fnExactDecodeModelRow, standIns := [], harness := (true, "172bf34b7a893eaf56fe781cadbb6b0f3138206df3b12edec97624711137427f"), looks := true }, kinds := [], alts := [], laidByText := true, laidKinds := [.data, .data, .data, .data, .sentinel, .sentinel, .pinned], laidTests := true, laidLooks := .later }
def FnExactDecodeModelCardSaid : Prop := Claim7.holds Tryz.pinned (.plain (OpenSpec.ofChange fnExactDecodeModelSpec)) fnExactDecodeModelCard

/-- THE SECOND FORM's CARD OF 'laws.FnModelCanonical'. -/
def fnModelCanonicalUptoCard : Claim7 := { stood := { row := fnModelCanonicalUptoRow, standIns := [], harness := (true, "172bf34b7a893eaf56fe781cadbb6b0f3138206df3b12edec97624711137427f"), looks := true }, kinds := [], alts := [], laidByText := true, laidKinds := [.data, .data, .data, .data, .sentinel, .sentinel, .pinned], laidTests := true, laidLooks := .later }
def FnModelCanonicalUptoCardSaid : Prop := Claim7.holds Tryz.pinned (.plain (OpenSpec.upto fnModelCanonicalSpec)) fnModelCanonicalUptoCard

/-- THE SECOND FORM's CARD OF 'laws.FnModelRoundTrip'. -/
def fnModelRoundTripUptoCard : Claim7 := { stood := { row := fnModelRoundTripUptoRow, standIns := [], harness := (true, "172bf34b7a893eaf56fe781cadbb6b0f3138206df3b12edec97624711137427f"), looks := true }, kinds := [], alts := [], laidByText := true, laidKinds := [.data, .data, .data, .data, .sentinel, .sentinel, .pinned], laidTests := true, laidLooks := .later }
def FnModelRoundTripUptoCardSaid : Prop := Claim7.holds Tryz.pinned (.plain (OpenSpec.upto fnModelRoundTripSpec)) fnModelRoundTripUptoCard

/-- THE SECOND FORM's CARD OF 'laws.FnExactDecodeModel'. -/
def fnExactDecodeModelUptoCard : Claim7 := { stood := { row := fnExactDecodeModelUptoRow, standIns := [], harness := (true, "172bf34b7a893eaf56fe781cadbb6b0f3138206df3b12edec97624711137427f"), looks := true }, kinds := [], alts := [], laidByText := true, laidKinds := [.data, .data, .data, .data, .sentinel, .sentinel, .pinned], laidTests := true, laidLooks := .later }
def FnExactDecodeModelUptoCardSaid : Prop := Claim7.holds Tryz.pinned (.plain (OpenSpec.upto fnExactDecodeModelSpec)) fnExactDecodeModelUptoCard
end Rows
end Go.Proofs.YtmonhpoogfdpoaaGreatDoor
