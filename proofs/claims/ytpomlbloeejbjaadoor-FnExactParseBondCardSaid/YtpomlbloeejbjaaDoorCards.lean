/-
  DERIVED. GIVEN WITH THE SEED: THE CARDS: each row of YtpomlbloeejbjaaDoorRows.lean that lists a variable, with what it lists TIED to the program's text (the seventh form; the later family's looks); each row that meets fmt, with fmt's text TOLD by the authors' own Lean function (tested against real Go, not proved from fmt's source: count such statements apart). THE CARD IS WHAT COUNTS. Prove the row's statement (the work); the ties are given (YtpomlbloeejbjaaDoorTie.lean); close each card by the builder's one call (the guide's Derived/Test/ToyasCard.lean, 'card_holds'). Laid BY PROGRAM, IN A SANDBOX (cutbox-door.mjs). By AI agents, Wed Nov 11 2026. No macro, syntax, notation, axiom, sorry.
-/
import Derived.Test.YtpomlbloeejbjaaDoorRows
import GoSem.ClaimSeven
namespace Go.Proofs.YtpomlbloeejbjaaDoor
namespace Rows

/-- THE TIED CARD OF 'laws.FnDateRoundTrip'. -/
def fnDateRoundTripCard : Claim7 := { stood := { row := fnDateRoundTripRow, standIns := [], harness := (true, "4a249f42968783ff868ac7aef013585a266f6e9017edea4d3bdcc2788fba7da4"), looks := false }, kinds := [], alts := [], laidByText := true, laidKinds := [.data, .data, .data, .data], laidTests := true, laidLooks := .later }
def FnDateRoundTripCardSaid : Prop := Claim7.holds Tryd.pinned (.plain (OpenSpec.ofChange fnDateRoundTripSpec)) fnDateRoundTripCard

/-- THE TIED CARD OF 'laws.FnDateOrder'. -/
def fnDateOrderCard : Claim7 := { stood := { row := fnDateOrderRow, standIns := [], harness := (true, "4a249f42968783ff868ac7aef013585a266f6e9017edea4d3bdcc2788fba7da4"), looks := false }, kinds := [], alts := [], laidByText := true, laidKinds := [.data, .data, .data, .data], laidTests := true, laidLooks := .later }
def FnDateOrderCardSaid : Prop := Claim7.holds Tryd.pinned (.plain (OpenSpec.ofChange fnDateOrderSpec)) fnDateOrderCard

/-- THE TIED CARD OF 'laws.FnDateCanonical'. -/
def fnDateCanonicalCard : Claim7 := { stood := { row := fnDateCanonicalRow, standIns := [], harness := (true, "4a249f42968783ff868ac7aef013585a266f6e9017edea4d3bdcc2788fba7da4"), looks := false }, kinds := [], alts := [], laidByText := true, laidKinds := [.data, .data, .data, .data], laidTests := true, laidLooks := .later }
def FnDateCanonicalCardSaid : Prop := Claim7.holds Tryd.pinned (.plain (OpenSpec.ofChange fnDateCanonicalSpec)) fnDateCanonicalCard

/-- THE TIED CARD OF 'laws.FnExactFormatBond'. -/
def fnExactFormatBondCard : Claim7 := { stood := { row := fnExactFormatBondRow, standIns := [], harness := (true, "4a249f42968783ff868ac7aef013585a266f6e9017edea4d3bdcc2788fba7da4"), looks := false }, kinds := [], alts := [], laidByText := true, laidKinds := [.data, .data, .data, .data], laidTests := true, laidLooks := .later }
def FnExactFormatBondCardSaid : Prop := Claim7.holds Tryd.pinned (.plain (OpenSpec.ofChange fnExactFormatBondSpec)) fnExactFormatBondCard

/-- THE TIED CARD OF 'laws.FnBondRoundTrip'. -/
def fnBondRoundTripCard : Claim7 := { stood := { row := fnBondRoundTripRow, standIns := [], harness := (true, "4a249f42968783ff868ac7aef013585a266f6e9017edea4d3bdcc2788fba7da4"), looks := false }, kinds := [], alts := [], laidByText := true, laidKinds := [.data, .data, .data, .data], laidTests := true, laidLooks := .later }
def FnBondRoundTripCardSaid : Prop := Claim7.holds Tryd.pinned (.plain (OpenSpec.ofChange fnBondRoundTripSpec)) fnBondRoundTripCard

/-- THE TIED CARD OF 'laws.FnExactParseBond'. -/
def fnExactParseBondCard : Claim7 := { stood := { row := fnExactParseBondRow, standIns := [], harness := (true, "4a249f42968783ff868ac7aef013585a266f6e9017edea4d3bdcc2788fba7da4"), looks := false }, kinds := [], alts := [], laidByText := true, laidKinds := [.data, .data, .data, .data], laidTests := true, laidLooks := .later }
def FnExactParseBondCardSaid : Prop := Claim7.holds Tryd.pinned (.plain (OpenSpec.ofChange fnExactParseBondSpec)) fnExactParseBondCard

/-- THE TIED CARD OF 'laws.FnBondCanonical'. -/
def fnBondCanonicalCard : Claim7 := { stood := { row := fnBondCanonicalRow, standIns := [], harness := (true, "4a249f42968783ff868ac7aef013585a266f6e9017edea4d3bdcc2788fba7da4"), looks := false }, kinds := [], alts := [], laidByText := true, laidKinds := [.data, .data, .data, .data], laidTests := true, laidLooks := .later }
def FnBondCanonicalCardSaid : Prop := Claim7.holds Tryd.pinned (.plain (OpenSpec.ofChange fnBondCanonicalSpec)) fnBondCanonicalCard

/-- THE SECOND FORM's CARD OF 'laws.FnDateRoundTrip'. -/
def fnDateRoundTripUptoCard : Claim7 := { stood := { row := fnDateRoundTripUptoRow, standIns := [], harness := (true, "4a249f42968783ff868ac7aef013585a266f6e9017edea4d3bdcc2788fba7da4"), looks := false }, kinds := [], alts := [], laidByText := true, laidKinds := [.data, .data, .data, .data], laidTests := true, laidLooks := .later }
def FnDateRoundTripUptoCardSaid : Prop := Claim7.holds Tryd.pinned (.plain (OpenSpec.upto fnDateRoundTripSpec)) fnDateRoundTripUptoCard

/-- THE SECOND FORM's CARD OF 'laws.FnDateOrder'. -/
def fnDateOrderUptoCard : Claim7 := { stood := { row := fnDateOrderUptoRow, standIns := [], harness := (true, "4a249f42968783ff868ac7aef013585a266f6e9017edea4d3bdcc2788fba7da4"), looks := false }, kinds := [], alts := [], laidByText := true, laidKinds := [.data, .data, .data, .data], laidTests := true, laidLooks := .later }
def FnDateOrderUptoCardSaid : Prop := Claim7.holds Tryd.pinned (.plain (OpenSpec.upto fnDateOrderSpec)) fnDateOrderUptoCard

/-- THE SECOND FORM's CARD OF 'laws.FnDateCanonical'. -/
def fnDateCanonicalUptoCard : Claim7 := { stood := { row := fnDateCanonicalUptoRow, standIns := [], harness := (true, "4a249f42968783ff868ac7aef013585a266f6e9017edea4d3bdcc2788fba7da4"), looks := false }, kinds := [], alts := [], laidByText := true, laidKinds := [.data, .data, .data, .data], laidTests := true, laidLooks := .later }
def FnDateCanonicalUptoCardSaid : Prop := Claim7.holds Tryd.pinned (.plain (OpenSpec.upto fnDateCanonicalSpec)) fnDateCanonicalUptoCard

/-- THE SECOND FORM's CARD OF 'laws.FnExactFormatBond'. -/
def fnExactFormatBondUptoCard : Claim7 := { stood := { row := fnExactFormatBondUptoRow, standIns := [], harness := (true, "4a249f42968783ff868ac7aef013585a266f6e9017edea4d3bdcc2788fba7da4"), looks := false }, kinds := [], alts := [], laidByText := true, laidKinds := [.data, .data, .data, .data], laidTests := true, laidLooks := .later }
def FnExactFormatBondUptoCardSaid : Prop := Claim7.holds Tryd.pinned (.plain (OpenSpec.upto fnExactFormatBondSpec)) fnExactFormatBondUptoCard

/-- THE SECOND FORM's CARD OF 'laws.FnBondRoundTrip'. -/
def fnBondRoundTripUptoCard : Claim7 := { stood := { row := fnBondRoundTripUptoRow, standIns := [], harness := (true, "4a249f42968783ff868ac7aef013585a266f6e9017edea4d3bdcc2788fba7da4"), looks := false }, kinds := [], alts := [], laidByText := true, laidKinds := [.data, .data, .data, .data], laidTests := true, laidLooks := .later }
def FnBondRoundTripUptoCardSaid : Prop := Claim7.holds Tryd.pinned (.plain (OpenSpec.upto fnBondRoundTripSpec)) fnBondRoundTripUptoCard

/-- THE SECOND FORM's CARD OF 'laws.FnExactParseBond'. -/
def fnExactParseBondUptoCard : Claim7 := { stood := { row := fnExactParseBondUptoRow, standIns := [], harness := (true, "4a249f42968783ff868ac7aef013585a266f6e9017edea4d3bdcc2788fba7da4"), looks := false }, kinds := [], alts := [], laidByText := true, laidKinds := [.data, .data, .data, .data], laidTests := true, laidLooks := .later }
def FnExactParseBondUptoCardSaid : Prop := Claim7.holds Tryd.pinned (.plain (OpenSpec.upto fnExactParseBondSpec)) fnExactParseBondUptoCard

/-- THE SECOND FORM's CARD OF 'laws.FnBondCanonical'. -/
def fnBondCanonicalUptoCard : Claim7 := { stood := { row := fnBondCanonicalUptoRow, standIns := [], harness := (true, "4a249f42968783ff868ac7aef013585a266f6e9017edea4d3bdcc2788fba7da4"), looks := false }, kinds := [], alts := [], laidByText := true, laidKinds := [.data, .data, .data, .data], laidTests := true, laidLooks := .later }
def FnBondCanonicalUptoCardSaid : Prop := Claim7.holds Tryd.pinned (.plain (OpenSpec.upto fnBondCanonicalSpec)) fnBondCanonicalUptoCard
end Rows
end Go.Proofs.YtpomlbloeejbjaaDoor
