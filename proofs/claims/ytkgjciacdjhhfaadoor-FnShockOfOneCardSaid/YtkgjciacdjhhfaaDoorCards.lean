/-
  DERIVED. GIVEN WITH THE SEED: THE CARDS: each row of YtkgjciacdjhhfaaDoorRows.lean that lists a variable, with what it lists TIED to the program's text (the seventh form; the later family's looks); each row that meets fmt, with fmt's text TOLD by the authors' own Lean function (tested against real Go, not proved from fmt's source: count such statements apart). THE CARD IS WHAT COUNTS. Prove the row's statement (the work); the ties are given (YtkgjciacdjhhfaaDoorTie.lean); close each card by the builder's one call (the guide's Derived/Test/ToyasCard.lean, 'card_holds'). Laid BY PROGRAM, IN A SANDBOX (cutbox-door.mjs). By AI agents, Wed Nov 11 2026. No macro, syntax, notation, axiom, sorry.
-/
import Derived.Test.YtkgjciacdjhhfaaDoorRows
import GoSem.ClaimSeven
namespace Go.Proofs.YtkgjciacdjhhfaaDoor
namespace Rows

/-- THE TIED CARD OF 'laws.FnExactPriceOf'. -/
def fnExactPriceOfCard : Claim7 := { stood := { row := fnExactPriceOfRow, standIns := [], harness := (true, "a4f7e9a3a2dd7febb91b59340b975e898b1d35a96e4db750cc7f4ee2cb25401f"), looks := false }, kinds := [], alts := [], laidByText := true, laidKinds := [.data, .sentinel], laidTests := true, laidLooks := .later }
def FnExactPriceOfCardSaid : Prop := Claim7.holds Tryd.pinned (.plain (OpenSpec.ofChange fnExactPriceOfSpec)) fnExactPriceOfCard

/-- THE TIED CARD OF 'laws.FnExactRiskOf'. -/
def fnExactRiskOfCard : Claim7 := { stood := { row := fnExactRiskOfRow, standIns := [], harness := (true, "a4f7e9a3a2dd7febb91b59340b975e898b1d35a96e4db750cc7f4ee2cb25401f"), looks := false }, kinds := [], alts := [], laidByText := true, laidKinds := [.data, .sentinel], laidTests := true, laidLooks := .later }
def FnExactRiskOfCardSaid : Prop := Claim7.holds Tryd.pinned (.plain (OpenSpec.ofChange fnExactRiskOfSpec)) fnExactRiskOfCard

/-- THE TIED CARD OF 'laws.FnExactYieldOf'. -/
def fnExactYieldOfCard : Claim7 := { stood := { row := fnExactYieldOfRow, standIns := [], harness := (true, "a4f7e9a3a2dd7febb91b59340b975e898b1d35a96e4db750cc7f4ee2cb25401f"), looks := false }, kinds := [], alts := [], laidByText := true, laidKinds := [.data, .sentinel], laidTests := true, laidLooks := .later }
def FnExactYieldOfCardSaid : Prop := Claim7.holds Tryd.pinned (.plain (OpenSpec.ofChange fnExactYieldOfSpec)) fnExactYieldOfCard

/-- THE TIED CARD OF 'laws.FnExactShockOf'. -/
def fnExactShockOfCard : Claim7 := { stood := { row := fnExactShockOfRow, standIns := [], harness := (true, "a4f7e9a3a2dd7febb91b59340b975e898b1d35a96e4db750cc7f4ee2cb25401f"), looks := false }, kinds := [], alts := [], laidByText := true, laidKinds := [.data, .sentinel], laidTests := true, laidLooks := .later }
def FnExactShockOfCardSaid : Prop := Claim7.holds Tryd.pinned (.plain (OpenSpec.ofChange fnExactShockOfSpec)) fnExactShockOfCard

/-- THE TIED CARD OF 'laws.FnPriceOfNarrow'. -/
def fnPriceOfNarrowCard : Claim7 := { stood := { row := fnPriceOfNarrowRow, standIns := [], harness := (true, "a4f7e9a3a2dd7febb91b59340b975e898b1d35a96e4db750cc7f4ee2cb25401f"), looks := false }, kinds := [], alts := [], laidByText := true, laidKinds := [.data, .sentinel], laidTests := true, laidLooks := .later }
def FnPriceOfNarrowCardSaid : Prop := Claim7.holds Tryd.pinned (.plain (OpenSpec.ofChange fnPriceOfNarrowSpec)) fnPriceOfNarrowCard

/-- THE TIED CARD OF 'laws.FnPriceOfRate'. -/
def fnPriceOfRateCard : Claim7 := { stood := { row := fnPriceOfRateRow, standIns := [], harness := (true, "a4f7e9a3a2dd7febb91b59340b975e898b1d35a96e4db750cc7f4ee2cb25401f"), looks := false }, kinds := [], alts := [], laidByText := true, laidKinds := [.data, .sentinel], laidTests := true, laidLooks := .later }
def FnPriceOfRateCardSaid : Prop := Claim7.holds Tryd.pinned (.plain (OpenSpec.ofChange fnPriceOfRateSpec)) fnPriceOfRateCard

/-- THE TIED CARD OF 'laws.FnPriceOfEnd'. -/
def fnPriceOfEndCard : Claim7 := { stood := { row := fnPriceOfEndRow, standIns := [], harness := (true, "a4f7e9a3a2dd7febb91b59340b975e898b1d35a96e4db750cc7f4ee2cb25401f"), looks := false }, kinds := [], alts := [], laidByText := true, laidKinds := [.data, .sentinel], laidTests := true, laidLooks := .later }
def FnPriceOfEndCardSaid : Prop := Claim7.holds Tryd.pinned (.plain (OpenSpec.ofChange fnPriceOfEndSpec)) fnPriceOfEndCard

/-- THE TIED CARD OF 'laws.FnRiskOfConvex'. -/
def fnRiskOfConvexCard : Claim7 := { stood := { row := fnRiskOfConvexRow, standIns := [], harness := (true, "a4f7e9a3a2dd7febb91b59340b975e898b1d35a96e4db750cc7f4ee2cb25401f"), looks := false }, kinds := [], alts := [], laidByText := true, laidKinds := [.data, .sentinel], laidTests := true, laidLooks := .later }
def FnRiskOfConvexCardSaid : Prop := Claim7.holds Tryd.pinned (.plain (OpenSpec.ofChange fnRiskOfConvexSpec)) fnRiskOfConvexCard

/-- THE TIED CARD OF 'laws.FnRiskOf'. -/
def fnRiskOfCard : Claim7 := { stood := { row := fnRiskOfRow, standIns := [], harness := (true, "a4f7e9a3a2dd7febb91b59340b975e898b1d35a96e4db750cc7f4ee2cb25401f"), looks := false }, kinds := [], alts := [], laidByText := true, laidKinds := [.data, .sentinel], laidTests := true, laidLooks := .later }
def FnRiskOfCardSaid : Prop := Claim7.holds Tryd.pinned (.plain (OpenSpec.ofChange fnRiskOfSpec)) fnRiskOfCard

/-- THE TIED CARD OF 'laws.FnPriceOf'. -/
def fnPriceOfCard : Claim7 := { stood := { row := fnPriceOfRow, standIns := [], harness := (true, "a4f7e9a3a2dd7febb91b59340b975e898b1d35a96e4db750cc7f4ee2cb25401f"), looks := false }, kinds := [], alts := [], laidByText := true, laidKinds := [.data, .sentinel], laidTests := true, laidLooks := .later }
def FnPriceOfCardSaid : Prop := Claim7.holds Tryd.pinned (.plain (OpenSpec.ofChange fnPriceOfSpec)) fnPriceOfCard

/-- THE TIED CARD OF 'laws.FnYieldOf'. -/
def fnYieldOfCard : Claim7 := { stood := { row := fnYieldOfRow, standIns := [], harness := (true, "a4f7e9a3a2dd7febb91b59340b975e898b1d35a96e4db750cc7f4ee2cb25401f"), looks := false }, kinds := [], alts := [], laidByText := true, laidKinds := [.data, .sentinel], laidTests := true, laidLooks := .later }
def FnYieldOfCardSaid : Prop := Claim7.holds Tryd.pinned (.plain (OpenSpec.ofChange fnYieldOfSpec)) fnYieldOfCard

/-- THE TIED CARD OF 'laws.FnYieldOfNear'. -/
def fnYieldOfNearCard : Claim7 := { stood := { row := fnYieldOfNearRow, standIns := [], harness := (true, "a4f7e9a3a2dd7febb91b59340b975e898b1d35a96e4db750cc7f4ee2cb25401f"), looks := false }, kinds := [], alts := [], laidByText := true, laidKinds := [.data, .sentinel], laidTests := true, laidLooks := .later }
def FnYieldOfNearCardSaid : Prop := Claim7.holds Tryd.pinned (.plain (OpenSpec.ofChange fnYieldOfNearSpec)) fnYieldOfNearCard

/-- THE TIED CARD OF 'laws.FnYieldOfZero'. -/
def fnYieldOfZeroCard : Claim7 := { stood := { row := fnYieldOfZeroRow, standIns := [], harness := (true, "a4f7e9a3a2dd7febb91b59340b975e898b1d35a96e4db750cc7f4ee2cb25401f"), looks := false }, kinds := [], alts := [], laidByText := true, laidKinds := [.data, .sentinel], laidTests := true, laidLooks := .later }
def FnYieldOfZeroCardSaid : Prop := Claim7.holds Tryd.pinned (.plain (OpenSpec.ofChange fnYieldOfZeroSpec)) fnYieldOfZeroCard

/-- THE TIED CARD OF 'laws.FnShockOf'. -/
def fnShockOfCard : Claim7 := { stood := { row := fnShockOfRow, standIns := [], harness := (true, "a4f7e9a3a2dd7febb91b59340b975e898b1d35a96e4db750cc7f4ee2cb25401f"), looks := false }, kinds := [], alts := [], laidByText := true, laidKinds := [.data, .sentinel], laidTests := true, laidLooks := .later }
def FnShockOfCardSaid : Prop := Claim7.holds Tryd.pinned (.plain (OpenSpec.ofChange fnShockOfSpec)) fnShockOfCard

/-- THE TIED CARD OF 'laws.FnShockOfOne'. -/
def fnShockOfOneCard : Claim7 := { stood := { row := fnShockOfOneRow, standIns := [], harness := (true, "a4f7e9a3a2dd7febb91b59340b975e898b1d35a96e4db750cc7f4ee2cb25401f"), looks := false }, kinds := [], alts := [], laidByText := true, laidKinds := [.data, .sentinel], laidTests := true, laidLooks := .later }
def FnShockOfOneCardSaid : Prop := Claim7.holds Tryd.pinned (.plain (OpenSpec.ofChange fnShockOfOneSpec)) fnShockOfOneCard

/-- THE SECOND FORM's CARD OF 'laws.FnExactPriceOf'. -/
def fnExactPriceOfUptoCard : Claim7 := { stood := { row := fnExactPriceOfUptoRow, standIns := [], harness := (true, "a4f7e9a3a2dd7febb91b59340b975e898b1d35a96e4db750cc7f4ee2cb25401f"), looks := false }, kinds := [], alts := [], laidByText := true, laidKinds := [.data, .sentinel], laidTests := true, laidLooks := .later }
def FnExactPriceOfUptoCardSaid : Prop := Claim7.holds Tryd.pinned (.plain (OpenSpec.upto fnExactPriceOfSpec)) fnExactPriceOfUptoCard

/-- THE SECOND FORM's CARD OF 'laws.FnExactRiskOf'. -/
def fnExactRiskOfUptoCard : Claim7 := { stood := { row := fnExactRiskOfUptoRow, standIns := [], harness := (true, "a4f7e9a3a2dd7febb91b59340b975e898b1d35a96e4db750cc7f4ee2cb25401f"), looks := false }, kinds := [], alts := [], laidByText := true, laidKinds := [.data, .sentinel], laidTests := true, laidLooks := .later }
def FnExactRiskOfUptoCardSaid : Prop := Claim7.holds Tryd.pinned (.plain (OpenSpec.upto fnExactRiskOfSpec)) fnExactRiskOfUptoCard

/-- THE SECOND FORM's CARD OF 'laws.FnExactYieldOf'. -/
def fnExactYieldOfUptoCard : Claim7 := { stood := { row := fnExactYieldOfUptoRow, standIns := [], harness := (true, "a4f7e9a3a2dd7febb91b59340b975e898b1d35a96e4db750cc7f4ee2cb25401f"), looks := false }, kinds := [], alts := [], laidByText := true, laidKinds := [.data, .sentinel], laidTests := true, laidLooks := .later }
def FnExactYieldOfUptoCardSaid : Prop := Claim7.holds Tryd.pinned (.plain (OpenSpec.upto fnExactYieldOfSpec)) fnExactYieldOfUptoCard

/-- THE SECOND FORM's CARD OF 'laws.FnExactShockOf'. -/
def fnExactShockOfUptoCard : Claim7 := { stood := { row := fnExactShockOfUptoRow, standIns := [], harness := (true, "a4f7e9a3a2dd7febb91b59340b975e898b1d35a96e4db750cc7f4ee2cb25401f"), looks := false }, kinds := [], alts := [], laidByText := true, laidKinds := [.data, .sentinel], laidTests := true, laidLooks := .later }
def FnExactShockOfUptoCardSaid : Prop := Claim7.holds Tryd.pinned (.plain (OpenSpec.upto fnExactShockOfSpec)) fnExactShockOfUptoCard

/-- THE SECOND FORM's CARD OF 'laws.FnPriceOfNarrow'. -/
def fnPriceOfNarrowUptoCard : Claim7 := { stood := { row := fnPriceOfNarrowUptoRow, standIns := [], harness := (true, "a4f7e9a3a2dd7febb91b59340b975e898b1d35a96e4db750cc7f4ee2cb25401f"), looks := false }, kinds := [], alts := [], laidByText := true, laidKinds := [.data, .sentinel], laidTests := true, laidLooks := .later }
def FnPriceOfNarrowUptoCardSaid : Prop := Claim7.holds Tryd.pinned (.plain (OpenSpec.upto fnPriceOfNarrowSpec)) fnPriceOfNarrowUptoCard

/-- THE SECOND FORM's CARD OF 'laws.FnPriceOfRate'. -/
def fnPriceOfRateUptoCard : Claim7 := { stood := { row := fnPriceOfRateUptoRow, standIns := [], harness := (true, "a4f7e9a3a2dd7febb91b59340b975e898b1d35a96e4db750cc7f4ee2cb25401f"), looks := false }, kinds := [], alts := [], laidByText := true, laidKinds := [.data, .sentinel], laidTests := true, laidLooks := .later }
def FnPriceOfRateUptoCardSaid : Prop := Claim7.holds Tryd.pinned (.plain (OpenSpec.upto fnPriceOfRateSpec)) fnPriceOfRateUptoCard

/-- THE SECOND FORM's CARD OF 'laws.FnPriceOfEnd'. -/
def fnPriceOfEndUptoCard : Claim7 := { stood := { row := fnPriceOfEndUptoRow, standIns := [], harness := (true, "a4f7e9a3a2dd7febb91b59340b975e898b1d35a96e4db750cc7f4ee2cb25401f"), looks := false }, kinds := [], alts := [], laidByText := true, laidKinds := [.data, .sentinel], laidTests := true, laidLooks := .later }
def FnPriceOfEndUptoCardSaid : Prop := Claim7.holds Tryd.pinned (.plain (OpenSpec.upto fnPriceOfEndSpec)) fnPriceOfEndUptoCard

/-- THE SECOND FORM's CARD OF 'laws.FnRiskOfConvex'. -/
def fnRiskOfConvexUptoCard : Claim7 := { stood := { row := fnRiskOfConvexUptoRow, standIns := [], harness := (true, "a4f7e9a3a2dd7febb91b59340b975e898b1d35a96e4db750cc7f4ee2cb25401f"), looks := false }, kinds := [], alts := [], laidByText := true, laidKinds := [.data, .sentinel], laidTests := true, laidLooks := .later }
def FnRiskOfConvexUptoCardSaid : Prop := Claim7.holds Tryd.pinned (.plain (OpenSpec.upto fnRiskOfConvexSpec)) fnRiskOfConvexUptoCard

/-- THE SECOND FORM's CARD OF 'laws.FnRiskOf'. -/
def fnRiskOfUptoCard : Claim7 := { stood := { row := fnRiskOfUptoRow, standIns := [], harness := (true, "a4f7e9a3a2dd7febb91b59340b975e898b1d35a96e4db750cc7f4ee2cb25401f"), looks := false }, kinds := [], alts := [], laidByText := true, laidKinds := [.data, .sentinel], laidTests := true, laidLooks := .later }
def FnRiskOfUptoCardSaid : Prop := Claim7.holds Tryd.pinned (.plain (OpenSpec.upto fnRiskOfSpec)) fnRiskOfUptoCard

/-- THE SECOND FORM's CARD OF 'laws.FnPriceOf'. -/
def fnPriceOfUptoCard : Claim7 := { stood := { row := fnPriceOfUptoRow, standIns := [], harness := (true, "a4f7e9a3a2dd7febb91b59340b975e898b1d35a96e4db750cc7f4ee2cb25401f"), looks := false }, kinds := [], alts := [], laidByText := true, laidKinds := [.data, .sentinel], laidTests := true, laidLooks := .later }
def FnPriceOfUptoCardSaid : Prop := Claim7.holds Tryd.pinned (.plain (OpenSpec.upto fnPriceOfSpec)) fnPriceOfUptoCard

/-- THE SECOND FORM's CARD OF 'laws.FnYieldOf'. -/
def fnYieldOfUptoCard : Claim7 := { stood := { row := fnYieldOfUptoRow, standIns := [], harness := (true, "a4f7e9a3a2dd7febb91b59340b975e898b1d35a96e4db750cc7f4ee2cb25401f"), looks := false }, kinds := [], alts := [], laidByText := true, laidKinds := [.data, .sentinel], laidTests := true, laidLooks := .later }
def FnYieldOfUptoCardSaid : Prop := Claim7.holds Tryd.pinned (.plain (OpenSpec.upto fnYieldOfSpec)) fnYieldOfUptoCard

/-- THE SECOND FORM's CARD OF 'laws.FnYieldOfNear'. -/
def fnYieldOfNearUptoCard : Claim7 := { stood := { row := fnYieldOfNearUptoRow, standIns := [], harness := (true, "a4f7e9a3a2dd7febb91b59340b975e898b1d35a96e4db750cc7f4ee2cb25401f"), looks := false }, kinds := [], alts := [], laidByText := true, laidKinds := [.data, .sentinel], laidTests := true, laidLooks := .later }
def FnYieldOfNearUptoCardSaid : Prop := Claim7.holds Tryd.pinned (.plain (OpenSpec.upto fnYieldOfNearSpec)) fnYieldOfNearUptoCard

/-- THE SECOND FORM's CARD OF 'laws.FnYieldOfZero'. -/
def fnYieldOfZeroUptoCard : Claim7 := { stood := { row := fnYieldOfZeroUptoRow, standIns := [], harness := (true, "a4f7e9a3a2dd7febb91b59340b975e898b1d35a96e4db750cc7f4ee2cb25401f"), looks := false }, kinds := [], alts := [], laidByText := true, laidKinds := [.data, .sentinel], laidTests := true, laidLooks := .later }
def FnYieldOfZeroUptoCardSaid : Prop := Claim7.holds Tryd.pinned (.plain (OpenSpec.upto fnYieldOfZeroSpec)) fnYieldOfZeroUptoCard

/-- THE SECOND FORM's CARD OF 'laws.FnShockOf'. -/
def fnShockOfUptoCard : Claim7 := { stood := { row := fnShockOfUptoRow, standIns := [], harness := (true, "a4f7e9a3a2dd7febb91b59340b975e898b1d35a96e4db750cc7f4ee2cb25401f"), looks := false }, kinds := [], alts := [], laidByText := true, laidKinds := [.data, .sentinel], laidTests := true, laidLooks := .later }
def FnShockOfUptoCardSaid : Prop := Claim7.holds Tryd.pinned (.plain (OpenSpec.upto fnShockOfSpec)) fnShockOfUptoCard

/-- THE SECOND FORM's CARD OF 'laws.FnShockOfOne'. -/
def fnShockOfOneUptoCard : Claim7 := { stood := { row := fnShockOfOneUptoRow, standIns := [], harness := (true, "a4f7e9a3a2dd7febb91b59340b975e898b1d35a96e4db750cc7f4ee2cb25401f"), looks := false }, kinds := [], alts := [], laidByText := true, laidKinds := [.data, .sentinel], laidTests := true, laidLooks := .later }
def FnShockOfOneUptoCardSaid : Prop := Claim7.holds Tryd.pinned (.plain (OpenSpec.upto fnShockOfOneSpec)) fnShockOfOneUptoCard
end Rows
end Go.Proofs.YtkgjciacdjhhfaaDoor
