/-
  DERIVED. GIVEN WITH THE SEED: THE CARDS: each row of YtpmafjmgacdgfaaDoorRows.lean that lists a variable, with what it lists TIED to the program's text (the seventh form; the later family's looks); each row that meets fmt, with fmt's text TOLD by the authors' own Lean function (tested against real Go, not proved from fmt's source: count such statements apart). THE CARD IS WHAT COUNTS. Prove the row's statement (the work); the ties are given (YtpmafjmgacdgfaaDoorTie.lean); close each card by the builder's one call (the guide's Derived/Test/ToyasCard.lean, 'card_holds'). Laid BY PROGRAM, IN A SANDBOX (cutbox-door.mjs). By AI agents, Wed Nov 11 2026. No macro, syntax, notation, axiom, sorry.
-/
import Derived.Test.YtpmafjmgacdgfaaDoorRows
import GoSem.ClaimSeven
namespace Go.Proofs.YtpmafjmgacdgfaaDoor
namespace Rows

/-- THE TIED CARD OF 'laws.FnExactAccruedOf'. -/
def fnExactAccruedOfCard : Claim7 := { stood := { row := fnExactAccruedOfRow, standIns := [], harness := (true, "22dfc429811bdb46a90c5d9e37b95d9549ab5b19e19d6b6766dabd62dd407f7b"), looks := false }, kinds := [], alts := [], laidByText := true, laidKinds := [.data], laidTests := true, laidLooks := .later }
def FnExactAccruedOfCardSaid : Prop := Claim7.holds Tryd.pinned (.plain (OpenSpec.ofChange fnExactAccruedOfSpec)) fnExactAccruedOfCard

/-- THE TIED CARD OF 'laws.FnExactCleanOf'. -/
def fnExactCleanOfCard : Claim7 := { stood := { row := fnExactCleanOfRow, standIns := [], harness := (true, "22dfc429811bdb46a90c5d9e37b95d9549ab5b19e19d6b6766dabd62dd407f7b"), looks := false }, kinds := [], alts := [], laidByText := true, laidKinds := [.data], laidTests := true, laidLooks := .later }
def FnExactCleanOfCardSaid : Prop := Claim7.holds Tryd.pinned (.plain (OpenSpec.ofChange fnExactCleanOfSpec)) fnExactCleanOfCard

/-- THE TIED CARD OF 'laws.FnExactDirtyOf'. -/
def fnExactDirtyOfCard : Claim7 := { stood := { row := fnExactDirtyOfRow, standIns := [], harness := (true, "22dfc429811bdb46a90c5d9e37b95d9549ab5b19e19d6b6766dabd62dd407f7b"), looks := false }, kinds := [], alts := [], laidByText := true, laidKinds := [.data], laidTests := true, laidLooks := .later }
def FnExactDirtyOfCardSaid : Prop := Claim7.holds Tryd.pinned (.plain (OpenSpec.ofChange fnExactDirtyOfSpec)) fnExactDirtyOfCard

/-- THE TIED CARD OF 'laws.FnAccruedOfRate'. -/
def fnAccruedOfRateCard : Claim7 := { stood := { row := fnAccruedOfRateRow, standIns := [], harness := (true, "22dfc429811bdb46a90c5d9e37b95d9549ab5b19e19d6b6766dabd62dd407f7b"), looks := false }, kinds := [], alts := [], laidByText := true, laidKinds := [.data], laidTests := true, laidLooks := .later }
def FnAccruedOfRateCardSaid : Prop := Claim7.holds Tryd.pinned (.plain (OpenSpec.ofChange fnAccruedOfRateSpec)) fnAccruedOfRateCard

/-- THE TIED CARD OF 'laws.FnFlowsAfter'. -/
def fnFlowsAfterCard : Claim7 := { stood := { row := fnFlowsAfterRow, standIns := [], harness := (true, "22dfc429811bdb46a90c5d9e37b95d9549ab5b19e19d6b6766dabd62dd407f7b"), looks := false }, kinds := [], alts := [], laidByText := true, laidKinds := [.data], laidTests := true, laidLooks := .later }
def FnFlowsAfterCardSaid : Prop := Claim7.holds Tryd.pinned (.plain (OpenSpec.ofChange fnFlowsAfterSpec)) fnFlowsAfterCard

/-- THE TIED CARD OF 'laws.FnFlowsAfterNone'. -/
def fnFlowsAfterNoneCard : Claim7 := { stood := { row := fnFlowsAfterNoneRow, standIns := [], harness := (true, "22dfc429811bdb46a90c5d9e37b95d9549ab5b19e19d6b6766dabd62dd407f7b"), looks := false }, kinds := [], alts := [], laidByText := true, laidKinds := [.data], laidTests := true, laidLooks := .later }
def FnFlowsAfterNoneCardSaid : Prop := Claim7.holds Tryd.pinned (.plain (OpenSpec.ofChange fnFlowsAfterNoneSpec)) fnFlowsAfterNoneCard

/-- THE TIED CARD OF 'laws.FnNextFlow'. -/
def fnNextFlowCard : Claim7 := { stood := { row := fnNextFlowRow, standIns := [], harness := (true, "22dfc429811bdb46a90c5d9e37b95d9549ab5b19e19d6b6766dabd62dd407f7b"), looks := false }, kinds := [], alts := [], laidByText := true, laidKinds := [.data], laidTests := true, laidLooks := .later }
def FnNextFlowCardSaid : Prop := Claim7.holds Tryd.pinned (.plain (OpenSpec.ofChange fnNextFlowSpec)) fnNextFlowCard

/-- THE TIED CARD OF 'laws.FnDirtyOf'. -/
def fnDirtyOfCard : Claim7 := { stood := { row := fnDirtyOfRow, standIns := [], harness := (true, "22dfc429811bdb46a90c5d9e37b95d9549ab5b19e19d6b6766dabd62dd407f7b"), looks := false }, kinds := [], alts := [], laidByText := true, laidKinds := [.data], laidTests := true, laidLooks := .later }
def FnDirtyOfCardSaid : Prop := Claim7.holds Tryd.pinned (.plain (OpenSpec.ofChange fnDirtyOfSpec)) fnDirtyOfCard

/-- THE TIED CARD OF 'laws.FnCleanOf'. -/
def fnCleanOfCard : Claim7 := { stood := { row := fnCleanOfRow, standIns := [], harness := (true, "22dfc429811bdb46a90c5d9e37b95d9549ab5b19e19d6b6766dabd62dd407f7b"), looks := false }, kinds := [], alts := [], laidByText := true, laidKinds := [.data], laidTests := true, laidLooks := .later }
def FnCleanOfCardSaid : Prop := Claim7.holds Tryd.pinned (.plain (OpenSpec.ofChange fnCleanOfSpec)) fnCleanOfCard

/-- THE TIED CARD OF 'laws.FnAccruedOf'. -/
def fnAccruedOfCard : Claim7 := { stood := { row := fnAccruedOfRow, standIns := [], harness := (true, "22dfc429811bdb46a90c5d9e37b95d9549ab5b19e19d6b6766dabd62dd407f7b"), looks := false }, kinds := [], alts := [], laidByText := true, laidKinds := [.data], laidTests := true, laidLooks := .later }
def FnAccruedOfCardSaid : Prop := Claim7.holds Tryd.pinned (.plain (OpenSpec.ofChange fnAccruedOfSpec)) fnAccruedOfCard

/-- THE TIED CARD OF 'laws.FnLifeOfZero'. -/
def fnLifeOfZeroCard : Claim7 := { stood := { row := fnLifeOfZeroRow, standIns := [], harness := (true, "22dfc429811bdb46a90c5d9e37b95d9549ab5b19e19d6b6766dabd62dd407f7b"), looks := false }, kinds := [], alts := [], laidByText := true, laidKinds := [.data], laidTests := true, laidLooks := .later }
def FnLifeOfZeroCardSaid : Prop := Claim7.holds Tryd.pinned (.plain (OpenSpec.ofChange fnLifeOfZeroSpec)) fnLifeOfZeroCard

/-- THE TIED CARD OF 'laws.FnLifeOf'. -/
def fnLifeOfCard : Claim7 := { stood := { row := fnLifeOfRow, standIns := [], harness := (true, "22dfc429811bdb46a90c5d9e37b95d9549ab5b19e19d6b6766dabd62dd407f7b"), looks := false }, kinds := [], alts := [], laidByText := true, laidKinds := [.data], laidTests := true, laidLooks := .later }
def FnLifeOfCardSaid : Prop := Claim7.holds Tryd.pinned (.plain (OpenSpec.ofChange fnLifeOfSpec)) fnLifeOfCard

/-- THE TIED CARD OF 'laws.FnExactCouponPay'. -/
def fnExactCouponPayCard : Claim7 := { stood := { row := fnExactCouponPayRow, standIns := [], harness := (true, "22dfc429811bdb46a90c5d9e37b95d9549ab5b19e19d6b6766dabd62dd407f7b"), looks := false }, kinds := [], alts := [], laidByText := true, laidKinds := [.data], laidTests := true, laidLooks := .later }
def FnExactCouponPayCardSaid : Prop := Claim7.holds Tryd.pinned (.plain (OpenSpec.ofChange fnExactCouponPaySpec)) fnExactCouponPayCard

/-- THE TIED CARD OF 'laws.FnCouponPay'. -/
def fnCouponPayCard : Claim7 := { stood := { row := fnCouponPayRow, standIns := [], harness := (true, "22dfc429811bdb46a90c5d9e37b95d9549ab5b19e19d6b6766dabd62dd407f7b"), looks := false }, kinds := [], alts := [], laidByText := true, laidKinds := [.data], laidTests := true, laidLooks := .later }
def FnCouponPayCardSaid : Prop := Claim7.holds Tryd.pinned (.plain (OpenSpec.ofChange fnCouponPaySpec)) fnCouponPayCard

/-- THE SECOND FORM's CARD OF 'laws.FnExactAccruedOf'. -/
def fnExactAccruedOfUptoCard : Claim7 := { stood := { row := fnExactAccruedOfUptoRow, standIns := [], harness := (true, "22dfc429811bdb46a90c5d9e37b95d9549ab5b19e19d6b6766dabd62dd407f7b"), looks := false }, kinds := [], alts := [], laidByText := true, laidKinds := [.data], laidTests := true, laidLooks := .later }
def FnExactAccruedOfUptoCardSaid : Prop := Claim7.holds Tryd.pinned (.plain (OpenSpec.upto fnExactAccruedOfSpec)) fnExactAccruedOfUptoCard

/-- THE SECOND FORM's CARD OF 'laws.FnExactCleanOf'. -/
def fnExactCleanOfUptoCard : Claim7 := { stood := { row := fnExactCleanOfUptoRow, standIns := [], harness := (true, "22dfc429811bdb46a90c5d9e37b95d9549ab5b19e19d6b6766dabd62dd407f7b"), looks := false }, kinds := [], alts := [], laidByText := true, laidKinds := [.data], laidTests := true, laidLooks := .later }
def FnExactCleanOfUptoCardSaid : Prop := Claim7.holds Tryd.pinned (.plain (OpenSpec.upto fnExactCleanOfSpec)) fnExactCleanOfUptoCard

/-- THE SECOND FORM's CARD OF 'laws.FnExactDirtyOf'. -/
def fnExactDirtyOfUptoCard : Claim7 := { stood := { row := fnExactDirtyOfUptoRow, standIns := [], harness := (true, "22dfc429811bdb46a90c5d9e37b95d9549ab5b19e19d6b6766dabd62dd407f7b"), looks := false }, kinds := [], alts := [], laidByText := true, laidKinds := [.data], laidTests := true, laidLooks := .later }
def FnExactDirtyOfUptoCardSaid : Prop := Claim7.holds Tryd.pinned (.plain (OpenSpec.upto fnExactDirtyOfSpec)) fnExactDirtyOfUptoCard

/-- THE SECOND FORM's CARD OF 'laws.FnAccruedOfRate'. -/
def fnAccruedOfRateUptoCard : Claim7 := { stood := { row := fnAccruedOfRateUptoRow, standIns := [], harness := (true, "22dfc429811bdb46a90c5d9e37b95d9549ab5b19e19d6b6766dabd62dd407f7b"), looks := false }, kinds := [], alts := [], laidByText := true, laidKinds := [.data], laidTests := true, laidLooks := .later }
def FnAccruedOfRateUptoCardSaid : Prop := Claim7.holds Tryd.pinned (.plain (OpenSpec.upto fnAccruedOfRateSpec)) fnAccruedOfRateUptoCard

/-- THE SECOND FORM's CARD OF 'laws.FnFlowsAfter'. -/
def fnFlowsAfterUptoCard : Claim7 := { stood := { row := fnFlowsAfterUptoRow, standIns := [], harness := (true, "22dfc429811bdb46a90c5d9e37b95d9549ab5b19e19d6b6766dabd62dd407f7b"), looks := false }, kinds := [], alts := [], laidByText := true, laidKinds := [.data], laidTests := true, laidLooks := .later }
def FnFlowsAfterUptoCardSaid : Prop := Claim7.holds Tryd.pinned (.plain (OpenSpec.upto fnFlowsAfterSpec)) fnFlowsAfterUptoCard

/-- THE SECOND FORM's CARD OF 'laws.FnFlowsAfterNone'. -/
def fnFlowsAfterNoneUptoCard : Claim7 := { stood := { row := fnFlowsAfterNoneUptoRow, standIns := [], harness := (true, "22dfc429811bdb46a90c5d9e37b95d9549ab5b19e19d6b6766dabd62dd407f7b"), looks := false }, kinds := [], alts := [], laidByText := true, laidKinds := [.data], laidTests := true, laidLooks := .later }
def FnFlowsAfterNoneUptoCardSaid : Prop := Claim7.holds Tryd.pinned (.plain (OpenSpec.upto fnFlowsAfterNoneSpec)) fnFlowsAfterNoneUptoCard

/-- THE SECOND FORM's CARD OF 'laws.FnNextFlow'. -/
def fnNextFlowUptoCard : Claim7 := { stood := { row := fnNextFlowUptoRow, standIns := [], harness := (true, "22dfc429811bdb46a90c5d9e37b95d9549ab5b19e19d6b6766dabd62dd407f7b"), looks := false }, kinds := [], alts := [], laidByText := true, laidKinds := [.data], laidTests := true, laidLooks := .later }
def FnNextFlowUptoCardSaid : Prop := Claim7.holds Tryd.pinned (.plain (OpenSpec.upto fnNextFlowSpec)) fnNextFlowUptoCard

/-- THE SECOND FORM's CARD OF 'laws.FnDirtyOf'. -/
def fnDirtyOfUptoCard : Claim7 := { stood := { row := fnDirtyOfUptoRow, standIns := [], harness := (true, "22dfc429811bdb46a90c5d9e37b95d9549ab5b19e19d6b6766dabd62dd407f7b"), looks := false }, kinds := [], alts := [], laidByText := true, laidKinds := [.data], laidTests := true, laidLooks := .later }
def FnDirtyOfUptoCardSaid : Prop := Claim7.holds Tryd.pinned (.plain (OpenSpec.upto fnDirtyOfSpec)) fnDirtyOfUptoCard

/-- THE SECOND FORM's CARD OF 'laws.FnCleanOf'. -/
def fnCleanOfUptoCard : Claim7 := { stood := { row := fnCleanOfUptoRow, standIns := [], harness := (true, "22dfc429811bdb46a90c5d9e37b95d9549ab5b19e19d6b6766dabd62dd407f7b"), looks := false }, kinds := [], alts := [], laidByText := true, laidKinds := [.data], laidTests := true, laidLooks := .later }
def FnCleanOfUptoCardSaid : Prop := Claim7.holds Tryd.pinned (.plain (OpenSpec.upto fnCleanOfSpec)) fnCleanOfUptoCard

/-- THE SECOND FORM's CARD OF 'laws.FnAccruedOf'. -/
def fnAccruedOfUptoCard : Claim7 := { stood := { row := fnAccruedOfUptoRow, standIns := [], harness := (true, "22dfc429811bdb46a90c5d9e37b95d9549ab5b19e19d6b6766dabd62dd407f7b"), looks := false }, kinds := [], alts := [], laidByText := true, laidKinds := [.data], laidTests := true, laidLooks := .later }
def FnAccruedOfUptoCardSaid : Prop := Claim7.holds Tryd.pinned (.plain (OpenSpec.upto fnAccruedOfSpec)) fnAccruedOfUptoCard

/-- THE SECOND FORM's CARD OF 'laws.FnLifeOfZero'. -/
def fnLifeOfZeroUptoCard : Claim7 := { stood := { row := fnLifeOfZeroUptoRow, standIns := [], harness := (true, "22dfc429811bdb46a90c5d9e37b95d9549ab5b19e19d6b6766dabd62dd407f7b"), looks := false }, kinds := [], alts := [], laidByText := true, laidKinds := [.data], laidTests := true, laidLooks := .later }
def FnLifeOfZeroUptoCardSaid : Prop := Claim7.holds Tryd.pinned (.plain (OpenSpec.upto fnLifeOfZeroSpec)) fnLifeOfZeroUptoCard

/-- THE SECOND FORM's CARD OF 'laws.FnLifeOf'. -/
def fnLifeOfUptoCard : Claim7 := { stood := { row := fnLifeOfUptoRow, standIns := [], harness := (true, "22dfc429811bdb46a90c5d9e37b95d9549ab5b19e19d6b6766dabd62dd407f7b"), looks := false }, kinds := [], alts := [], laidByText := true, laidKinds := [.data], laidTests := true, laidLooks := .later }
def FnLifeOfUptoCardSaid : Prop := Claim7.holds Tryd.pinned (.plain (OpenSpec.upto fnLifeOfSpec)) fnLifeOfUptoCard

/-- THE SECOND FORM's CARD OF 'laws.FnExactCouponPay'. -/
def fnExactCouponPayUptoCard : Claim7 := { stood := { row := fnExactCouponPayUptoRow, standIns := [], harness := (true, "22dfc429811bdb46a90c5d9e37b95d9549ab5b19e19d6b6766dabd62dd407f7b"), looks := false }, kinds := [], alts := [], laidByText := true, laidKinds := [.data], laidTests := true, laidLooks := .later }
def FnExactCouponPayUptoCardSaid : Prop := Claim7.holds Tryd.pinned (.plain (OpenSpec.upto fnExactCouponPaySpec)) fnExactCouponPayUptoCard

/-- THE SECOND FORM's CARD OF 'laws.FnCouponPay'. -/
def fnCouponPayUptoCard : Claim7 := { stood := { row := fnCouponPayUptoRow, standIns := [], harness := (true, "22dfc429811bdb46a90c5d9e37b95d9549ab5b19e19d6b6766dabd62dd407f7b"), looks := false }, kinds := [], alts := [], laidByText := true, laidKinds := [.data], laidTests := true, laidLooks := .later }
def FnCouponPayUptoCardSaid : Prop := Claim7.holds Tryd.pinned (.plain (OpenSpec.upto fnCouponPaySpec)) fnCouponPayUptoCard
end Rows
end Go.Proofs.YtpmafjmgacdgfaaDoor
