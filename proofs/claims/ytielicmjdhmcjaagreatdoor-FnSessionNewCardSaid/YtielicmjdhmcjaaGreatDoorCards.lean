/-
  DERIVED. GIVEN WITH THE SEED: THE CARDS: each row of YtielicmjdhmcjaaGreatDoorRows.lean that lists a variable, with what it lists TIED to the program's text (the seventh form; the later family's looks); each row that meets fmt, with fmt's text TOLD by the authors' own Lean function (tested against real Go, not proved from fmt's source: count such statements apart). THE CARD IS WHAT COUNTS. Prove the row's statement (the work); the ties are given (YtielicmjdhmcjaaGreatDoorTie.lean); close each card by the builder's one call (the guide's Derived/Test/ToyasCard.lean, 'card_holds'). Laid BY PROGRAM, IN A SANDBOX (cutbox-door.mjs). By AI agents, Wed Nov 11 2026. No macro, syntax, notation, axiom, sorry.
-/
import Derived.Test.YtielicmjdhmcjaaGreatDoorRows
import GoSem.ClaimSeven
namespace Go.Proofs.YtielicmjdhmcjaaGreatDoor
namespace Rows

/-- THE TIED CARD OF 'laws.FnSessionNew'. -/
def fnSessionNewCard : Claim7 := { stood := { row := fnSessionNewRow, standIns := [], harness := (true, "efa8652cb767d110e6de1ad6a8a63b60ce84089dc576426d00f0bc0cbc999c4b"), looks := false }, kinds := [], alts := [], laidByText := true, laidKinds := [.data, .data, .data, .data, .data, .sentinel, .pinned], laidTests := true, laidLooks := .later }
def FnSessionNewCardSaid : Prop := Claim7.holds Tryz.pinned (.plain (OpenSpec.ofChange fnSessionNewSpec)) fnSessionNewCard

/-- THE TIED CARD OF 'laws.FnSessionPrefix'. -/
def fnSessionPrefixCard : Claim7 := { stood := { row := fnSessionPrefixRow, standIns := [], harness := (true, "efa8652cb767d110e6de1ad6a8a63b60ce84089dc576426d00f0bc0cbc999c4b"), looks := false }, kinds := [], alts := [], laidByText := true, laidKinds := [.data, .data, .data, .data, .data, .sentinel, .pinned], laidTests := true, laidLooks := .later }
def FnSessionPrefixCardSaid : Prop := Claim7.holds Tryz.pinned (.plain (OpenSpec.ofChange fnSessionPrefixSpec)) fnSessionPrefixCard

/-- THE TIED CARD OF 'laws.FnSessionQuestions'. -/
def fnSessionQuestionsCard : Claim7 := { stood := { row := fnSessionQuestionsRow, standIns := [], harness := (true, "efa8652cb767d110e6de1ad6a8a63b60ce84089dc576426d00f0bc0cbc999c4b"), looks := false }, kinds := [], alts := [], laidByText := true, laidKinds := [.data, .data, .data, .data, .data, .sentinel, .pinned], laidTests := true, laidLooks := .later }
def FnSessionQuestionsCardSaid : Prop := Claim7.holds Tryz.pinned (.plain (OpenSpec.ofChange fnSessionQuestionsSpec)) fnSessionQuestionsCard

/-- THE TIED CARD OF 'laws.FnExactRunSession'. -/
def fnExactRunSessionCard : Claim7 := { stood := { row := fnExactRunSessionRow, standIns := [], harness := (true, "efa8652cb767d110e6de1ad6a8a63b60ce84089dc576426d00f0bc0cbc999c4b"), looks := false }, kinds := [], alts := [], laidByText := true, laidKinds := [.data, .data, .data, .data, .data, .sentinel, .pinned], laidTests := true, laidLooks := .later }
def FnExactRunSessionCardSaid : Prop := Claim7.holds Tryz.pinned (.plain (OpenSpec.ofChange fnExactRunSessionSpec)) fnExactRunSessionCard

/-- THE SECOND FORM's CARD OF 'laws.FnSessionNew'. -/
def fnSessionNewUptoCard : Claim7 := { stood := { row := fnSessionNewUptoRow, standIns := [], harness := (true, "efa8652cb767d110e6de1ad6a8a63b60ce84089dc576426d00f0bc0cbc999c4b"), looks := false }, kinds := [], alts := [], laidByText := true, laidKinds := [.data, .data, .data, .data, .data, .sentinel, .pinned], laidTests := true, laidLooks := .later }
def FnSessionNewUptoCardSaid : Prop := Claim7.holds Tryz.pinned (.plain (OpenSpec.upto fnSessionNewSpec)) fnSessionNewUptoCard

/-- THE SECOND FORM's CARD OF 'laws.FnSessionPrefix'. -/
def fnSessionPrefixUptoCard : Claim7 := { stood := { row := fnSessionPrefixUptoRow, standIns := [], harness := (true, "efa8652cb767d110e6de1ad6a8a63b60ce84089dc576426d00f0bc0cbc999c4b"), looks := false }, kinds := [], alts := [], laidByText := true, laidKinds := [.data, .data, .data, .data, .data, .sentinel, .pinned], laidTests := true, laidLooks := .later }
def FnSessionPrefixUptoCardSaid : Prop := Claim7.holds Tryz.pinned (.plain (OpenSpec.upto fnSessionPrefixSpec)) fnSessionPrefixUptoCard

/-- THE SECOND FORM's CARD OF 'laws.FnSessionQuestions'. -/
def fnSessionQuestionsUptoCard : Claim7 := { stood := { row := fnSessionQuestionsUptoRow, standIns := [], harness := (true, "efa8652cb767d110e6de1ad6a8a63b60ce84089dc576426d00f0bc0cbc999c4b"), looks := false }, kinds := [], alts := [], laidByText := true, laidKinds := [.data, .data, .data, .data, .data, .sentinel, .pinned], laidTests := true, laidLooks := .later }
def FnSessionQuestionsUptoCardSaid : Prop := Claim7.holds Tryz.pinned (.plain (OpenSpec.upto fnSessionQuestionsSpec)) fnSessionQuestionsUptoCard

/-- THE SECOND FORM's CARD OF 'laws.FnExactRunSession'. -/
def fnExactRunSessionUptoCard : Claim7 := { stood := { row := fnExactRunSessionUptoRow, standIns := [], harness := (true, "efa8652cb767d110e6de1ad6a8a63b60ce84089dc576426d00f0bc0cbc999c4b"), looks := false }, kinds := [], alts := [], laidByText := true, laidKinds := [.data, .data, .data, .data, .data, .sentinel, .pinned], laidTests := true, laidLooks := .later }
def FnExactRunSessionUptoCardSaid : Prop := Claim7.holds Tryz.pinned (.plain (OpenSpec.upto fnExactRunSessionSpec)) fnExactRunSessionUptoCard
end Rows
end Go.Proofs.YtielicmjdhmcjaaGreatDoor
