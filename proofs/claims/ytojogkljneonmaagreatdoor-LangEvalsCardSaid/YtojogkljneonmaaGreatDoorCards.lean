/-
  DERIVED. GIVEN WITH THE SEED: THE CARDS: each row of YtojogkljneonmaaGreatDoorRows.lean that lists a variable, with what it lists TIED to the program's text (the seventh form; the later family's looks); each row that meets fmt, with fmt's text TOLD by the authors' own Lean function (tested against real Go, not proved from fmt's source: count such statements apart). THE CARD IS WHAT COUNTS. Prove the row's statement (the work); the ties are given (YtojogkljneonmaaGreatDoorTie.lean); close each card by the builder's one call (the guide's Derived/Test/ToyasCard.lean, 'card_holds'). Laid BY PROGRAM, IN A SANDBOX (cutbox-door.mjs). By AI agents, Wed Nov 11 2026. No macro, syntax, notation, axiom, sorry.
-/
import Derived.Test.YtojogkljneonmaaGreatDoorRows
import GoSem.ClaimSeven
namespace Go.Proofs.YtojogkljneonmaaGreatDoor
namespace Rows

/-- THE TIED CARD OF 'oocorelaw13.LangChecks'. -/
def langChecksCard : Claim7 := { stood := { row := langChecksRow, standIns := [], harness := (true, "ca0db60c519f1d86cc8d0f76a582f610b97d1d5fe65d2fed9e34f12887a60e7a"), looks := true }, kinds := [], alts := [], laidByText := true, laidKinds := [.data, .data, .data, .handle, .sentinel, .sentinel], laidTests := true, laidLooks := .later }
def LangChecksCardSaid : Prop := Claim7.holds Tryz.pinned (.plain (OpenSpec.ofChange langChecksSpec)) langChecksCard

/-- THE TIED CARD OF 'oocorelaw13.LangSteps'. -/
def langStepsCard : Claim7 := { stood := { row := langStepsRow, standIns := [], harness := (true, "ca0db60c519f1d86cc8d0f76a582f610b97d1d5fe65d2fed9e34f12887a60e7a"), looks := true }, kinds := [], alts := [], laidByText := true, laidKinds := [.data, .data, .data, .sentinel, .sentinel], laidTests := true, laidLooks := .later }
def LangStepsCardSaid : Prop := Claim7.holds Tryz.pinned (.plain (OpenSpec.ofChange langStepsSpec)) langStepsCard

/-- THE TIED CARD OF 'oocorelaw13.LangEvals'. -/
def langEvalsCard : Claim7 := { stood := { row := langEvalsRow, standIns := [], harness := (true, "ca0db60c519f1d86cc8d0f76a582f610b97d1d5fe65d2fed9e34f12887a60e7a"), looks := true }, kinds := [], alts := [], laidByText := true, laidKinds := [.data, .data, .data, .handle, .sentinel, .sentinel], laidTests := true, laidLooks := .later }
def LangEvalsCardSaid : Prop := Claim7.holds Tryz.pinned (.plain (OpenSpec.ofChange langEvalsSpec)) langEvalsCard

/-- THE SECOND FORM's CARD OF 'oocorelaw13.LangChecks'. -/
def langChecksUptoCard : Claim7 := { stood := { row := langChecksUptoRow, standIns := [], harness := (true, "ca0db60c519f1d86cc8d0f76a582f610b97d1d5fe65d2fed9e34f12887a60e7a"), looks := true }, kinds := [], alts := [], laidByText := true, laidKinds := [.data, .data, .data, .handle, .sentinel, .sentinel], laidTests := true, laidLooks := .later }
def LangChecksUptoCardSaid : Prop := Claim7.holds Tryz.pinned (.plain (OpenSpec.upto langChecksSpec)) langChecksUptoCard

/-- THE SECOND FORM's CARD OF 'oocorelaw13.LangSteps'. -/
def langStepsUptoCard : Claim7 := { stood := { row := langStepsUptoRow, standIns := [], harness := (true, "ca0db60c519f1d86cc8d0f76a582f610b97d1d5fe65d2fed9e34f12887a60e7a"), looks := true }, kinds := [], alts := [], laidByText := true, laidKinds := [.data, .data, .data, .sentinel, .sentinel], laidTests := true, laidLooks := .later }
def LangStepsUptoCardSaid : Prop := Claim7.holds Tryz.pinned (.plain (OpenSpec.upto langStepsSpec)) langStepsUptoCard

/-- THE SECOND FORM's CARD OF 'oocorelaw13.LangEvals'. -/
def langEvalsUptoCard : Claim7 := { stood := { row := langEvalsUptoRow, standIns := [], harness := (true, "ca0db60c519f1d86cc8d0f76a582f610b97d1d5fe65d2fed9e34f12887a60e7a"), looks := true }, kinds := [], alts := [], laidByText := true, laidKinds := [.data, .data, .data, .handle, .sentinel, .sentinel], laidTests := true, laidLooks := .later }
def LangEvalsUptoCardSaid : Prop := Claim7.holds Tryz.pinned (.plain (OpenSpec.upto langEvalsSpec)) langEvalsUptoCard
end Rows
end Go.Proofs.YtojogkljneonmaaGreatDoor
