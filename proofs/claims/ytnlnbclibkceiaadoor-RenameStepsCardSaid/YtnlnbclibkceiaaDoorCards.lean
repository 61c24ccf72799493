/-
  DERIVED. GIVEN WITH THE SEED: THE CARDS: each row of YtnlnbclibkceiaaDoorRows.lean that lists a variable, with what it lists TIED to the program's text (the seventh form; the later family's looks); each row that meets fmt, with fmt's text TOLD by the authors' own Lean function (tested against real Go, not proved from fmt's source: count such statements apart). THE CARD IS WHAT COUNTS. Prove the row's statement (the work); the ties are given (YtnlnbclibkceiaaDoorTie.lean); close each card by the builder's one call (the guide's Derived/Test/ToyasCard.lean, 'card_holds'). Laid BY PROGRAM, IN A SANDBOX (cutbox-door.mjs). By AI agents, Wed Nov 11 2026. No macro, syntax, notation, axiom, sorry.
-/
import Derived.Test.YtnlnbclibkceiaaDoorRows
import GoSem.ClaimSeven
namespace Go.Proofs.YtnlnbclibkceiaaDoor
namespace Rows

/-- THE TIED CARD OF 'oocorelaw6.RenameSteps'. -/
def renameStepsCard : Claim7 := { stood := { row := renameStepsRow, standIns := [], harness := (true, "3d11dd59f593507a109dcb5edb07f3a0c9608929e7456174d6e712c6a037ba62"), looks := true }, kinds := [], alts := [], laidByText := true, laidKinds := [.handle], laidTests := true, laidLooks := .later }
def RenameStepsCardSaid : Prop := Claim7.holds Tryd.pinned (.plain (OpenSpec.ofChange renameStepsSpec)) renameStepsCard

/-- THE SECOND FORM's CARD OF 'oocorelaw6.RenameSteps'. -/
def renameStepsUptoCard : Claim7 := { stood := { row := renameStepsUptoRow, standIns := [], harness := (true, "3d11dd59f593507a109dcb5edb07f3a0c9608929e7456174d6e712c6a037ba62"), looks := true }, kinds := [], alts := [], laidByText := true, laidKinds := [.handle], laidTests := true, laidLooks := .later }
def RenameStepsUptoCardSaid : Prop := Claim7.holds Tryd.pinned (.plain (OpenSpec.upto renameStepsSpec)) renameStepsUptoCard
end Rows
end Go.Proofs.YtnlnbclibkceiaaDoor
