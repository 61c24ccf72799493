/-
  DERIVED. GIVEN WITH THE SEED: THE CARDS: each row of YtgcakilmmeopaaaDoorRows.lean that lists a variable, with what it lists TIED to the program's text (the seventh form; the later family's looks); each row that meets fmt, with fmt's text TOLD by the authors' own Lean function (tested against real Go, not proved from fmt's source: count such statements apart). THE CARD IS WHAT COUNTS. Prove the row's statement (the work); the ties are given (YtgcakilmmeopaaaDoorTie.lean); close each card by the builder's one call (the guide's Derived/Test/ToyasCard.lean, 'card_holds'). Laid BY PROGRAM, IN A SANDBOX (cutbox-door.mjs). By AI agents, Wed Nov 11 2026. No macro, syntax, notation, axiom, sorry.
-/
import Derived.Test.YtgcakilmmeopaaaDoorRows
import GoSem.ClaimSeven
namespace Go.Proofs.YtgcakilmmeopaaaDoor
namespace Rows

/-- THE TIED CARD OF 'oocorelaw5.PredictReturns'. -/
def predictReturnsCard : Claim7 := { stood := { row := predictReturnsRow, standIns := [], harness := (true, "7f7b97cd06627594fccb558ad2211ab341d0e8c204704f49e8edd0f04b2b50a0"), looks := true }, kinds := [], alts := [], laidByText := true, laidKinds := [.data, .data], laidTests := true, laidLooks := .later }
def PredictReturnsCardSaid : Prop := Claim7.holds Tryd.pinned (.plain (OpenSpec.ofChange predictReturnsSpec)) predictReturnsCard

/-- THE TIED CARD OF 'oocorelaw5.PredictLearns'. -/
def predictLearnsCard : Claim7 := { stood := { row := predictLearnsRow, standIns := [], harness := (true, "7f7b97cd06627594fccb558ad2211ab341d0e8c204704f49e8edd0f04b2b50a0"), looks := true }, kinds := [], alts := [], laidByText := true, laidKinds := [.data, .data], laidTests := true, laidLooks := .later }
def PredictLearnsCardSaid : Prop := Claim7.holds Tryd.pinned (.plain (OpenSpec.ofChange predictLearnsSpec)) predictLearnsCard

/-- THE TIED CARD OF 'oocorelaw5.PredictGuesses'. -/
def predictGuessesCard : Claim7 := { stood := { row := predictGuessesRow, standIns := [], harness := (true, "7f7b97cd06627594fccb558ad2211ab341d0e8c204704f49e8edd0f04b2b50a0"), looks := true }, kinds := [], alts := [], laidByText := true, laidKinds := [.handle, .data, .data], laidTests := true, laidLooks := .later }
def PredictGuessesCardSaid : Prop := Claim7.holds Tryd.pinned (.plain (OpenSpec.ofChange predictGuessesSpec)) predictGuessesCard

/-- THE SECOND FORM's CARD OF 'oocorelaw5.PredictReturns'. -/
def predictReturnsUptoCard : Claim7 := { stood := { row := predictReturnsUptoRow, standIns := [], harness := (true, "7f7b97cd06627594fccb558ad2211ab341d0e8c204704f49e8edd0f04b2b50a0"), looks := true }, kinds := [], alts := [], laidByText := true, laidKinds := [.data, .data], laidTests := true, laidLooks := .later }
def PredictReturnsUptoCardSaid : Prop := Claim7.holds Tryd.pinned (.plain (OpenSpec.upto predictReturnsSpec)) predictReturnsUptoCard

/-- THE SECOND FORM's CARD OF 'oocorelaw5.PredictLearns'. -/
def predictLearnsUptoCard : Claim7 := { stood := { row := predictLearnsUptoRow, standIns := [], harness := (true, "7f7b97cd06627594fccb558ad2211ab341d0e8c204704f49e8edd0f04b2b50a0"), looks := true }, kinds := [], alts := [], laidByText := true, laidKinds := [.data, .data], laidTests := true, laidLooks := .later }
def PredictLearnsUptoCardSaid : Prop := Claim7.holds Tryd.pinned (.plain (OpenSpec.upto predictLearnsSpec)) predictLearnsUptoCard

/-- THE SECOND FORM's CARD OF 'oocorelaw5.PredictGuesses'. -/
def predictGuessesUptoCard : Claim7 := { stood := { row := predictGuessesUptoRow, standIns := [], harness := (true, "7f7b97cd06627594fccb558ad2211ab341d0e8c204704f49e8edd0f04b2b50a0"), looks := true }, kinds := [], alts := [], laidByText := true, laidKinds := [.handle, .data, .data], laidTests := true, laidLooks := .later }
def PredictGuessesUptoCardSaid : Prop := Claim7.holds Tryd.pinned (.plain (OpenSpec.upto predictGuessesSpec)) predictGuessesUptoCard
end Rows
end Go.Proofs.YtgcakilmmeopaaaDoor
