/-
  DERIVED. GIVEN WITH THE SEED: THE CARDS: each row of YtcpmgklhfpcaeaaGreatDoorRows.lean that lists a variable, with what it lists TIED to the program's text (the seventh form; the later family's looks); each row that meets fmt, with fmt's text TOLD by the authors' own Lean function (tested against real Go, not proved from fmt's source: count such statements apart). THE CARD IS WHAT COUNTS. Prove the row's statement (the work); the ties are given (YtcpmgklhfpcaeaaGreatDoorTie.lean); close each card by the builder's one call (the guide's Derived/Test/ToyasCard.lean, 'card_holds'). Laid BY PROGRAM, IN A SANDBOX (cutbox-door.mjs). By AI agents, Wed Nov 11 2026. No macro, syntax, notation, axiom, sorry.
-/
import Derived.Test.YtcpmgklhfpcaeaaGreatDoorRows
import GoSem.ClaimSeven
namespace Go.Proofs.YtcpmgklhfpcaeaaGreatDoor
namespace Rows

/-- THE TIED CARD OF 'oocorelaw4.ArchAsks'. -/
def archAsksCard : Claim7 := { stood := { row := archAsksRow, standIns := [], harness := (true, "42b71422d0334573de6afd933be4a9504f7801fde7da464a6c54e67d02f1197a"), looks := true }, kinds := [], alts := [], laidByText := true, laidKinds := [.handle, .data, .data, .data], laidTests := true, laidLooks := .later }
def ArchAsksCardSaid : Prop := Claim7.holds Tryz.pinned (.plain (OpenSpec.ofChange archAsksSpec)) archAsksCard

/-- THE TIED CARD OF 'oocorelaw4.ArchSteps'. -/
def archStepsCard : Claim7 := { stood := { row := archStepsRow, standIns := [], harness := (true, "42b71422d0334573de6afd933be4a9504f7801fde7da464a6c54e67d02f1197a"), looks := true }, kinds := [], alts := [], laidByText := true, laidKinds := [.handle, .data, .data, .data], laidTests := true, laidLooks := .later }
def ArchStepsCardSaid : Prop := Claim7.holds Tryz.pinned (.plain (OpenSpec.ofChange archStepsSpec)) archStepsCard

/-- THE SECOND FORM's CARD OF 'oocorelaw4.ArchAsks'. -/
def archAsksUptoCard : Claim7 := { stood := { row := archAsksUptoRow, standIns := [], harness := (true, "42b71422d0334573de6afd933be4a9504f7801fde7da464a6c54e67d02f1197a"), looks := true }, kinds := [], alts := [], laidByText := true, laidKinds := [.handle, .data, .data, .data], laidTests := true, laidLooks := .later }
def ArchAsksUptoCardSaid : Prop := Claim7.holds Tryz.pinned (.plain (OpenSpec.upto archAsksSpec)) archAsksUptoCard

/-- THE SECOND FORM's CARD OF 'oocorelaw4.ArchSteps'. -/
def archStepsUptoCard : Claim7 := { stood := { row := archStepsUptoRow, standIns := [], harness := (true, "42b71422d0334573de6afd933be4a9504f7801fde7da464a6c54e67d02f1197a"), looks := true }, kinds := [], alts := [], laidByText := true, laidKinds := [.handle, .data, .data, .data], laidTests := true, laidLooks := .later }
def ArchStepsUptoCardSaid : Prop := Claim7.holds Tryz.pinned (.plain (OpenSpec.upto archStepsSpec)) archStepsUptoCard
end Rows
end Go.Proofs.YtcpmgklhfpcaeaaGreatDoor
