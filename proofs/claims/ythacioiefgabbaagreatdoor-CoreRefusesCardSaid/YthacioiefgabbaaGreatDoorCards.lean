/-
  DERIVED. GIVEN WITH THE SEED: THE CARDS: each row of YthacioiefgabbaaGreatDoorRows.lean that lists a variable, with what it lists TIED to the program's text (the seventh form; the later family's looks); each row that meets fmt, with fmt's text TOLD by the authors' own Lean function (tested against real Go, not proved from fmt's source: count such statements apart). THE CARD IS WHAT COUNTS. Prove the row's statement (the work); the ties are given (YthacioiefgabbaaGreatDoorTie.lean); close each card by the builder's one call (the guide's Derived/Test/ToyasCard.lean, 'card_holds'). Laid BY PROGRAM, IN A SANDBOX (cutbox-door.mjs). By AI agents, Wed Nov 11 2026. No macro, syntax, notation, axiom, sorry.
-/
import Derived.Test.YthacioiefgabbaaGreatDoorRows
import GoSem.ClaimSeven
namespace Go.Proofs.YthacioiefgabbaaGreatDoor
namespace Rows

/-- THE TIED CARD OF 'oocorelaw11.CoreRefuses'. -/
def coreRefusesCard : Claim7 := { stood := { row := coreRefusesRow, standIns := [], harness := (true, "afd688bb5894c4cdf92cfb26b007cd6baf031372dba195819ce048107e0949a3"), looks := true }, kinds := [], alts := [], laidByText := true, laidKinds := [.handle, .data, .data, .data], laidTests := true, laidLooks := .later }
def CoreRefusesCardSaid : Prop := Claim7.holds Tryz.pinned (.plain (OpenSpec.ofChange coreRefusesSpec)) coreRefusesCard

/-- THE TIED CARD OF 'oocorelaw12.SystemRefuses'. -/
def systemRefusesCard : Claim7 := { stood := { row := systemRefusesRow, standIns := [], harness := (true, "afd688bb5894c4cdf92cfb26b007cd6baf031372dba195819ce048107e0949a3"), looks := true }, kinds := [], alts := [], laidByText := true, laidKinds := [.handle, .data, .data, .data], laidTests := true, laidLooks := .later }
def SystemRefusesCardSaid : Prop := Claim7.holds Tryz.pinned (.plain (OpenSpec.ofChange systemRefusesSpec)) systemRefusesCard

/-- THE SECOND FORM's CARD OF 'oocorelaw11.CoreRefuses'. -/
def coreRefusesUptoCard : Claim7 := { stood := { row := coreRefusesUptoRow, standIns := [], harness := (true, "afd688bb5894c4cdf92cfb26b007cd6baf031372dba195819ce048107e0949a3"), looks := true }, kinds := [], alts := [], laidByText := true, laidKinds := [.handle, .data, .data, .data], laidTests := true, laidLooks := .later }
def CoreRefusesUptoCardSaid : Prop := Claim7.holds Tryz.pinned (.plain (OpenSpec.upto coreRefusesSpec)) coreRefusesUptoCard

/-- THE SECOND FORM's CARD OF 'oocorelaw12.SystemRefuses'. -/
def systemRefusesUptoCard : Claim7 := { stood := { row := systemRefusesUptoRow, standIns := [], harness := (true, "afd688bb5894c4cdf92cfb26b007cd6baf031372dba195819ce048107e0949a3"), looks := true }, kinds := [], alts := [], laidByText := true, laidKinds := [.handle, .data, .data, .data], laidTests := true, laidLooks := .later }
def SystemRefusesUptoCardSaid : Prop := Claim7.holds Tryz.pinned (.plain (OpenSpec.upto systemRefusesSpec)) systemRefusesUptoCard
end Rows
end Go.Proofs.YthacioiefgabbaaGreatDoor
