/-
  DERIVED. GIVEN WITH THE SEED: THE CARDS: each row of YtmncepdbglaphaaGreatDoorRows.lean that lists a variable, with what it lists TIED to the program's text (the seventh form; the later family's looks); each row that meets fmt, with fmt's text TOLD by the authors' own Lean function (tested against real Go, not proved from fmt's source: count such statements apart). THE CARD IS WHAT COUNTS. Prove the row's statement (the work); the ties are given (YtmncepdbglaphaaGreatDoorTie.lean); close each card by the builder's one call (the guide's Derived/Test/ToyasCard.lean, 'card_holds'). Laid BY PROGRAM, IN A SANDBOX (cutbox-door.mjs). By AI agents, Wed Nov 11 2026. No macro, syntax, notation, axiom, sorry.
-/
import Derived.Test.YtmncepdbglaphaaGreatDoorRows
import GoSem.ClaimSeven
namespace Go.Proofs.YtmncepdbglaphaaGreatDoor
namespace Rows

/-- THE TIED CARD OF 'oocorelaw11.CoreApart'. -/
def coreApartCard : Claim7 := { stood := { row := coreApartRow, standIns := [], harness := (true, "8561e3ce4c0533d8ebc51a52acf8f42ae008ac12246f5d6e1218be969369262d"), looks := false }, kinds := [], alts := [], laidByText := true, laidKinds := [.data, .data, .data], laidTests := true, laidLooks := .later }
def CoreApartCardSaid : Prop := Claim7.holds Tryz.pinned (.plain (OpenSpec.ofChange coreApartSpec)) coreApartCard

/-- THE SECOND FORM's CARD OF 'oocorelaw11.CoreApart'. -/
def coreApartUptoCard : Claim7 := { stood := { row := coreApartUptoRow, standIns := [], harness := (true, "8561e3ce4c0533d8ebc51a52acf8f42ae008ac12246f5d6e1218be969369262d"), looks := false }, kinds := [], alts := [], laidByText := true, laidKinds := [.data, .data, .data], laidTests := true, laidLooks := .later }
def CoreApartUptoCardSaid : Prop := Claim7.holds Tryz.pinned (.plain (OpenSpec.upto coreApartSpec)) coreApartUptoCard
end Rows
end Go.Proofs.YtmncepdbglaphaaGreatDoor
