/-
  DERIVED. GIVEN WITH THE SEED: THE CARDS: each row of YtcpmgklhfpcaeaaDoorRows.lean that lists a variable, with what it lists TIED to the program's text (the seventh form; the later family's looks); each row that meets fmt, with fmt's text TOLD by the authors' own Lean function (tested against real Go, not proved from fmt's source: count such statements apart). THE CARD IS WHAT COUNTS. Prove the row's statement (the work); the ties are given (YtcpmgklhfpcaeaaDoorTie.lean); close each card by the builder's one call (the guide's Derived/Test/ToyasCard.lean, 'card_holds'). Laid BY PROGRAM, IN A SANDBOX (cutbox-door.mjs). By AI agents, Wed Nov 11 2026. No macro, syntax, notation, axiom, sorry.
-/
import Derived.Test.YtcpmgklhfpcaeaaDoorRows
import GoSem.ClaimSeven
namespace Go.Proofs.YtcpmgklhfpcaeaaDoor
namespace Rows

/-- THE TIED CARD OF 'oocorelaw4.ArchOnly'. -/
def archOnlyCard : Claim7 := { stood := { row := archOnlyRow, standIns := [], harness := (true, "99e80726688242ae5da5c7d516ee7d16ad9ade981d40719659d8640824a08207"), looks := false }, kinds := [], alts := [], laidByText := true, laidKinds := [.data, .data, .data], laidTests := true, laidLooks := .later }
def ArchOnlyCardSaid : Prop := Claim7.holds Tryd.pinned (.plain (OpenSpec.ofChange archOnlySpec)) archOnlyCard

/-- THE SECOND FORM's CARD OF 'oocorelaw4.ArchOnly'. -/
def archOnlyUptoCard : Claim7 := { stood := { row := archOnlyUptoRow, standIns := [], harness := (true, "99e80726688242ae5da5c7d516ee7d16ad9ade981d40719659d8640824a08207"), looks := false }, kinds := [], alts := [], laidByText := true, laidKinds := [.data, .data, .data], laidTests := true, laidLooks := .later }
def ArchOnlyUptoCardSaid : Prop := Claim7.holds Tryd.pinned (.plain (OpenSpec.upto archOnlySpec)) archOnlyUptoCard
end Rows
end Go.Proofs.YtcpmgklhfpcaeaaDoor
