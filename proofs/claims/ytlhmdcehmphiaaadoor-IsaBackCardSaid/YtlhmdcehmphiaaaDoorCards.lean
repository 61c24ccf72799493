/-
  DERIVED. GIVEN WITH THE SEED: THE CARDS: each row of YtlhmdcehmphiaaaDoorRows.lean that lists a variable, with what it lists TIED to the program's text (the seventh form; the later family's looks); each row that meets fmt, with fmt's text TOLD by the authors' own Lean function (tested against real Go, not proved from fmt's source: count such statements apart). THE CARD IS WHAT COUNTS. Prove the row's statement (the work); the ties are given (YtlhmdcehmphiaaaDoorTie.lean); close each card by the builder's one call (the guide's Derived/Test/ToyasCard.lean, 'card_holds'). Laid BY PROGRAM, IN A SANDBOX (cutbox-door.mjs). By AI agents, Wed Nov 11 2026. No macro, syntax, notation, axiom, sorry.
-/
import Derived.Test.YtlhmdcehmphiaaaDoorRows
import GoSem.ClaimSeven
namespace Go.Proofs.YtlhmdcehmphiaaaDoor
namespace Rows

/-- THE TIED CARD OF 'oocorelaw1.IsaDecodes'. -/
def isaDecodesCard : Claim7 := { stood := { row := isaDecodesRow, standIns := [], harness := (true, "39b5a4843d8beb76086a4ad8d933d63a4a468ecc7c3295da2660649e14d3241c"), looks := false }, kinds := [], alts := [], laidByText := true, laidKinds := [.data, .data, .data], laidTests := true, laidLooks := .later }
def IsaDecodesCardSaid : Prop := Claim7.holds Tryd.pinned (.plain (OpenSpec.ofChange isaDecodesSpec)) isaDecodesCard

/-- THE TIED CARD OF 'oocorelaw1.IsaKinds'. -/
def isaKindsCard : Claim7 := { stood := { row := isaKindsRow, standIns := [], harness := (true, "39b5a4843d8beb76086a4ad8d933d63a4a468ecc7c3295da2660649e14d3241c"), looks := false }, kinds := [], alts := [], laidByText := true, laidKinds := [.data, .data], laidTests := true, laidLooks := .later }
def IsaKindsCardSaid : Prop := Claim7.holds Tryd.pinned (.plain (OpenSpec.ofChange isaKindsSpec)) isaKindsCard

/-- THE TIED CARD OF 'oocorelaw1.IsaEncodes'. -/
def isaEncodesCard : Claim7 := { stood := { row := isaEncodesRow, standIns := [], harness := (true, "39b5a4843d8beb76086a4ad8d933d63a4a468ecc7c3295da2660649e14d3241c"), looks := false }, kinds := [], alts := [], laidByText := true, laidKinds := [.data, .data], laidTests := true, laidLooks := .later }
def IsaEncodesCardSaid : Prop := Claim7.holds Tryd.pinned (.plain (OpenSpec.ofChange isaEncodesSpec)) isaEncodesCard

/-- THE TIED CARD OF 'oocorelaw1.IsaThere'. -/
def isaThereCard : Claim7 := { stood := { row := isaThereRow, standIns := [], harness := (true, "39b5a4843d8beb76086a4ad8d933d63a4a468ecc7c3295da2660649e14d3241c"), looks := false }, kinds := [], alts := [], laidByText := true, laidKinds := [.data, .data, .data], laidTests := true, laidLooks := .later }
def IsaThereCardSaid : Prop := Claim7.holds Tryd.pinned (.plain (OpenSpec.ofChange isaThereSpec)) isaThereCard

/-- THE TIED CARD OF 'oocorelaw1.IsaBack'. -/
def isaBackCard : Claim7 := { stood := { row := isaBackRow, standIns := [], harness := (true, "39b5a4843d8beb76086a4ad8d933d63a4a468ecc7c3295da2660649e14d3241c"), looks := false }, kinds := [], alts := [], laidByText := true, laidKinds := [.data, .data, .data], laidTests := true, laidLooks := .later }
def IsaBackCardSaid : Prop := Claim7.holds Tryd.pinned (.plain (OpenSpec.ofChange isaBackSpec)) isaBackCard

/-- THE SECOND FORM's CARD OF 'oocorelaw1.IsaDecodes'. -/
def isaDecodesUptoCard : Claim7 := { stood := { row := isaDecodesUptoRow, standIns := [], harness := (true, "39b5a4843d8beb76086a4ad8d933d63a4a468ecc7c3295da2660649e14d3241c"), looks := false }, kinds := [], alts := [], laidByText := true, laidKinds := [.data, .data, .data], laidTests := true, laidLooks := .later }
def IsaDecodesUptoCardSaid : Prop := Claim7.holds Tryd.pinned (.plain (OpenSpec.upto isaDecodesSpec)) isaDecodesUptoCard

/-- THE SECOND FORM's CARD OF 'oocorelaw1.IsaKinds'. -/
def isaKindsUptoCard : Claim7 := { stood := { row := isaKindsUptoRow, standIns := [], harness := (true, "39b5a4843d8beb76086a4ad8d933d63a4a468ecc7c3295da2660649e14d3241c"), looks := false }, kinds := [], alts := [], laidByText := true, laidKinds := [.data, .data], laidTests := true, laidLooks := .later }
def IsaKindsUptoCardSaid : Prop := Claim7.holds Tryd.pinned (.plain (OpenSpec.upto isaKindsSpec)) isaKindsUptoCard

/-- THE SECOND FORM's CARD OF 'oocorelaw1.IsaEncodes'. -/
def isaEncodesUptoCard : Claim7 := { stood := { row := isaEncodesUptoRow, standIns := [], harness := (true, "39b5a4843d8beb76086a4ad8d933d63a4a468ecc7c3295da2660649e14d3241c"), looks := false }, kinds := [], alts := [], laidByText := true, laidKinds := [.data, .data], laidTests := true, laidLooks := .later }
def IsaEncodesUptoCardSaid : Prop := Claim7.holds Tryd.pinned (.plain (OpenSpec.upto isaEncodesSpec)) isaEncodesUptoCard

/-- THE SECOND FORM's CARD OF 'oocorelaw1.IsaThere'. -/
def isaThereUptoCard : Claim7 := { stood := { row := isaThereUptoRow, standIns := [], harness := (true, "39b5a4843d8beb76086a4ad8d933d63a4a468ecc7c3295da2660649e14d3241c"), looks := false }, kinds := [], alts := [], laidByText := true, laidKinds := [.data, .data, .data], laidTests := true, laidLooks := .later }
def IsaThereUptoCardSaid : Prop := Claim7.holds Tryd.pinned (.plain (OpenSpec.upto isaThereSpec)) isaThereUptoCard

/-- THE SECOND FORM's CARD OF 'oocorelaw1.IsaBack'. -/
def isaBackUptoCard : Claim7 := { stood := { row := isaBackUptoRow, standIns := [], harness := (true, "39b5a4843d8beb76086a4ad8d933d63a4a468ecc7c3295da2660649e14d3241c"), looks := false }, kinds := [], alts := [], laidByText := true, laidKinds := [.data, .data, .data], laidTests := true, laidLooks := .later }
def IsaBackUptoCardSaid : Prop := Claim7.holds Tryd.pinned (.plain (OpenSpec.upto isaBackSpec)) isaBackUptoCard
end Rows
end Go.Proofs.YtlhmdcehmphiaaaDoor
