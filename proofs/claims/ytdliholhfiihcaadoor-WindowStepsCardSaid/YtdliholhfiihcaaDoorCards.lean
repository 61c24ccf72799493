/-
  DERIVED. GIVEN WITH THE SEED: THE CARDS: each row of YtdliholhfiihcaaDoorRows.lean that lists a variable, with what it lists TIED to the program's text (the seventh form; the later family's looks); each row that meets fmt, with fmt's text TOLD by the authors' own Lean function (tested against real Go, not proved from fmt's source: count such statements apart). THE CARD IS WHAT COUNTS. Prove the row's statement (the work); the ties are given (YtdliholhfiihcaaDoorTie.lean); close each card by the builder's one call (the guide's Derived/Test/ToyasCard.lean, 'card_holds'). Laid BY PROGRAM, IN A SANDBOX (cutbox-door.mjs). By AI agents, Wed Nov 11 2026. No macro, syntax, notation, axiom, sorry.
-/
import Derived.Test.YtdliholhfiihcaaDoorRows
import GoSem.ClaimSeven
namespace Go.Proofs.YtdliholhfiihcaaDoor
namespace Rows

/-- THE TIED CARD OF 'oocorelaw7.WindowFlows'. -/
def windowFlowsCard : Claim7 := { stood := { row := windowFlowsRow, standIns := [], harness := (true, "d52a7eadfe79eeebe503f06769522282abb631f839689a64ea5321d744900086"), looks := true }, kinds := [], alts := [], laidByText := true, laidKinds := [.handle], laidTests := true, laidLooks := .later }
def WindowFlowsCardSaid : Prop := Claim7.holds Tryd.pinned (.plain (OpenSpec.ofChange windowFlowsSpec)) windowFlowsCard

/-- THE TIED CARD OF 'oocorelaw7.WindowSteps'. -/
def windowStepsCard : Claim7 := { stood := { row := windowStepsRow, standIns := [], harness := (true, "d52a7eadfe79eeebe503f06769522282abb631f839689a64ea5321d744900086"), looks := true }, kinds := [], alts := [], laidByText := true, laidKinds := [.handle], laidTests := true, laidLooks := .later }
def WindowStepsCardSaid : Prop := Claim7.holds Tryd.pinned (.plain (OpenSpec.ofChange windowStepsSpec)) windowStepsCard

/-- THE SECOND FORM's CARD OF 'oocorelaw7.WindowFlows'. -/
def windowFlowsUptoCard : Claim7 := { stood := { row := windowFlowsUptoRow, standIns := [], harness := (true, "d52a7eadfe79eeebe503f06769522282abb631f839689a64ea5321d744900086"), looks := true }, kinds := [], alts := [], laidByText := true, laidKinds := [.handle], laidTests := true, laidLooks := .later }
def WindowFlowsUptoCardSaid : Prop := Claim7.holds Tryd.pinned (.plain (OpenSpec.upto windowFlowsSpec)) windowFlowsUptoCard

/-- THE SECOND FORM's CARD OF 'oocorelaw7.WindowSteps'. -/
def windowStepsUptoCard : Claim7 := { stood := { row := windowStepsUptoRow, standIns := [], harness := (true, "d52a7eadfe79eeebe503f06769522282abb631f839689a64ea5321d744900086"), looks := true }, kinds := [], alts := [], laidByText := true, laidKinds := [.handle], laidTests := true, laidLooks := .later }
def WindowStepsUptoCardSaid : Prop := Claim7.holds Tryd.pinned (.plain (OpenSpec.upto windowStepsSpec)) windowStepsUptoCard
end Rows
end Go.Proofs.YtdliholhfiihcaaDoor
