/-
  DERIVED. GIVEN WITH THE SEED: THE CARDS: each row of YtbiogceijdcoiaaDoorRows.lean that lists a variable, with what it lists TIED to the program's text (the seventh form; the later family's looks); each row that meets fmt, with fmt's text TOLD by the authors' own Lean function (tested against real Go, not proved from fmt's source: count such statements apart). THE CARD IS WHAT COUNTS. Prove the row's statement (the work); the ties are given (YtbiogceijdcoiaaDoorTie.lean); close each card by the builder's one call (the guide's Derived/Test/ToyasCard.lean, 'card_holds'). Laid BY PROGRAM, IN A SANDBOX (cutbox-door.mjs). By AI agents, Wed Nov 11 2026. No macro, syntax, notation, axiom, sorry.
-/
import Derived.Test.YtbiogceijdcoiaaDoorRows
import GoSem.ClaimSeven
namespace Go.Proofs.YtbiogceijdcoiaaDoor
namespace Rows

/-- THE TIED CARD OF 'oocorelaw10.BusSteps'. -/
def busStepsCard : Claim7 := { stood := { row := busStepsRow, standIns := [], harness := (true, "43b77977604ecf6f949270a531bf9c690a1d838875be6e7c15ddfaf81a54bf98"), looks := true }, kinds := [], alts := [], laidByText := true, laidKinds := [.handle], laidTests := true, laidLooks := .later }
def BusStepsCardSaid : Prop := Claim7.holds Tryd.pinned (.plain (OpenSpec.ofChange busStepsSpec)) busStepsCard

/-- THE SECOND FORM's CARD OF 'oocorelaw10.BusSteps'. -/
def busStepsUptoCard : Claim7 := { stood := { row := busStepsUptoRow, standIns := [], harness := (true, "43b77977604ecf6f949270a531bf9c690a1d838875be6e7c15ddfaf81a54bf98"), looks := true }, kinds := [], alts := [], laidByText := true, laidKinds := [.handle], laidTests := true, laidLooks := .later }
def BusStepsUptoCardSaid : Prop := Claim7.holds Tryd.pinned (.plain (OpenSpec.upto busStepsSpec)) busStepsUptoCard
end Rows
end Go.Proofs.YtbiogceijdcoiaaDoor
