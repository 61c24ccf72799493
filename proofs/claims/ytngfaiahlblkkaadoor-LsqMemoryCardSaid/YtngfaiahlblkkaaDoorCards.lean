/-
  DERIVED. GIVEN WITH THE SEED: THE CARDS: each row of YtngfaiahlblkkaaDoorRows.lean that lists a variable, with what it lists TIED to the program's text (the seventh form; the later family's looks); each row that meets fmt, with fmt's text TOLD by the authors' own Lean function (tested against real Go, not proved from fmt's source: count such statements apart). THE CARD IS WHAT COUNTS. Prove the row's statement (the work); the ties are given (YtngfaiahlblkkaaDoorTie.lean); close each card by the builder's one call (the guide's Derived/Test/ToyasCard.lean, 'card_holds'). Laid BY PROGRAM, IN A SANDBOX (cutbox-door.mjs). By AI agents, Wed Nov 11 2026. No macro, syntax, notation, axiom, sorry.
-/
import Derived.Test.YtngfaiahlblkkaaDoorRows
import GoSem.ClaimSeven
namespace Go.Proofs.YtngfaiahlblkkaaDoor
namespace Rows

/-- THE TIED CARD OF 'oocorelaw8.LsqMemory'. -/
def lsqMemoryCard : Claim7 := { stood := { row := lsqMemoryRow, standIns := [], harness := (true, "c9f5d3e8f384276899e182b9fdba86894a3376e384f78a90e6035a9ce0ebc329"), looks := true }, kinds := [], alts := [], laidByText := true, laidKinds := [.handle], laidTests := true, laidLooks := .later }
def LsqMemoryCardSaid : Prop := Claim7.holds Tryd.pinned (.plain (OpenSpec.ofChange lsqMemorySpec)) lsqMemoryCard

/-- THE TIED CARD OF 'oocorelaw8.LsqSteps'. -/
def lsqStepsCard : Claim7 := { stood := { row := lsqStepsRow, standIns := [], harness := (true, "c9f5d3e8f384276899e182b9fdba86894a3376e384f78a90e6035a9ce0ebc329"), looks := true }, kinds := [], alts := [], laidByText := true, laidKinds := [.handle], laidTests := true, laidLooks := .later }
def LsqStepsCardSaid : Prop := Claim7.holds Tryd.pinned (.plain (OpenSpec.ofChange lsqStepsSpec)) lsqStepsCard

/-- THE SECOND FORM's CARD OF 'oocorelaw8.LsqMemory'. -/
def lsqMemoryUptoCard : Claim7 := { stood := { row := lsqMemoryUptoRow, standIns := [], harness := (true, "c9f5d3e8f384276899e182b9fdba86894a3376e384f78a90e6035a9ce0ebc329"), looks := true }, kinds := [], alts := [], laidByText := true, laidKinds := [.handle], laidTests := true, laidLooks := .later }
def LsqMemoryUptoCardSaid : Prop := Claim7.holds Tryd.pinned (.plain (OpenSpec.upto lsqMemorySpec)) lsqMemoryUptoCard

/-- THE SECOND FORM's CARD OF 'oocorelaw8.LsqSteps'. -/
def lsqStepsUptoCard : Claim7 := { stood := { row := lsqStepsUptoRow, standIns := [], harness := (true, "c9f5d3e8f384276899e182b9fdba86894a3376e384f78a90e6035a9ce0ebc329"), looks := true }, kinds := [], alts := [], laidByText := true, laidKinds := [.handle], laidTests := true, laidLooks := .later }
def LsqStepsUptoCardSaid : Prop := Claim7.holds Tryd.pinned (.plain (OpenSpec.upto lsqStepsSpec)) lsqStepsUptoCard
end Rows
end Go.Proofs.YtngfaiahlblkkaaDoor
