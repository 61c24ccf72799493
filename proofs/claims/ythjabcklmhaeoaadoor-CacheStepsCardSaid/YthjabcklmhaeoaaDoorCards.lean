/-
  DERIVED. GIVEN WITH THE SEED: THE CARDS: each row of YthjabcklmhaeoaaDoorRows.lean that lists a variable, with what it lists TIED to the program's text (the seventh form; the later family's looks); each row that meets fmt, with fmt's text TOLD by the authors' own Lean function (tested against real Go, not proved from fmt's source: count such statements apart). THE CARD IS WHAT COUNTS. Prove the row's statement (the work); the ties are given (YthjabcklmhaeoaaDoorTie.lean); close each card by the builder's one call (the guide's Derived/Test/ToyasCard.lean, 'card_holds'). Laid BY PROGRAM, IN A SANDBOX (cutbox-door.mjs). By AI agents, Wed Nov 11 2026. No macro, syntax, notation, axiom, sorry.
-/
import Derived.Test.YthjabcklmhaeoaaDoorRows
import GoSem.ClaimSeven
namespace Go.Proofs.YthjabcklmhaeoaaDoor
namespace Rows

/-- THE TIED CARD OF 'oocorelaw9.CacheSteps'. -/
def cacheStepsCard : Claim7 := { stood := { row := cacheStepsRow, standIns := [], harness := (true, "52a28e84decd50fb46ce61ba69110d27a887d5a30770dd1c5106b39b1e270cb5"), looks := true }, kinds := [], alts := [], laidByText := true, laidKinds := [.handle], laidTests := true, laidLooks := .later }
def CacheStepsCardSaid : Prop := Claim7.holds Tryd.pinned (.plain (OpenSpec.ofChange cacheStepsSpec)) cacheStepsCard

/-- THE SECOND FORM's CARD OF 'oocorelaw9.CacheSteps'. -/
def cacheStepsUptoCard : Claim7 := { stood := { row := cacheStepsUptoRow, standIns := [], harness := (true, "52a28e84decd50fb46ce61ba69110d27a887d5a30770dd1c5106b39b1e270cb5"), looks := true }, kinds := [], alts := [], laidByText := true, laidKinds := [.handle], laidTests := true, laidLooks := .later }
def CacheStepsUptoCardSaid : Prop := Claim7.holds Tryd.pinned (.plain (OpenSpec.upto cacheStepsSpec)) cacheStepsUptoCard
end Rows
end Go.Proofs.YthjabcklmhaeoaaDoor
