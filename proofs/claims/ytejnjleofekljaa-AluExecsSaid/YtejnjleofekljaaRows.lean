/-
  No cell of these rows narrows 'for every input' (looked for: loops, veiled, ifaces, maps, wideKeys, modest, calm, conditions, laid).
  DERIVED. THE GIVEN ROWS OF THIS SEAT. 4 by the template 'for every input the law returns true; each argument reads behind the call as it read before'; 0 by the template 'total and deterministic' (their statements: YtejnjleofekljaaTotals.lean).
  GIVEN WITH THE SEED: the statements are not yours to turn. If you find one false, say at which input.
  Laid BY PROGRAM, IN A SANDBOX (cutbox-rows.mjs): the forced cells as the released guide's own fill.sh prints them over the translation 817140656df4eac1… (all of the seat's roots in one cut). By AI agents, Wed Nov 11 2026. No macro, syntax, notation, axiom, sorry.
-/
import Derived.Test.YtejnjleofekljaaChecked
import GoSem.Claim
import GoSem.ClaimJoined
import GoSem.ClaimMapViews
import Derived.JoinedTies
import Derived.KernelRfl
namespace Go.Proofs.Ytejnjleofekljaa
/- THE CELL 'sum', in the pinned program and in every row, IS THE sha256 OF THE DUMP (.gsa) THAT YtejnjleofekljaaProg.lean LOADS. Nothing in Lean hashes anything: it is a label: what it is worth is what the hold of that sum in a sandbox is worth. -/
noncomputable def Try.pinned : Pinned := { name := "ytejnjleofekljaa", sum := "817140656df4eac1c60df2a8677b627657f9f359aab3a1a82771c2acb0142b96", checked := Try.checked }
namespace Rows
def none {H : Type} : Left H := { results := [], args := [] }

/-- 'oocorelaw3.AluMemory': WHATEVER THE INPUT: true; the input reads as it did. -/
def aluMemorySpec : ChangeSpec := { name := "aluMemory", fn := fun _ => fun
  | [d1, d2, d3] => { results := [.lit (.bool true)], args := [d1, d2, d3] }
  | _ => none }
def aluMemoryRow : OpenClaim := { program := "ytejnjleofekljaa", sum := "817140656df4eac1c60df2a8677b627657f9f359aab3a1a82771c2acb0142b96", func := "oocore/oocorelaw3.AluMemory", spec := "aluMemory", apart := false }
def AluMemorySaid : Prop := aluMemoryRow.holds Try.pinned (OpenSpec.ofChange aluMemorySpec)

/-- ITS FALSE NEIGHBOUR: 'it returns false'. Refute it at one input. -/
def aluMemoryWrong : ChangeSpec := { name := "aluMemory", fn := fun _ => fun
  | [d1, d2, d3] => { results := [.lit (.bool false)], args := [d1, d2, d3] }
  | _ => none }
def AluMemoryWrongFalsely : Prop := aluMemoryRow.holds Try.pinned (OpenSpec.ofChange aluMemoryWrong)

/-- 'oocorelaw3.AluDivides': WHATEVER THE INPUT: true; the input reads as it did. -/
def aluDividesSpec : ChangeSpec := { name := "aluDivides", fn := fun _ => fun
  | [d1, d2] => { results := [.lit (.bool true)], args := [d1, d2] }
  | _ => none }
def aluDividesRow : OpenClaim := { program := "ytejnjleofekljaa", sum := "817140656df4eac1c60df2a8677b627657f9f359aab3a1a82771c2acb0142b96", func := "oocore/oocorelaw3.AluDivides", spec := "aluDivides", unfollowed := true, recurses := true, apart := false }
def AluDividesSaid : Prop := aluDividesRow.holds Try.pinned (OpenSpec.ofChange aluDividesSpec)

/-- ITS FALSE NEIGHBOUR: 'it returns false'. Refute it at one input. -/
def aluDividesWrong : ChangeSpec := { name := "aluDivides", fn := fun _ => fun
  | [d1, d2] => { results := [.lit (.bool false)], args := [d1, d2] }
  | _ => none }
def AluDividesWrongFalsely : Prop := aluDividesRow.holds Try.pinned (OpenSpec.ofChange aluDividesWrong)

/-- 'oocorelaw3.AluExecs': WHATEVER THE INPUT: true; the input reads as it did. -/
def aluExecsSpec : ChangeSpec := { name := "aluExecs", fn := fun _ => fun
  | [d1, d2, d3] => { results := [.lit (.bool true)], args := [d1, d2, d3] }
  | _ => none }
def aluExecsRow : OpenClaim := { program := "ytejnjleofekljaa", sum := "817140656df4eac1c60df2a8677b627657f9f359aab3a1a82771c2acb0142b96", func := "oocore/oocorelaw3.AluExecs", spec := "aluExecs", unfollowed := true, recurses := true, apart := false }
def AluExecsSaid : Prop := aluExecsRow.holds Try.pinned (OpenSpec.ofChange aluExecsSpec)

/-- ITS FALSE NEIGHBOUR: 'it returns false'. Refute it at one input. -/
def aluExecsWrong : ChangeSpec := { name := "aluExecs", fn := fun _ => fun
  | [d1, d2, d3] => { results := [.lit (.bool false)], args := [d1, d2, d3] }
  | _ => none }
def AluExecsWrongFalsely : Prop := aluExecsRow.holds Try.pinned (OpenSpec.ofChange aluExecsWrong)

/-- 'oocorelaw3.AluOrders': WHATEVER THE INPUT: true; the input reads as it did. -/
def aluOrdersSpec : ChangeSpec := { name := "aluOrders", fn := fun _ => fun
  | [d1, d2] => { results := [.lit (.bool true)], args := [d1, d2] }
  | _ => none }
def aluOrdersRow : OpenClaim := { program := "ytejnjleofekljaa", sum := "817140656df4eac1c60df2a8677b627657f9f359aab3a1a82771c2acb0142b96", func := "oocore/oocorelaw3.AluOrders", spec := "aluOrders", unfollowed := true, recurses := true, apart := false }
def AluOrdersSaid : Prop := aluOrdersRow.holds Try.pinned (OpenSpec.ofChange aluOrdersSpec)

/-- ITS FALSE NEIGHBOUR: 'it returns false'. Refute it at one input. -/
def aluOrdersWrong : ChangeSpec := { name := "aluOrders", fn := fun _ => fun
  | [d1, d2] => { results := [.lit (.bool false)], args := [d1, d2] }
  | _ => none }
def AluOrdersWrongFalsely : Prop := aluOrdersRow.holds Try.pinned (OpenSpec.ofChange aluOrdersWrong)

/- THE SECOND FORM. 'bulk': how many values and letters a reading holds, each counted each time it is reached (what is shared counts as often as it is met; a slice's spare places count too). A statement '..UptoSaid' is the law's where the arguments, and the package variables that the reading takes, are together of bulk at most 1048576: NARROWER than '..Said'. Prove '..Said' where nothing that the law and all that it calls make is longer than what came in: it says more and counts as full. Else prove '..UptoSaid'. A law counts once. -/
mutual
def uptoBulk {H : Type} : DataW H → Nat
  | .lit (.string bytes) => bytes.length + 1
  | .lit _ => 1
  | .nil => 1
  | .ptr d => uptoBulk d + 1
  | .slice elems spare => uptoBulkAll elems + uptoBulkAll spare + 1
  | .agg parts => uptoBulkAll parts + 1
  | .iface _ d => uptoBulk d + 1
  | .map entries => uptoBulkEntries entries + 1
  | .held _ => 1
def uptoBulkAll {H : Type} : List (DataW H) → Nat
  | [] => 0
  | d :: r => uptoBulk d + uptoBulkAll r
def uptoBulkEntries {H : Type} : List (Lit × DataW H) → Nat
  | [] => 0
  | x :: r => uptoBulkEntry x + uptoBulkEntries r
def uptoBulkEntry {H : Type} : Lit × DataW H → Nat
  | (.string bytes, d) => bytes.length + uptoBulk d + 1
  | (_, d) => uptoBulk d + 1
 end
def uptoSmall : (H : Type) → List (DataW H) → Bool := fun _ ds => decide (uptoBulkAll ds ≤ 1048576)
def OpenSpec.upto (s : _root_.Go.ChangeSpec) : _root_.Go.OpenSpec := { _root_.Go.OpenSpec.ofChange s with cond := some uptoSmall }

/-- 'oocorelaw3.AluMemory', WHERE WHAT IT READS IS OF BULK AT MOST 1048576: true; the input reads as it did. -/
def aluMemoryUptoRow : OpenClaim := { program := "ytejnjleofekljaa", sum := "817140656df4eac1c60df2a8677b627657f9f359aab3a1a82771c2acb0142b96", func := "oocore/oocorelaw3.AluMemory", spec := "aluMemory", apart := false, narrowed := true }
def AluMemoryUptoSaid : Prop := aluMemoryUptoRow.holds Try.pinned (OpenSpec.upto aluMemorySpec)

/-- 'oocorelaw3.AluDivides', WHERE WHAT IT READS IS OF BULK AT MOST 1048576: true; the input reads as it did. -/
def aluDividesUptoRow : OpenClaim := { program := "ytejnjleofekljaa", sum := "817140656df4eac1c60df2a8677b627657f9f359aab3a1a82771c2acb0142b96", func := "oocore/oocorelaw3.AluDivides", spec := "aluDivides", unfollowed := true, recurses := true, apart := false, narrowed := true }
def AluDividesUptoSaid : Prop := aluDividesUptoRow.holds Try.pinned (OpenSpec.upto aluDividesSpec)

/-- 'oocorelaw3.AluExecs', WHERE WHAT IT READS IS OF BULK AT MOST 1048576: true; the input reads as it did. -/
def aluExecsUptoRow : OpenClaim := { program := "ytejnjleofekljaa", sum := "817140656df4eac1c60df2a8677b627657f9f359aab3a1a82771c2acb0142b96", func := "oocore/oocorelaw3.AluExecs", spec := "aluExecs", unfollowed := true, recurses := true, apart := false, narrowed := true }
def AluExecsUptoSaid : Prop := aluExecsUptoRow.holds Try.pinned (OpenSpec.upto aluExecsSpec)

/-- 'oocorelaw3.AluOrders', WHERE WHAT IT READS IS OF BULK AT MOST 1048576: true; the input reads as it did. -/
def aluOrdersUptoRow : OpenClaim := { program := "ytejnjleofekljaa", sum := "817140656df4eac1c60df2a8677b627657f9f359aab3a1a82771c2acb0142b96", func := "oocore/oocorelaw3.AluOrders", spec := "aluOrders", unfollowed := true, recurses := true, apart := false, narrowed := true }
def AluOrdersUptoSaid : Prop := aluOrdersUptoRow.holds Try.pinned (OpenSpec.upto aluOrdersSpec)

end Rows
end Go.Proofs.Ytejnjleofekljaa
