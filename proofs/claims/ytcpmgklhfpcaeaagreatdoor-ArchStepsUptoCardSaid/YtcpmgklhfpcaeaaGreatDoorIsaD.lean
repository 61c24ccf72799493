/- Part D: what operations read and write; the law of kinds. -/
import Derived.Test.YtcpmgklhfpcaeaaGreatDoorIsaC
namespace Go.Proofs.YtcpmgklhfpcaeaaGreatDoor
open Go.RowKit
set_option linter.unusedVariables false
set_option maxRecDepth 100000

/-- is there such a byte ahead of k? -/
def anyTo (s : ByteArray) (f : Int) (k : Nat) : Bool := (s.data.toList.take k).any fun c => (c.toNat : Int) == f
theorem anyTo_succ (s : ByteArray) (f : Int) (k : Nat) (h : k < s.size) : anyTo s f (k + 1) = (anyTo s f k || ((s[k].toNat : Int) == f)) := by
  unfold anyTo
  rw [List.take_succ_eq_append_getElem (by simpa using h), List.any_append]
  simp; rfl
def hasF (op : Int) (s : ByteArray) : Bool := if op < 1 ∨ 67 < op then false else anyTo s (rF op) s.size
def HasIs (b : Bool) (w : World) (e : Ending) (w' : World) : Prop := e = .returned (.bool b) ∧ Grown w w'
theorem anyTo_mono (s : ByteArray) (f : Int) (k : Nat) (h : k < s.size) (ht : ((s[k].toNat : Int) == f) = true) : anyTo s f s.size = true := by
  unfold anyTo
  rw [List.any_eq_true]
  refine ⟨s[k], ?_, ht⟩
  rw [List.take_of_length_le (by simp)]
  exact List.getElem_mem (by simpa using h)
theorem retBool {a b : Bool} (h : a = b) : Ending.returned (.bool a) = .returned (.bool b) := by rw [h]
def readsR (op : Int) : Bool × Bool := (hasF op ⟨#[76, 66, 83, 73, 72, 82, 65, 75, 67]⟩, hasF op ⟨#[66, 83, 82, 65]⟩)
def writesR (op : Int) : Bool := hasF op ⟨#[85, 74, 76, 73, 72, 82, 65, 75, 67, 68]⟩
theorem kinds_in (op : Int) : classP op = classR op ∧ readsP op = readsR op ∧ writesP op = writesR op := by
  by_cases h : op < 1 ∨ 67 < op
  · have e : ofP op = (0, 0, 0) := by unfold ofP; rw [if_pos (by omega)]
    refine ⟨?_, ?_, ?_⟩
    · unfold classP classR; rw [e, if_pos h, if_neg (by omega), if_neg (by omega)]; decide
    · unfold readsP readsR hasF; rw [e, if_pos h, if_pos h]; decide
    · unfold writesP writesR hasF; rw [e, if_pos h]; decide
  · have h1 : (List.range 68).all (fun i => i == 0 || (classP i == classR i && readsP i == readsR i && writesP i == writesR i)) = true := by decide +kernel
    have h2 := List.all_eq_true.1 h1 op.toNat (List.mem_range.2 (by omega))
    have e : ((op.toNat : Nat) : Int) = op := by omega
    have h0 : (op.toNat == 0) = false := by simp; omega
    rw [e, h0] at h2
    simpa [and_assoc] using h2
end Go.Proofs.YtcpmgklhfpcaeaaGreatDoor
