/- Part B: rows and names of the reference. -/
import Derived.Test.YtcpmgklhfpcaeaaDoorAluA
namespace Go.Proofs.YtcpmgklhfpcaeaaDoor.alu
open Go.RowKit
set_option linter.unusedVariables false
set_option maxRecDepth 100000

def rowAt (op : Int) : ByteArray × Int × Int × Int × Int := rowsL.getD (op.toNat - 1) (⟨#[]⟩, 0, 0, 0, 0)
def nm (op : Int) : ByteArray := if op < 1 ∨ 67 < op then ⟨#[]⟩ else (rowAt op).1
def rF (op : Int) : Int := (rowAt op).2.1
def rC (op : Int) : Int := (rowAt op).2.2.1
def rA (op : Int) : Int := (rowAt op).2.2.2.1
def rG (op : Int) : Int := (rowAt op).2.2.2.2

theorem flat_at {α : Type} (f : α → List Value) (n : Nat) (hf : ∀ x, (f x).length = n) : ∀ (l : List α) (k j : Nat), j < n → (l.flatMap f)[n * k + j]? = (l[k]?).bind (fun x => (f x)[j]?)
  | [], k, j, _ => by simp
  | x :: l, 0, j, h => by simp [List.getElem?_append_left (show j < (f x).length by rw [hf]; exact h)]
  | x :: l, k + 1, j, h => by
    rw [List.flatMap_cons, List.getElem?_append_right (by rw [hf, Nat.mul_succ]; omega), hf, show n * (k + 1) + j - n = n * k + j by rw [Nat.mul_succ]; omega, flat_at f n hf l k j h]
    rfl
theorem rows_at (op : Int) (h1 : 1 ≤ op) (h2 : op ≤ 67) (j : Nat) (hj : j < 5) : ROWS[5 * (op.toNat - 1) + j]? = (rowCells (rowAt op))[j]? := by
  have hl : rowsL.length = 67 := by decide +kernel
  unfold ROWS
  rw [List.getElem?_toArray, flat_at rowCells 5 (fun _ => rfl) rowsL _ j hj, List.getElem?_eq_getElem (show op.toNat - 1 < rowsL.length by omega)]
  unfold rowAt
  simp [List.getD_eq_getElem?_getD, List.getElem?_eq_getElem (show op.toNat - 1 < rowsL.length by omega)]

/-- block b holds the rows of the reference -/
def RowsAt (w : World) (b : Nat) : Prop := ∀ op : Int, 1 ≤ op → op ≤ 67 →
    w.cell? ⟨b, (op.toNat - 1) * 5, none⟩ = some (.string (rowAt op).1) ∧
    w.cell? ⟨b, (op.toNat - 1) * 5 + 1, none⟩ = some (.int .u8 (rF op)) ∧
    w.cell? ⟨b, (op.toNat - 1) * 5 + 2, none⟩ = some (.int .i64 (rC op)) ∧
    w.cell? ⟨b, (op.toNat - 1) * 5 + 3, none⟩ = some (.int .i64 (rA op)) ∧
    w.cell? ⟨b, (op.toNat - 1) * 5 + 4, none⟩ = some (.int .i64 (rG op))
/-- what 'Rows' does -/
def RowsMade (w : World) (e : Ending) (w' : World) : Prop := ∃ b, e = .returned (.slice (some ⟨b, 0, none⟩) 67 67) ∧ RowsAt w' b ∧ Grown w w'
def classRow (f c g : Int) : Int :=
  if f = 85 ∨ f = 73 ∨ f = 72 then 0 else if f = 82 then (if g = 1 then 1 else 0) else if f = 74 then 3
  else if f = 76 then (if c = 103 then 3 else 4) else if f = 66 then 2 else if f = 83 then 5 else if f = 65 ∨ f = 75 then 6 else 7
def classR (op : Int) : Int := if op < 1 ∨ 67 < op then 7 else classRow (rF op) (rC op) (rG op)
end Go.Proofs.YtcpmgklhfpcaeaaDoor.alu
