/- Part B: the rows of the reference; classes; shapes. -/
import Derived.Test.YtcpmgklhfpcaeaaGreatDoorIsaA
import Derived.Test.YtcpmgklhfpcaeaaGreatDoorIsaXRun
import Derived.WalkLawsBesides
import Derived.Deep.QuietTactic
import Derived.BigQuiet
import Derived.Outline
namespace Go.Proofs.YtcpmgklhfpcaeaaGreatDoor
open Go.RowKit
set_option linter.unusedVariables false
set_option maxRecDepth 100000

/-- the rows of the reference: name, format, code, F, G -/
def rowsL : List (ByteArray × Int × Int × Int × Int) := [
  (⟨#[108, 117, 105]⟩, 85, 55, 0, 0),
  (⟨#[97, 117, 105, 112, 99]⟩, 85, 23, 0, 0),
  (⟨#[106, 97, 108]⟩, 74, 111, 0, 0),
  (⟨#[106, 97, 108, 114]⟩, 76, 103, 0, 0),
  (⟨#[98, 101, 113]⟩, 66, 99, 0, 0),
  (⟨#[98, 110, 101]⟩, 66, 99, 1, 0),
  (⟨#[98, 108, 116]⟩, 66, 99, 4, 0),
  (⟨#[98, 103, 101]⟩, 66, 99, 5, 0),
  (⟨#[98, 108, 116, 117]⟩, 66, 99, 6, 0),
  (⟨#[98, 103, 101, 117]⟩, 66, 99, 7, 0),
  (⟨#[108, 98]⟩, 76, 3, 0, 0),
  (⟨#[108, 104]⟩, 76, 3, 1, 0),
  (⟨#[108, 119]⟩, 76, 3, 2, 0),
  (⟨#[108, 98, 117]⟩, 76, 3, 4, 0),
  (⟨#[108, 104, 117]⟩, 76, 3, 5, 0),
  (⟨#[115, 98]⟩, 83, 35, 0, 0),
  (⟨#[115, 104]⟩, 83, 35, 1, 0),
  (⟨#[115, 119]⟩, 83, 35, 2, 0),
  (⟨#[97, 100, 100, 105]⟩, 73, 19, 0, 0),
  (⟨#[115, 108, 116, 105]⟩, 73, 19, 2, 0),
  (⟨#[115, 108, 116, 105, 117]⟩, 73, 19, 3, 0),
  (⟨#[120, 111, 114, 105]⟩, 73, 19, 4, 0),
  (⟨#[111, 114, 105]⟩, 73, 19, 6, 0),
  (⟨#[97, 110, 100, 105]⟩, 73, 19, 7, 0),
  (⟨#[115, 108, 108, 105]⟩, 72, 19, 1, 0),
  (⟨#[115, 114, 108, 105]⟩, 72, 19, 5, 0),
  (⟨#[115, 114, 97, 105]⟩, 72, 19, 5, 32),
  (⟨#[97, 100, 100]⟩, 82, 51, 0, 0),
  (⟨#[115, 117, 98]⟩, 82, 51, 0, 32),
  (⟨#[115, 108, 108]⟩, 82, 51, 1, 0),
  (⟨#[115, 108, 116]⟩, 82, 51, 2, 0),
  (⟨#[115, 108, 116, 117]⟩, 82, 51, 3, 0),
  (⟨#[120, 111, 114]⟩, 82, 51, 4, 0),
  (⟨#[115, 114, 108]⟩, 82, 51, 5, 0),
  (⟨#[115, 114, 97]⟩, 82, 51, 5, 32),
  (⟨#[111, 114]⟩, 82, 51, 6, 0),
  (⟨#[97, 110, 100]⟩, 82, 51, 7, 0),
  (⟨#[109, 117, 108]⟩, 82, 51, 0, 1),
  (⟨#[109, 117, 108, 104]⟩, 82, 51, 1, 1),
  (⟨#[109, 117, 108, 104, 115, 117]⟩, 82, 51, 2, 1),
  (⟨#[109, 117, 108, 104, 117]⟩, 82, 51, 3, 1),
  (⟨#[100, 105, 118]⟩, 82, 51, 4, 1),
  (⟨#[100, 105, 118, 117]⟩, 82, 51, 5, 1),
  (⟨#[114, 101, 109]⟩, 82, 51, 6, 1),
  (⟨#[114, 101, 109, 117]⟩, 82, 51, 7, 1),
  (⟨#[108, 114, 46, 119]⟩, 75, 47, 2, 2),
  (⟨#[115, 99, 46, 119]⟩, 65, 47, 2, 3),
  (⟨#[97, 109, 111, 115, 119, 97, 112, 46, 119]⟩, 65, 47, 2, 1),
  (⟨#[97, 109, 111, 97, 100, 100, 46, 119]⟩, 65, 47, 2, 0),
  (⟨#[97, 109, 111, 120, 111, 114, 46, 119]⟩, 65, 47, 2, 4),
  (⟨#[97, 109, 111, 97, 110, 100, 46, 119]⟩, 65, 47, 2, 12),
  (⟨#[97, 109, 111, 111, 114, 46, 119]⟩, 65, 47, 2, 8),
  (⟨#[97, 109, 111, 109, 105, 110, 46, 119]⟩, 65, 47, 2, 16),
  (⟨#[97, 109, 111, 109, 97, 120, 46, 119]⟩, 65, 47, 2, 20),
  (⟨#[97, 109, 111, 109, 105, 110, 117, 46, 119]⟩, 65, 47, 2, 24),
  (⟨#[97, 109, 111, 109, 97, 120, 117, 46, 119]⟩, 65, 47, 2, 28),
  (⟨#[102, 101, 110, 99, 101]⟩, 70, 15, 0, 0),
  (⟨#[101, 99, 97, 108, 108]⟩, 78, 115, 0, 0),
  (⟨#[101, 98, 114, 101, 97, 107]⟩, 78, 115, 0, 1),
  (⟨#[109, 114, 101, 116]⟩, 78, 115, 0, 770),
  (⟨#[119, 102, 105]⟩, 78, 115, 0, 261),
  (⟨#[99, 115, 114, 114, 119]⟩, 67, 115, 1, 0),
  (⟨#[99, 115, 114, 114, 115]⟩, 67, 115, 2, 0),
  (⟨#[99, 115, 114, 114, 99]⟩, 67, 115, 3, 0),
  (⟨#[99, 115, 114, 114, 119, 105]⟩, 68, 115, 5, 0),
  (⟨#[99, 115, 114, 114, 115, 105]⟩, 68, 115, 6, 0),
  (⟨#[99, 115, 114, 114, 99, 105]⟩, 68, 115, 7, 0)]
def rowCells (r : ByteArray × Int × Int × Int × Int) : List Value := [.string r.1, .int .u8 r.2.1, .int .i64 r.2.2.1, .int .i64 r.2.2.2.1, .int .i64 r.2.2.2.2]
def ROWS : Array Value := (rowsL.flatMap rowCells).toArray
theorem rows_run (w : World) : XRun.runFn Tryz.prog 1 57 #[] w = some (.slice (some ⟨w.heap.size, 0, none⟩) 67 67, w.alloc (.cells ROWS 116)) := by kernel_rfl
theorem rows_any (w : World) : Calls Tryz.prog 57 #[] w fun e w' => e = .returned (.slice (some ⟨w.heap.size, 0, none⟩) 67 67) ∧ w.alloc (.cells ROWS 116) = w' :=
  XRun.sound _ _ _ _ _ _ _ (rows_run w)
def rowAt (op : Int) : ByteArray × Int × Int × Int × Int := rowsL.getD (op.toNat - 1) (⟨#[]⟩, 0, 0, 0, 0)
def nm (op : Int) : ByteArray := if op < 1 ∨ 67 < op then ⟨#[]⟩ else (rowAt op).1
def rF (op : Int) : Int := (rowAt op).2.1
def rC (op : Int) : Int := (rowAt op).2.2.1
def rA (op : Int) : Int := (rowAt op).2.2.2.1
def rG (op : Int) : Int := (rowAt op).2.2.2.2

theorem flat_at {α : Type} (f : α → List Value) (n : Nat) (hf : ∀ x, (f x).length = n) : ∀ (l : List α) (k j : Nat), j < n → (l.flatMap f)[n * k + j]? = (l[k]?).bind (fun x => (f x)[j]?)
  | [], k, j, _ => by simp
  | x :: l, 0, j, h => by simp [List.getElem?_append_left (show j < (f x).length by rw [hf]; exact h)]
  | x :: l, k + 1, j, h => by
    rw [List.flatMap_cons, List.getElem?_append_right (by rw [hf, Nat.mul_succ]; omega), hf, show n * (k + 1) + j - n = n * k + j by rw [Nat.mul_succ]; omega, flat_at f n hf l k j h]
    rfl
theorem rows_at (op : Int) (h1 : 1 ≤ op) (h2 : op ≤ 67) (j : Nat) (hj : j < 5) : ROWS[5 * (op.toNat - 1) + j]? = (rowCells (rowAt op))[j]? := by
  have hl : rowsL.length = 67 := by decide +kernel
  unfold ROWS
  rw [List.getElem?_toArray, flat_at rowCells 5 (fun _ => rfl) rowsL _ j hj, List.getElem?_eq_getElem (show op.toNat - 1 < rowsL.length by omega)]
  unfold rowAt
  simp [List.getD_eq_getElem?_getD, List.getElem?_eq_getElem (show op.toNat - 1 < rowsL.length by omega)]

/-- block b holds the rows of the reference -/
def RowsAt (w : World) (b : Nat) : Prop := ∀ op : Int, 1 ≤ op → op ≤ 67 →
    w.cell? ⟨b, (op.toNat - 1) * 5, none⟩ = some (.string (rowAt op).1) ∧
    w.cell? ⟨b, (op.toNat - 1) * 5 + 1, none⟩ = some (.int .u8 (rF op)) ∧
    w.cell? ⟨b, (op.toNat - 1) * 5 + 2, none⟩ = some (.int .i64 (rC op)) ∧
    w.cell? ⟨b, (op.toNat - 1) * 5 + 3, none⟩ = some (.int .i64 (rA op)) ∧
    w.cell? ⟨b, (op.toNat - 1) * 5 + 4, none⟩ = some (.int .i64 (rG op))
theorem rowsAt_new (w : World) : RowsAt (w.alloc (.cells ROWS 116)) w.heap.size := by
  intro op h1 h2
  have e : (op.toNat - 1) * 5 = 5 * (op.toNat - 1) + 0 := by omega
  simp only [World.cell?_alloc_new]
  rw [e]
  exact ⟨rows_at op h1 h2 0 (by omega), rows_at op h1 h2 1 (by omega), rows_at op h1 h2 2 (by omega), rows_at op h1 h2 3 (by omega), rows_at op h1 h2 4 (by omega)⟩
/-- what 'Rows' does -/
def RowsMade (w : World) (e : Ending) (w' : World) : Prop := ∃ b, e = .returned (.slice (some ⟨b, 0, none⟩) 67 67) ∧ RowsAt w' b ∧ Grown w w'
theorem rows_made (w : World) : Calls Tryz.prog 57 #[] w (RowsMade w) := by
  refine (rows_any w).mono ?_
  rintro e w' ⟨rfl, rfl⟩
  exact ⟨_, rfl, rowsAt_new w, (Grown.refl _).alloc _ _⟩

def classRow (f c g : Int) : Int :=
  if f = 85 ∨ f = 73 ∨ f = 72 then 0 else if f = 82 then (if g = 1 then 1 else 0) else if f = 74 then 3
  else if f = 76 then (if c = 103 then 3 else 4) else if f = 66 then 2 else if f = 83 then 5 else if f = 65 ∨ f = 75 then 6 else 7
def classR (op : Int) : Int := if op < 1 ∨ 67 < op then 7 else classRow (rF op) (rC op) (rG op)
theorem class_any (op : Int) (w : World) : Calls Tryz.prog 40 #[.int .i64 op] w fun e w' => e = .returned (.int .i64 (classR op)) ∧ Grown w w' := by
  by_cases h1 : op < 1
  · have hn : classR op = 7 := by unfold classR; rw [if_pos (Or.inl h1)]
    rw [hn]
    go_enter Tryz.func40, Tryz.ntmps40
    go_wp2
    go_ret
    exact ⟨rfl, Grown.refl _⟩
  · by_cases h2 : 67 < op
    · have hn : classR op = 7 := by unfold classR; rw [if_pos (Or.inr h2)]
      rw [hn]
      go_enter Tryz.func40, Tryz.ntmps40
      go_wp2
      go_ret
      exact ⟨rfl, Grown.refl _⟩
    · have hn : classR op = classRow (rF op) (rC op) (rG op) := by unfold classR; rw [if_neg (by omega)]
      rw [hn]
      have h1' : 1 ≤ op := by omega
      have h2' : op ≤ 67 := by omega
      clear h1 h2 hn
      go_enter Tryz.func40, Tryz.ntmps40
      go_wp2_with fail
      refine (rows_made _).mono ?_
      rintro e w' ⟨b, rfl, hR, hG⟩
      obtain ⟨c0, c1, c2, c3, c4⟩ := hR op h1' h2'
      have HG := Lib.hid hG
      clear hR hG
      go_wp2
      all_goals
        go_ret
        refine ⟨congrArg (fun x => Ending.returned (.int .i64 x)) ?_, by first | exact HG.out | exact Grown.alloc HG.out _ _⟩
        clear c0 c1 c2 c3 c4 HG
        simp_all [classRow]

end Go.Proofs.YtcpmgklhfpcaeaaGreatDoor
