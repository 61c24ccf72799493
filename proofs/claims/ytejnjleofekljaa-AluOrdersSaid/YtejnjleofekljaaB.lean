/- Part B: rows and names of the reference. -/
import Derived.Test.YtejnjleofekljaaA
namespace Go.Proofs.Ytejnjleofekljaa
open Go.RowKit
set_option linter.unusedVariables false

def rowAt (op : Int) : ByteArray × Int × Int × Int × Int := rowsL.getD (op.toNat - 1) (⟨#[]⟩, 0, 0, 0, 0)
def nm (op : Int) : ByteArray := if op < 1 ∨ 67 < op then ⟨#[]⟩ else (rowAt op).1
def rF (op : Int) : Int := (rowAt op).2.1
def rC (op : Int) : Int := (rowAt op).2.2.1
def rA (op : Int) : Int := (rowAt op).2.2.2.1
def rG (op : Int) : Int := (rowAt op).2.2.2.2

theorem flat_at {α : Type} (f : α → List Value) (n : Nat) (hf : ∀ x, (f x).length = n) : ∀ (l : List α) (k j : Nat), j < n → (l.flatMap f)[n * k + j]? = (l[k]?).bind (fun x => (f x)[j]?)
  | [], k, j, _ => by simp
  | x :: l, 0, j, h => by simp [List.getElem?_append_left (show j < (f x).length by rw [hf]; exact h)]
  | x :: l, k + 1, j, h => by
    rw [List.flatMap_cons, List.getElem?_append_right (by rw [hf, Nat.mul_succ]; omega), hf, show n * (k + 1) + j - n = n * k + j by rw [Nat.mul_succ]; omega, flat_at f n hf l k j h]
    rfl
theorem rows_at (op : Int) (h1 : 1 ≤ op) (h2 : op ≤ 67) (j : Nat) (hj : j < 5) : ROWS[5 * (op.toNat - 1) + j]? = (rowCells (rowAt op))[j]? := by
  have hl : rowsL.length = 67 := by decide +kernel
  unfold ROWS
  rw [List.getElem?_toArray, flat_at rowCells 5 (fun _ => rfl) rowsL _ j hj, List.getElem?_eq_getElem (show op.toNat - 1 < rowsL.length by omega)]
  unfold rowAt
  simp [List.getD_eq_getElem?_getD, List.getElem?_eq_getElem (show op.toNat - 1 < rowsL.length by omega)]

/-- block b holds the rows of the reference -/
def RowsAt (w : World) (b : Nat) : Prop := ∀ op : Int, 1 ≤ op → op ≤ 67 →
    w.cell? ⟨b, (op.toNat - 1) * 5, none⟩ = some (.string (rowAt op).1) ∧
    w.cell? ⟨b, (op.toNat - 1) * 5 + 1, none⟩ = some (.int .u8 (rF op)) ∧
    w.cell? ⟨b, (op.toNat - 1) * 5 + 2, none⟩ = some (.int .i64 (rC op)) ∧
    w.cell? ⟨b, (op.toNat - 1) * 5 + 3, none⟩ = some (.int .i64 (rA op)) ∧
    w.cell? ⟨b, (op.toNat - 1) * 5 + 4, none⟩ = some (.int .i64 (rG op))
theorem rowsAt_new (w : World) : RowsAt (w.alloc (.cells ROWS 47)) w.heap.size := by
  intro op h1 h2
  have e : (op.toNat - 1) * 5 = 5 * (op.toNat - 1) + 0 := by omega
  simp only [World.cell?_alloc_new]
  rw [e]
  exact ⟨rows_at op h1 h2 0 (by omega), rows_at op h1 h2 1 (by omega), rows_at op h1 h2 2 (by omega), rows_at op h1 h2 3 (by omega), rows_at op h1 h2 4 (by omega)⟩
/-- what 'Rows' does -/
def RowsMade (w : World) (e : Ending) (w' : World) : Prop := ∃ b, e = .returned (.slice (some ⟨b, 0, none⟩) 67 67) ∧ RowsAt w' b ∧ Grown w w'
theorem rows_made (w : World) : Calls Try.prog 23 #[] w (RowsMade w) := by
  refine (rows_any w).mono ?_
  rintro e w' ⟨rfl, rfl⟩
  exact ⟨_, rfl, rowsAt_new w, (Grown.refl _).alloc _ _⟩

theorem name_any (op : Int) (w : World) : Calls Try.prog 17 #[.int .i64 op] w fun e w' => e = .returned (.string (nm op)) ∧ Grown w w' := by
  by_cases h1 : op < 1
  · have hn : nm op = ⟨#[]⟩ := by unfold nm; rw [if_pos (Or.inl h1)]
    rw [hn]
    go_enter Try.func17, Try.ntmps17
    go_wp2
    go_ret
    exact ⟨rfl, Grown.refl _⟩
  · by_cases h2 : 67 < op
    · have hn : nm op = ⟨#[]⟩ := by unfold nm; rw [if_pos (Or.inr h2)]
      rw [hn]
      go_enter Try.func17, Try.ntmps17
      go_wp2
      go_ret
      exact ⟨rfl, Grown.refl _⟩
    · have hn : nm op = (rowAt op).1 := by unfold nm; rw [if_neg (by omega)]
      rw [hn]
      have h1' : 1 ≤ op := by omega
      have h2' : op ≤ 67 := by omega
      clear h1 h2 hn
      go_enter Try.func17, Try.ntmps17
      go_wp2_with fail
      refine (rows_made _).mono ?_
      rintro e w' ⟨b, rfl, hR, hG⟩
      have hc := (hR op h1' h2').1
      have HG := Lib.hid hG
      clear hR hG
      go_wp2
      go_ret
      exact ⟨rfl, HG.out⟩

def classRow (f c g : Int) : Int :=
  if f = 85 ∨ f = 73 ∨ f = 72 then 0 else if f = 82 then (if g = 1 then 1 else 0) else if f = 74 then 3
  else if f = 76 then (if c = 103 then 3 else 4) else if f = 66 then 2 else if f = 83 then 5 else if f = 65 ∨ f = 75 then 6 else 7
def classR (op : Int) : Int := if op < 1 ∨ 67 < op then 7 else classRow (rF op) (rC op) (rG op)
theorem class_any (op : Int) (w : World) : Calls Try.prog 18 #[.int .i64 op] w fun e w' => e = .returned (.int .i64 (classR op)) ∧ Grown w w' := by
  by_cases h1 : op < 1
  · have hn : classR op = 7 := by unfold classR; rw [if_pos (Or.inl h1)]
    rw [hn]
    go_enter Try.func18, Try.ntmps18
    go_wp2
    go_ret
    exact ⟨rfl, Grown.refl _⟩
  · by_cases h2 : 67 < op
    · have hn : classR op = 7 := by unfold classR; rw [if_pos (Or.inr h2)]
      rw [hn]
      go_enter Try.func18, Try.ntmps18
      go_wp2
      go_ret
      exact ⟨rfl, Grown.refl _⟩
    · have hn : classR op = classRow (rF op) (rC op) (rG op) := by unfold classR; rw [if_neg (by omega)]
      rw [hn]
      have h1' : 1 ≤ op := by omega
      have h2' : op ≤ 67 := by omega
      clear h1 h2 hn
      go_enter Try.func18, Try.ntmps18
      go_wp2_with fail
      refine (rows_made _).mono ?_
      rintro e w' ⟨b, rfl, hR, hG⟩
      obtain ⟨c0, c1, c2, c3, c4⟩ := hR op h1' h2'
      have HG := Lib.hid hG
      clear hR hG
      go_wp2
      all_goals
        go_ret
        refine ⟨congrArg (fun x => Ending.returned (.int .i64 x)) ?_, by first | exact HG.out | exact Grown.alloc HG.out _ _⟩
        clear c0 c1 c2 c3 c4 HG
        simp_all [classRow]
end Go.Proofs.Ytejnjleofekljaa
