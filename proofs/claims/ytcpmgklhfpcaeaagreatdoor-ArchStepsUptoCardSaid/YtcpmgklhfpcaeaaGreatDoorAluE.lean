import Derived.Test.YtcpmgklhfpcaeaaGreatDoorRows
import Derived.WalkKit
import Derived.ProofKit
import Derived.OpenShut
import Derived.Outline
import Derived.Test.YtcpmgklhfpcaeaaGreatDoorIsaXRun
import Derived.Lib.Hide
import Derived.WalkLawsBesides
import Derived.Laws.Tables
import Derived.Deep.WholeRow
import Derived.Laws.EntriesVeiled
/- Part A of the proofs over 'alu': the kernel's runs of straight lines, the rows of the reference. -/
namespace Go.Proofs.YtcpmgklhfpcaeaaGreatDoor.alu
open Go.RowKit
set_option linter.unusedVariables false
set_option maxRecDepth 100000

/-- the rows of the reference: name, format, code, F, G -/
def rowsL : List (ByteArray × Int × Int × Int × Int) := [
  (⟨#[108, 117, 105]⟩, 85, 55, 0, 0),
  (⟨#[97, 117, 105, 112, 99]⟩, 85, 23, 0, 0),
  (⟨#[106, 97, 108]⟩, 74, 111, 0, 0),
  (⟨#[106, 97, 108, 114]⟩, 76, 103, 0, 0),
  (⟨#[98, 101, 113]⟩, 66, 99, 0, 0),
  (⟨#[98, 110, 101]⟩, 66, 99, 1, 0),
  (⟨#[98, 108, 116]⟩, 66, 99, 4, 0),
  (⟨#[98, 103, 101]⟩, 66, 99, 5, 0),
  (⟨#[98, 108, 116, 117]⟩, 66, 99, 6, 0),
  (⟨#[98, 103, 101, 117]⟩, 66, 99, 7, 0),
  (⟨#[108, 98]⟩, 76, 3, 0, 0),
  (⟨#[108, 104]⟩, 76, 3, 1, 0),
  (⟨#[108, 119]⟩, 76, 3, 2, 0),
  (⟨#[108, 98, 117]⟩, 76, 3, 4, 0),
  (⟨#[108, 104, 117]⟩, 76, 3, 5, 0),
  (⟨#[115, 98]⟩, 83, 35, 0, 0),
  (⟨#[115, 104]⟩, 83, 35, 1, 0),
  (⟨#[115, 119]⟩, 83, 35, 2, 0),
  (⟨#[97, 100, 100, 105]⟩, 73, 19, 0, 0),
  (⟨#[115, 108, 116, 105]⟩, 73, 19, 2, 0),
  (⟨#[115, 108, 116, 105, 117]⟩, 73, 19, 3, 0),
  (⟨#[120, 111, 114, 105]⟩, 73, 19, 4, 0),
  (⟨#[111, 114, 105]⟩, 73, 19, 6, 0),
  (⟨#[97, 110, 100, 105]⟩, 73, 19, 7, 0),
  (⟨#[115, 108, 108, 105]⟩, 72, 19, 1, 0),
  (⟨#[115, 114, 108, 105]⟩, 72, 19, 5, 0),
  (⟨#[115, 114, 97, 105]⟩, 72, 19, 5, 32),
  (⟨#[97, 100, 100]⟩, 82, 51, 0, 0),
  (⟨#[115, 117, 98]⟩, 82, 51, 0, 32),
  (⟨#[115, 108, 108]⟩, 82, 51, 1, 0),
  (⟨#[115, 108, 116]⟩, 82, 51, 2, 0),
  (⟨#[115, 108, 116, 117]⟩, 82, 51, 3, 0),
  (⟨#[120, 111, 114]⟩, 82, 51, 4, 0),
  (⟨#[115, 114, 108]⟩, 82, 51, 5, 0),
  (⟨#[115, 114, 97]⟩, 82, 51, 5, 32),
  (⟨#[111, 114]⟩, 82, 51, 6, 0),
  (⟨#[97, 110, 100]⟩, 82, 51, 7, 0),
  (⟨#[109, 117, 108]⟩, 82, 51, 0, 1),
  (⟨#[109, 117, 108, 104]⟩, 82, 51, 1, 1),
  (⟨#[109, 117, 108, 104, 115, 117]⟩, 82, 51, 2, 1),
  (⟨#[109, 117, 108, 104, 117]⟩, 82, 51, 3, 1),
  (⟨#[100, 105, 118]⟩, 82, 51, 4, 1),
  (⟨#[100, 105, 118, 117]⟩, 82, 51, 5, 1),
  (⟨#[114, 101, 109]⟩, 82, 51, 6, 1),
  (⟨#[114, 101, 109, 117]⟩, 82, 51, 7, 1),
  (⟨#[108, 114, 46, 119]⟩, 75, 47, 2, 2),
  (⟨#[115, 99, 46, 119]⟩, 65, 47, 2, 3),
  (⟨#[97, 109, 111, 115, 119, 97, 112, 46, 119]⟩, 65, 47, 2, 1),
  (⟨#[97, 109, 111, 97, 100, 100, 46, 119]⟩, 65, 47, 2, 0),
  (⟨#[97, 109, 111, 120, 111, 114, 46, 119]⟩, 65, 47, 2, 4),
  (⟨#[97, 109, 111, 97, 110, 100, 46, 119]⟩, 65, 47, 2, 12),
  (⟨#[97, 109, 111, 111, 114, 46, 119]⟩, 65, 47, 2, 8),
  (⟨#[97, 109, 111, 109, 105, 110, 46, 119]⟩, 65, 47, 2, 16),
  (⟨#[97, 109, 111, 109, 97, 120, 46, 119]⟩, 65, 47, 2, 20),
  (⟨#[97, 109, 111, 109, 105, 110, 117, 46, 119]⟩, 65, 47, 2, 24),
  (⟨#[97, 109, 111, 109, 97, 120, 117, 46, 119]⟩, 65, 47, 2, 28),
  (⟨#[102, 101, 110, 99, 101]⟩, 70, 15, 0, 0),
  (⟨#[101, 99, 97, 108, 108]⟩, 78, 115, 0, 0),
  (⟨#[101, 98, 114, 101, 97, 107]⟩, 78, 115, 0, 1),
  (⟨#[109, 114, 101, 116]⟩, 78, 115, 0, 770),
  (⟨#[119, 102, 105]⟩, 78, 115, 0, 261),
  (⟨#[99, 115, 114, 114, 119]⟩, 67, 115, 1, 0),
  (⟨#[99, 115, 114, 114, 115]⟩, 67, 115, 2, 0),
  (⟨#[99, 115, 114, 114, 99]⟩, 67, 115, 3, 0),
  (⟨#[99, 115, 114, 114, 119, 105]⟩, 68, 115, 5, 0),
  (⟨#[99, 115, 114, 114, 115, 105]⟩, 68, 115, 6, 0),
  (⟨#[99, 115, 114, 114, 99, 105]⟩, 68, 115, 7, 0)]
def rowCells (r : ByteArray × Int × Int × Int × Int) : List Value := [.string r.1, .int .u8 r.2.1, .int .i64 r.2.2.1, .int .i64 r.2.2.2.1, .int .i64 r.2.2.2.2]
def ROWS : Array Value := (rowsL.flatMap rowCells).toArray
theorem rows_run (w : World) : XRun.runFn Tryz.prog 1 57 #[] w = some (.slice (some ⟨w.heap.size, 0, none⟩) 67 67, w.alloc (.cells ROWS 116)) := by kernel_rfl
theorem rows_any (w : World) : Calls Tryz.prog 57 #[] w fun e w' => e = .returned (.slice (some ⟨w.heap.size, 0, none⟩) 67 67) ∧ w.alloc (.cells ROWS 116) = w' :=
  XRun.sound _ _ _ _ _ _ _ (rows_run w)
end Go.Proofs.YtcpmgklhfpcaeaaGreatDoor.alu
/- Part B: rows and names of the reference. -/
namespace Go.Proofs.YtcpmgklhfpcaeaaGreatDoor.alu
open Go.RowKit
set_option linter.unusedVariables false
set_option maxRecDepth 100000

def rowAt (op : Int) : ByteArray × Int × Int × Int × Int := rowsL.getD (op.toNat - 1) (⟨#[]⟩, 0, 0, 0, 0)
def nm (op : Int) : ByteArray := if op < 1 ∨ 67 < op then ⟨#[]⟩ else (rowAt op).1
def rF (op : Int) : Int := (rowAt op).2.1
def rC (op : Int) : Int := (rowAt op).2.2.1
def rA (op : Int) : Int := (rowAt op).2.2.2.1
def rG (op : Int) : Int := (rowAt op).2.2.2.2

theorem flat_at {α : Type} (f : α → List Value) (n : Nat) (hf : ∀ x, (f x).length = n) : ∀ (l : List α) (k j : Nat), j < n → (l.flatMap f)[n * k + j]? = (l[k]?).bind (fun x => (f x)[j]?)
  | [], k, j, _ => by simp
  | x :: l, 0, j, h => by simp [List.getElem?_append_left (show j < (f x).length by rw [hf]; exact h)]
  | x :: l, k + 1, j, h => by
    rw [List.flatMap_cons, List.getElem?_append_right (by rw [hf, Nat.mul_succ]; omega), hf, show n * (k + 1) + j - n = n * k + j by rw [Nat.mul_succ]; omega, flat_at f n hf l k j h]
    rfl
theorem rows_at (op : Int) (h1 : 1 ≤ op) (h2 : op ≤ 67) (j : Nat) (hj : j < 5) : ROWS[5 * (op.toNat - 1) + j]? = (rowCells (rowAt op))[j]? := by
  have hl : rowsL.length = 67 := by decide +kernel
  unfold ROWS
  rw [List.getElem?_toArray, flat_at rowCells 5 (fun _ => rfl) rowsL _ j hj, List.getElem?_eq_getElem (show op.toNat - 1 < rowsL.length by omega)]
  unfold rowAt
  simp [List.getD_eq_getElem?_getD, List.getElem?_eq_getElem (show op.toNat - 1 < rowsL.length by omega)]

/-- block b holds the rows of the reference -/
def RowsAt (w : World) (b : Nat) : Prop := ∀ op : Int, 1 ≤ op → op ≤ 67 →
    w.cell? ⟨b, (op.toNat - 1) * 5, none⟩ = some (.string (rowAt op).1) ∧
    w.cell? ⟨b, (op.toNat - 1) * 5 + 1, none⟩ = some (.int .u8 (rF op)) ∧
    w.cell? ⟨b, (op.toNat - 1) * 5 + 2, none⟩ = some (.int .i64 (rC op)) ∧
    w.cell? ⟨b, (op.toNat - 1) * 5 + 3, none⟩ = some (.int .i64 (rA op)) ∧
    w.cell? ⟨b, (op.toNat - 1) * 5 + 4, none⟩ = some (.int .i64 (rG op))
theorem rowsAt_new (w : World) : RowsAt (w.alloc (.cells ROWS 116)) w.heap.size := by
  intro op h1 h2
  have e : (op.toNat - 1) * 5 = 5 * (op.toNat - 1) + 0 := by omega
  simp only [World.cell?_alloc_new]
  rw [e]
  exact ⟨rows_at op h1 h2 0 (by omega), rows_at op h1 h2 1 (by omega), rows_at op h1 h2 2 (by omega), rows_at op h1 h2 3 (by omega), rows_at op h1 h2 4 (by omega)⟩
/-- what 'Rows' does -/
def RowsMade (w : World) (e : Ending) (w' : World) : Prop := ∃ b, e = .returned (.slice (some ⟨b, 0, none⟩) 67 67) ∧ RowsAt w' b ∧ Grown w w'
theorem rows_made (w : World) : Calls Tryz.prog 57 #[] w (RowsMade w) := by
  refine (rows_any w).mono ?_
  rintro e w' ⟨rfl, rfl⟩
  exact ⟨_, rfl, rowsAt_new w, (Grown.refl _).alloc _ _⟩

theorem name_any (op : Int) (w : World) : Calls Tryz.prog 81 #[.int .i64 op] w fun e w' => e = .returned (.string (nm op)) ∧ Grown w w' := by
  by_cases h1 : op < 1
  · have hn : nm op = ⟨#[]⟩ := by unfold nm; rw [if_pos (Or.inl h1)]
    rw [hn]
    go_enter Tryz.func81, Tryz.ntmps81
    go_wp2
    go_ret
    exact ⟨rfl, Grown.refl _⟩
  · by_cases h2 : 67 < op
    · have hn : nm op = ⟨#[]⟩ := by unfold nm; rw [if_pos (Or.inr h2)]
      rw [hn]
      go_enter Tryz.func81, Tryz.ntmps81
      go_wp2
      go_ret
      exact ⟨rfl, Grown.refl _⟩
    · have hn : nm op = (rowAt op).1 := by unfold nm; rw [if_neg (by omega)]
      rw [hn]
      have h1' : 1 ≤ op := by omega
      have h2' : op ≤ 67 := by omega
      clear h1 h2 hn
      go_enter Tryz.func81, Tryz.ntmps81
      go_wp2_with fail
      refine (rows_made _).mono ?_
      rintro e w' ⟨b, rfl, hR, hG⟩
      have hc := (hR op h1' h2').1
      have HG := Lib.hid hG
      clear hR hG
      go_wp2
      go_ret
      exact ⟨rfl, HG.out⟩

def classRow (f c g : Int) : Int :=
  if f = 85 ∨ f = 73 ∨ f = 72 then 0 else if f = 82 then (if g = 1 then 1 else 0) else if f = 74 then 3
  else if f = 76 then (if c = 103 then 3 else 4) else if f = 66 then 2 else if f = 83 then 5 else if f = 65 ∨ f = 75 then 6 else 7
def classR (op : Int) : Int := if op < 1 ∨ 67 < op then 7 else classRow (rF op) (rC op) (rG op)
theorem class_any (op : Int) (w : World) : Calls Tryz.prog 40 #[.int .i64 op] w fun e w' => e = .returned (.int .i64 (classR op)) ∧ Grown w w' := by
  by_cases h1 : op < 1
  · have hn : classR op = 7 := by unfold classR; rw [if_pos (Or.inl h1)]
    rw [hn]
    go_enter Tryz.func40, Tryz.ntmps40
    go_wp2
    go_ret
    exact ⟨rfl, Grown.refl _⟩
  · by_cases h2 : 67 < op
    · have hn : classR op = 7 := by unfold classR; rw [if_pos (Or.inr h2)]
      rw [hn]
      go_enter Tryz.func40, Tryz.ntmps40
      go_wp2
      go_ret
      exact ⟨rfl, Grown.refl _⟩
    · have hn : classR op = classRow (rF op) (rC op) (rG op) := by unfold classR; rw [if_neg (by omega)]
      rw [hn]
      have h1' : 1 ≤ op := by omega
      have h2' : op ≤ 67 := by omega
      clear h1 h2 hn
      go_enter Tryz.func40, Tryz.ntmps40
      go_wp2_with fail
      refine (rows_made _).mono ?_
      rintro e w' ⟨b, rfl, hR, hG⟩
      obtain ⟨c0, c1, c2, c3, c4⟩ := hR op h1' h2'
      have HG := Lib.hid hG
      clear hR hG
      go_wp2
      all_goals
        go_ret
        refine ⟨congrArg (fun x => Ending.returned (.int .i64 x)) ?_, by first | exact HG.out | exact Grown.alloc HG.out _ _⟩
        clear c0 c1 c2 c3 c4 HG
        simp_all [classRow]
end Go.Proofs.YtcpmgklhfpcaeaaGreatDoor.alu
/- Part C: what operations move: sizes, widening, atomic operations: the program's and the reference's. -/
namespace Go.Proofs.YtcpmgklhfpcaeaaGreatDoor.alu
open Go.RowKit
set_option linter.unusedVariables false
set_option maxRecDepth 100000

theorem nm_is (lit : List UInt8) (k : Int) (h0 : ((⟨#[]⟩ : ByteArray).toList == lit) = false) (hk : 1 ≤ k) (hk' : k ≤ 67)
    (h : (List.range 68).all (fun i => ((nm i).toList == lit) == decide ((i : Int) = k)) = true) (op : Int) : ((nm op).toList == lit) = decide (op = k) := by
  by_cases ho : op < 1 ∨ 67 < op
  · have : nm op = ⟨#[]⟩ := by unfold nm; rw [if_pos ho]
    rw [this, h0]; symm; simp; omega
  · have := List.all_eq_true.1 h op.toNat (List.mem_range.2 (by omega))
    have e : ((op.toNat : Nat) : Int) = op := by omega
    rw [e] at this
    simpa using this
theorem is_lb (op : Int) : ((nm op).toList == [108, 98]) = decide (op = 11) := nm_is _ _ (by decide +kernel) (by omega) (by omega) (by decide +kernel) op
theorem is_lbu (op : Int) : ((nm op).toList == [108, 98, 117]) = decide (op = 14) := nm_is _ _ (by decide +kernel) (by omega) (by omega) (by decide +kernel) op
theorem is_sb (op : Int) : ((nm op).toList == [115, 98]) = decide (op = 16) := nm_is _ _ (by decide +kernel) (by omega) (by omega) (by decide +kernel) op
theorem is_lh (op : Int) : ((nm op).toList == [108, 104]) = decide (op = 12) := nm_is _ _ (by decide +kernel) (by omega) (by omega) (by decide +kernel) op
theorem is_lhu (op : Int) : ((nm op).toList == [108, 104, 117]) = decide (op = 15) := nm_is _ _ (by decide +kernel) (by omega) (by omega) (by decide +kernel) op
theorem is_sh (op : Int) : ((nm op).toList == [115, 104]) = decide (op = 17) := nm_is _ _ (by decide +kernel) (by omega) (by omega) (by decide +kernel) op
theorem is_lw (op : Int) : ((nm op).toList == [108, 119]) = decide (op = 13) := nm_is _ _ (by decide +kernel) (by omega) (by omega) (by decide +kernel) op
theorem is_sw (op : Int) : ((nm op).toList == [115, 119]) = decide (op = 18) := nm_is _ _ (by decide +kernel) (by omega) (by omega) (by decide +kernel) op
theorem is_amoswap_w (op : Int) : ((nm op).toList == [97, 109, 111, 115, 119, 97, 112, 46, 119]) = decide (op = 48) := nm_is _ _ (by decide +kernel) (by omega) (by omega) (by decide +kernel) op
theorem is_sc_w (op : Int) : ((nm op).toList == [115, 99, 46, 119]) = decide (op = 47) := nm_is _ _ (by decide +kernel) (by omega) (by omega) (by decide +kernel) op
theorem is_amoadd_w (op : Int) : ((nm op).toList == [97, 109, 111, 97, 100, 100, 46, 119]) = decide (op = 49) := nm_is _ _ (by decide +kernel) (by omega) (by omega) (by decide +kernel) op
theorem is_amoxor_w (op : Int) : ((nm op).toList == [97, 109, 111, 120, 111, 114, 46, 119]) = decide (op = 50) := nm_is _ _ (by decide +kernel) (by omega) (by omega) (by decide +kernel) op
theorem is_amoand_w (op : Int) : ((nm op).toList == [97, 109, 111, 97, 110, 100, 46, 119]) = decide (op = 51) := nm_is _ _ (by decide +kernel) (by omega) (by omega) (by decide +kernel) op
theorem is_amoor_w (op : Int) : ((nm op).toList == [97, 109, 111, 111, 114, 46, 119]) = decide (op = 52) := nm_is _ _ (by decide +kernel) (by omega) (by omega) (by decide +kernel) op
theorem is_amomin_w (op : Int) : ((nm op).toList == [97, 109, 111, 109, 105, 110, 46, 119]) = decide (op = 53) := nm_is _ _ (by decide +kernel) (by omega) (by omega) (by decide +kernel) op
theorem is_amomax_w (op : Int) : ((nm op).toList == [97, 109, 111, 109, 97, 120, 46, 119]) = decide (op = 54) := nm_is _ _ (by decide +kernel) (by omega) (by omega) (by decide +kernel) op
theorem is_amominu_w (op : Int) : ((nm op).toList == [97, 109, 111, 109, 105, 110, 117, 46, 119]) = decide (op = 55) := nm_is _ _ (by decide +kernel) (by omega) (by omega) (by decide +kernel) op
theorem is_amomaxu_w (op : Int) : ((nm op).toList == [97, 109, 111, 109, 97, 120, 117, 46, 119]) = decide (op = 56) := nm_is _ _ (by decide +kernel) (by omega) (by omega) (by decide +kernel) op

def sizeF (op : Int) : Int := if op = 11 ∨ op = 14 ∨ op = 16 then 1 else if op = 12 ∨ op = 15 ∨ op = 17 then 2 else if op = 13 ∨ op = 18 then 4 else if 46 ≤ op ∧ op ≤ 56 then 4 else 0
theorem size_any (op : Int) (w : World) : Calls Tryz.prog 32 #[.int .i64 op] w fun e w' => e = .returned (.int .i64 (sizeF op)) ∧ w = w' := by
  go_enter Tryz.func32, Tryz.ntmps32
  go_wp2
  all_goals
    go_ret
    refine ⟨congrArg (fun x => Ending.returned (.int .i64 x)) ?_, rfl⟩
    unfold sizeF
    simp_all
    try omega
theorem class_atomic (op : Int) : (classR op == 6) = decide (46 ≤ op ∧ op ≤ 56) := by
  by_cases ho : op < 1 ∨ 67 < op
  · have : classR op = 7 := by unfold classR; rw [if_pos ho]
    rw [this]; symm; simp; omega
  · have h : (List.range 68).all (fun i => i == 0 || (classR i == 6) == decide (46 ≤ (i : Int) ∧ (i : Int) ≤ 56)) = true := by decide +kernel
    have := List.all_eq_true.1 h op.toNat (List.mem_range.2 (by omega))
    have e : ((op.toNat : Nat) : Int) = op := by omega
    rw [e] at this
    have h0 : (op.toNat == 0) = false := by simp; omega
    rw [h0] at this
    simpa using this
theorem rsize_any (op : Int) (w : World) : Calls Tryz.prog 37 #[.int .i64 op] w fun e w' => e = .returned (.int .i64 (sizeF op)) ∧ Grown w w' := by
  have i1 := is_lb op; have i2 := is_lbu op; have i3 := is_sb op; have i4 := is_lh op; have i5 := is_lhu op; have i6 := is_sh op; have i7 := is_lw op; have i8 := is_sw op
  have i9 := class_atomic op
  go_enter Tryz.func37, Tryz.ntmps37
  go_wp2_with (first | (go_at_call 81; refine (name_any _ _).mono ?_; rintro e w' ⟨rfl, hG⟩; have HG := Lib.hid hG; clear hG) | (go_at_call 40; refine (class_any _ _).mono ?_; rintro e w' ⟨rfl, hG⟩; have HG2 := Lib.hid hG; clear hG))
  all_goals
    go_ret
    refine ⟨congrArg (fun x => Ending.returned (.int .i64 x)) ?_, by first | exact HG.out | exact grown_trans HG.out HG2.out⟩
    unfold sizeF
    (try clear HG) <;> (try clear HG2)
    simp_all
    try omega
end Go.Proofs.YtcpmgklhfpcaeaaGreatDoor.alu
/- Part D: widening and atomic operations. -/
namespace Go.Proofs.YtcpmgklhfpcaeaaGreatDoor.alu
open Go.RowKit
set_option linter.unusedVariables false
set_option maxRecDepth 100000

def sx8 (r : Int) : Int := if r % 256 < 128 then r % 256 else r % 256 + 4294967040
def sx16 (r : Int) : Int := if r % 65536 < 32768 then r % 65536 else r % 65536 + 4294901760
def widenF (op r : Int) : Int := if op = 11 then sx8 r else if op = 12 then sx16 r else if op = 14 then r % 256 else if op = 15 then r % 65536 else if op = 13 then r else if 46 ≤ op ∧ op ≤ 56 then r else 0
theorem widen_any (op raw : Int) (h0 : 0 ≤ raw) (h1 : raw < 4294967296) (w : World) : Calls Tryz.prog 50 #[.int .i64 op, .int .u32 raw] w fun e w' => e = .returned (.int .u32 (widenF op raw)) ∧ w = w' := by
  have hs : (sizeF op = 1 ∧ (op = 11 ∨ op = 14 ∨ op = 16)) ∨ (sizeF op = 2 ∧ (op = 12 ∨ op = 15 ∨ op = 17)) ∨ (sizeF op = 4 ∧ (op = 13 ∨ op = 18 ∨ (46 ≤ op ∧ op ≤ 56))) ∨ (sizeF op = 0 ∧ op ≠ 11 ∧ op ≠ 12 ∧ op ≠ 13 ∧ op ≠ 14 ∧ op ≠ 15 ∧ op ≠ 16 ∧ op ≠ 17 ∧ op ≠ 18 ∧ (op < 46 ∨ 56 < op)) := by
    unfold sizeF; (repeat' split) <;> omega
  rcases hs with ⟨hs, ho⟩ | ⟨hs, ho⟩ | ⟨hs, ho⟩ | ⟨hs, ho⟩
  all_goals
    have HO := Lib.hid ho
    clear ho
    go_enter Tryz.func50, Tryz.ntmps50
    go_wp2_with (go_at_call 32; refine (size_any _ _).mono ?_; rintro e w' ⟨rfl, rfl⟩)
    all_goals
      go_ret
      refine ⟨congrArg (fun x => Ending.returned (.int .u32 x)) ?_, rfl⟩
      have ho := HO.out
      clear HO
      unfold widenF sx8 sx16
      go_tidy
      first
        | (simp_all; done)
        | (simp_all; (try unfold wrap32); (repeat' split) <;> omega)

theorem rwiden_any (op raw : Int) (h0 : 0 ≤ raw) (h1 : raw < 4294967296) (w : World) : Calls Tryz.prog 90 #[.int .i64 op, .int .u32 raw] w fun e w' => e = .returned (.int .u32 (widenF op raw)) ∧ Grown w w' := by
  have i1 := is_lb op; have i2 := is_lbu op; have i3 := is_sb op; have i4 := is_lh op; have i5 := is_lhu op; have i6 := is_sh op; have i7 := is_lw op; have i8 := is_sw op
  have i9 := class_atomic op
  go_enter Tryz.func90, Tryz.ntmps90
  go_wp2_with (first | (go_at_call 81; refine (name_any _ _).mono ?_; rintro e w' ⟨rfl, hG⟩; have HG := Lib.hid hG; clear hG) | (go_at_call 40; refine (class_any _ _).mono ?_; rintro e w' ⟨rfl, hG⟩; have HG2 := Lib.hid hG; clear hG))
  all_goals
    go_ret
    refine ⟨congrArg (fun x => Ending.returned (.int .u32 x)) ?_, grown_trans HG2.out HG.out⟩
    clear i1 i2 i3 i4 i5 i6 i7 i8 i9 HG HG2
    unfold widenF sx8 sx16
    go_tidy
    first
      | (simp_all; done)
      | (simp_all [IntKind.wrap, IntKind.bits, IntKind.signed]; (try unfold wrap32); (repeat' split) <;> omega)
def sg (a : Int) : Int := if a < 2147483648 then a else a - 4294967296
theorem sg_eq (a : Int) (h0 : 0 ≤ a) (h1 : a < 4294967296) : wrap64 (wrap32 a) = sg a := by
  unfold wrap64 wrap32 sg; split <;> omega
theorem signed_any (a : Int) (h0 : 0 ≤ a) (h1 : a < 4294967296) (w : World) : Calls Tryz.prog 88 #[.int .u32 a] w fun e w' => e = .returned (.int .i64 (sg a)) ∧ w = w' := by
  have e := Lib.hid (sg_eq a h0 h1)
  go_enter Tryz.func88, Tryz.ntmps88
  go_wp2
  go_ret
  exact ⟨congrArg (fun x => Ending.returned (.int .i64 x)) e.out, rfl⟩
def swapF (op a b : Int) : Int := if op = 47 ∨ op = 48 then b else if op = 49 then (a + b) % 4294967296 else if op = 50 then bits .xor .u32 a b else if op = 51 then bits .and .u32 a b
  else if op = 52 then bits .or .u32 a b else if op = 53 then (if sg a < sg b then a else b) else if op = 54 then (if sg a < sg b then b else a)
  else if op = 55 then (if a < b then a else b) else if op = 56 then (if a < b then b else a) else a
theorem swap_any (op a b : Int) (h0 : 0 ≤ a) (h1 : a < 4294967296) (h2 : 0 ≤ b) (h3 : b < 4294967296) (w : World) : Calls Tryz.prog 65 #[.int .i64 op, .int .u32 a, .int .u32 b] w fun e w' => e = .returned (.int .u32 (swapF op a b)) ∧ w = w' := by
  go_enter Tryz.func65, Tryz.ntmps65
  go_wp2
  all_goals
    go_ret
    refine ⟨congrArg (fun x => Ending.returned (.int .u32 x)) ?_, rfl⟩
    unfold swapF sg
    go_tidy
    first
      | (simp_all; done)
      | (simp_all; (try unfold wrap32 at *); (repeat' split) <;> omega)
theorem rswap_any (op a b : Int) (h0 : 0 ≤ a) (h1 : a < 4294967296) (h2 : 0 ≤ b) (h3 : b < 4294967296) (w : World) : Calls Tryz.prog 91 #[.int .i64 op, .int .u32 a, .int .u32 b] w fun e w' => e = .returned (.int .u32 (swapF op a b)) ∧ Grown w w' := by
  have i1 := is_amoswap_w op; have i2 := is_sc_w op; have i3 := is_amoadd_w op; have i4 := is_amoxor_w op; have i5 := is_amoand_w op; have i6 := is_amoor_w op
  have i7 := is_amomin_w op; have i8 := is_amomax_w op; have i9 := is_amominu_w op; have i10 := is_amomaxu_w op
  have HG := Lib.hid (Grown.refl w)
  go_enter Tryz.func91, Tryz.ntmps91
  go_wp2_with (first | (go_at_call 81; refine (name_any _ _).mono ?_; rintro e w' ⟨rfl, hG⟩; have HG := Lib.hid (grown_trans HG.out hG); clear hG) | (go_at_call 88; refine (signed_any _ (by assumption) (by assumption) _).mono ?_; rintro e w' ⟨rfl, rfl⟩))
  all_goals
    go_ret
    refine ⟨congrArg (fun x => Ending.returned (.int .u32 x)) ?_, ?_⟩
    · unfold swapF
      clear i1 i2 i3 i4 i5 i6 i7 i8 i9 i10
      go_tidy
      first
        | (simp_all; done)
        | (simp_all; intro hx; omega)
    · exact HG.out

end Go.Proofs.YtcpmgklhfpcaeaaGreatDoor.alu
/- Part E: what operations compute: the table of the operations. -/
namespace Go
/-- an operation whose run is known, whatever it is -/
structure OpRuns (P : Program) (o : Oper) (a : Act) (w : World) (v : Value) (w' : World) : Prop where
  run : (execOp a.eval o).run P w = .ok (.value v) w'
theorem wpList_run {P : Program} {ops : Array Oper} {Q : Exit → Act → World → Prop} {a : Act} {w : World} {rest : List Oper} {o : Oper} {v : Value} {w' : World}
    (hg : o.guard = none) (hr : OpRuns P o a w v w') (h : wpList P ops Q rest (a.put o.dst v) w') : wpList P ops Q (o :: rest) a w :=
  wpList_plain hg fun K hK => by
    unfold Oper.wp; rw [hr.run, Oper.upon_value]; exact hK _ _ h
end Go
namespace Go.Proofs.YtcpmgklhfpcaeaaGreatDoor.alu
open Go.RowKit
set_option linter.unusedVariables false
set_option maxRecDepth 100000

noncomputable def regOps : Code → Nat → Array Oper
  | .seq (.region _ ops _) _, 0 => ops
  | .seq _ b, n + 1 => regOps b n
  | _, _ => #[]
noncomputable def opBuild : Oper := ((regOps (Tryz.f84.body.getD .skip) 1)[0]?).getD default
noncomputable def opAlloc : Oper := ((regOps (Tryz.f84.body.getD .skip) 1)[1]?).getD default
def fnNo : List Nat := [0, 102, 103, 0, 0, 0, 0, 0, 0, 0, 0, 0, 0, 0, 0, 0, 0, 0, 0, 104, 105, 106, 107, 108, 109, 110, 111, 112, 104, 113, 110, 105, 106, 107, 111, 112, 108, 109, 114, 115, 118, 116, 119, 121, 122, 123]
def fnOf (n : Nat) : Value := if n = 0 then .nilFunc else .func (.func n) #[] #[]
def FT : Array Value := (fnNo.map fnOf).toArray
def ZT : Array Value := Array.replicate 46 .nilFunc
theorem build_run (a : Act) (w : World) : OpRuns Tryz.prog opBuild a w (.agg FT) w := ⟨by kernel_rfl⟩
theorem alloc_run (a : Act) (w : World) : OpRuns Tryz.prog opAlloc a w (.pointer (some ⟨w.heap.size, 0, none⟩)) (w.alloc (.cells ZT 190)) := ⟨by kernel_rfl⟩
theorem ft_at (op : Int) (h1 : 0 ≤ op) (h2 : op < 46) : FT[op.toNat]? = some (fnOf (fnNo.getD op.toNat 0)) := by
  have hl : fnNo.length = 46 := by decide
  unfold FT
  simp [List.getD_eq_getElem?_getD, List.getElem?_eq_getElem (show op.toNat < fnNo.length by omega)]

set_option maxRecDepth 100000 in
theorem operation_any (op : Int) (h1 : 0 ≤ op) (h2 : op < 46) (w : World) : Calls Tryz.prog 84 #[.int .i64 op] w fun e w' => e = .returned (fnOf (fnNo.getD op.toNat 0)) ∧ Grown w w' := by
  have hc := (World.cell?_alloc_new w FT 190 op.toNat).trans (ft_at op h1 h2)
  have hG := Lib.hid ((Grown.refl w).alloc FT 190)
  have HC := Lib.hid hc
  clear hc
  go_enter Tryz.func84, Tryz.ntmps84
  go_wp2_with (first | refine wpList_run rfl (build_run _ _) ?_ | refine wpList_run rfl (alloc_run _ _) ?_ | (refine wpList_store_row rfl 190 (.tmp 3) (.tmp 4) rfl w.heap.size FT rfl rfl 190 ZT (heap_alloc_new _ _) (by kernel_rfl) (by kernel_rfl) (by kernel_rfl) ?_; rw [World.setRow_alloc_new]; have hc := HC.out; generalize w.alloc (.cells FT 190) = W at hc hG ⊢))
  go_ret
  exact ⟨rfl, hG.out⟩
end Go.Proofs.YtcpmgklhfpcaeaaGreatDoor.alu
