/- Part C: what operations move: sizes, widening, atomic operations: the program's and the reference's. -/
import Derived.Test.YtcpmgklhfpcaeaaDoorAluB
namespace Go.Proofs.YtcpmgklhfpcaeaaDoor.alu
open Go.RowKit
set_option linter.unusedVariables false
set_option maxRecDepth 100000

theorem nm_is (lit : List UInt8) (k : Int) (h0 : ((⟨#[]⟩ : ByteArray).toList == lit) = false) (hk : 1 ≤ k) (hk' : k ≤ 67)
    (h : (List.range 68).all (fun i => ((nm i).toList == lit) == decide ((i : Int) = k)) = true) (op : Int) : ((nm op).toList == lit) = decide (op = k) := by
  by_cases ho : op < 1 ∨ 67 < op
  · have : nm op = ⟨#[]⟩ := by unfold nm; rw [if_pos ho]
    rw [this, h0]; symm; simp; omega
  · have := List.all_eq_true.1 h op.toNat (List.mem_range.2 (by omega))
    have e : ((op.toNat : Nat) : Int) = op := by omega
    rw [e] at this
    simpa using this
theorem is_lb (op : Int) : ((nm op).toList == [108, 98]) = decide (op = 11) := nm_is _ _ (by decide +kernel) (by omega) (by omega) (by decide +kernel) op
theorem is_lbu (op : Int) : ((nm op).toList == [108, 98, 117]) = decide (op = 14) := nm_is _ _ (by decide +kernel) (by omega) (by omega) (by decide +kernel) op
theorem is_sb (op : Int) : ((nm op).toList == [115, 98]) = decide (op = 16) := nm_is _ _ (by decide +kernel) (by omega) (by omega) (by decide +kernel) op
theorem is_lh (op : Int) : ((nm op).toList == [108, 104]) = decide (op = 12) := nm_is _ _ (by decide +kernel) (by omega) (by omega) (by decide +kernel) op
theorem is_lhu (op : Int) : ((nm op).toList == [108, 104, 117]) = decide (op = 15) := nm_is _ _ (by decide +kernel) (by omega) (by omega) (by decide +kernel) op
theorem is_sh (op : Int) : ((nm op).toList == [115, 104]) = decide (op = 17) := nm_is _ _ (by decide +kernel) (by omega) (by omega) (by decide +kernel) op
theorem is_lw (op : Int) : ((nm op).toList == [108, 119]) = decide (op = 13) := nm_is _ _ (by decide +kernel) (by omega) (by omega) (by decide +kernel) op
theorem is_sw (op : Int) : ((nm op).toList == [115, 119]) = decide (op = 18) := nm_is _ _ (by decide +kernel) (by omega) (by omega) (by decide +kernel) op
theorem is_amoswap_w (op : Int) : ((nm op).toList == [97, 109, 111, 115, 119, 97, 112, 46, 119]) = decide (op = 48) := nm_is _ _ (by decide +kernel) (by omega) (by omega) (by decide +kernel) op
theorem is_sc_w (op : Int) : ((nm op).toList == [115, 99, 46, 119]) = decide (op = 47) := nm_is _ _ (by decide +kernel) (by omega) (by omega) (by decide +kernel) op
theorem is_amoadd_w (op : Int) : ((nm op).toList == [97, 109, 111, 97, 100, 100, 46, 119]) = decide (op = 49) := nm_is _ _ (by decide +kernel) (by omega) (by omega) (by decide +kernel) op
theorem is_amoxor_w (op : Int) : ((nm op).toList == [97, 109, 111, 120, 111, 114, 46, 119]) = decide (op = 50) := nm_is _ _ (by decide +kernel) (by omega) (by omega) (by decide +kernel) op
theorem is_amoand_w (op : Int) : ((nm op).toList == [97, 109, 111, 97, 110, 100, 46, 119]) = decide (op = 51) := nm_is _ _ (by decide +kernel) (by omega) (by omega) (by decide +kernel) op
theorem is_amoor_w (op : Int) : ((nm op).toList == [97, 109, 111, 111, 114, 46, 119]) = decide (op = 52) := nm_is _ _ (by decide +kernel) (by omega) (by omega) (by decide +kernel) op
theorem is_amomin_w (op : Int) : ((nm op).toList == [97, 109, 111, 109, 105, 110, 46, 119]) = decide (op = 53) := nm_is _ _ (by decide +kernel) (by omega) (by omega) (by decide +kernel) op
theorem is_amomax_w (op : Int) : ((nm op).toList == [97, 109, 111, 109, 97, 120, 46, 119]) = decide (op = 54) := nm_is _ _ (by decide +kernel) (by omega) (by omega) (by decide +kernel) op
theorem is_amominu_w (op : Int) : ((nm op).toList == [97, 109, 111, 109, 105, 110, 117, 46, 119]) = decide (op = 55) := nm_is _ _ (by decide +kernel) (by omega) (by omega) (by decide +kernel) op
theorem is_amomaxu_w (op : Int) : ((nm op).toList == [97, 109, 111, 109, 97, 120, 117, 46, 119]) = decide (op = 56) := nm_is _ _ (by decide +kernel) (by omega) (by omega) (by decide +kernel) op

def sizeF (op : Int) : Int := if op = 11 ∨ op = 14 ∨ op = 16 then 1 else if op = 12 ∨ op = 15 ∨ op = 17 then 2 else if op = 13 ∨ op = 18 then 4 else if 46 ≤ op ∧ op ≤ 56 then 4 else 0
theorem size_any (op : Int) (w : World) : Calls Tryd.prog 24 #[.int .i64 op] w fun e w' => e = .returned (.int .i64 (sizeF op)) ∧ w = w' := by
  go_enter Tryd.func24, Tryd.ntmps24
  go_wp2
  all_goals
    go_ret
    refine ⟨congrArg (fun x => Ending.returned (.int .i64 x)) ?_, rfl⟩
    unfold sizeF
    simp_all
    try omega
theorem class_atomic (op : Int) : (classR op == 6) = decide (46 ≤ op ∧ op ≤ 56) := by
  by_cases ho : op < 1 ∨ 67 < op
  · have : classR op = 7 := by unfold classR; rw [if_pos ho]
    rw [this]; symm; simp; omega
  · have h : (List.range 68).all (fun i => i == 0 || (classR i == 6) == decide (46 ≤ (i : Int) ∧ (i : Int) ≤ 56)) = true := by decide +kernel
    have := List.all_eq_true.1 h op.toNat (List.mem_range.2 (by omega))
    have e : ((op.toNat : Nat) : Int) = op := by omega
    rw [e] at this
    have h0 : (op.toNat == 0) = false := by simp; omega
    rw [h0] at this
    simpa using this
end Go.Proofs.YtcpmgklhfpcaeaaDoor.alu
