/- Part J: branches; the three laws of what operations compute. -/
import Derived.Test.YtcpmgklhfpcaeaaGreatDoorAluI
namespace Go.Proofs.YtcpmgklhfpcaeaaGreatDoor.alu
open Go.RowKit
set_option linter.unusedVariables false
set_option maxRecDepth 100000
def takenF (op a b : Int) : Bool := if op = 5 then decide (a = b) else if op = 6 then decide (a ≠ b) else if op = 7 then decide (sg a < sg b) else if op = 8 then decide (sg b ≤ sg a) else if op = 9 then decide (a < b) else if op = 10 then decide (b ≤ a) else false
theorem wrap_sg (a : Int) (h0 : 0 ≤ a) (h1 : a < 4294967296) : wrap32 a = sg a := by unfold sg wrap32; split <;> omega
theorem taken_any (op a b : Int) (h0 : 0 ≤ a) (h1 : a < 4294967296) (h2 : 0 ≤ b) (h3 : b < 4294967296) (w : World) : Calls Tryz.prog 46 #[.int .i64 op, .int .u32 a, .int .u32 b] w fun e w' => e = .returned (.bool (takenF op a b)) ∧ w = w' := by
  go_enter Tryz.func46, Tryz.ntmps46
  go_wp2
  all_goals
    go_ret
    refine ⟨congrArg (fun x => Ending.returned (.bool x)) ?_, rfl⟩
    have ea := wrap_sg a h0 h1
    have eb := wrap_sg b h2 h3
    unfold takenF
    go_tidy
    simp only [beq_iff_eq, beq_eq_false_iff_ne] at *
    first
      | (simp_all; done)
      | (simp_all; rw [Bool.eq_iff_iff]; simp; done)
      | (simp_all; rw [Bool.eq_iff_iff]; simp; omega)
      | (by_cases ho : op = 8 <;> by_cases ho2 : op = 10 <;> first | (exfalso; omega) | (simp_all; done) | (simp_all; rw [Bool.eq_iff_iff]; simp; omega))
theorem rtaken_any (op a b : Int) (h0 : 0 ≤ a) (h1 : a < 4294967296) (h2 : 0 ≤ b) (h3 : b < 4294967296) (w : World) : Calls Tryz.prog 55 #[.int .i64 op, .int .u32 a, .int .u32 b] w fun e w' => e = .returned (.bool (takenF op a b)) ∧ Grown w w' := by
  have i1 := is_beq op; have i2 := is_bne op; have i3 := is_blt op; have i4 := is_bge op; have i5 := is_bltu op; have i6 := is_bgeu op
  have HG := Lib.hid (Grown.refl w)
  go_enter Tryz.func55, Tryz.ntmps55
  go_wp2_with (first
    | (go_at_call 88; refine (signed_any _ (by assumption) (by assumption) _).mono ?_; rintro e w' ⟨rfl, rfl⟩)
    | (go_at_call 81; refine (name_any _ _).mono ?_; rintro e w' ⟨rfl, hG⟩; have HG := Lib.hid (grown_trans HG.out hG); clear hG))
  all_goals
    go_ret
    refine ⟨congrArg (fun x => Ending.returned (.bool x)) ?_, HG.out⟩
    clear i1 i2 i3 i4 i5 i6
    unfold takenF
    go_tidy
    first
      | (simp_all; done)
      | (simp_all; rw [Bool.eq_iff_iff]; simp; done)
      | (simp_all; rw [Bool.eq_iff_iff]; simp; omega)

def ExecIs (x : Int) (w : World) := IsU x w
end Go.Proofs.YtcpmgklhfpcaeaaGreatDoor.alu
