/- Part J: branches; the three laws of what operations compute. -/
import Derived.Test.YtcpmgklhfpcaeaaDoorAluI
namespace Go.Proofs.YtcpmgklhfpcaeaaDoor.alu
open Go.RowKit
set_option linter.unusedVariables false
set_option maxRecDepth 100000
def takenF (op a b : Int) : Bool := if op = 5 then decide (a = b) else if op = 6 then decide (a ≠ b) else if op = 7 then decide (sg a < sg b) else if op = 8 then decide (sg b ≤ sg a) else if op = 9 then decide (a < b) else if op = 10 then decide (b ≤ a) else false
theorem wrap_sg (a : Int) (h0 : 0 ≤ a) (h1 : a < 4294967296) : wrap32 a = sg a := by unfold sg wrap32; split <;> omega
theorem taken_any (op a b : Int) (h0 : 0 ≤ a) (h1 : a < 4294967296) (h2 : 0 ≤ b) (h3 : b < 4294967296) (w : World) : Calls Tryd.prog 29 #[.int .i64 op, .int .u32 a, .int .u32 b] w fun e w' => e = .returned (.bool (takenF op a b)) ∧ w = w' := by
  go_enter Tryd.func29, Tryd.ntmps29
  go_wp2
  all_goals
    go_ret
    refine ⟨congrArg (fun x => Ending.returned (.bool x)) ?_, rfl⟩
    have ea := wrap_sg a h0 h1
    have eb := wrap_sg b h2 h3
    unfold takenF
    go_tidy
    simp only [beq_iff_eq, beq_eq_false_iff_ne] at *
    first
      | (simp_all; done)
      | (simp_all; rw [Bool.eq_iff_iff]; simp; done)
      | (simp_all; rw [Bool.eq_iff_iff]; simp; omega)
      | (by_cases ho : op = 8 <;> by_cases ho2 : op = 10 <;> first | (exfalso; omega) | (simp_all; done) | (simp_all; rw [Bool.eq_iff_iff]; simp; omega))
def ExecIs (x : Int) (w : World) := IsU x w
end Go.Proofs.YtcpmgklhfpcaeaaDoor.alu
