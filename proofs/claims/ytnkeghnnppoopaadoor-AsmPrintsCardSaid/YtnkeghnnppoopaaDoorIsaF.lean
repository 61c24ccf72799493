/- Part F: what is read of a word, format by format. -/
import Derived.Test.YtnkeghnnppoopaaDoorIsaE
import Derived.Test.YtnkeghnnppoopaaDoorXHeap
namespace Go.Proofs.YtnkeghnnppoopaaDoor
open Go.RowKit Go.XHeap
set_option linter.unusedVariables false

def ins (op rd rs1 rs2 imm : Int) : Value := .agg #[.int .i64 op, .int .i64 rd, .int .i64 rs1, .int .i64 rs2, .int .i64 imm]
def ReadIs (rd rs1 rs2 imm : Int) (w : World) (e : Ending) (w' : World) : Prop := e = .returned (ins 0 rd rs1 rs2 imm) ∧ Grown w w'
def jumpImm (x : Int) : Int := sgn x / 2147483648 * 1048576 + partF x 12 8 * 4096 + partF x 20 1 * 2048 + partF x 21 10 * 2
def branchImm (x : Int) : Int := sgn x / 2147483648 * 4096 + partF x 7 1 * 2048 + partF x 25 6 * 32 + partF x 8 4 * 2
def storeImm (x : Int) : Int := sgn x / 33554432 * 32 + partF x 7 5
theorem sgn_bd (x : Int) (hx0 : 0 ≤ x) (hx1 : x < 4294967296) : -2147483648 ≤ sgn x ∧ sgn x < 2147483648 := by unfold sgn; split <;> omega
theorem jump_raw (x : Int) (hx0 : 0 ≤ x) (hx1 : x < 4294967296) : bits .or .i64 (bits .or .i64 (bits .or .i64 (wrap64 (sgn x / 2147483648 * 1048576)) (wrap64 (partF x 12 8 * 4096))) (wrap64 (partF x 20 1 * 2048))) (wrap64 (partF x 21 10 * 2)) = jumpImm x := by
  have hs := sgn_bd x hx0 hx1
  have p1 := part_bd x 12 8 (by decide)
  have p2 := part_bd x 20 1 (by decide)
  have p3 := part_bd x 21 10 (by decide)
  unfold jumpImm
  generalize partF x 12 8 = a at *
  generalize partF x 20 1 = b at *
  generalize partF x 21 10 = c at *
  generalize sgn x = s at *
  simp only [Int.reducePow] at p1 p2 p3
  rw [wrap64_in (s / 2147483648 * 1048576) (by omega) (by omega), wrap64_in (a * 4096) (by omega) (by omega), wrap64_in (b * 2048) (by omega) (by omega), wrap64_in (c * 2) (by omega) (by omega),
    or_join _ (a * 4096) 1048576 20 (by decide) (by decide) (by omega) (by omega) (by omega) (by omega) (by omega) (by decide),
    or_join _ (b * 2048) 4096 12 (by decide) (by decide) (by omega) (by omega) (by omega) (by omega) (by omega) (by decide),
    or_join _ (c * 2) 2048 11 (by decide) (by decide) (by omega) (by omega) (by omega) (by omega) (by omega) (by decide)]
theorem branch_raw (x : Int) (hx0 : 0 ≤ x) (hx1 : x < 4294967296) : bits .or .i64 (bits .or .i64 (bits .or .i64 (wrap64 (sgn x / 2147483648 * 4096)) (wrap64 (partF x 7 1 * 2048))) (wrap64 (partF x 25 6 * 32))) (wrap64 (partF x 8 4 * 2)) = branchImm x := by
  have hs := sgn_bd x hx0 hx1
  have p1 := part_bd x 7 1 (by decide)
  have p2 := part_bd x 25 6 (by decide)
  have p3 := part_bd x 8 4 (by decide)
  unfold branchImm
  generalize partF x 7 1 = a at *
  generalize partF x 25 6 = b at *
  generalize partF x 8 4 = c at *
  generalize sgn x = s at *
  simp only [Int.reducePow] at p1 p2 p3
  rw [wrap64_in (s / 2147483648 * 4096) (by omega) (by omega), wrap64_in (a * 2048) (by omega) (by omega), wrap64_in (b * 32) (by omega) (by omega), wrap64_in (c * 2) (by omega) (by omega),
    or_join _ (a * 2048) 4096 12 (by decide) (by decide) (by omega) (by omega) (by omega) (by omega) (by omega) (by decide),
    or_join _ (b * 32) 2048 11 (by decide) (by decide) (by omega) (by omega) (by omega) (by omega) (by omega) (by decide),
    or_join _ (c * 2) 32 5 (by decide) (by decide) (by omega) (by omega) (by omega) (by omega) (by omega) (by decide)]
theorem store_raw (x : Int) (hx0 : 0 ≤ x) (hx1 : x < 4294967296) : bits .or .i64 (wrap64 (sgn x / 33554432 * 32)) (partF x 7 5) = storeImm x := by
  have hs := sgn_bd x hx0 hx1
  have p1 := part_bd x 7 5 (by decide)
  unfold storeImm
  generalize partF x 7 5 = a at *
  generalize sgn x = s at *
  simp only [Int.reducePow] at p1
  rw [wrap64_in (s / 33554432 * 32) (by omega) (by omega), or_join _ a 32 5 (by decide) (by decide) (by omega) (by omega) (by omega) (by omega) (by omega) (by decide)]
end Go.Proofs.YtnkeghnnppoopaaDoor
