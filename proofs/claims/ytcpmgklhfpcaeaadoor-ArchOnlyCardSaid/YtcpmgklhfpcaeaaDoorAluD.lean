/- Part D: widening and atomic operations. -/
import Derived.Test.YtcpmgklhfpcaeaaDoorAluC
import Derived.WalkLawsBesides
namespace Go.Proofs.YtcpmgklhfpcaeaaDoor.alu
open Go.RowKit
set_option linter.unusedVariables false
set_option maxRecDepth 100000

def sx8 (r : Int) : Int := if r % 256 < 128 then r % 256 else r % 256 + 4294967040
def sx16 (r : Int) : Int := if r % 65536 < 32768 then r % 65536 else r % 65536 + 4294901760
def widenF (op r : Int) : Int := if op = 11 then sx8 r else if op = 12 then sx16 r else if op = 14 then r % 256 else if op = 15 then r % 65536 else if op = 13 then r else if 46 ≤ op ∧ op ≤ 56 then r else 0
theorem widen_any (op raw : Int) (h0 : 0 ≤ raw) (h1 : raw < 4294967296) (w : World) : Calls Tryd.prog 33 #[.int .i64 op, .int .u32 raw] w fun e w' => e = .returned (.int .u32 (widenF op raw)) ∧ w = w' := by
  have hs : (sizeF op = 1 ∧ (op = 11 ∨ op = 14 ∨ op = 16)) ∨ (sizeF op = 2 ∧ (op = 12 ∨ op = 15 ∨ op = 17)) ∨ (sizeF op = 4 ∧ (op = 13 ∨ op = 18 ∨ (46 ≤ op ∧ op ≤ 56))) ∨ (sizeF op = 0 ∧ op ≠ 11 ∧ op ≠ 12 ∧ op ≠ 13 ∧ op ≠ 14 ∧ op ≠ 15 ∧ op ≠ 16 ∧ op ≠ 17 ∧ op ≠ 18 ∧ (op < 46 ∨ 56 < op)) := by
    unfold sizeF; (repeat' split) <;> omega
  rcases hs with ⟨hs, ho⟩ | ⟨hs, ho⟩ | ⟨hs, ho⟩ | ⟨hs, ho⟩
  all_goals
    have HO := Lib.hid ho
    clear ho
    go_enter Tryd.func33, Tryd.ntmps33
    go_wp2_with (go_at_call 24; refine (size_any _ _).mono ?_; rintro e w' ⟨rfl, rfl⟩)
    all_goals
      go_ret
      refine ⟨congrArg (fun x => Ending.returned (.int .u32 x)) ?_, rfl⟩
      have ho := HO.out
      clear HO
      unfold widenF sx8 sx16
      go_tidy
      first
        | (simp_all; done)
        | (simp_all; (try unfold wrap32); (repeat' split) <;> omega)

def sg (a : Int) : Int := if a < 2147483648 then a else a - 4294967296
theorem sg_eq (a : Int) (h0 : 0 ≤ a) (h1 : a < 4294967296) : wrap64 (wrap32 a) = sg a := by
  unfold wrap64 wrap32 sg; split <;> omega
def swapF (op a b : Int) : Int := if op = 47 ∨ op = 48 then b else if op = 49 then (a + b) % 4294967296 else if op = 50 then bits .xor .u32 a b else if op = 51 then bits .and .u32 a b
  else if op = 52 then bits .or .u32 a b else if op = 53 then (if sg a < sg b then a else b) else if op = 54 then (if sg a < sg b then b else a)
  else if op = 55 then (if a < b then a else b) else if op = 56 then (if a < b then b else a) else a
theorem swap_any (op a b : Int) (h0 : 0 ≤ a) (h1 : a < 4294967296) (h2 : 0 ≤ b) (h3 : b < 4294967296) (w : World) : Calls Tryd.prog 16 #[.int .i64 op, .int .u32 a, .int .u32 b] w fun e w' => e = .returned (.int .u32 (swapF op a b)) ∧ w = w' := by
  go_enter Tryd.func16, Tryd.ntmps16
  go_wp2
  all_goals
    go_ret
    refine ⟨congrArg (fun x => Ending.returned (.int .u32 x)) ?_, rfl⟩
    unfold swapF sg
    go_tidy
    first
      | (simp_all; done)
      | (simp_all; (try unfold wrap32 at *); (repeat' split) <;> omega)
end Go.Proofs.YtcpmgklhfpcaeaaDoor.alu
