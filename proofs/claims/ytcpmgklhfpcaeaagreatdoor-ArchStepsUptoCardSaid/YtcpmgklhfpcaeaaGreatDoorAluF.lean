/- Part F: what operations compute: the functions of the table. -/
import Derived.Test.YtcpmgklhfpcaeaaGreatDoorAluE
import Derived.WalkLawsBesides
import Derived.Laws.ShiftsVar
import Derived.Deep.QuietTactic
import Derived.BigQuiet
namespace Go.Proofs.YtcpmgklhfpcaeaaGreatDoor.alu
open Go.RowKit
set_option linter.unusedVariables false
set_option maxRecDepth 100000
theorem and31 (b : Int) (h2 : 0 ≤ b) (h3 : b < 4294967296) : bits .and .u32 b 31 = b % 32 := by
  rw [u32_and b 31 h2 h3 (by omega) (by omega)]
  show ((b.toNat &&& 31 : Nat) : Int) = b % 32
  rw [nat_mask5]; omega
theorem xor0 (b : Int) (h2 : 0 ≤ b) (h3 : b < 4294967296) : bits .xor .u32 b 0 = b := by
  rw [u32_xor b 0 h2 h3 (by omega) (by omega)]
  show ((b.toNat ^^^ 0 : Nat) : Int) = b
  rw [Nat.xor_zero]; omega
theorem nat_not32 (x : Nat) (h : x < 4294967296) : x ^^^ 4294967295 = 4294967295 - x := by
  have h1 : (4294967295 - x) ^^^ x = 4294967295 := by
    apply Nat.eq_of_testBit_eq
    intro i
    rw [Nat.testBit_xor]
    by_cases hi : i < 32
    · rw [show (4294967295 : Nat) = 2 ^ 32 - 1 by rfl, show (2 ^ 32 - 1 - x) = 2 ^ 32 - (x + 1) by omega, Nat.testBit_two_pow_sub_succ h, Nat.testBit_two_pow_sub_one]
      simp [hi]
    · have hb : ∀ y : Nat, y < 4294967296 → y.testBit i = false := fun y hy => Nat.testBit_lt_two_pow (Nat.lt_of_lt_of_le hy (by rw [show (4294967296 : Nat) = 2 ^ 32 by rfl]; exact Nat.pow_le_pow_right (by omega) (by omega)))
      rw [hb x h, hb _ (by omega), hb _ (by omega)]; rfl
  have h2 : x ^^^ ((4294967295 - x) ^^^ x) = 4294967295 - x := by
    rw [Nat.xor_comm (4294967295 - x) x, ← Nat.xor_assoc, Nat.xor_self, Nat.zero_xor]
  rw [h1] at h2; exact h2
theorem xorM (b : Int) (h2 : 0 ≤ b) (h3 : b < 4294967296) : bits .xor .u32 b 4294967295 = 4294967295 - b := by
  rw [u32_xor b 4294967295 h2 h3 (by omega) (by omega)]
  show ((b.toNat ^^^ 4294967295 : Nat) : Int) = _
  rw [nat_not32 _ (by omega)]; omega
theorem and0 (b : Int) (h2 : 0 ≤ b) (h3 : b < 4294967296) : bits .and .u32 0 b = 0 := by
  rw [u32_and 0 b (by omega) (by omega) h2 h3]
  show ((0 &&& b.toNat : Nat) : Int) = 0
  rw [Nat.zero_and]; rfl
theorem andM (b : Int) (h2 : 0 ≤ b) (h3 : b < 4294967296) : bits .and .u32 4294967295 b = b := by
  rw [u32_and 4294967295 b (by omega) (by omega) h2 h3]
  show ((4294967295 &&& b.toNat : Nat) : Int) = b
  rw [nat_mask32']; omega

/-- the sign of a number: none, or all ones -/
theorem sign_lo (a : Int) (h0 : 0 ≤ a) (h1 : a < 2147483648) (w : World) : Calls Tryz.prog 117 #[.int .u32 a] w fun e w' => e = .returned (.int .u32 0) ∧ w = w' := by
  go_enter Tryz.func117, Tryz.ntmps117
  go_wp2
  go_ret
  exact ⟨congrArg (fun x => Ending.returned (.int .u32 x)) (by (try unfold wrap32); omega), rfl⟩
theorem sign_hi (a : Int) (h0 : 2147483648 ≤ a) (h1 : a < 4294967296) (w : World) : Calls Tryz.prog 117 #[.int .u32 a] w fun e w' => e = .returned (.int .u32 4294967295) ∧ w = w' := by
  go_enter Tryz.func117, Tryz.ntmps117
  go_wp2
  go_ret
  exact ⟨congrArg (fun x => Ending.returned (.int .u32 x)) (by (try unfold wrap32); omega), rfl⟩

def quoF (a b : Int) : Int := if b = 0 then 4294967295 else (sg a).tdiv (sg b) % 4294967296
def remF (a b : Int) : Int := if b = 0 then a else (sg a).tmod (sg b) % 4294967296

def PairIs (q r : Int) (w : World) (e : Ending) (w' : World) : Prop := e = .returned (.tuple #[.int .u32 q, .int .u32 r]) ∧ ∃ n, w' = w.drewN n
theorem quotient_zero (a : Int) (w : World) : Calls Tryz.prog 120 #[.int .u32 a, .int .u32 0] w (PairIs 4294967295 a w) := by
  go_enter Tryz.func120, Tryz.ntmps120
  go_wp2
  go_ret2
  exact ⟨rfl, 0, rfl⟩
theorem pairRet {q r q' r' : Int} (h : q = q') (h' : r = r') : Ending.returned (.tuple #[.int .u32 q, .int .u32 r]) = Ending.returned (.tuple #[.int .u32 q', .int .u32 r']) := by rw [h, h']
theorem xMM : bits .xor .u32 4294967295 4294967295 = 0 := by rw [xorM _ (by omega) (by omega)]; rfl
theorem xM0 : bits .xor .u32 4294967295 0 = 4294967295 := by rw [xor0 _ (by omega) (by omega)]
theorem x0M : bits .xor .u32 0 4294967295 = 4294967295 := by rw [xorM _ (by omega) (by omega)]; rfl
theorem x00 : bits .xor .u32 0 0 = 0 := by rw [xor0 _ (by omega) (by omega)]
theorem quotient_pp (a b : Int) (h0 : 0 ≤ a) (h1 : a < 2147483648) (h2 : 0 < b) (h3 : b < 2147483648) (w : World) : Calls Tryz.prog 120 #[.int .u32 a, .int .u32 b] w (PairIs (a / b) (a % b) w) := by
  have hb : (b == 0) = false := by simp; omega
  have hb' : ¬ b = 0 := by omega
  have xa := xor0 a (by omega) (by omega)
  have xb := xor0 b (by omega) (by omega)
  have x1 := xMM; have x2 := xM0; have x3 := x0M; have x4 := x00
  have q0 : 0 ≤ a / b := Int.ediv_nonneg (by omega) (by omega)
  have q1 : a / b < 4294967296 := by have := Int.ediv_le_self b (show 0 ≤ a by omega); omega
  have r0 : 0 ≤ a % b := Int.emod_nonneg _ (by omega)
  have r1 : a % b < 4294967296 := by have := Int.emod_lt_of_pos a (show 0 < b by omega); omega
  have xq := xor0 (a / b) q0 q1
  have xr := xor0 (a % b) r0 r1
  go_enter Tryz.func120, Tryz.ntmps120
  go_wp2_with fail
  refine (sign_lo _ (by assumption) (by assumption) _).mono ?_
  rintro e w' ⟨rfl, rfl⟩
  go_wp2_with fail
  refine (sign_lo _ (by omega) (by assumption) _).mono ?_
  rintro e w' ⟨rfl, rfl⟩
  go_wp2
  go_quiet (fail)
  go_wp2
  go_ret2
  exact ⟨pairRet (by omega) (by omega), _, rfl⟩
theorem quotient_pn (a b : Int) (h0 : 0 ≤ a) (h1 : a < 2147483648) (h2 : 2147483648 ≤ b) (h3 : b < 4294967296) (w : World) : Calls Tryz.prog 120 #[.int .u32 a, .int .u32 b] w (PairIs ((-(a / (4294967296 - b))) % 4294967296) (a % (4294967296 - b)) w) := by
  have hb : (b == 0) = false := by simp; omega
  have hy : ((4294967296 - b) == 0) = false := by simp; omega
  have hy' : ¬ 4294967296 - b = 0 := by omega
  have xa := xor0 a (by omega) (by omega)
  have xb := xorM b (by omega) (by omega)
  have eb : (4294967295 - b - 4294967295) % 4294967296 = 4294967296 - b := by omega
  have x1 := xMM; have x2 := xM0; have x3 := x0M; have x4 := x00
  have q0 : 0 ≤ a / (4294967296 - b) := Int.ediv_nonneg (by omega) (by omega)
  have q1 : a / (4294967296 - b) < 4294967296 := by have := Int.ediv_le_self (4294967296 - b) (show 0 ≤ a by omega); omega
  have r0 : 0 ≤ a % (4294967296 - b) := Int.emod_nonneg _ (by omega)
  have r1 : a % (4294967296 - b) < 4294967296 := by have := Int.emod_lt_of_pos a (show 0 < (4294967296 - b) by omega); omega
  have xq := xorM (a / (4294967296 - b)) q0 q1
  have xr := xor0 (a % (4294967296 - b)) r0 r1
  go_enter Tryz.func120, Tryz.ntmps120
  go_wp2_with fail
  refine (sign_lo _ (by assumption) (by assumption) _).mono ?_
  rintro e w' ⟨rfl, rfl⟩
  go_wp2_with fail
  refine (sign_hi _ (by assumption) (by assumption) _).mono ?_
  rintro e w' ⟨rfl, rfl⟩
  go_wp2
  go_quiet (fail)
  go_wp2
  go_ret2
  exact ⟨pairRet (by omega) (by omega), _, rfl⟩
theorem quotient_np (a b : Int) (h0 : 2147483648 ≤ a) (h1 : a < 4294967296) (h2 : 0 < b) (h3 : b < 2147483648) (w : World) : Calls Tryz.prog 120 #[.int .u32 a, .int .u32 b] w (PairIs ((-((4294967296 - a) / b)) % 4294967296) ((-((4294967296 - a) % b)) % 4294967296) w) := by
  have hb : (b == 0) = false := by simp; omega
  have hb' : ¬ b = 0 := by omega
  have xa := xorM a (by omega) (by omega)
  have xb := xor0 b (by omega) (by omega)
  have ea : (4294967295 - a - 4294967295) % 4294967296 = 4294967296 - a := by omega
  have x1 := xMM; have x2 := xM0; have x3 := x0M; have x4 := x00
  have q0 : 0 ≤ (4294967296 - a) / b := Int.ediv_nonneg (by omega) (by omega)
  have q1 : (4294967296 - a) / b < 4294967296 := by have := Int.ediv_le_self b (show 0 ≤ (4294967296 - a) by omega); omega
  have r0 : 0 ≤ (4294967296 - a) % b := Int.emod_nonneg _ (by omega)
  have r1 : (4294967296 - a) % b < 4294967296 := by have := Int.emod_lt_of_pos (4294967296 - a) (show 0 < b by omega); omega
  have xq := xorM ((4294967296 - a) / b) q0 q1
  have xr := xorM ((4294967296 - a) % b) r0 r1
  go_enter Tryz.func120, Tryz.ntmps120
  go_wp2_with fail
  refine (sign_hi _ (by assumption) (by assumption) _).mono ?_
  rintro e w' ⟨rfl, rfl⟩
  go_wp2_with fail
  refine (sign_lo _ (by omega) (by assumption) _).mono ?_
  rintro e w' ⟨rfl, rfl⟩
  go_wp2
  go_quiet (fail)
  go_wp2
  go_ret2
  exact ⟨pairRet (by omega) (by omega), _, rfl⟩
theorem quotient_nn (a b : Int) (h0 : 2147483648 ≤ a) (h1 : a < 4294967296) (h2 : 2147483648 ≤ b) (h3 : b < 4294967296) (w : World) : Calls Tryz.prog 120 #[.int .u32 a, .int .u32 b] w (PairIs ((4294967296 - a) / (4294967296 - b)) ((-((4294967296 - a) % (4294967296 - b))) % 4294967296) w) := by
  have hb : (b == 0) = false := by simp; omega
  have hy : ((4294967296 - b) == 0) = false := by simp; omega
  have hy' : ¬ 4294967296 - b = 0 := by omega
  have xa := xorM a (by omega) (by omega)
  have xb := xorM b (by omega) (by omega)
  have ea : (4294967295 - a - 4294967295) % 4294967296 = 4294967296 - a := by omega
  have eb : (4294967295 - b - 4294967295) % 4294967296 = 4294967296 - b := by omega
  have x1 := xMM; have x2 := xM0; have x3 := x0M; have x4 := x00
  have q0 : 0 ≤ (4294967296 - a) / (4294967296 - b) := Int.ediv_nonneg (by omega) (by omega)
  have q1 : (4294967296 - a) / (4294967296 - b) < 4294967296 := by have := Int.ediv_le_self (4294967296 - b) (show 0 ≤ (4294967296 - a) by omega); omega
  have r0 : 0 ≤ (4294967296 - a) % (4294967296 - b) := Int.emod_nonneg _ (by omega)
  have r1 : (4294967296 - a) % (4294967296 - b) < 4294967296 := by have := Int.emod_lt_of_pos (4294967296 - a) (show 0 < (4294967296 - b) by omega); omega
  have xq := xor0 ((4294967296 - a) / (4294967296 - b)) q0 q1
  have xr := xorM ((4294967296 - a) % (4294967296 - b)) r0 r1
  go_enter Tryz.func120, Tryz.ntmps120
  go_wp2_with fail
  refine (sign_hi _ (by assumption) (by assumption) _).mono ?_
  rintro e w' ⟨rfl, rfl⟩
  go_wp2_with fail
  refine (sign_hi _ (by assumption) (by assumption) _).mono ?_
  rintro e w' ⟨rfl, rfl⟩
  go_wp2
  go_quiet (fail)
  go_wp2
  go_ret2
  exact ⟨pairRet (by omega) (by omega), _, rfl⟩
end Go.Proofs.YtcpmgklhfpcaeaaGreatDoor.alu
