/- Part G: what operations compute: every operation of the program. -/
import Derived.Test.YtcpmgklhfpcaeaaGreatDoorAluF
namespace Go.Proofs.YtcpmgklhfpcaeaaGreatDoor.alu
open Go.RowKit
set_option linter.unusedVariables false
set_option maxRecDepth 100000

theorem quotient_any (a b : Int) (h0 : 0 ≤ a) (h1 : a < 4294967296) (h2 : 0 ≤ b) (h3 : b < 4294967296) (w : World) : Calls Tryz.prog 120 #[.int .u32 a, .int .u32 b] w (PairIs (quoF a b) (remF a b) w) := by
  by_cases hb : b = 0
  · subst hb
    have e1 : quoF a 0 = 4294967295 := rfl
    have e2 : remF a 0 = a := rfl
    rw [e1, e2]; exact quotient_zero a w
  · unfold quoF remF
    rw [if_neg hb, if_neg hb]
    have key : ∀ x y : Int, 0 ≤ x → 0 < y → (-x).tdiv y = -(x / y) ∧ x.tdiv (-y) = -(x / y) ∧ (-x).tdiv (-y) = x / y ∧ (-x).tmod y = -(x % y) ∧ x.tmod (-y) = x % y ∧ (-x).tmod (-y) = -(x % y) ∧ x.tdiv y = x / y ∧ x.tmod y = x % y := by
      intro x y hx hy
      simp [Int.neg_tdiv, Int.tdiv_neg, Int.neg_tmod, Int.tmod_neg, Int.tdiv_eq_ediv_of_nonneg hx, Int.tmod_eq_emod_of_nonneg hx]
    by_cases ha : a < 2147483648
    · by_cases hbb : b < 2147483648
      · obtain ⟨-, -, -, -, -, -, e1, e2⟩ := key a b h0 (by omega)
        have e3 : sg a = a := by unfold sg; rw [if_pos ha]
        have e4 : sg b = b := by unfold sg; rw [if_pos hbb]
        have q0 : 0 ≤ a / b := Int.ediv_nonneg h0 h2
        have q1 : a / b ≤ a := Int.ediv_le_self b h0
        have r0 : 0 ≤ a % b := Int.emod_nonneg _ hb
        have r1 : a % b < b := Int.emod_lt_of_pos a (by omega)
        rw [e3, e4, e1, e2, Int.emod_eq_of_lt q0 (by omega), Int.emod_eq_of_lt r0 (by omega)]
        exact quotient_pp a b h0 ha (by omega) hbb w
      · obtain ⟨-, e1, -, -, e2, -⟩ := key a (4294967296 - b) h0 (by omega)
        have e3 : sg a = a := by unfold sg; rw [if_pos ha]
        have e4 : sg b = -(4294967296 - b) := by unfold sg; rw [if_neg hbb]; omega
        have r0 : 0 ≤ a % (4294967296 - b) := Int.emod_nonneg _ (by omega)
        have r1 : a % (4294967296 - b) < (4294967296 - b) := Int.emod_lt_of_pos a (by omega)
        rw [e3, e4, e1, e2, Int.emod_eq_of_lt r0 (by omega)]
        exact quotient_pn a b h0 ha (by omega) h3 w
    · by_cases hbb : b < 2147483648
      · obtain ⟨e1, -, -, e2, -⟩ := key (4294967296 - a) b (by omega) (by omega)
        have e3 : sg a = -(4294967296 - a) := by unfold sg; rw [if_neg ha]; omega
        have e4 : sg b = b := by unfold sg; rw [if_pos hbb]
        rw [e3, e4, e1, e2]
        exact quotient_np a b (by omega) h1 (by omega) hbb w
      · obtain ⟨-, -, e1, -, -, e2, -⟩ := key (4294967296 - a) (4294967296 - b) (by omega) (by omega)
        have e3 : sg a = -(4294967296 - a) := by unfold sg; rw [if_neg ha]; omega
        have e4 : sg b = -(4294967296 - b) := by unfold sg; rw [if_neg hbb]; omega
        have q0 : 0 ≤ (4294967296 - a) / (4294967296 - b) := Int.ediv_nonneg (by omega) (by omega)
        have q1 : (4294967296 - a) / (4294967296 - b) ≤ (4294967296 - a) := Int.ediv_le_self _ (by omega)
        rw [e3, e4, e1, e2, Int.emod_eq_of_lt q0 (by omega)]
        exact quotient_nn a b (by omega) h1 (by omega) h3 w

def sltF (a b : Int) : Int := if sg a < sg b then 1 else 0
def sltuF (a b : Int) : Int := if a < b then 1 else 0
def divuF (a b : Int) : Int := if b = 0 then 4294967295 else a / b
def remuF (a b : Int) : Int := if b = 0 then a else a % b
/-- what becomes of a function of the table -/
def IsU (x : Int) (w : World) (e : Ending) (w' : World) : Prop := e = .returned (.int .u32 x) ∧ Grown w w'
theorem isU_of {x y : Int} {w w' : World} (h : x = y) (hg : Grown w w') : IsU y w (.returned (.int .u32 x)) w' := ⟨by rw [h], hg⟩
theorem fn24 (a b : Int) (h0 : 0 ≤ a) (h1 : a < 4294967296) (h2 : 0 ≤ b) (h3 : b < 4294967296) (w : World) : Calls Tryz.prog 102 #[.int .u32 a, .int .u32 b] w (IsU (b * 4096 % 4294967296) w) := by
  go_enter Tryz.func102, Tryz.ntmps102
  go_wp2
  all_goals
    go_ret
    refine isU_of ?_ (by repeat (first | exact Grown.refl _ | apply Grown.drew | apply Grown.alloc))
    go_tidy
    first | rfl | omega
theorem fn25 (a b : Int) (h0 : 0 ≤ a) (h1 : a < 4294967296) (h2 : 0 ≤ b) (h3 : b < 4294967296) (w : World) : Calls Tryz.prog 103 #[.int .u32 a, .int .u32 b] w (IsU ((a + b * 4096) % 4294967296) w) := by
  go_enter Tryz.func103, Tryz.ntmps103
  go_wp2
  all_goals
    go_ret
    refine isU_of ?_ (by repeat (first | exact Grown.refl _ | apply Grown.drew | apply Grown.alloc))
    go_tidy
    omega
theorem fn26 (a b : Int) (h0 : 0 ≤ a) (h1 : a < 4294967296) (h2 : 0 ≤ b) (h3 : b < 4294967296) (w : World) : Calls Tryz.prog 104 #[.int .u32 a, .int .u32 b] w (IsU ((a + b) % 4294967296) w) := by
  go_enter Tryz.func104, Tryz.ntmps104
  go_wp2
  all_goals
    go_ret
    refine isU_of ?_ (by repeat (first | exact Grown.refl _ | apply Grown.drew | apply Grown.alloc))
    go_tidy
    first | rfl | omega
theorem fn27 (a b : Int) (h0 : 0 ≤ a) (h1 : a < 4294967296) (h2 : 0 ≤ b) (h3 : b < 4294967296) (w : World) : Calls Tryz.prog 105 #[.int .u32 a, .int .u32 b] w (IsU (sltF a b) w) := by
  go_enter Tryz.func105, Tryz.ntmps105
  go_wp2
  all_goals
    go_ret
    refine isU_of ?_ (by repeat (first | exact Grown.refl _ | apply Grown.drew | apply Grown.alloc))
    go_tidy
    unfold wrap32 at *
    unfold sltF sg
    (repeat' split) <;> omega
theorem fn28 (a b : Int) (h0 : 0 ≤ a) (h1 : a < 4294967296) (h2 : 0 ≤ b) (h3 : b < 4294967296) (w : World) : Calls Tryz.prog 106 #[.int .u32 a, .int .u32 b] w (IsU (sltuF a b) w) := by
  go_enter Tryz.func106, Tryz.ntmps106
  go_wp2
  all_goals
    go_ret
    refine isU_of ?_ (by repeat (first | exact Grown.refl _ | apply Grown.drew | apply Grown.alloc))
    go_tidy
    unfold sltuF
    split <;> omega
theorem fn29 (a b : Int) (h0 : 0 ≤ a) (h1 : a < 4294967296) (h2 : 0 ≤ b) (h3 : b < 4294967296) (w : World) : Calls Tryz.prog 107 #[.int .u32 a, .int .u32 b] w (IsU (bits .xor .u32 a b) w) := by
  go_enter Tryz.func107, Tryz.ntmps107
  go_wp2
  all_goals
    go_ret
    refine isU_of ?_ (by repeat (first | exact Grown.refl _ | apply Grown.drew | apply Grown.alloc))
    go_tidy
    first | rfl | omega
theorem fn30 (a b : Int) (h0 : 0 ≤ a) (h1 : a < 4294967296) (h2 : 0 ≤ b) (h3 : b < 4294967296) (w : World) : Calls Tryz.prog 108 #[.int .u32 a, .int .u32 b] w (IsU (bits .or .u32 a b) w) := by
  go_enter Tryz.func108, Tryz.ntmps108
  go_wp2
  all_goals
    go_ret
    refine isU_of ?_ (by repeat (first | exact Grown.refl _ | apply Grown.drew | apply Grown.alloc))
    go_tidy
    first | rfl | omega
theorem fn31 (a b : Int) (h0 : 0 ≤ a) (h1 : a < 4294967296) (h2 : 0 ≤ b) (h3 : b < 4294967296) (w : World) : Calls Tryz.prog 109 #[.int .u32 a, .int .u32 b] w (IsU (bits .and .u32 a b) w) := by
  go_enter Tryz.func109, Tryz.ntmps109
  go_wp2
  all_goals
    go_ret
    refine isU_of ?_ (by repeat (first | exact Grown.refl _ | apply Grown.drew | apply Grown.alloc))
    go_tidy
    first | rfl | omega
theorem fn32 (a b : Int) (h0 : 0 ≤ a) (h1 : a < 4294967296) (h2 : 0 ≤ b) (h3 : b < 4294967296) (w : World) : Calls Tryz.prog 110 #[.int .u32 a, .int .u32 b] w (IsU (a * 2 ^ (b % 32).toNat % 4294967296) w) := by
  have hb := and31 b h2 h3
  have hb0 : 0 ≤ b % 32 := by omega
  have hb1 : b % 32 < 32 := by omega
  go_enter Tryz.func110, Tryz.ntmps110
  go_wp2
  all_goals
    go_ret
    refine isU_of ?_ (by repeat (first | exact Grown.refl _ | apply Grown.drew | apply Grown.alloc))
    go_tidy
    first | rfl | omega
theorem fn33 (a b : Int) (h0 : 0 ≤ a) (h1 : a < 4294967296) (h2 : 0 ≤ b) (h3 : b < 4294967296) (w : World) : Calls Tryz.prog 111 #[.int .u32 a, .int .u32 b] w (IsU (a / 2 ^ (b % 32).toNat) w) := by
  have hb := and31 b h2 h3
  have hb0 : 0 ≤ b % 32 := by omega
  have hb1 : b % 32 < 32 := by omega
  go_enter Tryz.func111, Tryz.ntmps111
  go_wp2
  all_goals
    go_ret
    refine isU_of ?_ (by repeat (first | exact Grown.refl _ | apply Grown.drew | apply Grown.alloc))
    go_tidy
    first | rfl | omega
theorem fn34 (a b : Int) (h0 : 0 ≤ a) (h1 : a < 4294967296) (h2 : 0 ≤ b) (h3 : b < 4294967296) (w : World) : Calls Tryz.prog 112 #[.int .u32 a, .int .u32 b] w (IsU (wrap32 a / 2 ^ (b % 32).toNat % 4294967296) w) := by
  have hb := and31 b h2 h3
  have hb0 : 0 ≤ b % 32 := by omega
  have hb1 : b % 32 < 32 := by omega
  go_enter Tryz.func112, Tryz.ntmps112
  go_wp2
  all_goals
    go_ret
    refine isU_of ?_ (by repeat (first | exact Grown.refl _ | apply Grown.drew | apply Grown.alloc))
    go_tidy
    first | rfl | omega
theorem fn35 (a b : Int) (h0 : 0 ≤ a) (h1 : a < 4294967296) (h2 : 0 ≤ b) (h3 : b < 4294967296) (w : World) : Calls Tryz.prog 113 #[.int .u32 a, .int .u32 b] w (IsU ((a - b) % 4294967296) w) := by
  go_enter Tryz.func113, Tryz.ntmps113
  go_wp2
  all_goals
    go_ret
    refine isU_of ?_ (by repeat (first | exact Grown.refl _ | apply Grown.drew | apply Grown.alloc))
    go_tidy
    first | rfl | omega
theorem fn36 (a b : Int) (h0 : 0 ≤ a) (h1 : a < 4294967296) (h2 : 0 ≤ b) (h3 : b < 4294967296) (w : World) : Calls Tryz.prog 114 #[.int .u32 a, .int .u32 b] w (IsU (a * b % 4294967296) w) := by
  go_enter Tryz.func114, Tryz.ntmps114
  go_wp2
  all_goals
    go_ret
    refine isU_of ?_ (by repeat (first | exact Grown.refl _ | apply Grown.drew | apply Grown.alloc))
    go_tidy
    first | rfl | omega
theorem fn38 (a b : Int) (h0 : 0 ≤ a) (h1 : a < 4294967296) (h2 : 0 ≤ b) (h3 : b < 4294967296) (w : World) : Calls Tryz.prog 116 #[.int .u32 a, .int .u32 b] w (IsU (a * b / 4294967296) w) := by
  have p0 : 0 ≤ a * b := Int.mul_nonneg h0 h2
  have p1 : a * b ≤ 18446744065119617025 := Int.le_trans (Int.mul_le_mul (show a ≤ 4294967295 by omega) (show b ≤ 4294967295 by omega) h2 (by omega)) (by omega)
  have P := Lib.hid p1
  clear p1
  go_enter Tryz.func116, Tryz.ntmps116
  go_wp2
  all_goals
    go_ret
    refine isU_of ?_ (by repeat (first | exact Grown.refl _ | apply Grown.drew | apply Grown.alloc))
    go_tidy
    have p1 := P.out
    rw [IntKind.wrap_u64]
    omega
theorem fn43 (a b : Int) (h0 : 0 ≤ a) (h1 : a < 4294967296) (h2 : 0 ≤ b) (h3 : b < 4294967296) (w : World) : Calls Tryz.prog 121 #[.int .u32 a, .int .u32 b] w (IsU (divuF a b) w) := by
  by_cases hb : b = 0
  · have e : (4294967295 : Int) = divuF a b := by unfold divuF; rw [if_pos hb]
    have E := Lib.hid e
    clear e
    subst hb
    go_enter Tryz.func121, Tryz.ntmps121
    go_wp2
    go_ret
    exact isU_of E.out (Grown.refl w)
  · have e : a / b = divuF a b := by unfold divuF; rw [if_neg hb]
    have E := Lib.hid e
    clear e
    have hb' : (b == 0) = false := by simpa using hb
    go_enter Tryz.func121, Tryz.ntmps121
    go_wp2
    go_ret
    exact isU_of E.out (Grown.refl w)
theorem fn45 (a b : Int) (h0 : 0 ≤ a) (h1 : a < 4294967296) (h2 : 0 ≤ b) (h3 : b < 4294967296) (w : World) : Calls Tryz.prog 123 #[.int .u32 a, .int .u32 b] w (IsU (remuF a b) w) := by
  by_cases hb : b = 0
  · have e : a = remuF a b := by unfold remuF; rw [if_pos hb]
    have E := Lib.hid e
    clear e
    subst hb
    go_enter Tryz.func123, Tryz.ntmps123
    go_wp2
    go_ret
    exact isU_of E.out (Grown.refl w)
  · have e : a % b = remuF a b := by unfold remuF; rw [if_neg hb]
    have E := Lib.hid e
    clear e
    have hb' : (b == 0) = false := by simpa using hb
    go_enter Tryz.func123, Tryz.ntmps123
    go_wp2
    go_ret
    exact isU_of E.out (Grown.refl w)
theorem fn41 (a b : Int) (h0 : 0 ≤ a) (h1 : a < 4294967296) (h2 : 0 ≤ b) (h3 : b < 4294967296) (w : World) : Calls Tryz.prog 119 #[.int .u32 a, .int .u32 b] w (IsU (quoF a b) w) := by
  go_enter Tryz.func119, Tryz.ntmps119
  go_wp2_with (go_at_call 120; refine (quotient_any _ _ h0 h1 h2 h3 _).mono ?_; rintro e w' ⟨rfl, n, rfl⟩)
  go_ret
  exact isU_of rfl (grown_dr (Grown.refl w) _)
theorem fn44 (a b : Int) (h0 : 0 ≤ a) (h1 : a < 4294967296) (h2 : 0 ≤ b) (h3 : b < 4294967296) (w : World) : Calls Tryz.prog 122 #[.int .u32 a, .int .u32 b] w (IsU (remF a b) w) := by
  go_enter Tryz.func122, Tryz.ntmps122
  go_wp2_with (go_at_call 120; refine (quotient_any _ _ h0 h1 h2 h3 _).mono ?_; rintro e w' ⟨rfl, n, rfl⟩)
  go_ret
  exact isU_of rfl (grown_dr (Grown.refl w) _)

theorem mul_bd (a b : Int) (h0 : 0 ≤ a) (h1 : a < 4294967296) (h2 : 0 ≤ b) (h3 : b < 4294967296) : 0 ≤ a * b ∧ a * b ≤ 18446744065119617025 :=
  ⟨Int.mul_nonneg h0 h2, Int.le_trans (Int.mul_le_mul (show a ≤ 4294967295 by omega) (show b ≤ 4294967295 by omega) h2 (by omega)) (by omega)⟩
theorem sign_and (a b : Int) (h0 : 0 ≤ a) (h1 : a < 4294967296) (h2 : 0 ≤ b) (h3 : b < 4294967296) : bits .and .u32 (wrap32 a / 2147483648 % 4294967296) b = if a < 2147483648 then 0 else b := by
  split
  · rw [show wrap32 a / 2147483648 % 4294967296 = 0 by unfold wrap32; omega, and0 b h2 h3]
  · rw [show wrap32 a / 2147483648 % 4294967296 = 4294967295 by unfold wrap32; omega, andM b h2 h3]
/-- the upper half of a product of numbers with signs, with one sign -/
def mulhF (a b : Int) : Int := sg a * sg b / 4294967296 % 4294967296
def mulhsuF (a b : Int) : Int := sg a * b / 4294967296 % 4294967296
theorem mulhsu_eq (a b : Int) (h0 : 0 ≤ a) (h1 : a < 4294967296) (h2 : 0 ≤ b) (h3 : b < 4294967296) :
    (a * b / 4294967296 - (if a < 2147483648 then 0 else b)) % 4294967296 = mulhsuF a b := by
  unfold mulhsuF sg
  split
  · rw [Int.sub_zero]
  · rw [Int.sub_mul]; omega
theorem mulh_eq (a b : Int) (h0 : 0 ≤ a) (h1 : a < 4294967296) (h2 : 0 ≤ b) (h3 : b < 4294967296) :
    ((a * b / 4294967296 - (if a < 2147483648 then 0 else b)) % 4294967296 - (if b < 2147483648 then 0 else a)) % 4294967296 = mulhF a b := by
  unfold mulhF sg
  split <;> split
  · omega
  · rw [Int.mul_sub]; omega
  · rw [Int.sub_mul]; omega
  · rw [Int.sub_mul, Int.mul_sub, Int.mul_sub]; omega
theorem fn37 (a b : Int) (h0 : 0 ≤ a) (h1 : a < 4294967296) (h2 : 0 ≤ b) (h3 : b < 4294967296) (w : World) : Calls Tryz.prog 115 #[.int .u32 a, .int .u32 b] w (IsU (mulhF a b) w) := by
  go_enter Tryz.func115, Tryz.ntmps115
  go_wp2
  go_ret
  refine isU_of ?_ (by repeat (first | exact Grown.refl _ | apply Grown.drew | apply Grown.alloc))
  have p := mul_bd a b h0 h1 h2 h3
  rw [IntKind.wrap_u64, sign_and a b h0 h1 h2 h3, sign_and b a h2 h3 h0 h1, ← mulh_eq a b h0 h1 h2 h3, Int.emod_eq_of_lt p.1 (by omega)]
theorem fn40 (a b : Int) (h0 : 0 ≤ a) (h1 : a < 4294967296) (h2 : 0 ≤ b) (h3 : b < 4294967296) (w : World) : Calls Tryz.prog 118 #[.int .u32 a, .int .u32 b] w (IsU (mulhsuF a b) w) := by
  go_enter Tryz.func118, Tryz.ntmps118
  go_wp2
  go_ret
  refine isU_of ?_ (by repeat (first | exact Grown.refl _ | apply Grown.drew | apply Grown.alloc))
  have p := mul_bd a b h0 h1 h2 h3
  rw [IntKind.wrap_u64, sign_and a b h0 h1 h2 h3, ← mulhsu_eq a b h0 h1 h2 h3, Int.emod_eq_of_lt p.1 (by omega)]
  omega
end Go.Proofs.YtcpmgklhfpcaeaaGreatDoor.alu
