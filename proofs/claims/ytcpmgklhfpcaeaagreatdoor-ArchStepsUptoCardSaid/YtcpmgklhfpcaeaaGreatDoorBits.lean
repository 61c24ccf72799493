/- Numbers of so many bits as natural numbers: wrap, and, or, exclusive or, shifts. No condition. -/
import Derived.Test.YtcpmgklhfpcaeaaGreatDoorSxH
namespace Go.Bits
open Go.Sx
set_option linter.unusedVariables false

theorem n64 {x : Nat} (h : x < 9223372036854775808) : IntKind.wrap .i64 (x : Int) = x := w64 (by omega) (by omega)
theorem n32 {x : Nat} (h : x < 4294967296) : IntKind.wrap .u32 (x : Int) = x := w32 (by omega) (by omega)
theorem m32 (x : Nat) : IntKind.wrap .u32 (x : Int) = ((x % 4294967296 : Nat) : Int) := by rw [w32m]; omega
theorem m8 (x : Nat) : IntKind.wrap .u8 (x : Int) = ((x % 256 : Nat) : Int) := by rw [w8]; omega
theorem ofI (k x : Nat) (h : x < 2 ^ k) : (BitVec.ofInt k (x : Int)).toNat = x := by
  simp
  exact Nat.mod_eq_of_lt h
theorem land (k : Nat) {x y : Nat} (hx : x < 2 ^ k) (hy : y < 2 ^ k) : (BitVec.ofInt k (x : Int) &&& BitVec.ofInt k (y : Int)).toNat = x &&& y := by
  rw [BitVec.toNat_and, ofI k x hx, ofI k y hy]
theorem lor (k : Nat) {x y : Nat} (hx : x < 2 ^ k) (hy : y < 2 ^ k) : (BitVec.ofInt k (x : Int) ||| BitVec.ofInt k (y : Int)).toNat = x ||| y := by
  rw [BitVec.toNat_or, ofI k x hx, ofI k y hy]
theorem lxor (k : Nat) {x y : Nat} (hx : x < 2 ^ k) (hy : y < 2 ^ k) : (BitVec.ofInt k (x : Int) ^^^ BitVec.ofInt k (y : Int)).toNat = x ^^^ y := by
  rw [BitVec.toNat_xor, ofI k x hx, ofI k y hy]
theorem land64 {x y : Nat} (hx : x < 9223372036854775808) (hy : y < 9223372036854775808) : IntKind.wrap .i64 ((BitVec.ofInt (IntKind.bits .i64) (x : Int) &&& BitVec.ofInt (IntKind.bits .i64) (y : Int)).toNat : Int) = ((x &&& y : Nat) : Int) := by
  rw [land _ (by show x < 2 ^ 64; omega) (by show y < 2 ^ 64; omega)]
  exact n64 (Nat.lt_of_le_of_lt Nat.and_le_left hx)
theorem lor64 {x y : Nat} (hx : x < 9223372036854775808) (hy : y < 9223372036854775808) : IntKind.wrap .i64 ((BitVec.ofInt (IntKind.bits .i64) (x : Int) ||| BitVec.ofInt (IntKind.bits .i64) (y : Int)).toNat : Int) = ((x ||| y : Nat) : Int) := by
  rw [lor _ (by show x < 2 ^ 64; omega) (by show y < 2 ^ 64; omega)]
  exact n64 (Nat.or_lt_two_pow (n := 63) hx hy)
theorem lxor64 {x y : Nat} (hx : x < 9223372036854775808) (hy : y < 9223372036854775808) : IntKind.wrap .i64 ((BitVec.ofInt (IntKind.bits .i64) (x : Int) ^^^ BitVec.ofInt (IntKind.bits .i64) (y : Int)).toNat : Int) = ((x ^^^ y : Nat) : Int) := by
  rw [lxor _ (by show x < 2 ^ 64; omega) (by show y < 2 ^ 64; omega)]
  exact n64 (Nat.xor_lt_two_pow (n := 63) hx hy)
theorem land32 {x y : Nat} (hx : x < 4294967296) (hy : y < 4294967296) : IntKind.wrap .u32 ((BitVec.ofInt (IntKind.bits .u32) (x : Int) &&& BitVec.ofInt (IntKind.bits .u32) (y : Int)).toNat : Int) = ((x &&& y : Nat) : Int) := by
  rw [land _ (show x < 2 ^ IntKind.bits .u32 from hx) (show y < 2 ^ IntKind.bits .u32 from hy)]
  exact n32 (Nat.lt_of_le_of_lt Nat.and_le_left hx)
theorem lor32 {x y : Nat} (hx : x < 4294967296) (hy : y < 4294967296) : IntKind.wrap .u32 ((BitVec.ofInt (IntKind.bits .u32) (x : Int) ||| BitVec.ofInt (IntKind.bits .u32) (y : Int)).toNat : Int) = ((x ||| y : Nat) : Int) := by
  rw [lor _ (show x < 2 ^ IntKind.bits .u32 from hx) (show y < 2 ^ IntKind.bits .u32 from hy)]
  exact n32 (Nat.or_lt_two_pow (n := 32) hx hy)
theorem lxor32 {x y : Nat} (hx : x < 4294967296) (hy : y < 4294967296) : IntKind.wrap .u32 ((BitVec.ofInt (IntKind.bits .u32) (x : Int) ^^^ BitVec.ofInt (IntKind.bits .u32) (y : Int)).toNat : Int) = ((x ^^^ y : Nat) : Int) := by
  rw [lxor _ (show x < 2 ^ IntKind.bits .u32 from hx) (show y < 2 ^ IntKind.bits .u32 from hy)]
  exact n32 (Nat.xor_lt_two_pow (n := 32) hx hy)
theorem andNot32 {x y : Nat} (hx : x < 4294967296) (hy : y < 4294967296) : IntKind.wrap .u32 ((BitVec.ofInt (IntKind.bits .u32) (x : Int) &&& ~~~ BitVec.ofInt (IntKind.bits .u32) (y : Int)).toNat : Int) = ((x &&& (4294967295 - y) : Nat) : Int) := by
  rw [BitVec.toNat_and, BitVec.toNat_not, ofI _ x (show x < 2 ^ IntKind.bits .u32 from hx), ofI _ y (show y < 2 ^ IntKind.bits .u32 from hy)]
  exact n32 (Nat.lt_of_le_of_lt Nat.and_le_left hx)
theorem mask (x b : Nat) : x &&& (2 ^ b - 1) = x % 2 ^ b := Nat.and_two_pow_sub_one_eq_mod x b
theorem sub_pow (b : Nat) : ((2 ^ b : Nat) : Int) - 1 = ((2 ^ b - 1 : Nat) : Int) := by
  have : 1 ≤ 2 ^ b := Nat.one_le_two_pow
  omega
/-- x & (n - 1), where n is a power of two -/
theorem mask64 {x b : Nat} (hx : x < 9223372036854775808) (hb : b ≤ 62) : IntKind.wrap .i64 ((BitVec.ofInt (IntKind.bits .i64) (x : Int) &&& BitVec.ofInt (IntKind.bits .i64) (((2 ^ b : Nat) : Int) - 1)).toNat : Int) = ((x % 2 ^ b : Nat) : Int) := by
  have : 2 ^ b ≤ 2 ^ 62 := Nat.pow_le_pow_right (by decide) hb
  rw [sub_pow, land64 hx (by omega), mask]
theorem shr (x n : Nat) : Int.fdiv (x : Int) (2 ^ n) = ((x / 2 ^ n : Nat) : Int) := by
  rw [Int.fdiv_eq_ediv_of_nonneg _ (Int.pow_nonneg (by decide))]
  simp
theorem one_shl {b : Nat} (hb : b ≤ 62) : IntKind.wrap .i64 (1 * 2 ^ min ((b : Int).toNat) (IntKind.bits .i64)) = ((2 ^ b : Nat) : Int) := by
  have h1 : 2 ^ b ≤ 2 ^ 62 := Nat.pow_le_pow_right (by decide) hb
  rw [Int.toNat_natCast, Nat.min_eq_left (by show b ≤ 64; omega), Int.one_mul]
  rw [show (2 : Int) ^ b = ((2 ^ b : Nat) : Int) by simp]
  exact n64 (by omega)
theorem tmod (a b : Nat) : Int.tmod (a : Int) (b : Int) = ((a % b : Nat) : Int) := rfl
theorem tdiv (a b : Nat) : Int.tdiv (a : Int) (b : Int) = ((a / b : Nat) : Int) := rfl
end Go.Bits
