/- Part E: parts of a word. -/
import Derived.Test.YtcpmgklhfpcaeaaGreatDoorIsaD
import Derived.Laws.BitsAllLaws
import Derived.Deep.QuietTactic
import Derived.BigQuiet
namespace Go.Proofs.YtcpmgklhfpcaeaaGreatDoor
open Go.RowKit
set_option linter.unusedVariables false
set_option maxRecDepth 100000

theorem wraps_i64 (n : Int) (h₀ : 0 ≤ n) (h₁ : n < 2 ^ 63) : IntKind.i64.wrap n = n := by rw [IntKind.wrap_i64]; omega
theorem wraps_u32 (n : Int) (h₀ : 0 ≤ n) (h₁ : n < 2 ^ 32) : IntKind.u32.wrap n = n := by rw [IntKind.wrap_u32]; omega
theorem wrap64_in (n : Int) (h0 : -9223372036854775808 ≤ n) (h1 : n ≤ 9223372036854775807) : wrap64 n = n := by unfold wrap64; omega
def Drawn (w w' : World) : Prop := ∃ n, w' = w.drewN n
theorem Drawn.refl (w : World) : Drawn w w := ⟨0, rfl⟩
/-- numbers that share no bit are joined by a sum, whatever the first's sign -/
theorem or_join (x y m : Int) (i : Nat) (hm : m = ((2 ^ i : Nat) : Int)) (hi : i ≤ 63) (x0 : -9223372036854775808 ≤ x) (x1 : x < 4611686018427387904) (hx : x % m = 0) (y0 : 0 ≤ y) (y1 : y < m) (hm2 : m ≤ 4611686018427387904) :
    bits .or .i64 x y = x + y := by
  obtain ⟨b, rfl⟩ := Int.eq_ofNat_of_zero_le y0
  obtain ⟨a, ha⟩ : ∃ a : Nat, x % 18446744073709551616 = a := ⟨(x % 18446744073709551616).toNat, by omega⟩
  have hb : b < 2 ^ i := by subst hm; exact_mod_cast y1
  have ham : a % 2 ^ i = 0 := by
    have h5 : ((a : Int)) % m = 0 := by
      rw [← ha]
      have hd : m ∣ 18446744073709551616 := by
        rw [hm]
        exact ⟨((2 ^ (64 - i) : Nat) : Int), by rw [← Int.natCast_mul, ← Nat.pow_add, show i + (64 - i) = 64 by omega]; rfl⟩
      rw [Int.emod_emod_of_dvd _ hd]; exact hx
    rw [hm] at h5
    exact_mod_cast h5
  have e1 : (BitVec.ofInt 64 x).toNat = a := by
    rw [BitVec.toNat_ofInt]
    show (x % 18446744073709551616).toNat = a
    omega
  have e2 : (BitVec.ofInt 64 (b : Int)).toNat = b := by
    rw [BitVec.ofInt_natCast, BitVec.toNat_ofNat]
    exact Nat.mod_eq_of_lt (by omega)
  show IntKind.i64.wrap (((BitVec.ofInt 64 x ||| BitVec.ofInt 64 (b : Int)).toNat : Nat) : Int) = x + b
  have hq : a = 2 ^ i * (a / 2 ^ i) := by
    have := Nat.div_add_mod a (2 ^ i)
    omega
  rw [BitVec.toNat_or, e1, e2, hq, ← Nat.two_pow_add_eq_or_of_lt hb (a / 2 ^ i), ← hq, IntKind.wrap_i64]
  omega

def partF (x : Int) (s n : Nat) : Int := x / 2 ^ s % 2 ^ n
theorem pow_le (n : Nat) (hn : n ≤ 20) : (1 : Int) ≤ 2 ^ n ∧ (2 : Int) ^ n ≤ 1048576 := by
  have h1 : 1 ≤ 2 ^ n := Nat.one_le_two_pow
  have h2 : 2 ^ n ≤ 1048576 := Nat.le_trans (Nat.pow_le_pow_right (by decide) hn) (by decide)
  have e : ((2 ^ n : Nat) : Int) = (2 : Int) ^ n := Int.natCast_pow 2 n
  rw [← e]
  exact ⟨Int.ofNat_le.2 h1, Int.ofNat_le.2 h2⟩
theorem part_bd (x : Int) (s n : Nat) (hn : n ≤ 20) : 0 ≤ partF x s n ∧ partF x s n < 2 ^ n := by
  have h := pow_le n hn
  unfold partF
  exact ⟨Int.emod_nonneg _ (by omega), Int.emod_lt_of_pos _ (by omega)⟩
theorem div_bd (x : Int) (hx0 : 0 ≤ x) (hx1 : x < 4294967296) (s : Nat) : 0 ≤ x / 2 ^ s ∧ x / 2 ^ s < 4294967296 := by
  have h1 : (0 : Int) < 2 ^ s := Int.pow_pos (by decide)
  exact ⟨Int.ediv_nonneg hx0 (by omega), Int.lt_of_le_of_lt (Int.ediv_le_self _ hx0) hx1⟩
theorem part_mask (x : Int) (hx0 : 0 ≤ x) (hx1 : x < 4294967296) (s n : Nat) (hn : n ≤ 20) : wrap64 (bits .and .u32 (x / 2 ^ s) ((2 ^ n - 1) % 4294967296)) = partF x s n := by
  have h := pow_le n hn
  have hd := div_bd x hx0 hx1 s
  have hb := part_bd x s n hn
  rw [show ((2 : Int) ^ n - 1) % 4294967296 = 2 ^ n - 1 by omega, bits_mask .u32 32 (by decide) wraps_u32 n (by omega) _ hd.1 (by omega)]
  exact wrap64_in _ (by unfold partF at hb; omega) (by unfold partF at hb; omega)
theorem bits_mask' (x : Int) (hx0 : 0 ≤ x) (hx1 : x < 4294967296) (s n : Nat) (hn : n ≤ 20) : bits .and .i64 (wrap64 (x / 2 ^ s)) (wrap64 (wrap64 (2 ^ n) - 1)) = partF x s n := by
  have h := pow_le n hn
  have hd := div_bd x hx0 hx1 s
  rw [wrap64_in (2 ^ n) (by omega) (by omega), wrap64_in (2 ^ n - 1) (by omega) (by omega), wrap64_in (x / 2 ^ s) (by omega) (by omega), bits_mask .i64 63 (by decide) wraps_i64 n (by omega) _ hd.1 (by omega)]
  rfl
theorem part_any (x : Int) (hx0 : 0 ≤ x) (hx1 : x < 4294967296) (s n : Int) (hs0 : 0 ≤ s) (hs : s < 32) (hn0 : 1 ≤ n) (hn : n ≤ 20) (w : World) :
    Calls Tryz.prog 96 #[.int .u32 x, .int .i64 s, .int .i64 n] w fun e w' => e = .returned (.int .i64 (partF x s.toNat n.toNat)) ∧ Drawn w w' := by
  go_enter Tryz.func96, Tryz.ntmps96
  go_wp2
  go_quiet (fail)
  go_wp2
  go_ret
  exact ⟨congrArg (fun z => Ending.returned (Value.int .i64 z)) (part_mask x hx0 hx1 s.toNat n.toNat (by omega)), ⟨nq, rfl⟩⟩
theorem bits_any (x : Int) (hx0 : 0 ≤ x) (hx1 : x < 4294967296) (s n : Int) (hs0 : 0 ≤ s) (hs : s < 32) (hn0 : 1 ≤ n) (hn : n ≤ 20) (w : World) :
    Calls Tryz.prog 127 #[.int .u32 x, .int .i64 s, .int .i64 n] w fun e w' => e = .returned (.int .i64 (partF x s.toNat n.toNat)) ∧ Drawn w w' := by
  go_enter Tryz.func127, Tryz.ntmps127
  go_wp2
  go_quiet (fail)
  go_wp2
  go_ret
  exact ⟨congrArg (fun z => Ending.returned (Value.int .i64 z)) (bits_mask' x hx0 hx1 s.toNat n.toNat (by omega)), ⟨nq, rfl⟩⟩
def sgn (x : Int) : Int := if x < 2147483648 then x else x - 4294967296
theorem wide_any (x : Int) (hx0 : 0 ≤ x) (hx1 : x < 4294967296) (s : Int) (hs0 : 0 ≤ s) (hs : s < 32) (w : World) :
    Calls Tryz.prog 97 #[.int .u32 x, .int .i64 s] w fun e w' => e = .returned (.int .i64 (sgn x / 2 ^ s.toNat)) ∧ Drawn w w' := by
  have e : wrap64 (wrap32 x / 2 ^ s.toNat) = sgn x / 2 ^ s.toNat := by
    have e1 : wrap32 x = sgn x := by unfold wrap32 sgn; split <;> omega
    have h1 : (0 : Int) < 2 ^ s.toNat := Int.pow_pos (by decide)
    have h2 : -2147483648 ≤ sgn x ∧ sgn x < 2147483648 := by unfold sgn; split <;> omega
    rw [e1]
    have h3 : -2147483648 ≤ sgn x / 2 ^ s.toNat := by
      rw [Int.le_ediv_iff_mul_le h1]
      have : (-2147483648 : Int) * 2 ^ s.toNat ≤ -2147483648 * 1 := Int.mul_le_mul_of_nonpos_left (by omega) (by omega)
      omega
    have h4 : sgn x / 2 ^ s.toNat < 2147483648 := by
      rw [Int.ediv_lt_iff_lt_mul h1]
      have : (2147483648 : Int) * 1 ≤ 2147483648 * 2 ^ s.toNat := Int.mul_le_mul_of_nonneg_left (by omega) (by omega)
      omega
    exact wrap64_in _ (by omega) (by omega)
  have HE := Lib.hid e
  clear e
  go_enter Tryz.func97, Tryz.ntmps97
  go_wp2
  go_ret
  exact ⟨congrArg (fun z => Ending.returned (Value.int .i64 z)) HE.out, Drawn.refl _⟩
def signF (x : Int) (s : Nat) : Int := if x / 2 ^ (s - 1) % 2 = 1 then x - 2 ^ s else x
theorem and1 (y : Int) (h0 : 0 ≤ y) (h1 : y < 4294967296) : bits .and .i64 y 1 = y % 2 := by
  have := bits_mask .i64 63 (by decide) wraps_i64 1 (by decide) y h0 (by omega)
  simpa using this
theorem pow_le31 (n : Nat) (hn : n ≤ 31) : (1 : Int) ≤ 2 ^ n ∧ (2 : Int) ^ n ≤ 2147483648 := by
  have h1 : 1 ≤ 2 ^ n := Nat.one_le_two_pow
  have h2 : 2 ^ n ≤ 2147483648 := Nat.le_trans (Nat.pow_le_pow_right (by decide) hn) (by decide)
  have e : ((2 ^ n : Nat) : Int) = (2 : Int) ^ n := Int.natCast_pow 2 n
  rw [← e]
  exact ⟨Int.ofNat_le.2 h1, Int.ofNat_le.2 h2⟩
theorem signed_any (x : Int) (hx0 : 0 ≤ x) (hx1 : x < 4294967296) (s : Int) (hs0 : 1 ≤ s) (hs : s < 32) (w : World) :
    Calls Tryz.prog 128 #[.int .i64 x, .int .i64 s] w fun e w' => e = .returned (.int .i64 (signF x s.toNat)) ∧ Drawn w w' := by
  have hd := div_bd x hx0 hx1 (s.toNat - 1)
  have hp := pow_le31 s.toNat (by omega)
  have ha := and1 _ hd.1 hd.2
  have HW : Hid (wrap64 (x - wrap64 (2 ^ s.toNat)) = x - 2 ^ s.toNat) := Lib.hid (by rw [wrap64_in (2 ^ s.toNat) (by omega) (by omega), wrap64_in _ (by omega) (by omega)])
  by_cases ht : x / 2 ^ (s.toNat - 1) % 2 = 1
  · have hb : (bits .and .i64 (x / 2 ^ (s.toNat - 1)) 1 == 1) = true := by rw [ha, ht]; rfl
    have e : signF x s.toNat = x - 2 ^ s.toNat := by unfold signF; rw [if_pos ht]
    rw [e]
    clear e ht ha hd hp
    go_enter Tryz.func128, Tryz.ntmps128
    go_wp2
    go_ret
    exact ⟨congrArg (fun z => Ending.returned (Value.int .i64 z)) HW.out, Drawn.refl _⟩
  · have hb : (bits .and .i64 (x / 2 ^ (s.toNat - 1)) 1 == 1) = false := by rw [ha]; simpa using ht
    have e : signF x s.toNat = x := by unfold signF; rw [if_neg ht]
    rw [e]
    clear e ht ha hd hp
    go_enter Tryz.func128, Tryz.ntmps128
    go_wp2
    go_ret
    exact ⟨rfl, Drawn.refl _⟩
theorem rd_any (x : Int) (hx0 : 0 ≤ x) (hx1 : x < 4294967296) (w : World) : Calls Tryz.prog 95 #[.int .u32 x] w fun e w' => e = .returned (.int .i64 (partF x 7 5)) ∧ Drawn w w' := by
  go_enter Tryz.func95, Tryz.ntmps95
  go_wp2_with (go_at_call 96; refine (part_any x hx0 hx1 7 5 (by decide) (by decide) (by decide) (by decide) _).mono ?_; rintro e w' ⟨rfl, hw⟩)
  go_ret
  exact ⟨rfl, hw⟩
theorem rs1_any (x : Int) (hx0 : 0 ≤ x) (hx1 : x < 4294967296) (w : World) : Calls Tryz.prog 98 #[.int .u32 x] w fun e w' => e = .returned (.int .i64 (partF x 15 5)) ∧ Drawn w w' := by
  go_enter Tryz.func98, Tryz.ntmps98
  go_wp2_with (go_at_call 96; refine (part_any x hx0 hx1 15 5 (by decide) (by decide) (by decide) (by decide) _).mono ?_; rintro e w' ⟨rfl, hw⟩)
  go_ret
  exact ⟨rfl, hw⟩
theorem rs2_any (x : Int) (hx0 : 0 ≤ x) (hx1 : x < 4294967296) (w : World) : Calls Tryz.prog 99 #[.int .u32 x] w fun e w' => e = .returned (.int .i64 (partF x 20 5)) ∧ Drawn w w' := by
  go_enter Tryz.func99, Tryz.ntmps99
  go_wp2_with (go_at_call 96; refine (part_any x hx0 hx1 20 5 (by decide) (by decide) (by decide) (by decide) _).mono ?_; rintro e w' ⟨rfl, hw⟩)
  go_ret
  exact ⟨rfl, hw⟩
end Go.Proofs.YtcpmgklhfpcaeaaGreatDoor
