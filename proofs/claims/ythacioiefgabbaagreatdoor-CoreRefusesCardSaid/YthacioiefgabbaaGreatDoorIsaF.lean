import Derived.Test.YthacioiefgabbaaGreatDoorIsaD
import Derived.Laws.BitsAllLaws
import Derived.Deep.QuietTactic
import Derived.BigQuiet
import Derived.Test.YthacioiefgabbaaGreatDoorXHeap
/- Part E: parts of a word. -/
namespace Go.Proofs.YthacioiefgabbaaGreatDoor
open Go.RowKit
set_option linter.unusedVariables false
set_option maxRecDepth 100000

theorem wraps_u32 (n : Int) (h₀ : 0 ≤ n) (h₁ : n < 2 ^ 32) : IntKind.u32.wrap n = n := by rw [IntKind.wrap_u32]; omega
theorem wrap64_in (n : Int) (h0 : -9223372036854775808 ≤ n) (h1 : n ≤ 9223372036854775807) : wrap64 n = n := by unfold wrap64; omega
def Drawn (w w' : World) : Prop := ∃ n, w' = w.drewN n
theorem Drawn.refl (w : World) : Drawn w w := ⟨0, rfl⟩
/-- numbers that share no bit are joined by a sum, whatever the first's sign -/
theorem or_join (x y m : Int) (i : Nat) (hm : m = ((2 ^ i : Nat) : Int)) (hi : i ≤ 63) (x0 : -9223372036854775808 ≤ x) (x1 : x < 4611686018427387904) (hx : x % m = 0) (y0 : 0 ≤ y) (y1 : y < m) (hm2 : m ≤ 4611686018427387904) :
    bits .or .i64 x y = x + y := by
  obtain ⟨b, rfl⟩ := Int.eq_ofNat_of_zero_le y0
  obtain ⟨a, ha⟩ : ∃ a : Nat, x % 18446744073709551616 = a := ⟨(x % 18446744073709551616).toNat, by omega⟩
  have hb : b < 2 ^ i := by subst hm; exact_mod_cast y1
  have ham : a % 2 ^ i = 0 := by
    have h5 : ((a : Int)) % m = 0 := by
      rw [← ha]
      have hd : m ∣ 18446744073709551616 := by
        rw [hm]
        exact ⟨((2 ^ (64 - i) : Nat) : Int), by rw [← Int.natCast_mul, ← Nat.pow_add, show i + (64 - i) = 64 by omega]; rfl⟩
      rw [Int.emod_emod_of_dvd _ hd]; exact hx
    rw [hm] at h5
    exact_mod_cast h5
  have e1 : (BitVec.ofInt 64 x).toNat = a := by
    rw [BitVec.toNat_ofInt]
    show (x % 18446744073709551616).toNat = a
    omega
  have e2 : (BitVec.ofInt 64 (b : Int)).toNat = b := by
    rw [BitVec.ofInt_natCast, BitVec.toNat_ofNat]
    exact Nat.mod_eq_of_lt (by omega)
  show IntKind.i64.wrap (((BitVec.ofInt 64 x ||| BitVec.ofInt 64 (b : Int)).toNat : Nat) : Int) = x + b
  have hq : a = 2 ^ i * (a / 2 ^ i) := by
    have := Nat.div_add_mod a (2 ^ i)
    omega
  rw [BitVec.toNat_or, e1, e2, hq, ← Nat.two_pow_add_eq_or_of_lt hb (a / 2 ^ i), ← hq, IntKind.wrap_i64]
  omega

def partF (x : Int) (s n : Nat) : Int := x / 2 ^ s % 2 ^ n
theorem pow_le (n : Nat) (hn : n ≤ 20) : (1 : Int) ≤ 2 ^ n ∧ (2 : Int) ^ n ≤ 1048576 := by
  have h1 : 1 ≤ 2 ^ n := Nat.one_le_two_pow
  have h2 : 2 ^ n ≤ 1048576 := Nat.le_trans (Nat.pow_le_pow_right (by decide) hn) (by decide)
  have e : ((2 ^ n : Nat) : Int) = (2 : Int) ^ n := Int.natCast_pow 2 n
  rw [← e]
  exact ⟨Int.ofNat_le.2 h1, Int.ofNat_le.2 h2⟩
theorem part_bd (x : Int) (s n : Nat) (hn : n ≤ 20) : 0 ≤ partF x s n ∧ partF x s n < 2 ^ n := by
  have h := pow_le n hn
  unfold partF
  exact ⟨Int.emod_nonneg _ (by omega), Int.emod_lt_of_pos _ (by omega)⟩
theorem div_bd (x : Int) (hx0 : 0 ≤ x) (hx1 : x < 4294967296) (s : Nat) : 0 ≤ x / 2 ^ s ∧ x / 2 ^ s < 4294967296 := by
  have h1 : (0 : Int) < 2 ^ s := Int.pow_pos (by decide)
  exact ⟨Int.ediv_nonneg hx0 (by omega), Int.lt_of_le_of_lt (Int.ediv_le_self _ hx0) hx1⟩
theorem part_mask (x : Int) (hx0 : 0 ≤ x) (hx1 : x < 4294967296) (s n : Nat) (hn : n ≤ 20) : wrap64 (bits .and .u32 (x / 2 ^ s) ((2 ^ n - 1) % 4294967296)) = partF x s n := by
  have h := pow_le n hn
  have hd := div_bd x hx0 hx1 s
  have hb := part_bd x s n hn
  rw [show ((2 : Int) ^ n - 1) % 4294967296 = 2 ^ n - 1 by omega, bits_mask .u32 32 (by decide) wraps_u32 n (by omega) _ hd.1 (by omega)]
  exact wrap64_in _ (by unfold partF at hb; omega) (by unfold partF at hb; omega)
theorem part_any (x : Int) (hx0 : 0 ≤ x) (hx1 : x < 4294967296) (s n : Int) (hs0 : 0 ≤ s) (hs : s < 32) (hn0 : 1 ≤ n) (hn : n ≤ 20) (w : World) :
    Calls Tryz.prog 277 #[.int .u32 x, .int .i64 s, .int .i64 n] w fun e w' => e = .returned (.int .i64 (partF x s.toNat n.toNat)) ∧ Drawn w w' := by
  go_enter Tryz.func277, Tryz.ntmps277
  go_wp2
  go_quiet (fail)
  go_wp2
  go_ret
  exact ⟨congrArg (fun z => Ending.returned (Value.int .i64 z)) (part_mask x hx0 hx1 s.toNat n.toNat (by omega)), ⟨nq, rfl⟩⟩
def sgn (x : Int) : Int := if x < 2147483648 then x else x - 4294967296
theorem wide_any (x : Int) (hx0 : 0 ≤ x) (hx1 : x < 4294967296) (s : Int) (hs0 : 0 ≤ s) (hs : s < 32) (w : World) :
    Calls Tryz.prog 278 #[.int .u32 x, .int .i64 s] w fun e w' => e = .returned (.int .i64 (sgn x / 2 ^ s.toNat)) ∧ Drawn w w' := by
  have e : wrap64 (wrap32 x / 2 ^ s.toNat) = sgn x / 2 ^ s.toNat := by
    have e1 : wrap32 x = sgn x := by unfold wrap32 sgn; split <;> omega
    have h1 : (0 : Int) < 2 ^ s.toNat := Int.pow_pos (by decide)
    have h2 : -2147483648 ≤ sgn x ∧ sgn x < 2147483648 := by unfold sgn; split <;> omega
    rw [e1]
    have h3 : -2147483648 ≤ sgn x / 2 ^ s.toNat := by
      rw [Int.le_ediv_iff_mul_le h1]
      have : (-2147483648 : Int) * 2 ^ s.toNat ≤ -2147483648 * 1 := Int.mul_le_mul_of_nonpos_left (by omega) (by omega)
      omega
    have h4 : sgn x / 2 ^ s.toNat < 2147483648 := by
      rw [Int.ediv_lt_iff_lt_mul h1]
      have : (2147483648 : Int) * 1 ≤ 2147483648 * 2 ^ s.toNat := Int.mul_le_mul_of_nonneg_left (by omega) (by omega)
      omega
    exact wrap64_in _ (by omega) (by omega)
  have HE := Lib.hid e
  clear e
  go_enter Tryz.func278, Tryz.ntmps278
  go_wp2
  go_ret
  exact ⟨congrArg (fun z => Ending.returned (Value.int .i64 z)) HE.out, Drawn.refl _⟩
theorem rd_any (x : Int) (hx0 : 0 ≤ x) (hx1 : x < 4294967296) (w : World) : Calls Tryz.prog 276 #[.int .u32 x] w fun e w' => e = .returned (.int .i64 (partF x 7 5)) ∧ Drawn w w' := by
  go_enter Tryz.func276, Tryz.ntmps276
  go_wp2_with (go_at_call 277; refine (part_any x hx0 hx1 7 5 (by decide) (by decide) (by decide) (by decide) _).mono ?_; rintro e w' ⟨rfl, hw⟩)
  go_ret
  exact ⟨rfl, hw⟩
theorem rs1_any (x : Int) (hx0 : 0 ≤ x) (hx1 : x < 4294967296) (w : World) : Calls Tryz.prog 279 #[.int .u32 x] w fun e w' => e = .returned (.int .i64 (partF x 15 5)) ∧ Drawn w w' := by
  go_enter Tryz.func279, Tryz.ntmps279
  go_wp2_with (go_at_call 277; refine (part_any x hx0 hx1 15 5 (by decide) (by decide) (by decide) (by decide) _).mono ?_; rintro e w' ⟨rfl, hw⟩)
  go_ret
  exact ⟨rfl, hw⟩
theorem rs2_any (x : Int) (hx0 : 0 ≤ x) (hx1 : x < 4294967296) (w : World) : Calls Tryz.prog 280 #[.int .u32 x] w fun e w' => e = .returned (.int .i64 (partF x 20 5)) ∧ Drawn w w' := by
  go_enter Tryz.func280, Tryz.ntmps280
  go_wp2_with (go_at_call 277; refine (part_any x hx0 hx1 20 5 (by decide) (by decide) (by decide) (by decide) _).mono ?_; rintro e w' ⟨rfl, hw⟩)
  go_ret
  exact ⟨rfl, hw⟩
end Go.Proofs.YthacioiefgabbaaGreatDoor
/- Part F: what is read of a word, format by format. -/
namespace Go.Proofs.YthacioiefgabbaaGreatDoor
open Go.RowKit Go.XHeap
set_option linter.unusedVariables false
set_option maxRecDepth 100000

def ins (op rd rs1 rs2 imm : Int) : Value := .agg #[.int .i64 op, .int .i64 rd, .int .i64 rs1, .int .i64 rs2, .int .i64 imm]
def ReadIs (rd rs1 rs2 imm : Int) (w : World) (e : Ending) (w' : World) : Prop := e = .returned (ins 0 rd rs1 rs2 imm) ∧ Grown w w'
def jumpImm (x : Int) : Int := sgn x / 2147483648 * 1048576 + partF x 12 8 * 4096 + partF x 20 1 * 2048 + partF x 21 10 * 2
def branchImm (x : Int) : Int := sgn x / 2147483648 * 4096 + partF x 7 1 * 2048 + partF x 25 6 * 32 + partF x 8 4 * 2
def storeImm (x : Int) : Int := sgn x / 33554432 * 32 + partF x 7 5
theorem post5 {Q : Ending → World → Prop} {a : Act} {W : World} {g : Nat} {cs : Array Value} {v0 v1 v2 v3 v4 : Value} (hd : a.defers = []) (ht : a.tmps[4]?.getD undef = .pointer (some ⟨g, 0, none⟩)) (hB : Blk W g cs 238)
    (hcs : cs = #[v0, v1, v2, v3, v4]) (hQ : Q (.returned (.agg #[v0, v1, v2, v3, v4])) W) : bodyPost Tryz.prog Tryz.f271 Q .ret a W := by
  subst hcs
  have k0 : W.cell? ⟨g, 0, none⟩ = some v0 := hB.cell' (i := 0) rfl
  have k1 : W.cell? ⟨g, 1, none⟩ = some v1 := hB.cell' (i := 1) rfl
  have k2 : W.cell? ⟨g, 2, none⟩ = some v2 := hB.cell' (i := 2) rfl
  have k3 : W.cell? ⟨g, 3, none⟩ = some v3 := hB.cell' (i := 3) rfl
  have k4 : W.cell? ⟨g, 4, none⟩ = some v4 := hB.cell' (i := 4) rfl
  clear hB
  exact bodyPost_ret (v := .agg #[v0, v1, v2, v3, v4]) (by simp [results, Tryz.results271, go_sem, ht, k0, k1, k2, k3, k4]) hd hQ
theorem sgn_bd (x : Int) (hx0 : 0 ≤ x) (hx1 : x < 4294967296) : -2147483648 ≤ sgn x ∧ sgn x < 2147483648 := by unfold sgn; split <;> omega
theorem jump_raw (x : Int) (hx0 : 0 ≤ x) (hx1 : x < 4294967296) : bits .or .i64 (bits .or .i64 (bits .or .i64 (wrap64 (sgn x / 2147483648 * 1048576)) (wrap64 (partF x 12 8 * 4096))) (wrap64 (partF x 20 1 * 2048))) (wrap64 (partF x 21 10 * 2)) = jumpImm x := by
  have hs := sgn_bd x hx0 hx1
  have p1 := part_bd x 12 8 (by decide)
  have p2 := part_bd x 20 1 (by decide)
  have p3 := part_bd x 21 10 (by decide)
  unfold jumpImm
  generalize partF x 12 8 = a at *
  generalize partF x 20 1 = b at *
  generalize partF x 21 10 = c at *
  generalize sgn x = s at *
  simp only [Int.reducePow] at p1 p2 p3
  rw [wrap64_in (s / 2147483648 * 1048576) (by omega) (by omega), wrap64_in (a * 4096) (by omega) (by omega), wrap64_in (b * 2048) (by omega) (by omega), wrap64_in (c * 2) (by omega) (by omega),
    or_join _ (a * 4096) 1048576 20 (by decide) (by decide) (by omega) (by omega) (by omega) (by omega) (by omega) (by decide),
    or_join _ (b * 2048) 4096 12 (by decide) (by decide) (by omega) (by omega) (by omega) (by omega) (by omega) (by decide),
    or_join _ (c * 2) 2048 11 (by decide) (by decide) (by omega) (by omega) (by omega) (by omega) (by omega) (by decide)]
theorem branch_raw (x : Int) (hx0 : 0 ≤ x) (hx1 : x < 4294967296) : bits .or .i64 (bits .or .i64 (bits .or .i64 (wrap64 (sgn x / 2147483648 * 4096)) (wrap64 (partF x 7 1 * 2048))) (wrap64 (partF x 25 6 * 32))) (wrap64 (partF x 8 4 * 2)) = branchImm x := by
  have hs := sgn_bd x hx0 hx1
  have p1 := part_bd x 7 1 (by decide)
  have p2 := part_bd x 25 6 (by decide)
  have p3 := part_bd x 8 4 (by decide)
  unfold branchImm
  generalize partF x 7 1 = a at *
  generalize partF x 25 6 = b at *
  generalize partF x 8 4 = c at *
  generalize sgn x = s at *
  simp only [Int.reducePow] at p1 p2 p3
  rw [wrap64_in (s / 2147483648 * 4096) (by omega) (by omega), wrap64_in (a * 2048) (by omega) (by omega), wrap64_in (b * 32) (by omega) (by omega), wrap64_in (c * 2) (by omega) (by omega),
    or_join _ (a * 2048) 4096 12 (by decide) (by decide) (by omega) (by omega) (by omega) (by omega) (by omega) (by decide),
    or_join _ (b * 32) 2048 11 (by decide) (by decide) (by omega) (by omega) (by omega) (by omega) (by omega) (by decide),
    or_join _ (c * 2) 32 5 (by decide) (by decide) (by omega) (by omega) (by omega) (by omega) (by omega) (by decide)]
theorem store_raw (x : Int) (hx0 : 0 ≤ x) (hx1 : x < 4294967296) : bits .or .i64 (wrap64 (sgn x / 33554432 * 32)) (partF x 7 5) = storeImm x := by
  have hs := sgn_bd x hx0 hx1
  have p1 := part_bd x 7 5 (by decide)
  unfold storeImm
  generalize partF x 7 5 = a at *
  generalize sgn x = s at *
  simp only [Int.reducePow] at p1
  rw [wrap64_in (s / 33554432 * 32) (by omega) (by omega), or_join _ a 32 5 (by decide) (by decide) (by omega) (by omega) (by omega) (by omega) (by omega) (by decide)]
set_option maxRecDepth 20000 in
set_option maxHeartbeats 400000 in
theorem read_0 (x : Int) (hx0 : 0 ≤ x) (hx1 : x < 4294967296) (w : World) : Calls Tryz.prog 271 #[.int .i64 0, .int .u32 x] w (ReadIs (0) (0) (0) (0) w) := by
  go_enter Tryz.func271, Tryz.ntmps271
  go_wp2_with (first
    | (go_at_call 276; refine (rd_any x hx0 hx1 _).mono ?_; rintro e w' ⟨rfl, m, rfl⟩)
    | (go_at_call 279; refine (rs1_any x hx0 hx1 _).mono ?_; rintro e w' ⟨rfl, m, rfl⟩)
    | (go_at_call 280; refine (rs2_any x hx0 hx1 _).mono ?_; rintro e w' ⟨rfl, m, rfl⟩)
    | (go_at_call 277; refine (part_any x hx0 hx1 _ _ (by decide) (by decide) (by decide) (by decide) _).mono ?_; rintro e w' ⟨rfl, m, rfl⟩)
    | (go_at_call 278; refine (wide_any x hx0 hx1 _ (by decide) (by decide) _).mono ?_; rintro e w' ⟨rfl, m, rfl⟩))
  apply post5 (v0 := .int .i64 0) (v1 := .int .i64 (0)) (v2 := .int .i64 (0)) (v3 := .int .i64 (0)) (v4 := .int .i64 (0))
  case hd => rfl
  case ht => rfl
  case hB => repeat (first | with_reducible apply Blk.set | with_reducible apply Blk.drewN | with_reducible exact Blk.new _ _ _)
  case hcs => simp
  case hQ =>
    refine ⟨rfl, ?_⟩
    repeat (first | with_reducible exact Grown.refl _ | with_reducible refine Grown.setCell ?_ (Nat.le_refl _) _ | with_reducible refine Grown.alloc ?_ _ _ | with_reducible refine grown_dr ?_ _)
set_option maxRecDepth 20000 in
set_option maxHeartbeats 400000 in
theorem read_1 (x : Int) (hx0 : 0 ≤ x) (hx1 : x < 4294967296) (w : World) : Calls Tryz.prog 271 #[.int .i64 1, .int .u32 x] w (ReadIs (partF x 7 5) (0) (0) (partF x 12 20) w) := by
  go_enter Tryz.func271, Tryz.ntmps271
  go_wp2_with (first
    | (go_at_call 276; refine (rd_any x hx0 hx1 _).mono ?_; rintro e w' ⟨rfl, m, rfl⟩)
    | (go_at_call 279; refine (rs1_any x hx0 hx1 _).mono ?_; rintro e w' ⟨rfl, m, rfl⟩)
    | (go_at_call 280; refine (rs2_any x hx0 hx1 _).mono ?_; rintro e w' ⟨rfl, m, rfl⟩)
    | (go_at_call 277; refine (part_any x hx0 hx1 _ _ (by decide) (by decide) (by decide) (by decide) _).mono ?_; rintro e w' ⟨rfl, m, rfl⟩)
    | (go_at_call 278; refine (wide_any x hx0 hx1 _ (by decide) (by decide) _).mono ?_; rintro e w' ⟨rfl, m, rfl⟩))
  apply post5 (v0 := .int .i64 0) (v1 := .int .i64 (partF x 7 5)) (v2 := .int .i64 (0)) (v3 := .int .i64 (0)) (v4 := .int .i64 (partF x 12 20))
  case hd => rfl
  case ht => rfl
  case hB => repeat (first | with_reducible apply Blk.set | with_reducible apply Blk.drewN | with_reducible exact Blk.new _ _ _)
  case hcs => simp
  case hQ =>
    refine ⟨rfl, ?_⟩
    repeat (first | with_reducible exact Grown.refl _ | with_reducible refine Grown.setCell ?_ (Nat.le_refl _) _ | with_reducible refine Grown.alloc ?_ _ _ | with_reducible refine grown_dr ?_ _)
set_option maxRecDepth 20000 in
set_option maxHeartbeats 400000 in
theorem read_2 (x : Int) (hx0 : 0 ≤ x) (hx1 : x < 4294967296) (w : World) : Calls Tryz.prog 271 #[.int .i64 2, .int .u32 x] w (ReadIs (partF x 7 5) (0) (0) (jumpImm x) w) := by
  go_enter Tryz.func271, Tryz.ntmps271
  go_wp2_with (first
    | (go_at_call 276; refine (rd_any x hx0 hx1 _).mono ?_; rintro e w' ⟨rfl, m, rfl⟩)
    | (go_at_call 279; refine (rs1_any x hx0 hx1 _).mono ?_; rintro e w' ⟨rfl, m, rfl⟩)
    | (go_at_call 280; refine (rs2_any x hx0 hx1 _).mono ?_; rintro e w' ⟨rfl, m, rfl⟩)
    | (go_at_call 277; refine (part_any x hx0 hx1 _ _ (by decide) (by decide) (by decide) (by decide) _).mono ?_; rintro e w' ⟨rfl, m, rfl⟩)
    | (go_at_call 278; refine (wide_any x hx0 hx1 _ (by decide) (by decide) _).mono ?_; rintro e w' ⟨rfl, m, rfl⟩))
  apply post5 (v0 := .int .i64 0) (v1 := .int .i64 (partF x 7 5)) (v2 := .int .i64 (0)) (v3 := .int .i64 (0)) (v4 := .int .i64 (bits .or .i64 (bits .or .i64 (bits .or .i64 (wrap64 (sgn x / 2147483648 * 1048576)) (wrap64 (partF x 12 8 * 4096))) (wrap64 (partF x 20 1 * 2048))) (wrap64 (partF x 21 10 * 2))))
  case hd => rfl
  case ht => rfl
  case hB => repeat (first | with_reducible apply Blk.set | with_reducible apply Blk.drewN | with_reducible exact Blk.new _ _ _)
  case hcs => simp
  case hQ =>
    refine ⟨congrArg (fun z => Ending.returned (ins 0 (partF x 7 5) (0) (0) z)) (jump_raw x hx0 hx1), ?_⟩
    repeat (first | with_reducible exact Grown.refl _ | with_reducible refine Grown.setCell ?_ (Nat.le_refl _) _ | with_reducible refine Grown.alloc ?_ _ _ | with_reducible refine grown_dr ?_ _)
set_option maxRecDepth 20000 in
set_option maxHeartbeats 400000 in
theorem read_3 (x : Int) (hx0 : 0 ≤ x) (hx1 : x < 4294967296) (w : World) : Calls Tryz.prog 271 #[.int .i64 3, .int .u32 x] w (ReadIs (0) (partF x 15 5) (partF x 20 5) (branchImm x) w) := by
  go_enter Tryz.func271, Tryz.ntmps271
  go_wp2_with (first
    | (go_at_call 276; refine (rd_any x hx0 hx1 _).mono ?_; rintro e w' ⟨rfl, m, rfl⟩)
    | (go_at_call 279; refine (rs1_any x hx0 hx1 _).mono ?_; rintro e w' ⟨rfl, m, rfl⟩)
    | (go_at_call 280; refine (rs2_any x hx0 hx1 _).mono ?_; rintro e w' ⟨rfl, m, rfl⟩)
    | (go_at_call 277; refine (part_any x hx0 hx1 _ _ (by decide) (by decide) (by decide) (by decide) _).mono ?_; rintro e w' ⟨rfl, m, rfl⟩)
    | (go_at_call 278; refine (wide_any x hx0 hx1 _ (by decide) (by decide) _).mono ?_; rintro e w' ⟨rfl, m, rfl⟩))
  apply post5 (v0 := .int .i64 0) (v1 := .int .i64 (0)) (v2 := .int .i64 (partF x 15 5)) (v3 := .int .i64 (partF x 20 5)) (v4 := .int .i64 (bits .or .i64 (bits .or .i64 (bits .or .i64 (wrap64 (sgn x / 2147483648 * 4096)) (wrap64 (partF x 7 1 * 2048))) (wrap64 (partF x 25 6 * 32))) (wrap64 (partF x 8 4 * 2))))
  case hd => rfl
  case ht => rfl
  case hB => repeat (first | with_reducible apply Blk.set | with_reducible apply Blk.drewN | with_reducible exact Blk.new _ _ _)
  case hcs => simp
  case hQ =>
    refine ⟨congrArg (fun z => Ending.returned (ins 0 (0) (partF x 15 5) (partF x 20 5) z)) (branch_raw x hx0 hx1), ?_⟩
    repeat (first | with_reducible exact Grown.refl _ | with_reducible refine Grown.setCell ?_ (Nat.le_refl _) _ | with_reducible refine Grown.alloc ?_ _ _ | with_reducible refine grown_dr ?_ _)
set_option maxRecDepth 20000 in
set_option maxHeartbeats 400000 in
theorem read_4 (x : Int) (hx0 : 0 ≤ x) (hx1 : x < 4294967296) (w : World) : Calls Tryz.prog 271 #[.int .i64 4, .int .u32 x] w (ReadIs (partF x 7 5) (partF x 15 5) (0) (sgn x / 1048576) w) := by
  go_enter Tryz.func271, Tryz.ntmps271
  go_wp2_with (first
    | (go_at_call 276; refine (rd_any x hx0 hx1 _).mono ?_; rintro e w' ⟨rfl, m, rfl⟩)
    | (go_at_call 279; refine (rs1_any x hx0 hx1 _).mono ?_; rintro e w' ⟨rfl, m, rfl⟩)
    | (go_at_call 280; refine (rs2_any x hx0 hx1 _).mono ?_; rintro e w' ⟨rfl, m, rfl⟩)
    | (go_at_call 277; refine (part_any x hx0 hx1 _ _ (by decide) (by decide) (by decide) (by decide) _).mono ?_; rintro e w' ⟨rfl, m, rfl⟩)
    | (go_at_call 278; refine (wide_any x hx0 hx1 _ (by decide) (by decide) _).mono ?_; rintro e w' ⟨rfl, m, rfl⟩))
  apply post5 (v0 := .int .i64 0) (v1 := .int .i64 (partF x 7 5)) (v2 := .int .i64 (partF x 15 5)) (v3 := .int .i64 (0)) (v4 := .int .i64 (sgn x / 1048576))
  case hd => rfl
  case ht => rfl
  case hB => repeat (first | with_reducible apply Blk.set | with_reducible apply Blk.drewN | with_reducible exact Blk.new _ _ _)
  case hcs => simp
  case hQ =>
    refine ⟨rfl, ?_⟩
    repeat (first | with_reducible exact Grown.refl _ | with_reducible refine Grown.setCell ?_ (Nat.le_refl _) _ | with_reducible refine Grown.alloc ?_ _ _ | with_reducible refine grown_dr ?_ _)
set_option maxRecDepth 20000 in
set_option maxHeartbeats 400000 in
theorem read_5 (x : Int) (hx0 : 0 ≤ x) (hx1 : x < 4294967296) (w : World) : Calls Tryz.prog 271 #[.int .i64 5, .int .u32 x] w (ReadIs (0) (partF x 15 5) (partF x 20 5) (storeImm x) w) := by
  go_enter Tryz.func271, Tryz.ntmps271
  go_wp2_with (first
    | (go_at_call 276; refine (rd_any x hx0 hx1 _).mono ?_; rintro e w' ⟨rfl, m, rfl⟩)
    | (go_at_call 279; refine (rs1_any x hx0 hx1 _).mono ?_; rintro e w' ⟨rfl, m, rfl⟩)
    | (go_at_call 280; refine (rs2_any x hx0 hx1 _).mono ?_; rintro e w' ⟨rfl, m, rfl⟩)
    | (go_at_call 277; refine (part_any x hx0 hx1 _ _ (by decide) (by decide) (by decide) (by decide) _).mono ?_; rintro e w' ⟨rfl, m, rfl⟩)
    | (go_at_call 278; refine (wide_any x hx0 hx1 _ (by decide) (by decide) _).mono ?_; rintro e w' ⟨rfl, m, rfl⟩))
  apply post5 (v0 := .int .i64 0) (v1 := .int .i64 (0)) (v2 := .int .i64 (partF x 15 5)) (v3 := .int .i64 (partF x 20 5)) (v4 := .int .i64 (bits .or .i64 (wrap64 (sgn x / 33554432 * 32)) (partF x 7 5)))
  case hd => rfl
  case ht => rfl
  case hB => repeat (first | with_reducible apply Blk.set | with_reducible apply Blk.drewN | with_reducible exact Blk.new _ _ _)
  case hcs => simp
  case hQ =>
    refine ⟨congrArg (fun z => Ending.returned (ins 0 (0) (partF x 15 5) (partF x 20 5) z)) (store_raw x hx0 hx1), ?_⟩
    repeat (first | with_reducible exact Grown.refl _ | with_reducible refine Grown.setCell ?_ (Nat.le_refl _) _ | with_reducible refine Grown.alloc ?_ _ _ | with_reducible refine grown_dr ?_ _)
set_option maxRecDepth 20000 in
set_option maxHeartbeats 400000 in
theorem read_6 (x : Int) (hx0 : 0 ≤ x) (hx1 : x < 4294967296) (w : World) : Calls Tryz.prog 271 #[.int .i64 6, .int .u32 x] w (ReadIs (partF x 7 5) (partF x 15 5) (0) (sgn x / 1048576) w) := by
  go_enter Tryz.func271, Tryz.ntmps271
  go_wp2_with (first
    | (go_at_call 276; refine (rd_any x hx0 hx1 _).mono ?_; rintro e w' ⟨rfl, m, rfl⟩)
    | (go_at_call 279; refine (rs1_any x hx0 hx1 _).mono ?_; rintro e w' ⟨rfl, m, rfl⟩)
    | (go_at_call 280; refine (rs2_any x hx0 hx1 _).mono ?_; rintro e w' ⟨rfl, m, rfl⟩)
    | (go_at_call 277; refine (part_any x hx0 hx1 _ _ (by decide) (by decide) (by decide) (by decide) _).mono ?_; rintro e w' ⟨rfl, m, rfl⟩)
    | (go_at_call 278; refine (wide_any x hx0 hx1 _ (by decide) (by decide) _).mono ?_; rintro e w' ⟨rfl, m, rfl⟩))
  apply post5 (v0 := .int .i64 0) (v1 := .int .i64 (partF x 7 5)) (v2 := .int .i64 (partF x 15 5)) (v3 := .int .i64 (0)) (v4 := .int .i64 (sgn x / 1048576))
  case hd => rfl
  case ht => rfl
  case hB => repeat (first | with_reducible apply Blk.set | with_reducible apply Blk.drewN | with_reducible exact Blk.new _ _ _)
  case hcs => simp
  case hQ =>
    refine ⟨rfl, ?_⟩
    repeat (first | with_reducible exact Grown.refl _ | with_reducible refine Grown.setCell ?_ (Nat.le_refl _) _ | with_reducible refine Grown.alloc ?_ _ _ | with_reducible refine grown_dr ?_ _)
set_option maxRecDepth 20000 in
set_option maxHeartbeats 400000 in
theorem read_7 (x : Int) (hx0 : 0 ≤ x) (hx1 : x < 4294967296) (w : World) : Calls Tryz.prog 271 #[.int .i64 7, .int .u32 x] w (ReadIs (partF x 7 5) (partF x 15 5) (0) (partF x 20 5) w) := by
  go_enter Tryz.func271, Tryz.ntmps271
  go_wp2_with (first
    | (go_at_call 276; refine (rd_any x hx0 hx1 _).mono ?_; rintro e w' ⟨rfl, m, rfl⟩)
    | (go_at_call 279; refine (rs1_any x hx0 hx1 _).mono ?_; rintro e w' ⟨rfl, m, rfl⟩)
    | (go_at_call 280; refine (rs2_any x hx0 hx1 _).mono ?_; rintro e w' ⟨rfl, m, rfl⟩)
    | (go_at_call 277; refine (part_any x hx0 hx1 _ _ (by decide) (by decide) (by decide) (by decide) _).mono ?_; rintro e w' ⟨rfl, m, rfl⟩)
    | (go_at_call 278; refine (wide_any x hx0 hx1 _ (by decide) (by decide) _).mono ?_; rintro e w' ⟨rfl, m, rfl⟩))
  apply post5 (v0 := .int .i64 0) (v1 := .int .i64 (partF x 7 5)) (v2 := .int .i64 (partF x 15 5)) (v3 := .int .i64 (0)) (v4 := .int .i64 (partF x 20 5))
  case hd => rfl
  case ht => rfl
  case hB => repeat (first | with_reducible apply Blk.set | with_reducible apply Blk.drewN | with_reducible exact Blk.new _ _ _)
  case hcs => simp
  case hQ =>
    refine ⟨rfl, ?_⟩
    repeat (first | with_reducible exact Grown.refl _ | with_reducible refine Grown.setCell ?_ (Nat.le_refl _) _ | with_reducible refine Grown.alloc ?_ _ _ | with_reducible refine grown_dr ?_ _)
set_option maxRecDepth 20000 in
set_option maxHeartbeats 400000 in
theorem read_8 (x : Int) (hx0 : 0 ≤ x) (hx1 : x < 4294967296) (w : World) : Calls Tryz.prog 271 #[.int .i64 8, .int .u32 x] w (ReadIs (partF x 7 5) (partF x 15 5) (partF x 20 5) (0) w) := by
  go_enter Tryz.func271, Tryz.ntmps271
  go_wp2_with (first
    | (go_at_call 276; refine (rd_any x hx0 hx1 _).mono ?_; rintro e w' ⟨rfl, m, rfl⟩)
    | (go_at_call 279; refine (rs1_any x hx0 hx1 _).mono ?_; rintro e w' ⟨rfl, m, rfl⟩)
    | (go_at_call 280; refine (rs2_any x hx0 hx1 _).mono ?_; rintro e w' ⟨rfl, m, rfl⟩)
    | (go_at_call 277; refine (part_any x hx0 hx1 _ _ (by decide) (by decide) (by decide) (by decide) _).mono ?_; rintro e w' ⟨rfl, m, rfl⟩)
    | (go_at_call 278; refine (wide_any x hx0 hx1 _ (by decide) (by decide) _).mono ?_; rintro e w' ⟨rfl, m, rfl⟩))
  apply post5 (v0 := .int .i64 0) (v1 := .int .i64 (partF x 7 5)) (v2 := .int .i64 (partF x 15 5)) (v3 := .int .i64 (partF x 20 5)) (v4 := .int .i64 (0))
  case hd => rfl
  case ht => rfl
  case hB => repeat (first | with_reducible apply Blk.set | with_reducible apply Blk.drewN | with_reducible exact Blk.new _ _ _)
  case hcs => simp
  case hQ =>
    refine ⟨rfl, ?_⟩
    repeat (first | with_reducible exact Grown.refl _ | with_reducible refine Grown.setCell ?_ (Nat.le_refl _) _ | with_reducible refine Grown.alloc ?_ _ _ | with_reducible refine grown_dr ?_ _)
set_option maxRecDepth 20000 in
set_option maxHeartbeats 400000 in
theorem read_9 (x : Int) (hx0 : 0 ≤ x) (hx1 : x < 4294967296) (w : World) : Calls Tryz.prog 271 #[.int .i64 9, .int .u32 x] w (ReadIs (partF x 7 5) (partF x 15 5) (partF x 20 5) (partF x 25 2) w) := by
  go_enter Tryz.func271, Tryz.ntmps271
  go_wp2_with (first
    | (go_at_call 276; refine (rd_any x hx0 hx1 _).mono ?_; rintro e w' ⟨rfl, m, rfl⟩)
    | (go_at_call 279; refine (rs1_any x hx0 hx1 _).mono ?_; rintro e w' ⟨rfl, m, rfl⟩)
    | (go_at_call 280; refine (rs2_any x hx0 hx1 _).mono ?_; rintro e w' ⟨rfl, m, rfl⟩)
    | (go_at_call 277; refine (part_any x hx0 hx1 _ _ (by decide) (by decide) (by decide) (by decide) _).mono ?_; rintro e w' ⟨rfl, m, rfl⟩)
    | (go_at_call 278; refine (wide_any x hx0 hx1 _ (by decide) (by decide) _).mono ?_; rintro e w' ⟨rfl, m, rfl⟩))
  apply post5 (v0 := .int .i64 0) (v1 := .int .i64 (partF x 7 5)) (v2 := .int .i64 (partF x 15 5)) (v3 := .int .i64 (partF x 20 5)) (v4 := .int .i64 (partF x 25 2))
  case hd => rfl
  case ht => rfl
  case hB => repeat (first | with_reducible apply Blk.set | with_reducible apply Blk.drewN | with_reducible exact Blk.new _ _ _)
  case hcs => simp
  case hQ =>
    refine ⟨rfl, ?_⟩
    repeat (first | with_reducible exact Grown.refl _ | with_reducible refine Grown.setCell ?_ (Nat.le_refl _) _ | with_reducible refine Grown.alloc ?_ _ _ | with_reducible refine grown_dr ?_ _)
set_option maxRecDepth 20000 in
set_option maxHeartbeats 400000 in
theorem read_10 (x : Int) (hx0 : 0 ≤ x) (hx1 : x < 4294967296) (w : World) : Calls Tryz.prog 271 #[.int .i64 10, .int .u32 x] w (ReadIs (partF x 7 5) (partF x 15 5) (partF x 20 5) (partF x 25 2) w) := by
  go_enter Tryz.func271, Tryz.ntmps271
  go_wp2_with (first
    | (go_at_call 276; refine (rd_any x hx0 hx1 _).mono ?_; rintro e w' ⟨rfl, m, rfl⟩)
    | (go_at_call 279; refine (rs1_any x hx0 hx1 _).mono ?_; rintro e w' ⟨rfl, m, rfl⟩)
    | (go_at_call 280; refine (rs2_any x hx0 hx1 _).mono ?_; rintro e w' ⟨rfl, m, rfl⟩)
    | (go_at_call 277; refine (part_any x hx0 hx1 _ _ (by decide) (by decide) (by decide) (by decide) _).mono ?_; rintro e w' ⟨rfl, m, rfl⟩)
    | (go_at_call 278; refine (wide_any x hx0 hx1 _ (by decide) (by decide) _).mono ?_; rintro e w' ⟨rfl, m, rfl⟩))
  apply post5 (v0 := .int .i64 0) (v1 := .int .i64 (partF x 7 5)) (v2 := .int .i64 (partF x 15 5)) (v3 := .int .i64 (partF x 20 5)) (v4 := .int .i64 (partF x 25 2))
  case hd => rfl
  case ht => rfl
  case hB => repeat (first | with_reducible apply Blk.set | with_reducible apply Blk.drewN | with_reducible exact Blk.new _ _ _)
  case hcs => simp
  case hQ =>
    refine ⟨rfl, ?_⟩
    repeat (first | with_reducible exact Grown.refl _ | with_reducible refine Grown.setCell ?_ (Nat.le_refl _) _ | with_reducible refine Grown.alloc ?_ _ _ | with_reducible refine grown_dr ?_ _)
set_option maxRecDepth 20000 in
set_option maxHeartbeats 400000 in
theorem read_11 (x : Int) (hx0 : 0 ≤ x) (hx1 : x < 4294967296) (w : World) : Calls Tryz.prog 271 #[.int .i64 11, .int .u32 x] w (ReadIs (0) (0) (0) (partF x 20 8) w) := by
  go_enter Tryz.func271, Tryz.ntmps271
  go_wp2_with (first
    | (go_at_call 276; refine (rd_any x hx0 hx1 _).mono ?_; rintro e w' ⟨rfl, m, rfl⟩)
    | (go_at_call 279; refine (rs1_any x hx0 hx1 _).mono ?_; rintro e w' ⟨rfl, m, rfl⟩)
    | (go_at_call 280; refine (rs2_any x hx0 hx1 _).mono ?_; rintro e w' ⟨rfl, m, rfl⟩)
    | (go_at_call 277; refine (part_any x hx0 hx1 _ _ (by decide) (by decide) (by decide) (by decide) _).mono ?_; rintro e w' ⟨rfl, m, rfl⟩)
    | (go_at_call 278; refine (wide_any x hx0 hx1 _ (by decide) (by decide) _).mono ?_; rintro e w' ⟨rfl, m, rfl⟩))
  apply post5 (v0 := .int .i64 0) (v1 := .int .i64 (0)) (v2 := .int .i64 (0)) (v3 := .int .i64 (0)) (v4 := .int .i64 (partF x 20 8))
  case hd => rfl
  case ht => rfl
  case hB => repeat (first | with_reducible apply Blk.set | with_reducible apply Blk.drewN | with_reducible exact Blk.new _ _ _)
  case hcs => simp
  case hQ =>
    refine ⟨rfl, ?_⟩
    repeat (first | with_reducible exact Grown.refl _ | with_reducible refine Grown.setCell ?_ (Nat.le_refl _) _ | with_reducible refine Grown.alloc ?_ _ _ | with_reducible refine grown_dr ?_ _)
set_option maxRecDepth 20000 in
set_option maxHeartbeats 400000 in
theorem read_12 (x : Int) (hx0 : 0 ≤ x) (hx1 : x < 4294967296) (w : World) : Calls Tryz.prog 271 #[.int .i64 12, .int .u32 x] w (ReadIs (partF x 7 5) (partF x 15 5) (0) (partF x 20 12) w) := by
  go_enter Tryz.func271, Tryz.ntmps271
  go_wp2_with (first
    | (go_at_call 276; refine (rd_any x hx0 hx1 _).mono ?_; rintro e w' ⟨rfl, m, rfl⟩)
    | (go_at_call 279; refine (rs1_any x hx0 hx1 _).mono ?_; rintro e w' ⟨rfl, m, rfl⟩)
    | (go_at_call 280; refine (rs2_any x hx0 hx1 _).mono ?_; rintro e w' ⟨rfl, m, rfl⟩)
    | (go_at_call 277; refine (part_any x hx0 hx1 _ _ (by decide) (by decide) (by decide) (by decide) _).mono ?_; rintro e w' ⟨rfl, m, rfl⟩)
    | (go_at_call 278; refine (wide_any x hx0 hx1 _ (by decide) (by decide) _).mono ?_; rintro e w' ⟨rfl, m, rfl⟩))
  apply post5 (v0 := .int .i64 0) (v1 := .int .i64 (partF x 7 5)) (v2 := .int .i64 (partF x 15 5)) (v3 := .int .i64 (0)) (v4 := .int .i64 (partF x 20 12))
  case hd => rfl
  case ht => rfl
  case hB => repeat (first | with_reducible apply Blk.set | with_reducible apply Blk.drewN | with_reducible exact Blk.new _ _ _)
  case hcs => simp
  case hQ =>
    refine ⟨rfl, ?_⟩
    repeat (first | with_reducible exact Grown.refl _ | with_reducible refine Grown.setCell ?_ (Nat.le_refl _) _ | with_reducible refine Grown.alloc ?_ _ _ | with_reducible refine grown_dr ?_ _)
set_option maxRecDepth 20000 in
set_option maxHeartbeats 400000 in
theorem read_13 (x : Int) (hx0 : 0 ≤ x) (hx1 : x < 4294967296) (w : World) : Calls Tryz.prog 271 #[.int .i64 13, .int .u32 x] w (ReadIs (partF x 7 5) (partF x 15 5) (0) (partF x 20 12) w) := by
  go_enter Tryz.func271, Tryz.ntmps271
  go_wp2_with (first
    | (go_at_call 276; refine (rd_any x hx0 hx1 _).mono ?_; rintro e w' ⟨rfl, m, rfl⟩)
    | (go_at_call 279; refine (rs1_any x hx0 hx1 _).mono ?_; rintro e w' ⟨rfl, m, rfl⟩)
    | (go_at_call 280; refine (rs2_any x hx0 hx1 _).mono ?_; rintro e w' ⟨rfl, m, rfl⟩)
    | (go_at_call 277; refine (part_any x hx0 hx1 _ _ (by decide) (by decide) (by decide) (by decide) _).mono ?_; rintro e w' ⟨rfl, m, rfl⟩)
    | (go_at_call 278; refine (wide_any x hx0 hx1 _ (by decide) (by decide) _).mono ?_; rintro e w' ⟨rfl, m, rfl⟩))
  apply post5 (v0 := .int .i64 0) (v1 := .int .i64 (partF x 7 5)) (v2 := .int .i64 (partF x 15 5)) (v3 := .int .i64 (0)) (v4 := .int .i64 (partF x 20 12))
  case hd => rfl
  case ht => rfl
  case hB => repeat (first | with_reducible apply Blk.set | with_reducible apply Blk.drewN | with_reducible exact Blk.new _ _ _)
  case hcs => simp
  case hQ =>
    refine ⟨rfl, ?_⟩
    repeat (first | with_reducible exact Grown.refl _ | with_reducible refine Grown.setCell ?_ (Nat.le_refl _) _ | with_reducible refine Grown.alloc ?_ _ _ | with_reducible refine grown_dr ?_ _)
end Go.Proofs.YthacioiefgabbaaGreatDoor
