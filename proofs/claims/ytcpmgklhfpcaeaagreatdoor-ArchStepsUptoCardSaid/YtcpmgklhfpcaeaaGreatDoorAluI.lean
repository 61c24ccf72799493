/- Part I: what operations compute: the reference's, branches. -/
import Derived.Test.YtcpmgklhfpcaeaaGreatDoorAluH
namespace Go.Proofs.YtcpmgklhfpcaeaaGreatDoor.alu
open Go.RowKit
set_option linter.unusedVariables false
set_option maxRecDepth 100000
theorem is_lui (op : Int) : ((nm op).toList == [108, 117, 105]) = decide (op = 1) := nm_is _ _ (by decide +kernel) (by omega) (by omega) (by decide +kernel) op
theorem is_auipc (op : Int) : ((nm op).toList == [97, 117, 105, 112, 99]) = decide (op = 2) := nm_is _ _ (by decide +kernel) (by omega) (by omega) (by decide +kernel) op
theorem is_addi (op : Int) : ((nm op).toList == [97, 100, 100, 105]) = decide (op = 19) := nm_is _ _ (by decide +kernel) (by omega) (by omega) (by decide +kernel) op
theorem is_add (op : Int) : ((nm op).toList == [97, 100, 100]) = decide (op = 28) := nm_is _ _ (by decide +kernel) (by omega) (by omega) (by decide +kernel) op
theorem is_sub (op : Int) : ((nm op).toList == [115, 117, 98]) = decide (op = 29) := nm_is _ _ (by decide +kernel) (by omega) (by omega) (by decide +kernel) op
theorem is_slti (op : Int) : ((nm op).toList == [115, 108, 116, 105]) = decide (op = 20) := nm_is _ _ (by decide +kernel) (by omega) (by omega) (by decide +kernel) op
theorem is_slt (op : Int) : ((nm op).toList == [115, 108, 116]) = decide (op = 31) := nm_is _ _ (by decide +kernel) (by omega) (by omega) (by decide +kernel) op
theorem is_sltiu (op : Int) : ((nm op).toList == [115, 108, 116, 105, 117]) = decide (op = 21) := nm_is _ _ (by decide +kernel) (by omega) (by omega) (by decide +kernel) op
theorem is_sltu (op : Int) : ((nm op).toList == [115, 108, 116, 117]) = decide (op = 32) := nm_is _ _ (by decide +kernel) (by omega) (by omega) (by decide +kernel) op
theorem is_xori (op : Int) : ((nm op).toList == [120, 111, 114, 105]) = decide (op = 22) := nm_is _ _ (by decide +kernel) (by omega) (by omega) (by decide +kernel) op
theorem is_xor (op : Int) : ((nm op).toList == [120, 111, 114]) = decide (op = 33) := nm_is _ _ (by decide +kernel) (by omega) (by omega) (by decide +kernel) op
theorem is_ori (op : Int) : ((nm op).toList == [111, 114, 105]) = decide (op = 23) := nm_is _ _ (by decide +kernel) (by omega) (by omega) (by decide +kernel) op
theorem is_or (op : Int) : ((nm op).toList == [111, 114]) = decide (op = 36) := nm_is _ _ (by decide +kernel) (by omega) (by omega) (by decide +kernel) op
theorem is_andi (op : Int) : ((nm op).toList == [97, 110, 100, 105]) = decide (op = 24) := nm_is _ _ (by decide +kernel) (by omega) (by omega) (by decide +kernel) op
theorem is_and (op : Int) : ((nm op).toList == [97, 110, 100]) = decide (op = 37) := nm_is _ _ (by decide +kernel) (by omega) (by omega) (by decide +kernel) op
theorem is_slli (op : Int) : ((nm op).toList == [115, 108, 108, 105]) = decide (op = 25) := nm_is _ _ (by decide +kernel) (by omega) (by omega) (by decide +kernel) op
theorem is_sll (op : Int) : ((nm op).toList == [115, 108, 108]) = decide (op = 30) := nm_is _ _ (by decide +kernel) (by omega) (by omega) (by decide +kernel) op
theorem is_srli (op : Int) : ((nm op).toList == [115, 114, 108, 105]) = decide (op = 26) := nm_is _ _ (by decide +kernel) (by omega) (by omega) (by decide +kernel) op
theorem is_srl (op : Int) : ((nm op).toList == [115, 114, 108]) = decide (op = 34) := nm_is _ _ (by decide +kernel) (by omega) (by omega) (by decide +kernel) op
theorem is_srai (op : Int) : ((nm op).toList == [115, 114, 97, 105]) = decide (op = 27) := nm_is _ _ (by decide +kernel) (by omega) (by omega) (by decide +kernel) op
theorem is_sra (op : Int) : ((nm op).toList == [115, 114, 97]) = decide (op = 35) := nm_is _ _ (by decide +kernel) (by omega) (by omega) (by decide +kernel) op
theorem is_mul (op : Int) : ((nm op).toList == [109, 117, 108]) = decide (op = 38) := nm_is _ _ (by decide +kernel) (by omega) (by omega) (by decide +kernel) op
theorem is_mulh (op : Int) : ((nm op).toList == [109, 117, 108, 104]) = decide (op = 39) := nm_is _ _ (by decide +kernel) (by omega) (by omega) (by decide +kernel) op
theorem is_mulhsu (op : Int) : ((nm op).toList == [109, 117, 108, 104, 115, 117]) = decide (op = 40) := nm_is _ _ (by decide +kernel) (by omega) (by omega) (by decide +kernel) op
theorem is_mulhu (op : Int) : ((nm op).toList == [109, 117, 108, 104, 117]) = decide (op = 41) := nm_is _ _ (by decide +kernel) (by omega) (by omega) (by decide +kernel) op
theorem is_div (op : Int) : ((nm op).toList == [100, 105, 118]) = decide (op = 42) := nm_is _ _ (by decide +kernel) (by omega) (by omega) (by decide +kernel) op
theorem is_divu (op : Int) : ((nm op).toList == [100, 105, 118, 117]) = decide (op = 43) := nm_is _ _ (by decide +kernel) (by omega) (by omega) (by decide +kernel) op
theorem is_rem (op : Int) : ((nm op).toList == [114, 101, 109]) = decide (op = 44) := nm_is _ _ (by decide +kernel) (by omega) (by omega) (by decide +kernel) op
theorem is_remu (op : Int) : ((nm op).toList == [114, 101, 109, 117]) = decide (op = 45) := nm_is _ _ (by decide +kernel) (by omega) (by omega) (by decide +kernel) op
theorem is_beq (op : Int) : ((nm op).toList == [98, 101, 113]) = decide (op = 5) := nm_is _ _ (by decide +kernel) (by omega) (by omega) (by decide +kernel) op
theorem is_bne (op : Int) : ((nm op).toList == [98, 110, 101]) = decide (op = 6) := nm_is _ _ (by decide +kernel) (by omega) (by omega) (by decide +kernel) op
theorem is_blt (op : Int) : ((nm op).toList == [98, 108, 116]) = decide (op = 7) := nm_is _ _ (by decide +kernel) (by omega) (by omega) (by decide +kernel) op
theorem is_bge (op : Int) : ((nm op).toList == [98, 103, 101]) = decide (op = 8) := nm_is _ _ (by decide +kernel) (by omega) (by omega) (by decide +kernel) op
theorem is_bltu (op : Int) : ((nm op).toList == [98, 108, 116, 117]) = decide (op = 9) := nm_is _ _ (by decide +kernel) (by omega) (by omega) (by decide +kernel) op
theorem is_bgeu (op : Int) : ((nm op).toList == [98, 103, 101, 117]) = decide (op = 10) := nm_is _ _ (by decide +kernel) (by omega) (by omega) (by decide +kernel) op

theorem nat_or (x y : Nat) (hx : x < 4294967296) (hy : y < 4294967296) : x ||| y = (x ^^^ y) + (x &&& y) := by
  have h : ∀ (a b : BitVec 64), (a ^^^ b) + (a &&& b) = a ||| b := by
    intro a b
    have h1 : (a ^^^ b) &&& (a &&& b) = 0#64 := by ext i; simp; cases a[i] <;> cases b[i] <;> simp
    rw [BitVec.add_eq_or_of_and_eq_zero _ _ h1]
    ext i; simp; cases a[i] <;> cases b[i] <;> simp
  have h2 := congrArg BitVec.toNat (h (BitVec.ofNat 64 x) (BitVec.ofNat 64 y))
  simp only [BitVec.toNat_add, BitVec.toNat_xor, BitVec.toNat_and, BitVec.toNat_or, BitVec.toNat_ofNat] at h2
  rw [Nat.mod_eq_of_lt (show x < 2 ^ 64 by omega), Nat.mod_eq_of_lt (show y < 2 ^ 64 by omega)] at h2
  have h3 : x ^^^ y < 2 ^ 32 := Nat.xor_lt_two_pow (by omega) (by omega)
  have h4 : x &&& y < 2 ^ 32 := Nat.and_lt_two_pow _ (by omega)
  rw [Nat.mod_eq_of_lt (by omega)] at h2
  exact h2.symm
theorem or_sub_and (a b : Int) (h0 : 0 ≤ a) (h1 : a < 4294967296) (h2 : 0 ≤ b) (h3 : b < 4294967296) : (bits .or .u32 a b - bits .and .u32 a b) % 4294967296 = bits .xor .u32 a b := by
  rw [u32_or a b h0 h1 h2 h3, u32_and a b h0 h1 h2 h3, u32_xor a b h0 h1 h2 h3, nat_or _ _ (by omega) (by omega)]
  have h3 : a.toNat ^^^ b.toNat < 2 ^ 32 := Nat.xor_lt_two_pow (by omega) (by omega)
  omega
theorem bit_any (b : Bool) (w : World) : Calls Tryz.prog 125 #[.bool b] w fun e w' => e = .returned (.int .u32 (if b then 1 else 0)) ∧ w = w' := by
  cases b
  all_goals
    go_enter Tryz.func125, Tryz.ntmps125
    go_wp2
    go_ret
    exact ⟨rfl, rfl⟩
def rdivF (op a b : Int) : Int := if op = 42 then quoF a b else if op = 43 then divuF a b else if op = 44 then remF a b else if op = 45 then remuF a b else 0
theorem sg_zero (b : Int) (h0 : 0 ≤ b) (h1 : b < 4294967296) (h : b ≠ 0) : sg b ≠ 0 := by unfold sg; split <;> omega
theorem quo_mod (x y : Int) (hx : -2147483648 ≤ x) (hx' : x ≤ 2147483647) : wrap64 (x.tdiv y) % 4294967296 = x.tdiv y % 4294967296 := by unfold wrap64; omega
theorem rdiv_any (op a b : Int) (h0 : 0 ≤ a) (h1 : a < 4294967296) (h2 : 0 ≤ b) (h3 : b < 4294967296) (w : World) : Calls Tryz.prog 126 #[.string (nm op), .int .u32 a, .int .u32 b] w fun e w' => e = .returned (.int .u32 (rdivF op a b)) ∧ w = w' := by
  have i1 := is_div op; have i2 := is_divu op; have i3 := is_rem op; have i4 := is_remu op
  by_cases hb : b = 0
  · subst hb
    go_enter Tryz.func126, Tryz.ntmps126
    go_wp2_with (go_at_call 88; refine (signed_any _ (by assumption) (by first | assumption | omega) _).mono ?_; rintro e w' ⟨rfl, rfl⟩)
    all_goals
      go_ret
      refine ⟨congrArg (fun x => Ending.returned (.int .u32 x)) ?_, rfl⟩
      clear i1 i2 i3 i4
      unfold rdivF
      go_tidy
      simp_all [quoF, remF, divuF, remuF]
  · have hb' : (b == 0) = false := by simpa using hb
    have hs := sg_zero b h2 h3 hb
    have hs' : (sg b == 0) = false := by simpa using hs
    go_enter Tryz.func126, Tryz.ntmps126
    go_wp2_with (go_at_call 88; refine (signed_any _ (by assumption) (by first | assumption | omega) _).mono ?_; rintro e w' ⟨rfl, rfl⟩)
    all_goals
      go_ret
      refine ⟨congrArg (fun x => Ending.returned (.int .u32 x)) ?_, rfl⟩
      clear i1 i2 i3 i4
      unfold rdivF
      go_tidy
      first
        | (simp_all [quoF, remF, divuF, remuF]; done)
        | (simp_all [quoF]; unfold wrap64; omega)
theorem sg_mod (a : Int) : sg a % 4294967296 = a % 4294967296 := by unfold sg; split <;> omega
theorem sg_bd (a : Int) (h0 : 0 ≤ a) (h1 : a < 4294967296) : -2147483648 ≤ sg a ∧ sg a ≤ 2147483647 := by unfold sg; split <;> omega
theorem wrap64_mod (x : Int) : wrap64 x % 4294967296 = x % 4294967296 := by unfold wrap64; omega
theorem wrap64_id (x : Int) (h0 : -9223372036854775808 ≤ x) (h1 : x ≤ 9223372036854775807) : wrap64 x = x := by unfold wrap64; omega
theorem c_add (a b : Int) : wrap64 (sg a + sg b) % 4294967296 = (a + b) % 4294967296 := by
  have := sg_mod a; have := sg_mod b; rw [wrap64_mod]; omega
theorem c_sub (a b : Int) : wrap64 (sg a - sg b) % 4294967296 = (a - b) % 4294967296 := by
  have := sg_mod a; have := sg_mod b; rw [wrap64_mod]; omega
theorem c_mul (a b : Int) : wrap64 (sg a * sg b) % 4294967296 = a * b % 4294967296 := by
  rw [wrap64_mod, Int.mul_emod, sg_mod a, sg_mod b, ← Int.mul_emod]
theorem c_shr (a : Int) (n : Nat) (h0 : 0 ≤ a) (h1 : a < 4294967296) : a / 2 ^ n % 4294967296 = a / 2 ^ n := by
  have p : (0 : Int) < 2 ^ n := Int.pow_pos (by omega)
  have q0 : 0 ≤ a / 2 ^ n := Int.ediv_nonneg h0 (by omega)
  have q1 : a / 2 ^ n ≤ a := Int.ediv_le_self _ h0
  omega
theorem c_sra (a : Int) (n : Nat) (h0 : 0 ≤ a) (h1 : a < 4294967296) : sg a / 2 ^ n % 4294967296 = wrap32 a / 2 ^ n % 4294967296 := by
  have : sg a = wrap32 a := by unfold sg wrap32; split <;> omega
  rw [this]
theorem prod_bd (x y X Y : Int) (h0 : -X ≤ x) (h1 : x ≤ X) (h2 : -Y ≤ y) (h3 : y ≤ Y) : -(X * Y) ≤ x * y ∧ x * y ≤ X * Y := by
  have a1 := Int.mul_nonneg (show 0 ≤ X - x by omega) (show 0 ≤ Y + y by omega)
  have a2 := Int.mul_nonneg (show 0 ≤ X + x by omega) (show 0 ≤ Y - y by omega)
  have a3 := Int.mul_nonneg (show 0 ≤ X - x by omega) (show 0 ≤ Y - y by omega)
  have a4 := Int.mul_nonneg (show 0 ≤ X + x by omega) (show 0 ≤ Y + y by omega)
  rw [Int.sub_mul, Int.mul_add, Int.mul_add] at a1
  rw [Int.add_mul, Int.mul_sub, Int.mul_sub] at a2
  rw [Int.sub_mul, Int.mul_sub, Int.mul_sub] at a3
  rw [Int.add_mul, Int.mul_add, Int.mul_add] at a4
  omega
theorem c_mulh (a b : Int) (h0 : 0 ≤ a) (h1 : a < 4294967296) (h2 : 0 ≤ b) (h3 : b < 4294967296) : wrap64 (sg a * sg b) / 4294967296 % 4294967296 = mulhF a b := by
  have ha := sg_bd a h0 h1; have hb := sg_bd b h2 h3
  have := prod_bd (sg a) (sg b) 2147483648 2147483648 (by omega) (by omega) (by omega) (by omega)
  rw [wrap64_id _ (by omega) (by omega)]; rfl
theorem c_mulhsu (a b : Int) (h0 : 0 ≤ a) (h1 : a < 4294967296) (h2 : 0 ≤ b) (h3 : b < 4294967296) : wrap64 (sg a * b) / 4294967296 % 4294967296 = mulhsuF a b := by
  have ha := sg_bd a h0 h1
  have := prod_bd (sg a) b 2147483648 4294967295 (by omega) (by omega) (by omega) (by omega)
  rw [wrap64_id _ (by omega) (by omega)]; rfl
theorem c_slt1 (a b : Int) (h : sg a < sg b) : 1 = sltF a b := by unfold sltF; rw [if_pos h]
theorem c_slt0 (a b : Int) (h : sg b ≤ sg a) : 0 = sltF a b := by unfold sltF; rw [if_neg (by omega)]
theorem c_sltu1 (a b : Int) (h : a < b) : 1 = sltuF a b := by unfold sltuF; rw [if_pos h]
theorem c_sltu0 (a b : Int) (h : b ≤ a) : 0 = sltuF a b := by unfold sltuF; rw [if_neg (by omega)]
theorem c_rdiv (op a b : Int) (h1 : op ≠ 1) (h2 : op ≠ 2) (h3 : op < 19 ∨ 41 < op) : rdivF op a b = execF op a b := by
  by_cases h : op = 42 ∨ op = 43 ∨ op = 44 ∨ op = 45
  · rcases h with rfl | rfl | rfl | rfl <;> rfl
  · have e : execF op a b = 0 := by
      unfold execF
      split <;> first | rfl | (exfalso; omega)
    rw [e]; unfold rdivF; rw [if_neg (by omega), if_neg (by omega), if_neg (by omega), if_neg (by omega)]
theorem rexec_any (op a b : Int) (h0 : 0 ≤ a) (h1 : a < 4294967296) (h2 : 0 ≤ b) (h3 : b < 4294967296) (w : World) : Calls Tryz.prog 87 #[.int .i64 op, .int .u32 a, .int .u32 b] w (IsU (execF op a b) w) := by
  have i0 := is_lui op
  have i1 := is_auipc op
  have i2 := is_addi op
  have i3 := is_add op
  have i4 := is_sub op
  have i5 := is_slti op
  have i6 := is_slt op
  have i7 := is_sltiu op
  have i8 := is_sltu op
  have i9 := is_xori op
  have i10 := is_xor op
  have i11 := is_ori op
  have i12 := is_or op
  have i13 := is_andi op
  have i14 := is_and op
  have i15 := is_slli op
  have i16 := is_sll op
  have i17 := is_srli op
  have i18 := is_srl op
  have i19 := is_srai op
  have i20 := is_sra op
  have i21 := is_mul op
  have i22 := is_mulh op
  have i23 := is_mulhsu op
  have i24 := is_mulhu op
  have HG := Lib.hid (Grown.refl w)
  have hb := and31 b h2 h3
  have hb0 : 0 ≤ b % 32 := by omega
  have hb1 : b % 32 < 32 := by omega
  go_enter Tryz.func87, Tryz.ntmps87
  go_wp2_with (first
    | (go_at_call 88; refine (signed_any _ (by assumption) (by assumption) _).mono ?_; rintro e w' ⟨rfl, rfl⟩)
    | (go_at_call 81; refine (name_any _ _).mono ?_; rintro e w' ⟨rfl, hG⟩; have HG := Lib.hid (grown_trans HG.out hG); clear hG)
    | (go_at_call 125; refine (bit_any _ _).mono ?_; rintro e w' ⟨rfl, rfl⟩)
    | (go_at_call 126; refine (rdiv_any _ _ _ (by assumption) (by assumption) (by assumption) (by assumption) _).mono ?_; rintro e w' ⟨rfl, rfl⟩))
  all_goals
    go_ret
    refine isU_of ?_ HG.out
    clear hb i0 i1 i2 i3 i4 i5 i6 i7 i8 i9 i10 i11 i12 i13 i14 i15 i16 i17 i18 i19 i20 i21 i22 i23 i24
    go_tidy
    first
      | exact c_slt1 a b (by assumption)
      | exact c_slt0 a b (by assumption)
      | exact c_sltu1 a b (by assumption)
      | exact c_sltu0 a b (by assumption)
      | (have ho : op = 1 := by omega
         subst ho; exact rfl)
      | (have ho : op = 2 := by omega
         subst ho; exact (by show _ = (a + b * 4096) % 4294967296; omega))
      | (have ho : op = 19 := by omega
         subst ho; exact (c_add a b))
      | (have ho : op = 28 := by omega
         subst ho; exact (c_add a b))
      | (have ho : op = 29 := by omega
         subst ho; exact (c_sub a b))
      | (have ho : op = 22 := by omega
         subst ho; exact (or_sub_and a b h0 h1 h2 h3))
      | (have ho : op = 33 := by omega
         subst ho; exact (or_sub_and a b h0 h1 h2 h3))
      | (have ho : op = 23 := by omega
         subst ho; exact rfl)
      | (have ho : op = 36 := by omega
         subst ho; exact rfl)
      | (have ho : op = 24 := by omega
         subst ho; exact rfl)
      | (have ho : op = 37 := by omega
         subst ho; exact rfl)
      | (have ho : op = 25 := by omega
         subst ho; exact (wrap64_mod _))
      | (have ho : op = 30 := by omega
         subst ho; exact (wrap64_mod _))
      | (have ho : op = 26 := by omega
         subst ho; exact (c_shr a _ h0 h1))
      | (have ho : op = 34 := by omega
         subst ho; exact (c_shr a _ h0 h1))
      | (have ho : op = 27 := by omega
         subst ho; exact (c_sra a _ h0 h1))
      | (have ho : op = 35 := by omega
         subst ho; exact (c_sra a _ h0 h1))
      | (have ho : op = 38 := by omega
         subst ho; exact (c_mul a b))
      | (have ho : op = 39 := by omega
         subst ho; exact (c_mulh a b h0 h1 h2 h3))
      | (have ho : op = 40 := by omega
         subst ho; exact (c_mulhsu a b h0 h1 h2 h3))
      | (have ho : op = 41 := by omega
         subst ho; exact (by have p := mul_bd a b h0 h1 h2 h3; show _ = a * b / 4294967296; (try rw [IntKind.wrap_u64]); omega))
      | exact c_rdiv op a b (by omega) (by omega) (by omega)
end Go.Proofs.YtcpmgklhfpcaeaaGreatDoor.alu
