/- Part Q: the plain law of encoding: fields laid into a word are read back, and a word is made of its fields. -/
import Derived.Test.YtnkeghnnppoopaaDoorIsaK
namespace Go.Proofs.YtnkeghnnppoopaaDoor
open Go.RowKit
set_option linter.unusedVariables false

theorem and_zero_of (x y i j : Nat) (hij : i ≤ j) (hx : x / 2 ^ i % 2 ^ (j - i) = 0) (hy : y % 2 ^ i = 0) (hy2 : y < 2 ^ j) : x &&& y = 0 := by
  apply Nat.eq_of_testBit_eq
  intro k
  rw [Nat.testBit_and, Nat.zero_testBit]
  by_cases h1 : k < i
  · have : y.testBit k = false := by
      have h := congrArg (fun n => n.testBit k) hy
      simp only [Nat.testBit_mod_two_pow, Nat.zero_testBit, decide_eq_true h1, Bool.true_and] at h
      exact h
    rw [this, Bool.and_false]
  · by_cases h2 : k < j
    · have : x.testBit k = false := by
        have h := congrArg (fun n => n.testBit (k - i)) hx
        simp only [Nat.testBit_mod_two_pow, Nat.zero_testBit, decide_eq_true (show k - i < j - i by omega), Bool.true_and, Nat.testBit_div_two_pow] at h
        rw [show k - i + i = k by omega] at h
        exact h
      rw [this, Bool.false_and]
    · have : y.testBit k = false := Nat.testBit_lt_two_pow (Nat.lt_of_lt_of_le hy2 (Nat.pow_le_pow_right (by decide) (by omega)))
      rw [this, Bool.and_false]
theorem nat_or_add (x y : Nat) (hx : x < 4294967296) (hy : y < 4294967296) (h : x &&& y = 0) : x ||| y = x + y := by
  have hb : BitVec.ofNat 64 x &&& BitVec.ofNat 64 y = 0#64 := by
    apply BitVec.eq_of_toNat_eq
    rw [BitVec.toNat_and, BitVec.toNat_ofNat, BitVec.toNat_ofNat, Nat.mod_eq_of_lt (by omega), Nat.mod_eq_of_lt (by omega), h]; rfl
  have h1 := BitVec.toNat_add_of_and_eq_zero hb
  rw [BitVec.add_eq_or_of_and_eq_zero _ _ hb, BitVec.toNat_or, BitVec.toNat_ofNat, BitVec.toNat_ofNat, Nat.mod_eq_of_lt (by omega), Nat.mod_eq_of_lt (by omega)] at h1
  exact h1
theorem u32_or_add (x y m k n : Int) (i j : Nat) (hij : i ≤ j) (hj : j ≤ 32) (hm : m = ((2 ^ i : Nat) : Int)) (hn : n = ((2 ^ j : Nat) : Int)) (hk : k = ((2 ^ (j - i) : Nat) : Int))
    (x0 : 0 ≤ x) (x1 : x < 4294967296) (hx : x / m % k = 0) (y0 : 0 ≤ y) (y1 : y < n) (hy : y % m = 0) : bits .or .u32 x y = x + y := by
  have hjn : 2 ^ j ≤ 2 ^ 32 := Nat.pow_le_pow_right (by decide) hj
  obtain ⟨a, rfl⟩ := Int.eq_ofNat_of_zero_le x0
  obtain ⟨b, rfl⟩ := Int.eq_ofNat_of_zero_le y0
  have hb : b < 2 ^ j := by subst hn; exact_mod_cast y1
  rw [u32_or _ _ x0 x1 y0 (by omega), Int.toNat_natCast, Int.toNat_natCast]
  have hz : a &&& b = 0 := by
    refine and_zero_of a b i j hij ?_ ?_ hb
    · subst hm hk; exact_mod_cast hx
    · subst hm; exact_mod_cast hy
  rw [nat_or_add a b (by omega) (by omega) hz]
  rfl
theorem and_split (x m i : Nat) : x &&& m = 2 ^ i * (x / 2 ^ i &&& m / 2 ^ i) + (x % 2 ^ i &&& m % 2 ^ i) := by
  have := Nat.div_add_mod (x &&& m) (2 ^ i)
  rw [Nat.and_div_two_pow, Nat.and_mod_two_pow] at this
  exact this.symm
theorem and_m7 (x : Nat) : x &&& 127 = x % 128 := Nat.and_two_pow_sub_one_eq_mod x 7
theorem and_m3 (x : Nat) : x &&& 7 = x % 8 := Nat.and_two_pow_sub_one_eq_mod x 3
theorem and_m5 (x : Nat) : x &&& 31 = x % 32 := Nat.and_two_pow_sub_one_eq_mod x 5
theorem and_m4 (x : Nat) : x &&& 15 = x % 16 := Nat.and_two_pow_sub_one_eq_mod x 4
theorem and_m20 (x : Nat) : x &&& 1048575 = x % 1048576 := Nat.and_two_pow_sub_one_eq_mod x 20
theorem and_m32 (x : Nat) : x &&& 4294967295 = x % 4294967296 := Nat.and_two_pow_sub_one_eq_mod x 32
theorem and_F (x : Nat) : x &&& 28799 = x % 128 + 4096 * (x / 4096 % 8) := by
  have s1 := and_split x 28799 7
  have s2 := and_split (x / 2 ^ 7) (28799 / 2 ^ 7) 5
  simp only [Nat.reducePow, Nat.reduceDiv, Nat.reduceMod, Nat.and_zero, and_m3, and_m7] at s1 s2
  omega
theorem and_G (x : Nat) (hx : x < 4294967296) : x &&& 4261441663 = x % 128 + 4096 * (x / 4096 % 8) + 33554432 * (x / 33554432) := by
  have s0 := and_split x 4261441663 15
  have s3 := and_split (x / 2 ^ 15) (4261441663 / 2 ^ 15) 10
  have s1 := and_F (x % 32768)
  simp only [Nat.reducePow, Nat.reduceDiv, Nat.reduceMod, Nat.and_zero, and_m7] at s0 s1 s3
  omega
theorem and_A (x : Nat) (hx : x < 4294967296) : x &&& 4160778367 = x % 128 + 4096 * (x / 4096 % 8) + 134217728 * (x / 134217728) := by
  have s0 := and_split x 4160778367 15
  have s3 := and_split (x / 2 ^ 15) (4160778367 / 2 ^ 15) 12
  have s1 := and_F (x % 32768)
  simp only [Nat.reducePow, Nat.reduceDiv, Nat.reduceMod, Nat.and_zero, and_m5] at s0 s1 s3
  omega
theorem and_K (x : Nat) (hx : x < 4294967296) : x &&& 4193284223 = x % 128 + 4096 * (x / 4096 % 8) + 1048576 * (x / 1048576 % 32) + 134217728 * (x / 134217728) := by
  have s0 := and_split x 4193284223 15
  have s3 := and_split (x / 2 ^ 15) (4193284223 / 2 ^ 15) 5
  have s4 := and_split (x / 2 ^ 15 / 2 ^ 5) (4193284223 / 2 ^ 15 / 2 ^ 5) 7
  have s5 := and_split (x / 2 ^ 15 / 2 ^ 5 % 2 ^ 7) (4193284223 / 2 ^ 15 / 2 ^ 5 % 2 ^ 7) 5
  have s1 := and_F (x % 32768)
  simp only [Nat.reducePow, Nat.reduceDiv, Nat.reduceMod, Nat.and_zero, and_m5] at s0 s1 s3 s4 s5
  omega
theorem and_N (x : Nat) (hx : x < 4294967296) : x &&& 4027580415 = x % 1048576 + 268435456 * (x / 268435456) := by
  have s0 := and_split x 4027580415 20
  have s3 := and_split (x / 2 ^ 20) (4027580415 / 2 ^ 20) 8
  simp only [Nat.reducePow, Nat.reduceDiv, Nat.reduceMod, Nat.and_zero, and_m20, and_m4] at s0 s3
  omega
def maskP (f : Int) : Int :=
  match f with
  | 0 => 4294967295
  | 1 => 127
  | 2 => 127
  | 7 => 4261441663
  | 8 => 4261441663
  | 9 => 4160778367
  | 10 => 4193284223
  | 11 => 4027580415
  | _ => 28799
def kindOk (f v : Int) : Bool :=
  match f with
  | 0 => true
  | 1 => decide (v < 128)
  | 2 => decide (v < 128)
  | 7 => decide (v % 4096 < 128) && decide (v % 33554432 < 32768)
  | 8 => decide (v % 4096 < 128) && decide (v % 33554432 < 32768)
  | 9 => decide (v % 4096 < 128) && decide (v % 134217728 < 32768)
  | 10 => decide (v % 4096 < 128) && decide (v % 134217728 < 32768)
  | 11 => decide (v = 15)
  | _ => decide (v % 4096 < 128) && decide (v < 32768)
theorem forms_ok : ((List.range 67).all fun i => decide (0 ≤ (shP (i + 1 : Nat)).1) && decide ((shP (i + 1 : Nat)).1 ≤ 13) && (shP (i + 1 : Nat)).2.1 == maskP (shP (i + 1 : Nat)).1 && kindOk (shP (i + 1 : Nat)).1 (shP (i + 1 : Nat)).2.2 && decide (0 ≤ (shP (i + 1 : Nat)).2.2) && decide ((shP (i + 1 : Nat)).2.2 < 4294967296)) = true := by kernel_rfl
theorem forms_at (op : Int) (h1 : 1 ≤ op) (h2 : op ≤ 67) : 0 ≤ (shP op).1 ∧ (shP op).1 ≤ 13 ∧ (shP op).2.1 = maskP (shP op).1 ∧ kindOk (shP op).1 (shP op).2.2 = true ∧ 0 ≤ (shP op).2.2 ∧ (shP op).2.2 < 4294967296 := by
  have h := List.all_eq_true.1 forms_ok (op.toNat - 1) (List.mem_range.2 (by omega))
  simp only [Bool.and_eq_true, decide_eq_true_eq, beq_iff_eq] at h
  have e : ((op.toNat - 1 + 1 : Nat) : Int) = op := by omega
  rw [e] at h
  obtain ⟨⟨⟨⟨⟨a, b⟩, c⟩, d⟩, e⟩, f⟩ := h
  exact ⟨a, b, c, d, e, f⟩
/-- a word matches, in numbers -/
def MtA (f v x : Int) : Prop :=
  match f with
  | 0 => x = v
  | 1 => x % 128 = v
  | 2 => x % 128 = v
  | 7 => x % 128 = v % 128 ∧ x / 4096 % 8 = v / 4096 % 8 ∧ x / 33554432 = v / 33554432
  | 8 => x % 128 = v % 128 ∧ x / 4096 % 8 = v / 4096 % 8 ∧ x / 33554432 = v / 33554432
  | 9 => x % 128 = v % 128 ∧ x / 4096 % 8 = v / 4096 % 8 ∧ x / 134217728 = v / 134217728
  | 10 => x % 128 = v % 128 ∧ x / 4096 % 8 = v / 4096 % 8 ∧ x / 1048576 % 32 = 0 ∧ x / 134217728 = v / 134217728
  | 11 => x % 1048576 = 15 ∧ x / 268435456 = 0
  | _ => x % 128 = v % 128 ∧ x / 4096 % 8 = v / 4096
theorem f_cases {f : Int} (h0 : 0 ≤ f) (h1 : f ≤ 13) : f = 0 ∨ f = 1 ∨ f = 2 ∨ f = 3 ∨ f = 4 ∨ f = 5 ∨ f = 6 ∨ f = 7 ∨ f = 8 ∨ f = 9 ∨ f = 10 ∨ f = 11 ∨ f = 12 ∨ f = 13 := by omega
theorem and_toNat (x m v : Int) (x0 : 0 ≤ x) (x1 : x < 4294967296) (m0 : 0 ≤ m) (m1 : m < 4294967296) (v0 : 0 ≤ v) : bits .and .u32 x m = v ↔ x.toNat &&& m.toNat = v.toNat := by
  rw [u32_and _ _ x0 x1 m0 m1]
  constructor
  · intro h; omega
  · intro h; omega
set_option maxHeartbeats 4000000 in
theorem mt_arith (op : Int) (h1 : 1 ≤ op) (h2 : op ≤ 67) (x : Int) (x0 : 0 ≤ x) (x1 : x < 4294967296) : Mt op x ↔ MtA (shP op).1 (shP op).2.2 x := by
  obtain ⟨f0, f1, hm, hk, v0, v1⟩ := forms_at op h1 h2
  unfold Mt
  rw [hm]
  clear hm
  generalize (shP op).1 = f at *
  generalize (shP op).2.2 = v at *
  rcases f_cases f0 f1 with rfl | rfl | rfl | rfl | rfl | rfl | rfl | rfl | rfl | rfl | rfl | rfl | rfl | rfl <;> simp only [maskP, kindOk, MtA, Bool.and_eq_true, decide_eq_true_eq] at hk ⊢
  · rw [and_toNat _ _ _ x0 x1 (by decide) (by decide) v0, show (4294967295 : Int).toNat = 4294967295 from rfl, and_m32]; omega
  · rw [and_toNat _ _ _ x0 x1 (by decide) (by decide) v0, show (127 : Int).toNat = 127 from rfl, and_m7]; omega
  · rw [and_toNat _ _ _ x0 x1 (by decide) (by decide) v0, show (127 : Int).toNat = 127 from rfl, and_m7]; omega
  · rw [and_toNat _ _ _ x0 x1 (by decide) (by decide) v0, show (28799 : Int).toNat = 28799 from rfl, and_F]; omega
  · rw [and_toNat _ _ _ x0 x1 (by decide) (by decide) v0, show (28799 : Int).toNat = 28799 from rfl, and_F]; omega
  · rw [and_toNat _ _ _ x0 x1 (by decide) (by decide) v0, show (28799 : Int).toNat = 28799 from rfl, and_F]; omega
  · rw [and_toNat _ _ _ x0 x1 (by decide) (by decide) v0, show (28799 : Int).toNat = 28799 from rfl, and_F]; omega
  · rw [and_toNat _ _ _ x0 x1 (by decide) (by decide) v0, show (4261441663 : Int).toNat = 4261441663 from rfl, and_G _ (by omega)]; omega
  · rw [and_toNat _ _ _ x0 x1 (by decide) (by decide) v0, show (4261441663 : Int).toNat = 4261441663 from rfl, and_G _ (by omega)]; omega
  · rw [and_toNat _ _ _ x0 x1 (by decide) (by decide) v0, show (4160778367 : Int).toNat = 4160778367 from rfl, and_A _ (by omega)]; omega
  · rw [and_toNat _ _ _ x0 x1 (by decide) (by decide) v0, show (4193284223 : Int).toNat = 4193284223 from rfl, and_K _ (by omega)]; omega
  · rw [and_toNat _ _ _ x0 x1 (by decide) (by decide) v0, show (4027580415 : Int).toNat = 4027580415 from rfl, and_N _ (by omega)]; omega
  · rw [and_toNat _ _ _ x0 x1 (by decide) (by decide) v0, show (28799 : Int).toNat = 28799 from rfl, and_F]; omega
  · rw [and_toNat _ _ _ x0 x1 (by decide) (by decide) v0, show (28799 : Int).toNat = 28799 from rfl, and_F]; omega
def Rg (r : Int) : Prop := 0 ≤ r ∧ r < 32
/-- the fields of an instruction in a word -/
def fldF (f rd rs1 rs2 imm : Int) : Int :=
  match f with
  | 0 => 0
  | 1 => rd * 128 + imm * 4096
  | 2 => rd * 128 + imm / 1048576 % 2 * 2147483648 + imm / 2 % 1024 * 2097152 + imm / 2048 % 2 * 1048576 + imm / 4096 % 256 * 4096
  | 3 => rs1 * 32768 + rs2 * 1048576 + imm / 4096 % 2 * 2147483648 + imm / 32 % 64 * 33554432 + imm / 2 % 16 * 256 + imm / 2048 % 2 * 128
  | 5 => rs1 * 32768 + rs2 * 1048576 + imm / 32 % 128 * 33554432 + imm % 32 * 128
  | 7 => rd * 128 + rs1 * 32768 + imm * 1048576
  | 8 => rd * 128 + rs1 * 32768 + rs2 * 1048576
  | 9 => rd * 128 + rs1 * 32768 + rs2 * 1048576 + imm * 33554432
  | 10 => rd * 128 + rs1 * 32768 + imm * 33554432
  | 11 => imm * 1048576
  | 12 => rd * 128 + rs1 * 32768 + imm * 1048576
  | 13 => rd * 128 + rs1 * 32768 + imm * 1048576
  | _ => rd * 128 + rs1 * 32768 + imm % 4096 * 1048576
/-- may an instruction have these fields? -/
def okF (f rd rs1 rs2 imm : Int) : Prop :=
  match f with
  | 0 => rd = 0 ∧ rs1 = 0 ∧ rs2 = 0 ∧ imm = 0
  | 1 => rs1 = 0 ∧ rs2 = 0 ∧ 0 ≤ imm ∧ imm < 1048576
  | 2 => rs1 = 0 ∧ rs2 = 0 ∧ -1048576 ≤ imm ∧ imm < 1048576 ∧ imm % 2 = 0
  | 3 => rd = 0 ∧ -4096 ≤ imm ∧ imm < 4096 ∧ imm % 2 = 0
  | 4 => rs2 = 0 ∧ -2048 ≤ imm ∧ imm < 2048
  | 5 => rd = 0 ∧ -2048 ≤ imm ∧ imm < 2048
  | 6 => rs2 = 0 ∧ -2048 ≤ imm ∧ imm < 2048
  | 7 => rs2 = 0 ∧ 0 ≤ imm ∧ imm < 32
  | 8 => imm = 0
  | 9 => 0 ≤ imm ∧ imm < 4
  | 10 => rs2 = 0 ∧ 0 ≤ imm ∧ imm < 4
  | 11 => rd = 0 ∧ rs1 = 0 ∧ rs2 = 0 ∧ 0 ≤ imm ∧ imm < 256
  | 12 => rs2 = 0 ∧ 0 ≤ imm ∧ imm < 4096
  | _ => rs2 = 0 ∧ 0 ≤ imm ∧ imm < 4096
instance (f rd rs1 rs2 imm : Int) : Decidable (okF f rd rs1 rs2 imm) := by unfold okF; split <;> infer_instance
theorem part_def (x : Int) (s n : Nat) : partF x s n = x / 2 ^ s % 2 ^ n := rfl
/-- fields that were read have a register's size -/
theorem read_rg (f x : Int) (f0 : 0 ≤ f) (f1 : f ≤ 13) : (0 ≤ (readT f x).1 ∧ (readT f x).1 < 32) ∧ (0 ≤ (readT f x).2.1 ∧ (readT f x).2.1 < 32) ∧ (0 ≤ (readT f x).2.2.1 ∧ (readT f x).2.2.1 < 32) := by
  rcases f_cases f0 f1 with rfl | rfl | rfl | rfl | rfl | rfl | rfl | rfl | rfl | rfl | rfl | rfl | rfl | rfl <;> simp only [readT, part_def, Int.reducePow] <;> omega
end Go.Proofs.YtnkeghnnppoopaaDoor
