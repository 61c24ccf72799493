/- Part T: what is written of an instruction, format by format. -/
import Derived.Test.YtnkeghnnppoopaaDoorIsaR
namespace Go.Proofs.YtnkeghnnppoopaaDoor
open Go.RowKit Go.XHeap
set_option linter.unusedVariables false

theorem quiet_add_same {P : Program} {f : FuncId} {args : Array Value} {w : World} {a n : Nat} {v : Value}
    (h : Calls P f args (w.drewN (a + n)) fun e w' => e = .returned v ∧ w' = w.drewN (a + n)) :
    Calls P f args (w.drewN (a + n)) fun e w'' => e = .returned v ∧ ∃ m, w'' = w.drewN (a + m) :=
  h.mono fun _ _ ⟨he, hm⟩ => ⟨he, n, hm⟩
theorem ret_bool {a b : Bool} (h : a = b) : Ending.returned (.bool a) = .returned (.bool b) := by rw [h]
theorem low_in (n : Int) (b : Int) (hb0 : 1 ≤ b) (hb1 : b ≤ 20) (h0 : 0 ≤ n) (w : World) : Calls Tryd.prog 15 #[.int .i64 n, .int .i64 b] w fun e w' => e = .returned (.bool (decide (n < 2 ^ b.toNat))) ∧ w' = w := by
  have hp := pow_le31 b.toNat (by omega)
  have HW : Hid (wrap64 (2 ^ b.toNat) = 2 ^ b.toNat) := Lib.hid (wrap64_in _ (by omega) (by omega))
  clear hp
  go_enter Tryd.func15, Tryd.ntmps15
  go_wp2
  go_ret
  exact ⟨ret_bool (by rw [HW.out]), rfl⟩
theorem low_yes (n : Int) (b : Int) (hb0 : 1 ≤ b) (hb1 : b ≤ 20) (h0 : 0 ≤ n) (h1 : n < 2 ^ b.toNat) (w : World) : Calls Tryd.prog 15 #[.int .i64 n, .int .i64 b] w fun e w' => e = .returned (.bool true) ∧ w' = w := by
  have h := low_in n b hb0 hb1 h0 w
  rwa [decide_eq_true h1] at h
theorem low_no (n : Int) (b : Int) (hb0 : 1 ≤ b) (hb1 : b ≤ 20) (h1 : n < 0 ∨ 2 ^ b.toNat ≤ n) (w : World) : Calls Tryd.prog 15 #[.int .i64 n, .int .i64 b] w fun e w' => e = .returned (.bool false) ∧ w' = w := by
  by_cases h0 : 0 ≤ n
  · have h := low_in n b hb0 hb1 h0 w
    have hd : decide (n < 2 ^ b.toNat) = false := decide_eq_false (by omega)
    rwa [hd] at h
  · have h0' : n < 0 := by omega
    clear h1 h0
    go_enter Tryd.func15, Tryd.ntmps15
    go_wp2
    go_ret
    exact ⟨rfl, rfl⟩
theorem within_21_yes (n : Int) (h0 : -1048576 ≤ n) (h1 : n < 1048576) (w : World) : Calls Tryd.prog 23 #[.int .i64 n, .int .i64 21] w fun e w' => e = .returned (.bool true) ∧ w' = w := by
  go_enter Tryd.func23, Tryd.ntmps23
  go_wp2
  go_ret
  exact ⟨rfl, rfl⟩
theorem within_21_no (n : Int) (h : n < -1048576 ∨ 1048576 ≤ n) (w : World) : Calls Tryd.prog 23 #[.int .i64 n, .int .i64 21] w fun e w' => e = .returned (.bool false) ∧ w' = w := by
  rcases h with h | h
  · go_enter Tryd.func23, Tryd.ntmps23
    go_wp2
    go_ret
    exact ⟨rfl, rfl⟩
  · have h2 : -1048576 ≤ n := by omega
    have hd : decide (n < 1048576) = false := by simp; omega
    have HD := Lib.hid hd
    clear hd h
    go_enter Tryd.func23, Tryd.ntmps23
    go_wp2
    go_ret
    exact ⟨ret_bool HD.out, rfl⟩
theorem within_13_yes (n : Int) (h0 : -4096 ≤ n) (h1 : n < 4096) (w : World) : Calls Tryd.prog 23 #[.int .i64 n, .int .i64 13] w fun e w' => e = .returned (.bool true) ∧ w' = w := by
  go_enter Tryd.func23, Tryd.ntmps23
  go_wp2
  go_ret
  exact ⟨rfl, rfl⟩
theorem within_13_no (n : Int) (h : n < -4096 ∨ 4096 ≤ n) (w : World) : Calls Tryd.prog 23 #[.int .i64 n, .int .i64 13] w fun e w' => e = .returned (.bool false) ∧ w' = w := by
  rcases h with h | h
  · go_enter Tryd.func23, Tryd.ntmps23
    go_wp2
    go_ret
    exact ⟨rfl, rfl⟩
  · have h2 : -4096 ≤ n := by omega
    have hd : decide (n < 4096) = false := by simp; omega
    have HD := Lib.hid hd
    clear hd h
    go_enter Tryd.func23, Tryd.ntmps23
    go_wp2
    go_ret
    exact ⟨ret_bool HD.out, rfl⟩
theorem within_12_yes (n : Int) (h0 : -2048 ≤ n) (h1 : n < 2048) (w : World) : Calls Tryd.prog 23 #[.int .i64 n, .int .i64 12] w fun e w' => e = .returned (.bool true) ∧ w' = w := by
  go_enter Tryd.func23, Tryd.ntmps23
  go_wp2
  go_ret
  exact ⟨rfl, rfl⟩
theorem within_12_no (n : Int) (h : n < -2048 ∨ 2048 ≤ n) (w : World) : Calls Tryd.prog 23 #[.int .i64 n, .int .i64 12] w fun e w' => e = .returned (.bool false) ∧ w' = w := by
  rcases h with h | h
  · go_enter Tryd.func23, Tryd.ntmps23
    go_wp2
    go_ret
    exact ⟨rfl, rfl⟩
  · have h2 : -2048 ≤ n := by omega
    have hd : decide (n < 2048) = false := by simp; omega
    have HD := Lib.hid hd
    clear hd h
    go_enter Tryd.func23, Tryd.ntmps23
    go_wp2
    go_ret
    exact ⟨ret_bool HD.out, rfl⟩
def WrY (y : Int) (w : World) (e : Ending) (w' : World) : Prop := e = .returned (.tuple #[.int .u32 y, .bool true]) ∧ Grown w w'
def WrNo (w : World) (e : Ending) (w' : World) : Prop := (∃ y, e = .returned (.tuple #[.int .u32 y, .bool false])) ∧ Grown w w'
theorem ret_yb {x y : Int} {b : Bool} (h : x = y) : Ending.returned (.tuple #[.int .u32 x, .bool b]) = .returned (.tuple #[.int .u32 y, .bool b]) := by rw [h]
/-- the fields of an instruction in a word, whatever the number -/
def sumF (f rd rs1 rs2 imm : Int) : Int :=
  match f with
  | 0 => 0
  | 1 => rd * 128 + imm * 4096
  | 2 => rd * 128 + imm / 1048576 % 2 * 2147483648 + imm / 2 % 1024 * 2097152 + imm / 2048 % 2 * 1048576 + imm / 4096 % 256 * 4096
  | 3 => rs1 * 32768 + rs2 * 1048576 + imm / 4096 % 2 * 2147483648 + imm / 32 % 64 * 33554432 + imm / 2 % 16 * 256 + imm / 2048 % 2 * 128
  | 5 => rs1 * 32768 + rs2 * 1048576 + imm / 32 % 128 * 33554432 + imm % 32 * 128
  | 7 => rd * 128 + rs1 * 32768 + imm * 1048576
  | 8 => rd * 128 + rs1 * 32768 + rs2 * 1048576
  | 9 => rd * 128 + rs1 * 32768 + rs2 * 1048576 + imm * 33554432
  | 10 => rd * 128 + rs1 * 32768 + imm * 33554432
  | 11 => imm * 1048576
  | 12 => rd * 128 + rs1 * 32768 + imm * 1048576
  | 13 => rd * 128 + rs1 * 32768 + imm * 1048576
  | _ => rd * 128 + rs1 * 32768 + imm % 4096 * 1048576
theorem and_k (x m : Int) (k : Nat) (hk : k ≤ 32) (hm : m = 2 ^ k - 1) (x0 : 0 ≤ x) (x1 : x < 4294967296) : bits .and .u32 x m = x % 2 ^ k := by
  rw [hm]; exact bits_mask .u32 32 (by decide) wraps_u32 k hk x x0 (by omega)
theorem raw1 (rd rs1 rs2 imm : Int) (d0 : 0 ≤ rd) (d1 : rd < 32) (a0 : 0 ≤ rs1) (a1 : rs1 < 32) (b0 : 0 ≤ rs2) (b1 : rs2 < 32) (i0 : 0 ≤ imm) (i1 : imm < 1048576) : bits .or .u32 (rd * 128) (imm * 4096) = sumF 1 rd rs1 rs2 imm :=
  u32_or_add _ _ 4096 1048576 4294967296 12 32 (by decide) (by decide) (by decide) (by decide) (by decide) (by omega) (by omega) (by omega) (by omega) (by omega) (by omega)
theorem raw2 (rd rs1 rs2 imm : Int) (d0 : 0 ≤ rd) (d1 : rd < 32) (a0 : 0 ≤ rs1) (a1 : rs1 < 32) (b0 : 0 ≤ rs2) (b1 : rs2 < 32) : bits .or .u32 (bits .or .u32 (bits .or .u32 (bits .or .u32 (rd * 128) (bits .and .u32 (imm % 4294967296 / 1048576) 1 * 2147483648 % 4294967296)) (bits .and .u32 (imm % 4294967296 / 2) 1023 * 2097152 % 4294967296)) (bits .and .u32 (imm % 4294967296 / 2048) 1 * 1048576 % 4294967296)) (bits .and .u32 (imm % 4294967296 / 4096) 255 * 4096 % 4294967296) = sumF 2 rd rs1 rs2 imm := by
  have u0 : 0 ≤ imm % 4294967296 := by omega
  have u1 : imm % 4294967296 < 4294967296 := by omega
  unfold sumF
  simp only []
  rw [and_k (imm % 4294967296 / 1048576) 1 1 (by decide) (by decide) (by omega) (by omega)]
  rw [show (2 : Int) ^ 1 = 2 from by decide]
  rw [and_k (imm % 4294967296 / 2) 1023 10 (by decide) (by decide) (by omega) (by omega)]
  rw [show (2 : Int) ^ 10 = 1024 from by decide]
  rw [and_k (imm % 4294967296 / 2048) 1 1 (by decide) (by decide) (by omega) (by omega)]
  rw [show (2 : Int) ^ 1 = 2 from by decide]
  rw [and_k (imm % 4294967296 / 4096) 255 8 (by decide) (by decide) (by omega) (by omega)]
  rw [show (2 : Int) ^ 8 = 256 from by decide]
  rw [show imm % 4294967296 / 1048576 % 2 = imm / 1048576 % 2 from by omega]
  rw [show imm % 4294967296 / 2 % 1024 = imm / 2 % 1024 from by omega]
  rw [show imm % 4294967296 / 2048 % 2 = imm / 2048 % 2 from by omega]
  rw [show imm % 4294967296 / 4096 % 256 = imm / 4096 % 256 from by omega]
  have hp : 0 ≤ imm / 1048576 % 2 ∧ imm / 1048576 % 2 < 2 := by omega
  have hq : 0 ≤ imm / 2 % 1024 ∧ imm / 2 % 1024 < 1024 := by omega
  have hr : 0 ≤ imm / 2048 % 2 ∧ imm / 2048 % 2 < 2 := by omega
  have hs : 0 ≤ imm / 4096 % 256 ∧ imm / 4096 % 256 < 256 := by omega
  clear u0 u1
  generalize imm / 1048576 % 2 = p at *
  generalize imm / 2 % 1024 = q at *
  generalize imm / 2048 % 2 = r at *
  generalize imm / 4096 % 256 = s at *
  rw [show p * 2147483648 % 4294967296 = p * 2147483648 from by omega, u32_or_add (rd * 128) (p * 2147483648) 2147483648 2 4294967296 31 32 (by decide) (by decide) (by decide) (by decide) (by decide) (by omega) (by omega) (by omega) (by omega) (by omega) (by omega)]
  rw [show q * 2097152 % 4294967296 = q * 2097152 from by omega, u32_or_add (rd * 128 + p * 2147483648) (q * 2097152) 2097152 1024 2147483648 21 31 (by decide) (by decide) (by decide) (by decide) (by decide) (by omega) (by omega) (by omega) (by omega) (by omega) (by omega)]
  rw [show r * 1048576 % 4294967296 = r * 1048576 from by omega, u32_or_add (rd * 128 + p * 2147483648 + q * 2097152) (r * 1048576) 1048576 2 2097152 20 21 (by decide) (by decide) (by decide) (by decide) (by decide) (by omega) (by omega) (by omega) (by omega) (by omega) (by omega)]
  rw [show s * 4096 % 4294967296 = s * 4096 from by omega, u32_or_add (rd * 128 + p * 2147483648 + q * 2097152 + r * 1048576) (s * 4096) 4096 256 1048576 12 20 (by decide) (by decide) (by decide) (by decide) (by decide) (by omega) (by omega) (by omega) (by omega) (by omega) (by omega)]
theorem raw3 (rd rs1 rs2 imm : Int) (d0 : 0 ≤ rd) (d1 : rd < 32) (a0 : 0 ≤ rs1) (a1 : rs1 < 32) (b0 : 0 ≤ rs2) (b1 : rs2 < 32) : bits .or .u32 (bits .or .u32 (bits .or .u32 (bits .or .u32 (bits .or .u32 (rs1 * 32768) (rs2 * 1048576)) (bits .and .u32 (imm % 4294967296 / 4096) 1 * 2147483648 % 4294967296)) (bits .and .u32 (imm % 4294967296 / 32) 63 * 33554432 % 4294967296)) (bits .and .u32 (imm % 4294967296 / 2) 15 * 256 % 4294967296)) (bits .and .u32 (imm % 4294967296 / 2048) 1 * 128 % 4294967296) = sumF 3 rd rs1 rs2 imm := by
  have u0 : 0 ≤ imm % 4294967296 := by omega
  have u1 : imm % 4294967296 < 4294967296 := by omega
  unfold sumF
  simp only []
  rw [and_k (imm % 4294967296 / 4096) 1 1 (by decide) (by decide) (by omega) (by omega)]
  rw [show (2 : Int) ^ 1 = 2 from by decide]
  rw [and_k (imm % 4294967296 / 32) 63 6 (by decide) (by decide) (by omega) (by omega)]
  rw [show (2 : Int) ^ 6 = 64 from by decide]
  rw [and_k (imm % 4294967296 / 2) 15 4 (by decide) (by decide) (by omega) (by omega)]
  rw [show (2 : Int) ^ 4 = 16 from by decide]
  rw [and_k (imm % 4294967296 / 2048) 1 1 (by decide) (by decide) (by omega) (by omega)]
  rw [show (2 : Int) ^ 1 = 2 from by decide]
  rw [show imm % 4294967296 / 4096 % 2 = imm / 4096 % 2 from by omega]
  rw [show imm % 4294967296 / 32 % 64 = imm / 32 % 64 from by omega]
  rw [show imm % 4294967296 / 2 % 16 = imm / 2 % 16 from by omega]
  rw [show imm % 4294967296 / 2048 % 2 = imm / 2048 % 2 from by omega]
  have hp : 0 ≤ imm / 4096 % 2 ∧ imm / 4096 % 2 < 2 := by omega
  have hq : 0 ≤ imm / 32 % 64 ∧ imm / 32 % 64 < 64 := by omega
  have hr : 0 ≤ imm / 2 % 16 ∧ imm / 2 % 16 < 16 := by omega
  have hs : 0 ≤ imm / 2048 % 2 ∧ imm / 2048 % 2 < 2 := by omega
  clear u0 u1
  generalize imm / 4096 % 2 = p at *
  generalize imm / 32 % 64 = q at *
  generalize imm / 2 % 16 = r at *
  generalize imm / 2048 % 2 = s at *
  rw [u32_or_add (rs1 * 32768) (rs2 * 1048576) 1048576 32 33554432 20 25 (by decide) (by decide) (by decide) (by decide) (by decide) (by omega) (by omega) (by omega) (by omega) (by omega) (by omega)]
  rw [show p * 2147483648 % 4294967296 = p * 2147483648 from by omega, u32_or_add (rs1 * 32768 + rs2 * 1048576) (p * 2147483648) 2147483648 2 4294967296 31 32 (by decide) (by decide) (by decide) (by decide) (by decide) (by omega) (by omega) (by omega) (by omega) (by omega) (by omega)]
  rw [show q * 33554432 % 4294967296 = q * 33554432 from by omega, u32_or_add (rs1 * 32768 + rs2 * 1048576 + p * 2147483648) (q * 33554432) 33554432 64 2147483648 25 31 (by decide) (by decide) (by decide) (by decide) (by decide) (by omega) (by omega) (by omega) (by omega) (by omega) (by omega)]
  rw [show r * 256 % 4294967296 = r * 256 from by omega, u32_or_add (rs1 * 32768 + rs2 * 1048576 + p * 2147483648 + q * 33554432) (r * 256) 256 16 4096 8 12 (by decide) (by decide) (by decide) (by decide) (by decide) (by omega) (by omega) (by omega) (by omega) (by omega) (by omega)]
  rw [show s * 128 % 4294967296 = s * 128 from by omega, u32_or_add (rs1 * 32768 + rs2 * 1048576 + p * 2147483648 + q * 33554432 + r * 256) (s * 128) 128 2 256 7 8 (by decide) (by decide) (by decide) (by decide) (by decide) (by omega) (by omega) (by omega) (by omega) (by omega) (by omega)]
theorem raw5 (rd rs1 rs2 imm : Int) (d0 : 0 ≤ rd) (d1 : rd < 32) (a0 : 0 ≤ rs1) (a1 : rs1 < 32) (b0 : 0 ≤ rs2) (b1 : rs2 < 32) : bits .or .u32 (bits .or .u32 (bits .or .u32 (rs1 * 32768) (rs2 * 1048576)) (bits .and .u32 (imm % 4294967296 / 32) 127 * 33554432 % 4294967296)) (bits .and .u32 (imm % 4294967296) 31 * 128 % 4294967296) = sumF 5 rd rs1 rs2 imm := by
  have u0 : 0 ≤ imm % 4294967296 := by omega
  have u1 : imm % 4294967296 < 4294967296 := by omega
  unfold sumF
  simp only []
  rw [and_k (imm % 4294967296 / 32) 127 7 (by decide) (by decide) (by omega) (by omega)]
  rw [show (2 : Int) ^ 7 = 128 from by decide]
  rw [and_k (imm % 4294967296) 31 5 (by decide) (by decide) (by omega) (by omega)]
  rw [show (2 : Int) ^ 5 = 32 from by decide]
  rw [show imm % 4294967296 / 32 % 128 = imm / 32 % 128 from by omega]
  rw [show imm % 4294967296 % 32 = imm % 32 from by omega]
  have hp : 0 ≤ imm / 32 % 128 ∧ imm / 32 % 128 < 128 := by omega
  have hq : 0 ≤ imm % 32 ∧ imm % 32 < 32 := by omega
  clear u0 u1
  generalize imm / 32 % 128 = p at *
  generalize imm % 32 = q at *
  rw [u32_or_add (rs1 * 32768) (rs2 * 1048576) 1048576 32 33554432 20 25 (by decide) (by decide) (by decide) (by decide) (by decide) (by omega) (by omega) (by omega) (by omega) (by omega) (by omega)]
  rw [show p * 33554432 % 4294967296 = p * 33554432 from by omega, u32_or_add (rs1 * 32768 + rs2 * 1048576) (p * 33554432) 33554432 128 4294967296 25 32 (by decide) (by decide) (by decide) (by decide) (by decide) (by omega) (by omega) (by omega) (by omega) (by omega) (by omega)]
  rw [show q * 128 % 4294967296 = q * 128 from by omega, u32_or_add (rs1 * 32768 + rs2 * 1048576 + p * 33554432) (q * 128) 128 32 4096 7 12 (by decide) (by decide) (by decide) (by decide) (by decide) (by omega) (by omega) (by omega) (by omega) (by omega) (by omega)]
theorem raw4 (rd rs1 rs2 imm : Int) (d0 : 0 ≤ rd) (d1 : rd < 32) (a0 : 0 ≤ rs1) (a1 : rs1 < 32) (b0 : 0 ≤ rs2) (b1 : rs2 < 32) : bits .or .u32 (bits .or .u32 (rd * 128) (rs1 * 32768)) (imm % 4294967296 * 1048576 % 4294967296) = rd * 128 + rs1 * 32768 + imm % 4096 * 1048576 := by
  rw [show imm % 4294967296 * 1048576 % 4294967296 = imm % 4096 * 1048576 from by omega]
  have h : 0 ≤ imm % 4096 ∧ imm % 4096 < 4096 := by omega
  generalize imm % 4096 = p at *
  rw [u32_or_add (rd * 128) (rs1 * 32768) 32768 32 1048576 15 20 (by decide) (by decide) (by decide) (by decide) (by decide) (by omega) (by omega) (by omega) (by omega) (by omega) (by omega), u32_or_add (rd * 128 + rs1 * 32768) (p * 1048576) 1048576 4096 4294967296 20 32 (by decide) (by decide) (by decide) (by decide) (by decide) (by omega) (by omega) (by omega) (by omega) (by omega) (by omega)]
theorem raw7 (rd rs1 rs2 imm : Int) (d0 : 0 ≤ rd) (d1 : rd < 32) (a0 : 0 ≤ rs1) (a1 : rs1 < 32) (b0 : 0 ≤ rs2) (b1 : rs2 < 32) (i0 : 0 ≤ imm) (i1 : imm < 4096) : bits .or .u32 (bits .or .u32 (rd * 128) (rs1 * 32768)) (imm * 1048576) = rd * 128 + rs1 * 32768 + imm * 1048576 := by
  rw [u32_or_add (rd * 128) (rs1 * 32768) 32768 32 1048576 15 20 (by decide) (by decide) (by decide) (by decide) (by decide) (by omega) (by omega) (by omega) (by omega) (by omega) (by omega), u32_or_add (rd * 128 + rs1 * 32768) (imm * 1048576) 1048576 4096 4294967296 20 32 (by decide) (by decide) (by decide) (by decide) (by decide) (by omega) (by omega) (by omega) (by omega) (by omega) (by omega)]
theorem raw8 (rd rs1 rs2 imm : Int) (d0 : 0 ≤ rd) (d1 : rd < 32) (a0 : 0 ≤ rs1) (a1 : rs1 < 32) (b0 : 0 ≤ rs2) (b1 : rs2 < 32) : bits .or .u32 (bits .or .u32 (rd * 128) (rs1 * 32768)) (rs2 * 1048576) = rd * 128 + rs1 * 32768 + rs2 * 1048576 := by
  rw [u32_or_add (rd * 128) (rs1 * 32768) 32768 32 1048576 15 20 (by decide) (by decide) (by decide) (by decide) (by decide) (by omega) (by omega) (by omega) (by omega) (by omega) (by omega), u32_or_add (rd * 128 + rs1 * 32768) (rs2 * 1048576) 1048576 32 33554432 20 25 (by decide) (by decide) (by decide) (by decide) (by decide) (by omega) (by omega) (by omega) (by omega) (by omega) (by omega)]
theorem raw9 (rd rs1 rs2 imm : Int) (d0 : 0 ≤ rd) (d1 : rd < 32) (a0 : 0 ≤ rs1) (a1 : rs1 < 32) (b0 : 0 ≤ rs2) (b1 : rs2 < 32) (i0 : 0 ≤ imm) (i1 : imm < 4) : bits .or .u32 (bits .or .u32 (bits .or .u32 (rd * 128) (rs1 * 32768)) (rs2 * 1048576)) (imm * 33554432) = rd * 128 + rs1 * 32768 + rs2 * 1048576 + imm * 33554432 := by
  rw [u32_or_add (rd * 128) (rs1 * 32768) 32768 32 1048576 15 20 (by decide) (by decide) (by decide) (by decide) (by decide) (by omega) (by omega) (by omega) (by omega) (by omega) (by omega), u32_or_add (rd * 128 + rs1 * 32768) (rs2 * 1048576) 1048576 32 33554432 20 25 (by decide) (by decide) (by decide) (by decide) (by decide) (by omega) (by omega) (by omega) (by omega) (by omega) (by omega), u32_or_add (rd * 128 + rs1 * 32768 + rs2 * 1048576) (imm * 33554432) 33554432 4 134217728 25 27 (by decide) (by decide) (by decide) (by decide) (by decide) (by omega) (by omega) (by omega) (by omega) (by omega) (by omega)]
theorem raw10 (rd rs1 rs2 imm : Int) (d0 : 0 ≤ rd) (d1 : rd < 32) (a0 : 0 ≤ rs1) (a1 : rs1 < 32) (b0 : 0 ≤ rs2) (b1 : rs2 < 32) (i0 : 0 ≤ imm) (i1 : imm < 4) : bits .or .u32 (bits .or .u32 (rd * 128) (rs1 * 32768)) (imm * 33554432) = rd * 128 + rs1 * 32768 + imm * 33554432 := by
  rw [u32_or_add (rd * 128) (rs1 * 32768) 32768 32 1048576 15 20 (by decide) (by decide) (by decide) (by decide) (by decide) (by omega) (by omega) (by omega) (by omega) (by omega) (by omega), u32_or_add (rd * 128 + rs1 * 32768) (imm * 33554432) 33554432 4 134217728 25 27 (by decide) (by decide) (by decide) (by decide) (by decide) (by omega) (by omega) (by omega) (by omega) (by omega) (by omega)]
theorem raw11 (rd rs1 rs2 imm : Int) (d0 : 0 ≤ rd) (d1 : rd < 32) (a0 : 0 ≤ rs1) (a1 : rs1 < 32) (b0 : 0 ≤ rs2) (b1 : rs2 < 32) (i0 : 0 ≤ imm) (i1 : imm < 256) : imm * 1048576 = sumF 11 rd rs1 rs2 imm := rfl
theorem or_i64 (x y : Int) (x0 : -9223372036854775808 ≤ x) (x1 : x ≤ 9223372036854775807) (y0 : -9223372036854775808 ≤ y) (y1 : y ≤ 9223372036854775807) : bits .or .i64 x y = 0 ↔ x = 0 ∧ y = 0 := by
  constructor
  · intro h
    have e : IntKind.i64.wrap (((BitVec.ofInt 64 x ||| BitVec.ofInt 64 y).toNat : Nat) : Int) = 0 := h
    rw [IntKind.wrap_i64] at e
    have hlt : (BitVec.ofInt 64 x ||| BitVec.ofInt 64 y).toNat < 18446744073709551616 := (BitVec.ofInt 64 x ||| BitVec.ofInt 64 y).isLt
    have h0 : (BitVec.ofInt 64 x ||| BitVec.ofInt 64 y).toNat = 0 := by omega
    rw [BitVec.toNat_or, Nat.or_eq_zero_iff] at h0
    obtain ⟨h1, h2⟩ := h0
    rw [BitVec.toNat_ofInt] at h1 h2
    have h1' : (x % 18446744073709551616).toNat = 0 := h1
    have h2' : (y % 18446744073709551616).toNat = 0 := h2
    omega
  · rintro ⟨rfl, rfl⟩; decide
theorem or_rg (x y : Int) : -9223372036854775808 ≤ bits .or .i64 x y ∧ bits .or .i64 x y ≤ 9223372036854775807 := by
  have e : bits .or .i64 x y = IntKind.i64.wrap (((BitVec.ofInt 64 x ||| BitVec.ofInt 64 y).toNat : Nat) : Int) := rfl
  rw [e, IntKind.wrap_i64]; omega
end Go.Proofs.YtnkeghnnppoopaaDoor
