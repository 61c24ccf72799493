/- Part S: the plain law of encoding: fields laid into a word are read back, and a word is made of its fields. -/
import Derived.Test.YtnkeghnnppoopaaDoorIsaQ
namespace Go.Proofs.YtnkeghnnppoopaaDoor
open Go.RowKit
set_option linter.unusedVariables false
set_option linter.unusedSimpArgs false

theorem x_split (x : Int) : x = x % 128 + x / 128 % 32 * 128 + x / 4096 % 8 * 4096 + x / 32768 % 32 * 32768 + x / 1048576 % 32 * 1048576 + x / 33554432 * 33554432 := by omega
theorem x_splitJ (x : Int) : x = x % 128 + x / 128 % 32 * 128 + x / 4096 % 256 * 4096 + x / 1048576 % 2 * 1048576 + x / 2097152 % 1024 * 2097152 + x / 2147483648 * 2147483648 := by omega
theorem x_splitB (x : Int) : x = x % 128 + x / 128 % 2 * 128 + x / 256 % 16 * 256 + x / 4096 % 8 * 4096 + x / 32768 % 32 * 32768 + x / 1048576 % 32 * 1048576 + x / 33554432 % 64 * 33554432 + x / 2147483648 * 2147483648 := by omega
theorem v_split12 (v : Int) (h : v % 4096 < 128) (h2 : v < 32768) (h0 : 0 ≤ v) : v = v % 128 + v / 4096 * 4096 := by omega
theorem v_split25 (v : Int) (h : v % 4096 < 128) (h2 : v % 33554432 < 32768) (h0 : 0 ≤ v) : v = v % 128 + v / 4096 % 8 * 4096 + v / 33554432 * 33554432 := by omega
theorem v_split27 (v : Int) (h : v % 4096 < 128) (h2 : v % 134217728 < 32768) (h0 : 0 ≤ v) : v = v % 128 + v / 4096 % 8 * 4096 + v / 134217728 * 134217728 := by omega
theorem p5 (x : Int) (n : Int) : 0 ≤ x / n % 32 ∧ x / n % 32 < 32 := by omega
theorem p4 (x : Int) (n : Int) : 0 ≤ x / n % 4 ∧ x / n % 4 < 4 := by omega
theorem low20 (x : Int) (x0 : 0 ≤ x) (x1 : x < 4294967296) : sgn x / 1048576 % 4096 = x / 1048576 ∧ -2048 ≤ sgn x / 1048576 ∧ sgn x / 1048576 < 2048 := by
  unfold sgn; split <;> omega
theorem top31' (x : Int) (x0 : 0 ≤ x) (x1 : x < 4294967296) : (sgn x / 2147483648 = 0 ∧ x / 2147483648 = 0) ∨ (sgn x / 2147483648 = -1 ∧ x / 2147483648 = 1) := by
  unfold sgn; split <;> omega
theorem top25 (x : Int) (x0 : 0 ≤ x) (x1 : x < 4294967296) : (sgn x / 33554432 = x / 33554432 ∧ x / 33554432 < 64) ∨ (sgn x / 33554432 = x / 33554432 - 128 ∧ 64 ≤ x / 33554432) := by
  unfold sgn; split <;> omega
theorem k_split (x : Int) (h : x / 1048576 % 32 = 0) : x / 33554432 = x / 33554432 % 4 + x / 134217728 * 4 := by omega
theorem a_split (x : Int) : x / 33554432 = x / 33554432 % 4 + x / 134217728 * 4 := by omega
theorem c_split (x : Int) : x / 1048576 % 32 * 1048576 + x / 33554432 * 33554432 = x / 1048576 * 1048576 := by omega
set_option maxHeartbeats 2000000 in
theorem enc_there0 (v rd rs1 rs2 imm : Int) (hk : kindOk 0 v = true) (v0 : 0 ≤ v) (v1 : v < 4294967296) (d0 : 0 ≤ rd) (d1 : rd < 32) (a0 : 0 ≤ rs1) (a1 : rs1 < 32) (b0 : 0 ≤ rs2) (b1 : rs2 < 32) (ho : okF (0) rd rs1 rs2 imm) :
    0 ≤ v + fldF (0) rd rs1 rs2 imm ∧ v + fldF (0) rd rs1 rs2 imm < 4294967296 ∧ MtA 0 v (v + fldF (0) rd rs1 rs2 imm) ∧ readT 0 (v + fldF (0) rd rs1 rs2 imm) = (rd, rs1, rs2, imm) := by
  simp only [kindOk, MtA, okF, fldF, readT, jumpImm, branchImm, storeImm, sgn, part_def, Int.reducePow, Bool.and_eq_true, decide_eq_true_eq, Prod.mk.injEq] at hk ho ⊢
  omega
set_option maxHeartbeats 2000000 in
theorem enc_there1 (v rd rs1 rs2 imm : Int) (hk : kindOk 1 v = true) (v0 : 0 ≤ v) (v1 : v < 4294967296) (d0 : 0 ≤ rd) (d1 : rd < 32) (a0 : 0 ≤ rs1) (a1 : rs1 < 32) (b0 : 0 ≤ rs2) (b1 : rs2 < 32) (ho : okF (1) rd rs1 rs2 imm) :
    0 ≤ v + fldF (1) rd rs1 rs2 imm ∧ v + fldF (1) rd rs1 rs2 imm < 4294967296 ∧ MtA 1 v (v + fldF (1) rd rs1 rs2 imm) ∧ readT 1 (v + fldF (1) rd rs1 rs2 imm) = (rd, rs1, rs2, imm) := by
  simp only [kindOk, MtA, okF, fldF, readT, jumpImm, branchImm, storeImm, sgn, part_def, Int.reducePow, Bool.and_eq_true, decide_eq_true_eq, Prod.mk.injEq] at hk ho ⊢
  omega
set_option maxHeartbeats 2000000 in
theorem enc_there2 (v rd rs1 rs2 imm : Int) (hk : kindOk 2 v = true) (v0 : 0 ≤ v) (v1 : v < 4294967296) (d0 : 0 ≤ rd) (d1 : rd < 32) (a0 : 0 ≤ rs1) (a1 : rs1 < 32) (b0 : 0 ≤ rs2) (b1 : rs2 < 32) (ho : okF (2) rd rs1 rs2 imm) :
    0 ≤ v + fldF (2) rd rs1 rs2 imm ∧ v + fldF (2) rd rs1 rs2 imm < 4294967296 ∧ MtA 2 v (v + fldF (2) rd rs1 rs2 imm) ∧ readT 2 (v + fldF (2) rd rs1 rs2 imm) = (rd, rs1, rs2, imm) := by
  simp only [kindOk, MtA, okF, fldF, readT, jumpImm, branchImm, storeImm, part_def, Int.reducePow, Bool.and_eq_true, decide_eq_true_eq, Prod.mk.injEq] at hk ho ⊢
  obtain ⟨rfl, rfl, i0, i1, i2⟩ := ho
  have e : imm = imm / 2 % 1024 * 2 + imm / 2048 % 2 * 2048 + imm / 4096 % 256 * 4096 - imm / 1048576 % 2 * 1048576 := by omega
  have r1 : 0 ≤ imm / 2 % 1024 ∧ imm / 2 % 1024 < 1024 := by omega
  have r2 : 0 ≤ imm / 2048 % 2 ∧ imm / 2048 % 2 < 2 := by omega
  have r3 : 0 ≤ imm / 4096 % 256 ∧ imm / 4096 % 256 < 256 := by omega
  have r4 : 0 ≤ imm / 1048576 % 2 ∧ imm / 1048576 % 2 < 2 := by omega
  generalize imm / 2 % 1024 = p at *
  generalize imm / 2048 % 2 = q at *
  generalize imm / 4096 % 256 = r at *
  generalize imm / 1048576 % 2 = s at *
  generalize hE : v + (rd * 128 + s * 2147483648 + p * 2097152 + q * 1048576 + r * 4096) = E at *
  have q1 : E / 2147483648 = s := by omega
  have q2 : E / 4096 = r + q * 256 + p * 512 + s * 524288 := by omega
  have q3 : E / 1048576 = q + p * 2 + s * 2048 := by omega
  have q4 : E / 2097152 = p + s * 1024 := by omega
  have q5 : E / 128 = rd + r * 32 + q * 8192 + p * 16384 + s * 16777216 := by omega
  have q6 : sgn E / 2147483648 = -s := by unfold sgn; split <;> omega
  have l2 : (r + q * 256 + p * 512 + s * 524288) % 256 = r := by omega
  have l3 : (q + p * 2 + s * 2048) % 2 = q := by omega
  have l4 : (p + s * 1024) % 1024 = p := by omega
  have l5 : (rd + r * 32 + q * 8192 + p * 16384 + s * 16777216) % 32 = rd := by omega
  rw [q2, q3, q4, q5, q6, l2, l3, l4, l5]
  refine ⟨by omega, by omega, by omega, by omega, rfl, rfl, ?_⟩
  omega
set_option maxHeartbeats 2000000 in
theorem enc_there3 (v rd rs1 rs2 imm : Int) (hk : kindOk 3 v = true) (v0 : 0 ≤ v) (v1 : v < 4294967296) (d0 : 0 ≤ rd) (d1 : rd < 32) (a0 : 0 ≤ rs1) (a1 : rs1 < 32) (b0 : 0 ≤ rs2) (b1 : rs2 < 32) (ho : okF (3) rd rs1 rs2 imm) :
    0 ≤ v + fldF (3) rd rs1 rs2 imm ∧ v + fldF (3) rd rs1 rs2 imm < 4294967296 ∧ MtA 3 v (v + fldF (3) rd rs1 rs2 imm) ∧ readT 3 (v + fldF (3) rd rs1 rs2 imm) = (rd, rs1, rs2, imm) := by
  simp only [kindOk, MtA, okF, fldF, readT, jumpImm, branchImm, storeImm, part_def, Int.reducePow, Bool.and_eq_true, decide_eq_true_eq, Prod.mk.injEq] at hk ho ⊢
  obtain ⟨rfl, i0, i1, i2⟩ := ho
  have e : imm = imm / 2 % 16 * 2 + imm / 32 % 64 * 32 + imm / 2048 % 2 * 2048 - imm / 4096 % 2 * 4096 := by omega
  have r1 : 0 ≤ imm / 2 % 16 ∧ imm / 2 % 16 < 16 := by omega
  have r2 : 0 ≤ imm / 32 % 64 ∧ imm / 32 % 64 < 64 := by omega
  have r3 : 0 ≤ imm / 2048 % 2 ∧ imm / 2048 % 2 < 2 := by omega
  have r4 : 0 ≤ imm / 4096 % 2 ∧ imm / 4096 % 2 < 2 := by omega
  generalize imm / 2 % 16 = p at *
  generalize imm / 32 % 64 = q at *
  generalize imm / 2048 % 2 = r at *
  generalize imm / 4096 % 2 = s at *
  generalize hE : v + (rs1 * 32768 + rs2 * 1048576 + s * 2147483648 + q * 33554432 + p * 256 + r * 128) = E at *
  have ev : v = v % 128 + v / 4096 * 4096 := by omega
  have u1 : 0 ≤ v % 128 ∧ v % 128 < 128 := by omega
  have u2 : 0 ≤ v / 4096 ∧ v / 4096 < 8 := by omega
  generalize v % 128 = c at *
  generalize v / 4096 = a at *
  have q1 : E / 128 = r + p * 2 + a * 32 + rs1 * 256 + rs2 * 8192 + q * 262144 + s * 16777216 := by omega
  have q2 : E / 256 = p + a * 16 + rs1 * 128 + rs2 * 4096 + q * 131072 + s * 8388608 := by omega
  have q3 : E / 4096 = a + rs1 * 8 + rs2 * 256 + q * 8192 + s * 524288 := by omega
  have q4 : E / 32768 = rs1 + rs2 * 32 + q * 1024 + s * 65536 := by omega
  have q5 : E / 1048576 = rs2 + q * 32 + s * 2048 := by omega
  have q6 : E / 33554432 = q + s * 64 := by omega
  have q7 : sgn E / 2147483648 = -s := by unfold sgn; split <;> omega
  have l1 : (r + p * 2 + a * 32 + rs1 * 256 + rs2 * 8192 + q * 262144 + s * 16777216) % 2 = r := by omega
  have l2 : (p + a * 16 + rs1 * 128 + rs2 * 4096 + q * 131072 + s * 8388608) % 16 = p := by omega
  have l3 : (a + rs1 * 8 + rs2 * 256 + q * 8192 + s * 524288) % 8 = a := by omega
  have l4 : (rs1 + rs2 * 32 + q * 1024 + s * 65536) % 32 = rs1 := by omega
  have l5 : (rs2 + q * 32 + s * 2048) % 32 = rs2 := by omega
  have l6 : (q + s * 64) % 64 = q := by omega
  rw [q1, q2, q3, q4, q5, q6, q7, l1, l2, l3, l4, l5, l6]
  refine ⟨by omega, by omega, ⟨by omega, by omega⟩, rfl, by omega, by omega, ?_⟩
  omega
set_option maxHeartbeats 2000000 in
theorem enc_there4 (v rd rs1 rs2 imm : Int) (hk : kindOk 4 v = true) (v0 : 0 ≤ v) (v1 : v < 4294967296) (d0 : 0 ≤ rd) (d1 : rd < 32) (a0 : 0 ≤ rs1) (a1 : rs1 < 32) (b0 : 0 ≤ rs2) (b1 : rs2 < 32) (ho : okF (4) rd rs1 rs2 imm) :
    0 ≤ v + fldF (4) rd rs1 rs2 imm ∧ v + fldF (4) rd rs1 rs2 imm < 4294967296 ∧ MtA 4 v (v + fldF (4) rd rs1 rs2 imm) ∧ readT 4 (v + fldF (4) rd rs1 rs2 imm) = (rd, rs1, rs2, imm) := by
  simp only [kindOk, MtA, okF, fldF, readT, jumpImm, branchImm, storeImm, sgn, part_def, Int.reducePow, Bool.and_eq_true, decide_eq_true_eq, Prod.mk.injEq] at hk ho ⊢
  refine ⟨by omega, by omega, by omega, by omega, by omega, by omega, ?_⟩
  split <;> omega
set_option maxHeartbeats 2000000 in
theorem enc_there5 (v rd rs1 rs2 imm : Int) (hk : kindOk 5 v = true) (v0 : 0 ≤ v) (v1 : v < 4294967296) (d0 : 0 ≤ rd) (d1 : rd < 32) (a0 : 0 ≤ rs1) (a1 : rs1 < 32) (b0 : 0 ≤ rs2) (b1 : rs2 < 32) (ho : okF (5) rd rs1 rs2 imm) :
    0 ≤ v + fldF (5) rd rs1 rs2 imm ∧ v + fldF (5) rd rs1 rs2 imm < 4294967296 ∧ MtA 5 v (v + fldF (5) rd rs1 rs2 imm) ∧ readT 5 (v + fldF (5) rd rs1 rs2 imm) = (rd, rs1, rs2, imm) := by
  simp only [kindOk, MtA, okF, fldF, readT, jumpImm, branchImm, storeImm, sgn, part_def, Int.reducePow, Bool.and_eq_true, decide_eq_true_eq, Prod.mk.injEq] at hk ho ⊢
  obtain ⟨rfl, i0, i1⟩ := ho
  have e : imm = imm % 32 + imm / 32 % 128 * 32 - (if imm < 0 then 4096 else 0) := by split <;> omega
  have e2 : (imm < 0 ↔ 64 ≤ imm / 32 % 128) := by omega
  have r1 : 0 ≤ imm % 32 ∧ imm % 32 < 32 := by omega
  have r2 : 0 ≤ imm / 32 % 128 ∧ imm / 32 % 128 < 128 := by omega
  generalize imm % 32 = p at *
  generalize imm / 32 % 128 = q at *
  refine ⟨by omega, by omega, by omega, rfl, by omega, by omega, ?_⟩
  split at e <;> split <;> omega
set_option maxHeartbeats 2000000 in
theorem enc_there6 (v rd rs1 rs2 imm : Int) (hk : kindOk 6 v = true) (v0 : 0 ≤ v) (v1 : v < 4294967296) (d0 : 0 ≤ rd) (d1 : rd < 32) (a0 : 0 ≤ rs1) (a1 : rs1 < 32) (b0 : 0 ≤ rs2) (b1 : rs2 < 32) (ho : okF (6) rd rs1 rs2 imm) :
    0 ≤ v + fldF (6) rd rs1 rs2 imm ∧ v + fldF (6) rd rs1 rs2 imm < 4294967296 ∧ MtA 6 v (v + fldF (6) rd rs1 rs2 imm) ∧ readT 6 (v + fldF (6) rd rs1 rs2 imm) = (rd, rs1, rs2, imm) := by
  simp only [kindOk, MtA, okF, fldF, readT, jumpImm, branchImm, storeImm, sgn, part_def, Int.reducePow, Bool.and_eq_true, decide_eq_true_eq, Prod.mk.injEq] at hk ho ⊢
  refine ⟨by omega, by omega, by omega, by omega, by omega, by omega, ?_⟩
  split <;> omega
set_option maxHeartbeats 2000000 in
theorem enc_there7 (v rd rs1 rs2 imm : Int) (hk : kindOk 7 v = true) (v0 : 0 ≤ v) (v1 : v < 4294967296) (d0 : 0 ≤ rd) (d1 : rd < 32) (a0 : 0 ≤ rs1) (a1 : rs1 < 32) (b0 : 0 ≤ rs2) (b1 : rs2 < 32) (ho : okF (7) rd rs1 rs2 imm) :
    0 ≤ v + fldF (7) rd rs1 rs2 imm ∧ v + fldF (7) rd rs1 rs2 imm < 4294967296 ∧ MtA 7 v (v + fldF (7) rd rs1 rs2 imm) ∧ readT 7 (v + fldF (7) rd rs1 rs2 imm) = (rd, rs1, rs2, imm) := by
  simp only [kindOk, MtA, okF, fldF, readT, jumpImm, branchImm, storeImm, sgn, part_def, Int.reducePow, Bool.and_eq_true, decide_eq_true_eq, Prod.mk.injEq] at hk ho ⊢
  omega
set_option maxHeartbeats 2000000 in
theorem enc_there8 (v rd rs1 rs2 imm : Int) (hk : kindOk 8 v = true) (v0 : 0 ≤ v) (v1 : v < 4294967296) (d0 : 0 ≤ rd) (d1 : rd < 32) (a0 : 0 ≤ rs1) (a1 : rs1 < 32) (b0 : 0 ≤ rs2) (b1 : rs2 < 32) (ho : okF (8) rd rs1 rs2 imm) :
    0 ≤ v + fldF (8) rd rs1 rs2 imm ∧ v + fldF (8) rd rs1 rs2 imm < 4294967296 ∧ MtA 8 v (v + fldF (8) rd rs1 rs2 imm) ∧ readT 8 (v + fldF (8) rd rs1 rs2 imm) = (rd, rs1, rs2, imm) := by
  simp only [kindOk, MtA, okF, fldF, readT, jumpImm, branchImm, storeImm, sgn, part_def, Int.reducePow, Bool.and_eq_true, decide_eq_true_eq, Prod.mk.injEq] at hk ho ⊢
  omega
set_option maxHeartbeats 2000000 in
theorem enc_there9 (v rd rs1 rs2 imm : Int) (hk : kindOk 9 v = true) (v0 : 0 ≤ v) (v1 : v < 4294967296) (d0 : 0 ≤ rd) (d1 : rd < 32) (a0 : 0 ≤ rs1) (a1 : rs1 < 32) (b0 : 0 ≤ rs2) (b1 : rs2 < 32) (ho : okF (9) rd rs1 rs2 imm) :
    0 ≤ v + fldF (9) rd rs1 rs2 imm ∧ v + fldF (9) rd rs1 rs2 imm < 4294967296 ∧ MtA 9 v (v + fldF (9) rd rs1 rs2 imm) ∧ readT 9 (v + fldF (9) rd rs1 rs2 imm) = (rd, rs1, rs2, imm) := by
  simp only [kindOk, MtA, okF, fldF, readT, jumpImm, branchImm, storeImm, sgn, part_def, Int.reducePow, Bool.and_eq_true, decide_eq_true_eq, Prod.mk.injEq] at hk ho ⊢
  omega
set_option maxHeartbeats 2000000 in
theorem enc_there10 (v rd rs1 rs2 imm : Int) (hk : kindOk 10 v = true) (v0 : 0 ≤ v) (v1 : v < 4294967296) (d0 : 0 ≤ rd) (d1 : rd < 32) (a0 : 0 ≤ rs1) (a1 : rs1 < 32) (b0 : 0 ≤ rs2) (b1 : rs2 < 32) (ho : okF (10) rd rs1 rs2 imm) :
    0 ≤ v + fldF (10) rd rs1 rs2 imm ∧ v + fldF (10) rd rs1 rs2 imm < 4294967296 ∧ MtA 10 v (v + fldF (10) rd rs1 rs2 imm) ∧ readT 10 (v + fldF (10) rd rs1 rs2 imm) = (rd, rs1, rs2, imm) := by
  simp only [kindOk, MtA, okF, fldF, readT, jumpImm, branchImm, storeImm, sgn, part_def, Int.reducePow, Bool.and_eq_true, decide_eq_true_eq, Prod.mk.injEq] at hk ho ⊢
  omega
set_option maxHeartbeats 2000000 in
theorem enc_there11 (v rd rs1 rs2 imm : Int) (hk : kindOk 11 v = true) (v0 : 0 ≤ v) (v1 : v < 4294967296) (d0 : 0 ≤ rd) (d1 : rd < 32) (a0 : 0 ≤ rs1) (a1 : rs1 < 32) (b0 : 0 ≤ rs2) (b1 : rs2 < 32) (ho : okF (11) rd rs1 rs2 imm) :
    0 ≤ v + fldF (11) rd rs1 rs2 imm ∧ v + fldF (11) rd rs1 rs2 imm < 4294967296 ∧ MtA 11 v (v + fldF (11) rd rs1 rs2 imm) ∧ readT 11 (v + fldF (11) rd rs1 rs2 imm) = (rd, rs1, rs2, imm) := by
  simp only [kindOk, MtA, okF, fldF, readT, jumpImm, branchImm, storeImm, sgn, part_def, Int.reducePow, Bool.and_eq_true, decide_eq_true_eq, Prod.mk.injEq] at hk ho ⊢
  omega
set_option maxHeartbeats 2000000 in
theorem enc_there12 (v rd rs1 rs2 imm : Int) (hk : kindOk 12 v = true) (v0 : 0 ≤ v) (v1 : v < 4294967296) (d0 : 0 ≤ rd) (d1 : rd < 32) (a0 : 0 ≤ rs1) (a1 : rs1 < 32) (b0 : 0 ≤ rs2) (b1 : rs2 < 32) (ho : okF (12) rd rs1 rs2 imm) :
    0 ≤ v + fldF (12) rd rs1 rs2 imm ∧ v + fldF (12) rd rs1 rs2 imm < 4294967296 ∧ MtA 12 v (v + fldF (12) rd rs1 rs2 imm) ∧ readT 12 (v + fldF (12) rd rs1 rs2 imm) = (rd, rs1, rs2, imm) := by
  simp only [kindOk, MtA, okF, fldF, readT, jumpImm, branchImm, storeImm, sgn, part_def, Int.reducePow, Bool.and_eq_true, decide_eq_true_eq, Prod.mk.injEq] at hk ho ⊢
  omega
set_option maxHeartbeats 2000000 in
theorem enc_there13 (v rd rs1 rs2 imm : Int) (hk : kindOk 13 v = true) (v0 : 0 ≤ v) (v1 : v < 4294967296) (d0 : 0 ≤ rd) (d1 : rd < 32) (a0 : 0 ≤ rs1) (a1 : rs1 < 32) (b0 : 0 ≤ rs2) (b1 : rs2 < 32) (ho : okF (13) rd rs1 rs2 imm) :
    0 ≤ v + fldF (13) rd rs1 rs2 imm ∧ v + fldF (13) rd rs1 rs2 imm < 4294967296 ∧ MtA 13 v (v + fldF (13) rd rs1 rs2 imm) ∧ readT 13 (v + fldF (13) rd rs1 rs2 imm) = (rd, rs1, rs2, imm) := by
  simp only [kindOk, MtA, okF, fldF, readT, jumpImm, branchImm, storeImm, sgn, part_def, Int.reducePow, Bool.and_eq_true, decide_eq_true_eq, Prod.mk.injEq] at hk ho ⊢
  omega
/-- what is laid in is read back -/
theorem enc_there (f v rd rs1 rs2 imm : Int) (f0 : 0 ≤ f) (f1 : f ≤ 13) (hk : kindOk f v = true) (v0 : 0 ≤ v) (v1 : v < 4294967296) (d0 : 0 ≤ rd) (d1 : rd < 32) (a0 : 0 ≤ rs1) (a1 : rs1 < 32) (b0 : 0 ≤ rs2) (b1 : rs2 < 32) (ho : okF f rd rs1 rs2 imm) :
    0 ≤ v + fldF f rd rs1 rs2 imm ∧ v + fldF f rd rs1 rs2 imm < 4294967296 ∧ MtA f v (v + fldF f rd rs1 rs2 imm) ∧ readT f (v + fldF f rd rs1 rs2 imm) = (rd, rs1, rs2, imm) := by
  rcases f_cases f0 f1 with rfl | rfl | rfl | rfl | rfl | rfl | rfl | rfl | rfl | rfl | rfl | rfl | rfl | rfl
  · exact enc_there0 v rd rs1 rs2 imm hk v0 v1 d0 d1 a0 a1 b0 b1 ho
  · exact enc_there1 v rd rs1 rs2 imm hk v0 v1 d0 d1 a0 a1 b0 b1 ho
  · exact enc_there2 v rd rs1 rs2 imm hk v0 v1 d0 d1 a0 a1 b0 b1 ho
  · exact enc_there3 v rd rs1 rs2 imm hk v0 v1 d0 d1 a0 a1 b0 b1 ho
  · exact enc_there4 v rd rs1 rs2 imm hk v0 v1 d0 d1 a0 a1 b0 b1 ho
  · exact enc_there5 v rd rs1 rs2 imm hk v0 v1 d0 d1 a0 a1 b0 b1 ho
  · exact enc_there6 v rd rs1 rs2 imm hk v0 v1 d0 d1 a0 a1 b0 b1 ho
  · exact enc_there7 v rd rs1 rs2 imm hk v0 v1 d0 d1 a0 a1 b0 b1 ho
  · exact enc_there8 v rd rs1 rs2 imm hk v0 v1 d0 d1 a0 a1 b0 b1 ho
  · exact enc_there9 v rd rs1 rs2 imm hk v0 v1 d0 d1 a0 a1 b0 b1 ho
  · exact enc_there10 v rd rs1 rs2 imm hk v0 v1 d0 d1 a0 a1 b0 b1 ho
  · exact enc_there11 v rd rs1 rs2 imm hk v0 v1 d0 d1 a0 a1 b0 b1 ho
  · exact enc_there12 v rd rs1 rs2 imm hk v0 v1 d0 d1 a0 a1 b0 b1 ho
  · exact enc_there13 v rd rs1 rs2 imm hk v0 v1 d0 d1 a0 a1 b0 b1 ho
set_option maxHeartbeats 2000000 in
theorem dec_back0 (v x : Int) (hk : kindOk 0 v = true) (v0 : 0 ≤ v) (v1 : v < 4294967296) (x0 : 0 ≤ x) (x1 : x < 4294967296) (hm : MtA 0 v x) :
    okF 0 (readT 0 x).1 (readT 0 x).2.1 (readT 0 x).2.2.1 (readT 0 x).2.2.2 ∧ v + fldF 0 (readT 0 x).1 (readT 0 x).2.1 (readT 0 x).2.2.1 (readT 0 x).2.2.2 = x := by
  simp only [kindOk, MtA, okF, fldF, readT, jumpImm, branchImm, storeImm, sgn, part_def, Int.reducePow, Bool.and_eq_true, decide_eq_true_eq, true_and, and_true] at hk hm ⊢
  omega
set_option maxHeartbeats 2000000 in
theorem dec_back1 (v x : Int) (hk : kindOk 1 v = true) (v0 : 0 ≤ v) (v1 : v < 4294967296) (x0 : 0 ≤ x) (x1 : x < 4294967296) (hm : MtA 1 v x) :
    okF 1 (readT 1 x).1 (readT 1 x).2.1 (readT 1 x).2.2.1 (readT 1 x).2.2.2 ∧ v + fldF 1 (readT 1 x).1 (readT 1 x).2.1 (readT 1 x).2.2.1 (readT 1 x).2.2.2 = x := by
  simp only [kindOk, MtA, okF, fldF, readT, jumpImm, branchImm, storeImm, sgn, part_def, Int.reducePow, Bool.and_eq_true, decide_eq_true_eq, true_and, and_true] at hk hm ⊢
  omega
set_option maxHeartbeats 2000000 in
theorem dec_back2 (v x : Int) (hk : kindOk 2 v = true) (v0 : 0 ≤ v) (v1 : v < 4294967296) (x0 : 0 ≤ x) (x1 : x < 4294967296) (hm : MtA 2 v x) :
    okF 2 (readT 2 x).1 (readT 2 x).2.1 (readT 2 x).2.2.1 (readT 2 x).2.2.2 ∧ v + fldF 2 (readT 2 x).1 (readT 2 x).2.1 (readT 2 x).2.2.1 (readT 2 x).2.2.2 = x := by
  simp only [kindOk, MtA, okF, fldF, readT, jumpImm, branchImm, storeImm, part_def, Int.reducePow, Bool.and_eq_true, decide_eq_true_eq, true_and, and_true] at hk hm ⊢
  have t := top31' x x0 x1
  have e := x_splitJ x
  have r1 := p5 x 128
  have r2 : 0 ≤ x / 4096 % 256 ∧ x / 4096 % 256 < 256 := by omega
  have r3 : 0 ≤ x / 1048576 % 2 ∧ x / 1048576 % 2 < 2 := by omega
  have r4 : 0 ≤ x / 2097152 % 1024 ∧ x / 2097152 % 1024 < 1024 := by omega
  generalize x / 4096 % 256 = a at *
  generalize x / 1048576 % 2 = b at *
  generalize x / 2097152 % 1024 = c at *
  generalize x / 128 % 32 = d at *
  generalize x % 128 = u at *
  generalize sgn x / 2147483648 = s at *
  generalize x / 2147483648 = h at *
  rcases t with ⟨rfl, rfl⟩ | ⟨rfl, rfl⟩
  · have k1 : (0 * 1048576 + a * 4096 + b * 2048 + c * 2) / 1048576 = 0 := by omega
    have k2 : (0 * 1048576 + a * 4096 + b * 2048 + c * 2) / 2 = c + b * 1024 + a * 2048 := by omega
    have k3 : (0 * 1048576 + a * 4096 + b * 2048 + c * 2) / 2048 = b + a * 2 := by omega
    have k4 : (0 * 1048576 + a * 4096 + b * 2048 + c * 2) / 4096 = a := by omega
    have l2 : (c + b * 1024 + a * 2048) % 1024 = c := by omega
    have l3 : (b + a * 2) % 2 = b := by omega
    have l4 : a % 256 = a := by omega
    rw [k1, k2, k3, k4, l2, l3, l4]
    refine ⟨⟨by omega, by omega, by omega⟩, ?_⟩
    omega
  · have k1 : (-1 * 1048576 + a * 4096 + b * 2048 + c * 2) / 1048576 = -1 := by omega
    have k2 : (-1 * 1048576 + a * 4096 + b * 2048 + c * 2) / 2 = c + b * 1024 + a * 2048 - 524288 := by omega
    have k3 : (-1 * 1048576 + a * 4096 + b * 2048 + c * 2) / 2048 = b + a * 2 - 512 := by omega
    have k4 : (-1 * 1048576 + a * 4096 + b * 2048 + c * 2) / 4096 = a - 256 := by omega
    have l2 : (c + b * 1024 + a * 2048 - 524288) % 1024 = c := by omega
    have l3 : (b + a * 2 - 512) % 2 = b := by omega
    have l4 : (a - 256) % 256 = a := by omega
    rw [k1, k2, k3, k4, l2, l3, l4]
    refine ⟨⟨by omega, by omega, by omega⟩, ?_⟩
    omega
set_option maxHeartbeats 2000000 in
theorem dec_back3 (v x : Int) (hk : kindOk 3 v = true) (v0 : 0 ≤ v) (v1 : v < 4294967296) (x0 : 0 ≤ x) (x1 : x < 4294967296) (hm : MtA 3 v x) :
    okF 3 (readT 3 x).1 (readT 3 x).2.1 (readT 3 x).2.2.1 (readT 3 x).2.2.2 ∧ v + fldF 3 (readT 3 x).1 (readT 3 x).2.1 (readT 3 x).2.2.1 (readT 3 x).2.2.2 = x := by
  simp only [kindOk, MtA, okF, fldF, readT, jumpImm, branchImm, storeImm, part_def, Int.reducePow, Bool.and_eq_true, decide_eq_true_eq, true_and, and_true] at hk hm ⊢
  have t := top31' x x0 x1
  have e := x_splitB x
  have ev := v_split12 v (by omega) (by omega) v0
  have r1 : 0 ≤ x / 128 % 2 ∧ x / 128 % 2 < 2 := by omega
  have r2 : 0 ≤ x / 256 % 16 ∧ x / 256 % 16 < 16 := by omega
  have r3 : 0 ≤ x / 33554432 % 64 ∧ x / 33554432 % 64 < 64 := by omega
  obtain ⟨hm1, hm2⟩ := hm
  generalize x / 128 % 2 = a at *
  generalize x / 256 % 16 = b at *
  generalize x / 33554432 % 64 = c at *
  generalize x / 32768 % 32 = d at *
  generalize x / 1048576 % 32 = d2 at *
  generalize x / 4096 % 8 = f3 at *
  generalize x % 128 = u at *
  generalize v % 128 = v1' at *
  generalize v / 4096 = v2 at *
  generalize sgn x / 2147483648 = s at *
  generalize x / 2147483648 = h at *
  rcases t with ⟨rfl, rfl⟩ | ⟨rfl, rfl⟩
  · have k1 : (0 * 4096 + a * 2048 + c * 32 + b * 2) / 4096 = 0 := by omega
    have k2 : (0 * 4096 + a * 2048 + c * 32 + b * 2) / 2 = b + c * 16 + a * 1024 + 0 * 2048 := by omega
    have k3 : (0 * 4096 + a * 2048 + c * 32 + b * 2) / 32 = c + a * 64 + 0 * 128 := by omega
    have k4 : (0 * 4096 + a * 2048 + c * 32 + b * 2) / 2048 = a + 0 * 2 := by omega
    have l2 : (b + c * 16 + a * 1024 + 0 * 2048) % 16 = b := by omega
    have l3 : (c + a * 64 + 0 * 128) % 64 = c := by omega
    have l4 : (a + 0 * 2) % 2 = a := by omega
    rw [k1, k2, k3, k4, l2, l3, l4]
    refine ⟨⟨by omega, by omega, by omega⟩, ?_⟩
    omega
  · have k1 : (-1 * 4096 + a * 2048 + c * 32 + b * 2) / 4096 = -1 := by omega
    have k2 : (-1 * 4096 + a * 2048 + c * 32 + b * 2) / 2 = b + c * 16 + a * 1024 + -1 * 2048 := by omega
    have k3 : (-1 * 4096 + a * 2048 + c * 32 + b * 2) / 32 = c + a * 64 + -1 * 128 := by omega
    have k4 : (-1 * 4096 + a * 2048 + c * 32 + b * 2) / 2048 = a + -1 * 2 := by omega
    have l2 : (b + c * 16 + a * 1024 + -1 * 2048) % 16 = b := by omega
    have l3 : (c + a * 64 + -1 * 128) % 64 = c := by omega
    have l4 : (a + -1 * 2) % 2 = a := by omega
    rw [k1, k2, k3, k4, l2, l3, l4]
    refine ⟨⟨by omega, by omega, by omega⟩, ?_⟩
    omega
set_option maxHeartbeats 2000000 in
theorem dec_back4 (v x : Int) (hk : kindOk 4 v = true) (v0 : 0 ≤ v) (v1 : v < 4294967296) (x0 : 0 ≤ x) (x1 : x < 4294967296) (hm : MtA 4 v x) :
    okF 4 (readT 4 x).1 (readT 4 x).2.1 (readT 4 x).2.2.1 (readT 4 x).2.2.2 ∧ v + fldF 4 (readT 4 x).1 (readT 4 x).2.1 (readT 4 x).2.2.1 (readT 4 x).2.2.2 = x := by
  simp only [kindOk, MtA, okF, fldF, readT, jumpImm, branchImm, storeImm, part_def, Int.reducePow, Bool.and_eq_true, decide_eq_true_eq, true_and, and_true] at hk hm ⊢
  have t := low20 x x0 x1
  have e := x_split x
  have e2 := c_split x
  have ev := v_split12 v (by omega) (by omega) v0
  obtain ⟨hm1, hm2⟩ := hm
  obtain ⟨t1, t2, t3⟩ := t
  refine ⟨⟨t2, t3⟩, ?_⟩
  rw [t1]
  omega
set_option maxHeartbeats 2000000 in
theorem dec_back5 (v x : Int) (hk : kindOk 5 v = true) (v0 : 0 ≤ v) (v1 : v < 4294967296) (x0 : 0 ≤ x) (x1 : x < 4294967296) (hm : MtA 5 v x) :
    okF 5 (readT 5 x).1 (readT 5 x).2.1 (readT 5 x).2.2.1 (readT 5 x).2.2.2 ∧ v + fldF 5 (readT 5 x).1 (readT 5 x).2.1 (readT 5 x).2.2.1 (readT 5 x).2.2.2 = x := by
  simp only [kindOk, MtA, okF, fldF, readT, jumpImm, branchImm, storeImm, part_def, Int.reducePow, Bool.and_eq_true, decide_eq_true_eq, true_and, and_true] at hk hm ⊢
  have t := top25 x x0 x1
  have e := x_split x
  have ev := v_split12 v (by omega) (by omega) v0
  have r1 := p5 x 128
  obtain ⟨hm1, hm2⟩ := hm
  generalize x / 128 % 32 = a at *
  generalize x / 32768 % 32 = d at *
  generalize x / 1048576 % 32 = d2 at *
  generalize x / 4096 % 8 = f3 at *
  generalize x % 128 = u at *
  generalize v % 128 = v1' at *
  generalize v / 4096 = v2 at *
  generalize sgn x / 33554432 = s at *
  have r2 : 0 ≤ x / 33554432 ∧ x / 33554432 < 128 := by omega
  generalize x / 33554432 = h at *
  refine ⟨⟨by omega, by omega⟩, ?_⟩
  have q1 : (s * 32 + a) / 32 % 128 = h := by omega
  have q2 : (s * 32 + a) % 32 = a := by omega
  rw [q1, q2]
  omega
set_option maxHeartbeats 2000000 in
theorem dec_back6 (v x : Int) (hk : kindOk 6 v = true) (v0 : 0 ≤ v) (v1 : v < 4294967296) (x0 : 0 ≤ x) (x1 : x < 4294967296) (hm : MtA 6 v x) :
    okF 6 (readT 6 x).1 (readT 6 x).2.1 (readT 6 x).2.2.1 (readT 6 x).2.2.2 ∧ v + fldF 6 (readT 6 x).1 (readT 6 x).2.1 (readT 6 x).2.2.1 (readT 6 x).2.2.2 = x := by
  simp only [kindOk, MtA, okF, fldF, readT, jumpImm, branchImm, storeImm, part_def, Int.reducePow, Bool.and_eq_true, decide_eq_true_eq, true_and, and_true] at hk hm ⊢
  have t := low20 x x0 x1
  have e := x_split x
  have e2 := c_split x
  have ev := v_split12 v (by omega) (by omega) v0
  obtain ⟨hm1, hm2⟩ := hm
  obtain ⟨t1, t2, t3⟩ := t
  refine ⟨⟨t2, t3⟩, ?_⟩
  rw [t1]
  omega
set_option maxHeartbeats 2000000 in
theorem dec_back7 (v x : Int) (hk : kindOk 7 v = true) (v0 : 0 ≤ v) (v1 : v < 4294967296) (x0 : 0 ≤ x) (x1 : x < 4294967296) (hm : MtA 7 v x) :
    okF 7 (readT 7 x).1 (readT 7 x).2.1 (readT 7 x).2.2.1 (readT 7 x).2.2.2 ∧ v + fldF 7 (readT 7 x).1 (readT 7 x).2.1 (readT 7 x).2.2.1 (readT 7 x).2.2.2 = x := by
  simp only [kindOk, MtA, okF, fldF, readT, jumpImm, branchImm, storeImm, sgn, part_def, Int.reducePow, Bool.and_eq_true, decide_eq_true_eq, true_and, and_true] at hk hm ⊢
  have e := x_split x
  have ev := v_split25 v hk.1 hk.2 v0
  have r := p5 x 1048576
  obtain ⟨hm1, hm2, hm3⟩ := hm
  clear hk
  generalize x / 128 % 32 = a at *
  generalize x / 4096 % 8 = b at *
  generalize x / 32768 % 32 = c at *
  generalize x / 1048576 % 32 = d at *
  generalize x % 128 = u at *
  generalize v % 128 = u2 at *
  generalize v / 4096 % 8 = b2 at *
  generalize x / 33554432 = h at *
  generalize v / 33554432 = h2 at *
  refine ⟨r, ?_⟩
  omega
set_option maxHeartbeats 2000000 in
theorem dec_back8 (v x : Int) (hk : kindOk 8 v = true) (v0 : 0 ≤ v) (v1 : v < 4294967296) (x0 : 0 ≤ x) (x1 : x < 4294967296) (hm : MtA 8 v x) :
    okF 8 (readT 8 x).1 (readT 8 x).2.1 (readT 8 x).2.2.1 (readT 8 x).2.2.2 ∧ v + fldF 8 (readT 8 x).1 (readT 8 x).2.1 (readT 8 x).2.2.1 (readT 8 x).2.2.2 = x := by
  simp only [kindOk, MtA, okF, fldF, readT, jumpImm, branchImm, storeImm, sgn, part_def, Int.reducePow, Bool.and_eq_true, decide_eq_true_eq, true_and, and_true] at hk hm ⊢
  have e := x_split x
  have ev := v_split25 v hk.1 hk.2 v0
  obtain ⟨hm1, hm2, hm3⟩ := hm
  clear hk
  generalize x / 128 % 32 = a at *
  generalize x / 4096 % 8 = b at *
  generalize x / 32768 % 32 = c at *
  generalize x / 1048576 % 32 = d at *
  generalize x % 128 = u at *
  generalize v % 128 = u2 at *
  generalize v / 4096 % 8 = b2 at *
  generalize x / 33554432 = h at *
  generalize v / 33554432 = h2 at *
  omega
set_option maxHeartbeats 2000000 in
theorem dec_back9 (v x : Int) (hk : kindOk 9 v = true) (v0 : 0 ≤ v) (v1 : v < 4294967296) (x0 : 0 ≤ x) (x1 : x < 4294967296) (hm : MtA 9 v x) :
    okF 9 (readT 9 x).1 (readT 9 x).2.1 (readT 9 x).2.2.1 (readT 9 x).2.2.2 ∧ v + fldF 9 (readT 9 x).1 (readT 9 x).2.1 (readT 9 x).2.2.1 (readT 9 x).2.2.2 = x := by
  simp only [kindOk, MtA, okF, fldF, readT, jumpImm, branchImm, storeImm, sgn, part_def, Int.reducePow, Bool.and_eq_true, decide_eq_true_eq, true_and, and_true] at hk hm ⊢
  have e := x_split x
  have e2 := a_split x
  have ev := v_split27 v hk.1 hk.2 v0
  have r := p4 x 33554432
  obtain ⟨hm1, hm2, hm3⟩ := hm
  clear hk
  generalize x / 128 % 32 = a at *
  generalize x / 4096 % 8 = b at *
  generalize x / 32768 % 32 = c at *
  generalize x / 1048576 % 32 = d at *
  generalize x % 128 = u at *
  generalize v % 128 = u2 at *
  generalize v / 4096 % 8 = b2 at *
  generalize x / 33554432 % 4 = g at *
  generalize x / 33554432 = h at *
  generalize x / 134217728 = k at *
  generalize v / 134217728 = k2 at *
  refine ⟨r, ?_⟩
  omega
set_option maxHeartbeats 2000000 in
theorem dec_back10 (v x : Int) (hk : kindOk 10 v = true) (v0 : 0 ≤ v) (v1 : v < 4294967296) (x0 : 0 ≤ x) (x1 : x < 4294967296) (hm : MtA 10 v x) :
    okF 10 (readT 10 x).1 (readT 10 x).2.1 (readT 10 x).2.2.1 (readT 10 x).2.2.2 ∧ v + fldF 10 (readT 10 x).1 (readT 10 x).2.1 (readT 10 x).2.2.1 (readT 10 x).2.2.2 = x := by
  simp only [kindOk, MtA, okF, fldF, readT, jumpImm, branchImm, storeImm, sgn, part_def, Int.reducePow, Bool.and_eq_true, decide_eq_true_eq, true_and, and_true] at hk hm ⊢
  have e := x_split x
  have e2 := a_split x
  have ev := v_split27 v (by omega) (by omega) v0
  obtain ⟨hm1, hm2, hm3, hm4⟩ := hm
  refine ⟨⟨hm3, by omega, by omega⟩, ?_⟩
  omega
set_option maxHeartbeats 2000000 in
theorem dec_back11 (v x : Int) (hk : kindOk 11 v = true) (v0 : 0 ≤ v) (v1 : v < 4294967296) (x0 : 0 ≤ x) (x1 : x < 4294967296) (hm : MtA 11 v x) :
    okF 11 (readT 11 x).1 (readT 11 x).2.1 (readT 11 x).2.2.1 (readT 11 x).2.2.2 ∧ v + fldF 11 (readT 11 x).1 (readT 11 x).2.1 (readT 11 x).2.2.1 (readT 11 x).2.2.2 = x := by
  simp only [kindOk, MtA, okF, fldF, readT, jumpImm, branchImm, storeImm, sgn, part_def, Int.reducePow, Bool.and_eq_true, decide_eq_true_eq, true_and, and_true] at hk hm ⊢
  omega
set_option maxHeartbeats 2000000 in
theorem dec_back12 (v x : Int) (hk : kindOk 12 v = true) (v0 : 0 ≤ v) (v1 : v < 4294967296) (x0 : 0 ≤ x) (x1 : x < 4294967296) (hm : MtA 12 v x) :
    okF 12 (readT 12 x).1 (readT 12 x).2.1 (readT 12 x).2.2.1 (readT 12 x).2.2.2 ∧ v + fldF 12 (readT 12 x).1 (readT 12 x).2.1 (readT 12 x).2.2.1 (readT 12 x).2.2.2 = x := by
  simp only [kindOk, MtA, okF, fldF, readT, jumpImm, branchImm, storeImm, sgn, part_def, Int.reducePow, Bool.and_eq_true, decide_eq_true_eq, true_and, and_true] at hk hm ⊢
  have e := x_split x
  have e2 := c_split x
  have ev := v_split12 v (by omega) (by omega) v0
  have r : 0 ≤ x / 1048576 % 4096 ∧ x / 1048576 % 4096 < 4096 ∧ x / 1048576 % 4096 = x / 1048576 := by omega
  obtain ⟨hm1, hm2⟩ := hm
  refine ⟨⟨r.1, r.2.1⟩, ?_⟩
  rw [r.2.2]
  omega
set_option maxHeartbeats 2000000 in
theorem dec_back13 (v x : Int) (hk : kindOk 13 v = true) (v0 : 0 ≤ v) (v1 : v < 4294967296) (x0 : 0 ≤ x) (x1 : x < 4294967296) (hm : MtA 13 v x) :
    okF 13 (readT 13 x).1 (readT 13 x).2.1 (readT 13 x).2.2.1 (readT 13 x).2.2.2 ∧ v + fldF 13 (readT 13 x).1 (readT 13 x).2.1 (readT 13 x).2.2.1 (readT 13 x).2.2.2 = x := by
  simp only [kindOk, MtA, okF, fldF, readT, jumpImm, branchImm, storeImm, sgn, part_def, Int.reducePow, Bool.and_eq_true, decide_eq_true_eq, true_and, and_true] at hk hm ⊢
  have e := x_split x
  have e2 := c_split x
  have ev := v_split12 v (by omega) (by omega) v0
  have r : 0 ≤ x / 1048576 % 4096 ∧ x / 1048576 % 4096 < 4096 ∧ x / 1048576 % 4096 = x / 1048576 := by omega
  obtain ⟨hm1, hm2⟩ := hm
  refine ⟨⟨r.1, r.2.1⟩, ?_⟩
  rw [r.2.2]
  omega
/-- a word that matches is made of its fields -/
theorem dec_back (f v x : Int) (f0 : 0 ≤ f) (f1 : f ≤ 13) (hk : kindOk f v = true) (v0 : 0 ≤ v) (v1 : v < 4294967296) (x0 : 0 ≤ x) (x1 : x < 4294967296) (hm : MtA f v x) :
    okF f (readT f x).1 (readT f x).2.1 (readT f x).2.2.1 (readT f x).2.2.2 ∧ v + fldF f (readT f x).1 (readT f x).2.1 (readT f x).2.2.1 (readT f x).2.2.2 = x := by
  rcases f_cases f0 f1 with rfl | rfl | rfl | rfl | rfl | rfl | rfl | rfl | rfl | rfl | rfl | rfl | rfl | rfl
  · exact dec_back0 v x hk v0 v1 x0 x1 hm
  · exact dec_back1 v x hk v0 v1 x0 x1 hm
  · exact dec_back2 v x hk v0 v1 x0 x1 hm
  · exact dec_back3 v x hk v0 v1 x0 x1 hm
  · exact dec_back4 v x hk v0 v1 x0 x1 hm
  · exact dec_back5 v x hk v0 v1 x0 x1 hm
  · exact dec_back6 v x hk v0 v1 x0 x1 hm
  · exact dec_back7 v x hk v0 v1 x0 x1 hm
  · exact dec_back8 v x hk v0 v1 x0 x1 hm
  · exact dec_back9 v x hk v0 v1 x0 x1 hm
  · exact dec_back10 v x hk v0 v1 x0 x1 hm
  · exact dec_back11 v x hk v0 v1 x0 x1 hm
  · exact dec_back12 v x hk v0 v1 x0 x1 hm
  · exact dec_back13 v x hk v0 v1 x0 x1 hm
end Go.Proofs.YtnkeghnnppoopaaDoor
