/- Part U: what write does, whatever the instruction. -/
import Derived.Test.YtnkeghnnppoopaaDoorIsaT1
import Derived.Test.YtnkeghnnppoopaaDoorIsaT2
import Derived.Test.YtnkeghnnppoopaaDoorIsaT3
import Derived.Test.YtnkeghnnppoopaaDoorIsaT4
namespace Go.Proofs.YtnkeghnnppoopaaDoor
open Go.RowKit Go.XHeap
set_option linter.unusedVariables false

theorem or2_t {a b : Int} (h1 : a = 0) (h2 : b = 0) : (bits BinOp.or IntKind.i64 a b == 0) = true := by subst h1 h2; decide
theorem or2_f {a b : Int} (a0 : 0 ≤ a) (a1 : a < 32) (b0 : 0 ≤ b) (b1 : b < 32) (h : ¬ (a = 0 ∧ b = 0)) : (bits BinOp.or IntKind.i64 a b == 0) = false := by
  rw [beq_eq_false_iff_ne]; intro e; exact h ((or_i64 a b (by omega) (by omega) (by omega) (by omega)).1 e)
theorem or3_t {a b c : Int} (h1 : a = 0) (h2 : b = 0) (h3 : c = 0) : (bits BinOp.or IntKind.i64 (bits BinOp.or IntKind.i64 a b) c == 0) = true := by subst h1 h2 h3; decide
theorem or3_f {a b c : Int} (a0 : 0 ≤ a) (a1 : a < 32) (b0 : 0 ≤ b) (b1 : b < 32) (c0 : 0 ≤ c) (c1 : c < 32) (h : ¬ (a = 0 ∧ b = 0 ∧ c = 0)) : (bits BinOp.or IntKind.i64 (bits BinOp.or IntKind.i64 a b) c == 0) = false := by
  rw [beq_eq_false_iff_ne]; intro e
  obtain ⟨e1, e2⟩ := (or_i64 _ c (or_rg a b).1 (or_rg a b).2 (by omega) (by omega)).1 e
  obtain ⟨e3, e4⟩ := (or_i64 a b (by omega) (by omega) (by omega) (by omega)).1 e1
  exact h ⟨e3, e4, e2⟩
theorem or4_t {a b c d : Int} (h1 : a = 0) (h2 : b = 0) (h3 : c = 0) (h4 : d = 0) : (bits BinOp.or IntKind.i64 (bits BinOp.or IntKind.i64 (bits BinOp.or IntKind.i64 a b) c) d == 0) = true := by subst h1 h2 h3 h4; decide
theorem or4_f {a b c d : Int} (a0 : 0 ≤ a) (a1 : a < 32) (b0 : 0 ≤ b) (b1 : b < 32) (c0 : 0 ≤ c) (c1 : c < 32) (d0 : -9223372036854775808 ≤ d) (d1 : d ≤ 9223372036854775807) (h : ¬ (a = 0 ∧ b = 0 ∧ c = 0 ∧ d = 0)) : (bits BinOp.or IntKind.i64 (bits BinOp.or IntKind.i64 (bits BinOp.or IntKind.i64 a b) c) d == 0) = false := by
  rw [beq_eq_false_iff_ne]; intro e
  obtain ⟨e0, e9⟩ := (or_i64 _ d (or_rg _ c).1 (or_rg _ c).2 d0 d1).1 e
  obtain ⟨e1, e2⟩ := (or_i64 _ c (or_rg a b).1 (or_rg a b).2 (by omega) (by omega)).1 e0
  obtain ⟨e3, e4⟩ := (or_i64 a b (by omega) (by omega) (by omega) (by omega)).1 e1
  exact h ⟨e3, e4, e2, e9⟩
theorem and_v (imm : Int) : bits BinOp.and IntKind.u32 (imm % 4294967296) 1 = imm % 2 := by
  rw [and_k (imm % 4294967296) 1 1 (by decide) (by decide) (by omega) (by omega)]; show imm % 4294967296 % 2 = imm % 2; omega
theorem and_t {imm : Int} (h : imm % 2 = 0) : (bits BinOp.and IntKind.u32 (imm % 4294967296) 1 == 0) = true := by rw [and_v, h]; rfl
theorem and_f {imm : Int} (h : ¬ imm % 2 = 0) : (bits BinOp.and IntKind.u32 (imm % 4294967296) 1 == 0) = false := by rw [and_v]; simpa using h
theorem eq0_t {a : Int} (h : a = 0) : (a == 0) = true := by simpa using h
theorem eq0_f {a : Int} (h : ¬ a = 0) : (a == 0) = false := by simpa using h
theorem write_ok (f op rd rs1 rs2 imm : Int) (f0 : 0 ≤ f) (f1 : f ≤ 13) (d0 : 0 ≤ rd) (d1 : rd < 32) (a0 : 0 ≤ rs1) (a1 : rs1 < 32) (b0 : 0 ≤ rs2) (b1 : rs2 < 32) (ho : okF f rd rs1 rs2 imm) (w : World) :
    Calls Tryd.prog 17 #[.int .i64 f, .agg #[.int .i64 op, .int .i64 rd, .int .i64 rs1, .int .i64 rs2, .int .i64 imm]] w (WrY (fldF f rd rs1 rs2 imm) w) := by
  rcases f_cases f0 f1 with rfl | rfl | rfl | rfl | rfl | rfl | rfl | rfl | rfl | rfl | rfl | rfl | rfl | rfl
  · exact write_0_1 op rd rs1 rs2 imm d0 d1 a0 a1 b0 b1 (or4_t ho.1 ho.2.1 ho.2.2.1 ho.2.2.2) w
  · exact write_1_2 op rd rs1 rs2 imm d0 d1 a0 a1 b0 b1 ho.2.2.1 ho.2.2.2 (or2_t ho.1 ho.2.1) w
  · exact write_2_3 op rd rs1 rs2 imm d0 d1 a0 a1 b0 b1 ho.2.2.1 ho.2.2.2.1 (and_t ho.2.2.2.2) (or2_t ho.1 ho.2.1) w
  · exact write_3_3 op rd rs1 rs2 imm d0 d1 a0 a1 b0 b1 ho.2.1 ho.2.2.1 (and_t ho.2.2.2) (eq0_t ho.1) w
  · exact write_4_2 op rd rs1 rs2 imm d0 d1 a0 a1 b0 b1 ho.2.1 ho.2.2 (eq0_t ho.1) w
  · exact write_5_2 op rd rs1 rs2 imm d0 d1 a0 a1 b0 b1 ho.2.1 ho.2.2 (eq0_t ho.1) w
  · exact write_6_2 op rd rs1 rs2 imm d0 d1 a0 a1 b0 b1 ho.2.1 ho.2.2 (eq0_t ho.1) w
  · exact write_7_2 op rd rs1 rs2 imm d0 d1 a0 a1 b0 b1 ho.2.1 ho.2.2 (eq0_t ho.1) w
  · exact write_8_1 op rd rs1 rs2 imm d0 d1 a0 a1 b0 b1 (eq0_t ho) w
  · exact write_9_1 op rd rs1 rs2 imm d0 d1 a0 a1 b0 b1 ho.1 ho.2 w
  · exact write_10_2 op rd rs1 rs2 imm d0 d1 a0 a1 b0 b1 ho.2.1 ho.2.2 (eq0_t ho.1) w
  · exact write_11_2 op rd rs1 rs2 imm d0 d1 a0 a1 b0 b1 ho.2.2.2.1 ho.2.2.2.2 (or3_t ho.1 ho.2.1 ho.2.2.1) w
  · exact write_12_2 op rd rs1 rs2 imm d0 d1 a0 a1 b0 b1 ho.2.1 ho.2.2 (eq0_t ho.1) w
  · exact write_13_2 op rd rs1 rs2 imm d0 d1 a0 a1 b0 b1 ho.2.1 ho.2.2 (eq0_t ho.1) w
theorem write_no (f op rd rs1 rs2 imm : Int) (f0 : 0 ≤ f) (f1 : f ≤ 13) (d0 : 0 ≤ rd) (d1 : rd < 32) (a0 : 0 ≤ rs1) (a1 : rs1 < 32) (b0 : 0 ≤ rs2) (b1 : rs2 < 32) (m0 : -9223372036854775808 ≤ imm) (m1 : imm ≤ 9223372036854775807) (hn : ¬ okF f rd rs1 rs2 imm) (w : World) :
    Calls Tryd.prog 17 #[.int .i64 f, .agg #[.int .i64 op, .int .i64 rd, .int .i64 rs1, .int .i64 rs2, .int .i64 imm]] w (WrNo w) := by
  rcases f_cases f0 f1 with rfl | rfl | rfl | rfl | rfl | rfl | rfl | rfl | rfl | rfl | rfl | rfl | rfl | rfl <;> simp only [okF] at hn
  · by_cases hc0 : rd = 0 ∧ rs1 = 0 ∧ rs2 = 0 ∧ imm = 0
    case neg => exact write_0_0 op rd rs1 rs2 imm d0 d1 a0 a1 b0 b1 (or4_f d0 d1 a0 a1 b0 b1 m0 m1 hc0) w
    exact absurd (by first | exact hc0 | omega) hn
  · by_cases hc0 : 0 ≤ imm ∧ imm < 1048576
    case neg => exact write_1_0 op rd rs1 rs2 imm d0 d1 a0 a1 b0 b1 (by omega) w
    by_cases hc1 : rs1 = 0 ∧ rs2 = 0
    case neg => exact write_1_1 op rd rs1 rs2 imm d0 d1 a0 a1 b0 b1 hc0.1 hc0.2 (or2_f a0 a1 b0 b1 hc1) w
    exact absurd (by first | exact hc0 | omega) hn
  · by_cases hc0 : -1048576 ≤ imm ∧ imm < 1048576
    case neg => exact write_2_0 op rd rs1 rs2 imm d0 d1 a0 a1 b0 b1 (by omega) w
    by_cases hc1 : imm % 2 = 0
    case neg => exact write_2_1 op rd rs1 rs2 imm d0 d1 a0 a1 b0 b1 hc0.1 hc0.2 (and_f hc1) w
    by_cases hc2 : rs1 = 0 ∧ rs2 = 0
    case neg => exact write_2_2 op rd rs1 rs2 imm d0 d1 a0 a1 b0 b1 hc0.1 hc0.2 (and_t hc1) (or2_f a0 a1 b0 b1 hc2) w
    exact absurd (by first | exact hc0 | omega) hn
  · by_cases hc0 : -4096 ≤ imm ∧ imm < 4096
    case neg => exact write_3_0 op rd rs1 rs2 imm d0 d1 a0 a1 b0 b1 (by omega) w
    by_cases hc1 : imm % 2 = 0
    case neg => exact write_3_1 op rd rs1 rs2 imm d0 d1 a0 a1 b0 b1 hc0.1 hc0.2 (and_f hc1) w
    by_cases hc2 : rd = 0
    case neg => exact write_3_2 op rd rs1 rs2 imm d0 d1 a0 a1 b0 b1 hc0.1 hc0.2 (and_t hc1) (eq0_f hc2) w
    exact absurd (by first | exact hc0 | omega) hn
  · by_cases hc0 : -2048 ≤ imm ∧ imm < 2048
    case neg => exact write_4_0 op rd rs1 rs2 imm d0 d1 a0 a1 b0 b1 (by omega) w
    by_cases hc1 : rs2 = 0
    case neg => exact write_4_1 op rd rs1 rs2 imm d0 d1 a0 a1 b0 b1 hc0.1 hc0.2 (eq0_f hc1) w
    exact absurd (by first | exact hc0 | omega) hn
  · by_cases hc0 : -2048 ≤ imm ∧ imm < 2048
    case neg => exact write_5_0 op rd rs1 rs2 imm d0 d1 a0 a1 b0 b1 (by omega) w
    by_cases hc1 : rd = 0
    case neg => exact write_5_1 op rd rs1 rs2 imm d0 d1 a0 a1 b0 b1 hc0.1 hc0.2 (eq0_f hc1) w
    exact absurd (by first | exact hc0 | omega) hn
  · by_cases hc0 : -2048 ≤ imm ∧ imm < 2048
    case neg => exact write_6_0 op rd rs1 rs2 imm d0 d1 a0 a1 b0 b1 (by omega) w
    by_cases hc1 : rs2 = 0
    case neg => exact write_6_1 op rd rs1 rs2 imm d0 d1 a0 a1 b0 b1 hc0.1 hc0.2 (eq0_f hc1) w
    exact absurd (by first | exact hc0 | omega) hn
  · by_cases hc0 : 0 ≤ imm ∧ imm < 32
    case neg => exact write_7_0 op rd rs1 rs2 imm d0 d1 a0 a1 b0 b1 (by omega) w
    by_cases hc1 : rs2 = 0
    case neg => exact write_7_1 op rd rs1 rs2 imm d0 d1 a0 a1 b0 b1 hc0.1 hc0.2 (eq0_f hc1) w
    exact absurd (by first | exact hc0 | omega) hn
  · by_cases hc0 : imm = 0
    case neg => exact write_8_0 op rd rs1 rs2 imm d0 d1 a0 a1 b0 b1 (eq0_f hc0) w
    exact absurd (by first | exact hc0 | omega) hn
  · by_cases hc0 : 0 ≤ imm ∧ imm < 4
    case neg => exact write_9_0 op rd rs1 rs2 imm d0 d1 a0 a1 b0 b1 (by omega) w
    exact absurd (by first | exact hc0 | omega) hn
  · by_cases hc0 : 0 ≤ imm ∧ imm < 4
    case neg => exact write_10_0 op rd rs1 rs2 imm d0 d1 a0 a1 b0 b1 (by omega) w
    by_cases hc1 : rs2 = 0
    case neg => exact write_10_1 op rd rs1 rs2 imm d0 d1 a0 a1 b0 b1 hc0.1 hc0.2 (eq0_f hc1) w
    exact absurd (by first | exact hc0 | omega) hn
  · by_cases hc0 : 0 ≤ imm ∧ imm < 256
    case neg => exact write_11_0 op rd rs1 rs2 imm d0 d1 a0 a1 b0 b1 (by omega) w
    by_cases hc1 : rd = 0 ∧ rs1 = 0 ∧ rs2 = 0
    case neg => exact write_11_1 op rd rs1 rs2 imm d0 d1 a0 a1 b0 b1 hc0.1 hc0.2 (or3_f d0 d1 a0 a1 b0 b1 hc1) w
    exact absurd (by first | exact hc0 | omega) hn
  · by_cases hc0 : 0 ≤ imm ∧ imm < 4096
    case neg => exact write_12_0 op rd rs1 rs2 imm d0 d1 a0 a1 b0 b1 (by omega) w
    by_cases hc1 : rs2 = 0
    case neg => exact write_12_1 op rd rs1 rs2 imm d0 d1 a0 a1 b0 b1 hc0.1 hc0.2 (eq0_f hc1) w
    exact absurd (by first | exact hc0 | omega) hn
  · by_cases hc0 : 0 ≤ imm ∧ imm < 4096
    case neg => exact write_13_0 op rd rs1 rs2 imm d0 d1 a0 a1 b0 b1 (by omega) w
    by_cases hc1 : rs2 = 0
    case neg => exact write_13_1 op rd rs1 rs2 imm d0 d1 a0 a1 b0 b1 hc0.1 hc0.2 (eq0_f hc1) w
    exact absurd (by first | exact hc0 | omega) hn
end Go.Proofs.YtnkeghnnppoopaaDoor
