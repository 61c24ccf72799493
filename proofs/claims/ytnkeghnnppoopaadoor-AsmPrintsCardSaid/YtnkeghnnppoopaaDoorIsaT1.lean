/- Part T1: what is written of an instruction, format by format. -/
import Derived.Test.YtnkeghnnppoopaaDoorIsaT
namespace Go.Proofs.YtnkeghnnppoopaaDoor
open Go.RowKit Go.XHeap
set_option linter.unusedVariables false

set_option maxRecDepth 100000 in
set_option maxHeartbeats 1000000 in
theorem write_1_0 (op rd rs1 rs2 imm : Int) (d0 : 0 ≤ rd) (d1 : rd < 32) (a0 : 0 ≤ rs1) (a1 : rs1 < 32) (b0 : 0 ≤ rs2) (b1 : rs2 < 32) (hi : imm < 0 ∨ 1048576 ≤ imm) (w : World) :
    Calls Tryd.prog 17 #[.int .i64 1, .agg #[.int .i64 op, .int .i64 rd, .int .i64 rs1, .int .i64 rs2, .int .i64 imm]] w (WrNo w) := by
  have HL := Lib.hid (fun W => low_no imm 20 (by decide) (by decide) (by simpa using hi) W)
  clear hi
  go_enter Tryd.func17, Tryd.ntmps17
  go_wp2
  go_quiet (fail)
  go_wp2
  go_quiet ((go_at_call 15; exact quiet_add_same (HL.out _)))
  go_wp2
  go_ret2
  exact ⟨⟨_, rfl⟩, grown_dr (grown_dr ((Grown.refl _).alloc _ _) _) _⟩
set_option maxRecDepth 100000 in
set_option maxHeartbeats 1000000 in
theorem write_1_1 (op rd rs1 rs2 imm : Int) (d0 : 0 ≤ rd) (d1 : rd < 32) (a0 : 0 ≤ rs1) (a1 : rs1 < 32) (b0 : 0 ≤ rs2) (b1 : rs2 < 32) (i0 : 0 ≤ imm) (i1 : imm < 1048576) (h1 : (bits BinOp.or IntKind.i64 rs1 rs2 == 0) = false) (w : World) :
    Calls Tryd.prog 17 #[.int .i64 1, .agg #[.int .i64 op, .int .i64 rd, .int .i64 rs1, .int .i64 rs2, .int .i64 imm]] w (WrNo w) := by
  have HL := Lib.hid (fun W => low_yes imm 20 (by decide) (by decide) i0 (by simpa using i1) W)
  go_enter Tryd.func17, Tryd.ntmps17
  go_wp2
  go_quiet (fail)
  go_wp2
  go_quiet ((go_at_call 15; exact quiet_add_same (HL.out _)))
  go_wp2
  go_ret2
  exact ⟨⟨_, rfl⟩, grown_dr (grown_dr ((Grown.refl _).alloc _ _) _) _⟩
set_option maxRecDepth 100000 in
set_option maxHeartbeats 1000000 in
theorem write_1_2 (op rd rs1 rs2 imm : Int) (d0 : 0 ≤ rd) (d1 : rd < 32) (a0 : 0 ≤ rs1) (a1 : rs1 < 32) (b0 : 0 ≤ rs2) (b1 : rs2 < 32) (i0 : 0 ≤ imm) (i1 : imm < 1048576) (h1 : (bits BinOp.or IntKind.i64 rs1 rs2 == 0) = true) (w : World) :
    Calls Tryd.prog 17 #[.int .i64 1, .agg #[.int .i64 op, .int .i64 rd, .int .i64 rs1, .int .i64 rs2, .int .i64 imm]] w (WrY (sumF 1 rd rs1 rs2 imm) w) := by
  have HL := Lib.hid (fun W => low_yes imm 20 (by decide) (by decide) i0 (by simpa using i1) W)
  go_enter Tryd.func17, Tryd.ntmps17
  go_wp2
  go_quiet (fail)
  go_wp2
  go_quiet ((go_at_call 15; exact quiet_add_same (HL.out _)))
  go_wp2
  go_ret2
  exact ⟨ret_yb (raw1 rd rs1 rs2 imm d0 d1 a0 a1 b0 b1 i0 (by omega)), grown_dr (grown_dr ((Grown.refl _).alloc _ _) _) _⟩
set_option maxRecDepth 100000 in
set_option maxHeartbeats 1000000 in
theorem write_2_0 (op rd rs1 rs2 imm : Int) (d0 : 0 ≤ rd) (d1 : rd < 32) (a0 : 0 ≤ rs1) (a1 : rs1 < 32) (b0 : 0 ≤ rs2) (b1 : rs2 < 32) (hi : imm < -1048576 ∨ 1048576 ≤ imm) (w : World) :
    Calls Tryd.prog 17 #[.int .i64 2, .agg #[.int .i64 op, .int .i64 rd, .int .i64 rs1, .int .i64 rs2, .int .i64 imm]] w (WrNo w) := by
  have HL := Lib.hid (fun W => within_21_no imm hi W)
  clear hi
  go_enter Tryd.func17, Tryd.ntmps17
  go_wp2
  go_quiet (fail)
  go_wp2
  go_quiet ((go_at_call 23; exact quiet_add_same (HL.out _)))
  go_wp2
  go_ret2
  exact ⟨⟨_, rfl⟩, grown_dr (grown_dr ((Grown.refl _).alloc _ _) _) _⟩
set_option maxRecDepth 100000 in
set_option maxHeartbeats 1000000 in
theorem write_2_1 (op rd rs1 rs2 imm : Int) (d0 : 0 ≤ rd) (d1 : rd < 32) (a0 : 0 ≤ rs1) (a1 : rs1 < 32) (b0 : 0 ≤ rs2) (b1 : rs2 < 32) (i0 : -1048576 ≤ imm) (i1 : imm < 1048576) (h1 : (bits BinOp.and IntKind.u32 (imm % 4294967296) 1 == 0) = false) (w : World) :
    Calls Tryd.prog 17 #[.int .i64 2, .agg #[.int .i64 op, .int .i64 rd, .int .i64 rs1, .int .i64 rs2, .int .i64 imm]] w (WrNo w) := by
  have HL := Lib.hid (fun W => within_21_yes imm i0 i1 W)
  go_enter Tryd.func17, Tryd.ntmps17
  go_wp2
  go_quiet (fail)
  go_wp2
  go_quiet ((go_at_call 23; exact quiet_add_same (HL.out _)))
  go_wp2
  go_ret2
  exact ⟨⟨_, rfl⟩, grown_dr (grown_dr ((Grown.refl _).alloc _ _) _) _⟩
set_option maxRecDepth 100000 in
set_option maxHeartbeats 1000000 in
theorem write_2_2 (op rd rs1 rs2 imm : Int) (d0 : 0 ≤ rd) (d1 : rd < 32) (a0 : 0 ≤ rs1) (a1 : rs1 < 32) (b0 : 0 ≤ rs2) (b1 : rs2 < 32) (i0 : -1048576 ≤ imm) (i1 : imm < 1048576) (h1 : (bits BinOp.and IntKind.u32 (imm % 4294967296) 1 == 0) = true) (h2 : (bits BinOp.or IntKind.i64 rs1 rs2 == 0) = false) (w : World) :
    Calls Tryd.prog 17 #[.int .i64 2, .agg #[.int .i64 op, .int .i64 rd, .int .i64 rs1, .int .i64 rs2, .int .i64 imm]] w (WrNo w) := by
  have HL := Lib.hid (fun W => within_21_yes imm i0 i1 W)
  go_enter Tryd.func17, Tryd.ntmps17
  go_wp2
  go_quiet (fail)
  go_wp2
  go_quiet ((go_at_call 23; exact quiet_add_same (HL.out _)))
  go_wp2
  go_ret2
  exact ⟨⟨_, rfl⟩, grown_dr (grown_dr ((Grown.refl _).alloc _ _) _) _⟩
set_option maxRecDepth 100000 in
set_option maxHeartbeats 1000000 in
theorem write_2_3 (op rd rs1 rs2 imm : Int) (d0 : 0 ≤ rd) (d1 : rd < 32) (a0 : 0 ≤ rs1) (a1 : rs1 < 32) (b0 : 0 ≤ rs2) (b1 : rs2 < 32) (i0 : -1048576 ≤ imm) (i1 : imm < 1048576) (h1 : (bits BinOp.and IntKind.u32 (imm % 4294967296) 1 == 0) = true) (h2 : (bits BinOp.or IntKind.i64 rs1 rs2 == 0) = true) (w : World) :
    Calls Tryd.prog 17 #[.int .i64 2, .agg #[.int .i64 op, .int .i64 rd, .int .i64 rs1, .int .i64 rs2, .int .i64 imm]] w (WrY (sumF 2 rd rs1 rs2 imm) w) := by
  have HL := Lib.hid (fun W => within_21_yes imm i0 i1 W)
  go_enter Tryd.func17, Tryd.ntmps17
  go_wp2
  go_quiet (fail)
  go_wp2
  go_quiet ((go_at_call 23; exact quiet_add_same (HL.out _)))
  go_wp2
  go_ret2
  exact ⟨ret_yb (raw2 rd rs1 rs2 imm d0 d1 a0 a1 b0 b1), grown_dr (grown_dr ((Grown.refl _).alloc _ _) _) _⟩
set_option maxRecDepth 100000 in
set_option maxHeartbeats 1000000 in
theorem write_0_0 (op rd rs1 rs2 imm : Int) (d0 : 0 ≤ rd) (d1 : rd < 32) (a0 : 0 ≤ rs1) (a1 : rs1 < 32) (b0 : 0 ≤ rs2) (b1 : rs2 < 32) (h0 : (bits BinOp.or IntKind.i64 (bits BinOp.or IntKind.i64 (bits BinOp.or IntKind.i64 rd rs1) rs2) imm == 0) = false) (w : World) :
    Calls Tryd.prog 17 #[.int .i64 0, .agg #[.int .i64 op, .int .i64 rd, .int .i64 rs1, .int .i64 rs2, .int .i64 imm]] w (WrNo w) := by
  go_enter Tryd.func17, Tryd.ntmps17
  go_wp2
  go_quiet (fail)
  go_wp2
  go_quiet (fail)
  go_wp2
  go_ret2
  exact ⟨⟨_, rfl⟩, grown_dr (grown_dr ((Grown.refl _).alloc _ _) _) _⟩
set_option maxRecDepth 100000 in
set_option maxHeartbeats 1000000 in
theorem write_0_1 (op rd rs1 rs2 imm : Int) (d0 : 0 ≤ rd) (d1 : rd < 32) (a0 : 0 ≤ rs1) (a1 : rs1 < 32) (b0 : 0 ≤ rs2) (b1 : rs2 < 32) (h0 : (bits BinOp.or IntKind.i64 (bits BinOp.or IntKind.i64 (bits BinOp.or IntKind.i64 rd rs1) rs2) imm == 0) = true) (w : World) :
    Calls Tryd.prog 17 #[.int .i64 0, .agg #[.int .i64 op, .int .i64 rd, .int .i64 rs1, .int .i64 rs2, .int .i64 imm]] w (WrY (sumF 0 rd rs1 rs2 imm) w) := by
  go_enter Tryd.func17, Tryd.ntmps17
  go_wp2
  go_quiet (fail)
  go_wp2
  go_quiet (fail)
  go_wp2
  go_ret2
  exact ⟨ret_yb (rfl), grown_dr (grown_dr ((Grown.refl _).alloc _ _) _) _⟩
set_option maxRecDepth 100000 in
set_option maxHeartbeats 1000000 in
theorem write_8_0 (op rd rs1 rs2 imm : Int) (d0 : 0 ≤ rd) (d1 : rd < 32) (a0 : 0 ≤ rs1) (a1 : rs1 < 32) (b0 : 0 ≤ rs2) (b1 : rs2 < 32) (h0 : (imm == 0) = false) (w : World) :
    Calls Tryd.prog 17 #[.int .i64 8, .agg #[.int .i64 op, .int .i64 rd, .int .i64 rs1, .int .i64 rs2, .int .i64 imm]] w (WrNo w) := by
  go_enter Tryd.func17, Tryd.ntmps17
  go_wp2
  go_quiet (fail)
  go_wp2
  go_quiet (fail)
  go_wp2
  go_ret2
  exact ⟨⟨_, rfl⟩, grown_dr (grown_dr ((Grown.refl _).alloc _ _) _) _⟩
set_option maxRecDepth 100000 in
set_option maxHeartbeats 1000000 in
theorem write_8_1 (op rd rs1 rs2 imm : Int) (d0 : 0 ≤ rd) (d1 : rd < 32) (a0 : 0 ≤ rs1) (a1 : rs1 < 32) (b0 : 0 ≤ rs2) (b1 : rs2 < 32) (h0 : (imm == 0) = true) (w : World) :
    Calls Tryd.prog 17 #[.int .i64 8, .agg #[.int .i64 op, .int .i64 rd, .int .i64 rs1, .int .i64 rs2, .int .i64 imm]] w (WrY (sumF 8 rd rs1 rs2 imm) w) := by
  go_enter Tryd.func17, Tryd.ntmps17
  go_wp2
  go_quiet (fail)
  go_wp2
  go_quiet (fail)
  go_wp2
  go_ret2
  exact ⟨ret_yb (raw8 rd rs1 rs2 imm d0 d1 a0 a1 b0 b1), grown_dr (grown_dr ((Grown.refl _).alloc _ _) _) _⟩
end Go.Proofs.YtnkeghnnppoopaaDoor
