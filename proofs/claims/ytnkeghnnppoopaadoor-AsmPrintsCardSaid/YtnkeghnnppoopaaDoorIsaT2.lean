/- Part T2: what is written of an instruction, format by format. -/
import Derived.Test.YtnkeghnnppoopaaDoorIsaT
namespace Go.Proofs.YtnkeghnnppoopaaDoor
open Go.RowKit Go.XHeap
set_option linter.unusedVariables false

set_option maxRecDepth 100000 in
set_option maxHeartbeats 1000000 in
theorem write_3_0 (op rd rs1 rs2 imm : Int) (d0 : 0 ≤ rd) (d1 : rd < 32) (a0 : 0 ≤ rs1) (a1 : rs1 < 32) (b0 : 0 ≤ rs2) (b1 : rs2 < 32) (hi : imm < -4096 ∨ 4096 ≤ imm) (w : World) :
    Calls Tryd.prog 17 #[.int .i64 3, .agg #[.int .i64 op, .int .i64 rd, .int .i64 rs1, .int .i64 rs2, .int .i64 imm]] w (WrNo w) := by
  have HL := Lib.hid (fun W => within_13_no imm hi W)
  clear hi
  go_enter Tryd.func17, Tryd.ntmps17
  go_wp2
  go_quiet (fail)
  go_wp2
  go_quiet ((go_at_call 23; exact quiet_add_same (HL.out _)))
  go_wp2
  go_ret2
  exact ⟨⟨_, rfl⟩, grown_dr (grown_dr ((Grown.refl _).alloc _ _) _) _⟩
set_option maxRecDepth 100000 in
set_option maxHeartbeats 1000000 in
theorem write_3_1 (op rd rs1 rs2 imm : Int) (d0 : 0 ≤ rd) (d1 : rd < 32) (a0 : 0 ≤ rs1) (a1 : rs1 < 32) (b0 : 0 ≤ rs2) (b1 : rs2 < 32) (i0 : -4096 ≤ imm) (i1 : imm < 4096) (h1 : (bits BinOp.and IntKind.u32 (imm % 4294967296) 1 == 0) = false) (w : World) :
    Calls Tryd.prog 17 #[.int .i64 3, .agg #[.int .i64 op, .int .i64 rd, .int .i64 rs1, .int .i64 rs2, .int .i64 imm]] w (WrNo w) := by
  have HL := Lib.hid (fun W => within_13_yes imm i0 i1 W)
  go_enter Tryd.func17, Tryd.ntmps17
  go_wp2
  go_quiet (fail)
  go_wp2
  go_quiet ((go_at_call 23; exact quiet_add_same (HL.out _)))
  go_wp2
  go_ret2
  exact ⟨⟨_, rfl⟩, grown_dr (grown_dr ((Grown.refl _).alloc _ _) _) _⟩
set_option maxRecDepth 100000 in
set_option maxHeartbeats 1000000 in
theorem write_3_2 (op rd rs1 rs2 imm : Int) (d0 : 0 ≤ rd) (d1 : rd < 32) (a0 : 0 ≤ rs1) (a1 : rs1 < 32) (b0 : 0 ≤ rs2) (b1 : rs2 < 32) (i0 : -4096 ≤ imm) (i1 : imm < 4096) (h1 : (bits BinOp.and IntKind.u32 (imm % 4294967296) 1 == 0) = true) (h2 : (rd == 0) = false) (w : World) :
    Calls Tryd.prog 17 #[.int .i64 3, .agg #[.int .i64 op, .int .i64 rd, .int .i64 rs1, .int .i64 rs2, .int .i64 imm]] w (WrNo w) := by
  have HL := Lib.hid (fun W => within_13_yes imm i0 i1 W)
  go_enter Tryd.func17, Tryd.ntmps17
  go_wp2
  go_quiet (fail)
  go_wp2
  go_quiet ((go_at_call 23; exact quiet_add_same (HL.out _)))
  go_wp2
  go_ret2
  exact ⟨⟨_, rfl⟩, grown_dr (grown_dr ((Grown.refl _).alloc _ _) _) _⟩
set_option maxRecDepth 100000 in
set_option maxHeartbeats 1000000 in
theorem write_3_3 (op rd rs1 rs2 imm : Int) (d0 : 0 ≤ rd) (d1 : rd < 32) (a0 : 0 ≤ rs1) (a1 : rs1 < 32) (b0 : 0 ≤ rs2) (b1 : rs2 < 32) (i0 : -4096 ≤ imm) (i1 : imm < 4096) (h1 : (bits BinOp.and IntKind.u32 (imm % 4294967296) 1 == 0) = true) (h2 : (rd == 0) = true) (w : World) :
    Calls Tryd.prog 17 #[.int .i64 3, .agg #[.int .i64 op, .int .i64 rd, .int .i64 rs1, .int .i64 rs2, .int .i64 imm]] w (WrY (sumF 3 rd rs1 rs2 imm) w) := by
  have HL := Lib.hid (fun W => within_13_yes imm i0 i1 W)
  go_enter Tryd.func17, Tryd.ntmps17
  go_wp2
  go_quiet (fail)
  go_wp2
  go_quiet ((go_at_call 23; exact quiet_add_same (HL.out _)))
  go_wp2
  go_ret2
  exact ⟨ret_yb (raw3 rd rs1 rs2 imm d0 d1 a0 a1 b0 b1), grown_dr (grown_dr ((Grown.refl _).alloc _ _) _) _⟩
set_option maxRecDepth 100000 in
set_option maxHeartbeats 1000000 in
theorem write_4_0 (op rd rs1 rs2 imm : Int) (d0 : 0 ≤ rd) (d1 : rd < 32) (a0 : 0 ≤ rs1) (a1 : rs1 < 32) (b0 : 0 ≤ rs2) (b1 : rs2 < 32) (hi : imm < -2048 ∨ 2048 ≤ imm) (w : World) :
    Calls Tryd.prog 17 #[.int .i64 4, .agg #[.int .i64 op, .int .i64 rd, .int .i64 rs1, .int .i64 rs2, .int .i64 imm]] w (WrNo w) := by
  have HL := Lib.hid (fun W => within_12_no imm hi W)
  clear hi
  go_enter Tryd.func17, Tryd.ntmps17
  go_wp2
  go_quiet (fail)
  go_wp2
  go_quiet ((go_at_call 23; exact quiet_add_same (HL.out _)))
  go_wp2
  go_ret2
  exact ⟨⟨_, rfl⟩, grown_dr (grown_dr ((Grown.refl _).alloc _ _) _) _⟩
set_option maxRecDepth 100000 in
set_option maxHeartbeats 1000000 in
theorem write_4_1 (op rd rs1 rs2 imm : Int) (d0 : 0 ≤ rd) (d1 : rd < 32) (a0 : 0 ≤ rs1) (a1 : rs1 < 32) (b0 : 0 ≤ rs2) (b1 : rs2 < 32) (i0 : -2048 ≤ imm) (i1 : imm < 2048) (h1 : (rs2 == 0) = false) (w : World) :
    Calls Tryd.prog 17 #[.int .i64 4, .agg #[.int .i64 op, .int .i64 rd, .int .i64 rs1, .int .i64 rs2, .int .i64 imm]] w (WrNo w) := by
  have HL := Lib.hid (fun W => within_12_yes imm i0 i1 W)
  go_enter Tryd.func17, Tryd.ntmps17
  go_wp2
  go_quiet (fail)
  go_wp2
  go_quiet ((go_at_call 23; exact quiet_add_same (HL.out _)))
  go_wp2
  go_ret2
  exact ⟨⟨_, rfl⟩, grown_dr (grown_dr ((Grown.refl _).alloc _ _) _) _⟩
set_option maxRecDepth 100000 in
set_option maxHeartbeats 1000000 in
theorem write_4_2 (op rd rs1 rs2 imm : Int) (d0 : 0 ≤ rd) (d1 : rd < 32) (a0 : 0 ≤ rs1) (a1 : rs1 < 32) (b0 : 0 ≤ rs2) (b1 : rs2 < 32) (i0 : -2048 ≤ imm) (i1 : imm < 2048) (h1 : (rs2 == 0) = true) (w : World) :
    Calls Tryd.prog 17 #[.int .i64 4, .agg #[.int .i64 op, .int .i64 rd, .int .i64 rs1, .int .i64 rs2, .int .i64 imm]] w (WrY (sumF 4 rd rs1 rs2 imm) w) := by
  have HL := Lib.hid (fun W => within_12_yes imm i0 i1 W)
  go_enter Tryd.func17, Tryd.ntmps17
  go_wp2
  go_quiet (fail)
  go_wp2
  go_quiet ((go_at_call 23; exact quiet_add_same (HL.out _)))
  go_wp2
  go_ret2
  exact ⟨ret_yb (raw4 rd rs1 rs2 imm d0 d1 a0 a1 b0 b1), grown_dr (grown_dr ((Grown.refl _).alloc _ _) _) _⟩
set_option maxRecDepth 100000 in
set_option maxHeartbeats 1000000 in
theorem write_9_0 (op rd rs1 rs2 imm : Int) (d0 : 0 ≤ rd) (d1 : rd < 32) (a0 : 0 ≤ rs1) (a1 : rs1 < 32) (b0 : 0 ≤ rs2) (b1 : rs2 < 32) (hi : imm < 0 ∨ 4 ≤ imm) (w : World) :
    Calls Tryd.prog 17 #[.int .i64 9, .agg #[.int .i64 op, .int .i64 rd, .int .i64 rs1, .int .i64 rs2, .int .i64 imm]] w (WrNo w) := by
  have HL := Lib.hid (fun W => low_no imm 2 (by decide) (by decide) (by simpa using hi) W)
  clear hi
  go_enter Tryd.func17, Tryd.ntmps17
  go_wp2
  go_quiet (fail)
  go_wp2_with (go_at_call 15; refine (HL.out _).mono ?_; rintro e w' ⟨rfl, rfl⟩)
  go_ret2
  exact ⟨⟨_, rfl⟩, grown_dr ((Grown.refl _).alloc _ _) _⟩
set_option maxRecDepth 100000 in
set_option maxHeartbeats 1000000 in
theorem write_9_1 (op rd rs1 rs2 imm : Int) (d0 : 0 ≤ rd) (d1 : rd < 32) (a0 : 0 ≤ rs1) (a1 : rs1 < 32) (b0 : 0 ≤ rs2) (b1 : rs2 < 32) (i0 : 0 ≤ imm) (i1 : imm < 4) (w : World) :
    Calls Tryd.prog 17 #[.int .i64 9, .agg #[.int .i64 op, .int .i64 rd, .int .i64 rs1, .int .i64 rs2, .int .i64 imm]] w (WrY (sumF 9 rd rs1 rs2 imm) w) := by
  have HL := Lib.hid (fun W => low_yes imm 2 (by decide) (by decide) i0 (by simpa using i1) W)
  go_enter Tryd.func17, Tryd.ntmps17
  go_wp2
  go_quiet (fail)
  go_wp2_with (go_at_call 15; refine (HL.out _).mono ?_; rintro e w' ⟨rfl, rfl⟩)
  go_ret2
  exact ⟨ret_yb (raw9 rd rs1 rs2 imm d0 d1 a0 a1 b0 b1 i0 i1), grown_dr ((Grown.refl _).alloc _ _) _⟩
set_option maxRecDepth 100000 in
set_option maxHeartbeats 1000000 in
theorem write_11_0 (op rd rs1 rs2 imm : Int) (d0 : 0 ≤ rd) (d1 : rd < 32) (a0 : 0 ≤ rs1) (a1 : rs1 < 32) (b0 : 0 ≤ rs2) (b1 : rs2 < 32) (hi : imm < 0 ∨ 256 ≤ imm) (w : World) :
    Calls Tryd.prog 17 #[.int .i64 11, .agg #[.int .i64 op, .int .i64 rd, .int .i64 rs1, .int .i64 rs2, .int .i64 imm]] w (WrNo w) := by
  have HL := Lib.hid (fun W => low_no imm 8 (by decide) (by decide) (by simpa using hi) W)
  clear hi
  go_enter Tryd.func17, Tryd.ntmps17
  go_wp2
  go_quiet (fail)
  go_wp2
  go_quiet ((go_at_call 15; exact quiet_add_same (HL.out _)))
  go_wp2
  go_ret2
  exact ⟨⟨_, rfl⟩, grown_dr (grown_dr ((Grown.refl _).alloc _ _) _) _⟩
set_option maxRecDepth 100000 in
set_option maxHeartbeats 1000000 in
theorem write_11_1 (op rd rs1 rs2 imm : Int) (d0 : 0 ≤ rd) (d1 : rd < 32) (a0 : 0 ≤ rs1) (a1 : rs1 < 32) (b0 : 0 ≤ rs2) (b1 : rs2 < 32) (i0 : 0 ≤ imm) (i1 : imm < 256) (h1 : (bits BinOp.or IntKind.i64 (bits BinOp.or IntKind.i64 rd rs1) rs2 == 0) = false) (w : World) :
    Calls Tryd.prog 17 #[.int .i64 11, .agg #[.int .i64 op, .int .i64 rd, .int .i64 rs1, .int .i64 rs2, .int .i64 imm]] w (WrNo w) := by
  have HL := Lib.hid (fun W => low_yes imm 8 (by decide) (by decide) i0 (by simpa using i1) W)
  go_enter Tryd.func17, Tryd.ntmps17
  go_wp2
  go_quiet (fail)
  go_wp2
  go_quiet ((go_at_call 15; exact quiet_add_same (HL.out _)))
  go_wp2
  go_ret2
  exact ⟨⟨_, rfl⟩, grown_dr (grown_dr ((Grown.refl _).alloc _ _) _) _⟩
set_option maxRecDepth 100000 in
set_option maxHeartbeats 1000000 in
theorem write_11_2 (op rd rs1 rs2 imm : Int) (d0 : 0 ≤ rd) (d1 : rd < 32) (a0 : 0 ≤ rs1) (a1 : rs1 < 32) (b0 : 0 ≤ rs2) (b1 : rs2 < 32) (i0 : 0 ≤ imm) (i1 : imm < 256) (h1 : (bits BinOp.or IntKind.i64 (bits BinOp.or IntKind.i64 rd rs1) rs2 == 0) = true) (w : World) :
    Calls Tryd.prog 17 #[.int .i64 11, .agg #[.int .i64 op, .int .i64 rd, .int .i64 rs1, .int .i64 rs2, .int .i64 imm]] w (WrY (sumF 11 rd rs1 rs2 imm) w) := by
  have HL := Lib.hid (fun W => low_yes imm 8 (by decide) (by decide) i0 (by simpa using i1) W)
  go_enter Tryd.func17, Tryd.ntmps17
  go_wp2
  go_quiet (fail)
  go_wp2
  go_quiet ((go_at_call 15; exact quiet_add_same (HL.out _)))
  go_wp2
  go_ret2
  exact ⟨ret_yb (raw11 rd rs1 rs2 imm d0 d1 a0 a1 b0 b1 i0 (by omega)), grown_dr (grown_dr ((Grown.refl _).alloc _ _) _) _⟩
end Go.Proofs.YtnkeghnnppoopaaDoor
