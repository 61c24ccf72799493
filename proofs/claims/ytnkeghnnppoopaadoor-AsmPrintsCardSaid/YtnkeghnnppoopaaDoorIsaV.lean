/- Part V: what the document spreads over a word. -/
import Derived.Test.YtnkeghnnppoopaaDoorIsaT
namespace Go.Proofs.YtnkeghnnppoopaaDoor
open Go.RowKit Go.XHeap
set_option linter.unusedVariables false

def spF (l rd rs1 rs2 imm : Int) : Int :=
  match l with
  | 85 => rd * 128 + imm % 1048576 * 4096
  | 74 => sumF 2 rd rs1 rs2 imm
  | 66 => sumF 3 rd rs1 rs2 imm
  | 83 => sumF 5 rd rs1 rs2 imm
  | 82 => sumF 8 rd rs1 rs2 imm
  | 78 => sumF 8 rd rs1 rs2 imm
  | 75 => rd * 128 + rs1 * 32768 + rs2 * 1048576 + imm % 128 * 33554432
  | 65 => rd * 128 + rs1 * 32768 + rs2 * 1048576 + imm % 128 * 33554432
  | 70 => imm % 4096 * 1048576
  | _ => sumF 4 rd rs1 rs2 imm
def SpIs (y : Int) (w : World) (e : Ending) (w' : World) : Prop := e = .returned (.int .u32 y) ∧ Grown w w'
theorem ret_u32 {x y : Int} (h : x = y) : Ending.returned (.int .u32 x) = .returned (.int .u32 y) := by rw [h]
theorem rawU (rd rs1 rs2 imm : Int) (d0 : 0 ≤ rd) (d1 : rd < 32) (a0 : 0 ≤ rs1) (a1 : rs1 < 32) (b0 : 0 ≤ rs2) (b1 : rs2 < 32) : bits .or .u32 (rd * 128) (imm % 4294967296 * 4096 % 4294967296) = rd * 128 + imm % 1048576 * 4096 := by
  rw [show imm % 4294967296 * 4096 % 4294967296 = imm % 1048576 * 4096 from by omega]
  have h : 0 ≤ imm % 1048576 ∧ imm % 1048576 < 1048576 := by omega
  generalize imm % 1048576 = p at *
  rw [u32_or_add (rd * 128) (p * 4096) 4096 1048576 4294967296 12 32 (by decide) (by decide) (by decide) (by decide) (by decide) (by omega) (by omega) (by omega) (by omega) (by omega) (by omega)]
theorem rawK (rd rs1 rs2 imm : Int) (d0 : 0 ≤ rd) (d1 : rd < 32) (a0 : 0 ≤ rs1) (a1 : rs1 < 32) (b0 : 0 ≤ rs2) (b1 : rs2 < 32) : bits .or .u32 (bits .or .u32 (bits .or .u32 (rd * 128) (rs1 * 32768)) (rs2 * 1048576)) (imm % 4294967296 * 33554432 % 4294967296) = rd * 128 + rs1 * 32768 + rs2 * 1048576 + imm % 128 * 33554432 := by
  rw [show imm % 4294967296 * 33554432 % 4294967296 = imm % 128 * 33554432 from by omega]
  have h : 0 ≤ imm % 128 ∧ imm % 128 < 128 := by omega
  generalize imm % 128 = p at *
  rw [u32_or_add (rd * 128) (rs1 * 32768) 32768 32 1048576 15 20 (by decide) (by decide) (by decide) (by decide) (by decide) (by omega) (by omega) (by omega) (by omega) (by omega) (by omega), u32_or_add (rd * 128 + rs1 * 32768) (rs2 * 1048576) 1048576 32 33554432 20 25 (by decide) (by decide) (by decide) (by decide) (by decide) (by omega) (by omega) (by omega) (by omega) (by omega) (by omega), u32_or_add (rd * 128 + rs1 * 32768 + rs2 * 1048576) (p * 33554432) 33554432 128 4294967296 25 32 (by decide) (by decide) (by decide) (by decide) (by decide) (by omega) (by omega) (by omega) (by omega) (by omega) (by omega)]
set_option maxRecDepth 100000 in
theorem spread_85 (s : ByteArray) (c a g op : Int) (rd rs1 rs2 imm : Int) (d0 : 0 ≤ rd) (d1 : rd < 32) (a0 : 0 ≤ rs1) (a1 : rs1 < 32) (b0 : 0 ≤ rs2) (b1 : rs2 < 32) (w : World) :
    Calls Tryd.prog 21 #[rowV s 85 c a g, .agg #[.int .i64 op, .int .i64 rd, .int .i64 rs1, .int .i64 rs2, .int .i64 imm]] w (SpIs (spF 85 rd rs1 rs2 imm) w) := by
  unfold rowV
  go_enter Tryd.func21, Tryd.ntmps21
  go_wp2
  go_ret
  exact ⟨ret_u32 (rawU rd rs1 rs2 imm d0 d1 a0 a1 b0 b1), ((Grown.refl _).alloc _ _).alloc _ _⟩
set_option maxRecDepth 100000 in
theorem spread_74 (s : ByteArray) (c a g op : Int) (rd rs1 rs2 imm : Int) (d0 : 0 ≤ rd) (d1 : rd < 32) (a0 : 0 ≤ rs1) (a1 : rs1 < 32) (b0 : 0 ≤ rs2) (b1 : rs2 < 32) (w : World) :
    Calls Tryd.prog 21 #[rowV s 74 c a g, .agg #[.int .i64 op, .int .i64 rd, .int .i64 rs1, .int .i64 rs2, .int .i64 imm]] w (SpIs (spF 74 rd rs1 rs2 imm) w) := by
  unfold rowV
  go_enter Tryd.func21, Tryd.ntmps21
  go_wp2
  go_ret
  exact ⟨ret_u32 (raw2 rd rs1 rs2 imm d0 d1 a0 a1 b0 b1), ((Grown.refl _).alloc _ _).alloc _ _⟩
set_option maxRecDepth 100000 in
theorem spread_73 (s : ByteArray) (c a g op : Int) (rd rs1 rs2 imm : Int) (d0 : 0 ≤ rd) (d1 : rd < 32) (a0 : 0 ≤ rs1) (a1 : rs1 < 32) (b0 : 0 ≤ rs2) (b1 : rs2 < 32) (w : World) :
    Calls Tryd.prog 21 #[rowV s 73 c a g, .agg #[.int .i64 op, .int .i64 rd, .int .i64 rs1, .int .i64 rs2, .int .i64 imm]] w (SpIs (spF 73 rd rs1 rs2 imm) w) := by
  unfold rowV
  go_enter Tryd.func21, Tryd.ntmps21
  go_wp2
  go_ret
  exact ⟨ret_u32 (raw4 rd rs1 rs2 imm d0 d1 a0 a1 b0 b1), ((Grown.refl _).alloc _ _).alloc _ _⟩
set_option maxRecDepth 100000 in
theorem spread_76 (s : ByteArray) (c a g op : Int) (rd rs1 rs2 imm : Int) (d0 : 0 ≤ rd) (d1 : rd < 32) (a0 : 0 ≤ rs1) (a1 : rs1 < 32) (b0 : 0 ≤ rs2) (b1 : rs2 < 32) (w : World) :
    Calls Tryd.prog 21 #[rowV s 76 c a g, .agg #[.int .i64 op, .int .i64 rd, .int .i64 rs1, .int .i64 rs2, .int .i64 imm]] w (SpIs (spF 76 rd rs1 rs2 imm) w) := by
  unfold rowV
  go_enter Tryd.func21, Tryd.ntmps21
  go_wp2
  go_ret
  exact ⟨ret_u32 (raw4 rd rs1 rs2 imm d0 d1 a0 a1 b0 b1), ((Grown.refl _).alloc _ _).alloc _ _⟩
set_option maxRecDepth 100000 in
theorem spread_72 (s : ByteArray) (c a g op : Int) (rd rs1 rs2 imm : Int) (d0 : 0 ≤ rd) (d1 : rd < 32) (a0 : 0 ≤ rs1) (a1 : rs1 < 32) (b0 : 0 ≤ rs2) (b1 : rs2 < 32) (w : World) :
    Calls Tryd.prog 21 #[rowV s 72 c a g, .agg #[.int .i64 op, .int .i64 rd, .int .i64 rs1, .int .i64 rs2, .int .i64 imm]] w (SpIs (spF 72 rd rs1 rs2 imm) w) := by
  unfold rowV
  go_enter Tryd.func21, Tryd.ntmps21
  go_wp2
  go_ret
  exact ⟨ret_u32 (raw4 rd rs1 rs2 imm d0 d1 a0 a1 b0 b1), ((Grown.refl _).alloc _ _).alloc _ _⟩
set_option maxRecDepth 100000 in
theorem spread_67 (s : ByteArray) (c a g op : Int) (rd rs1 rs2 imm : Int) (d0 : 0 ≤ rd) (d1 : rd < 32) (a0 : 0 ≤ rs1) (a1 : rs1 < 32) (b0 : 0 ≤ rs2) (b1 : rs2 < 32) (w : World) :
    Calls Tryd.prog 21 #[rowV s 67 c a g, .agg #[.int .i64 op, .int .i64 rd, .int .i64 rs1, .int .i64 rs2, .int .i64 imm]] w (SpIs (spF 67 rd rs1 rs2 imm) w) := by
  unfold rowV
  go_enter Tryd.func21, Tryd.ntmps21
  go_wp2
  go_ret
  exact ⟨ret_u32 (raw4 rd rs1 rs2 imm d0 d1 a0 a1 b0 b1), ((Grown.refl _).alloc _ _).alloc _ _⟩
set_option maxRecDepth 100000 in
theorem spread_68 (s : ByteArray) (c a g op : Int) (rd rs1 rs2 imm : Int) (d0 : 0 ≤ rd) (d1 : rd < 32) (a0 : 0 ≤ rs1) (a1 : rs1 < 32) (b0 : 0 ≤ rs2) (b1 : rs2 < 32) (w : World) :
    Calls Tryd.prog 21 #[rowV s 68 c a g, .agg #[.int .i64 op, .int .i64 rd, .int .i64 rs1, .int .i64 rs2, .int .i64 imm]] w (SpIs (spF 68 rd rs1 rs2 imm) w) := by
  unfold rowV
  go_enter Tryd.func21, Tryd.ntmps21
  go_wp2
  go_ret
  exact ⟨ret_u32 (raw4 rd rs1 rs2 imm d0 d1 a0 a1 b0 b1), ((Grown.refl _).alloc _ _).alloc _ _⟩
set_option maxRecDepth 100000 in
theorem spread_66 (s : ByteArray) (c a g op : Int) (rd rs1 rs2 imm : Int) (d0 : 0 ≤ rd) (d1 : rd < 32) (a0 : 0 ≤ rs1) (a1 : rs1 < 32) (b0 : 0 ≤ rs2) (b1 : rs2 < 32) (w : World) :
    Calls Tryd.prog 21 #[rowV s 66 c a g, .agg #[.int .i64 op, .int .i64 rd, .int .i64 rs1, .int .i64 rs2, .int .i64 imm]] w (SpIs (spF 66 rd rs1 rs2 imm) w) := by
  unfold rowV
  go_enter Tryd.func21, Tryd.ntmps21
  go_wp2
  go_ret
  exact ⟨ret_u32 (raw3 rd rs1 rs2 imm d0 d1 a0 a1 b0 b1), ((Grown.refl _).alloc _ _).alloc _ _⟩
set_option maxRecDepth 100000 in
theorem spread_83 (s : ByteArray) (c a g op : Int) (rd rs1 rs2 imm : Int) (d0 : 0 ≤ rd) (d1 : rd < 32) (a0 : 0 ≤ rs1) (a1 : rs1 < 32) (b0 : 0 ≤ rs2) (b1 : rs2 < 32) (w : World) :
    Calls Tryd.prog 21 #[rowV s 83 c a g, .agg #[.int .i64 op, .int .i64 rd, .int .i64 rs1, .int .i64 rs2, .int .i64 imm]] w (SpIs (spF 83 rd rs1 rs2 imm) w) := by
  unfold rowV
  go_enter Tryd.func21, Tryd.ntmps21
  go_wp2
  go_ret
  exact ⟨ret_u32 (raw5 rd rs1 rs2 imm d0 d1 a0 a1 b0 b1), ((Grown.refl _).alloc _ _).alloc _ _⟩
set_option maxRecDepth 100000 in
theorem spread_82 (s : ByteArray) (c a g op : Int) (rd rs1 rs2 imm : Int) (d0 : 0 ≤ rd) (d1 : rd < 32) (a0 : 0 ≤ rs1) (a1 : rs1 < 32) (b0 : 0 ≤ rs2) (b1 : rs2 < 32) (w : World) :
    Calls Tryd.prog 21 #[rowV s 82 c a g, .agg #[.int .i64 op, .int .i64 rd, .int .i64 rs1, .int .i64 rs2, .int .i64 imm]] w (SpIs (spF 82 rd rs1 rs2 imm) w) := by
  unfold rowV
  go_enter Tryd.func21, Tryd.ntmps21
  go_wp2
  go_ret
  exact ⟨ret_u32 (raw8 rd rs1 rs2 imm d0 d1 a0 a1 b0 b1), ((Grown.refl _).alloc _ _).alloc _ _⟩
set_option maxRecDepth 100000 in
theorem spread_75 (s : ByteArray) (c a g op : Int) (rd rs1 rs2 imm : Int) (d0 : 0 ≤ rd) (d1 : rd < 32) (a0 : 0 ≤ rs1) (a1 : rs1 < 32) (b0 : 0 ≤ rs2) (b1 : rs2 < 32) (w : World) :
    Calls Tryd.prog 21 #[rowV s 75 c a g, .agg #[.int .i64 op, .int .i64 rd, .int .i64 rs1, .int .i64 rs2, .int .i64 imm]] w (SpIs (spF 75 rd rs1 rs2 imm) w) := by
  unfold rowV
  go_enter Tryd.func21, Tryd.ntmps21
  go_wp2
  go_ret
  exact ⟨ret_u32 (rawK rd rs1 rs2 imm d0 d1 a0 a1 b0 b1), ((Grown.refl _).alloc _ _).alloc _ _⟩
set_option maxRecDepth 100000 in
theorem spread_65 (s : ByteArray) (c a g op : Int) (rd rs1 rs2 imm : Int) (d0 : 0 ≤ rd) (d1 : rd < 32) (a0 : 0 ≤ rs1) (a1 : rs1 < 32) (b0 : 0 ≤ rs2) (b1 : rs2 < 32) (w : World) :
    Calls Tryd.prog 21 #[rowV s 65 c a g, .agg #[.int .i64 op, .int .i64 rd, .int .i64 rs1, .int .i64 rs2, .int .i64 imm]] w (SpIs (spF 65 rd rs1 rs2 imm) w) := by
  unfold rowV
  go_enter Tryd.func21, Tryd.ntmps21
  go_wp2
  go_ret
  exact ⟨ret_u32 (rawK rd rs1 rs2 imm d0 d1 a0 a1 b0 b1), ((Grown.refl _).alloc _ _).alloc _ _⟩
set_option maxRecDepth 100000 in
theorem spread_70 (s : ByteArray) (c a g op : Int) (rd rs1 rs2 imm : Int) (d0 : 0 ≤ rd) (d1 : rd < 32) (a0 : 0 ≤ rs1) (a1 : rs1 < 32) (b0 : 0 ≤ rs2) (b1 : rs2 < 32) (w : World) :
    Calls Tryd.prog 21 #[rowV s 70 c a g, .agg #[.int .i64 op, .int .i64 rd, .int .i64 rs1, .int .i64 rs2, .int .i64 imm]] w (SpIs (spF 70 rd rs1 rs2 imm) w) := by
  unfold rowV
  go_enter Tryd.func21, Tryd.ntmps21
  go_wp2
  go_ret
  exact ⟨ret_u32 ((by show imm % 4294967296 * 1048576 % 4294967296 = imm % 4096 * 1048576; omega)), ((Grown.refl _).alloc _ _).alloc _ _⟩
set_option maxRecDepth 100000 in
theorem spread_78 (s : ByteArray) (c a g op : Int) (rd rs1 rs2 imm : Int) (d0 : 0 ≤ rd) (d1 : rd < 32) (a0 : 0 ≤ rs1) (a1 : rs1 < 32) (b0 : 0 ≤ rs2) (b1 : rs2 < 32) (w : World) :
    Calls Tryd.prog 21 #[rowV s 78 c a g, .agg #[.int .i64 op, .int .i64 rd, .int .i64 rs1, .int .i64 rs2, .int .i64 imm]] w (SpIs (spF 78 rd rs1 rs2 imm) w) := by
  unfold rowV
  go_enter Tryd.func21, Tryd.ntmps21
  go_wp2
  go_ret
  exact ⟨ret_u32 (raw8 rd rs1 rs2 imm d0 d1 a0 a1 b0 b1), ((Grown.refl _).alloc _ _).alloc _ _⟩
theorem spread_any (op' : Int) (h1 : 1 ≤ op') (h2 : op' ≤ 67) (op : Int) (rd rs1 rs2 imm : Int) (d0 : 0 ≤ rd) (d1 : rd < 32) (a0 : 0 ≤ rs1) (a1 : rs1 < 32) (b0 : 0 ≤ rs2) (b1 : rs2 < 32) (w : World) : Calls Tryd.prog 21 #[rowOf op', .agg #[.int .i64 op, .int .i64 rd, .int .i64 rs1, .int .i64 rs2, .int .i64 imm]] w (SpIs (spF (rF op') rd rs1 rs2 imm) w) := by
  have h := List.all_eq_true.1 rows_ok (op'.toNat - 1) (List.mem_range.2 (by omega))
  simp only [Bool.and_eq_true, decide_eq_true_eq, beq_iff_eq] at h
  have e : ((op'.toNat - 1 + 1 : Nat) : Int) = op' := by omega
  rw [e] at h
  obtain ⟨⟨⟨⟨⟨⟨⟨hl, -⟩, -⟩, -⟩, -⟩, -⟩, -⟩, -⟩ := h
  unfold rowOf
  generalize (rowAt op').1 = s at *
  generalize rF op' = l at *
  generalize rC op' = c at *
  generalize rA op' = a at *
  generalize rG op' = g at *
  rcases letter_cases hl with rfl | rfl | rfl | rfl | rfl | rfl | rfl | rfl | rfl | rfl | rfl | rfl | rfl | rfl
  · exact spread_85 s c a g op rd rs1 rs2 imm d0 d1 a0 a1 b0 b1 w
  · exact spread_74 s c a g op rd rs1 rs2 imm d0 d1 a0 a1 b0 b1 w
  · exact spread_73 s c a g op rd rs1 rs2 imm d0 d1 a0 a1 b0 b1 w
  · exact spread_76 s c a g op rd rs1 rs2 imm d0 d1 a0 a1 b0 b1 w
  · exact spread_72 s c a g op rd rs1 rs2 imm d0 d1 a0 a1 b0 b1 w
  · exact spread_67 s c a g op rd rs1 rs2 imm d0 d1 a0 a1 b0 b1 w
  · exact spread_68 s c a g op rd rs1 rs2 imm d0 d1 a0 a1 b0 b1 w
  · exact spread_66 s c a g op rd rs1 rs2 imm d0 d1 a0 a1 b0 b1 w
  · exact spread_83 s c a g op rd rs1 rs2 imm d0 d1 a0 a1 b0 b1 w
  · exact spread_82 s c a g op rd rs1 rs2 imm d0 d1 a0 a1 b0 b1 w
  · exact spread_75 s c a g op rd rs1 rs2 imm d0 d1 a0 a1 b0 b1 w
  · exact spread_65 s c a g op rd rs1 rs2 imm d0 d1 a0 a1 b0 b1 w
  · exact spread_70 s c a g op rd rs1 rs2 imm d0 d1 a0 a1 b0 b1 w
  · exact spread_78 s c a g op rd rs1 rs2 imm d0 d1 a0 a1 b0 b1 w
theorem spF_bd (l : Int) (rd rs1 rs2 imm : Int) (d0 : 0 ≤ rd) (d1 : rd < 32) (a0 : 0 ≤ rs1) (a1 : rs1 < 32) (b0 : 0 ≤ rs2) (b1 : rs2 < 32) : 0 ≤ spF l rd rs1 rs2 imm ∧ spF l rd rs1 rs2 imm < 4294967296 := by
  unfold spF
  have h1 : 0 ≤ imm / 1048576 % 2 ∧ imm / 1048576 % 2 < 2 := by omega
  have h2 : 0 ≤ imm / 2 % 1024 ∧ imm / 2 % 1024 < 1024 := by omega
  have h3 : 0 ≤ imm / 2048 % 2 ∧ imm / 2048 % 2 < 2 := by omega
  have h4 : 0 ≤ imm / 4096 % 256 ∧ imm / 4096 % 256 < 256 := by omega
  have h5 : 0 ≤ imm / 4096 % 2 ∧ imm / 4096 % 2 < 2 := by omega
  have h6 : 0 ≤ imm / 32 % 64 ∧ imm / 32 % 64 < 64 := by omega
  have h7 : 0 ≤ imm / 2 % 16 ∧ imm / 2 % 16 < 16 := by omega
  have h8 : 0 ≤ imm / 32 % 128 ∧ imm / 32 % 128 < 128 := by omega
  have h9 : 0 ≤ imm % 32 ∧ imm % 32 < 32 := by omega
  have ha : 0 ≤ imm % 1048576 ∧ imm % 1048576 < 1048576 := by omega
  have hb : 0 ≤ imm % 128 ∧ imm % 128 < 128 := by omega
  have hc : 0 ≤ imm % 4096 ∧ imm % 4096 < 4096 := by omega
  split
  all_goals
    try simp only [sumF]
    generalize imm / 1048576 % 2 = p1 at *
    generalize imm / 2 % 1024 = p2 at *
    generalize imm / 2048 % 2 = p3 at *
    generalize imm / 4096 % 256 = p4 at *
    generalize imm / 4096 % 2 = p5 at *
    generalize imm / 32 % 64 = p6 at *
    generalize imm / 2 % 16 = p7 at *
    generalize imm / 32 % 128 = p8 at *
    generalize imm % 32 = p9 at *
    generalize imm % 1048576 = pa at *
    generalize imm % 128 = pb at *
    generalize imm % 4096 = pc at *
    omega
theorem spF_ok (f l : Int) (hp : (f, l) ∈ ((10, 75) :: pairsL)) (rd rs1 rs2 imm : Int) (ho : okF f rd rs1 rs2 imm) : spF l rd rs1 rs2 imm = fldF f rd rs1 rs2 imm := by
  simp only [pairsL, List.mem_cons, List.not_mem_nil, Prod.mk.injEq, or_false] at hp
  rcases hp with ⟨rfl, rfl⟩ | ⟨rfl, rfl⟩ | ⟨rfl, rfl⟩ | ⟨rfl, rfl⟩ | ⟨rfl, rfl⟩ | ⟨rfl, rfl⟩ | ⟨rfl, rfl⟩ | ⟨rfl, rfl⟩ | ⟨rfl, rfl⟩ | ⟨rfl, rfl⟩ | ⟨rfl, rfl⟩ | ⟨rfl, rfl⟩ | ⟨rfl, rfl⟩ | ⟨rfl, rfl⟩
  all_goals
    simp only [okF] at ho
    simp only [spF, sumF, fldF]
    try omega
end Go.Proofs.YtnkeghnnppoopaaDoor
