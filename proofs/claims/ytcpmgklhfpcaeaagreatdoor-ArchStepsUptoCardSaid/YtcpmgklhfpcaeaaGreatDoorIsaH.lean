/- Part H: what of a word is fixed, letter by letter. -/
import Derived.Test.YtcpmgklhfpcaeaaGreatDoorIsaG
namespace Go.Proofs.YtcpmgklhfpcaeaaGreatDoor
open Go.RowKit Go.XHeap
set_option linter.unusedVariables false
set_option maxRecDepth 100000

def FixedIs (m v : Int) (w : World) (e : Ending) (w' : World) : Prop := e = .returned (.tuple #[.int .u32 m, .int .u32 v]) ∧ Grown w w'
set_option maxRecDepth 20000 in
set_option maxHeartbeats 400000 in
theorem fixed_85 (s : ByteArray) (c a g : Int) (c0 : 0 ≤ c) (c1 : c < 128) (a0 : 0 ≤ a) (a1 : a < 8) (g0 : 0 ≤ g) (g1 : g < 4096) (w : World) : Calls Tryz.prog 100 #[rowV s 85 c a g] w (FixedIs (127) (c) w) := by
  unfold rowV
  go_enter Tryz.func100, Tryz.ntmps100
  go_wp2
  go_ret2
  exact ⟨rfl, (Grown.refl w).alloc _ _⟩
set_option maxRecDepth 20000 in
set_option maxHeartbeats 400000 in
theorem fixed_74 (s : ByteArray) (c a g : Int) (c0 : 0 ≤ c) (c1 : c < 128) (a0 : 0 ≤ a) (a1 : a < 8) (g0 : 0 ≤ g) (g1 : g < 4096) (w : World) : Calls Tryz.prog 100 #[rowV s 74 c a g] w (FixedIs (127) (c) w) := by
  unfold rowV
  go_enter Tryz.func100, Tryz.ntmps100
  go_wp2
  go_ret2
  exact ⟨rfl, (Grown.refl w).alloc _ _⟩
set_option maxRecDepth 20000 in
set_option maxHeartbeats 400000 in
theorem fixed_72 (s : ByteArray) (c a g : Int) (c0 : 0 ≤ c) (c1 : c < 128) (a0 : 0 ≤ a) (a1 : a < 8) (g0 : 0 ≤ g) (g1 : g < 4096) (w : World) : Calls Tryz.prog 100 #[rowV s 72 c a g] w (FixedIs (bits .or .u32 127 4261441536) (bits .or .u32 (bits .or .u32 c (a * 4096)) (g * 33554432 % 4294967296)) w) := by
  unfold rowV
  go_enter Tryz.func100, Tryz.ntmps100
  go_wp2
  go_quiet (fail)
  go_wp2
  go_ret2
  exact ⟨rfl, grown_dr ((Grown.refl w).alloc _ _) _⟩
set_option maxRecDepth 20000 in
set_option maxHeartbeats 400000 in
theorem fixed_82 (s : ByteArray) (c a g : Int) (c0 : 0 ≤ c) (c1 : c < 128) (a0 : 0 ≤ a) (a1 : a < 8) (g0 : 0 ≤ g) (g1 : g < 4096) (w : World) : Calls Tryz.prog 100 #[rowV s 82 c a g] w (FixedIs (bits .or .u32 127 4261441536) (bits .or .u32 (bits .or .u32 c (a * 4096)) (g * 33554432 % 4294967296)) w) := by
  unfold rowV
  go_enter Tryz.func100, Tryz.ntmps100
  go_wp2
  go_quiet (fail)
  go_wp2
  go_ret2
  exact ⟨rfl, grown_dr ((Grown.refl w).alloc _ _) _⟩
set_option maxRecDepth 20000 in
set_option maxHeartbeats 400000 in
theorem fixed_65 (s : ByteArray) (c a g : Int) (c0 : 0 ≤ c) (c1 : c < 128) (a0 : 0 ≤ a) (a1 : a < 8) (g0 : 0 ≤ g) (g1 : g < 4096) (w : World) : Calls Tryz.prog 100 #[rowV s 65 c a g] w (FixedIs (bits .or .u32 127 4160778240) (bits .or .u32 (bits .or .u32 c (a * 4096)) (g * 134217728 % 4294967296)) w) := by
  unfold rowV
  go_enter Tryz.func100, Tryz.ntmps100
  go_wp2
  go_quiet (fail)
  go_wp2
  go_ret2
  exact ⟨rfl, grown_dr ((Grown.refl w).alloc _ _) _⟩
set_option maxRecDepth 20000 in
set_option maxHeartbeats 400000 in
theorem fixed_75 (s : ByteArray) (c a g : Int) (c0 : 0 ≤ c) (c1 : c < 128) (a0 : 0 ≤ a) (a1 : a < 8) (g0 : 0 ≤ g) (g1 : g < 4096) (w : World) : Calls Tryz.prog 100 #[rowV s 75 c a g] w (FixedIs (bits .or .u32 127 4193284096) (bits .or .u32 (bits .or .u32 c (a * 4096)) (g * 134217728 % 4294967296)) w) := by
  unfold rowV
  go_enter Tryz.func100, Tryz.ntmps100
  go_wp2
  go_quiet (fail)
  go_wp2
  go_ret2
  exact ⟨rfl, grown_dr ((Grown.refl w).alloc _ _) _⟩
set_option maxRecDepth 20000 in
set_option maxHeartbeats 400000 in
theorem fixed_70 (s : ByteArray) (c a g : Int) (c0 : 0 ≤ c) (c1 : c < 128) (a0 : 0 ≤ a) (a1 : a < 8) (g0 : 0 ≤ g) (g1 : g < 4096) (w : World) : Calls Tryz.prog 100 #[rowV s 70 c a g] w (FixedIs (4027580415) (c) w) := by
  unfold rowV
  go_enter Tryz.func100, Tryz.ntmps100
  go_wp2
  go_ret2
  exact ⟨rfl, (Grown.refl w).alloc _ _⟩
set_option maxRecDepth 20000 in
set_option maxHeartbeats 400000 in
theorem fixed_78 (s : ByteArray) (c a g : Int) (c0 : 0 ≤ c) (c1 : c < 128) (a0 : 0 ≤ a) (a1 : a < 8) (g0 : 0 ≤ g) (g1 : g < 4096) (w : World) : Calls Tryz.prog 100 #[rowV s 78 c a g] w (FixedIs (4294967295) (bits .or .u32 c (g * 1048576)) w) := by
  unfold rowV
  go_enter Tryz.func100, Tryz.ntmps100
  go_wp2
  go_quiet (fail)
  go_wp2
  go_ret2
  exact ⟨rfl, grown_dr ((Grown.refl w).alloc _ _) _⟩
set_option maxRecDepth 20000 in
set_option maxHeartbeats 400000 in
theorem fixed_73 (s : ByteArray) (c a g : Int) (c0 : 0 ≤ c) (c1 : c < 128) (a0 : 0 ≤ a) (a1 : a < 8) (g0 : 0 ≤ g) (g1 : g < 4096) (w : World) : Calls Tryz.prog 100 #[rowV s 73 c a g] w (FixedIs (bits .or .u32 127 28672) (bits .or .u32 c (a * 4096)) w) := by
  unfold rowV
  go_enter Tryz.func100, Tryz.ntmps100
  go_wp2
  go_ret2
  exact ⟨rfl, (Grown.refl w).alloc _ _⟩
set_option maxRecDepth 20000 in
set_option maxHeartbeats 400000 in
theorem fixed_76 (s : ByteArray) (c a g : Int) (c0 : 0 ≤ c) (c1 : c < 128) (a0 : 0 ≤ a) (a1 : a < 8) (g0 : 0 ≤ g) (g1 : g < 4096) (w : World) : Calls Tryz.prog 100 #[rowV s 76 c a g] w (FixedIs (bits .or .u32 127 28672) (bits .or .u32 c (a * 4096)) w) := by
  unfold rowV
  go_enter Tryz.func100, Tryz.ntmps100
  go_wp2
  go_ret2
  exact ⟨rfl, (Grown.refl w).alloc _ _⟩
set_option maxRecDepth 20000 in
set_option maxHeartbeats 400000 in
theorem fixed_66 (s : ByteArray) (c a g : Int) (c0 : 0 ≤ c) (c1 : c < 128) (a0 : 0 ≤ a) (a1 : a < 8) (g0 : 0 ≤ g) (g1 : g < 4096) (w : World) : Calls Tryz.prog 100 #[rowV s 66 c a g] w (FixedIs (bits .or .u32 127 28672) (bits .or .u32 c (a * 4096)) w) := by
  unfold rowV
  go_enter Tryz.func100, Tryz.ntmps100
  go_wp2
  go_ret2
  exact ⟨rfl, (Grown.refl w).alloc _ _⟩
set_option maxRecDepth 20000 in
set_option maxHeartbeats 400000 in
theorem fixed_83 (s : ByteArray) (c a g : Int) (c0 : 0 ≤ c) (c1 : c < 128) (a0 : 0 ≤ a) (a1 : a < 8) (g0 : 0 ≤ g) (g1 : g < 4096) (w : World) : Calls Tryz.prog 100 #[rowV s 83 c a g] w (FixedIs (bits .or .u32 127 28672) (bits .or .u32 c (a * 4096)) w) := by
  unfold rowV
  go_enter Tryz.func100, Tryz.ntmps100
  go_wp2
  go_ret2
  exact ⟨rfl, (Grown.refl w).alloc _ _⟩
set_option maxRecDepth 20000 in
set_option maxHeartbeats 400000 in
theorem fixed_67 (s : ByteArray) (c a g : Int) (c0 : 0 ≤ c) (c1 : c < 128) (a0 : 0 ≤ a) (a1 : a < 8) (g0 : 0 ≤ g) (g1 : g < 4096) (w : World) : Calls Tryz.prog 100 #[rowV s 67 c a g] w (FixedIs (bits .or .u32 127 28672) (bits .or .u32 c (a * 4096)) w) := by
  unfold rowV
  go_enter Tryz.func100, Tryz.ntmps100
  go_wp2
  go_ret2
  exact ⟨rfl, (Grown.refl w).alloc _ _⟩
set_option maxRecDepth 20000 in
set_option maxHeartbeats 400000 in
theorem fixed_68 (s : ByteArray) (c a g : Int) (c0 : 0 ≤ c) (c1 : c < 128) (a0 : 0 ≤ a) (a1 : a < 8) (g0 : 0 ≤ g) (g1 : g < 4096) (w : World) : Calls Tryz.prog 100 #[rowV s 68 c a g] w (FixedIs (bits .or .u32 127 28672) (bits .or .u32 c (a * 4096)) w) := by
  unfold rowV
  go_enter Tryz.func100, Tryz.ntmps100
  go_wp2
  go_ret2
  exact ⟨rfl, (Grown.refl w).alloc _ _⟩
end Go.Proofs.YtcpmgklhfpcaeaaGreatDoor
