/- Part G: the document's fields of a word, letter by letter. -/
import Derived.Test.YtcpmgklhfpcaeaaGreatDoorIsaF
import Derived.Deep.RegionWith
namespace Go.Proofs.YtcpmgklhfpcaeaaGreatDoor
open Go.RowKit Go.XHeap
set_option linter.unusedVariables false
set_option maxRecDepth 100000

theorem post5f {Q : Ending → World → Prop} {a : Act} {W : World} {g : Nat} {cs : Array Value} {v0 v1 v2 v3 v4 : Value} (hd : a.defers = []) (ht : a.tmps[4]?.getD undef = .pointer (some ⟨g, 0, none⟩)) (hB : Blk W g cs 92)
    (hcs : cs = #[v0, v1, v2, v3, v4]) (hQ : Q (.returned (.agg #[v0, v1, v2, v3, v4])) W) : bodyPost Tryz.prog Tryz.f101 Q .ret a W := by
  subst hcs
  have k0 : W.cell? ⟨g, 0, none⟩ = some v0 := hB.cell' (i := 0) rfl
  have k1 : W.cell? ⟨g, 1, none⟩ = some v1 := hB.cell' (i := 1) rfl
  have k2 : W.cell? ⟨g, 2, none⟩ = some v2 := hB.cell' (i := 2) rfl
  have k3 : W.cell? ⟨g, 3, none⟩ = some v3 := hB.cell' (i := 3) rfl
  have k4 : W.cell? ⟨g, 4, none⟩ = some v4 := hB.cell' (i := 4) rfl
  clear hB
  exact bodyPost_ret (v := .agg #[v0, v1, v2, v3, v4]) (by simp [results, Tryz.results101, go_sem, ht, k0, k1, k2, k3, k4]) hd hQ
theorem Blk.new1 (w : World) (o : Obj) (cs : Array Value) (t : TypeId) : Blk ((w.alloc o).alloc (.cells cs t)) (w.heap.size + 1) cs t := by
  have := Blk.new (w.alloc o) cs t
  simpa using this
theorem or_join' (x y m : Int) (i : Nat) (hm : m = ((2 ^ i : Nat) : Int)) (hi : i ≤ 63) (x0 : -9223372036854775808 ≤ x) (x1 : x < 4611686018427387904) (hx : x % m = 0) (y0 : 0 ≤ y) (y1 : y < m) (hm2 : m ≤ 4611686018427387904) :
    bits .or .i64 y x = y + x := by
  have hc : bits .or .i64 y x = bits .or .i64 x y := by simp only [bits, BitVec.or_comm]
  rw [hc, or_join x y m i hm hi x0 x1 hx y0 y1 hm2]
  omega
def jumpImm2 (x : Int) : Int := partF x 21 10 * 2 + partF x 20 1 * 2048 + partF x 12 8 * 4096 + partF x 31 1 * 1048576
def branchImm2 (x : Int) : Int := partF x 8 4 * 2 + partF x 25 6 * 32 + partF x 7 1 * 2048 + partF x 31 1 * 4096
def storeImm2 (x : Int) : Int := partF x 7 5 + partF x 25 7 * 32
theorem jump_raw2 (x : Int) (hx0 : 0 ≤ x) (hx1 : x < 4294967296) : bits .or .i64 (bits .or .i64 (bits .or .i64 (wrap64 (partF x 21 10 * 2)) (wrap64 (partF x 20 1 * 2048))) (wrap64 (partF x 12 8 * 4096))) (wrap64 (partF x 31 1 * 1048576)) = jumpImm2 x ∧ 0 ≤ jumpImm2 x ∧ jumpImm2 x < 4294967296 := by
  have p1 := part_bd x 12 8 (by decide)
  have p2 := part_bd x 20 1 (by decide)
  have p3 := part_bd x 21 10 (by decide)
  have p4 := part_bd x 31 1 (by decide)
  unfold jumpImm2
  generalize partF x 12 8 = a at *
  generalize partF x 20 1 = b at *
  generalize partF x 21 10 = c at *
  generalize partF x 31 1 = d at *
  simp only [Int.reducePow] at p1 p2 p3 p4
  refine ⟨?_, by omega, by omega⟩
  rw [wrap64_in (d * 1048576) (by omega) (by omega), wrap64_in (a * 4096) (by omega) (by omega), wrap64_in (b * 2048) (by omega) (by omega), wrap64_in (c * 2) (by omega) (by omega),
    or_join' (b * 2048) (c * 2) 2048 11 (by decide) (by decide) (by omega) (by omega) (by omega) (by omega) (by omega) (by decide),
    or_join' (a * 4096) _ 4096 12 (by decide) (by decide) (by omega) (by omega) (by omega) (by omega) (by omega) (by decide),
    or_join' (d * 1048576) _ 1048576 20 (by decide) (by decide) (by omega) (by omega) (by omega) (by omega) (by omega) (by decide)]
theorem branch_raw2 (x : Int) (hx0 : 0 ≤ x) (hx1 : x < 4294967296) : bits .or .i64 (bits .or .i64 (bits .or .i64 (wrap64 (partF x 8 4 * 2)) (wrap64 (partF x 25 6 * 32))) (wrap64 (partF x 7 1 * 2048))) (wrap64 (partF x 31 1 * 4096)) = branchImm2 x ∧ 0 ≤ branchImm2 x ∧ branchImm2 x < 4294967296 := by
  have p1 := part_bd x 7 1 (by decide)
  have p2 := part_bd x 25 6 (by decide)
  have p3 := part_bd x 8 4 (by decide)
  have p4 := part_bd x 31 1 (by decide)
  unfold branchImm2
  generalize partF x 7 1 = a at *
  generalize partF x 25 6 = b at *
  generalize partF x 8 4 = c at *
  generalize partF x 31 1 = d at *
  simp only [Int.reducePow] at p1 p2 p3 p4
  refine ⟨?_, by omega, by omega⟩
  rw [wrap64_in (d * 4096) (by omega) (by omega), wrap64_in (a * 2048) (by omega) (by omega), wrap64_in (b * 32) (by omega) (by omega), wrap64_in (c * 2) (by omega) (by omega),
    or_join' (b * 32) (c * 2) 32 5 (by decide) (by decide) (by omega) (by omega) (by omega) (by omega) (by omega) (by decide),
    or_join' (a * 2048) _ 2048 11 (by decide) (by decide) (by omega) (by omega) (by omega) (by omega) (by omega) (by decide),
    or_join' (d * 4096) _ 4096 12 (by decide) (by decide) (by omega) (by omega) (by omega) (by omega) (by omega) (by decide)]
theorem store_raw2 (x : Int) (hx0 : 0 ≤ x) (hx1 : x < 4294967296) : bits .or .i64 (partF x 7 5) (wrap64 (partF x 25 7 * 32)) = storeImm2 x ∧ 0 ≤ storeImm2 x ∧ storeImm2 x < 4294967296 := by
  have p1 := part_bd x 7 5 (by decide)
  have p2 := part_bd x 25 7 (by decide)
  unfold storeImm2
  generalize partF x 7 5 = a at *
  generalize partF x 25 7 = b at *
  simp only [Int.reducePow] at p1 p2
  refine ⟨?_, by omega, by omega⟩
  rw [wrap64_in (b * 32) (by omega) (by omega), or_join' (b * 32) a 32 5 (by decide) (by decide) (by omega) (by omega) (by omega) (by omega) (by omega) (by decide)]
theorem low_raw2 (x : Int) : 0 ≤ partF x 20 12 ∧ partF x 20 12 < 4294967296 := by
  have p1 := part_bd x 20 12 (by decide)
  simp only [Int.reducePow] at p1
  omega
def rowV (s : ByteArray) (f c a g : Int) : Value := .agg #[.string s, .int .u8 f, .int .i64 c, .int .i64 a, .int .i64 g]
set_option maxRecDepth 20000 in
set_option maxHeartbeats 400000 in
theorem fields_85 (s : ByteArray) (c a g : Int) (x : Int) (hx0 : 0 ≤ x) (hx1 : x < 4294967296) (w : World) : Calls Tryz.prog 101 #[rowV s 85 c a g, .int .u32 x] w (ReadIs (partF x 7 5) (0) (0) (partF x 12 20) w) := by
  unfold rowV
  go_enter Tryz.func101, Tryz.ntmps101
  go_wp2_with (first
    | (go_at_call 127; refine (bits_any x hx0 hx1 _ _ (by decide) (by decide) (by decide) (by decide) _).mono ?_; rintro e w' ⟨rfl, m, rfl⟩))
  go_region_with (go_at_call 127; refine (bits_any x hx0 hx1 _ _ (by decide) (by decide) (by decide) (by decide) _).mono ?_; rintro e w' ⟨rfl, m, rfl⟩)
  all_goals go_wp2
  all_goals
    apply post5f (v0 := .int .i64 0) (v1 := .int .i64 (partF x 7 5)) (v2 := .int .i64 (0)) (v3 := .int .i64 (0)) (v4 := .int .i64 (partF x 12 20))
    case hd => rfl
    case ht => rfl
    case hB => repeat (first | with_reducible apply Blk.set | with_reducible apply Blk.drewN | with_reducible exact Blk.new1 _ _ _ _ | with_reducible apply Blk.alloc)
    case hcs => simp
    case hQ =>
      refine ⟨rfl, ?_⟩
      repeat (first | with_reducible exact Grown.refl _ | with_reducible refine Grown.setCell ?_ (Nat.le_succ _) _ | with_reducible refine Grown.alloc ?_ _ _ | with_reducible refine grown_dr ?_ _)
set_option maxRecDepth 20000 in
set_option maxHeartbeats 400000 in
theorem fields_74 (s : ByteArray) (c a g : Int) (x : Int) (hx0 : 0 ≤ x) (hx1 : x < 4294967296) (w : World) : Calls Tryz.prog 101 #[rowV s 74 c a g, .int .u32 x] w (ReadIs (partF x 7 5) (0) (0) (signF (jumpImm2 x) 21) w) := by
  unfold rowV
  have HJ := Lib.hid (jump_raw2 x hx0 hx1)
  go_enter Tryz.func101, Tryz.ntmps101
  go_wp2_with (first
    | (go_at_call 127; refine (bits_any x hx0 hx1 _ _ (by decide) (by decide) (by decide) (by decide) _).mono ?_; rintro e w' ⟨rfl, m, rfl⟩)
    | (go_at_call 128; rw [HJ.out.1]; refine (signed_any _ (HJ.out.2.1) (HJ.out.2.2) _ (by decide) (by decide) _).mono ?_; rintro e w' ⟨rfl, m, rfl⟩))
  
  all_goals
    apply post5f (v0 := .int .i64 0) (v1 := .int .i64 (partF x 7 5)) (v2 := .int .i64 (0)) (v3 := .int .i64 (0)) (v4 := .int .i64 (signF (jumpImm2 x) 21))
    case hd => rfl
    case ht => rfl
    case hB => repeat (first | with_reducible apply Blk.set | with_reducible apply Blk.drewN | with_reducible exact Blk.new1 _ _ _ _ | with_reducible apply Blk.alloc)
    case hcs => simp
    case hQ =>
      refine ⟨rfl, ?_⟩
      repeat (first | with_reducible exact Grown.refl _ | with_reducible refine Grown.setCell ?_ (Nat.le_succ _) _ | with_reducible refine Grown.alloc ?_ _ _ | with_reducible refine grown_dr ?_ _)
set_option maxRecDepth 20000 in
set_option maxHeartbeats 400000 in
theorem fields_73 (s : ByteArray) (c a g : Int) (x : Int) (hx0 : 0 ≤ x) (hx1 : x < 4294967296) (w : World) : Calls Tryz.prog 101 #[rowV s 73 c a g, .int .u32 x] w (ReadIs (partF x 7 5) (partF x 15 5) (0) (signF (partF x 20 12) 12) w) := by
  unfold rowV
  have HJ := Lib.hid (low_raw2 x)
  go_enter Tryz.func101, Tryz.ntmps101
  go_wp2_with (first
    | (go_at_call 127; refine (bits_any x hx0 hx1 _ _ (by decide) (by decide) (by decide) (by decide) _).mono ?_; rintro e w' ⟨rfl, m, rfl⟩)
    | (go_at_call 128; refine (signed_any _ (HJ.out.1) (HJ.out.2) _ (by decide) (by decide) _).mono ?_; rintro e w' ⟨rfl, m, rfl⟩))
  
  all_goals
    apply post5f (v0 := .int .i64 0) (v1 := .int .i64 (partF x 7 5)) (v2 := .int .i64 (partF x 15 5)) (v3 := .int .i64 (0)) (v4 := .int .i64 (signF (partF x 20 12) 12))
    case hd => rfl
    case ht => rfl
    case hB => repeat (first | with_reducible apply Blk.set | with_reducible apply Blk.drewN | with_reducible exact Blk.new1 _ _ _ _ | with_reducible apply Blk.alloc)
    case hcs => simp
    case hQ =>
      refine ⟨rfl, ?_⟩
      repeat (first | with_reducible exact Grown.refl _ | with_reducible refine Grown.setCell ?_ (Nat.le_succ _) _ | with_reducible refine Grown.alloc ?_ _ _ | with_reducible refine grown_dr ?_ _)
set_option maxRecDepth 20000 in
set_option maxHeartbeats 400000 in
theorem fields_76 (s : ByteArray) (c a g : Int) (x : Int) (hx0 : 0 ≤ x) (hx1 : x < 4294967296) (w : World) : Calls Tryz.prog 101 #[rowV s 76 c a g, .int .u32 x] w (ReadIs (partF x 7 5) (partF x 15 5) (0) (signF (partF x 20 12) 12) w) := by
  unfold rowV
  have HJ := Lib.hid (low_raw2 x)
  go_enter Tryz.func101, Tryz.ntmps101
  go_wp2_with (first
    | (go_at_call 127; refine (bits_any x hx0 hx1 _ _ (by decide) (by decide) (by decide) (by decide) _).mono ?_; rintro e w' ⟨rfl, m, rfl⟩)
    | (go_at_call 128; refine (signed_any _ (HJ.out.1) (HJ.out.2) _ (by decide) (by decide) _).mono ?_; rintro e w' ⟨rfl, m, rfl⟩))
  
  all_goals
    apply post5f (v0 := .int .i64 0) (v1 := .int .i64 (partF x 7 5)) (v2 := .int .i64 (partF x 15 5)) (v3 := .int .i64 (0)) (v4 := .int .i64 (signF (partF x 20 12) 12))
    case hd => rfl
    case ht => rfl
    case hB => repeat (first | with_reducible apply Blk.set | with_reducible apply Blk.drewN | with_reducible exact Blk.new1 _ _ _ _ | with_reducible apply Blk.alloc)
    case hcs => simp
    case hQ =>
      refine ⟨rfl, ?_⟩
      repeat (first | with_reducible exact Grown.refl _ | with_reducible refine Grown.setCell ?_ (Nat.le_succ _) _ | with_reducible refine Grown.alloc ?_ _ _ | with_reducible refine grown_dr ?_ _)
set_option maxRecDepth 20000 in
set_option maxHeartbeats 400000 in
theorem fields_72 (s : ByteArray) (c a g : Int) (x : Int) (hx0 : 0 ≤ x) (hx1 : x < 4294967296) (w : World) : Calls Tryz.prog 101 #[rowV s 72 c a g, .int .u32 x] w (ReadIs (partF x 7 5) (partF x 15 5) (0) (partF x 20 5) w) := by
  unfold rowV
  go_enter Tryz.func101, Tryz.ntmps101
  go_wp2_with (first
    | (go_at_call 127; refine (bits_any x hx0 hx1 _ _ (by decide) (by decide) (by decide) (by decide) _).mono ?_; rintro e w' ⟨rfl, m, rfl⟩))
  
  all_goals
    apply post5f (v0 := .int .i64 0) (v1 := .int .i64 (partF x 7 5)) (v2 := .int .i64 (partF x 15 5)) (v3 := .int .i64 (0)) (v4 := .int .i64 (partF x 20 5))
    case hd => rfl
    case ht => rfl
    case hB => repeat (first | with_reducible apply Blk.set | with_reducible apply Blk.drewN | with_reducible exact Blk.new1 _ _ _ _ | with_reducible apply Blk.alloc)
    case hcs => simp
    case hQ =>
      refine ⟨rfl, ?_⟩
      repeat (first | with_reducible exact Grown.refl _ | with_reducible refine Grown.setCell ?_ (Nat.le_succ _) _ | with_reducible refine Grown.alloc ?_ _ _ | with_reducible refine grown_dr ?_ _)
set_option maxRecDepth 20000 in
set_option maxHeartbeats 400000 in
theorem fields_67 (s : ByteArray) (c a g : Int) (x : Int) (hx0 : 0 ≤ x) (hx1 : x < 4294967296) (w : World) : Calls Tryz.prog 101 #[rowV s 67 c a g, .int .u32 x] w (ReadIs (partF x 7 5) (partF x 15 5) (0) (partF x 20 12) w) := by
  unfold rowV
  go_enter Tryz.func101, Tryz.ntmps101
  go_wp2_with (first
    | (go_at_call 127; refine (bits_any x hx0 hx1 _ _ (by decide) (by decide) (by decide) (by decide) _).mono ?_; rintro e w' ⟨rfl, m, rfl⟩))
  go_region_with (go_at_call 127; refine (bits_any x hx0 hx1 _ _ (by decide) (by decide) (by decide) (by decide) _).mono ?_; rintro e w' ⟨rfl, m, rfl⟩)
  all_goals go_wp2
  all_goals
    apply post5f (v0 := .int .i64 0) (v1 := .int .i64 (partF x 7 5)) (v2 := .int .i64 (partF x 15 5)) (v3 := .int .i64 (0)) (v4 := .int .i64 (partF x 20 12))
    case hd => rfl
    case ht => rfl
    case hB => repeat (first | with_reducible apply Blk.set | with_reducible apply Blk.drewN | with_reducible exact Blk.new1 _ _ _ _ | with_reducible apply Blk.alloc)
    case hcs => simp
    case hQ =>
      refine ⟨rfl, ?_⟩
      repeat (first | with_reducible exact Grown.refl _ | with_reducible refine Grown.setCell ?_ (Nat.le_succ _) _ | with_reducible refine Grown.alloc ?_ _ _ | with_reducible refine grown_dr ?_ _)
set_option maxRecDepth 20000 in
set_option maxHeartbeats 400000 in
theorem fields_68 (s : ByteArray) (c a g : Int) (x : Int) (hx0 : 0 ≤ x) (hx1 : x < 4294967296) (w : World) : Calls Tryz.prog 101 #[rowV s 68 c a g, .int .u32 x] w (ReadIs (partF x 7 5) (partF x 15 5) (0) (partF x 20 12) w) := by
  unfold rowV
  go_enter Tryz.func101, Tryz.ntmps101
  go_wp2_with (first
    | (go_at_call 127; refine (bits_any x hx0 hx1 _ _ (by decide) (by decide) (by decide) (by decide) _).mono ?_; rintro e w' ⟨rfl, m, rfl⟩))
  go_region_with (go_at_call 127; refine (bits_any x hx0 hx1 _ _ (by decide) (by decide) (by decide) (by decide) _).mono ?_; rintro e w' ⟨rfl, m, rfl⟩)
  all_goals go_wp2
  all_goals
    apply post5f (v0 := .int .i64 0) (v1 := .int .i64 (partF x 7 5)) (v2 := .int .i64 (partF x 15 5)) (v3 := .int .i64 (0)) (v4 := .int .i64 (partF x 20 12))
    case hd => rfl
    case ht => rfl
    case hB => repeat (first | with_reducible apply Blk.set | with_reducible apply Blk.drewN | with_reducible exact Blk.new1 _ _ _ _ | with_reducible apply Blk.alloc)
    case hcs => simp
    case hQ =>
      refine ⟨rfl, ?_⟩
      repeat (first | with_reducible exact Grown.refl _ | with_reducible refine Grown.setCell ?_ (Nat.le_succ _) _ | with_reducible refine Grown.alloc ?_ _ _ | with_reducible refine grown_dr ?_ _)
set_option maxRecDepth 20000 in
set_option maxHeartbeats 400000 in
theorem fields_66 (s : ByteArray) (c a g : Int) (x : Int) (hx0 : 0 ≤ x) (hx1 : x < 4294967296) (w : World) : Calls Tryz.prog 101 #[rowV s 66 c a g, .int .u32 x] w (ReadIs (0) (partF x 15 5) (partF x 20 5) (signF (branchImm2 x) 13) w) := by
  unfold rowV
  have HJ := Lib.hid (branch_raw2 x hx0 hx1)
  go_enter Tryz.func101, Tryz.ntmps101
  go_wp2_with (first
    | (go_at_call 127; refine (bits_any x hx0 hx1 _ _ (by decide) (by decide) (by decide) (by decide) _).mono ?_; rintro e w' ⟨rfl, m, rfl⟩)
    | (go_at_call 128; rw [HJ.out.1]; refine (signed_any _ (HJ.out.2.1) (HJ.out.2.2) _ (by decide) (by decide) _).mono ?_; rintro e w' ⟨rfl, m, rfl⟩))
  
  all_goals
    apply post5f (v0 := .int .i64 0) (v1 := .int .i64 (0)) (v2 := .int .i64 (partF x 15 5)) (v3 := .int .i64 (partF x 20 5)) (v4 := .int .i64 (signF (branchImm2 x) 13))
    case hd => rfl
    case ht => rfl
    case hB => repeat (first | with_reducible apply Blk.set | with_reducible apply Blk.drewN | with_reducible exact Blk.new1 _ _ _ _ | with_reducible apply Blk.alloc)
    case hcs => simp
    case hQ =>
      refine ⟨rfl, ?_⟩
      repeat (first | with_reducible exact Grown.refl _ | with_reducible refine Grown.setCell ?_ (Nat.le_succ _) _ | with_reducible refine Grown.alloc ?_ _ _ | with_reducible refine grown_dr ?_ _)
set_option maxRecDepth 20000 in
set_option maxHeartbeats 400000 in
theorem fields_83 (s : ByteArray) (c a g : Int) (x : Int) (hx0 : 0 ≤ x) (hx1 : x < 4294967296) (w : World) : Calls Tryz.prog 101 #[rowV s 83 c a g, .int .u32 x] w (ReadIs (0) (partF x 15 5) (partF x 20 5) (signF (storeImm2 x) 12) w) := by
  unfold rowV
  have HJ := Lib.hid (store_raw2 x hx0 hx1)
  go_enter Tryz.func101, Tryz.ntmps101
  go_wp2_with (first
    | (go_at_call 127; refine (bits_any x hx0 hx1 _ _ (by decide) (by decide) (by decide) (by decide) _).mono ?_; rintro e w' ⟨rfl, m, rfl⟩)
    | (go_at_call 128; rw [HJ.out.1]; refine (signed_any _ (HJ.out.2.1) (HJ.out.2.2) _ (by decide) (by decide) _).mono ?_; rintro e w' ⟨rfl, m, rfl⟩))
  
  all_goals
    apply post5f (v0 := .int .i64 0) (v1 := .int .i64 (0)) (v2 := .int .i64 (partF x 15 5)) (v3 := .int .i64 (partF x 20 5)) (v4 := .int .i64 (signF (storeImm2 x) 12))
    case hd => rfl
    case ht => rfl
    case hB => repeat (first | with_reducible apply Blk.set | with_reducible apply Blk.drewN | with_reducible exact Blk.new1 _ _ _ _ | with_reducible apply Blk.alloc)
    case hcs => simp
    case hQ =>
      refine ⟨rfl, ?_⟩
      repeat (first | with_reducible exact Grown.refl _ | with_reducible refine Grown.setCell ?_ (Nat.le_succ _) _ | with_reducible refine Grown.alloc ?_ _ _ | with_reducible refine grown_dr ?_ _)
set_option maxRecDepth 20000 in
set_option maxHeartbeats 400000 in
theorem fields_82 (s : ByteArray) (c a g : Int) (x : Int) (hx0 : 0 ≤ x) (hx1 : x < 4294967296) (w : World) : Calls Tryz.prog 101 #[rowV s 82 c a g, .int .u32 x] w (ReadIs (partF x 7 5) (partF x 15 5) (partF x 20 5) (0) w) := by
  unfold rowV
  go_enter Tryz.func101, Tryz.ntmps101
  go_wp2_with (first
    | (go_at_call 127; refine (bits_any x hx0 hx1 _ _ (by decide) (by decide) (by decide) (by decide) _).mono ?_; rintro e w' ⟨rfl, m, rfl⟩))
  
  all_goals
    apply post5f (v0 := .int .i64 0) (v1 := .int .i64 (partF x 7 5)) (v2 := .int .i64 (partF x 15 5)) (v3 := .int .i64 (partF x 20 5)) (v4 := .int .i64 (0))
    case hd => rfl
    case ht => rfl
    case hB => repeat (first | with_reducible apply Blk.set | with_reducible apply Blk.drewN | with_reducible exact Blk.new1 _ _ _ _ | with_reducible apply Blk.alloc)
    case hcs => simp
    case hQ =>
      refine ⟨rfl, ?_⟩
      repeat (first | with_reducible exact Grown.refl _ | with_reducible refine Grown.setCell ?_ (Nat.le_succ _) _ | with_reducible refine Grown.alloc ?_ _ _ | with_reducible refine grown_dr ?_ _)
set_option maxRecDepth 20000 in
set_option maxHeartbeats 400000 in
theorem fields_75 (s : ByteArray) (c a g : Int) (x : Int) (hx0 : 0 ≤ x) (hx1 : x < 4294967296) (w : World) : Calls Tryz.prog 101 #[rowV s 75 c a g, .int .u32 x] w (ReadIs (partF x 7 5) (partF x 15 5) (0) (partF x 25 2) w) := by
  unfold rowV
  go_enter Tryz.func101, Tryz.ntmps101
  go_wp2_with (first
    | (go_at_call 127; refine (bits_any x hx0 hx1 _ _ (by decide) (by decide) (by decide) (by decide) _).mono ?_; rintro e w' ⟨rfl, m, rfl⟩))
  go_region_with (go_at_call 127; refine (bits_any x hx0 hx1 _ _ (by decide) (by decide) (by decide) (by decide) _).mono ?_; rintro e w' ⟨rfl, m, rfl⟩)
  all_goals go_wp2
  all_goals
    apply post5f (v0 := .int .i64 0) (v1 := .int .i64 (partF x 7 5)) (v2 := .int .i64 (partF x 15 5)) (v3 := .int .i64 (0)) (v4 := .int .i64 (partF x 25 2))
    case hd => rfl
    case ht => rfl
    case hB => repeat (first | with_reducible apply Blk.set | with_reducible apply Blk.drewN | with_reducible exact Blk.new1 _ _ _ _ | with_reducible apply Blk.alloc)
    case hcs => simp
    case hQ =>
      refine ⟨rfl, ?_⟩
      repeat (first | with_reducible exact Grown.refl _ | with_reducible refine Grown.setCell ?_ (Nat.le_succ _) _ | with_reducible refine Grown.alloc ?_ _ _ | with_reducible refine grown_dr ?_ _)
set_option maxRecDepth 20000 in
set_option maxHeartbeats 400000 in
theorem fields_70 (s : ByteArray) (c a g : Int) (x : Int) (hx0 : 0 ≤ x) (hx1 : x < 4294967296) (w : World) : Calls Tryz.prog 101 #[rowV s 70 c a g, .int .u32 x] w (ReadIs (0) (0) (0) (partF x 20 8) w) := by
  unfold rowV
  go_enter Tryz.func101, Tryz.ntmps101
  go_wp2_with (first
    | (go_at_call 127; refine (bits_any x hx0 hx1 _ _ (by decide) (by decide) (by decide) (by decide) _).mono ?_; rintro e w' ⟨rfl, m, rfl⟩))
  
  all_goals
    apply post5f (v0 := .int .i64 0) (v1 := .int .i64 (0)) (v2 := .int .i64 (0)) (v3 := .int .i64 (0)) (v4 := .int .i64 (partF x 20 8))
    case hd => rfl
    case ht => rfl
    case hB => repeat (first | with_reducible apply Blk.set | with_reducible apply Blk.drewN | with_reducible exact Blk.new1 _ _ _ _ | with_reducible apply Blk.alloc)
    case hcs => simp
    case hQ =>
      refine ⟨rfl, ?_⟩
      repeat (first | with_reducible exact Grown.refl _ | with_reducible refine Grown.setCell ?_ (Nat.le_succ _) _ | with_reducible refine Grown.alloc ?_ _ _ | with_reducible refine grown_dr ?_ _)
set_option maxRecDepth 20000 in
set_option maxHeartbeats 400000 in
theorem fields_78 (s : ByteArray) (c a g : Int) (x : Int) (hx0 : 0 ≤ x) (hx1 : x < 4294967296) (w : World) : Calls Tryz.prog 101 #[rowV s 78 c a g, .int .u32 x] w (ReadIs (0) (0) (0) (0) w) := by
  unfold rowV
  go_enter Tryz.func101, Tryz.ntmps101
  go_wp2_with (first
    | (go_at_call 127; refine (bits_any x hx0 hx1 _ _ (by decide) (by decide) (by decide) (by decide) _).mono ?_; rintro e w' ⟨rfl, m, rfl⟩))
  
  all_goals
    apply post5f (v0 := .int .i64 0) (v1 := .int .i64 (0)) (v2 := .int .i64 (0)) (v3 := .int .i64 (0)) (v4 := .int .i64 (0))
    case hd => rfl
    case ht => rfl
    case hB => repeat (first | with_reducible apply Blk.set | with_reducible apply Blk.drewN | with_reducible exact Blk.new1 _ _ _ _ | with_reducible apply Blk.alloc)
    case hcs => simp
    case hQ =>
      refine ⟨rfl, ?_⟩
      repeat (first | with_reducible exact Grown.refl _ | with_reducible refine Grown.setCell ?_ (Nat.le_succ _) _ | with_reducible refine Grown.alloc ?_ _ _ | with_reducible refine grown_dr ?_ _)
end Go.Proofs.YtcpmgklhfpcaeaaGreatDoor
