/- Part F: what is read of a word, format by format. -/
import Derived.Test.YtcpmgklhfpcaeaaGreatDoorIsaE
import Derived.Test.YtcpmgklhfpcaeaaGreatDoorXHeap
namespace Go.Proofs.YtcpmgklhfpcaeaaGreatDoor
open Go.RowKit Go.XHeap
set_option linter.unusedVariables false
set_option maxRecDepth 100000

def ins (op rd rs1 rs2 imm : Int) : Value := .agg #[.int .i64 op, .int .i64 rd, .int .i64 rs1, .int .i64 rs2, .int .i64 imm]
def ReadIs (rd rs1 rs2 imm : Int) (w : World) (e : Ending) (w' : World) : Prop := e = .returned (ins 0 rd rs1 rs2 imm) ∧ Grown w w'
def jumpImm (x : Int) : Int := sgn x / 2147483648 * 1048576 + partF x 12 8 * 4096 + partF x 20 1 * 2048 + partF x 21 10 * 2
def branchImm (x : Int) : Int := sgn x / 2147483648 * 4096 + partF x 7 1 * 2048 + partF x 25 6 * 32 + partF x 8 4 * 2
def storeImm (x : Int) : Int := sgn x / 33554432 * 32 + partF x 7 5
theorem post5 {Q : Ending → World → Prop} {a : Act} {W : World} {g : Nat} {cs : Array Value} {v0 v1 v2 v3 v4 : Value} (hd : a.defers = []) (ht : a.tmps[4]?.getD undef = .pointer (some ⟨g, 0, none⟩)) (hB : Blk W g cs 83)
    (hcs : cs = #[v0, v1, v2, v3, v4]) (hQ : Q (.returned (.agg #[v0, v1, v2, v3, v4])) W) : bodyPost Tryz.prog Tryz.f77 Q .ret a W := by
  subst hcs
  have k0 : W.cell? ⟨g, 0, none⟩ = some v0 := hB.cell' (i := 0) rfl
  have k1 : W.cell? ⟨g, 1, none⟩ = some v1 := hB.cell' (i := 1) rfl
  have k2 : W.cell? ⟨g, 2, none⟩ = some v2 := hB.cell' (i := 2) rfl
  have k3 : W.cell? ⟨g, 3, none⟩ = some v3 := hB.cell' (i := 3) rfl
  have k4 : W.cell? ⟨g, 4, none⟩ = some v4 := hB.cell' (i := 4) rfl
  clear hB
  exact bodyPost_ret (v := .agg #[v0, v1, v2, v3, v4]) (by simp [results, Tryz.results77, go_sem, ht, k0, k1, k2, k3, k4]) hd hQ
theorem sgn_bd (x : Int) (hx0 : 0 ≤ x) (hx1 : x < 4294967296) : -2147483648 ≤ sgn x ∧ sgn x < 2147483648 := by unfold sgn; split <;> omega
theorem jump_raw (x : Int) (hx0 : 0 ≤ x) (hx1 : x < 4294967296) : bits .or .i64 (bits .or .i64 (bits .or .i64 (wrap64 (sgn x / 2147483648 * 1048576)) (wrap64 (partF x 12 8 * 4096))) (wrap64 (partF x 20 1 * 2048))) (wrap64 (partF x 21 10 * 2)) = jumpImm x := by
  have hs := sgn_bd x hx0 hx1
  have p1 := part_bd x 12 8 (by decide)
  have p2 := part_bd x 20 1 (by decide)
  have p3 := part_bd x 21 10 (by decide)
  unfold jumpImm
  generalize partF x 12 8 = a at *
  generalize partF x 20 1 = b at *
  generalize partF x 21 10 = c at *
  generalize sgn x = s at *
  simp only [Int.reducePow] at p1 p2 p3
  rw [wrap64_in (s / 2147483648 * 1048576) (by omega) (by omega), wrap64_in (a * 4096) (by omega) (by omega), wrap64_in (b * 2048) (by omega) (by omega), wrap64_in (c * 2) (by omega) (by omega),
    or_join _ (a * 4096) 1048576 20 (by decide) (by decide) (by omega) (by omega) (by omega) (by omega) (by omega) (by decide),
    or_join _ (b * 2048) 4096 12 (by decide) (by decide) (by omega) (by omega) (by omega) (by omega) (by omega) (by decide),
    or_join _ (c * 2) 2048 11 (by decide) (by decide) (by omega) (by omega) (by omega) (by omega) (by omega) (by decide)]
theorem branch_raw (x : Int) (hx0 : 0 ≤ x) (hx1 : x < 4294967296) : bits .or .i64 (bits .or .i64 (bits .or .i64 (wrap64 (sgn x / 2147483648 * 4096)) (wrap64 (partF x 7 1 * 2048))) (wrap64 (partF x 25 6 * 32))) (wrap64 (partF x 8 4 * 2)) = branchImm x := by
  have hs := sgn_bd x hx0 hx1
  have p1 := part_bd x 7 1 (by decide)
  have p2 := part_bd x 25 6 (by decide)
  have p3 := part_bd x 8 4 (by decide)
  unfold branchImm
  generalize partF x 7 1 = a at *
  generalize partF x 25 6 = b at *
  generalize partF x 8 4 = c at *
  generalize sgn x = s at *
  simp only [Int.reducePow] at p1 p2 p3
  rw [wrap64_in (s / 2147483648 * 4096) (by omega) (by omega), wrap64_in (a * 2048) (by omega) (by omega), wrap64_in (b * 32) (by omega) (by omega), wrap64_in (c * 2) (by omega) (by omega),
    or_join _ (a * 2048) 4096 12 (by decide) (by decide) (by omega) (by omega) (by omega) (by omega) (by omega) (by decide),
    or_join _ (b * 32) 2048 11 (by decide) (by decide) (by omega) (by omega) (by omega) (by omega) (by omega) (by decide),
    or_join _ (c * 2) 32 5 (by decide) (by decide) (by omega) (by omega) (by omega) (by omega) (by omega) (by decide)]
theorem store_raw (x : Int) (hx0 : 0 ≤ x) (hx1 : x < 4294967296) : bits .or .i64 (wrap64 (sgn x / 33554432 * 32)) (partF x 7 5) = storeImm x := by
  have hs := sgn_bd x hx0 hx1
  have p1 := part_bd x 7 5 (by decide)
  unfold storeImm
  generalize partF x 7 5 = a at *
  generalize sgn x = s at *
  simp only [Int.reducePow] at p1
  rw [wrap64_in (s / 33554432 * 32) (by omega) (by omega), or_join _ a 32 5 (by decide) (by decide) (by omega) (by omega) (by omega) (by omega) (by omega) (by decide)]
set_option maxRecDepth 20000 in
set_option maxHeartbeats 400000 in
theorem read_0 (x : Int) (hx0 : 0 ≤ x) (hx1 : x < 4294967296) (w : World) : Calls Tryz.prog 77 #[.int .i64 0, .int .u32 x] w (ReadIs (0) (0) (0) (0) w) := by
  go_enter Tryz.func77, Tryz.ntmps77
  go_wp2_with (first
    | (go_at_call 95; refine (rd_any x hx0 hx1 _).mono ?_; rintro e w' ⟨rfl, m, rfl⟩)
    | (go_at_call 98; refine (rs1_any x hx0 hx1 _).mono ?_; rintro e w' ⟨rfl, m, rfl⟩)
    | (go_at_call 99; refine (rs2_any x hx0 hx1 _).mono ?_; rintro e w' ⟨rfl, m, rfl⟩)
    | (go_at_call 96; refine (part_any x hx0 hx1 _ _ (by decide) (by decide) (by decide) (by decide) _).mono ?_; rintro e w' ⟨rfl, m, rfl⟩)
    | (go_at_call 97; refine (wide_any x hx0 hx1 _ (by decide) (by decide) _).mono ?_; rintro e w' ⟨rfl, m, rfl⟩))
  apply post5 (v0 := .int .i64 0) (v1 := .int .i64 (0)) (v2 := .int .i64 (0)) (v3 := .int .i64 (0)) (v4 := .int .i64 (0))
  case hd => rfl
  case ht => rfl
  case hB => repeat (first | with_reducible apply Blk.set | with_reducible apply Blk.drewN | with_reducible exact Blk.new _ _ _)
  case hcs => simp
  case hQ =>
    refine ⟨rfl, ?_⟩
    repeat (first | with_reducible exact Grown.refl _ | with_reducible refine Grown.setCell ?_ (Nat.le_refl _) _ | with_reducible refine Grown.alloc ?_ _ _ | with_reducible refine grown_dr ?_ _)
set_option maxRecDepth 20000 in
set_option maxHeartbeats 400000 in
theorem read_1 (x : Int) (hx0 : 0 ≤ x) (hx1 : x < 4294967296) (w : World) : Calls Tryz.prog 77 #[.int .i64 1, .int .u32 x] w (ReadIs (partF x 7 5) (0) (0) (partF x 12 20) w) := by
  go_enter Tryz.func77, Tryz.ntmps77
  go_wp2_with (first
    | (go_at_call 95; refine (rd_any x hx0 hx1 _).mono ?_; rintro e w' ⟨rfl, m, rfl⟩)
    | (go_at_call 98; refine (rs1_any x hx0 hx1 _).mono ?_; rintro e w' ⟨rfl, m, rfl⟩)
    | (go_at_call 99; refine (rs2_any x hx0 hx1 _).mono ?_; rintro e w' ⟨rfl, m, rfl⟩)
    | (go_at_call 96; refine (part_any x hx0 hx1 _ _ (by decide) (by decide) (by decide) (by decide) _).mono ?_; rintro e w' ⟨rfl, m, rfl⟩)
    | (go_at_call 97; refine (wide_any x hx0 hx1 _ (by decide) (by decide) _).mono ?_; rintro e w' ⟨rfl, m, rfl⟩))
  apply post5 (v0 := .int .i64 0) (v1 := .int .i64 (partF x 7 5)) (v2 := .int .i64 (0)) (v3 := .int .i64 (0)) (v4 := .int .i64 (partF x 12 20))
  case hd => rfl
  case ht => rfl
  case hB => repeat (first | with_reducible apply Blk.set | with_reducible apply Blk.drewN | with_reducible exact Blk.new _ _ _)
  case hcs => simp
  case hQ =>
    refine ⟨rfl, ?_⟩
    repeat (first | with_reducible exact Grown.refl _ | with_reducible refine Grown.setCell ?_ (Nat.le_refl _) _ | with_reducible refine Grown.alloc ?_ _ _ | with_reducible refine grown_dr ?_ _)
set_option maxRecDepth 20000 in
set_option maxHeartbeats 400000 in
theorem read_2 (x : Int) (hx0 : 0 ≤ x) (hx1 : x < 4294967296) (w : World) : Calls Tryz.prog 77 #[.int .i64 2, .int .u32 x] w (ReadIs (partF x 7 5) (0) (0) (jumpImm x) w) := by
  go_enter Tryz.func77, Tryz.ntmps77
  go_wp2_with (first
    | (go_at_call 95; refine (rd_any x hx0 hx1 _).mono ?_; rintro e w' ⟨rfl, m, rfl⟩)
    | (go_at_call 98; refine (rs1_any x hx0 hx1 _).mono ?_; rintro e w' ⟨rfl, m, rfl⟩)
    | (go_at_call 99; refine (rs2_any x hx0 hx1 _).mono ?_; rintro e w' ⟨rfl, m, rfl⟩)
    | (go_at_call 96; refine (part_any x hx0 hx1 _ _ (by decide) (by decide) (by decide) (by decide) _).mono ?_; rintro e w' ⟨rfl, m, rfl⟩)
    | (go_at_call 97; refine (wide_any x hx0 hx1 _ (by decide) (by decide) _).mono ?_; rintro e w' ⟨rfl, m, rfl⟩))
  apply post5 (v0 := .int .i64 0) (v1 := .int .i64 (partF x 7 5)) (v2 := .int .i64 (0)) (v3 := .int .i64 (0)) (v4 := .int .i64 (bits .or .i64 (bits .or .i64 (bits .or .i64 (wrap64 (sgn x / 2147483648 * 1048576)) (wrap64 (partF x 12 8 * 4096))) (wrap64 (partF x 20 1 * 2048))) (wrap64 (partF x 21 10 * 2))))
  case hd => rfl
  case ht => rfl
  case hB => repeat (first | with_reducible apply Blk.set | with_reducible apply Blk.drewN | with_reducible exact Blk.new _ _ _)
  case hcs => simp
  case hQ =>
    refine ⟨congrArg (fun z => Ending.returned (ins 0 (partF x 7 5) (0) (0) z)) (jump_raw x hx0 hx1), ?_⟩
    repeat (first | with_reducible exact Grown.refl _ | with_reducible refine Grown.setCell ?_ (Nat.le_refl _) _ | with_reducible refine Grown.alloc ?_ _ _ | with_reducible refine grown_dr ?_ _)
set_option maxRecDepth 20000 in
set_option maxHeartbeats 400000 in
theorem read_3 (x : Int) (hx0 : 0 ≤ x) (hx1 : x < 4294967296) (w : World) : Calls Tryz.prog 77 #[.int .i64 3, .int .u32 x] w (ReadIs (0) (partF x 15 5) (partF x 20 5) (branchImm x) w) := by
  go_enter Tryz.func77, Tryz.ntmps77
  go_wp2_with (first
    | (go_at_call 95; refine (rd_any x hx0 hx1 _).mono ?_; rintro e w' ⟨rfl, m, rfl⟩)
    | (go_at_call 98; refine (rs1_any x hx0 hx1 _).mono ?_; rintro e w' ⟨rfl, m, rfl⟩)
    | (go_at_call 99; refine (rs2_any x hx0 hx1 _).mono ?_; rintro e w' ⟨rfl, m, rfl⟩)
    | (go_at_call 96; refine (part_any x hx0 hx1 _ _ (by decide) (by decide) (by decide) (by decide) _).mono ?_; rintro e w' ⟨rfl, m, rfl⟩)
    | (go_at_call 97; refine (wide_any x hx0 hx1 _ (by decide) (by decide) _).mono ?_; rintro e w' ⟨rfl, m, rfl⟩))
  apply post5 (v0 := .int .i64 0) (v1 := .int .i64 (0)) (v2 := .int .i64 (partF x 15 5)) (v3 := .int .i64 (partF x 20 5)) (v4 := .int .i64 (bits .or .i64 (bits .or .i64 (bits .or .i64 (wrap64 (sgn x / 2147483648 * 4096)) (wrap64 (partF x 7 1 * 2048))) (wrap64 (partF x 25 6 * 32))) (wrap64 (partF x 8 4 * 2))))
  case hd => rfl
  case ht => rfl
  case hB => repeat (first | with_reducible apply Blk.set | with_reducible apply Blk.drewN | with_reducible exact Blk.new _ _ _)
  case hcs => simp
  case hQ =>
    refine ⟨congrArg (fun z => Ending.returned (ins 0 (0) (partF x 15 5) (partF x 20 5) z)) (branch_raw x hx0 hx1), ?_⟩
    repeat (first | with_reducible exact Grown.refl _ | with_reducible refine Grown.setCell ?_ (Nat.le_refl _) _ | with_reducible refine Grown.alloc ?_ _ _ | with_reducible refine grown_dr ?_ _)
set_option maxRecDepth 20000 in
set_option maxHeartbeats 400000 in
theorem read_4 (x : Int) (hx0 : 0 ≤ x) (hx1 : x < 4294967296) (w : World) : Calls Tryz.prog 77 #[.int .i64 4, .int .u32 x] w (ReadIs (partF x 7 5) (partF x 15 5) (0) (sgn x / 1048576) w) := by
  go_enter Tryz.func77, Tryz.ntmps77
  go_wp2_with (first
    | (go_at_call 95; refine (rd_any x hx0 hx1 _).mono ?_; rintro e w' ⟨rfl, m, rfl⟩)
    | (go_at_call 98; refine (rs1_any x hx0 hx1 _).mono ?_; rintro e w' ⟨rfl, m, rfl⟩)
    | (go_at_call 99; refine (rs2_any x hx0 hx1 _).mono ?_; rintro e w' ⟨rfl, m, rfl⟩)
    | (go_at_call 96; refine (part_any x hx0 hx1 _ _ (by decide) (by decide) (by decide) (by decide) _).mono ?_; rintro e w' ⟨rfl, m, rfl⟩)
    | (go_at_call 97; refine (wide_any x hx0 hx1 _ (by decide) (by decide) _).mono ?_; rintro e w' ⟨rfl, m, rfl⟩))
  apply post5 (v0 := .int .i64 0) (v1 := .int .i64 (partF x 7 5)) (v2 := .int .i64 (partF x 15 5)) (v3 := .int .i64 (0)) (v4 := .int .i64 (sgn x / 1048576))
  case hd => rfl
  case ht => rfl
  case hB => repeat (first | with_reducible apply Blk.set | with_reducible apply Blk.drewN | with_reducible exact Blk.new _ _ _)
  case hcs => simp
  case hQ =>
    refine ⟨rfl, ?_⟩
    repeat (first | with_reducible exact Grown.refl _ | with_reducible refine Grown.setCell ?_ (Nat.le_refl _) _ | with_reducible refine Grown.alloc ?_ _ _ | with_reducible refine grown_dr ?_ _)
set_option maxRecDepth 20000 in
set_option maxHeartbeats 400000 in
theorem read_5 (x : Int) (hx0 : 0 ≤ x) (hx1 : x < 4294967296) (w : World) : Calls Tryz.prog 77 #[.int .i64 5, .int .u32 x] w (ReadIs (0) (partF x 15 5) (partF x 20 5) (storeImm x) w) := by
  go_enter Tryz.func77, Tryz.ntmps77
  go_wp2_with (first
    | (go_at_call 95; refine (rd_any x hx0 hx1 _).mono ?_; rintro e w' ⟨rfl, m, rfl⟩)
    | (go_at_call 98; refine (rs1_any x hx0 hx1 _).mono ?_; rintro e w' ⟨rfl, m, rfl⟩)
    | (go_at_call 99; refine (rs2_any x hx0 hx1 _).mono ?_; rintro e w' ⟨rfl, m, rfl⟩)
    | (go_at_call 96; refine (part_any x hx0 hx1 _ _ (by decide) (by decide) (by decide) (by decide) _).mono ?_; rintro e w' ⟨rfl, m, rfl⟩)
    | (go_at_call 97; refine (wide_any x hx0 hx1 _ (by decide) (by decide) _).mono ?_; rintro e w' ⟨rfl, m, rfl⟩))
  apply post5 (v0 := .int .i64 0) (v1 := .int .i64 (0)) (v2 := .int .i64 (partF x 15 5)) (v3 := .int .i64 (partF x 20 5)) (v4 := .int .i64 (bits .or .i64 (wrap64 (sgn x / 33554432 * 32)) (partF x 7 5)))
  case hd => rfl
  case ht => rfl
  case hB => repeat (first | with_reducible apply Blk.set | with_reducible apply Blk.drewN | with_reducible exact Blk.new _ _ _)
  case hcs => simp
  case hQ =>
    refine ⟨congrArg (fun z => Ending.returned (ins 0 (0) (partF x 15 5) (partF x 20 5) z)) (store_raw x hx0 hx1), ?_⟩
    repeat (first | with_reducible exact Grown.refl _ | with_reducible refine Grown.setCell ?_ (Nat.le_refl _) _ | with_reducible refine Grown.alloc ?_ _ _ | with_reducible refine grown_dr ?_ _)
set_option maxRecDepth 20000 in
set_option maxHeartbeats 400000 in
theorem read_6 (x : Int) (hx0 : 0 ≤ x) (hx1 : x < 4294967296) (w : World) : Calls Tryz.prog 77 #[.int .i64 6, .int .u32 x] w (ReadIs (partF x 7 5) (partF x 15 5) (0) (sgn x / 1048576) w) := by
  go_enter Tryz.func77, Tryz.ntmps77
  go_wp2_with (first
    | (go_at_call 95; refine (rd_any x hx0 hx1 _).mono ?_; rintro e w' ⟨rfl, m, rfl⟩)
    | (go_at_call 98; refine (rs1_any x hx0 hx1 _).mono ?_; rintro e w' ⟨rfl, m, rfl⟩)
    | (go_at_call 99; refine (rs2_any x hx0 hx1 _).mono ?_; rintro e w' ⟨rfl, m, rfl⟩)
    | (go_at_call 96; refine (part_any x hx0 hx1 _ _ (by decide) (by decide) (by decide) (by decide) _).mono ?_; rintro e w' ⟨rfl, m, rfl⟩)
    | (go_at_call 97; refine (wide_any x hx0 hx1 _ (by decide) (by decide) _).mono ?_; rintro e w' ⟨rfl, m, rfl⟩))
  apply post5 (v0 := .int .i64 0) (v1 := .int .i64 (partF x 7 5)) (v2 := .int .i64 (partF x 15 5)) (v3 := .int .i64 (0)) (v4 := .int .i64 (sgn x / 1048576))
  case hd => rfl
  case ht => rfl
  case hB => repeat (first | with_reducible apply Blk.set | with_reducible apply Blk.drewN | with_reducible exact Blk.new _ _ _)
  case hcs => simp
  case hQ =>
    refine ⟨rfl, ?_⟩
    repeat (first | with_reducible exact Grown.refl _ | with_reducible refine Grown.setCell ?_ (Nat.le_refl _) _ | with_reducible refine Grown.alloc ?_ _ _ | with_reducible refine grown_dr ?_ _)
set_option maxRecDepth 20000 in
set_option maxHeartbeats 400000 in
theorem read_7 (x : Int) (hx0 : 0 ≤ x) (hx1 : x < 4294967296) (w : World) : Calls Tryz.prog 77 #[.int .i64 7, .int .u32 x] w (ReadIs (partF x 7 5) (partF x 15 5) (0) (partF x 20 5) w) := by
  go_enter Tryz.func77, Tryz.ntmps77
  go_wp2_with (first
    | (go_at_call 95; refine (rd_any x hx0 hx1 _).mono ?_; rintro e w' ⟨rfl, m, rfl⟩)
    | (go_at_call 98; refine (rs1_any x hx0 hx1 _).mono ?_; rintro e w' ⟨rfl, m, rfl⟩)
    | (go_at_call 99; refine (rs2_any x hx0 hx1 _).mono ?_; rintro e w' ⟨rfl, m, rfl⟩)
    | (go_at_call 96; refine (part_any x hx0 hx1 _ _ (by decide) (by decide) (by decide) (by decide) _).mono ?_; rintro e w' ⟨rfl, m, rfl⟩)
    | (go_at_call 97; refine (wide_any x hx0 hx1 _ (by decide) (by decide) _).mono ?_; rintro e w' ⟨rfl, m, rfl⟩))
  apply post5 (v0 := .int .i64 0) (v1 := .int .i64 (partF x 7 5)) (v2 := .int .i64 (partF x 15 5)) (v3 := .int .i64 (0)) (v4 := .int .i64 (partF x 20 5))
  case hd => rfl
  case ht => rfl
  case hB => repeat (first | with_reducible apply Blk.set | with_reducible apply Blk.drewN | with_reducible exact Blk.new _ _ _)
  case hcs => simp
  case hQ =>
    refine ⟨rfl, ?_⟩
    repeat (first | with_reducible exact Grown.refl _ | with_reducible refine Grown.setCell ?_ (Nat.le_refl _) _ | with_reducible refine Grown.alloc ?_ _ _ | with_reducible refine grown_dr ?_ _)
set_option maxRecDepth 20000 in
set_option maxHeartbeats 400000 in
theorem read_8 (x : Int) (hx0 : 0 ≤ x) (hx1 : x < 4294967296) (w : World) : Calls Tryz.prog 77 #[.int .i64 8, .int .u32 x] w (ReadIs (partF x 7 5) (partF x 15 5) (partF x 20 5) (0) w) := by
  go_enter Tryz.func77, Tryz.ntmps77
  go_wp2_with (first
    | (go_at_call 95; refine (rd_any x hx0 hx1 _).mono ?_; rintro e w' ⟨rfl, m, rfl⟩)
    | (go_at_call 98; refine (rs1_any x hx0 hx1 _).mono ?_; rintro e w' ⟨rfl, m, rfl⟩)
    | (go_at_call 99; refine (rs2_any x hx0 hx1 _).mono ?_; rintro e w' ⟨rfl, m, rfl⟩)
    | (go_at_call 96; refine (part_any x hx0 hx1 _ _ (by decide) (by decide) (by decide) (by decide) _).mono ?_; rintro e w' ⟨rfl, m, rfl⟩)
    | (go_at_call 97; refine (wide_any x hx0 hx1 _ (by decide) (by decide) _).mono ?_; rintro e w' ⟨rfl, m, rfl⟩))
  apply post5 (v0 := .int .i64 0) (v1 := .int .i64 (partF x 7 5)) (v2 := .int .i64 (partF x 15 5)) (v3 := .int .i64 (partF x 20 5)) (v4 := .int .i64 (0))
  case hd => rfl
  case ht => rfl
  case hB => repeat (first | with_reducible apply Blk.set | with_reducible apply Blk.drewN | with_reducible exact Blk.new _ _ _)
  case hcs => simp
  case hQ =>
    refine ⟨rfl, ?_⟩
    repeat (first | with_reducible exact Grown.refl _ | with_reducible refine Grown.setCell ?_ (Nat.le_refl _) _ | with_reducible refine Grown.alloc ?_ _ _ | with_reducible refine grown_dr ?_ _)
set_option maxRecDepth 20000 in
set_option maxHeartbeats 400000 in
theorem read_9 (x : Int) (hx0 : 0 ≤ x) (hx1 : x < 4294967296) (w : World) : Calls Tryz.prog 77 #[.int .i64 9, .int .u32 x] w (ReadIs (partF x 7 5) (partF x 15 5) (partF x 20 5) (partF x 25 2) w) := by
  go_enter Tryz.func77, Tryz.ntmps77
  go_wp2_with (first
    | (go_at_call 95; refine (rd_any x hx0 hx1 _).mono ?_; rintro e w' ⟨rfl, m, rfl⟩)
    | (go_at_call 98; refine (rs1_any x hx0 hx1 _).mono ?_; rintro e w' ⟨rfl, m, rfl⟩)
    | (go_at_call 99; refine (rs2_any x hx0 hx1 _).mono ?_; rintro e w' ⟨rfl, m, rfl⟩)
    | (go_at_call 96; refine (part_any x hx0 hx1 _ _ (by decide) (by decide) (by decide) (by decide) _).mono ?_; rintro e w' ⟨rfl, m, rfl⟩)
    | (go_at_call 97; refine (wide_any x hx0 hx1 _ (by decide) (by decide) _).mono ?_; rintro e w' ⟨rfl, m, rfl⟩))
  apply post5 (v0 := .int .i64 0) (v1 := .int .i64 (partF x 7 5)) (v2 := .int .i64 (partF x 15 5)) (v3 := .int .i64 (partF x 20 5)) (v4 := .int .i64 (partF x 25 2))
  case hd => rfl
  case ht => rfl
  case hB => repeat (first | with_reducible apply Blk.set | with_reducible apply Blk.drewN | with_reducible exact Blk.new _ _ _)
  case hcs => simp
  case hQ =>
    refine ⟨rfl, ?_⟩
    repeat (first | with_reducible exact Grown.refl _ | with_reducible refine Grown.setCell ?_ (Nat.le_refl _) _ | with_reducible refine Grown.alloc ?_ _ _ | with_reducible refine grown_dr ?_ _)
set_option maxRecDepth 20000 in
set_option maxHeartbeats 400000 in
theorem read_10 (x : Int) (hx0 : 0 ≤ x) (hx1 : x < 4294967296) (w : World) : Calls Tryz.prog 77 #[.int .i64 10, .int .u32 x] w (ReadIs (partF x 7 5) (partF x 15 5) (partF x 20 5) (partF x 25 2) w) := by
  go_enter Tryz.func77, Tryz.ntmps77
  go_wp2_with (first
    | (go_at_call 95; refine (rd_any x hx0 hx1 _).mono ?_; rintro e w' ⟨rfl, m, rfl⟩)
    | (go_at_call 98; refine (rs1_any x hx0 hx1 _).mono ?_; rintro e w' ⟨rfl, m, rfl⟩)
    | (go_at_call 99; refine (rs2_any x hx0 hx1 _).mono ?_; rintro e w' ⟨rfl, m, rfl⟩)
    | (go_at_call 96; refine (part_any x hx0 hx1 _ _ (by decide) (by decide) (by decide) (by decide) _).mono ?_; rintro e w' ⟨rfl, m, rfl⟩)
    | (go_at_call 97; refine (wide_any x hx0 hx1 _ (by decide) (by decide) _).mono ?_; rintro e w' ⟨rfl, m, rfl⟩))
  apply post5 (v0 := .int .i64 0) (v1 := .int .i64 (partF x 7 5)) (v2 := .int .i64 (partF x 15 5)) (v3 := .int .i64 (partF x 20 5)) (v4 := .int .i64 (partF x 25 2))
  case hd => rfl
  case ht => rfl
  case hB => repeat (first | with_reducible apply Blk.set | with_reducible apply Blk.drewN | with_reducible exact Blk.new _ _ _)
  case hcs => simp
  case hQ =>
    refine ⟨rfl, ?_⟩
    repeat (first | with_reducible exact Grown.refl _ | with_reducible refine Grown.setCell ?_ (Nat.le_refl _) _ | with_reducible refine Grown.alloc ?_ _ _ | with_reducible refine grown_dr ?_ _)
set_option maxRecDepth 20000 in
set_option maxHeartbeats 400000 in
theorem read_11 (x : Int) (hx0 : 0 ≤ x) (hx1 : x < 4294967296) (w : World) : Calls Tryz.prog 77 #[.int .i64 11, .int .u32 x] w (ReadIs (0) (0) (0) (partF x 20 8) w) := by
  go_enter Tryz.func77, Tryz.ntmps77
  go_wp2_with (first
    | (go_at_call 95; refine (rd_any x hx0 hx1 _).mono ?_; rintro e w' ⟨rfl, m, rfl⟩)
    | (go_at_call 98; refine (rs1_any x hx0 hx1 _).mono ?_; rintro e w' ⟨rfl, m, rfl⟩)
    | (go_at_call 99; refine (rs2_any x hx0 hx1 _).mono ?_; rintro e w' ⟨rfl, m, rfl⟩)
    | (go_at_call 96; refine (part_any x hx0 hx1 _ _ (by decide) (by decide) (by decide) (by decide) _).mono ?_; rintro e w' ⟨rfl, m, rfl⟩)
    | (go_at_call 97; refine (wide_any x hx0 hx1 _ (by decide) (by decide) _).mono ?_; rintro e w' ⟨rfl, m, rfl⟩))
  apply post5 (v0 := .int .i64 0) (v1 := .int .i64 (0)) (v2 := .int .i64 (0)) (v3 := .int .i64 (0)) (v4 := .int .i64 (partF x 20 8))
  case hd => rfl
  case ht => rfl
  case hB => repeat (first | with_reducible apply Blk.set | with_reducible apply Blk.drewN | with_reducible exact Blk.new _ _ _)
  case hcs => simp
  case hQ =>
    refine ⟨rfl, ?_⟩
    repeat (first | with_reducible exact Grown.refl _ | with_reducible refine Grown.setCell ?_ (Nat.le_refl _) _ | with_reducible refine Grown.alloc ?_ _ _ | with_reducible refine grown_dr ?_ _)
set_option maxRecDepth 20000 in
set_option maxHeartbeats 400000 in
theorem read_12 (x : Int) (hx0 : 0 ≤ x) (hx1 : x < 4294967296) (w : World) : Calls Tryz.prog 77 #[.int .i64 12, .int .u32 x] w (ReadIs (partF x 7 5) (partF x 15 5) (0) (partF x 20 12) w) := by
  go_enter Tryz.func77, Tryz.ntmps77
  go_wp2_with (first
    | (go_at_call 95; refine (rd_any x hx0 hx1 _).mono ?_; rintro e w' ⟨rfl, m, rfl⟩)
    | (go_at_call 98; refine (rs1_any x hx0 hx1 _).mono ?_; rintro e w' ⟨rfl, m, rfl⟩)
    | (go_at_call 99; refine (rs2_any x hx0 hx1 _).mono ?_; rintro e w' ⟨rfl, m, rfl⟩)
    | (go_at_call 96; refine (part_any x hx0 hx1 _ _ (by decide) (by decide) (by decide) (by decide) _).mono ?_; rintro e w' ⟨rfl, m, rfl⟩)
    | (go_at_call 97; refine (wide_any x hx0 hx1 _ (by decide) (by decide) _).mono ?_; rintro e w' ⟨rfl, m, rfl⟩))
  apply post5 (v0 := .int .i64 0) (v1 := .int .i64 (partF x 7 5)) (v2 := .int .i64 (partF x 15 5)) (v3 := .int .i64 (0)) (v4 := .int .i64 (partF x 20 12))
  case hd => rfl
  case ht => rfl
  case hB => repeat (first | with_reducible apply Blk.set | with_reducible apply Blk.drewN | with_reducible exact Blk.new _ _ _)
  case hcs => simp
  case hQ =>
    refine ⟨rfl, ?_⟩
    repeat (first | with_reducible exact Grown.refl _ | with_reducible refine Grown.setCell ?_ (Nat.le_refl _) _ | with_reducible refine Grown.alloc ?_ _ _ | with_reducible refine grown_dr ?_ _)
set_option maxRecDepth 20000 in
set_option maxHeartbeats 400000 in
theorem read_13 (x : Int) (hx0 : 0 ≤ x) (hx1 : x < 4294967296) (w : World) : Calls Tryz.prog 77 #[.int .i64 13, .int .u32 x] w (ReadIs (partF x 7 5) (partF x 15 5) (0) (partF x 20 12) w) := by
  go_enter Tryz.func77, Tryz.ntmps77
  go_wp2_with (first
    | (go_at_call 95; refine (rd_any x hx0 hx1 _).mono ?_; rintro e w' ⟨rfl, m, rfl⟩)
    | (go_at_call 98; refine (rs1_any x hx0 hx1 _).mono ?_; rintro e w' ⟨rfl, m, rfl⟩)
    | (go_at_call 99; refine (rs2_any x hx0 hx1 _).mono ?_; rintro e w' ⟨rfl, m, rfl⟩)
    | (go_at_call 96; refine (part_any x hx0 hx1 _ _ (by decide) (by decide) (by decide) (by decide) _).mono ?_; rintro e w' ⟨rfl, m, rfl⟩)
    | (go_at_call 97; refine (wide_any x hx0 hx1 _ (by decide) (by decide) _).mono ?_; rintro e w' ⟨rfl, m, rfl⟩))
  apply post5 (v0 := .int .i64 0) (v1 := .int .i64 (partF x 7 5)) (v2 := .int .i64 (partF x 15 5)) (v3 := .int .i64 (0)) (v4 := .int .i64 (partF x 20 12))
  case hd => rfl
  case ht => rfl
  case hB => repeat (first | with_reducible apply Blk.set | with_reducible apply Blk.drewN | with_reducible exact Blk.new _ _ _)
  case hcs => simp
  case hQ =>
    refine ⟨rfl, ?_⟩
    repeat (first | with_reducible exact Grown.refl _ | with_reducible refine Grown.setCell ?_ (Nat.le_refl _) _ | with_reducible refine Grown.alloc ?_ _ _ | with_reducible refine grown_dr ?_ _)
end Go.Proofs.YtcpmgklhfpcaeaaGreatDoor
