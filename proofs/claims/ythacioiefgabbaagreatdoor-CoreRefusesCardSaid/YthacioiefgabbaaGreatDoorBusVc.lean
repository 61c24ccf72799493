/- What each function asks, reckoned out of its text; printed by a program of mine (wip/tpl/VcTool.lean). No condition. -/
import Derived.Test.YthacioiefgabbaaGreatDoorSxB
import Derived.Test.YthacioiefgabbaaGreatDoorChecked
namespace Go.Proofs.YthacioiefgabbaaGreatDoor
open Go Go.Proofs
set_option linter.unusedVariables false
set_option maxRecDepth 100000
theorem vc23 {W : World} {Q : Ending → World → Prop} (arg0 : Option Addr) (arg0n : Nat) (arg0c : Nat) (arg1 : Int) (arg2 : Option Addr) (arg2n : Nat) (arg2c : Nat)
 (hVC :
 Sx.split (decide ((↑arg0n : Int) < 1))
 (Q (.returned (.tuple #[.pointer none, .iface 33 (Value.int .i64 2)])) W)
 (Sx.split (decide ((↑arg0n : Int) > 2))
 (Q (.returned (.tuple #[.pointer none, .iface 33 (Value.int .i64 2)])) W)
 (Sx.split (decide (arg1 < 0))
 (Q (.returned (.tuple #[.pointer none, .iface 33 (Value.int .i64 2)])) W)
 (Sx.split (decide (arg1 > 10))
 (Q (.returned (.tuple #[.pointer none, .iface 33 (Value.int .i64 2)])) W)
 ((∀ k : Nat, (∀ W2 : World, (k = Array.size (World.heap W) →
 (W2 = World.alloc W (Obj.map #[] 0) →
 (∀ z : Int, (z = IntKind.wrap .i64 ((↑arg0n : Int) - 1) →
 (∀ vs : Array Value, (vs = #[.slice none 0 0, .int .i64 arg1, .slice none 0 0, Value.map (some k), .int .i64 z, .int .i64 (-1), .int .i64 0] →
 (∀ k2 : Nat, (∀ W3 : World, (k2 = Array.size (World.heap W2) →
 (W3 = World.alloc W2 (Obj.cells (Value.cells (Value.agg vs)) 132) →
 (∃ I : Int → World → Prop, (∃ I2 : Int → World → Nat, (I 0 W3 ∧
 ((Nat → Value) →
 (∀ x : Int, (∀ W4 : World, (I x W4 →
 Sx.split (decide (x < (↑arg0n : Int)))
 ((((0 : Int) ≤ x ∧
 x < (↑arg0n : Int)) ∧
 Sx.adr arg0 (fun k3 =>
 (fun k4 =>
 (∃ vs2 : Array Value, (Array.size vs2 = 2 ∧
 (Sx.cellsAt W4 (.mk k3 (k4 + Int.toNat x * 2) none) vs2 ∧
 (∀ k5 : Nat, (∀ W5 : World, (k5 = Array.size (World.heap W4) →
 (W5 = World.alloc W4 (Obj.cells #[.int .i64 0, .int .i64 0] 27) →
 (Array.size vs2 = 2 ∧
 ((∀ k6 : Nat, (k6 < 2 →
 ((∃ v : Value, World.cell? W5 (.mk k5 (0 + k6) none) = some v) ∧
 World.frozen? W5 (.mk k5 (0 + k6) none) = false))) ∧
 ((∀ v2 : Value, (v2 ∈ Array.toList vs2 →
 Value.oneCell' v2 = true)) ∧
 (∀ W6 : World, (W6 = World.setCells W5 k5 0 (Array.toList vs2) →
 (∃ vs3 : Array Value, (Array.size vs3 = 2 ∧
 (Sx.cellsAt W6 (.mk k5 0 none) vs3 ∧
 Calls Tryz.prog 40 #[.agg vs3] W6 (fun e =>
 (fun W7 =>
 (∃ p : Option Addr, (∃ v3 : Value, (e = .returned (.tuple #[.pointer p, v3]) ∧
 Sx.isNil v3 (fun t =>
 Sx.split (!t)
 (Q (.returned (.tuple #[.pointer none, v3])) W7)
 ((∃ p2 : Option Addr, (∃ k7 : Nat, (∃ k8 : Nat, (World.cell? W7 (.mk k2 0 none) = some (.slice p2 k7 k8) ∧
 (∀ k9 : Nat, (∀ W8 : World, (k9 = Array.size (World.heap W7) →
 (W8 = World.alloc W7 (Obj.cells #[.pointer p] 133) →
 (∃ l : List Value, (∃ l2 : List Value, (XHeap.Sl W8 133 1 (Value.slice p2 k7 k8) k7 l ∧
 (((((1 : Nat) = (0 : Nat) ∧
 some (Addr.mk k9 0 none) = none)) ∨
 ((∃ a : Addr, (some (Addr.mk k9 0 none) = some a ∧
 (∀ k10 : Nat, (∀ v4 : Value, (l2[k10]? = some v4 →
 World.cell? W8 (Addr.add a k10) = some v4))))))) ∧
 (List.length l2 = 1 ∧
 ((∀ v5 : Value, (v5 ∈ l2 →
 Value.oneCell' v5 = true)) ∧
 (k7 + 1 ≤ maxLen ∧
 ((k7 + 1) * 8 ≤ 140737488355328 ∧
 (∀ p3 : Option Addr, (∀ k11 : Nat, (∀ W9 : World, (XHeap.Sl W9 133 1 (Value.slice p3 (k7 + 1) k11) (k7 + 1) (l ++ l2) →
 (XHeap.XTouch (fun b => Value.ownBlock (Value.slice p2 k7 k8) = some b) W8 W9 →
 ((∀ k12 : Nat, (Value.ownBlock (Value.slice p3 (k7 + 1) k11) = some k12 →
 ((Value.ownBlock (Value.slice p2 k7 k8) = some k12) ∨
 (Array.size (World.heap W8) ≤ k12)))) →
 (XHeap.Sl W9 133 1 (Value.slice p2 k7 k8) k7 l →
 ((((p3 = p2 ∧
 k11 = k8)) ∨
 ((((XHeap.NilP p2) ∨
 (k8 < k7 + 1)) ∧
 (∀ k13 : Nat, (Value.ownBlock (Value.slice p3 (k7 + 1) k11) = some k13 →
 Array.size (World.heap W8) ≤ k13))))) →
 ((∃ v6 : Value, World.cell? W9 (.mk k2 0 none) = some v6) ∧
 (World.frozen? W9 (.mk k2 0 none) = false ∧
 (∀ W10 : World, (W10 = World.setCell W9 (.mk k2 0 none) (Value.slice p3 (k7 + 1) k11) →
 (∀ z2 : Int, (z2 = IntKind.wrap .i64 (x + 1) →
 (I z2 W10 ∧
 I2 z2 W10 < I2 x W4)))))))))))))))))))))))))))))))))))))))))))))))))))))))))
 (((16 : Int) ≠ (0 : Int) ∧
 (∀ z3 : Int, (z3 = Int.tmod (↑arg2n : Int) 16 →
 Sx.split (z3 != 0)
 (Q (.returned (.tuple #[.pointer none, .iface 33 (Value.int .i64 1)])) W4)
 (Sx.split (decide ((↑arg2n : Int) > 4096))
 (Q (.returned (.tuple #[.pointer none, .iface 33 (Value.int .i64 1)])) W4)
 (Calls Tryz.prog 41 #[.slice arg2 arg2n arg2c] W4 (fun e2 =>
 (fun W11 =>
 (∃ p4 : Option Addr, (∃ k14 : Nat, (∃ k15 : Nat, (e2 = .returned (.slice p4 k14 k15) ∧
 ((∃ v7 : Value, World.cell? W11 (.mk k2 (0 + 2) none) = some v7) ∧
 (World.frozen? W11 (.mk k2 (0 + 2) none) = false ∧
 (∀ W12 : World, (W12 = World.setCell W11 (.mk k2 (0 + 2) none) (Value.slice p4 k14 k15) →
 Q (.returned (.tuple #[.pointer (some (Addr.mk k2 0 none)), .nilIface])) W12)))))))))))))))))))))))))))))))))))))))) :
 Calls Tryz.prog 23 #[.slice arg0 arg0n arg0c, .int .i64 arg1, .slice arg2 arg2n arg2c] W Q :=
 Sx.sound Tryz.func23 (.node [] [] 0 .leaf (.node [] [] 0 .leaf (.node [] [] 0 .leaf (.node [] [] 0 (.node [] [] 0 .leaf (.node [] [] 0 (.node [(39, .int .i64)] [38, 37, 8, 2] 0 .leaf .leaf) .leaf)) .leaf)))) [Value.slice arg0 arg0n arg0c, .int .i64 arg1, .slice arg2 arg2n arg2c] rfl (Eq.mp (by kernel_rfl) hVC)
theorem vc98 {W : World} {Q : Ending → World → Prop} (b : Nat) (bo : Nat) (core : Int)
 (hVC :
 (∃ p : Option Nat, (World.cell? W (.mk b (bo + 3) none) = some (.map p) ∧
 Sx.mapp p (fun k =>
 (∃ I : Int → Option Value, (Sx.Mp W IntKind.i64 k I ∧
 (∃ vs : Array Value, (Option.getD (I core) (Value.agg #[.int .u32 0, .bool false]) = Value.agg vs ∧
 (∀ k2 : Nat, (∀ W2 : World, (k2 = Array.size (World.heap W) →
 (W2 = World.alloc W (Obj.cells #[.int .u32 0, .bool false] 227) →
 (Array.size vs = 2 ∧
 ((∀ k3 : Nat, (k3 < 2 →
 ((∃ v : Value, World.cell? W2 (.mk k2 (0 + k3) none) = some v) ∧
 World.frozen? W2 (.mk k2 (0 + k3) none) = false))) ∧
 ((∀ v2 : Value, (v2 ∈ Array.toList vs →
 Value.oneCell' v2 = true)) ∧
 (∀ W3 : World, (W3 = World.setCells W2 k2 0 (Array.toList vs) →
 Q (.returned (.bool (Option.isSome (I core)))) W3))))))))))))))))) :
 Calls Tryz.prog 98 #[.pointer (some ⟨b, bo, none⟩), .int .i64 core] W Q :=
 Sx.sound Tryz.func98 .leaf [Value.pointer (some ⟨b, bo, none⟩), .int .i64 core] rfl (Eq.mp (by kernel_rfl) hVC)
theorem vc71 {W : World} {Q : Ending → World → Prop} (b : Nat) (bo : Nat)
 (hVC :
 (∃ p : Option Addr, (∃ k : Nat, (∃ k2 : Nat, (World.cell? W (.mk b bo none) = some (.slice p k k2) ∧
 (∃ I : Int → World → Prop, (∃ I2 : Int → World → Nat, (I 0 W ∧
 ((Nat → Value) →
 (∀ x : Int, (∀ W2 : World, (I x W2 →
 Sx.split (decide (x < (↑k : Int)))
 ((∃ z : Int, (World.cell? W2 (.mk b (bo + 4) none) = some (.int .i64 z) ∧
 (∀ z2 : Int, (z2 = IntKind.wrap .i64 (z + 1) →
 (∀ z3 : Int, (z3 = IntKind.wrap .i64 (z2 + x) →
 (∃ p2 : Option Addr, (∃ k3 : Nat, (∃ k4 : Nat, (World.cell? W2 (.mk b bo none) = some (.slice p2 k3 k4) ∧
 ((↑k3 : Int) ≠ 0 ∧
 (∀ z4 : Int, (z4 = Int.tmod z3 (↑k3 : Int) →
 (∀ W3 : World, (∀ k5 : Nat, (W3 = World.drewN W2 k5 →
 Calls Tryz.prog 98 #[.pointer (some (Addr.mk b bo none)), .int .i64 z4] W3 (fun e =>
 (fun W4 =>
 (∃ t : Bool, (e = .returned (.bool t) ∧
 Sx.split t
 (Q (.returned (.int .i64 z4)) W4)
 ((∀ z5 : Int, (z5 = IntKind.wrap .i64 (x + 1) →
 (I z5 W4 ∧
 I2 z5 W4 < I2 x W2)))))))))))))))))))))))))
 (Q (.returned (.int .i64 (-1))) W2))))))))))))) :
 Calls Tryz.prog 71 #[.pointer (some ⟨b, bo, none⟩)] W Q :=
 Sx.sound Tryz.func71 (.node [] [] 0 .leaf (.node [] [] 0 (.node [] [] 0 .leaf (.node [] [] 0 (.node [(10, .int .i64)] [9, 0] 0 .leaf .leaf) .leaf)) .leaf)) [Value.pointer (some ⟨b, bo, none⟩)] rfl (Eq.mp (by kernel_rfl) hVC)
theorem vc48 {W : World} {Q : Ending → World → Prop} (arg0 : Nat) (arg0o : Nat)
 (hVC :
 (∃ I : World → Prop, ((∃ z : Int, (World.cell? W (.mk arg0 (arg0o + 5) none) = some (.int .i64 z) ∧
 Sx.split (z == -1)
 ((∀ W2 : World, (W2 = World.drew W →
 (Calls Tryz.prog 71 #[.pointer (some (Addr.mk arg0 arg0o none))] W2 (fun e =>
 (fun W3 =>
 (∃ z2 : Int, (e = .returned (.int .i64 z2) ∧
 (∃ z3 : Int, (World.cell? W3 (.mk arg0 (arg0o + 1) none) = some (.int .i64 z3) ∧
 ((∃ v : Value, World.cell? W3 (.mk arg0 (arg0o + 5) none) = some v) ∧
 (World.frozen? W3 (.mk arg0 (arg0o + 5) none) = false ∧
 (∀ W4 : World, (W4 = World.setCell W3 (.mk arg0 (arg0o + 5) none) (Value.int .i64 z2) →
 ((∃ v2 : Value, World.cell? W4 (.mk arg0 (arg0o + 6) none) = some v2) ∧
 (World.frozen? W4 (.mk arg0 (arg0o + 6) none) = false ∧
 (∀ W5 : World, (W5 = World.setCell W4 (.mk arg0 (arg0o + 6) none) (Value.int .i64 z3) →
 I W5)))))))))))))) ∧
 (∃ z4 : Int, (World.cell? W2 (.mk arg0 (arg0o + 1) none) = some (.int .i64 z4) ∧
 (RowKit.Below (Array.size (World.heap W2)) W2 W2 ∧
 Calls Tryz.prog 71 #[.pointer (some (Addr.mk arg0 arg0o none))] W2 (fun e2 =>
 (fun W6 =>
 (∃ z5 : Int, (e2 = .returned (.int .i64 z5) ∧
 ((∃ v3 : Value, World.cell? W6 (.mk arg0 (arg0o + 5) none) = some v3) ∧
 (World.frozen? W6 (.mk arg0 (arg0o + 5) none) = false ∧
 (∀ W7 : World, (W7 = World.setCell W6 (.mk arg0 (arg0o + 5) none) (Value.int .i64 z5) →
 ((∃ v4 : Value, World.cell? W7 (.mk arg0 (arg0o + 6) none) = some v4) ∧
 (World.frozen? W7 (.mk arg0 (arg0o + 6) none) = false ∧
 (∀ W8 : World, (W8 = World.setCell W7 (.mk arg0 (arg0o + 6) none) (Value.int .i64 z4) →
 I W8)))))))))))))))))))
 (I W))) ∧
 ((Nat → Value) →
 (∀ W9 : World, (I W9 →
 (∃ z6 : Int, (World.cell? W9 (.mk arg0 (arg0o + 5) none) = some (.int .i64 z6) ∧
 Sx.split (z6 == -1)
 (Q (.returned (.slice none 0 0)) W9)
 ((∃ z7 : Int, (World.cell? W9 (.mk arg0 (arg0o + 6) none) = some (.int .i64 z7) ∧
 Sx.split (decide (z7 > 0))
 ((∃ z8 : Int, (World.cell? W9 (.mk arg0 (arg0o + 6) none) = some (.int .i64 z8) ∧
 (∀ z9 : Int, (z9 = IntKind.wrap .i64 (z8 - 1) →
 ((∃ v5 : Value, World.cell? W9 (.mk arg0 (arg0o + 6) none) = some v5) ∧
 (World.frozen? W9 (.mk arg0 (arg0o + 6) none) = false ∧
 (∀ W10 : World, (W10 = World.setCell W9 (.mk arg0 (arg0o + 6) none) (Value.int .i64 z9) →
 Q (.returned (.slice none 0 0)) W10)))))))))
 ((∃ z10 : Int, (World.cell? W9 (.mk arg0 (arg0o + 5) none) = some (.int .i64 z10) ∧
 (∃ p : Option Nat, (World.cell? W9 (.mk arg0 (arg0o + 3) none) = some (.map p) ∧
 Sx.mapp p (fun k =>
 (∃ I2 : Int → Option Value, (Sx.Mp W9 IntKind.i64 k I2 ∧
 (∃ vs : Array Value, (Option.getD (I2 z10) (Value.agg #[.int .u32 0, .bool false]) = Value.agg vs ∧
 (∀ k2 : Nat, (∀ W11 : World, (k2 = Array.size (World.heap W9) →
 (W11 = World.alloc W9 (Obj.cells #[.int .u32 0, .bool false] 227) →
 (Array.size vs = 2 ∧
 ((∀ k3 : Nat, (k3 < 2 →
 ((∃ v6 : Value, World.cell? W11 (.mk k2 (0 + k3) none) = some v6) ∧
 World.frozen? W11 (.mk k2 (0 + k3) none) = false))) ∧
 ((∀ v7 : Value, (v7 ∈ Array.toList vs →
 Value.oneCell' v7 = true)) ∧
 (∀ W12 : World, (W12 = World.setCells W11 k2 0 (Array.toList vs) →
 (∃ p2 : Option Nat, (World.cell? W12 (.mk arg0 (arg0o + 3) none) = some (.map p2) ∧
 Sx.mapp p2 (fun k4 =>
 (∃ I3 : Int → Option Value, (Sx.Mp W12 IntKind.i64 k4 I3 ∧
 (∀ W13 : World, (Sx.Mp W13 IntKind.i64 k4 (Sx.upd I3 z10 none) →
 (XHeap.XTouch (fun q => q = k4) W12 W13 →
 ((∃ v8 : Value, World.cell? W13 (.mk arg0 (arg0o + 4) none) = some v8) ∧
 (World.frozen? W13 (.mk arg0 (arg0o + 4) none) = false ∧
 (∀ W14 : World, (W14 = World.setCell W13 (.mk arg0 (arg0o + 4) none) (Value.int .i64 z10) →
 ((∃ v9 : Value, World.cell? W14 (.mk arg0 (arg0o + 5) none) = some v9) ∧
 (World.frozen? W14 (.mk arg0 (arg0o + 5) none) = false ∧
 (∀ W15 : World, (W15 = World.setCell W14 (.mk arg0 (arg0o + 5) none) (Value.int .i64 (-1)) →
 (∃ vs2 : Array Value, (Array.size vs2 = 2 ∧
 (Sx.cellsAt W15 (.mk k2 0 none) vs2 ∧
 Calls Tryz.prog 72 #[.pointer (some (Addr.mk arg0 arg0o none)), .int .i64 z10, .agg vs2] W15 (fun e3 =>
 (fun W16 =>
 (∃ p3 : Option Addr, (∃ k5 : Nat, (∃ k6 : Nat, (e3 = .returned (.slice p3 k5 k6) ∧
 Q (.returned (.slice p3 k5 k6)) W16))))))))))))))))))))))))))))))))))))))))))))))))))))))) :
 Calls Tryz.prog 48 #[.pointer (some ⟨arg0, arg0o, none⟩)] W Q :=
 Sx.sound Tryz.func48 (.node [] [] 0 .leaf (.node [] [0] 1 (.node [] [] 0 .leaf (.node [] [] 0 (.node [] [] 1004 .leaf .leaf) .leaf)) .leaf)) [Value.pointer (some ⟨arg0, arg0o, none⟩)] rfl (Eq.mp (by kernel_rfl) hVC)
theorem vc102 {W : World} {Q : Ending → World → Prop} (b : Nat) (bo : Nat) (line : Int)
 (hVC :
 (∀ z : Int, (z = IntKind.wrap .u32 (line - 65536) →
 (∀ z2 : Int, (z2 = IntKind.wrap .i64 z →
 (∃ p : Option Addr, (∃ k : Nat, (∃ k2 : Nat, (World.cell? W (.mk b (bo + 2) none) = some (.slice p k k2) ∧
 (∀ z3 : Int, (z3 = IntKind.wrap .i64 (z2 + 16) →
 (((0 : Int) ≤ z2 ∧
 (z2 ≤ z3 ∧
 z3 ≤ (↑k2 : Int))) ∧
 Q (.returned (.slice (Sx.sub p k2 (Int.toNat z2) 1) (Int.toNat z3 - Int.toNat z2) (k2 - Int.toNat z2))) W)))))))))))) :
 Calls Tryz.prog 102 #[.pointer (some ⟨b, bo, none⟩), .int .u32 line] W Q :=
 Sx.sound Tryz.func102 .leaf [Value.pointer (some ⟨b, bo, none⟩), .int .u32 line] rfl (Eq.mp (by kernel_rfl) hVC)
theorem vc82 {W : World} {Q : Ending → World → Prop} (b : Nat) (bo : Nat) (l : Array Value)
 (hVC :
 (∀ k : Nat, (∀ W2 : World, (k = Array.size (World.heap W) →
 (W2 = World.alloc W (Obj.cells (Value.cells (Value.agg l)) 248) →
 (∃ z : Int, (World.cell? W2 (.mk k (0 + 1) none) = some (.int .i64 z) ∧
 Sx.split (z == 3)
 ((∀ W3 : World, (W3 = World.drew W2 →
 (∃ z2 : Int, (World.cell? W3 (.mk k 0 none) = some (.int .u32 z2) ∧
 (∃ p : Option Addr, (∃ k2 : Nat, (∃ k3 : Nat, (Calls Tryz.prog 102 #[.pointer (some (Addr.mk b bo none)), .int .u32 z2] W3 (fun e =>
 (fun W4 =>
 (e = .returned (.slice p k2 k3) ∧
 W4 = W3))) ∧
 (∃ l2 : List Value, (List.length l2 = Nat.min 16 k2 * 1 ∧
 ((∀ v : Value, (v ∈ l2 →
 Value.oneCell' v = true)) ∧
 (((l2 = []) ∨
 (((∃ a : Addr, (some (Addr.mk k (0 + 2) none) = some a ∧
 (∀ k4 : Nat, (∀ v2 : Value, (l2[k4]? = some v2 →
 World.cell? W3 (Addr.add a k4) = some v2))))) ∧
 (∃ k5 : Nat, (∃ k6 : Nat, (p = some (Addr.mk k5 k6 none) ∧
 (∀ k7 : Nat, (k7 < List.length l2 →
 ((∃ v3 : Value, World.cell? W3 (.mk k5 (k6 + k7) none) = some v3) ∧
 World.frozen? W3 (.mk k5 (k6 + k7) none) = false))))))))) ∧
 (∀ W5 : World, (W5 = Sx.setRow p W3 l2 →
 Q (.returned (.tuple #[])) W5)))))))))))))))
 (Q (.returned (.tuple #[])) W2)))))))) :
 Calls Tryz.prog 82 #[.pointer (some ⟨b, bo, none⟩), .agg l] W Q :=
 Sx.sound Tryz.func82 (.node [] [] 0 .leaf (.node [] [] 0 .leaf (.node [] [] 0 (.node [] [] 7 .leaf .leaf) .leaf))) [Value.pointer (some ⟨b, bo, none⟩), .agg l] rfl (Eq.mp (by kernel_rfl) hVC)
theorem vc72 {W : World} {Q : Ending → World → Prop} (arg0 : Nat) (arg0o : Nat) (arg1 : Int) (arg2 : Array Value)
 (hVC :
 (∀ k : Nat, (∀ W2 : World, (k = Array.size (World.heap W) →
 (W2 = World.alloc W (Obj.cells (Value.cells (Value.agg arg2)) 227) →
 (∃ I : Int → World → Prop, ((∃ t : Bool, (World.cell? W2 (.mk k (0 + 1) none) = some (.bool t) ∧
 Sx.split (!t)
 (I 1 W2)
 (I 0 W2))) ∧
 ((Nat → Value) →
 (∀ x : Int, (∀ W3 : World, (I x W3 →
 (∃ I2 : Int → Option Addr → Nat → Nat → World → Prop, ((∃ p : Option Addr, (∃ k2 : Nat, (∃ k3 : Nat, (World.cell? W3 (.mk arg0 arg0o none) = some (.slice p k2 k3) ∧
 (∃ I3 : Int → Option Addr → Nat → Nat → Int → World → Prop, (∃ I4 : Int → Option Addr → Nat → Nat → Int → World → Nat, (I3 0 none 0 0 2 W3 ∧
 ((Nat → Value) →
 (∀ x2 : Int, (∀ x3 : Option Addr, (∀ k4 : Nat, (∀ k5 : Nat, (∀ x4 : Int, (∀ W4 : World, (I3 x2 x3 k4 k5 x4 W4 →
 Sx.split (decide (x2 < (↑k2 : Int)))
 ((∃ I5 : Option Addr → Nat → Nat → Int → World → Prop, ((((0 : Int) ≤ x2 ∧
 x2 < (↑k2 : Int)) ∧
 Sx.adr p (fun k6 =>
 (fun k7 =>
 (∃ p2 : Option Addr, (World.cell? W4 (.mk k6 (k7 + Int.toNat x2 * 1) none) = some (.pointer p2) ∧
 (∃ z : Int, (World.cell? W4 (.mk k 0 none) = some (.int .u32 z) ∧
 Calls Tryz.prog 99 #[.pointer p2, .int .u32 z] W4 (fun e =>
 (fun W5 =>
 (∃ z2 : Int, (e = .returned (.int .i64 z2) ∧
 Sx.split (x2 == arg1)
 (I5 x3 k4 k5 x4 W5)
 (Sx.split (z2 == 0)
 (I5 x3 k4 k5 x4 W5)
 ((∃ I6 : Int → World → Prop, ((∃ t2 : Bool, (World.cell? W5 (.mk k (0 + 1) none) = some (.bool t2) ∧
 Sx.split (!t2)
 (I6 1 W5)
 (I6 x4 W5))) ∧
 ((Nat → Value) →
 (∀ x5 : Int, (∀ W6 : World, (I6 x5 W6 →
 (∃ z3 : Int, (World.cell? W6 (.mk k 0 none) = some (.int .u32 z3) ∧
 Calls Tryz.prog 100 #[.pointer p2, .int .u32 z3, .int .i64 x] W6 (fun e2 =>
 (fun W7 =>
 (∃ vs : Array Value, (∃ v : Value, (e2 = .returned (.tuple #[.agg vs, v]) ∧
 (∀ k8 : Nat, (∀ W8 : World, (k8 = Array.size (World.heap W7) →
 (W8 = World.alloc W7 (Obj.cells #[.int .u32 0, .int .i64 0, .int .u8 0, .int .u8 0, .int .u8 0, .int .u8 0, .int .u8 0, .int .u8 0, .int .u8 0, .int .u8 0, .int .u8 0, .int .u8 0, .int .u8 0, .int .u8 0, .int .u8 0, .int .u8 0, .int .u8 0, .int .u8 0] 248) →
 (Array.size vs = 18 ∧
 ((∀ k9 : Nat, (k9 < 18 →
 ((∃ v2 : Value, World.cell? W8 (.mk k8 (0 + k9) none) = some v2) ∧
 World.frozen? W8 (.mk k8 (0 + k9) none) = false))) ∧
 ((∀ v3 : Value, (v3 ∈ Array.toList vs →
 Value.oneCell' v3 = true)) ∧
 (∀ W9 : World, (W9 = World.setCells W8 k8 0 (Array.toList vs) →
 Sx.isNil v (fun t3 =>
 Sx.split t3
 ((∃ vs2 : Array Value, (Array.size vs2 = 18 ∧
 (Sx.cellsAt W9 (.mk k8 0 none) vs2 ∧
 Calls Tryz.prog 82 #[.pointer (some (Addr.mk arg0 arg0o none)), .agg vs2] W9 (fun e3 =>
 (fun W10 =>
 (e3 = .returned (.tuple #[]) ∧
 (∃ z4 : Int, (World.cell? W10 (.mk k 0 none) = some (.int .u32 z4) ∧
 (∀ vs3 : Array Value, (vs3 = #[.int .i64 x2, .int .u32 z4, .int .i64 z2, .int .i64 x] →
 (Array.size vs3 = 4 ∧
 (∀ k10 : Nat, (∀ W11 : World, (k10 = Array.size (World.heap W10) →
 (W11 = World.alloc W10 (Obj.cells (List.toArray (Array.toList vs3 ++ [])) 231) →
 (∃ l : List Value, (∃ l2 : List Value, (XHeap.Sl W11 231 4 (Value.slice x3 k4 k5) k4 l ∧
 (((((1 : Nat) = (0 : Nat) ∧
 some (Addr.mk k10 0 none) = none)) ∨
 ((∃ a : Addr, (some (Addr.mk k10 0 none) = some a ∧
 (∀ k11 : Nat, (∀ v4 : Value, (l2[k11]? = some v4 →
 World.cell? W11 (Addr.add a k11) = some v4))))))) ∧
 (List.length l2 = 4 ∧
 ((∀ v5 : Value, (v5 ∈ l2 →
 Value.oneCell' v5 = true)) ∧
 (k4 + 1 ≤ maxLen ∧
 ((k4 + 1) * 32 ≤ 140737488355328 ∧
 (∀ p3 : Option Addr, (∀ k12 : Nat, (∀ W12 : World, (XHeap.Sl W12 231 4 (Value.slice p3 (k4 + 1) k12) (k4 + 1) (l ++ l2) →
 (XHeap.XTouch (fun b => Value.ownBlock (Value.slice x3 k4 k5) = some b) W11 W12 →
 ((∀ k13 : Nat, (Value.ownBlock (Value.slice p3 (k4 + 1) k12) = some k13 →
 ((Value.ownBlock (Value.slice x3 k4 k5) = some k13) ∨
 (Array.size (World.heap W11) ≤ k13)))) →
 (XHeap.Sl W12 231 4 (Value.slice x3 k4 k5) k4 l →
 ((((p3 = x3 ∧
 k12 = k5)) ∨
 ((((XHeap.NilP x3) ∨
 (k5 < k4 + 1)) ∧
 (∀ k14 : Nat, (Value.ownBlock (Value.slice p3 (k4 + 1) k12) = some k14 →
 Array.size (World.heap W11) ≤ k14))))) →
 I5 p3 (k4 + 1) k12 x5 W12))))))))))))))))))))))))))))))))
 (I5 x3 k4 k5 x5 W9))))))))))))))))))))))))))))))))))))) ∧
 ((Nat → Value) →
 (∀ x6 : Option Addr, (∀ k15 : Nat, (∀ k16 : Nat, (∀ x7 : Int, (∀ W13 : World, (I5 x6 k15 k16 x7 W13 →
 (∀ z5 : Int, (z5 = IntKind.wrap .i64 (x2 + 1) →
 (I3 z5 x6 k15 k16 x7 W13 ∧
 I4 z5 x6 k15 k16 x7 W13 < I4 x2 x3 k4 k5 x4 W4)))))))))))))
 (I2 x4 x3 k4 k5 W4)))))))))))))))) ∧
 ((Nat → Value) →
 (∀ x8 : Int, (∀ x9 : Option Addr, (∀ k17 : Nat, (∀ k18 : Nat, (∀ W14 : World, (I2 x8 x9 k17 k18 W14 →
 (∃ p4 : Option Addr, (∃ k19 : Nat, (∃ k20 : Nat, (World.cell? W14 (.mk arg0 arg0o none) = some (.slice p4 k19 k20) ∧
 (((0 : Int) ≤ arg1 ∧
 arg1 < (↑k19 : Int)) ∧
 Sx.adr p4 (fun k21 =>
 (fun k22 =>
 (∃ p5 : Option Addr, (World.cell? W14 (.mk k21 (k22 + Int.toNat arg1 * 1) none) = some (.pointer p5) ∧
 (∃ z6 : Int, (World.cell? W14 (.mk k 0 none) = some (.int .u32 z6) ∧
 Calls Tryz.prog 99 #[.pointer p5, .int .u32 z6] W14 (fun e4 =>
 (fun W15 =>
 (∃ z7 : Int, (e4 = .returned (.int .i64 z7) ∧
 (∃ I7 : World → Prop, (Sx.split (z7 != 0)
 ((∃ z8 : Int, (World.cell? W15 (.mk k 0 none) = some (.int .u32 z8) ∧
 Calls Tryz.prog 100 #[.pointer p5, .int .u32 z8, .int .i64 0] W15 (fun e5 =>
 (fun W16 =>
 (∃ vs4 : Array Value, (∃ v6 : Value, (e5 = .returned (.tuple #[.agg vs4, v6]) ∧
 I7 W16))))))))
 (I7 W15) ∧
 ((Nat → Value) →
 (∀ W17 : World, (I7 W17 →
 (∃ I8 : Bool → Option Addr → World → Prop, ((∀ W18 : World, (W18 = World.drew W17 →
 (∃ z9 : Int, (World.cell? W18 (.mk k 0 none) = some (.int .u32 z9) ∧
 (∃ z10 : Int, (World.cell? W18 (.mk k 0 none) = some (.int .u32 z10) ∧
 (Calls Tryz.prog 102 #[.pointer (some (Addr.mk arg0 arg0o none)), .int .u32 z10] W18 (fun e6 =>
 (fun W19 =>
 (∃ p6 : Option Addr, (∃ k23 : Nat, (∃ k24 : Nat, (e6 = .returned (.slice p6 k23 k24) ∧
 (RowKit.Below (Array.size (World.heap W18)) W18 W19 ∧
 ((16 : Nat) ≤ k23 ∧
 Sx.ptr p6 (fun a2 =>
 (∃ vs5 : Array Value, (Array.size vs5 = 16 ∧
 (Sx.cellsAt W18 a2 vs5 ∧
 (Calls Tryz.prog 101 #[.pointer p5, .int .u32 z9, .agg vs5, .int .i64 x8] W19 (fun e7 =>
 (fun W20 =>
 (∃ vs6 : Array Value, (∃ t4 : Bool, (∃ v7 : Value, (e7 = .returned (.tuple #[.agg vs6, .bool t4, v7]) ∧
 (∀ k25 : Nat, (∀ W21 : World, (k25 = Array.size (World.heap W20) →
 (W21 = World.alloc W20 (Obj.cells #[.int .u32 0, .int .i64 0, .int .u8 0, .int .u8 0, .int .u8 0, .int .u8 0, .int .u8 0, .int .u8 0, .int .u8 0, .int .u8 0, .int .u8 0, .int .u8 0, .int .u8 0, .int .u8 0, .int .u8 0, .int .u8 0, .int .u8 0, .int .u8 0] 248) →
 (Array.size vs6 = 18 ∧
 ((∀ k26 : Nat, (k26 < 18 →
 ((∃ v8 : Value, World.cell? W21 (.mk k25 (0 + k26) none) = some v8) ∧
 World.frozen? W21 (.mk k25 (0 + k26) none) = false))) ∧
 ((∀ v9 : Value, (v9 ∈ Array.toList vs6 →
 Value.oneCell' v9 = true)) ∧
 (∀ W22 : World, (W22 = World.setCells W21 k25 0 (Array.toList vs6) →
 I8 t4 (some (Addr.mk k25 0 none)) W22))))))))))))))) ∧
 (∀ k27 : Nat, (∀ W23 : World, (k27 = Array.size (World.heap W19) →
 (W23 = World.alloc W19 (Obj.cells #[.int .u32 0, .int .i64 0, .int .u8 0, .int .u8 0, .int .u8 0, .int .u8 0, .int .u8 0, .int .u8 0, .int .u8 0, .int .u8 0, .int .u8 0, .int .u8 0, .int .u8 0, .int .u8 0, .int .u8 0, .int .u8 0, .int .u8 0, .int .u8 0] 248) →
 (RowKit.Below (Array.size (World.heap W18)) W18 W23 ∧
 Calls Tryz.prog 101 #[.pointer p5, .int .u32 z9, .agg vs5, .int .i64 x8] W23 (fun e8 =>
 (fun W24 =>
 (∃ vs7 : Array Value, (∃ t5 : Bool, (∃ v10 : Value, (e8 = .returned (.tuple #[.agg vs7, .bool t5, v10]) ∧
 (Array.size vs7 = 18 ∧
 ((∀ k28 : Nat, (k28 < 18 →
 ((∃ v11 : Value, World.cell? W24 (.mk k27 (0 + k28) none) = some v11) ∧
 World.frozen? W24 (.mk k27 (0 + k28) none) = false))) ∧
 ((∀ v12 : Value, (v12 ∈ Array.toList vs7 →
 Value.oneCell' v12 = true)) ∧
 (∀ W25 : World, (W25 = World.setCells W24 k27 0 (Array.toList vs7) →
 I8 t5 (some (Addr.mk k27 0 none)) W25))))))))))))))))))))))))))))) ∧
 (∀ k29 : Nat, (∀ W26 : World, (k29 = Array.size (World.heap W18) →
 (W26 = World.alloc W18 (Obj.cells #[.int .u32 0, .int .i64 0, .int .u8 0, .int .u8 0, .int .u8 0, .int .u8 0, .int .u8 0, .int .u8 0, .int .u8 0, .int .u8 0, .int .u8 0, .int .u8 0, .int .u8 0, .int .u8 0, .int .u8 0, .int .u8 0, .int .u8 0, .int .u8 0] 248) →
 (RowKit.Below (Array.size (World.heap W18)) W18 W26 ∧
 Calls Tryz.prog 102 #[.pointer (some (Addr.mk arg0 arg0o none)), .int .u32 z10] W26 (fun e9 =>
 (fun W27 =>
 (∃ p7 : Option Addr, (∃ k30 : Nat, (∃ k31 : Nat, (e9 = .returned (.slice p7 k30 k31) ∧
 (RowKit.Below (Array.size (World.heap W18)) W18 W27 ∧
 ((16 : Nat) ≤ k30 ∧
 Sx.ptr p7 (fun a3 =>
 (∃ vs8 : Array Value, (Array.size vs8 = 16 ∧
 (Sx.cellsAt W18 a3 vs8 ∧
 Calls Tryz.prog 101 #[.pointer p5, .int .u32 z9, .agg vs8, .int .i64 x8] W27 (fun e10 =>
 (fun W28 =>
 (∃ vs9 : Array Value, (∃ t6 : Bool, (∃ v13 : Value, (e10 = .returned (.tuple #[.agg vs9, .bool t6, v13]) ∧
 (Array.size vs9 = 18 ∧
 ((∀ k32 : Nat, (k32 < 18 →
 ((∃ v14 : Value, World.cell? W28 (.mk k29 (0 + k32) none) = some v14) ∧
 World.frozen? W28 (.mk k29 (0 + k32) none) = false))) ∧
 ((∀ v15 : Value, (v15 ∈ Array.toList vs9 →
 Value.oneCell' v15 = true)) ∧
 (∀ W29 : World, (W29 = World.setCells W28 k29 0 (Array.toList vs9) →
 I8 t6 (some (Addr.mk k29 0 none)) W29))))))))))))))))))))))))))))))))))) ∧
 ((Nat → Value) →
 (∀ x10 : Bool, (∀ x11 : Option Addr, (∀ W30 : World, (I8 x10 x11 W30 →
 (∃ I9 : Option Addr → Nat → Nat → World → Prop, (Sx.split x10
 (Sx.ptr x11 (fun a4 =>
 (∃ vs10 : Array Value, (Array.size vs10 = 18 ∧
 (Sx.cellsAt W30 a4 vs10 ∧
 Calls Tryz.prog 82 #[.pointer (some (Addr.mk arg0 arg0o none)), .agg vs10] W30 (fun e11 =>
 (fun W31 =>
 (e11 = .returned (.tuple #[]) ∧
 Sx.ptr x11 (fun a5 =>
 (∃ z11 : Int, (World.cell? W31 (Addr.add a5 0) = some (.int .u32 z11) ∧
 Sx.ptr x11 (fun a6 =>
 (∃ z12 : Int, (World.cell? W31 (Addr.add a6 1) = some (.int .i64 z12) ∧
 (∀ vs11 : Array Value, (vs11 = #[.int .i64 arg1, .int .u32 z11, .int .i64 z12, .int .i64 0] →
 (Array.size vs11 = 4 ∧
 (∀ k33 : Nat, (∀ W32 : World, (k33 = Array.size (World.heap W31) →
 (W32 = World.alloc W31 (Obj.cells (List.toArray (Array.toList vs11 ++ [])) 231) →
 (∃ l3 : List Value, (∃ l4 : List Value, (XHeap.Sl W32 231 4 (Value.slice x9 k17 k18) k17 l3 ∧
 (((((1 : Nat) = (0 : Nat) ∧
 some (Addr.mk k33 0 none) = none)) ∨
 ((∃ a7 : Addr, (some (Addr.mk k33 0 none) = some a7 ∧
 (∀ k34 : Nat, (∀ v16 : Value, (l4[k34]? = some v16 →
 World.cell? W32 (Addr.add a7 k34) = some v16))))))) ∧
 (List.length l4 = 4 ∧
 ((∀ v17 : Value, (v17 ∈ l4 →
 Value.oneCell' v17 = true)) ∧
 (k17 + 1 ≤ maxLen ∧
 ((k17 + 1) * 32 ≤ 140737488355328 ∧
 (∀ p8 : Option Addr, (∀ k35 : Nat, (∀ W33 : World, (XHeap.Sl W33 231 4 (Value.slice p8 (k17 + 1) k35) (k17 + 1) (l3 ++ l4) →
 (XHeap.XTouch (fun b => Value.ownBlock (Value.slice x9 k17 k18) = some b) W32 W33 →
 ((∀ k36 : Nat, (Value.ownBlock (Value.slice p8 (k17 + 1) k35) = some k36 →
 ((Value.ownBlock (Value.slice x9 k17 k18) = some k36) ∨
 (Array.size (World.heap W32) ≤ k36)))) →
 (XHeap.Sl W33 231 4 (Value.slice x9 k17 k18) k17 l3 →
 ((((p8 = x9 ∧
 k35 = k18)) ∨
 ((((XHeap.NilP x9) ∨
 (k18 < k17 + 1)) ∧
 (∀ k37 : Nat, (Value.ownBlock (Value.slice p8 (k17 + 1) k35) = some k37 →
 Array.size (World.heap W32) ≤ k37))))) →
 I9 p8 (k17 + 1) k35 W33)))))))))))))))))))))))))))))))))))))
 (I9 x9 k17 k18 W30) ∧
 ((Nat → Value) →
 (∀ x12 : Option Addr, (∀ k38 : Nat, (∀ k39 : Nat, (∀ W34 : World, (I9 x12 k38 k39 W34 →
 (∃ z13 : Int, (World.cell? W34 (.mk k 0 none) = some (.int .u32 z13) ∧
 (∀ vs12 : Array Value, (vs12 = #[.int .i64 arg1, .int .u32 z13, .int .i64 z7, .int .i64 x8] →
 (Array.size vs12 = 4 ∧
 (∀ k40 : Nat, (∀ W35 : World, (k40 = Array.size (World.heap W34) →
 (W35 = World.alloc W34 (Obj.cells (List.toArray (Array.toList vs12 ++ [])) 231) →
 (∃ l5 : List Value, (∃ l6 : List Value, (XHeap.Sl W35 231 4 (Value.slice x12 k38 k39) k38 l5 ∧
 (((((1 : Nat) = (0 : Nat) ∧
 some (Addr.mk k40 0 none) = none)) ∨
 ((∃ a8 : Addr, (some (Addr.mk k40 0 none) = some a8 ∧
 (∀ k41 : Nat, (∀ v18 : Value, (l6[k41]? = some v18 →
 World.cell? W35 (Addr.add a8 k41) = some v18))))))) ∧
 (List.length l6 = 4 ∧
 ((∀ v19 : Value, (v19 ∈ l6 →
 Value.oneCell' v19 = true)) ∧
 (k38 + 1 ≤ maxLen ∧
 ((k38 + 1) * 32 ≤ 140737488355328 ∧
 (∀ p9 : Option Addr, (∀ k42 : Nat, (∀ W36 : World, (XHeap.Sl W36 231 4 (Value.slice p9 (k38 + 1) k42) (k38 + 1) (l5 ++ l6) →
 (XHeap.XTouch (fun b => Value.ownBlock (Value.slice x12 k38 k39) = some b) W35 W36 →
 ((∀ k43 : Nat, (Value.ownBlock (Value.slice p9 (k38 + 1) k42) = some k43 →
 ((Value.ownBlock (Value.slice x12 k38 k39) = some k43) ∨
 (Array.size (World.heap W35) ≤ k43)))) →
 (XHeap.Sl W36 231 4 (Value.slice x12 k38 k39) k38 l5 →
 ((((p9 = x12 ∧
 k42 = k39)) ∨
 ((((XHeap.NilP x12) ∨
 (k39 < k38 + 1)) ∧
 (∀ k44 : Nat, (Value.ownBlock (Value.slice p9 (k38 + 1) k42) = some k44 →
 Array.size (World.heap W35) ≤ k44))))) →
 Q (.returned (.slice p9 (k38 + 1) k42)) W36)))))))))))))))))))))))))))))))))))))))))))))))))))))))))))))))))))))))))))))))) :
 Calls Tryz.prog 72 #[.pointer (some ⟨arg0, arg0o, none⟩), .int .i64 arg1, .agg arg2] W Q :=
 Sx.sound Tryz.func72 (.node [] [] 0 .leaf (.node [] [] 0 .leaf (.node [(8, .int .i64)] [0, 5, 1, 6, 7] 1 .leaf (.node [(7, .int .i64), (6, .slice)] [0, 1, 5] 1 (.node [] [] 0 .leaf (.node [] [] 0 (.node [(27, .int .i64), (6, .slice), (7, .int .i64)] [26, 25, 5, 1, 8, 0] 0 (.node [] [] 0 .leaf (.node [] [] 0 .leaf (.node [(6, .slice), (7, .int .i64)] [27, 26, 25, 5, 1, 8, 0] 1 (.node [] [] 0 (.node [] [] 0 .leaf (.node [] [] 0 .leaf (.node [] [] 0 .leaf (.node [(7, .int .i64)] [10, 5, 8, 0, 6, 9, 11, 27, 26, 25, 1] 1 .leaf .leaf)))) .leaf) .leaf))) .leaf) .leaf)) (.node [] [] 0 .leaf (.node [] [] 0 .leaf (.node [] [14, 5, 0, 7, 6, 1, 15] 1 .leaf (.node [(17, .bool), (16, .ptr)] [0, 6, 1, 5, 15, 7] 1 (.node [] [] 1011 .leaf .leaf) (.node [(6, .slice)] [1, 5, 15, 7] 1 .leaf .leaf))))))))) [Value.pointer (some ⟨arg0, arg0o, none⟩), .int .i64 arg1, .agg arg2] rfl (Eq.mp (by kernel_rfl) hVC)
theorem vc41 {W : World} {Q : Ending → World → Prop} (s : Option Addr) (sn : Nat) (sc : Nat)
 (hVC :
 Sx.split (Option.isNone s)
 (Q (.returned (.slice none 0 0)) W)
 ((∀ k : Nat, (∀ W2 : World, (k = Array.size (World.heap W) →
 (W2 = World.alloc W (Obj.cells #[] 5) →
 (∃ l : List Value, (∃ l2 : List Value, (XHeap.Sl W2 5 1 (Value.slice (some (Addr.mk k 0 none)) 0 0) 0 l ∧
 ((((sn = 0 ∧
 s = none)) ∨
 ((∃ a : Addr, (s = some a ∧
 (∀ k2 : Nat, (∀ v : Value, (l2[k2]? = some v →
 World.cell? W2 (Addr.add a k2) = some v))))))) ∧
 (List.length l2 = sn * 1 ∧
 ((∀ v2 : Value, (v2 ∈ l2 →
 Value.oneCell' v2 = true)) ∧
 (0 + sn ≤ maxLen ∧
 ((0 + sn) * 1 ≤ 140737488355328 ∧
 (∀ p : Option Addr, (∀ k3 : Nat, (∀ W3 : World, (XHeap.Sl W3 5 1 (Value.slice p (0 + sn) k3) (0 + sn) (l ++ l2) →
 (XHeap.XTouch (fun b => Value.ownBlock (Value.slice (some (Addr.mk k 0 none)) 0 0) = some b) W2 W3 →
 ((∀ k4 : Nat, (Value.ownBlock (Value.slice p (0 + sn) k3) = some k4 →
 ((Value.ownBlock (Value.slice (some (Addr.mk k 0 none)) 0 0) = some k4) ∨
 (Array.size (World.heap W2) ≤ k4)))) →
 (XHeap.Sl W3 5 1 (Value.slice (some (Addr.mk k 0 none)) 0 0) 0 l →
 ((((p = some (Addr.mk k 0 none) ∧
 k3 = 0)) ∨
 ((((XHeap.NilP (some (Addr.mk k 0 none))) ∨
 ((0 : Nat) < (0 : Nat) + sn)) ∧
 (∀ k5 : Nat, (Value.ownBlock (Value.slice p (0 + sn) k3) = some k5 →
 Array.size (World.heap W2) ≤ k5))))) →
 Q (.returned (.slice p (0 + sn) k3)) W3)))))))))))))))))))))) :
 Calls Tryz.prog 41 #[.slice s sn sc] W Q :=
 Sx.sound Tryz.func41 .leaf [Value.slice s sn sc] rfl (Eq.mp (by kernel_rfl) hVC)
theorem vc81 {W : World} {Q : Ending → World → Prop} (c : Nat) (co : Nat)
 (hVC :
 (∀ k : Nat, (∀ W2 : World, (k = Array.size (World.heap W) →
 (W2 = World.alloc W (Obj.cells #[.pointer (some (Addr.mk c co none))] 133) →
 Q (.returned (.func (Fn.func 126) #[] #[.pointer (some (Addr.mk k 0 none))])) W2))))) :
 Calls Tryz.prog 81 #[.pointer (some ⟨c, co, none⟩)] W Q :=
 Sx.sound Tryz.func81 .leaf [Value.pointer (some ⟨c, co, none⟩)] rfl (Eq.mp (by kernel_rfl) hVC)
end Go.Proofs.YthacioiefgabbaaGreatDoor
