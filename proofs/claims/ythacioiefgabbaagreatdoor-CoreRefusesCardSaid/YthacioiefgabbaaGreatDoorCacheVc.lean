/- What each function asks, reckoned out of its text; printed by a program of mine (wip/tpl/VcTool.lean). No condition. -/
import Derived.Test.YthacioiefgabbaaGreatDoorSxB
import Derived.Test.YthacioiefgabbaaGreatDoorChecked
namespace Go.Proofs.YthacioiefgabbaaGreatDoor
open Go Go.Proofs
set_option linter.unusedVariables false
set_option maxRecDepth 100000
theorem vc40 {W : World} {Q : Ending → World → Prop} (s : Array Value)
 (hVC :
 (∀ k : Nat, (∀ W2 : World, (k = Array.size (World.heap W) →
 (W2 = World.alloc W (Obj.cells (Value.cells (Value.agg s)) 27) →
 (∃ z : Int, (World.cell? W2 (.mk k 0 none) = some (.int .i64 z) ∧
 Sx.split (decide (z < 1))
 (Q (.returned (.tuple #[.pointer none, .iface 33 (Value.int .i64 2)])) W2)
 ((∃ z2 : Int, (World.cell? W2 (.mk k 0 none) = some (.int .i64 z2) ∧
 Sx.split (decide (z2 > 16))
 (Q (.returned (.tuple #[.pointer none, .iface 33 (Value.int .i64 2)])) W2)
 ((∃ z3 : Int, (World.cell? W2 (.mk k 0 none) = some (.int .i64 z3) ∧
 (∃ z4 : Int, (World.cell? W2 (.mk k 0 none) = some (.int .i64 z4) ∧
 (∀ z5 : Int, (z5 = IntKind.wrap .i64 (z4 - 1) →
 (∀ z6 : Int, (z6 = IntKind.wrap .i64 (↑(BitVec.toNat (BitVec.ofInt (IntKind.bits .i64) z3 &&& BitVec.ofInt (IntKind.bits .i64) z5)) : Int) →
 Sx.split (z6 != 0)
 (Q (.returned (.tuple #[.pointer none, .iface 33 (Value.int .i64 2)])) W2)
 ((∃ z7 : Int, (World.cell? W2 (.mk k (0 + 1) none) = some (.int .i64 z7) ∧
 Sx.split (decide (z7 < 1))
 (Q (.returned (.tuple #[.pointer none, .iface 33 (Value.int .i64 2)])) W2)
 ((∃ z8 : Int, (World.cell? W2 (.mk k (0 + 1) none) = some (.int .i64 z8) ∧
 Sx.split (decide (z8 > 4))
 (Q (.returned (.tuple #[.pointer none, .iface 33 (Value.int .i64 2)])) W2)
 ((∀ vs : Array Value, (vs = #[.slice none 0 0, .int .i64 0] →
 (∀ k2 : Nat, (∀ W3 : World, (k2 = Array.size (World.heap W2) →
 (W3 = World.alloc W2 (Obj.cells (Value.cells (Value.agg vs)) 196) →
 (∃ z9 : Int, (World.cell? W3 (.mk k 0 none) = some (.int .i64 z9) ∧
 (∃ I : Int → World → Prop, (∃ I2 : Int → World → Nat, (I 0 W3 ∧
 ((Nat → Value) →
 (∀ x : Int, (∀ W4 : World, (I x W4 →
 Sx.split (decide (x < z9))
 ((∀ W5 : World, (W5 = World.drew W4 →
 (∃ p : Option Addr, (∃ k3 : Nat, (∃ k4 : Nat, (World.cell? W5 (.mk k2 0 none) = some (.slice p k3 k4) ∧
 (∃ z10 : Int, (World.cell? W5 (.mk k (0 + 1) none) = some (.int .i64 z10) ∧
 (((0 : Int) ≤ z10 ∧
 (z10 ≤ z10 ∧
 (z10 ≤ 9223372036854775807 ∧
 (↑40 : Int) * z10 ≤ 281474976710656))) ∧
 (∀ k5 : Nat, (∀ W6 : World, (k5 = Array.size (World.heap W5) →
 (W6 = World.alloc W5 (Obj.cells (madeCells #[.int .u32 0, .int .i64 0, .int .i64 0, .int .u8 0, .int .u8 0, .int .u8 0, .int .u8 0, .int .u8 0, .int .u8 0, .int .u8 0, .int .u8 0, .int .u8 0, .int .u8 0, .int .u8 0, .int .u8 0, .int .u8 0, .int .u8 0, .int .u8 0, .int .u8 0] (Int.toNat z10 * 19)) 291) →
 (RowKit.Below (Array.size (World.heap W5)) W5 W6 ∧
 (∀ k6 : Nat, (∀ W7 : World, (k6 = Array.size (World.heap W6) →
 (W7 = World.alloc W6 (Obj.cells #[.slice (some (Addr.mk k5 0 none)) (Int.toNat z10) (Int.toNat z10)] 197) →
 (RowKit.Below (Array.size (World.heap W5)) W5 W7 ∧
 (∃ l : List Value, (∃ l2 : List Value, (XHeap.Sl W7 197 1 (Value.slice p k3 k4) k3 l ∧
 (((((1 : Nat) = (0 : Nat) ∧
 some (Addr.mk k6 0 none) = none)) ∨
 ((∃ a : Addr, (some (Addr.mk k6 0 none) = some a ∧
 (∀ k7 : Nat, (∀ v : Value, (l2[k7]? = some v →
 World.cell? W7 (Addr.add a k7) = some v))))))) ∧
 (List.length l2 = 1 ∧
 ((∀ v2 : Value, (v2 ∈ l2 →
 Value.oneCell' v2 = true)) ∧
 (k3 + 1 ≤ maxLen ∧
 ((k3 + 1) * 24 ≤ 140737488355328 ∧
 (∀ p2 : Option Addr, (∀ k8 : Nat, (∀ W8 : World, (XHeap.Sl W8 197 1 (Value.slice p2 (k3 + 1) k8) (k3 + 1) (l ++ l2) →
 (XHeap.XTouch (fun b => Value.ownBlock (Value.slice p k3 k4) = some b) W7 W8 →
 ((∀ k9 : Nat, (Value.ownBlock (Value.slice p2 (k3 + 1) k8) = some k9 →
 ((Value.ownBlock (Value.slice p k3 k4) = some k9) ∨
 (Array.size (World.heap W7) ≤ k9)))) →
 (XHeap.Sl W8 197 1 (Value.slice p k3 k4) k3 l →
 ((((p2 = p ∧
 k8 = k4)) ∨
 ((((XHeap.NilP p) ∨
 (k4 < k3 + 1)) ∧
 (∀ k10 : Nat, (Value.ownBlock (Value.slice p2 (k3 + 1) k8) = some k10 →
 Array.size (World.heap W7) ≤ k10))))) →
 ((∃ v3 : Value, World.cell? W8 (.mk k2 0 none) = some v3) ∧
 (World.frozen? W8 (.mk k2 0 none) = false ∧
 (∀ W9 : World, (W9 = World.setCell W8 (.mk k2 0 none) (Value.slice p2 (k3 + 1) k8) →
 (∀ z11 : Int, (z11 = IntKind.wrap .i64 (x + 1) →
 (I z11 W9 ∧
 I2 z11 W9 < I2 x W4)))))))))))))))))))))))))))))))))))))))))))
 (Q (.returned (.tuple #[.pointer (some (Addr.mk k2 0 none)), .nilIface])) W4)))))))))))))))))))))))))))))))))))))))))) :
 Calls Tryz.prog 40 #[.agg s] W Q :=
 Sx.sound Tryz.func40 (.node [] [] 0 .leaf (.node [] [] 0 .leaf (.node [] [] 0 .leaf (.node [] [] 0 (.node [] [] 0 .leaf (.node [] [] 0 (.node [(37, .int .i64)] [36, 4, 1] 0 (.node [] [] 0 .leaf (.node [] [] 0 .leaf (.node [] [] 0 (.node [] [] 0 (.node [] [] 1010 .leaf .leaf) .leaf) .leaf))) .leaf) .leaf)) .leaf)))) [Value.agg s] rfl (Eq.mp (by kernel_rfl) hVC)
theorem vc99 {W : World} {Q : Ending → World → Prop} (c : Nat) (co : Nat) (addr : Int)
 (hVC :
 Calls Tryz.prog 136 #[.pointer (some (Addr.mk c co none)), .int .u32 addr] W (fun e =>
 (fun W2 =>
 (∃ p : Option Addr, (e = .returned (.pointer p) ∧
 Sx.split (Option.isSome p)
 (Sx.ptr p (fun a =>
 (∃ z : Int, (World.cell? W2 (Addr.add a 1) = some (.int .i64 z) ∧
 Q (.returned (.int .i64 z)) W2))))
 (Q (.returned (.int .i64 0)) W2)))))) :
 Calls Tryz.prog 99 #[.pointer (some ⟨c, co, none⟩), .int .u32 addr] W Q :=
 Sx.sound Tryz.func99 .leaf [Value.pointer (some ⟨c, co, none⟩), .int .u32 addr] rfl (Eq.mp (by kernel_rfl) hVC)
theorem vc269 {W : World} {Q : Ending → World → Prop} (c : Nat) (co : Nat) (addr : Int) (size : Int)
 (hVC :
 Calls Tryz.prog 226 #[.pointer (some (Addr.mk c co none)), .int .u32 addr, .int .i64 size, .int .i64 1] W (fun e =>
 (fun W2 =>
 (∃ p : Option Addr, (∃ p2 : Option Addr, (∃ k : Nat, (∃ k2 : Nat, (e = .returned (.tuple #[.pointer p, .slice p2 k k2]) ∧
 (∃ I : Int → Int → World → Prop, (∃ I2 : Int → Int → World → Nat, (I 0 0 W2 ∧
 ((Nat → Value) →
 (∀ x : Int, (∀ v : Int, (∀ W3 : World, (I x v W3 →
 Sx.split (decide (x < (↑k : Int)))
 ((((0 : Int) ≤ x ∧
 x < (↑k : Int)) ∧
 Sx.adr p2 (fun k3 =>
 (fun k4 =>
 (∃ z : Int, (World.cell? W3 (.mk k3 (k4 + Int.toNat x * 1) none) = some (.int .u8 z) ∧
 (∀ z2 : Int, (z2 = IntKind.wrap .u32 z →
 (∀ z3 : Int, (z3 = IntKind.wrap .i64 (8 * x) →
 ((0 : Int) ≤ z3 ∧
 (∀ z4 : Int, (z4 = IntKind.wrap .u32 (z2 * 2 ^ min (Int.toNat z3) (IntKind.bits .u32)) →
 (∀ z5 : Int, (z5 = IntKind.wrap .u32 (↑(BitVec.toNat (BitVec.ofInt (IntKind.bits .u32) v ||| BitVec.ofInt (IntKind.bits .u32) z4)) : Int) →
 (∀ z6 : Int, (z6 = IntKind.wrap .i64 (x + 1) →
 (I z6 z5 W3 ∧
 I2 z6 z5 W3 < I2 x v W3))))))))))))))))))
 (Q (.returned (.tuple #[.int .u32 v, .bool (Option.isSome p)])) W3))))))))))))))))) :
 Calls Tryz.prog 269 #[.pointer (some ⟨c, co, none⟩), .int .u32 addr, .int .i64 size] W Q :=
 Sx.sound Tryz.func269 (.node [] [] 0 .leaf (.node [] [] 0 .leaf (.node [] [] 0 (.node [] [] 0 .leaf (.node [] [] 0 (.node [(21, .int .i64), (6, .int .u32)] [20, 19, 8] 0 .leaf .leaf) .leaf)) .leaf))) [Value.pointer (some ⟨c, co, none⟩), .int .u32 addr, .int .i64 size] rfl (Eq.mp (by kernel_rfl) hVC)
theorem vc101 {W : World} {Q : Ending → World → Prop} (arg0 : Nat) (arg0o : Nat) (arg1 : Int) (arg2 : Array Value) (arg3 : Int)
 (hVC :
 (∀ k : Nat, (∀ W2 : World, (k = Array.size (World.heap W) →
 (W2 = World.alloc W (Obj.cells (Value.cells (Value.agg arg2)) 246) →
 (∀ k2 : Nat, (∀ W3 : World, (k2 = Array.size (World.heap W2) →
 (W3 = World.alloc W2 (Obj.cells #[.int .u32 0, .int .i64 0, .int .u8 0, .int .u8 0, .int .u8 0, .int .u8 0, .int .u8 0, .int .u8 0, .int .u8 0, .int .u8 0, .int .u8 0, .int .u8 0, .int .u8 0, .int .u8 0, .int .u8 0, .int .u8 0, .int .u8 0, .int .u8 0] 248) →
 (∃ I : World → Prop, ((∀ z : Int, (z = IntKind.wrap .u32 (↑(BitVec.toNat (BitVec.ofInt (IntKind.bits .u32) arg1 &&& BitVec.ofInt (IntKind.bits .u32) 15)) : Int) →
 Sx.split (z != 0)
 ((∃ vs : Array Value, (Array.size vs = 18 ∧
 (Sx.cellsAt W3 (.mk k2 0 none) vs ∧
 (Array.size vs = 18 ∧
 ((∀ k3 : Nat, (k3 < 18 →
 ((∃ v : Value, World.cell? W3 (.mk k2 (0 + k3) none) = some v) ∧
 World.frozen? W3 (.mk k2 (0 + k3) none) = false))) ∧
 ((∀ v2 : Value, (v2 ∈ Array.toList vs →
 Value.oneCell' v2 = true)) ∧
 (∀ W4 : World, (W4 = World.setCells W3 k2 0 (Array.toList vs) →
 (∃ vs2 : Array Value, (Array.size vs2 = 18 ∧
 (Sx.cellsAt W4 (.mk k2 0 none) vs2 ∧
 Q (.returned (.tuple #[.agg vs2, .bool false, .iface 33 (Value.int .i64 3)])) W4))))))))))))
 (Sx.split (decide (arg3 < 1))
 ((∃ vs3 : Array Value, (Array.size vs3 = 18 ∧
 (Sx.cellsAt W3 (.mk k2 0 none) vs3 ∧
 (Array.size vs3 = 18 ∧
 ((∀ k4 : Nat, (k4 < 18 →
 ((∃ v3 : Value, World.cell? W3 (.mk k2 (0 + k4) none) = some v3) ∧
 World.frozen? W3 (.mk k2 (0 + k4) none) = false))) ∧
 ((∀ v4 : Value, (v4 ∈ Array.toList vs3 →
 Value.oneCell' v4 = true)) ∧
 (∀ W5 : World, (W5 = World.setCells W3 k2 0 (Array.toList vs3) →
 (∃ vs4 : Array Value, (Array.size vs4 = 18 ∧
 (Sx.cellsAt W5 (.mk k2 0 none) vs4 ∧
 Q (.returned (.tuple #[.agg vs4, .bool false, .iface 33 (Value.int .i64 3)])) W5))))))))))))
 (Sx.split (decide (arg3 > 3))
 ((∃ vs5 : Array Value, (Array.size vs5 = 18 ∧
 (Sx.cellsAt W3 (.mk k2 0 none) vs5 ∧
 (Array.size vs5 = 18 ∧
 ((∀ k5 : Nat, (k5 < 18 →
 ((∃ v5 : Value, World.cell? W3 (.mk k2 (0 + k5) none) = some v5) ∧
 World.frozen? W3 (.mk k2 (0 + k5) none) = false))) ∧
 ((∀ v6 : Value, (v6 ∈ Array.toList vs5 →
 Value.oneCell' v6 = true)) ∧
 (∀ W6 : World, (W6 = World.setCells W3 k2 0 (Array.toList vs5) →
 (∃ vs6 : Array Value, (Array.size vs6 = 18 ∧
 (Sx.cellsAt W6 (.mk k2 0 none) vs6 ∧
 Q (.returned (.tuple #[.agg vs6, .bool false, .iface 33 (Value.int .i64 3)])) W6))))))))))))
 (I W3))))) ∧
 ((Nat → Value) →
 (∀ W7 : World, (I W7 →
 (∃ I2 : World → Prop, (Calls Tryz.prog 136 #[.pointer (some (Addr.mk arg0 arg0o none)), .int .u32 arg1] W7 (fun e =>
 (fun W8 =>
 (∃ p : Option Addr, (e = .returned (.pointer p) ∧
 Sx.split (Option.isSome p)
 ((∃ vs7 : Array Value, (Array.size vs7 = 18 ∧
 (Sx.cellsAt W8 (.mk k2 0 none) vs7 ∧
 (Array.size vs7 = 18 ∧
 ((∀ k6 : Nat, (k6 < 18 →
 ((∃ v7 : Value, World.cell? W8 (.mk k2 (0 + k6) none) = some v7) ∧
 World.frozen? W8 (.mk k2 (0 + k6) none) = false))) ∧
 ((∀ v8 : Value, (v8 ∈ Array.toList vs7 →
 Value.oneCell' v8 = true)) ∧
 (∀ W9 : World, (W9 = World.setCells W8 k2 0 (Array.toList vs7) →
 (∃ vs8 : Array Value, (Array.size vs8 = 18 ∧
 (Sx.cellsAt W9 (.mk k2 0 none) vs8 ∧
 Q (.returned (.tuple #[.agg vs8, .bool false, .iface 33 (Value.int .i64 7)])) W9))))))))))))
 (I2 W8))))) ∧
 ((Nat → Value) →
 (∀ W10 : World, (I2 W10 →
 Calls Tryz.prog 137 #[.pointer (some (Addr.mk arg0 arg0o none)), .int .u32 arg1] W10 (fun e2 =>
 (fun W11 =>
 (∃ p2 : Option Addr, (∃ k7 : Nat, (∃ k8 : Nat, (e2 = .returned (.slice p2 k7 k8) ∧
 (((0 : Int) ≤ (0 : Int) ∧
 (0 : Int) < (↑k7 : Int)) ∧
 Sx.adr p2 (fun k9 =>
 (fun k10 =>
 (∃ I3 : Option Addr → World → Prop, ((∃ I4 : Int → Option Addr → World → Prop, (∃ I5 : Int → Option Addr → World → Nat, (I4 0 (some (Addr.mk k9 (k10 + 0) none)) W11 ∧
 ((Nat → Value) →
 (∀ x : Int, (∀ x2 : Option Addr, (∀ W12 : World, (I4 x x2 W12 →
 Sx.split (decide (x < (↑k7 : Int)))
 ((∃ I6 : Bool → World → Prop, ((((0 : Int) ≤ x ∧
 x < (↑k7 : Int)) ∧
 Sx.adr p2 (fun k11 =>
 (fun k12 =>
 (∃ z2 : Int, (World.cell? W12 (.mk k11 (k12 + Int.toNat x * 19 + 2) none) = some (.int .i64 z2) ∧
 Sx.ptr x2 (fun a =>
 (∃ z3 : Int, (World.cell? W12 (Addr.add a 2) = some (.int .i64 z3) ∧
 (∀ W13 : World, (∀ k13 : Nat, (W13 = World.drewN W12 k13 →
 I6 (decide (z2 < z3)) W13))))))))))) ∧
 ((Nat → Value) →
 (∀ x3 : Bool, (∀ W14 : World, (I6 x3 W14 →
 Sx.split x3
 ((((0 : Int) ≤ x ∧
 x < (↑k7 : Int)) ∧
 Sx.adr p2 (fun k14 =>
 (fun k15 =>
 (∀ z4 : Int, (z4 = IntKind.wrap .i64 (x + 1) →
 (I4 z4 (some (Addr.mk k14 (k15 + Int.toNat x * 19) none)) W14 ∧
 I5 z4 (some (Addr.mk k14 (k15 + Int.toNat x * 19) none)) W14 < I5 x x2 W12)))))))
 ((∀ z5 : Int, (z5 = IntKind.wrap .i64 (x + 1) →
 (I4 z5 x2 W14 ∧
 I5 z5 x2 W14 < I5 x x2 W12)))))))))))
 (I3 x2 W12))))))))) ∧
 ((Nat → Value) →
 (∀ x4 : Option Addr, (∀ W15 : World, (I3 x4 W15 →
 (∃ I7 : Bool → World → Prop, (Sx.ptr x4 (fun a2 =>
 (∃ z6 : Int, (World.cell? W15 (Addr.add a2 1) = some (.int .i64 z6) ∧
 Sx.split (z6 != 0)
 (Calls Tryz.prog 127 #[.pointer x4] W15 (fun e3 =>
 (fun W16 =>
 (∃ vs9 : Array Value, (e3 = .returned (.agg vs9) ∧
 (Array.size vs9 = 18 ∧
 ((∀ k16 : Nat, (k16 < 18 →
 ((∃ v9 : Value, World.cell? W16 (.mk k2 (0 + k16) none) = some v9) ∧
 World.frozen? W16 (.mk k2 (0 + k16) none) = false))) ∧
 ((∀ v10 : Value, (v10 ∈ Array.toList vs9 →
 Value.oneCell' v10 = true)) ∧
 (∀ W17 : World, (W17 = World.setCells W16 k2 0 (Array.toList vs9) →
 I7 (z6 != 0) W17))))))))))
 (I7 (z6 != 0) W15)))) ∧
 ((Nat → Value) →
 (∀ x5 : Bool, (∀ W18 : World, (I7 x5 W18 →
 (∃ vs10 : Array Value, (Array.size vs10 = 16 ∧
 (Sx.cellsAt W18 (.mk k 0 none) vs10 ∧
 (Array.size vs10 = 16 ∧
 (∀ vs11 : Array Value, (vs11 = List.toArray (Value.int .u32 arg1 :: Value.int .i64 arg3 :: Value.int .i64 0 :: (Array.toList vs10 ++ [])) →
 Sx.ptr x4 (fun a3 =>
 Sx.adr (some a3) (fun k17 =>
 (fun k18 =>
 (Array.size vs11 = 19 ∧
 ((∀ k19 : Nat, (k19 < 19 →
 ((∃ v11 : Value, World.cell? W18 (.mk k17 (k18 + k19) none) = some v11) ∧
 World.frozen? W18 (.mk k17 (k18 + k19) none) = false))) ∧
 ((∀ v12 : Value, (v12 ∈ Array.toList vs11 →
 Value.oneCell' v12 = true)) ∧
 (∀ W19 : World, (W19 = World.setCells W18 k17 k18 (Array.toList vs11) →
 Calls Tryz.prog 138 #[.pointer (some (Addr.mk arg0 arg0o none)), .pointer x4] W19 (fun e4 =>
 (fun W20 =>
 (e4 = .returned (.tuple #[]) ∧
 (∃ vs12 : Array Value, (Array.size vs12 = 18 ∧
 (Sx.cellsAt W20 (.mk k2 0 none) vs12 ∧
 (Array.size vs12 = 18 ∧
 ((∀ k20 : Nat, (k20 < 18 →
 ((∃ v13 : Value, World.cell? W20 (.mk k2 (0 + k20) none) = some v13) ∧
 World.frozen? W20 (.mk k2 (0 + k20) none) = false))) ∧
 ((∀ v14 : Value, (v14 ∈ Array.toList vs12 →
 Value.oneCell' v14 = true)) ∧
 (∀ W21 : World, (W21 = World.setCells W20 k2 0 (Array.toList vs12) →
 (∃ vs13 : Array Value, (Array.size vs13 = 18 ∧
 (Sx.cellsAt W21 (.mk k2 0 none) vs13 ∧
 Q (.returned (.tuple #[.agg vs13, .bool x5, .nilIface])) W21)))))))))))))))))))))))))))))))))))))))))))))))))))))))))))))))))))) :
 Calls Tryz.prog 101 #[.pointer (some ⟨arg0, arg0o, none⟩), .int .u32 arg1, .agg arg2, .int .i64 arg3] W Q :=
 Sx.sound Tryz.func101 (.node [] [] 0 .leaf (.node [] [0, 1, 8, 3, 6] 1 .leaf (.node [] [0, 1, 8, 3, 6] 1 .leaf (.node [] [] 0 .leaf (.node [] [] 0 .leaf (.node [(12, .ptr)] [8, 1, 3, 6, 0] 1 (.node [] [] 0 .leaf (.node [] [] 0 (.node [(40, .int .i64), (12, .ptr)] [39, 11, 8, 1, 3, 6, 0] 0 (.node [] [] 0 .leaf (.node [] [] 0 .leaf (.node [] [] 0 (.node [] [] 0 (.node [] [] 0 .leaf (.node [(52, .bool)] [11, 13, 40, 39, 8, 1, 3, 6, 0, 12] 1 .leaf .leaf)) .leaf) .leaf))) .leaf) .leaf)) (.node [(9, .bool)] [12, 1, 3, 6, 0, 8] 1 .leaf .leaf))))))) [Value.pointer (some ⟨arg0, arg0o, none⟩), .int .u32 arg1, .agg arg2, .int .i64 arg3] rfl (Eq.mp (by kernel_rfl) hVC)
theorem vc100 {W : World} {Q : Ending → World → Prop} (c : Nat) (co : Nat) (addr : Int) (s : Int)
 (hVC :
 (∀ k : Nat, (∀ W2 : World, (k = Array.size (World.heap W) →
 (W2 = World.alloc W (Obj.cells #[.int .u32 0, .int .i64 0, .int .u8 0, .int .u8 0, .int .u8 0, .int .u8 0, .int .u8 0, .int .u8 0, .int .u8 0, .int .u8 0, .int .u8 0, .int .u8 0, .int .u8 0, .int .u8 0, .int .u8 0, .int .u8 0, .int .u8 0, .int .u8 0] 248) →
 (∃ I : World → Prop, ((∀ z : Int, (z = IntKind.wrap .u32 (↑(BitVec.toNat (BitVec.ofInt (IntKind.bits .u32) addr &&& BitVec.ofInt (IntKind.bits .u32) 15)) : Int) →
 Sx.split (z != 0)
 ((∀ vs : Array Value, (vs = #[.int .u32 0, .int .i64 0, .int .u8 0, .int .u8 0, .int .u8 0, .int .u8 0, .int .u8 0, .int .u8 0, .int .u8 0, .int .u8 0, .int .u8 0, .int .u8 0, .int .u8 0, .int .u8 0, .int .u8 0, .int .u8 0, .int .u8 0, .int .u8 0] →
 (Array.size vs = 18 ∧
 ((∀ k2 : Nat, (k2 < 18 →
 ((∃ v : Value, World.cell? W2 (.mk k (0 + k2) none) = some v) ∧
 World.frozen? W2 (.mk k (0 + k2) none) = false))) ∧
 ((∀ v2 : Value, (v2 ∈ Array.toList vs →
 Value.oneCell' v2 = true)) ∧
 (∀ W3 : World, (W3 = World.setCells W2 k 0 (Array.toList vs) →
 (∃ vs2 : Array Value, (Array.size vs2 = 18 ∧
 (Sx.cellsAt W3 (.mk k 0 none) vs2 ∧
 Q (.returned (.tuple #[.agg vs2, .iface 33 (Value.int .i64 3)])) W3)))))))))))
 (Sx.split (decide (s < 0))
 ((∀ vs3 : Array Value, (vs3 = #[.int .u32 0, .int .i64 0, .int .u8 0, .int .u8 0, .int .u8 0, .int .u8 0, .int .u8 0, .int .u8 0, .int .u8 0, .int .u8 0, .int .u8 0, .int .u8 0, .int .u8 0, .int .u8 0, .int .u8 0, .int .u8 0, .int .u8 0, .int .u8 0] →
 (Array.size vs3 = 18 ∧
 ((∀ k3 : Nat, (k3 < 18 →
 ((∃ v3 : Value, World.cell? W2 (.mk k (0 + k3) none) = some v3) ∧
 World.frozen? W2 (.mk k (0 + k3) none) = false))) ∧
 ((∀ v4 : Value, (v4 ∈ Array.toList vs3 →
 Value.oneCell' v4 = true)) ∧
 (∀ W4 : World, (W4 = World.setCells W2 k 0 (Array.toList vs3) →
 (∃ vs4 : Array Value, (Array.size vs4 = 18 ∧
 (Sx.cellsAt W4 (.mk k 0 none) vs4 ∧
 Q (.returned (.tuple #[.agg vs4, .iface 33 (Value.int .i64 3)])) W4)))))))))))
 (Sx.split (decide (s > 2))
 ((∀ vs5 : Array Value, (vs5 = #[.int .u32 0, .int .i64 0, .int .u8 0, .int .u8 0, .int .u8 0, .int .u8 0, .int .u8 0, .int .u8 0, .int .u8 0, .int .u8 0, .int .u8 0, .int .u8 0, .int .u8 0, .int .u8 0, .int .u8 0, .int .u8 0, .int .u8 0, .int .u8 0] →
 (Array.size vs5 = 18 ∧
 ((∀ k4 : Nat, (k4 < 18 →
 ((∃ v5 : Value, World.cell? W2 (.mk k (0 + k4) none) = some v5) ∧
 World.frozen? W2 (.mk k (0 + k4) none) = false))) ∧
 ((∀ v6 : Value, (v6 ∈ Array.toList vs5 →
 Value.oneCell' v6 = true)) ∧
 (∀ W5 : World, (W5 = World.setCells W2 k 0 (Array.toList vs5) →
 (∃ vs6 : Array Value, (Array.size vs6 = 18 ∧
 (Sx.cellsAt W5 (.mk k 0 none) vs6 ∧
 Q (.returned (.tuple #[.agg vs6, .iface 33 (Value.int .i64 3)])) W5)))))))))))
 (I W2))))) ∧
 ((Nat → Value) →
 (∀ W6 : World, (I W6 →
 Calls Tryz.prog 136 #[.pointer (some (Addr.mk c co none)), .int .u32 addr] W6 (fun e =>
 (fun W7 =>
 (∃ p : Option Addr, (e = .returned (.pointer p) ∧
 (∃ I2 : World → Prop, (Sx.split (Option.isNone p)
 ((∀ vs7 : Array Value, (vs7 = #[.int .u32 0, .int .i64 0, .int .u8 0, .int .u8 0, .int .u8 0, .int .u8 0, .int .u8 0, .int .u8 0, .int .u8 0, .int .u8 0, .int .u8 0, .int .u8 0, .int .u8 0, .int .u8 0, .int .u8 0, .int .u8 0, .int .u8 0, .int .u8 0] →
 (Array.size vs7 = 18 ∧
 ((∀ k5 : Nat, (k5 < 18 →
 ((∃ v7 : Value, World.cell? W7 (.mk k (0 + k5) none) = some v7) ∧
 World.frozen? W7 (.mk k (0 + k5) none) = false))) ∧
 ((∀ v8 : Value, (v8 ∈ Array.toList vs7 →
 Value.oneCell' v8 = true)) ∧
 (∀ W8 : World, (W8 = World.setCells W7 k 0 (Array.toList vs7) →
 (∃ vs8 : Array Value, (Array.size vs8 = 18 ∧
 (Sx.cellsAt W8 (.mk k 0 none) vs8 ∧
 Q (.returned (.tuple #[.agg vs8, .iface 33 (Value.int .i64 7)])) W8)))))))))))
 (Sx.ptr p (fun a =>
 (∃ z2 : Int, (World.cell? W7 (Addr.add a 1) = some (.int .i64 z2) ∧
 Sx.split (decide (z2 ≤ s))
 ((∀ vs9 : Array Value, (vs9 = #[.int .u32 0, .int .i64 0, .int .u8 0, .int .u8 0, .int .u8 0, .int .u8 0, .int .u8 0, .int .u8 0, .int .u8 0, .int .u8 0, .int .u8 0, .int .u8 0, .int .u8 0, .int .u8 0, .int .u8 0, .int .u8 0, .int .u8 0, .int .u8 0] →
 (Array.size vs9 = 18 ∧
 ((∀ k6 : Nat, (k6 < 18 →
 ((∃ v9 : Value, World.cell? W7 (.mk k (0 + k6) none) = some v9) ∧
 World.frozen? W7 (.mk k (0 + k6) none) = false))) ∧
 ((∀ v10 : Value, (v10 ∈ Array.toList vs9 →
 Value.oneCell' v10 = true)) ∧
 (∀ W9 : World, (W9 = World.setCells W7 k 0 (Array.toList vs9) →
 (∃ vs10 : Array Value, (Array.size vs10 = 18 ∧
 (Sx.cellsAt W9 (.mk k 0 none) vs10 ∧
 Q (.returned (.tuple #[.agg vs10, .iface 33 (Value.int .i64 7)])) W9)))))))))))
 (I2 W7))))) ∧
 ((Nat → Value) →
 (∀ W10 : World, (I2 W10 →
 Calls Tryz.prog 127 #[.pointer p] W10 (fun e2 =>
 (fun W11 =>
 (∃ vs11 : Array Value, (e2 = .returned (.agg vs11) ∧
 (∀ k7 : Nat, (∀ W12 : World, (k7 = Array.size (World.heap W11) →
 (W12 = World.alloc W11 (Obj.cells #[.int .u32 0, .int .i64 0, .int .u8 0, .int .u8 0, .int .u8 0, .int .u8 0, .int .u8 0, .int .u8 0, .int .u8 0, .int .u8 0, .int .u8 0, .int .u8 0, .int .u8 0, .int .u8 0, .int .u8 0, .int .u8 0, .int .u8 0, .int .u8 0] 248) →
 (Array.size vs11 = 18 ∧
 ((∀ k8 : Nat, (k8 < 18 →
 ((∃ v11 : Value, World.cell? W12 (.mk k7 (0 + k8) none) = some v11) ∧
 World.frozen? W12 (.mk k7 (0 + k8) none) = false))) ∧
 ((∀ v12 : Value, (v12 ∈ Array.toList vs11 →
 Value.oneCell' v12 = true)) ∧
 (∀ W13 : World, (W13 = World.setCells W12 k7 0 (Array.toList vs11) →
 (∃ I3 : World → Prop, (Sx.ptr p (fun a2 =>
 ((∃ v13 : Value, World.cell? W13 (Addr.add a2 1) = some v13) ∧
 (World.frozen? W13 (Addr.add a2 1) = false ∧
 (∀ W14 : World, (W14 = World.setCell W13 (Addr.add a2 1) (Value.int .i64 s) →
 Sx.split (s == 0)
 ((∀ vs12 : Array Value, (vs12 = #[.int .u32 0, .int .i64 0, .int .i64 0, .int .u8 0, .int .u8 0, .int .u8 0, .int .u8 0, .int .u8 0, .int .u8 0, .int .u8 0, .int .u8 0, .int .u8 0, .int .u8 0, .int .u8 0, .int .u8 0, .int .u8 0, .int .u8 0, .int .u8 0, .int .u8 0] →
 Sx.ptr p (fun a3 =>
 Sx.adr (some a3) (fun k9 =>
 (fun k10 =>
 (Array.size vs12 = 19 ∧
 ((∀ k11 : Nat, (k11 < 19 →
 ((∃ v14 : Value, World.cell? W14 (.mk k9 (k10 + k11) none) = some v14) ∧
 World.frozen? W14 (.mk k9 (k10 + k11) none) = false))) ∧
 ((∀ v15 : Value, (v15 ∈ Array.toList vs12 →
 Value.oneCell' v15 = true)) ∧
 (∀ W15 : World, (W15 = World.setCells W14 k9 k10 (Array.toList vs12) →
 I3 W15)))))))))))
 (I3 W14)))))) ∧
 ((Nat → Value) →
 (∀ W16 : World, (I3 W16 →
 (∃ vs13 : Array Value, (Array.size vs13 = 18 ∧
 (Sx.cellsAt W16 (.mk k7 0 none) vs13 ∧
 (Array.size vs13 = 18 ∧
 ((∀ k12 : Nat, (k12 < 18 →
 ((∃ v16 : Value, World.cell? W16 (.mk k (0 + k12) none) = some v16) ∧
 World.frozen? W16 (.mk k (0 + k12) none) = false))) ∧
 ((∀ v17 : Value, (v17 ∈ Array.toList vs13 →
 Value.oneCell' v17 = true)) ∧
 (∀ W17 : World, (W17 = World.setCells W16 k 0 (Array.toList vs13) →
 (∃ vs14 : Array Value, (Array.size vs14 = 18 ∧
 (Sx.cellsAt W17 (.mk k 0 none) vs14 ∧
 Q (.returned (.tuple #[.agg vs14, .nilIface])) W17)))))))))))))))))))))))))))))))))))))))))))))))) :
 Calls Tryz.prog 100 #[.pointer (some ⟨c, co, none⟩), .int .u32 addr, .int .i64 s] W Q :=
 Sx.sound Tryz.func100 (.node [] [] 0 .leaf (.node [] [0, 1, 2, 6] 1 .leaf (.node [] [] 0 .leaf (.node [] [8, 2, 6] 1 .leaf (.node [] [] 0 .leaf (.node [] [9, 6] 1 .leaf .leaf)))))) [Value.pointer (some ⟨c, co, none⟩), .int .u32 addr, .int .i64 s] rfl (Eq.mp (by kernel_rfl) hVC)
theorem vc136 {W : World} {Q : Ending → World → Prop} (c : Nat) (co : Nat) (addr : Int)
 (hVC :
 Calls Tryz.prog 137 #[.pointer (some (Addr.mk c co none)), .int .u32 addr] W (fun e =>
 (fun W2 =>
 (∃ p : Option Addr, (∃ k : Nat, (∃ k2 : Nat, (e = .returned (.slice p k k2) ∧
 (∃ I : World → Prop, ((∃ I2 : Int → World → Prop, (∃ I3 : Int → World → Nat, (I2 0 W2 ∧
 ((Nat → Value) →
 (∀ x : Int, (∀ W3 : World, (I2 x W3 →
 Sx.split (decide (x < (↑k : Int)))
 ((((0 : Int) ≤ x ∧
 x < (↑k : Int)) ∧
 Sx.adr p (fun k3 =>
 (fun k4 =>
 (∃ z : Int, (World.cell? W3 (.mk k3 (k4 + Int.toNat x * 19 + 1) none) = some (.int .i64 z) ∧
 Sx.split (z != 0)
 ((((0 : Int) ≤ x ∧
 x < (↑k : Int)) ∧
 Sx.adr p (fun k5 =>
 (fun k6 =>
 (∃ z2 : Int, (World.cell? W3 (.mk k5 (k6 + Int.toNat x * 19) none) = some (.int .u32 z2) ∧
 (∀ z3 : Int, (z3 = IntKind.wrap .u32 (↑(BitVec.toNat (BitVec.ofInt (IntKind.bits .u32) addr &&& ~~~BitVec.ofInt (IntKind.bits .u32) 15)) : Int) →
 Sx.split (z2 == z3)
 ((((0 : Int) ≤ x ∧
 x < (↑k : Int)) ∧
 Sx.adr p (fun k7 =>
 (fun k8 =>
 Q (.returned (.pointer (some (Addr.mk k7 (k8 + Int.toNat x * 19) none)))) W3))))
 ((∀ z4 : Int, (z4 = IntKind.wrap .i64 (x + 1) →
 (I2 z4 W3 ∧
 I3 z4 W3 < I3 x W3))))))))))))
 ((∀ z5 : Int, (z5 = IntKind.wrap .i64 (x + 1) →
 (I2 z5 W3 ∧
 I3 z5 W3 < I3 x W3))))))))))
 (I W3)))))))) ∧
 ((Nat → Value) →
 (∀ W4 : World, (I W4 →
 Q (.returned (.pointer none)) W4)))))))))))) :
 Calls Tryz.prog 136 #[.pointer (some ⟨c, co, none⟩), .int .u32 addr] W Q :=
 Sx.sound Tryz.func136 (.node [] [] 0 .leaf (.node [] [] 0 .leaf (.node [] [] 1 (.node [] [] 0 .leaf (.node [] [] 0 (.node [(12, .int .i64)] [11, 5, 1] 0 .leaf .leaf) .leaf)) .leaf))) [Value.pointer (some ⟨c, co, none⟩), .int .u32 addr] rfl (Eq.mp (by kernel_rfl) hVC)
theorem vc226 {W : World} {Q : Ending → World → Prop} (c : Nat) (co : Nat) (addr : Int) (size : Int) (least : Int)
 (hVC :
 Calls Tryz.prog 136 #[.pointer (some (Addr.mk c co none)), .int .u32 addr] W (fun e =>
 (fun W2 =>
 (∃ p : Option Addr, (e = .returned (.pointer p) ∧
 (∃ I : Bool → World → Prop, (Sx.split (Option.isNone p)
 (I true W2)
 (Sx.ptr p (fun a =>
 (∃ z : Int, (World.cell? W2 (Addr.add a 1) = some (.int .i64 z) ∧
 Sx.split (decide (z < least))
 (I true W2)
 (Sx.split (size != 1)
 (Sx.split (size != 2)
 (Sx.split (size != 4)
 (I true W2)
 ((∀ z2 : Int, (z2 = IntKind.wrap .u32 size →
 (z2 ≠ 0 ∧
 (∀ z3 : Int, (z3 = Int.tmod addr z2 →
 I (z3 != 0) W2)))))))
 ((∀ z4 : Int, (z4 = IntKind.wrap .u32 size →
 (z4 ≠ 0 ∧
 (∀ z5 : Int, (z5 = Int.tmod addr z4 →
 I (z5 != 0) W2)))))))
 ((∀ z6 : Int, (z6 = IntKind.wrap .u32 size →
 (z6 ≠ 0 ∧
 (∀ z7 : Int, (z7 = Int.tmod addr z6 →
 I (z7 != 0) W2))))))))))) ∧
 ((Nat → Value) →
 (∀ x : Bool, (∀ W3 : World, (I x W3 →
 Sx.split x
 (Q (.returned (.tuple #[.pointer none, .slice none 0 0])) W3)
 (Calls Tryz.prog 138 #[.pointer (some (Addr.mk c co none)), .pointer p] W3 (fun e2 =>
 (fun W4 =>
 (e2 = .returned (.tuple #[]) ∧
 (∀ z8 : Int, (z8 = IntKind.wrap .u32 (↑(BitVec.toNat (BitVec.ofInt (IntKind.bits .u32) addr &&& BitVec.ofInt (IntKind.bits .u32) 15)) : Int) →
 (∀ z9 : Int, (z9 = IntKind.wrap .i64 z8 →
 Sx.ptr p (fun a2 =>
 (∀ z10 : Int, (z10 = IntKind.wrap .i64 (z9 + size) →
 (∀ z11 : Int, (z11 = IntKind.wrap .i64 (z9 + size) →
 (((0 : Int) ≤ z9 ∧
 (z9 ≤ z10 ∧
 (z10 ≤ z11 ∧
 z11 ≤ (↑16 : Int)))) ∧
 (∀ W5 : World, (∀ k : Nat, (W5 = World.drewN W4 k →
 Q (.returned (.tuple #[.pointer p, .slice (Sx.sub (some (Addr.add a2 3)) (Int.toNat z11) (Int.toNat z9) 1) (Int.toNat z10 - Int.toNat z9) (Int.toNat z11 - Int.toNat z9)])) W5)))))))))))))))))))))))))))) :
 Calls Tryz.prog 226 #[.pointer (some ⟨c, co, none⟩), .int .u32 addr, .int .i64 size, .int .i64 least] W Q :=
 Sx.sound Tryz.func226 (.node [] [] 0 .leaf (.node [] [] 0 .leaf (.node [] [] 0 (.node [(43, .bool)] [0, 10, 1, 2] 1 .leaf .leaf) .leaf))) [Value.pointer (some ⟨c, co, none⟩), .int .u32 addr, .int .i64 size, .int .i64 least] rfl (Eq.mp (by kernel_rfl) hVC)
theorem vc137 {W : World} {Q : Ending → World → Prop} (c : Nat) (co : Nat) (addr : Int)
 (hVC :
 (∃ p : Option Addr, (∃ k : Nat, (∃ k2 : Nat, (World.cell? W (.mk c co none) = some (.slice p k k2) ∧
 ((16 : Int) ≠ (0 : Int) ∧
 (∀ z : Int, (z = IntKind.wrap .u32 (Int.tdiv addr 16) →
 (∀ z2 : Int, (z2 = IntKind.wrap .i64 z →
 (∃ p2 : Option Addr, (∃ k3 : Nat, (∃ k4 : Nat, (World.cell? W (.mk c co none) = some (.slice p2 k3 k4) ∧
 (∀ z3 : Int, (z3 = IntKind.wrap .i64 ((↑k3 : Int) - 1) →
 (∀ z4 : Int, (z4 = IntKind.wrap .i64 (↑(BitVec.toNat (BitVec.ofInt (IntKind.bits .i64) z2 &&& BitVec.ofInt (IntKind.bits .i64) z3)) : Int) →
 (((0 : Int) ≤ z4 ∧
 z4 < (↑k : Int)) ∧
 Sx.adr p (fun k5 =>
 (fun k6 =>
 (∃ p3 : Option Addr, (∃ k7 : Nat, (∃ k8 : Nat, (World.cell? W (.mk k5 (k6 + Int.toNat z4 * 1) none) = some (.slice p3 k7 k8) ∧
 (∀ W2 : World, (∀ k9 : Nat, (W2 = World.drewN W k9 →
 Q (.returned (.slice p3 k7 k8)) W2)))))))))))))))))))))))))))) :
 Calls Tryz.prog 137 #[.pointer (some ⟨c, co, none⟩), .int .u32 addr] W Q :=
 Sx.sound Tryz.func137 .leaf [Value.pointer (some ⟨c, co, none⟩), .int .u32 addr] rfl (Eq.mp (by kernel_rfl) hVC)
theorem vc127 {W : World} {Q : Ending → World → Prop} (w : Nat) (wo : Nat)
 (hVC :
 (∀ k : Nat, (∀ W2 : World, (k = Array.size (World.heap W) →
 (W2 = World.alloc W (Obj.cells #[.int .u32 0, .int .i64 0, .int .u8 0, .int .u8 0, .int .u8 0, .int .u8 0, .int .u8 0, .int .u8 0, .int .u8 0, .int .u8 0, .int .u8 0, .int .u8 0, .int .u8 0, .int .u8 0, .int .u8 0, .int .u8 0, .int .u8 0, .int .u8 0] 248) →
 (∀ W3 : World, (W3 = World.drew W2 →
 (∃ z : Int, (World.cell? W3 (.mk w wo none) = some (.int .u32 z) ∧
 (∃ z2 : Int, (World.cell? W3 (.mk w (wo + 1) none) = some (.int .i64 z2) ∧
 (∃ vs : Array Value, (Array.size vs = 16 ∧
 (Sx.cellsAt W3 (.mk w (wo + 3) none) vs ∧
 (Array.size vs = 16 ∧
 (∀ vs2 : Array Value, (vs2 = List.toArray (Value.int .u32 z :: Value.int .i64 z2 :: (Array.toList vs ++ [])) →
 (Array.size vs2 = 18 ∧
 ((∀ k2 : Nat, (k2 < 18 →
 ((∃ v : Value, World.cell? W3 (.mk k (0 + k2) none) = some v) ∧
 World.frozen? W3 (.mk k (0 + k2) none) = false))) ∧
 ((∀ v2 : Value, (v2 ∈ Array.toList vs2 →
 Value.oneCell' v2 = true)) ∧
 (∀ W4 : World, (W4 = World.setCells W3 k 0 (Array.toList vs2) →
 (∃ vs3 : Array Value, (Array.size vs3 = 18 ∧
 (Sx.cellsAt W4 (.mk k 0 none) vs3 ∧
 Q (.returned (.agg vs3)) W4))))))))))))))))))))))))) :
 Calls Tryz.prog 127 #[.pointer (some ⟨w, wo, none⟩)] W Q :=
 Sx.sound Tryz.func127 (.node [] [] 0 .leaf (.node [] [] 0 (.node [] [] 14 .leaf .leaf) .leaf)) [Value.pointer (some ⟨w, wo, none⟩)] rfl (Eq.mp (by kernel_rfl) hVC)
theorem vc138 {W : World} {Q : Ending → World → Prop} (c : Nat) (co : Nat) (w : Nat) (wo : Nat)
 (hVC :
 (∃ z : Int, (World.cell? W (.mk c (co + 1) none) = some (.int .i64 z) ∧
 (∀ z2 : Int, (z2 = IntKind.wrap .i64 (z + 1) →
 ((∃ v : Value, World.cell? W (.mk c (co + 1) none) = some v) ∧
 (World.frozen? W (.mk c (co + 1) none) = false ∧
 (∀ W2 : World, (W2 = World.setCell W (.mk c (co + 1) none) (Value.int .i64 z2) →
 (∃ z3 : Int, (World.cell? W2 (.mk c (co + 1) none) = some (.int .i64 z3) ∧
 ((∃ v2 : Value, World.cell? W2 (.mk w (wo + 2) none) = some v2) ∧
 (World.frozen? W2 (.mk w (wo + 2) none) = false ∧
 (∀ W3 : World, (W3 = World.setCell W2 (.mk w (wo + 2) none) (Value.int .i64 z3) →
 Q (.returned (.tuple #[])) W3))))))))))))))) :
 Calls Tryz.prog 138 #[.pointer (some ⟨c, co, none⟩), .pointer (some ⟨w, wo, none⟩)] W Q :=
 Sx.sound Tryz.func138 .leaf [Value.pointer (some ⟨c, co, none⟩), .pointer (some ⟨w, wo, none⟩)] rfl (Eq.mp (by kernel_rfl) hVC)
end Go.Proofs.YthacioiefgabbaaGreatDoor
