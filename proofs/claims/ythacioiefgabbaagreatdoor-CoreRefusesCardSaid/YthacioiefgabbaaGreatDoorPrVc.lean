/- What each function asks, reckoned out of its text; printed by a program of mine (wip/tpl/VcTool.lean). No condition. -/
import Derived.Test.YthacioiefgabbaaGreatDoorSxB
import Derived.Test.YthacioiefgabbaaGreatDoorChecked
namespace Go.Proofs.YthacioiefgabbaaGreatDoor
open Go Go.Proofs
set_option linter.unusedVariables false
set_option maxRecDepth 100000
theorem vc47 {W : World} {Q : Ending → World → Prop} (arg0 : Array Value)
 (hVC :
 (∀ k : Nat, (∀ W2 : World, (k = Array.size (World.heap W) →
 (W2 = World.alloc W (Obj.cells (Value.cells (Value.agg arg0)) 25) →
 (∃ z : Int, (World.cell? W2 (.mk k 0 none) = some (.int .i64 z) ∧
 Calls Tryz.prog 69 #[.int .i64 z, .int .i64 0, .int .i64 3] W2 (fun e =>
 (fun W3 =>
 (∃ t : Bool, (e = .returned (.bool t) ∧
 Sx.split (!t)
 (Q (.returned (.tuple #[.pointer none, .iface 33 (Value.int .i64 2)])) W3)
 ((∃ z2 : Int, (World.cell? W3 (.mk k (0 + 1) none) = some (.int .i64 z2) ∧
 Calls Tryz.prog 69 #[.int .i64 z2, .int .i64 1, .int .i64 10] W3 (fun e2 =>
 (fun W4 =>
 (∃ t2 : Bool, (e2 = .returned (.bool t2) ∧
 Sx.split (!t2)
 (Q (.returned (.tuple #[.pointer none, .iface 33 (Value.int .i64 2)])) W4)
 ((∃ z3 : Int, (World.cell? W4 (.mk k (0 + 2) none) = some (.int .i64 z3) ∧
 (∃ z4 : Int, (World.cell? W4 (.mk k (0 + 1) none) = some (.int .i64 z4) ∧
 Calls Tryz.prog 69 #[.int .i64 z3, .int .i64 0, .int .i64 (if z4 < 10 then z4 else 10)] W4 (fun e3 =>
 (fun W5 =>
 (∃ t3 : Bool, (e3 = .returned (.bool t3) ∧
 Sx.split (!t3)
 (Q (.returned (.tuple #[.pointer none, .iface 33 (Value.int .i64 2)])) W5)
 ((∃ z5 : Int, (World.cell? W5 (.mk k (0 + 3) none) = some (.int .i64 z5) ∧
 Calls Tryz.prog 69 #[.int .i64 z5, .int .i64 0, .int .i64 8] W5 (fun e4 =>
 (fun W6 =>
 (∃ t4 : Bool, (e4 = .returned (.bool t4) ∧
 Sx.split (!t4)
 (Q (.returned (.tuple #[.pointer none, .iface 33 (Value.int .i64 2)])) W6)
 ((∃ z6 : Int, (World.cell? W6 (.mk k (0 + 4) none) = some (.int .i64 z6) ∧
 Calls Tryz.prog 69 #[.int .i64 z6, .int .i64 1, .int .i64 16] W6 (fun e5 =>
 (fun W7 =>
 (∃ t5 : Bool, (e5 = .returned (.bool t5) ∧
 Sx.split (!t5)
 (Q (.returned (.tuple #[.pointer none, .iface 33 (Value.int .i64 2)])) W7)
 ((∀ W8 : World, (W8 = World.drew W7 →
 (∃ z7 : Int, (World.cell? W8 (.mk k (0 + 2) none) = some (.int .i64 z7) ∧
 ((0 : Int) ≤ z7 ∧
 (∀ z8 : Int, (z8 = IntKind.wrap .i64 (1 * 2 ^ min (Int.toNat z7) (IntKind.bits .i64)) →
 (∀ z9 : Int, (z9 = IntKind.wrap .i64 (z8 - 1) →
 (∃ z10 : Int, (World.cell? W8 (.mk k (0 + 3) none) = some (.int .i64 z10) ∧
 ((0 : Int) ≤ z10 ∧
 (∀ z11 : Int, (z11 = IntKind.wrap .i64 (1 * 2 ^ min (Int.toNat z10) (IntKind.bits .i64)) →
 (∃ z12 : Int, (World.cell? W8 (.mk k (0 + 4) none) = some (.int .i64 z12) ∧
 ((((0 : Int) ≤ z11 ∧
 (z11 ≤ z11 ∧
 (z11 ≤ 9223372036854775807 ∧
 (↑12 : Int) * z11 ≤ 281474976710656))) ∧
 (∀ k2 : Nat, (∀ W9 : World, (k2 = Array.size (World.heap W8) →
 (W9 = World.alloc W8 (Obj.cells (madeCells #[.int .u32 0, .int .u32 0, .bool false] (Int.toNat z11 * 3)) 363) →
 (RowKit.Below (Array.size (World.heap W8)) W8 W9 ∧
 (((0 : Int) ≤ z12 ∧
 (z12 ≤ z12 ∧
 (z12 ≤ 9223372036854775807 ∧
 (↑4 : Int) * z12 ≤ 281474976710656))) ∧
 (∀ k3 : Nat, (∀ W10 : World, (k3 = Array.size (World.heap W9) →
 (W10 = World.alloc W9 (Obj.cells (madeCells #[.int .u32 0] (Int.toNat z12 * 1)) 43) →
 (RowKit.Below (Array.size (World.heap W8)) W8 W10 ∧
 (∀ vs : Array Value, (vs = #[.nilIface, .int .i64 0, .int .i64 z9, .slice (some (Addr.mk k2 0 none)) (Int.toNat z11) (Int.toNat z11), .slice (some (Addr.mk k3 0 none)) (Int.toNat z12) (Int.toNat z12), .int .i64 0] →
 (∀ k4 : Nat, (∀ W11 : World, (k4 = Array.size (World.heap W10) →
 (W11 = World.alloc W10 (Obj.cells (Value.cells (Value.agg vs)) 217) →
 (RowKit.Below (Array.size (World.heap W8)) W8 W11 ∧
 (∃ z13 : Int, (World.cell? W11 (.mk k 0 none) = some (.int .i64 z13) ∧
 Sx.split (z13 == 2)
 ((∃ z14 : Int, (World.cell? W11 (.mk k (0 + 1) none) = some (.int .i64 z14) ∧
 Calls Tryz.prog 70 #[.int .i64 z14] W11 (fun e6 =>
 (fun W12 =>
 (∃ p : Option Addr, (∃ k5 : Nat, (∃ k6 : Nat, (e6 = .returned (.slice p k5 k6) ∧
 ((∃ v : Value, World.cell? W12 (.mk k4 0 none) = some v) ∧
 (World.frozen? W12 (.mk k4 0 none) = false ∧
 (∀ W13 : World, (W13 = World.setCell W12 (.mk k4 0 none) (Value.iface 219 (Value.slice p k5 k6)) →
 Q (.returned (.tuple #[.pointer (some (Addr.mk k4 0 none)), .nilIface])) W13)))))))))))))
 (Sx.split (z13 == 3)
 ((∃ z15 : Int, (World.cell? W11 (.mk k (0 + 1) none) = some (.int .i64 z15) ∧
 Calls Tryz.prog 70 #[.int .i64 z15] W11 (fun e7 =>
 (fun W14 =>
 (∃ p2 : Option Addr, (∃ k7 : Nat, (∃ k8 : Nat, (e7 = .returned (.slice p2 k7 k8) ∧
 (∀ vs2 : Array Value, (vs2 = #[.slice p2 k7 k8] →
 ((∃ v2 : Value, World.cell? W14 (.mk k4 0 none) = some v2) ∧
 (World.frozen? W14 (.mk k4 0 none) = false ∧
 (∀ W15 : World, (W15 = World.setCell W14 (.mk k4 0 none) (Value.iface 222 (Value.agg vs2)) →
 Q (.returned (.tuple #[.pointer (some (Addr.mk k4 0 none)), .nilIface])) W15)))))))))))))))
 ((∃ z16 : Int, (World.cell? W11 (.mk k 0 none) = some (.int .i64 z16) ∧
 (∀ vs3 : Array Value, (vs3 = #[.bool (z16 == 1)] →
 ((∃ v3 : Value, World.cell? W11 (.mk k4 0 none) = some v3) ∧
 (World.frozen? W11 (.mk k4 0 none) = false ∧
 (∀ W16 : World, (W16 = World.setCell W11 (.mk k4 0 none) (Value.iface 224 (Value.agg vs3)) →
 Q (.returned (.tuple #[.pointer (some (Addr.mk k4 0 none)), .nilIface])) W16))))))))))))))))))))))))))))))) ∧
 (((0 : Int) ≤ z12 ∧
 (z12 ≤ z12 ∧
 (z12 ≤ 9223372036854775807 ∧
 (↑4 : Int) * z12 ≤ 281474976710656))) ∧
 (∀ k9 : Nat, (∀ W17 : World, (k9 = Array.size (World.heap W8) →
 (W17 = World.alloc W8 (Obj.cells (madeCells #[.int .u32 0] (Int.toNat z12 * 1)) 43) →
 (RowKit.Below (Array.size (World.heap W8)) W8 W17 ∧
 (((0 : Int) ≤ z11 ∧
 (z11 ≤ z11 ∧
 (z11 ≤ 9223372036854775807 ∧
 (↑12 : Int) * z11 ≤ 281474976710656))) ∧
 (∀ k10 : Nat, (∀ W18 : World, (k10 = Array.size (World.heap W17) →
 (W18 = World.alloc W17 (Obj.cells (madeCells #[.int .u32 0, .int .u32 0, .bool false] (Int.toNat z11 * 3)) 363) →
 (RowKit.Below (Array.size (World.heap W8)) W8 W18 ∧
 (∀ vs4 : Array Value, (vs4 = #[.nilIface, .int .i64 0, .int .i64 z9, .slice (some (Addr.mk k10 0 none)) (Int.toNat z11) (Int.toNat z11), .slice (some (Addr.mk k9 0 none)) (Int.toNat z12) (Int.toNat z12), .int .i64 0] →
 (∀ k11 : Nat, (∀ W19 : World, (k11 = Array.size (World.heap W18) →
 (W19 = World.alloc W18 (Obj.cells (Value.cells (Value.agg vs4)) 217) →
 (RowKit.Below (Array.size (World.heap W8)) W8 W19 ∧
 (∃ z17 : Int, (World.cell? W19 (.mk k 0 none) = some (.int .i64 z17) ∧
 Sx.split (z17 == 2)
 ((∃ z18 : Int, (World.cell? W19 (.mk k (0 + 1) none) = some (.int .i64 z18) ∧
 Calls Tryz.prog 70 #[.int .i64 z18] W19 (fun e8 =>
 (fun W20 =>
 (∃ p3 : Option Addr, (∃ k12 : Nat, (∃ k13 : Nat, (e8 = .returned (.slice p3 k12 k13) ∧
 ((∃ v4 : Value, World.cell? W20 (.mk k11 0 none) = some v4) ∧
 (World.frozen? W20 (.mk k11 0 none) = false ∧
 (∀ W21 : World, (W21 = World.setCell W20 (.mk k11 0 none) (Value.iface 219 (Value.slice p3 k12 k13)) →
 Q (.returned (.tuple #[.pointer (some (Addr.mk k11 0 none)), .nilIface])) W21)))))))))))))
 (Sx.split (z17 == 3)
 ((∃ z19 : Int, (World.cell? W19 (.mk k (0 + 1) none) = some (.int .i64 z19) ∧
 Calls Tryz.prog 70 #[.int .i64 z19] W19 (fun e9 =>
 (fun W22 =>
 (∃ p4 : Option Addr, (∃ k14 : Nat, (∃ k15 : Nat, (e9 = .returned (.slice p4 k14 k15) ∧
 (∀ vs5 : Array Value, (vs5 = #[.slice p4 k14 k15] →
 ((∃ v5 : Value, World.cell? W22 (.mk k11 0 none) = some v5) ∧
 (World.frozen? W22 (.mk k11 0 none) = false ∧
 (∀ W23 : World, (W23 = World.setCell W22 (.mk k11 0 none) (Value.iface 222 (Value.agg vs5)) →
 Q (.returned (.tuple #[.pointer (some (Addr.mk k11 0 none)), .nilIface])) W23)))))))))))))))
 ((∃ z20 : Int, (World.cell? W19 (.mk k 0 none) = some (.int .i64 z20) ∧
 (∀ vs6 : Array Value, (vs6 = #[.bool (z20 == 1)] →
 ((∃ v6 : Value, World.cell? W19 (.mk k11 0 none) = some v6) ∧
 (World.frozen? W19 (.mk k11 0 none) = false ∧
 (∀ W24 : World, (W24 = World.setCell W19 (.mk k11 0 none) (Value.iface 224 (Value.agg vs6)) →
 Q (.returned (.tuple #[.pointer (some (Addr.mk k11 0 none)), .nilIface])) W24)))))))))))))))))))))))))))))))))))))))))))))))))))))))))))))))))))))))))))))))))))))))))) :
 Calls Tryz.prog 47 #[.agg arg0] W Q :=
 Sx.sound Tryz.func47 (.node [] [] 0 .leaf (.node [] [] 0 .leaf (.node [] [] 0 (.node [] [] 1015 .leaf .leaf) .leaf))) [Value.agg arg0] rfl (Eq.mp (by kernel_rfl) hVC)
theorem vc69 {W : World} {Q : Ending → World → Prop} (n : Int) (lo : Int) (hi : Int)
 (hVC :
 Sx.split (decide (n ≥ lo))
 (Q (.returned (.bool (decide (n ≤ hi)))) W)
 (Q (.returned (.bool false)) W)) :
 Calls Tryz.prog 69 #[.int .i64 n, .int .i64 lo, .int .i64 hi] W Q :=
 Sx.sound Tryz.func69 .leaf [Value.int .i64 n, .int .i64 lo, .int .i64 hi] rfl (Eq.mp (by kernel_rfl) hVC)
theorem vc178 {W : World} {Q : Ending → World → Prop} (arg0 : Nat) (arg0o : Nat) (arg1 : Int) (arg2 : Array Value)
 (hVC :
 (∀ k : Nat, (∀ W2 : World, (k = Array.size (World.heap W) →
 (W2 = World.alloc W (Obj.cells (Value.cells (Value.agg arg2)) 238) →
 (∀ k2 : Nat, (∀ W3 : World, (k2 = Array.size (World.heap W2) →
 (W3 = World.alloc W2 (Obj.cells #[.int .i64 0, .int .i64 0, .int .u32 0] 241) →
 (∀ W4 : World, (W4 = World.drew W3 →
 (∃ z : Int, (World.cell? W4 (.mk arg0 (arg0o + 1) none) = some (.int .i64 z) ∧
 (∃ z2 : Int, (World.cell? W4 (.mk arg0 (arg0o + 5) none) = some (.int .i64 z2) ∧
 (∃ p : Option Addr, (∃ k3 : Nat, (∃ k4 : Nat, (World.cell? W4 (.mk arg0 (arg0o + 4) none) = some (.slice p k3 k4) ∧
 (∃ z3 : Int, (World.cell? W4 (.mk arg0 (arg0o + 5) none) = some (.int .i64 z3) ∧
 (((0 : Int) ≤ z3 ∧
 z3 < (↑k3 : Int)) ∧
 Sx.adr p (fun k5 =>
 (fun k6 =>
 (∃ z4 : Int, (World.cell? W4 (.mk k5 (k6 + Int.toNat z3 * 1) none) = some (.int .u32 z4) ∧
 (∀ vs : Array Value, (vs = #[.int .i64 z, .int .i64 z2, .int .u32 z4] →
 (∀ k7 : Nat, (∀ W5 : World, (k7 = Array.size (World.heap W4) →
 (W5 = World.alloc W4 (Obj.cells #[.int .i64 0, .int .i64 0, .int .u32 0] 241) →
 (RowKit.Below (Array.size (World.heap W4)) W4 W5 ∧
 (Array.size vs = 3 ∧
 ((∀ k8 : Nat, (k8 < 3 →
 ((∃ v : Value, World.cell? W5 (.mk k7 (0 + k8) none) = some v) ∧
 World.frozen? W5 (.mk k7 (0 + k8) none) = false))) ∧
 ((∀ v2 : Value, (v2 ∈ Array.toList vs →
 Value.oneCell' v2 = true)) ∧
 (∀ W6 : World, (W6 = World.setCells W5 k7 0 (Array.toList vs) →
 (∀ z5 : Int, (z5 = IntKind.wrap .u32 (arg1 + 4) →
 (∃ I : Bool → Int → World → Prop, ((∃ z6 : Int, (World.cell? W6 (.mk k 0 none) = some (.int .i64 z6) ∧
 Calls Tryz.prog 188 #[.int .i64 z6] W6 (fun e =>
 (fun W7 =>
 (∃ z7 : Int, (e = .returned (.int .i64 z7) ∧
 Sx.split (z7 == 2)
 ((∀ W8 : World, (W8 = World.drew W7 →
 (∃ v3 : Value, (World.cell? W8 (.mk arg0 arg0o none) = some v3 ∧
 (∃ vs2 : Array Value, (Array.size vs2 = 5 ∧
 (Sx.cellsAt W8 (.mk k 0 none) vs2 ∧
 (∃ z8 : Int, (World.cell? W8 (.mk arg0 (arg0o + 1) none) = some (.int .i64 z8) ∧
 Sx.notNil v3 (fun v4 =>
 (∃ u : FuncId, (∃ vs3 : Array Value, (Sx.meth Tryz.prog v3 "oocore/predict.guess" #[.int .u32 arg1, .agg vs2, .int .i64 z8] W8 u vs3 ∧
 Calls Tryz.prog u vs3 W8 (fun e2 =>
 (fun W9 =>
 (∃ t : Bool, (e2 = .returned (.bool t) ∧
 Sx.split t
 ((∃ z9 : Int, (World.cell? W9 (.mk k (0 + 4) none) = some (.int .i64 z9) ∧
 (∀ z10 : Int, (z10 = IntKind.wrap .u32 z9 →
 (∀ z11 : Int, (z11 = IntKind.wrap .u32 (arg1 + z10) →
 I t z11 W9)))))))
 (I t z5 W9)))))))))))))))))))
 ((∃ z12 : Int, (World.cell? W7 (.mk k 0 none) = some (.int .i64 z12) ∧
 Sx.split (z12 == 3)
 ((∃ z13 : Int, (World.cell? W7 (.mk k (0 + 4) none) = some (.int .i64 z13) ∧
 (∀ z14 : Int, (z14 = IntKind.wrap .u32 z13 →
 (∀ z15 : Int, (z15 = IntKind.wrap .u32 (arg1 + z14) →
 I false z15 W7)))))))
 ((∃ vs4 : Array Value, (Array.size vs4 = 5 ∧
 (Sx.cellsAt W7 (.mk k 0 none) vs4 ∧
 Calls Tryz.prog 189 #[.agg vs4] W7 (fun e3 =>
 (fun W10 =>
 (∃ t2 : Bool, (e3 = .returned (.bool t2) ∧
 Sx.split t2
 ((∃ z16 : Int, (World.cell? W10 (.mk k7 (0 + 2) none) = some (.int .u32 z16) ∧
 I false z16 W10)))
 ((∃ z17 : Int, (World.cell? W10 (.mk k 0 none) = some (.int .i64 z17) ∧
 Sx.split (z17 == 4)
 (Calls Tryz.prog 201 #[.pointer (some (Addr.mk arg0 arg0o none)), .int .u32 arg1] W10 (fun e4 =>
 (fun W11 =>
 (∃ p2 : Option Addr, (e4 = .returned (.pointer p2) ∧
 Sx.ptr p2 (fun a =>
 (∃ t3 : Bool, (World.cell? W11 (Addr.add a 2) = some (.bool t3) ∧
 Sx.split t3
 (Sx.ptr p2 (fun a2 =>
 (∃ z18 : Int, (World.cell? W11 (Addr.add a2 0) = some (.int .u32 z18) ∧
 Sx.split (z18 == arg1)
 (Sx.ptr p2 (fun a3 =>
 (∃ z19 : Int, (World.cell? W11 (Addr.add a3 1) = some (.int .u32 z19) ∧
 I false z19 W11))))
 (I false z5 W11)))))
 (I false z5 W11)))))))))
 (I false z5 W10))))))))))))))))))))) ∧
 ((Nat → Value) →
 (∀ x : Bool, (∀ x2 : Int, (∀ W12 : World, (I x x2 W12 →
 (∃ vs5 : Array Value, (Array.size vs5 = 5 ∧
 (Sx.cellsAt W12 (.mk k 0 none) vs5 ∧
 Calls Tryz.prog 143 #[.pointer (some (Addr.mk arg0 arg0o none)), .int .u32 arg1, .agg vs5, .bool x] W12 (fun e5 =>
 (fun W13 =>
 (e5 = .returned (.tuple #[]) ∧
 (∀ W14 : World, (W14 = World.drew W13 →
 (∃ vs6 : Array Value, (Array.size vs6 = 3 ∧
 (Sx.cellsAt W14 (.mk k7 0 none) vs6 ∧
 (Array.size vs6 = 3 ∧
 ((∀ k9 : Nat, (k9 < 3 →
 ((∃ v5 : Value, World.cell? W14 (.mk k2 (0 + k9) none) = some v5) ∧
 World.frozen? W14 (.mk k2 (0 + k9) none) = false))) ∧
 ((∀ v6 : Value, (v6 ∈ Array.toList vs6 →
 Value.oneCell' v6 = true)) ∧
 (∀ W15 : World, (W15 = World.setCells W14 k2 0 (Array.toList vs6) →
 (∃ vs7 : Array Value, (Array.size vs7 = 3 ∧
 (Sx.cellsAt W15 (.mk k2 0 none) vs7 ∧
 Q (.returned (.tuple #[.int .u32 x2, .agg vs7])) W15)))))))))))))))))))))))))))))))))))))))))))))))))))))))))))))))))) :
 Calls Tryz.prog 178 #[.pointer (some ⟨arg0, arg0o, none⟩), .int .u32 arg1, .agg arg2] W Q :=
 Sx.sound Tryz.func178 (.node [] [] 0 .leaf (.node [] [] 0 (.node [] [] 1021 .leaf .leaf) (.node [] [] 0 .leaf (.node [(10, .bool), (9, .int .u32)] [0, 1, 5, 8, 7] 1 (.node [] [] 0 .leaf (.node [] [] 0 (.node [] [] 0 .leaf (.node [] [] 0 (.node [] [] 0 (.node [] [] 13 .leaf .leaf) .leaf) .leaf)) .leaf)) (.node [] [] 0 .leaf (.node [] [] 0 (.node [] [] 4 .leaf .leaf) .leaf)))))) [Value.pointer (some ⟨arg0, arg0o, none⟩), .int .u32 arg1, .agg arg2] rfl (Eq.mp (by kernel_rfl) hVC)
theorem vc108 {W : World} {Q : Ending → World → Prop} (p : Nat) (po : Nat) (m : Array Value) (pc : Int) (i : Array Value) (taken : Bool)
 (hVC :
 (∀ k : Nat, (∀ W2 : World, (k = Array.size (World.heap W) →
 (W2 = World.alloc W (Obj.cells (Value.cells (Value.agg m)) 241) →
 (∀ k2 : Nat, (∀ W3 : World, (k2 = Array.size (World.heap W2) →
 (W3 = World.alloc W2 (Obj.cells (Value.cells (Value.agg i)) 238) →
 (∃ vs : Array Value, (Array.size vs = 3 ∧
 (Sx.cellsAt W3 (.mk k 0 none) vs ∧
 Calls Tryz.prog 142 #[.pointer (some (Addr.mk p po none)), .agg vs] W3 (fun e =>
 (fun W4 =>
 (∃ t : Bool, (e = .returned (.bool t) ∧
 Sx.split (!t)
 (Q (.returned (.tuple #[])) W4)
 ((∀ W5 : World, (W5 = World.drew W4 →
 (∃ z : Int, (World.cell? W5 (.mk k 0 none) = some (.int .i64 z) ∧
 ((∃ z2 : Int, (World.cell? W5 (.mk k (0 + 1) none) = some (.int .i64 z2) ∧
 (RowKit.Below (Array.size (World.heap W5)) W5 W5 ∧
 ((∃ v : Value, World.cell? W5 (.mk p (po + 1) none) = some v) ∧
 (World.frozen? W5 (.mk p (po + 1) none) = false ∧
 (∀ W6 : World, (W6 = World.setCell W5 (.mk p (po + 1) none) (Value.int .i64 z) →
 ((∃ v2 : Value, World.cell? W6 (.mk p (po + 5) none) = some v2) ∧
 (World.frozen? W6 (.mk p (po + 5) none) = false ∧
 (∀ W7 : World, (W7 = World.setCell W6 (.mk p (po + 5) none) (Value.int .i64 z2) →
 (∀ W8 : World, (W8 = World.drew W7 →
 (∃ p2 : Option Addr, (∃ k3 : Nat, (∃ k4 : Nat, (World.cell? W8 (.mk p (po + 4) none) = some (.slice p2 k3 k4) ∧
 (∃ z3 : Int, (World.cell? W8 (.mk p (po + 5) none) = some (.int .i64 z3) ∧
 (∃ z4 : Int, (World.cell? W8 (.mk k (0 + 2) none) = some (.int .u32 z4) ∧
 (((0 : Int) ≤ z3 ∧
 z3 < (↑k3 : Int)) ∧
 Sx.adr p2 (fun k5 =>
 (fun k6 =>
 ((∃ v3 : Value, World.cell? W8 (.mk k5 (k6 + Int.toNat z3 * 1) none) = some v3) ∧
 (World.frozen? W8 (.mk k5 (k6 + Int.toNat z3 * 1) none) = false ∧
 (∀ W9 : World, (W9 = World.setCell W8 (.mk k5 (k6 + Int.toNat z3 * 1) none) (Value.int .u32 z4) →
 (∃ vs2 : Array Value, (Array.size vs2 = 5 ∧
 (Sx.cellsAt W9 (.mk k2 0 none) vs2 ∧
 Calls Tryz.prog 143 #[.pointer (some (Addr.mk p po none)), .int .u32 pc, .agg vs2, .bool taken] W9 (fun e2 =>
 (fun W10 =>
 (e2 = .returned (.tuple #[]) ∧
 Q (.returned (.tuple #[])) W10)))))))))))))))))))))))))))))))))) ∧
 ((∃ v4 : Value, World.cell? W5 (.mk p (po + 1) none) = some v4) ∧
 (World.frozen? W5 (.mk p (po + 1) none) = false ∧
 (∀ W11 : World, (W11 = World.setCell W5 (.mk p (po + 1) none) (Value.int .i64 z) →
 (∃ z5 : Int, (World.cell? W11 (.mk k (0 + 1) none) = some (.int .i64 z5) ∧
 ((∃ v5 : Value, World.cell? W11 (.mk p (po + 5) none) = some v5) ∧
 (World.frozen? W11 (.mk p (po + 5) none) = false ∧
 (∀ W12 : World, (W12 = World.setCell W11 (.mk p (po + 5) none) (Value.int .i64 z5) →
 (∀ W13 : World, (W13 = World.drew W12 →
 (∃ p3 : Option Addr, (∃ k7 : Nat, (∃ k8 : Nat, (World.cell? W13 (.mk p (po + 4) none) = some (.slice p3 k7 k8) ∧
 (∃ z6 : Int, (World.cell? W13 (.mk p (po + 5) none) = some (.int .i64 z6) ∧
 (∃ z7 : Int, (World.cell? W13 (.mk k (0 + 2) none) = some (.int .u32 z7) ∧
 (((0 : Int) ≤ z6 ∧
 z6 < (↑k7 : Int)) ∧
 Sx.adr p3 (fun k9 =>
 (fun k10 =>
 ((∃ v6 : Value, World.cell? W13 (.mk k9 (k10 + Int.toNat z6 * 1) none) = some v6) ∧
 (World.frozen? W13 (.mk k9 (k10 + Int.toNat z6 * 1) none) = false ∧
 (∀ W14 : World, (W14 = World.setCell W13 (.mk k9 (k10 + Int.toNat z6 * 1) none) (Value.int .u32 z7) →
 (∃ vs3 : Array Value, (Array.size vs3 = 5 ∧
 (Sx.cellsAt W14 (.mk k2 0 none) vs3 ∧
 Calls Tryz.prog 143 #[.pointer (some (Addr.mk p po none)), .int .u32 pc, .agg vs3, .bool taken] W14 (fun e3 =>
 (fun W15 =>
 (e3 = .returned (.tuple #[]) ∧
 Q (.returned (.tuple #[])) W15))))))))))))))))))))))))))))))))))))))))))))))))))))))) :
 Calls Tryz.prog 108 #[.pointer (some ⟨p, po, none⟩), .agg m, .int .u32 pc, .agg i, .bool taken] W Q :=
 Sx.sound Tryz.func108 (.node [] [] 0 .leaf (.node [] [] 0 .leaf (.node [] [] 0 (.node [] [] 1009 .leaf .leaf) (.node [] [] 0 (.node [] [] 12 .leaf .leaf) .leaf)))) [Value.pointer (some ⟨p, po, none⟩), .agg m, .int .u32 pc, .agg i, .bool taken] rfl (Eq.mp (by kernel_rfl) hVC)
theorem vc143 {W : World} {Q : Ending → World → Prop} (arg0 : Nat) (arg0o : Nat) (arg1 : Int) (arg2 : Array Value) (arg3 : Bool)
 (hVC :
 (∀ k : Nat, (∀ W2 : World, (k = Array.size (World.heap W) →
 (W2 = World.alloc W (Obj.cells (Value.cells (Value.agg arg2)) 238) →
 (∃ p : Option Addr, (∃ k2 : Nat, (∃ k3 : Nat, (World.cell? W2 (.mk arg0 (arg0o + 4) none) = some (.slice p k2 k3) ∧
 (∃ z : Int, (World.cell? W2 (.mk k 0 none) = some (.int .i64 z) ∧
 Calls Tryz.prog 188 #[.int .i64 z] W2 (fun e =>
 (fun W3 =>
 (∃ z2 : Int, (e = .returned (.int .i64 z2) ∧
 Sx.split (z2 == 2)
 ((∃ z3 : Int, (World.cell? W3 (.mk arg0 (arg0o + 1) none) = some (.int .i64 z3) ∧
 ((0 : Int) ≤ (1 : Int) ∧
 (∀ z4 : Int, (z4 = IntKind.wrap .i64 (z3 * 2 ^ min 1 (IntKind.bits .i64)) →
 ((∃ v : Value, World.cell? W3 (.mk arg0 (arg0o + 1) none) = some v) ∧
 (World.frozen? W3 (.mk arg0 (arg0o + 1) none) = false ∧
 (∀ W4 : World, (W4 = World.setCell W3 (.mk arg0 (arg0o + 1) none) (Value.int .i64 z4) →
 Sx.split arg3
 ((∃ z5 : Int, (World.cell? W4 (.mk arg0 (arg0o + 1) none) = some (.int .i64 z5) ∧
 (∀ z6 : Int, (z6 = IntKind.wrap .i64 (↑(BitVec.toNat (BitVec.ofInt (IntKind.bits .i64) z5 ||| BitVec.ofInt (IntKind.bits .i64) 1)) : Int) →
 ((∃ v2 : Value, World.cell? W4 (.mk arg0 (arg0o + 1) none) = some v2) ∧
 (World.frozen? W4 (.mk arg0 (arg0o + 1) none) = false ∧
 (∀ W5 : World, (W5 = World.setCell W4 (.mk arg0 (arg0o + 1) none) (Value.int .i64 z6) →
 (∀ W6 : World, (W6 = World.drew W5 →
 (∃ z7 : Int, (World.cell? W6 (.mk arg0 (arg0o + 1) none) = some (.int .i64 z7) ∧
 (∃ z8 : Int, (World.cell? W6 (.mk arg0 (arg0o + 2) none) = some (.int .i64 z8) ∧
 (∀ z9 : Int, (z9 = IntKind.wrap .i64 (↑(BitVec.toNat (BitVec.ofInt (IntKind.bits .i64) z7 &&& BitVec.ofInt (IntKind.bits .i64) z8)) : Int) →
 ((∃ v3 : Value, World.cell? W6 (.mk arg0 (arg0o + 1) none) = some v3) ∧
 (World.frozen? W6 (.mk arg0 (arg0o + 1) none) = false ∧
 (∀ W7 : World, (W7 = World.setCell W6 (.mk arg0 (arg0o + 1) none) (Value.int .i64 z9) →
 Q (.returned (.tuple #[])) W7)))))))))))))))))))))
 ((∀ W8 : World, (W8 = World.drew W4 →
 (∃ z10 : Int, (World.cell? W8 (.mk arg0 (arg0o + 1) none) = some (.int .i64 z10) ∧
 (∃ z11 : Int, (World.cell? W8 (.mk arg0 (arg0o + 2) none) = some (.int .i64 z11) ∧
 (∀ z12 : Int, (z12 = IntKind.wrap .i64 (↑(BitVec.toNat (BitVec.ofInt (IntKind.bits .i64) z10 &&& BitVec.ofInt (IntKind.bits .i64) z11)) : Int) →
 ((∃ v4 : Value, World.cell? W8 (.mk arg0 (arg0o + 1) none) = some v4) ∧
 (World.frozen? W8 (.mk arg0 (arg0o + 1) none) = false ∧
 (∀ W9 : World, (W9 = World.setCell W8 (.mk arg0 (arg0o + 1) none) (Value.int .i64 z12) →
 Q (.returned (.tuple #[])) W9)))))))))))))))))))))))
 ((∃ vs : Array Value, (Array.size vs = 5 ∧
 (Sx.cellsAt W3 (.mk k 0 none) vs ∧
 Calls Tryz.prog 189 #[.agg vs] W3 (fun e2 =>
 (fun W10 =>
 (∃ t : Bool, (e2 = .returned (.bool t) ∧
 Sx.split t
 ((∃ z13 : Int, (World.cell? W10 (.mk arg0 (arg0o + 5) none) = some (.int .i64 z13) ∧
 (∀ z14 : Int, (z14 = IntKind.wrap .i64 (z13 + (↑k2 : Int)) →
 (∀ z15 : Int, (z15 = IntKind.wrap .i64 (z14 - 1) →
 ((↑k2 : Int) ≠ 0 ∧
 (∀ z16 : Int, (z16 = Int.tmod z15 (↑k2 : Int) →
 ((∃ v5 : Value, World.cell? W10 (.mk arg0 (arg0o + 5) none) = some v5) ∧
 (World.frozen? W10 (.mk arg0 (arg0o + 5) none) = false ∧
 (∀ W11 : World, (W11 = World.setCell W10 (.mk arg0 (arg0o + 5) none) (Value.int .i64 z16) →
 Q (.returned (.tuple #[])) W11))))))))))))))
 ((∃ vs2 : Array Value, (Array.size vs2 = 5 ∧
 (Sx.cellsAt W10 (.mk k 0 none) vs2 ∧
 Calls Tryz.prog 190 #[.agg vs2] W10 (fun e3 =>
 (fun W12 =>
 (∃ t2 : Bool, (e3 = .returned (.bool t2) ∧
 Sx.split t2
 ((∃ z17 : Int, (World.cell? W12 (.mk arg0 (arg0o + 5) none) = some (.int .i64 z17) ∧
 (∀ z18 : Int, (z18 = IntKind.wrap .i64 (z17 + 1) →
 ((↑k2 : Int) ≠ 0 ∧
 (∀ z19 : Int, (z19 = Int.tmod z18 (↑k2 : Int) →
 ((∃ v6 : Value, World.cell? W12 (.mk arg0 (arg0o + 5) none) = some v6) ∧
 (World.frozen? W12 (.mk arg0 (arg0o + 5) none) = false ∧
 (∀ W13 : World, (W13 = World.setCell W12 (.mk arg0 (arg0o + 5) none) (Value.int .i64 z19) →
 (∀ W14 : World, (W14 = World.drew W13 →
 (∃ p2 : Option Addr, (∃ k4 : Nat, (∃ k5 : Nat, (World.cell? W14 (.mk arg0 (arg0o + 4) none) = some (.slice p2 k4 k5) ∧
 (∃ z20 : Int, (World.cell? W14 (.mk arg0 (arg0o + 5) none) = some (.int .i64 z20) ∧
 (∀ z21 : Int, (z21 = IntKind.wrap .u32 (arg1 + 4) →
 (((0 : Int) ≤ z20 ∧
 z20 < (↑k4 : Int)) ∧
 Sx.adr p2 (fun k6 =>
 (fun k7 =>
 ((∃ v7 : Value, World.cell? W14 (.mk k6 (k7 + Int.toNat z20 * 1) none) = some v7) ∧
 (World.frozen? W14 (.mk k6 (k7 + Int.toNat z20 * 1) none) = false ∧
 (∀ W15 : World, (W15 = World.setCell W14 (.mk k6 (k7 + Int.toNat z20 * 1) none) (Value.int .u32 z21) →
 Q (.returned (.tuple #[])) W15)))))))))))))))))))))))))))))
 (Q (.returned (.tuple #[])) W12)))))))))))))))))))))))))))))))) :
 Calls Tryz.prog 143 #[.pointer (some ⟨arg0, arg0o, none⟩), .int .u32 arg1, .agg arg2, .bool arg3] W Q :=
 Sx.sound Tryz.func143 (.node [] [] 0 .leaf (.node [] [] 0 .leaf (.node [] [] 0 (.node [] [] 0 .leaf (.node [] [] 0 (.node [] [] 0 .leaf (.node [] [] 0 .leaf (.node [] [] 12 .leaf .leaf))) (.node [] [] 0 .leaf (.node [] [] 0 .leaf (.node [] [] 0 .leaf (.node [] [] 0 (.node [] [] 0 .leaf (.node [] [] 12 .leaf .leaf)) .leaf)))))) .leaf))) [Value.pointer (some ⟨arg0, arg0o, none⟩), .int .u32 arg1, .agg arg2, .bool arg3] rfl (Eq.mp (by kernel_rfl) hVC)
theorem vc142 {W : World} {Q : Ending → World → Prop} (p : Nat) (po : Nat) (m : Array Value)
 (hVC :
 (∀ k : Nat, (∀ W2 : World, (k = Array.size (World.heap W) →
 (W2 = World.alloc W (Obj.cells (Value.cells (Value.agg m)) 241) →
 (∃ z : Int, (World.cell? W2 (.mk k 0 none) = some (.int .i64 z) ∧
 (∃ z2 : Int, (World.cell? W2 (.mk p (po + 2) none) = some (.int .i64 z2) ∧
 (∃ t : Bool, ((∀ k2 : Nat, Calls Tryz.prog 69 #[.int .i64 z, .int .i64 0, .int .i64 z2] (World.drewN W2 k2) (fun e =>
 (fun W3 =>
 (e = .returned (.bool t) ∧
 (∃ k3 : Nat, W3 = World.drewN W2 k3))))) ∧
 Sx.split t
 ((∃ z3 : Int, (World.cell? W2 (.mk k (0 + 1) none) = some (.int .i64 z3) ∧
 (∃ p2 : Option Addr, (∃ k4 : Nat, (∃ k5 : Nat, (World.cell? W2 (.mk p (po + 4) none) = some (.slice p2 k4 k5) ∧
 (∀ z4 : Int, (z4 = IntKind.wrap .i64 ((↑k4 : Int) - 1) →
 (∃ t2 : Bool, ((∀ k6 : Nat, Calls Tryz.prog 69 #[.int .i64 z3, .int .i64 0, .int .i64 z4] (World.drewN W2 k6) (fun e2 =>
 (fun W4 =>
 (e2 = .returned (.bool t2) ∧
 (∃ k7 : Nat, W4 = World.drewN W2 k7))))) ∧
 (∀ W5 : World, (∀ k8 : Nat, (W5 = World.drewN W2 k8 →
 Q (.returned (.bool t2)) W5))))))))))))))
 ((∀ W6 : World, (∀ k9 : Nat, (W6 = World.drewN W2 k9 →
 Q (.returned (.bool false)) W6))))))))))))))) :
 Calls Tryz.prog 142 #[.pointer (some ⟨p, po, none⟩), .agg m] W Q :=
 Sx.sound Tryz.func142 .leaf [Value.pointer (some ⟨p, po, none⟩), .agg m] rfl (Eq.mp (by kernel_rfl) hVC)
theorem vc189 {W : World} {Q : Ending → World → Prop} (i : Array Value)
 (hVC :
 (∀ k : Nat, (∀ W2 : World, (k = Array.size (World.heap W) →
 (W2 = World.alloc W (Obj.cells (Value.cells (Value.agg i)) 238) →
 (∃ z : Int, (World.cell? W2 (.mk k 0 none) = some (.int .i64 z) ∧
 Sx.split (z == 4)
 ((∃ z2 : Int, (World.cell? W2 (.mk k (0 + 2) none) = some (.int .i64 z2) ∧
 Sx.split (z2 == 1)
 ((∃ z3 : Int, (World.cell? W2 (.mk k (0 + 1) none) = some (.int .i64 z3) ∧
 Q (.returned (.bool (z3 == 0))) W2)))
 (Q (.returned (.bool false)) W2))))
 (Q (.returned (.bool false)) W2)))))))) :
 Calls Tryz.prog 189 #[.agg i] W Q :=
 Sx.sound Tryz.func189 .leaf [Value.agg i] rfl (Eq.mp (by kernel_rfl) hVC)
theorem vc190 {W : World} {Q : Ending → World → Prop} (i : Array Value)
 (hVC :
 (∀ k : Nat, (∀ W2 : World, (k = Array.size (World.heap W) →
 (W2 = World.alloc W (Obj.cells (Value.cells (Value.agg i)) 238) →
 (∃ z : Int, (World.cell? W2 (.mk k 0 none) = some (.int .i64 z) ∧
 Calls Tryz.prog 188 #[.int .i64 z] W2 (fun e =>
 (fun W3 =>
 (∃ z2 : Int, (e = .returned (.int .i64 z2) ∧
 Sx.split (z2 == 3)
 ((∃ z3 : Int, (World.cell? W3 (.mk k (0 + 1) none) = some (.int .i64 z3) ∧
 Q (.returned (.bool (z3 == 1))) W3)))
 (Q (.returned (.bool false)) W3)))))))))))) :
 Calls Tryz.prog 190 #[.agg i] W Q :=
 Sx.sound Tryz.func190 .leaf [Value.agg i] rfl (Eq.mp (by kernel_rfl) hVC)
theorem vc70 {W : World} {Q : Ending → World → Prop} (bits : Int)
 (hVC :
 ((0 : Int) ≤ bits ∧
 (∀ z : Int, (z = IntKind.wrap .i64 (1 * 2 ^ min (Int.toNat bits) (IntKind.bits .i64)) →
 (((0 : Int) ≤ z ∧
 (z ≤ z ∧
 (z ≤ 9223372036854775807 ∧
 (↑1 : Int) * z ≤ 281474976710656))) ∧
 (∀ k : Nat, (∀ W2 : World, (k = Array.size (World.heap W) →
 (W2 = World.alloc W (Obj.cells (madeCells #[.int .u8 0] (Int.toNat z * 1)) 264) →
 (∃ I : Int → World → Prop, (∃ I2 : Int → World → Nat, (I 0 W2 ∧
 ((Nat → Value) →
 (∀ x : Int, (∀ W3 : World, (I x W3 →
 Sx.split (decide (x < (↑(Int.toNat z) : Int)))
 ((((0 : Int) ≤ x ∧
 x < (↑(Int.toNat z) : Int)) ∧
 ((∃ v : Value, World.cell? W3 (.mk k (0 + Int.toNat x * 1) none) = some v) ∧
 (World.frozen? W3 (.mk k (0 + Int.toNat x * 1) none) = false ∧
 (∀ W4 : World, (W4 = World.setCell W3 (.mk k (0 + Int.toNat x * 1) none) (Value.int .u8 1) →
 (∀ z2 : Int, (z2 = IntKind.wrap .i64 (x + 1) →
 (I z2 W4 ∧
 I2 z2 W4 < I2 x W3)))))))))
 (Q (.returned (.slice (some (Addr.mk k 0 none)) (Int.toNat z) (Int.toNat z))) W3))))))))))))))))) :
 Calls Tryz.prog 70 #[.int .i64 bits] W Q :=
 Sx.sound Tryz.func70 (.node [] [] 0 .leaf (.node [] [] 0 .leaf (.node [] [] 0 (.node [] [] 0 .leaf (.node [] [] 0 (.node [(10, .int .i64)] [9, 3] 0 .leaf .leaf) .leaf)) .leaf))) [Value.int .i64 bits] rfl (Eq.mp (by kernel_rfl) hVC)
end Go.Proofs.YthacioiefgabbaaGreatDoor
