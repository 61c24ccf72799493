/- What each function asks, reckoned out of its text; printed by a program of mine (wip/tpl/VcTool.lean). No condition. -/
import Derived.Test.YthacioiefgabbaaGreatDoorSxB
import Derived.Test.YthacioiefgabbaaGreatDoorChecked
namespace Go.Proofs.YthacioiefgabbaaGreatDoor
open Go Go.Proofs
set_option linter.unusedVariables false
set_option maxRecDepth 100000
theorem vc44 {W : World} {Q : Ending → World → Prop} (size : Int) (registers : Int)
 (hVC :
 Sx.split (decide (size < 2))
 (Q (.returned (.tuple #[.pointer none, .iface 33 (Value.int .i64 2)])) W)
 (Sx.split (decide (size > 64))
 (Q (.returned (.tuple #[.pointer none, .iface 33 (Value.int .i64 2)])) W)
 (Sx.split (decide (registers < 34))
 (Q (.returned (.tuple #[.pointer none, .iface 33 (Value.int .i64 2)])) W)
 (Sx.split (decide (registers > 128))
 (Q (.returned (.tuple #[.pointer none, .iface 33 (Value.int .i64 2)])) W)
 ((∀ W2 : World, (W2 = World.drew W →
 ((((0 : Int) ≤ size ∧
 (size ≤ size ∧
 (size ≤ 9223372036854775807 ∧
 (↑48 : Int) * size ≤ 281474976710656))) ∧
 (∀ k : Nat, (∀ W3 : World, (k = Array.size (World.heap W2) →
 (W3 = World.alloc W2 (Obj.cells (madeCells #[.int .i64 0, .int .i64 0, .int .i64 0, .int .i64 0, .int .u8 0, .int .i64 0] (Int.toNat size * 6)) 320) →
 (RowKit.Below (Array.size (World.heap W2)) W2 W3 ∧
 (∀ k2 : Nat, (∀ W4 : World, (k2 = Array.size (World.heap W3) →
 (W4 = World.alloc W3 (Obj.cells #[.bool true] 4) →
 (RowKit.Below (Array.size (World.heap W2)) W2 W4 ∧
 Calls Tryz.prog 68 #[.slice (some (Addr.mk k2 0 none)) 1 1, .int .i64 registers] W4 (fun e =>
 (fun W5 =>
 (∃ p : Option Addr, (∃ k3 : Nat, (∃ k4 : Nat, (e = .returned (.slice p k3 k4) ∧
 (∀ vs : Array Value, (vs = #[.slice (some (Addr.mk k 0 none)) (Int.toNat size) (Int.toNat size), .int .i64 0, .int .i64 0, .int .i64 0, .slice p k3 k4] →
 (∀ k5 : Nat, (∀ W6 : World, (k5 = Array.size (World.heap W5) →
 (W6 = World.alloc W5 (Obj.cells (Value.cells (Value.agg vs)) 204) →
 Q (.returned (.tuple #[.pointer (some (Addr.mk k5 0 none)), .nilIface])) W6))))))))))))))))))))))) ∧
 (∀ k6 : Nat, (∀ W7 : World, (k6 = Array.size (World.heap W2) →
 (W7 = World.alloc W2 (Obj.cells #[.bool true] 4) →
 (RowKit.Below (Array.size (World.heap W2)) W2 W7 ∧
 ((((0 : Int) ≤ size ∧
 (size ≤ size ∧
 (size ≤ 9223372036854775807 ∧
 (↑48 : Int) * size ≤ 281474976710656))) ∧
 (∀ k7 : Nat, (∀ W8 : World, (k7 = Array.size (World.heap W7) →
 (W8 = World.alloc W7 (Obj.cells (madeCells #[.int .i64 0, .int .i64 0, .int .i64 0, .int .i64 0, .int .u8 0, .int .i64 0] (Int.toNat size * 6)) 320) →
 (RowKit.Below (Array.size (World.heap W2)) W2 W8 ∧
 Calls Tryz.prog 68 #[.slice (some (Addr.mk k6 0 none)) 1 1, .int .i64 registers] W8 (fun e2 =>
 (fun W9 =>
 (∃ p2 : Option Addr, (∃ k8 : Nat, (∃ k9 : Nat, (e2 = .returned (.slice p2 k8 k9) ∧
 (∀ vs2 : Array Value, (vs2 = #[.slice (some (Addr.mk k7 0 none)) (Int.toNat size) (Int.toNat size), .int .i64 0, .int .i64 0, .int .i64 0, .slice p2 k8 k9] →
 (∀ k10 : Nat, (∀ W10 : World, (k10 = Array.size (World.heap W9) →
 (W10 = World.alloc W9 (Obj.cells (Value.cells (Value.agg vs2)) 204) →
 Q (.returned (.tuple #[.pointer (some (Addr.mk k10 0 none)), .nilIface])) W10)))))))))))))))))) ∧
 Calls Tryz.prog 68 #[.slice (some (Addr.mk k6 0 none)) 1 1, .int .i64 registers] W7 (fun e3 =>
 (fun W11 =>
 (∃ p3 : Option Addr, (∃ k11 : Nat, (∃ k12 : Nat, (e3 = .returned (.slice p3 k11 k12) ∧
 (((0 : Int) ≤ size ∧
 (size ≤ size ∧
 (size ≤ 9223372036854775807 ∧
 (↑48 : Int) * size ≤ 281474976710656))) ∧
 (∀ k13 : Nat, (∀ W12 : World, (k13 = Array.size (World.heap W11) →
 (W12 = World.alloc W11 (Obj.cells (madeCells #[.int .i64 0, .int .i64 0, .int .i64 0, .int .i64 0, .int .u8 0, .int .i64 0] (Int.toNat size * 6)) 320) →
 (∀ vs3 : Array Value, (vs3 = #[.slice (some (Addr.mk k13 0 none)) (Int.toNat size) (Int.toNat size), .int .i64 0, .int .i64 0, .int .i64 0, .slice p3 k11 k12] →
 (∀ k14 : Nat, (∀ W13 : World, (k14 = Array.size (World.heap W12) →
 (W13 = World.alloc W12 (Obj.cells (Value.cells (Value.agg vs3)) 204) →
 Q (.returned (.tuple #[.pointer (some (Addr.mk k14 0 none)), .nilIface])) W13))))))))))))))))))))))))))))))) :
 Calls Tryz.prog 44 #[.int .i64 size, .int .i64 registers] W Q :=
 Sx.sound Tryz.func44 (.node [] [] 0 .leaf (.node [] [] 0 .leaf (.node [] [] 0 (.node [] [] 1005 .leaf .leaf) .leaf))) [Value.int .i64 size, .int .i64 registers] rfl (Eq.mp (by kernel_rfl) hVC)
theorem vc176 {W : World} {Q : Ending → World → Prop} (arg0 : Nat) (arg0o : Nat) (arg1 : Array Value)
 (hVC :
 (∀ k : Nat, (∀ W2 : World, (k = Array.size (World.heap W) →
 (W2 = World.alloc W (Obj.cells (Value.cells (Value.agg arg1)) 317) →
 (∃ z : Int, (World.cell? W2 (.mk k 0 none) = some (.int .i64 z) ∧
 Sx.split (decide (z < 0))
 (Q (.returned (.tuple #[.int .i64 0, .iface 33 (Value.int .i64 3)])) W2)
 ((∃ z2 : Int, (World.cell? W2 (.mk k 0 none) = some (.int .i64 z2) ∧
 Sx.split (decide (z2 > 7))
 (Q (.returned (.tuple #[.int .i64 0, .iface 33 (Value.int .i64 3)])) W2)
 ((∃ z3 : Int, (World.cell? W2 (.mk k (0 + 1) none) = some (.int .i64 z3) ∧
 (∃ z4 : Int, (World.cell? W2 (.mk k (0 + 2) none) = some (.int .i64 z4) ∧
 (∃ z5 : Int, (World.cell? W2 (.mk k (0 + 3) none) = some (.int .i64 z5) ∧
 (∀ k2 : Nat, (∀ W3 : World, (k2 = Array.size (World.heap W2) →
 (W3 = World.alloc W2 (Obj.cells #[.int .i64 z3, .int .i64 z4, .int .i64 z5] 3) →
 Calls Tryz.prog 187 #[.pointer (some (Addr.mk arg0 arg0o none)), .slice (some (Addr.mk k2 0 none)) 3 3] W3 (fun e =>
 (fun W4 =>
 (∃ t : Bool, (e = .returned (.bool t) ∧
 Sx.split (!t)
 (Q (.returned (.tuple #[.int .i64 0, .iface 33 (Value.int .i64 3)])) W4)
 ((∃ z6 : Int, (World.cell? W4 (.mk arg0 (arg0o + 2) none) = some (.int .i64 z6) ∧
 (∃ p : Option Addr, (∃ k3 : Nat, (∃ k4 : Nat, (World.cell? W4 (.mk arg0 arg0o none) = some (.slice p k3 k4) ∧
 (∀ W5 : World, (∀ k5 : Nat, (W5 = World.drewN W4 k5 →
 Sx.split (z6 == (↑k3 : Int))
 (Q (.returned (.tuple #[.int .i64 0, .iface 33 (Value.int .i64 4)])) W5)
 ((∀ W6 : World, (W6 = World.drew W5 →
 (∃ z7 : Int, (World.cell? W6 (.mk arg0 (arg0o + 2) none) = some (.int .i64 z7) ∧
 (∃ vs : Array Value, (Array.size vs = 4 ∧
 (Sx.cellsAt W6 (.mk k 0 none) vs ∧
 (∃ z8 : Int, (World.cell? W6 (.mk arg0 (arg0o + 3) none) = some (.int .i64 z8) ∧
 (Array.size vs = 4 ∧
 (∀ vs2 : Array Value, (vs2 = List.toArray (Array.toList vs ++ [Value.int .u8 0, .int .i64 z8]) →
 Calls Tryz.prog 193 #[.pointer (some (Addr.mk arg0 arg0o none)), .int .i64 z7] W6 (fun e2 =>
 (fun W7 =>
 (∃ p2 : Option Addr, (e2 = .returned (.pointer p2) ∧
 (RowKit.Below (Array.size (World.heap W6)) W6 W7 ∧
 Sx.ptr p2 (fun a =>
 Sx.adr (some a) (fun k6 =>
 (fun k7 =>
 (Array.size vs2 = 6 ∧
 ((∀ k8 : Nat, (k8 < 6 →
 ((∃ v : Value, World.cell? W7 (.mk k6 (k7 + k8) none) = some v) ∧
 World.frozen? W7 (.mk k6 (k7 + k8) none) = false))) ∧
 ((∀ v2 : Value, (v2 ∈ Array.toList vs2 →
 Value.oneCell' v2 = true)) ∧
 (∀ W8 : World, (W8 = World.setCells W7 k6 k7 (Array.toList vs2) →
 (∃ z9 : Int, (World.cell? W8 (.mk arg0 (arg0o + 2) none) = some (.int .i64 z9) ∧
 (∀ z10 : Int, (z10 = IntKind.wrap .i64 (z9 + 1) →
 ((∃ v3 : Value, World.cell? W8 (.mk arg0 (arg0o + 2) none) = some v3) ∧
 (World.frozen? W8 (.mk arg0 (arg0o + 2) none) = false ∧
 (∀ W9 : World, (W9 = World.setCell W8 (.mk arg0 (arg0o + 2) none) (Value.int .i64 z10) →
 (∃ z11 : Int, (World.cell? W9 (.mk arg0 (arg0o + 3) none) = some (.int .i64 z11) ∧
 (∀ z12 : Int, (z12 = IntKind.wrap .i64 (z11 + 1) →
 ((∃ v4 : Value, World.cell? W9 (.mk arg0 (arg0o + 3) none) = some v4) ∧
 (World.frozen? W9 (.mk arg0 (arg0o + 3) none) = false ∧
 (∀ W10 : World, (W10 = World.setCell W9 (.mk arg0 (arg0o + 3) none) (Value.int .i64 z12) →
 (∃ z13 : Int, (World.cell? W10 (.mk k (0 + 3) none) = some (.int .i64 z13) ∧
 Sx.split (decide (z13 ≥ 0))
 ((∀ W11 : World, (W11 = World.drew W10 →
 (∃ p3 : Option Addr, (∃ k9 : Nat, (∃ k10 : Nat, (World.cell? W11 (.mk arg0 (arg0o + 4) none) = some (.slice p3 k9 k10) ∧
 (∃ z14 : Int, (World.cell? W11 (.mk k (0 + 3) none) = some (.int .i64 z14) ∧
 (((0 : Int) ≤ z14 ∧
 z14 < (↑k9 : Int)) ∧
 Sx.adr p3 (fun k11 =>
 (fun k12 =>
 ((∃ v5 : Value, World.cell? W11 (.mk k11 (k12 + Int.toNat z14 * 1) none) = some v5) ∧
 (World.frozen? W11 (.mk k11 (k12 + Int.toNat z14 * 1) none) = false ∧
 (∀ W12 : World, (W12 = World.setCell W11 (.mk k11 (k12 + Int.toNat z14 * 1) none) (Value.bool false) →
 (∃ z15 : Int, (World.cell? W12 (.mk arg0 (arg0o + 3) none) = some (.int .i64 z15) ∧
 (∀ z16 : Int, (z16 = IntKind.wrap .i64 (z15 - 1) →
 Q (.returned (.tuple #[.int .i64 z16, .nilIface])) W12))))))))))))))))))))
 ((∃ z17 : Int, (World.cell? W10 (.mk arg0 (arg0o + 3) none) = some (.int .i64 z17) ∧
 (∀ z18 : Int, (z18 = IntKind.wrap .i64 (z17 - 1) →
 Q (.returned (.tuple #[.int .i64 z18, .nilIface])) W10)))))))))))))))))))))))))))))))))))))))))))))))))))))))))))))))))))))))))))))))))))) :
 Calls Tryz.prog 176 #[.pointer (some ⟨arg0, arg0o, none⟩), .agg arg1] W Q :=
 Sx.sound Tryz.func176 (.node [] [] 0 .leaf (.node [] [] 0 .leaf (.node [] [] 0 .leaf (.node [] [] 0 (.node [] [] 1014 .leaf .leaf) (.node [] [] 0 .leaf (.node [] [] 0 .leaf (.node [] [] 0 (.node [] [] 0 .leaf (.node [] [] 0 (.node [] [] 8 .leaf .leaf) .leaf)) .leaf))))))) [Value.pointer (some ⟨arg0, arg0o, none⟩), .agg arg1] rfl (Eq.mp (by kernel_rfl) hVC)
theorem vc163 {W : World} {Q : Ending → World → Prop} (w : Nat) (wo : Nat) (seq : Int)
 (hVC :
 Calls Tryz.prog 186 #[.pointer (some (Addr.mk w wo none)), .int .i64 seq, .int .u8 0, .int .u8 1] W (fun e =>
 (fun W2 =>
 (∃ v : Value, (e = .returned v ∧
 Q (.returned v) W2))))) :
 Calls Tryz.prog 163 #[.pointer (some ⟨w, wo, none⟩), .int .i64 seq] W Q :=
 Sx.sound Tryz.func163 .leaf [Value.pointer (some ⟨w, wo, none⟩), .int .i64 seq] rfl (Eq.mp (by kernel_rfl) hVC)
theorem vc140 {W : World} {Q : Ending → World → Prop} (w : Nat) (wo : Nat) (seq : Int)
 (hVC :
 Calls Tryz.prog 186 #[.pointer (some (Addr.mk w wo none)), .int .i64 seq, .int .u8 1, .int .u8 2] W (fun e =>
 (fun W2 =>
 (∃ v : Value, (e = .returned v ∧
 Q (.returned v) W2))))) :
 Calls Tryz.prog 140 #[.pointer (some ⟨w, wo, none⟩), .int .i64 seq] W Q :=
 Sx.sound Tryz.func140 .leaf [Value.pointer (some ⟨w, wo, none⟩), .int .i64 seq] rfl (Eq.mp (by kernel_rfl) hVC)
theorem vc198 {W : World} {Q : Ending → World → Prop} (w : Nat) (wo : Nat)
 (hVC :
 Calls Tryz.prog 234 #[.pointer (some (Addr.mk w wo none))] W (fun e =>
 (fun W2 =>
 (∃ z : Int, (∃ t : Bool, (∃ t2 : Bool, (e = .returned (.tuple #[.int .i64 z, .bool t, .bool t2]) ∧
 Sx.split (!t2)
 (Q (.returned (.tuple #[.int .i64 0, .iface 33 (Value.int .i64 7)])) W2)
 (Sx.split (!t)
 (Q (.returned (.tuple #[.int .i64 0, .iface 33 (Value.int .i64 7)])) W2)
 ((∀ W3 : World, (W3 = World.drew W2 →
 (∃ z2 : Int, (World.cell? W3 (.mk w (wo + 1) none) = some (.int .i64 z2) ∧
 (∀ z3 : Int, (z3 = IntKind.wrap .i64 (z2 + 1) →
 (∃ p : Option Addr, (∃ k : Nat, (∃ k2 : Nat, (World.cell? W3 (.mk w wo none) = some (.slice p k k2) ∧
 ((↑k : Int) ≠ 0 ∧
 (∀ z4 : Int, (z4 = Int.tmod z3 (↑k : Int) →
 ((∃ v : Value, World.cell? W3 (.mk w (wo + 1) none) = some v) ∧
 (World.frozen? W3 (.mk w (wo + 1) none) = false ∧
 (∀ W4 : World, (W4 = World.setCell W3 (.mk w (wo + 1) none) (Value.int .i64 z4) →
 (∃ z5 : Int, (World.cell? W4 (.mk w (wo + 2) none) = some (.int .i64 z5) ∧
 (∀ z6 : Int, (z6 = IntKind.wrap .i64 (z5 - 1) →
 ((∃ v2 : Value, World.cell? W4 (.mk w (wo + 2) none) = some v2) ∧
 (World.frozen? W4 (.mk w (wo + 2) none) = false ∧
 (∀ W5 : World, (W5 = World.setCell W4 (.mk w (wo + 2) none) (Value.int .i64 z6) →
 Q (.returned (.tuple #[.int .i64 z, .nilIface])) W5)))))))))))))))))))))))))))))))))) :
 Calls Tryz.prog 198 #[.pointer (some ⟨w, wo, none⟩)] W Q :=
 Sx.sound Tryz.func198 (.node [] [] 0 .leaf (.node [] [] 0 .leaf (.node [] [] 0 .leaf (.node [] [] 0 (.node [] [] 15 .leaf .leaf) .leaf)))) [Value.pointer (some ⟨w, wo, none⟩)] rfl (Eq.mp (by kernel_rfl) hVC)
theorem vc171 {W : World} {Q : Ending → World → Prop} (w : Nat) (wo : Nat)
 (hVC :
 (∃ z : Int, (World.cell? W (.mk w (wo + 2) none) = some (.int .i64 z) ∧
 Q (.returned (.int .i64 z)) W))) :
 Calls Tryz.prog 171 #[.pointer (some ⟨w, wo, none⟩)] W Q :=
 Sx.sound Tryz.func171 .leaf [Value.pointer (some ⟨w, wo, none⟩)] rfl (Eq.mp (by kernel_rfl) hVC)
theorem vc145 {W : World} {Q : Ending → World → Prop} (w : Nat) (wo : Nat) (after : Int)
 (hVC :
 (∃ I : Option Addr → Nat → Nat → World → Prop, (∃ I2 : Option Addr → Nat → Nat → World → Nat, (I none 0 0 W ∧
 ((Nat → Value) →
 (∀ out : Option Addr, (∀ k : Nat, (∀ k2 : Nat, (∀ W2 : World, (I out k k2 W2 →
 (∃ z : Int, (World.cell? W2 (.mk w (wo + 2) none) = some (.int .i64 z) ∧
 Sx.split (decide (z > 0))
 ((∃ z2 : Int, (World.cell? W2 (.mk w (wo + 2) none) = some (.int .i64 z2) ∧
 (∀ z3 : Int, (z3 = IntKind.wrap .i64 (z2 - 1) →
 Calls Tryz.prog 193 #[.pointer (some (Addr.mk w wo none)), .int .i64 z3] W2 (fun e =>
 (fun W3 =>
 (∃ p : Option Addr, (e = .returned (.pointer p) ∧
 Sx.ptr p (fun a =>
 (∃ z4 : Int, (World.cell? W3 (Addr.add a 5) = some (.int .i64 z4) ∧
 Sx.split (decide (z4 > after))
 ((∃ z5 : Int, (World.cell? W3 (.mk w (wo + 2) none) = some (.int .i64 z5) ∧
 (∀ z6 : Int, (z6 = IntKind.wrap .i64 (z5 - 1) →
 ((∃ v : Value, World.cell? W3 (.mk w (wo + 2) none) = some v) ∧
 (World.frozen? W3 (.mk w (wo + 2) none) = false ∧
 (∀ W4 : World, (W4 = World.setCell W3 (.mk w (wo + 2) none) (Value.int .i64 z6) →
 (∃ z7 : Int, (World.cell? W4 (.mk w (wo + 2) none) = some (.int .i64 z7) ∧
 Calls Tryz.prog 193 #[.pointer (some (Addr.mk w wo none)), .int .i64 z7] W4 (fun e2 =>
 (fun W5 =>
 (∃ p2 : Option Addr, (e2 = .returned (.pointer p2) ∧
 Sx.ptr p2 (fun a2 =>
 (∃ z8 : Int, (World.cell? W5 (Addr.add a2 5) = some (.int .i64 z8) ∧
 (∀ k3 : Nat, (∀ W6 : World, (k3 = Array.size (World.heap W5) →
 (W6 = World.alloc W5 (Obj.cells #[.int .i64 z8] 3) →
 (∃ l : List Value, (∃ l2 : List Value, (XHeap.Sl W6 3 1 (Value.slice out k k2) k l ∧
 (((((1 : Nat) = (0 : Nat) ∧
 some (Addr.mk k3 0 none) = none)) ∨
 ((∃ a3 : Addr, (some (Addr.mk k3 0 none) = some a3 ∧
 (∀ k4 : Nat, (∀ v2 : Value, (l2[k4]? = some v2 →
 World.cell? W6 (Addr.add a3 k4) = some v2))))))) ∧
 (List.length l2 = 1 ∧
 ((∀ v3 : Value, (v3 ∈ l2 →
 Value.oneCell' v3 = true)) ∧
 (k + 1 ≤ maxLen ∧
 ((k + 1) * 8 ≤ 140737488355328 ∧
 (∀ p3 : Option Addr, (∀ k5 : Nat, (∀ W7 : World, (XHeap.Sl W7 3 1 (Value.slice p3 (k + 1) k5) (k + 1) (l ++ l2) →
 (XHeap.XTouch (fun b => Value.ownBlock (Value.slice out k k2) = some b) W6 W7 →
 ((∀ k6 : Nat, (Value.ownBlock (Value.slice p3 (k + 1) k5) = some k6 →
 ((Value.ownBlock (Value.slice out k k2) = some k6) ∨
 (Array.size (World.heap W6) ≤ k6)))) →
 (XHeap.Sl W7 3 1 (Value.slice out k k2) k l →
 ((((p3 = out ∧
 k5 = k2)) ∨
 ((((XHeap.NilP out) ∨
 (k2 < k + 1)) ∧
 (∀ k7 : Nat, (Value.ownBlock (Value.slice p3 (k + 1) k5) = some k7 →
 Array.size (World.heap W6) ≤ k7))))) →
 (I p3 (k + 1) k5 W7 ∧
 I2 p3 (k + 1) k5 W7 < I2 out k k2 W2)))))))))))))))))))))))))))))))))))))))
 (Q (.returned (.slice out k k2)) W3)))))))))))))
 (Q (.returned (.slice out k k2)) W2))))))))))))) :
 Calls Tryz.prog 145 #[.pointer (some ⟨w, wo, none⟩), .int .i64 after] W Q :=
 Sx.sound Tryz.func145 (.node [] [] 0 .leaf (.node [] [] 0 (.node [] [] 0 (.node [(4, .slice)] [0, 1] 0 .leaf .leaf) .leaf) .leaf)) [Value.pointer (some ⟨w, wo, none⟩), .int .i64 after] rfl (Eq.mp (by kernel_rfl) hVC)
theorem vc234 {W : World} {Q : Ending → World → Prop} (w : Nat) (wo : Nat)
 (hVC :
 (∃ z : Int, (World.cell? W (.mk w (wo + 2) none) = some (.int .i64 z) ∧
 Sx.split (z == 0)
 (Q (.returned (.tuple #[.int .i64 0, .bool false, .bool false])) W)
 (Calls Tryz.prog 193 #[.pointer (some (Addr.mk w wo none)), .int .i64 0] W (fun e =>
 (fun W2 =>
 (∃ p : Option Addr, (e = .returned (.pointer p) ∧
 Sx.ptr p (fun a =>
 (∃ z2 : Int, (World.cell? W2 (Addr.add a 5) = some (.int .i64 z2) ∧
 Sx.ptr p (fun a2 =>
 (∃ z3 : Int, (World.cell? W2 (Addr.add a2 4) = some (.int .u8 z3) ∧
 (∀ W3 : World, (∀ k : Nat, (W3 = World.drewN W2 k →
 Q (.returned (.tuple #[.int .i64 z2, .bool (z3 == 2), .bool true])) W3))))))))))))))))) :
 Calls Tryz.prog 234 #[.pointer (some ⟨w, wo, none⟩)] W Q :=
 Sx.sound Tryz.func234 .leaf [Value.pointer (some ⟨w, wo, none⟩)] rfl (Eq.mp (by kernel_rfl) hVC)
theorem vc68 {W : World} {Q : Ending → World → Prop} (x : Option Addr) (xn : Nat) (xc : Nat) (count : Int)
 (hVC :
 Sx.split (decide (count < 0))
 (False)
 ((∀ z : Int, (z = IntKind.wrap .u64 (↑xn : Int) →
 (∀ z2 : Int, (z2 = IntKind.wrap .u64 count →
 Calls Tryz.prog 97 #[.int .u64 z, .int .u64 z2] W (fun e =>
 (fun W2 =>
 (∃ z3 : Int, (∃ z4 : Int, (e = .returned (.tuple #[.int .u64 z3, .int .u64 z4]) ∧
 Sx.split (decide (z3 > 0))
 (False)
 (Sx.split (decide (z4 > 9223372036854775807))
 (False)
 ((∀ z5 : Int, (z5 = IntKind.wrap .i64 z4 →
 (((0 : Int) ≤ z5 ∧
 (z5 ≤ z5 ∧
 (z5 ≤ 9223372036854775807 ∧
 (↑1 : Int) * z5 ≤ 281474976710656))) ∧
 (∀ k : Nat, (∀ W3 : World, (k = Array.size (World.heap W2) →
 (W3 = World.alloc W2 (Obj.cells (madeCells #[.bool false] (Int.toNat z5 * 1)) 4) →
 (∃ l : List Value, (List.length l = Nat.min xn (Int.toNat z5) * 1 ∧
 ((∀ v : Value, (v ∈ l →
 Value.oneCell' v = true)) ∧
 (((l = []) ∨
 (((∃ a : Addr, (x = some a ∧
 (∀ k2 : Nat, (∀ v2 : Value, (l[k2]? = some v2 →
 World.cell? W3 (Addr.add a k2) = some v2))))) ∧
 (∃ k3 : Nat, (∃ k4 : Nat, (some (Addr.mk k 0 none) = some (Addr.mk k3 k4 none) ∧
 (∀ k5 : Nat, (k5 < List.length l →
 ((∃ v3 : Value, World.cell? W3 (.mk k3 (k4 + k5) none) = some v3) ∧
 World.frozen? W3 (.mk k3 (k4 + k5) none) = false))))))))) ∧
 (∀ W4 : World, (W4 = Sx.setRow (some (Addr.mk k 0 none)) W3 l →
 (∃ I : Int → World → Prop, (∃ I2 : Int → World → Nat, (I (↑(Nat.min xn (Int.toNat z5)) : Int) W4 ∧
 ((Nat → Value) →
 (∀ n : Int, (∀ W5 : World, (I n W5 →
 Sx.split (decide (n < (↑(Int.toNat z5) : Int)))
 ((∀ W6 : World, (W6 = World.drew W5 →
 (((0 : Int) ≤ n ∧
 n ≤ (↑(Int.toNat z5) : Int)) ∧
 (((0 : Int) ≤ n ∧
 n ≤ (↑(Int.toNat z5) : Int)) ∧
 (∃ l2 : List Value, (List.length l2 = Nat.min (Int.toNat n) (Int.toNat z5 - Int.toNat n) * 1 ∧
 ((∀ v4 : Value, (v4 ∈ l2 →
 Value.oneCell' v4 = true)) ∧
 (((l2 = []) ∨
 (((∃ a2 : Addr, (some (Addr.mk k 0 none) = some a2 ∧
 (∀ k6 : Nat, (∀ v5 : Value, (l2[k6]? = some v5 →
 World.cell? W6 (Addr.add a2 k6) = some v5))))) ∧
 (∃ k7 : Nat, (∃ k8 : Nat, (Sx.sub (some (Addr.mk k 0 none)) (Int.toNat z5) (Int.toNat n) 1 = some (Addr.mk k7 k8 none) ∧
 (∀ k9 : Nat, (k9 < List.length l2 →
 ((∃ v6 : Value, World.cell? W6 (.mk k7 (k8 + k9) none) = some v6) ∧
 World.frozen? W6 (.mk k7 (k8 + k9) none) = false))))))))) ∧
 (∀ W7 : World, (W7 = Sx.setRow (Sx.sub (some (Addr.mk k 0 none)) (Int.toNat z5) (Int.toNat n) 1) W6 l2 →
 (∀ z6 : Int, (z6 = IntKind.wrap .i64 (n + (↑(Nat.min (Int.toNat n) (Int.toNat z5 - Int.toNat n)) : Int)) →
 (I z6 W7 ∧
 I2 z6 W7 < I2 n W5))))))))))))))
 (Q (.returned (.slice (some (Addr.mk k 0 none)) (Int.toNat z5) (Int.toNat z5))) W5)))))))))))))))))))))))))))))))))) :
 Calls Tryz.prog 68 #[.slice x xn xc, .int .i64 count] W Q :=
 Sx.sound Tryz.func68 (.node [] [] 0 .leaf (.node [] [] 0 .leaf (.node [] [] 0 .leaf (.node [] [] 0 .leaf (.node [] [] 0 .leaf (.node [] [] 0 .leaf (.node [] [] 0 (.node [] [] 0 (.node [(8, .int .i64)] [7] 0 (.node [] [] 0 .leaf (.node [] [] 0 (.node [] [] 1008 .leaf .leaf) .leaf)) .leaf) .leaf) .leaf))))))) [Value.slice x xn xc, .int .i64 count] rfl (Eq.mp (by kernel_rfl) hVC)
theorem vc187 {W : World} {Q : Ending → World → Prop} (w : Nat) (wo : Nat) (l : Option Addr) (ln : Nat) (lc : Nat)
 (hVC :
 (∃ I : Int → World → Prop, (∃ I2 : Int → World → Nat, (I 0 W ∧
 ((Nat → Value) →
 (∀ x : Int, (∀ W2 : World, (I x W2 →
 Sx.split (decide (x < (↑ln : Int)))
 ((((0 : Int) ≤ x ∧
 x < (↑ln : Int)) ∧
 Sx.adr l (fun k =>
 (fun k2 =>
 (∃ z : Int, (World.cell? W2 (.mk k (k2 + Int.toNat x * 1) none) = some (.int .i64 z) ∧
 Sx.split (decide (z < -1))
 (Q (.returned (.bool false)) W2)
 ((∃ p : Option Addr, (∃ k3 : Nat, (∃ k4 : Nat, (World.cell? W2 (.mk w (wo + 4) none) = some (.slice p k3 k4) ∧
 Sx.split (decide (z ≥ (↑k3 : Int)))
 (Q (.returned (.bool false)) W2)
 ((∀ z2 : Int, (z2 = IntKind.wrap .i64 (x + 1) →
 (I z2 W2 ∧
 I2 z2 W2 < I2 x W2)))))))))))))))
 (Q (.returned (.bool true)) W2))))))))) :
 Calls Tryz.prog 187 #[.pointer (some ⟨w, wo, none⟩), .slice l ln lc] W Q :=
 Sx.sound Tryz.func187 (.node [] [] 0 .leaf (.node [] [] 0 (.node [] [] 0 .leaf (.node [] [] 0 (.node [(9, .int .i64)] [8, 7, 0] 0 .leaf .leaf) .leaf)) .leaf)) [Value.pointer (some ⟨w, wo, none⟩), .slice l ln lc] rfl (Eq.mp (by kernel_rfl) hVC)
theorem vc193 {W : World} {Q : Ending → World → Prop} (w : Nat) (wo : Nat) (k : Int)
 (hVC :
 (∃ p : Option Addr, (∃ k2 : Nat, (∃ k3 : Nat, (World.cell? W (.mk w wo none) = some (.slice p k2 k3) ∧
 (∃ z : Int, (World.cell? W (.mk w (wo + 1) none) = some (.int .i64 z) ∧
 (∀ z2 : Int, (z2 = IntKind.wrap .i64 (z + k) →
 (∃ p2 : Option Addr, (∃ k4 : Nat, (∃ k5 : Nat, (World.cell? W (.mk w wo none) = some (.slice p2 k4 k5) ∧
 ((↑k4 : Int) ≠ 0 ∧
 (∀ z3 : Int, (z3 = Int.tmod z2 (↑k4 : Int) →
 (((0 : Int) ≤ z3 ∧
 z3 < (↑k2 : Int)) ∧
 Sx.adr p (fun k6 =>
 (fun k7 =>
 (∀ W2 : World, (∀ k8 : Nat, (W2 = World.drewN W k8 →
 Q (.returned (.pointer (some (Addr.mk k6 (k7 + Int.toNat z3 * 6) none)))) W2)))))))))))))))))))))) :
 Calls Tryz.prog 193 #[.pointer (some ⟨w, wo, none⟩), .int .i64 k] W Q :=
 Sx.sound Tryz.func193 .leaf [Value.pointer (some ⟨w, wo, none⟩), .int .i64 k] rfl (Eq.mp (by kernel_rfl) hVC)
theorem vc155 {W : World} {Q : Ending → World → Prop} (w : Nat) (wo : Nat) (s : Nat) (so : Nat)
 (hVC :
 (∃ z : Int, (World.cell? W (.mk s (so + 4) none) = some (.int .u8 z) ∧
 Sx.split (z == 0)
 ((∃ z2 : Int, (World.cell? W (.mk s (so + 1) none) = some (.int .i64 z2) ∧
 Calls Tryz.prog 202 #[.pointer (some (Addr.mk w wo none)), .int .i64 z2] W (fun e =>
 (fun W2 =>
 (∃ t : Bool, (e = .returned (.bool t) ∧
 Sx.split t
 ((∃ z3 : Int, (World.cell? W2 (.mk s (so + 2) none) = some (.int .i64 z3) ∧
 Calls Tryz.prog 202 #[.pointer (some (Addr.mk w wo none)), .int .i64 z3] W2 (fun e2 =>
 (fun W3 =>
 (∃ t2 : Bool, (e2 = .returned (.bool t2) ∧
 Q (.returned (.bool t2)) W3)))))))
 (Q (.returned (.bool false)) W2))))))))
 (Q (.returned (.bool false)) W)))) :
 Calls Tryz.prog 155 #[.pointer (some ⟨w, wo, none⟩), .pointer (some ⟨s, so, none⟩)] W Q :=
 Sx.sound Tryz.func155 .leaf [Value.pointer (some ⟨w, wo, none⟩), .pointer (some ⟨s, so, none⟩)] rfl (Eq.mp (by kernel_rfl) hVC)
theorem vc186 {W : World} {Q : Ending → World → Prop} (w : Nat) (wo : Nat) (seq : Int) (arg2 : Int) (to : Int)
 (hVC :
 Calls Tryz.prog 227 #[.pointer (some (Addr.mk w wo none)), .int .i64 seq] W (fun e =>
 (fun W2 =>
 (∃ p : Option Addr, (e = .returned (.pointer p) ∧
 Sx.split (Option.isNone p)
 (Q (.returned (.iface 33 (Value.int .i64 7))) W2)
 (Sx.ptr p (fun a =>
 (∃ z : Int, (World.cell? W2 (Addr.add a 4) = some (.int .u8 z) ∧
 Sx.split (z != arg2)
 (Q (.returned (.iface 33 (Value.int .i64 7))) W2)
 (Sx.split (to == 1)
 (Calls Tryz.prog 155 #[.pointer (some (Addr.mk w wo none)), .pointer p] W2 (fun e2 =>
 (fun W3 =>
 (∃ t : Bool, (e2 = .returned (.bool t) ∧
 Sx.split (!t)
 (Q (.returned (.iface 33 (Value.int .i64 7))) W3)
 (Sx.ptr p (fun a2 =>
 ((∃ v : Value, World.cell? W3 (Addr.add a2 4) = some v) ∧
 (World.frozen? W3 (Addr.add a2 4) = false ∧
 (∀ W4 : World, (W4 = World.setCell W3 (Addr.add a2 4) (Value.int .u8 to) →
 Q (.returned Value.nilIface) W4)))))))))))
 (Sx.ptr p (fun a3 =>
 ((∃ v2 : Value, World.cell? W2 (Addr.add a3 4) = some v2) ∧
 (World.frozen? W2 (Addr.add a3 4) = false ∧
 (∀ W5 : World, (W5 = World.setCell W2 (Addr.add a3 4) (Value.int .u8 to) →
 Q (.returned Value.nilIface) W5)))))))))))))))) :
 Calls Tryz.prog 186 #[.pointer (some ⟨w, wo, none⟩), .int .i64 seq, .int .u8 arg2, .int .u8 to] W Q :=
 Sx.sound Tryz.func186 .leaf [Value.pointer (some ⟨w, wo, none⟩), .int .i64 seq, .int .u8 arg2, .int .u8 to] rfl (Eq.mp (by kernel_rfl) hVC)
theorem vc202 {W : World} {Q : Ending → World → Prop} (w : Nat) (wo : Nat) (p : Int)
 (hVC :
 Sx.split (decide (p < 0))
 (Q (.returned (.bool true)) W)
 ((∃ p2 : Option Addr, (∃ k : Nat, (∃ k2 : Nat, (World.cell? W (.mk w (wo + 4) none) = some (.slice p2 k k2) ∧
 (((0 : Int) ≤ p ∧
 p < (↑k : Int)) ∧
 Sx.adr p2 (fun k3 =>
 (fun k4 =>
 (∃ t : Bool, (World.cell? W (.mk k3 (k4 + Int.toNat p * 1) none) = some (.bool t) ∧
 Q (.returned (.bool t)) W))))))))))) :
 Calls Tryz.prog 202 #[.pointer (some ⟨w, wo, none⟩), .int .i64 p] W Q :=
 Sx.sound Tryz.func202 .leaf [Value.pointer (some ⟨w, wo, none⟩), .int .i64 p] rfl (Eq.mp (by kernel_rfl) hVC)
theorem vc97 {W : World} {Q : Ending → World → Prop} (x : Int) (y : Int)
 (hVC :
 Calls Tryz.prog 135 #[.int .u64 x, .int .u64 y] W (fun e =>
 (fun W2 =>
 (∃ z : Int, (∃ z2 : Int, (e = .returned (.tuple #[.int .u64 z, .int .u64 z2]) ∧
 Q (.returned (.tuple #[.int .u64 z, .int .u64 z2])) W2)))))) :
 Calls Tryz.prog 97 #[.int .u64 x, .int .u64 y] W Q :=
 Sx.sound Tryz.func97 .leaf [Value.int .u64 x, .int .u64 y] rfl (Eq.mp (by kernel_rfl) hVC)
theorem vc135 {W : World} {Q : Ending → World → Prop} (x : Int) (y : Int)
 (hVC :
 (∀ z : Int, (z = IntKind.wrap .u64 (↑(BitVec.toNat (BitVec.ofInt (IntKind.bits .u64) x &&& BitVec.ofInt (IntKind.bits .u64) 4294967295)) : Int) →
 ((0 : Int) ≤ (32 : Int) ∧
 (∀ z2 : Int, (z2 = Int.fdiv x (2 ^ min 32 (IntKind.bits .u64)) →
 (∀ z3 : Int, (z3 = IntKind.wrap .u64 (↑(BitVec.toNat (BitVec.ofInt (IntKind.bits .u64) y &&& BitVec.ofInt (IntKind.bits .u64) 4294967295)) : Int) →
 ((0 : Int) ≤ (32 : Int) ∧
 (∀ z4 : Int, (z4 = Int.fdiv y (2 ^ min 32 (IntKind.bits .u64)) →
 (∀ z5 : Int, (z5 = IntKind.wrap .u64 (z * z3) →
 (∀ z6 : Int, (z6 = IntKind.wrap .u64 (z2 * z3) →
 ((0 : Int) ≤ (32 : Int) ∧
 (∀ z7 : Int, (z7 = Int.fdiv z5 (2 ^ min 32 (IntKind.bits .u64)) →
 (∀ z8 : Int, (z8 = IntKind.wrap .u64 (z6 + z7) →
 (∀ z9 : Int, (z9 = IntKind.wrap .u64 (↑(BitVec.toNat (BitVec.ofInt (IntKind.bits .u64) z8 &&& BitVec.ofInt (IntKind.bits .u64) 4294967295)) : Int) →
 ((0 : Int) ≤ (32 : Int) ∧
 (∀ z10 : Int, (z10 = Int.fdiv z8 (2 ^ min 32 (IntKind.bits .u64)) →
 (∀ z11 : Int, (z11 = IntKind.wrap .u64 (z * z4) →
 (∀ z12 : Int, (z12 = IntKind.wrap .u64 (z9 + z11) →
 (∀ z13 : Int, (z13 = IntKind.wrap .u64 (z2 * z4) →
 (∀ z14 : Int, (z14 = IntKind.wrap .u64 (z13 + z10) →
 ((0 : Int) ≤ (32 : Int) ∧
 (∀ z15 : Int, (z15 = Int.fdiv z12 (2 ^ min 32 (IntKind.bits .u64)) →
 (∀ z16 : Int, (z16 = IntKind.wrap .u64 (z14 + z15) →
 (∀ z17 : Int, (z17 = IntKind.wrap .u64 (x * y) →
 Q (.returned (.tuple #[.int .u64 z16, .int .u64 z17])) W)))))))))))))))))))))))))))))))))))))))) :
 Calls Tryz.prog 135 #[.int .u64 x, .int .u64 y] W Q :=
 Sx.sound Tryz.func135 .leaf [Value.int .u64 x, .int .u64 y] rfl (Eq.mp (by kernel_rfl) hVC)
end Go.Proofs.YthacioiefgabbaaGreatDoor
