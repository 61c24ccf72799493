/- What each function asks, reckoned out of its text; printed by a program of mine (wip/tpl/VcTool.lean). No condition. -/
import Derived.Test.YthacioiefgabbaaGreatDoorSxB
import Derived.Test.YthacioiefgabbaaGreatDoorChecked
namespace Go.Proofs.YthacioiefgabbaaGreatDoor
open Go Go.Proofs
set_option linter.unusedVariables false
set_option maxRecDepth 100000
theorem vc21 {W : World} {Q : Ending → World → Prop} (n : Int) (lo : Int) (hi : Int)
 (hVC :
 Sx.split (decide (n ≥ lo))
 (Q (.returned (.bool (decide (n ≤ hi)))) W)
 (Q (.returned (.bool false)) W)) :
 Calls Tryz.prog 21 #[.int .i64 n, .int .i64 lo, .int .i64 hi] W Q :=
 Sx.sound Tryz.func21 .leaf [Value.int .i64 n, .int .i64 lo, .int .i64 hi] rfl (Eq.mp (by kernel_rfl) hVC)
theorem vc42 {W : World} {Q : Ending → World → Prop} (c : Array Value)
 (hVC :
 (∀ k : Nat, (∀ W2 : World, (k = Array.size (World.heap W) →
 (W2 = World.alloc W (Obj.cells (Value.cells (Value.agg c)) 29) →
 (∃ z : Int, (World.cell? W2 (.mk k 0 none) = some (.int .i64 z) ∧
 Calls Tryz.prog 21 #[.int .i64 z, .int .i64 1, .int .i64 4] W2 (fun e =>
 (fun W3 =>
 (∃ t : Bool, (e = .returned (.bool t) ∧
 Sx.split (!t)
 (Q (.returned (.iface 33 (Value.int .i64 2))) W3)
 ((∃ z2 : Int, (World.cell? W3 (.mk k (0 + 4) none) = some (.int .i64 z2) ∧
 Calls Tryz.prog 21 #[.int .i64 z2, .int .i64 1, .int .i64 4] W3 (fun e2 =>
 (fun W4 =>
 (∃ t2 : Bool, (e2 = .returned (.bool t2) ∧
 Sx.split (!t2)
 (Q (.returned (.iface 33 (Value.int .i64 2))) W4)
 ((∃ z3 : Int, (World.cell? W4 (.mk k (0 + 5) none) = some (.int .i64 z3) ∧
 Calls Tryz.prog 21 #[.int .i64 z3, .int .i64 1, .int .i64 10] W4 (fun e3 =>
 (fun W5 =>
 (∃ t3 : Bool, (e3 = .returned (.bool t3) ∧
 Sx.split (!t3)
 (Q (.returned (.iface 33 (Value.int .i64 2))) W5)
 ((∃ z4 : Int, (World.cell? W5 (.mk k (0 + 14) none) = some (.int .i64 z4) ∧
 Calls Tryz.prog 21 #[.int .i64 z4, .int .i64 0, .int .i64 10] W5 (fun e4 =>
 (fun W6 =>
 (∃ t4 : Bool, (e4 = .returned (.bool t4) ∧
 Sx.split (!t4)
 (Q (.returned (.iface 33 (Value.int .i64 2))) W6)
 (Q (.returned Value.nilIface) W6))))))))))))))))))))))))))))))))) :
 Calls Tryz.prog 42 #[.agg c] W Q :=
 Sx.sound Tryz.func42 .leaf [Value.agg c] rfl (Eq.mp (by kernel_rfl) hVC)
theorem vc124 {W : World} {Q : Ending → World → Prop} (x : Nat) (xo : Nat) (kind : Int) (f : Nat) (fo : Nat) (what : Array Value)
 (hVC :
 (∀ k : Nat, (∀ W2 : World, (k = Array.size (World.heap W) →
 (W2 = World.alloc W (Obj.cells (Value.cells (Value.agg what)) 69) →
 (∀ W3 : World, (W3 = World.drew W2 →
 (∃ z : Int, (World.cell? W3 (.mk x (xo + 23) none) = some (.int .i64 z) ∧
 (∃ z2 : Int, (World.cell? W3 (.mk x (xo + 29) none) = some (.int .i64 z2) ∧
 (∃ vs : Array Value, (Array.size vs = 7 ∧
 (Sx.cellsAt W3 (.mk k 0 none) vs ∧
 (Array.size vs = 7 ∧
 (∀ vs2 : Array Value, (vs2 = List.toArray (Value.int .i64 z :: Value.int .i64 z2 :: Value.int .i64 kind :: Value.int .i64 0 :: Value.int .u32 0 :: (Array.toList vs ++ [])) →
 (∀ k2 : Nat, (∀ W4 : World, (k2 = Array.size (World.heap W3) →
 (W4 = World.alloc W3 (Obj.cells #[.int .i64 0, .int .i64 0, .int .i64 0, .int .i64 0, .int .u32 0, .int .u32 0, .int .u32 0, .int .i64 0, .int .u32 0, .int .i64 0, .int .u32 0, .int .u32 0] 71) →
 (RowKit.Below (Array.size (World.heap W3)) W3 W4 ∧
 (Array.size vs2 = 12 ∧
 ((∀ k3 : Nat, (k3 < 12 →
 ((∃ v : Value, World.cell? W4 (.mk k2 (0 + k3) none) = some v) ∧
 World.frozen? W4 (.mk k2 (0 + k3) none) = false))) ∧
 ((∀ v2 : Value, (v2 ∈ Array.toList vs2 →
 Value.oneCell' v2 = true)) ∧
 (∀ W5 : World, (W5 = World.setCells W4 k2 0 (Array.toList vs2) →
 (∃ I : World → Prop, ((∀ W6 : World, (W6 = World.drew W5 →
 (∃ z3 : Int, (World.cell? W6 (.mk f fo none) = some (.int .i64 z3) ∧
 ((∃ z4 : Int, (World.cell? W6 (.mk f (fo + 1) none) = some (.int .u32 z4) ∧
 (RowKit.Below (Array.size (World.heap W6)) W6 W6 ∧
 ((∃ v3 : Value, World.cell? W6 (.mk k2 (0 + 3) none) = some v3) ∧
 (World.frozen? W6 (.mk k2 (0 + 3) none) = false ∧
 (∀ W7 : World, (W7 = World.setCell W6 (.mk k2 (0 + 3) none) (Value.int .i64 z3) →
 ((∃ v4 : Value, World.cell? W7 (.mk k2 (0 + 4) none) = some v4) ∧
 (World.frozen? W7 (.mk k2 (0 + 4) none) = false ∧
 (∀ W8 : World, (W8 = World.setCell W7 (.mk k2 (0 + 4) none) (Value.int .u32 z4) →
 I W8))))))))))) ∧
 ((∃ v5 : Value, World.cell? W6 (.mk k2 (0 + 3) none) = some v5) ∧
 (World.frozen? W6 (.mk k2 (0 + 3) none) = false ∧
 (∀ W9 : World, (W9 = World.setCell W6 (.mk k2 (0 + 3) none) (Value.int .i64 z3) →
 (∃ z5 : Int, (World.cell? W9 (.mk f (fo + 1) none) = some (.int .u32 z5) ∧
 ((∃ v6 : Value, World.cell? W9 (.mk k2 (0 + 4) none) = some v6) ∧
 (World.frozen? W9 (.mk k2 (0 + 4) none) = false ∧
 (∀ W10 : World, (W10 = World.setCell W9 (.mk k2 (0 + 4) none) (Value.int .u32 z5) →
 I W10))))))))))))))) ∧
 ((Nat → Value) →
 (∀ W11 : World, (I W11 →
 (∀ W12 : World, (W12 = World.drew W11 →
 (∃ p : Option Addr, (World.cell? W12 (.mk x (xo + 6) none) = some (.pointer p) ∧
 Sx.ptr p (fun a =>
 (∃ p2 : Option Addr, (∃ k4 : Nat, (∃ k5 : Nat, (World.cell? W12 (Addr.add a 0) = some (.slice p2 k4 k5) ∧
 (∃ vs3 : Array Value, (Array.size vs3 = 12 ∧
 (Sx.cellsAt W12 (.mk k2 0 none) vs3 ∧
 ((∃ p3 : Option Addr, (World.cell? W12 (.mk x (xo + 6) none) = some (.pointer p3) ∧
 (RowKit.Below (Array.size (World.heap W12)) W12 W12 ∧
 (Array.size vs3 = 12 ∧
 (∀ k6 : Nat, (∀ W13 : World, (k6 = Array.size (World.heap W12) →
 (W13 = World.alloc W12 (Obj.cells (List.toArray (Array.toList vs3 ++ [])) 71) →
 (RowKit.Below (Array.size (World.heap W12)) W12 W13 ∧
 (∃ l : List Value, (∃ l2 : List Value, (XHeap.Sl W13 71 12 (Value.slice p2 k4 k5) k4 l ∧
 (((((1 : Nat) = (0 : Nat) ∧
 some (Addr.mk k6 0 none) = none)) ∨
 ((∃ a2 : Addr, (some (Addr.mk k6 0 none) = some a2 ∧
 (∀ k7 : Nat, (∀ v7 : Value, (l2[k7]? = some v7 →
 World.cell? W13 (Addr.add a2 k7) = some v7))))))) ∧
 (List.length l2 = 12 ∧
 ((∀ v8 : Value, (v8 ∈ l2 →
 Value.oneCell' v8 = true)) ∧
 (k4 + 1 ≤ maxLen ∧
 ((k4 + 1) * 80 ≤ 140737488355328 ∧
 (∀ p4 : Option Addr, (∀ k8 : Nat, (∀ W14 : World, (XHeap.Sl W14 71 12 (Value.slice p4 (k4 + 1) k8) (k4 + 1) (l ++ l2) →
 (XHeap.XTouch (fun b => Value.ownBlock (Value.slice p2 k4 k5) = some b) W13 W14 →
 ((∀ k9 : Nat, (Value.ownBlock (Value.slice p4 (k4 + 1) k8) = some k9 →
 ((Value.ownBlock (Value.slice p2 k4 k5) = some k9) ∨
 (Array.size (World.heap W13) ≤ k9)))) →
 (XHeap.Sl W14 71 12 (Value.slice p2 k4 k5) k4 l →
 ((((p4 = p2 ∧
 k8 = k5)) ∨
 ((((XHeap.NilP p2) ∨
 (k5 < k4 + 1)) ∧
 (∀ k10 : Nat, (Value.ownBlock (Value.slice p4 (k4 + 1) k8) = some k10 →
 Array.size (World.heap W13) ≤ k10))))) →
 Sx.ptr p3 (fun a3 =>
 ((∃ v9 : Value, World.cell? W14 (Addr.add a3 0) = some v9) ∧
 (World.frozen? W14 (Addr.add a3 0) = false ∧
 (∀ W15 : World, (W15 = World.setCell W14 (Addr.add a3 0) (Value.slice p4 (k4 + 1) k8) →
 Q (.returned (.tuple #[])) W15)))))))))))))))))))))))))))))) ∧
 (Array.size vs3 = 12 ∧
 (∀ k11 : Nat, (∀ W16 : World, (k11 = Array.size (World.heap W12) →
 (W16 = World.alloc W12 (Obj.cells (List.toArray (Array.toList vs3 ++ [])) 71) →
 (RowKit.Below (Array.size (World.heap W12)) W12 W16 ∧
 ((∃ p5 : Option Addr, (World.cell? W16 (.mk x (xo + 6) none) = some (.pointer p5) ∧
 (RowKit.Below (Array.size (World.heap W12)) W12 W16 ∧
 (∃ l3 : List Value, (∃ l4 : List Value, (XHeap.Sl W16 71 12 (Value.slice p2 k4 k5) k4 l3 ∧
 (((((1 : Nat) = (0 : Nat) ∧
 some (Addr.mk k11 0 none) = none)) ∨
 ((∃ a4 : Addr, (some (Addr.mk k11 0 none) = some a4 ∧
 (∀ k12 : Nat, (∀ v10 : Value, (l4[k12]? = some v10 →
 World.cell? W16 (Addr.add a4 k12) = some v10))))))) ∧
 (List.length l4 = 12 ∧
 ((∀ v11 : Value, (v11 ∈ l4 →
 Value.oneCell' v11 = true)) ∧
 (k4 + 1 ≤ maxLen ∧
 ((k4 + 1) * 80 ≤ 140737488355328 ∧
 (∀ p6 : Option Addr, (∀ k13 : Nat, (∀ W17 : World, (XHeap.Sl W17 71 12 (Value.slice p6 (k4 + 1) k13) (k4 + 1) (l3 ++ l4) →
 (XHeap.XTouch (fun b => Value.ownBlock (Value.slice p2 k4 k5) = some b) W16 W17 →
 ((∀ k14 : Nat, (Value.ownBlock (Value.slice p6 (k4 + 1) k13) = some k14 →
 ((Value.ownBlock (Value.slice p2 k4 k5) = some k14) ∨
 (Array.size (World.heap W16) ≤ k14)))) →
 (XHeap.Sl W17 71 12 (Value.slice p2 k4 k5) k4 l3 →
 ((((p6 = p2 ∧
 k13 = k5)) ∨
 ((((XHeap.NilP p2) ∨
 (k5 < k4 + 1)) ∧
 (∀ k15 : Nat, (Value.ownBlock (Value.slice p6 (k4 + 1) k13) = some k15 →
 Array.size (World.heap W16) ≤ k15))))) →
 Sx.ptr p5 (fun a5 =>
 ((∃ v12 : Value, World.cell? W17 (Addr.add a5 0) = some v12) ∧
 (World.frozen? W17 (Addr.add a5 0) = false ∧
 (∀ W18 : World, (W18 = World.setCell W17 (Addr.add a5 0) (Value.slice p6 (k4 + 1) k13) →
 Q (.returned (.tuple #[])) W18)))))))))))))))))))))))) ∧
 (∃ l5 : List Value, (∃ l6 : List Value, (XHeap.Sl W16 71 12 (Value.slice p2 k4 k5) k4 l5 ∧
 (((((1 : Nat) = (0 : Nat) ∧
 some (Addr.mk k11 0 none) = none)) ∨
 ((∃ a6 : Addr, (some (Addr.mk k11 0 none) = some a6 ∧
 (∀ k16 : Nat, (∀ v13 : Value, (l6[k16]? = some v13 →
 World.cell? W16 (Addr.add a6 k16) = some v13))))))) ∧
 (List.length l6 = 12 ∧
 ((∀ v14 : Value, (v14 ∈ l6 →
 Value.oneCell' v14 = true)) ∧
 (k4 + 1 ≤ maxLen ∧
 ((k4 + 1) * 80 ≤ 140737488355328 ∧
 (∀ p7 : Option Addr, (∀ k17 : Nat, (∀ W19 : World, (XHeap.Sl W19 71 12 (Value.slice p7 (k4 + 1) k17) (k4 + 1) (l5 ++ l6) →
 (XHeap.XTouch (fun b => Value.ownBlock (Value.slice p2 k4 k5) = some b) W16 W19 →
 ((∀ k18 : Nat, (Value.ownBlock (Value.slice p7 (k4 + 1) k17) = some k18 →
 ((Value.ownBlock (Value.slice p2 k4 k5) = some k18) ∨
 (Array.size (World.heap W16) ≤ k18)))) →
 (XHeap.Sl W19 71 12 (Value.slice p2 k4 k5) k4 l5 →
 ((((p7 = p2 ∧
 k17 = k5)) ∨
 ((((XHeap.NilP p2) ∨
 (k5 < k4 + 1)) ∧
 (∀ k19 : Nat, (Value.ownBlock (Value.slice p7 (k4 + 1) k17) = some k19 →
 Array.size (World.heap W16) ≤ k19))))) →
 (∃ p8 : Option Addr, (World.cell? W19 (.mk x (xo + 6) none) = some (.pointer p8) ∧
 Sx.ptr p8 (fun a7 =>
 ((∃ v15 : Value, World.cell? W19 (Addr.add a7 0) = some v15) ∧
 (World.frozen? W19 (Addr.add a7 0) = false ∧
 (∀ W20 : World, (W20 = World.setCell W19 (Addr.add a7 0) (Value.slice p7 (k4 + 1) k17) →
 Q (.returned (.tuple #[])) W20))))))))))))))))))))))))))))))))))))))))))))))))))))))))))))))))))))))))))) :
 Calls Tryz.prog 124 #[.pointer (some ⟨x, xo, none⟩), .int .i64 kind, .pointer (some ⟨f, fo, none⟩), .agg what] W Q :=
 Sx.sound Tryz.func124 (.node [] [] 0 .leaf (.node [] [] 0 (.node [] [] 1013 .leaf .leaf) (.node [] [0, 8] 1 (.node [] [] 0 .leaf (.node [] [] 0 (.node [] [] 1010 .leaf .leaf) .leaf)) (.node [] [] 1016 .leaf .leaf)))) [Value.pointer (some ⟨x, xo, none⟩), .int .i64 kind, .pointer (some ⟨f, fo, none⟩), .agg what] rfl (Eq.mp (by kernel_rfl) hVC)
theorem vc105 {W : World} {Q : Ending → World → Prop} (x : Nat) (xo : Nat) (seq : Int)
 (hVC :
 (∃ p : Option Addr, (∃ k : Nat, (∃ k2 : Nat, (World.cell? W (.mk x (xo + 28) none) = some (.slice p k k2) ∧
 (∃ I : Int → World → Prop, (∃ I2 : Int → World → Nat, (I 0 W ∧
 ((Nat → Value) →
 (∀ x2 : Int, (∀ W2 : World, (I x2 W2 →
 Sx.split (decide (x2 < (↑k : Int)))
 ((((0 : Int) ≤ x2 ∧
 x2 < (↑k : Int)) ∧
 Sx.adr p (fun k3 =>
 (fun k4 =>
 (∃ p2 : Option Addr, (World.cell? W2 (.mk k3 (k4 + Int.toNat x2 * 1) none) = some (.pointer p2) ∧
 Sx.ptr p2 (fun a =>
 (∃ z : Int, (World.cell? W2 (Addr.add a 0) = some (.int .i64 z) ∧
 Sx.split (z == seq)
 (Q (.returned (.pointer p2)) W2)
 ((∀ z2 : Int, (z2 = IntKind.wrap .i64 (x2 + 1) →
 (I z2 W2 ∧
 I2 z2 W2 < I2 x2 W2)))))))))))))
 (Q (.returned (.pointer none)) W2))))))))))))) :
 Calls Tryz.prog 105 #[.pointer (some ⟨x, xo, none⟩), .int .i64 seq] W Q :=
 Sx.sound Tryz.func105 (.node [] [] 0 .leaf (.node [] [] 0 (.node [] [] 0 .leaf (.node [] [] 0 (.node [(12, .int .i64)] [11, 10, 1] 0 .leaf .leaf) .leaf)) .leaf)) [Value.pointer (some ⟨x, xo, none⟩), .int .i64 seq] rfl (Eq.mp (by kernel_rfl) hVC)
theorem vc116 {W : World} {Q : Ending → World → Prop} (x : Nat) (xo : Nat) (f : Nat) (fo : Nat) (cycles : Int)
 (hVC :
 (∃ z : Int, (World.cell? W (.mk x (xo + 29) none) = some (.int .i64 z) ∧
 (∀ z2 : Int, (z2 = IntKind.wrap .i64 (z + cycles) →
 ((∃ v : Value, World.cell? W (.mk f (fo + 22) none) = some v) ∧
 (World.frozen? W (.mk f (fo + 22) none) = false ∧
 (∀ W2 : World, (W2 = World.setCell W (.mk f (fo + 22) none) (Value.bool true) →
 ((∃ v2 : Value, World.cell? W2 (.mk f (fo + 24) none) = some v2) ∧
 (World.frozen? W2 (.mk f (fo + 24) none) = false ∧
 (∀ W3 : World, (W3 = World.setCell W2 (.mk f (fo + 24) none) (Value.int .i64 z2) →
 (∀ W4 : World, (W4 = World.drew W3 →
 (∃ p : Option Addr, (World.cell? W4 (.mk x xo none) = some (.pointer p) ∧
 (∃ z3 : Int, (World.cell? W4 (.mk f fo none) = some (.int .i64 z3) ∧
 Calls Tryz.prog 163 #[.pointer p, .int .i64 z3] W4 (fun e =>
 (fun W5 =>
 (∃ v3 : Value, (e = .returned v3 ∧
 (∀ vs : Array Value, (vs = #[.int .u32 0, .int .u32 0, .int .i64 0, .int .u32 0, .int .i64 0, .int .u32 0, .int .u32 0] →
 Calls Tryz.prog 124 #[.pointer (some (Addr.mk x xo none)), .int .i64 2, .pointer (some (Addr.mk f fo none)), .agg vs] W5 (fun e2 =>
 (fun W6 =>
 (e2 = .returned (.tuple #[]) ∧
 Q (.returned (.tuple #[])) W6)))))))))))))))))))))))))))) :
 Calls Tryz.prog 116 #[.pointer (some ⟨x, xo, none⟩), .pointer (some ⟨f, fo, none⟩), .int .i64 cycles] W Q :=
 Sx.sound Tryz.func116 (.node [] [] 0 .leaf (.node [] [] 0 (.node [] [] 1010 .leaf .leaf) .leaf)) [Value.pointer (some ⟨x, xo, none⟩), .pointer (some ⟨f, fo, none⟩), .int .i64 cycles] rfl (Eq.mp (by kernel_rfl) hVC)
theorem vc107 {W : World} {Q : Ending → World → Prop} (x : Nat) (xo : Nat) (f : Nat) (fo : Nat)
 (hVC :
 ((∃ v : Value, World.cell? W (.mk f (fo + 23) none) = some v) ∧
 (World.frozen? W (.mk f (fo + 23) none) = false ∧
 (∀ W2 : World, (W2 = World.setCell W (.mk f (fo + 23) none) (Value.bool true) →
 (∀ W3 : World, (W3 = World.drew W2 →
 (∃ p : Option Addr, (World.cell? W3 (.mk x xo none) = some (.pointer p) ∧
 (∃ z : Int, (World.cell? W3 (.mk f fo none) = some (.int .i64 z) ∧
 Calls Tryz.prog 140 #[.pointer p, .int .i64 z] W3 (fun e =>
 (fun W4 =>
 (∃ v2 : Value, (e = .returned v2 ∧
 (∃ z2 : Int, (World.cell? W4 (.mk f (fo + 15) none) = some (.int .i64 z2) ∧
 Sx.split (decide (z2 ≥ 0))
 ((∃ z3 : Int, (World.cell? W4 (.mk f (fo + 20) none) = some (.int .i64 z3) ∧
 Sx.split (z3 == -1)
 ((∀ W5 : World, (W5 = World.drew W4 →
 (∃ p2 : Option Addr, (∃ k : Nat, (∃ k2 : Nat, (World.cell? W5 (.mk x (xo + 7) none) = some (.slice p2 k k2) ∧
 (∃ z4 : Int, (World.cell? W5 (.mk f (fo + 15) none) = some (.int .i64 z4) ∧
 (∃ z5 : Int, (World.cell? W5 (.mk f (fo + 17) none) = some (.int .u32 z5) ∧
 (((0 : Int) ≤ z4 ∧
 z4 < (↑k : Int)) ∧
 Sx.adr p2 (fun k3 =>
 (fun k4 =>
 ((∃ v3 : Value, World.cell? W5 (.mk k3 (k4 + Int.toNat z4 * 1) none) = some v3) ∧
 (World.frozen? W5 (.mk k3 (k4 + Int.toNat z4 * 1) none) = false ∧
 (∀ W6 : World, (W6 = World.setCell W5 (.mk k3 (k4 + Int.toNat z4 * 1) none) (Value.int .u32 z5) →
 (∃ z6 : Int, (World.cell? W6 (.mk f (fo + 15) none) = some (.int .i64 z6) ∧
 Sx.split (decide (z6 ≥ 0))
 ((∀ W7 : World, (W7 = World.drew W6 →
 (∃ p3 : Option Addr, (World.cell? W7 (.mk x xo none) = some (.pointer p3) ∧
 (∃ z7 : Int, (World.cell? W7 (.mk f (fo + 15) none) = some (.int .i64 z7) ∧
 Calls Tryz.prog 141 #[.pointer p3, .int .i64 z7] W7 (fun e2 =>
 (fun W8 =>
 (∃ v4 : Value, (e2 = .returned v4 ∧
 (∀ vs : Array Value, (vs = #[.int .u32 0, .int .u32 0, .int .i64 0, .int .u32 0, .int .i64 0, .int .u32 0, .int .u32 0] →
 Calls Tryz.prog 124 #[.pointer (some (Addr.mk x xo none)), .int .i64 3, .pointer (some (Addr.mk f fo none)), .agg vs] W8 (fun e3 =>
 (fun W9 =>
 (e3 = .returned (.tuple #[]) ∧
 Q (.returned (.tuple #[])) W9))))))))))))))))
 ((∀ vs2 : Array Value, (vs2 = #[.int .u32 0, .int .u32 0, .int .i64 0, .int .u32 0, .int .i64 0, .int .u32 0, .int .u32 0] →
 Calls Tryz.prog 124 #[.pointer (some (Addr.mk x xo none)), .int .i64 3, .pointer (some (Addr.mk f fo none)), .agg vs2] W6 (fun e4 =>
 (fun W10 =>
 (e4 = .returned (.tuple #[]) ∧
 Q (.returned (.tuple #[])) W10))))))))))))))))))))))))))
 ((∃ z8 : Int, (World.cell? W4 (.mk f (fo + 15) none) = some (.int .i64 z8) ∧
 Sx.split (decide (z8 ≥ 0))
 ((∀ W11 : World, (W11 = World.drew W4 →
 (∃ p4 : Option Addr, (World.cell? W11 (.mk x xo none) = some (.pointer p4) ∧
 (∃ z9 : Int, (World.cell? W11 (.mk f (fo + 15) none) = some (.int .i64 z9) ∧
 Calls Tryz.prog 141 #[.pointer p4, .int .i64 z9] W11 (fun e5 =>
 (fun W12 =>
 (∃ v5 : Value, (e5 = .returned v5 ∧
 (∀ vs3 : Array Value, (vs3 = #[.int .u32 0, .int .u32 0, .int .i64 0, .int .u32 0, .int .i64 0, .int .u32 0, .int .u32 0] →
 Calls Tryz.prog 124 #[.pointer (some (Addr.mk x xo none)), .int .i64 3, .pointer (some (Addr.mk f fo none)), .agg vs3] W12 (fun e6 =>
 (fun W13 =>
 (e6 = .returned (.tuple #[]) ∧
 Q (.returned (.tuple #[])) W13))))))))))))))))
 ((∀ vs4 : Array Value, (vs4 = #[.int .u32 0, .int .u32 0, .int .i64 0, .int .u32 0, .int .i64 0, .int .u32 0, .int .u32 0] →
 Calls Tryz.prog 124 #[.pointer (some (Addr.mk x xo none)), .int .i64 3, .pointer (some (Addr.mk f fo none)), .agg vs4] W4 (fun e7 =>
 (fun W14 =>
 (e7 = .returned (.tuple #[]) ∧
 Q (.returned (.tuple #[])) W14))))))))))))
 ((∃ z10 : Int, (World.cell? W4 (.mk f (fo + 15) none) = some (.int .i64 z10) ∧
 Sx.split (decide (z10 ≥ 0))
 ((∀ W15 : World, (W15 = World.drew W4 →
 (∃ p5 : Option Addr, (World.cell? W15 (.mk x xo none) = some (.pointer p5) ∧
 (∃ z11 : Int, (World.cell? W15 (.mk f (fo + 15) none) = some (.int .i64 z11) ∧
 Calls Tryz.prog 141 #[.pointer p5, .int .i64 z11] W15 (fun e8 =>
 (fun W16 =>
 (∃ v6 : Value, (e8 = .returned v6 ∧
 (∀ vs5 : Array Value, (vs5 = #[.int .u32 0, .int .u32 0, .int .i64 0, .int .u32 0, .int .i64 0, .int .u32 0, .int .u32 0] →
 Calls Tryz.prog 124 #[.pointer (some (Addr.mk x xo none)), .int .i64 3, .pointer (some (Addr.mk f fo none)), .agg vs5] W16 (fun e9 =>
 (fun W17 =>
 (e9 = .returned (.tuple #[]) ∧
 Q (.returned (.tuple #[])) W17))))))))))))))))
 ((∀ vs6 : Array Value, (vs6 = #[.int .u32 0, .int .u32 0, .int .i64 0, .int .u32 0, .int .i64 0, .int .u32 0, .int .u32 0] →
 Calls Tryz.prog 124 #[.pointer (some (Addr.mk x xo none)), .int .i64 3, .pointer (some (Addr.mk f fo none)), .agg vs6] W4 (fun e10 =>
 (fun W18 =>
 (e10 = .returned (.tuple #[]) ∧
 Q (.returned (.tuple #[])) W18)))))))))))))))))))))))))) :
 Calls Tryz.prog 107 #[.pointer (some ⟨x, xo, none⟩), .pointer (some ⟨f, fo, none⟩)] W Q :=
 Sx.sound Tryz.func107 (.node [] [] 0 .leaf (.node [] [] 0 (.node [] [] 1010 .leaf .leaf) (.node [] [] 0 (.node [] [] 0 .leaf (.node [] [] 0 (.node [] [] 15 .leaf .leaf) .leaf)) (.node [] [] 0 (.node [] [] 0 .leaf (.node [] [] 0 (.node [] [] 1010 .leaf .leaf) .leaf)) .leaf)))) [Value.pointer (some ⟨x, xo, none⟩), .pointer (some ⟨f, fo, none⟩)] rfl (Eq.mp (by kernel_rfl) hVC)
theorem vc149 {W : World} {Q : Ending → World → Prop} (x : Nat) (xo : Nat) (f : Nat) (fo : Nat)
 (hVC :
 (∃ t : Bool, (World.cell? W (.mk f (fo + 23) none) = some (.bool t) ∧
 Sx.split (!t)
 ((∃ t2 : Bool, (World.cell? W (.mk f (fo + 22) none) = some (.bool t2) ∧
 Sx.split (!t2)
 (Calls Tryz.prog 116 #[.pointer (some (Addr.mk x xo none)), .pointer (some (Addr.mk f fo none)), .int .i64 0] W (fun e =>
 (fun W2 =>
 (e = .returned (.tuple #[]) ∧
 Calls Tryz.prog 107 #[.pointer (some (Addr.mk x xo none)), .pointer (some (Addr.mk f fo none))] W2 (fun e2 =>
 (fun W3 =>
 (e2 = .returned (.tuple #[]) ∧
 (∃ p : Option Addr, (World.cell? W3 (.mk x xo none) = some (.pointer p) ∧
 Calls Tryz.prog 198 #[.pointer p] W3 (fun e3 =>
 (fun W4 =>
 (∃ z : Int, (∃ v : Value, (e3 = .returned (.tuple #[.int .i64 z, v]) ∧
 (∃ p2 : Option Addr, (∃ k : Nat, (∃ k2 : Nat, (World.cell? W4 (.mk x (xo + 28) none) = some (.slice p2 k k2) ∧
 (((0 : Int) ≤ (1 : Int) ∧
 (1 : Int) ≤ (↑k : Int)) ∧
 ((∃ v2 : Value, World.cell? W4 (.mk x (xo + 28) none) = some v2) ∧
 (World.frozen? W4 (.mk x (xo + 28) none) = false ∧
 (∀ W5 : World, (W5 = World.setCell W4 (.mk x (xo + 28) none) (Value.slice (Sx.sub p2 k2 1 1) (k - 1) (k2 - 1)) →
 Q (.returned (.tuple #[])) W5)))))))))))))))))))))))
 (Calls Tryz.prog 107 #[.pointer (some (Addr.mk x xo none)), .pointer (some (Addr.mk f fo none))] W (fun e4 =>
 (fun W6 =>
 (e4 = .returned (.tuple #[]) ∧
 (∃ p3 : Option Addr, (World.cell? W6 (.mk x xo none) = some (.pointer p3) ∧
 Calls Tryz.prog 198 #[.pointer p3] W6 (fun e5 =>
 (fun W7 =>
 (∃ z2 : Int, (∃ v3 : Value, (e5 = .returned (.tuple #[.int .i64 z2, v3]) ∧
 (∃ p4 : Option Addr, (∃ k3 : Nat, (∃ k4 : Nat, (World.cell? W7 (.mk x (xo + 28) none) = some (.slice p4 k3 k4) ∧
 (((0 : Int) ≤ (1 : Int) ∧
 (1 : Int) ≤ (↑k3 : Int)) ∧
 ((∃ v4 : Value, World.cell? W7 (.mk x (xo + 28) none) = some v4) ∧
 (World.frozen? W7 (.mk x (xo + 28) none) = false ∧
 (∀ W8 : World, (W8 = World.setCell W7 (.mk x (xo + 28) none) (Value.slice (Sx.sub p4 k4 1 1) (k3 - 1) (k4 - 1)) →
 Q (.returned (.tuple #[])) W8)))))))))))))))))))))))
 ((∃ p5 : Option Addr, (World.cell? W (.mk x xo none) = some (.pointer p5) ∧
 Calls Tryz.prog 198 #[.pointer p5] W (fun e6 =>
 (fun W9 =>
 (∃ z3 : Int, (∃ v5 : Value, (e6 = .returned (.tuple #[.int .i64 z3, v5]) ∧
 (∃ p6 : Option Addr, (∃ k5 : Nat, (∃ k6 : Nat, (World.cell? W9 (.mk x (xo + 28) none) = some (.slice p6 k5 k6) ∧
 (((0 : Int) ≤ (1 : Int) ∧
 (1 : Int) ≤ (↑k5 : Int)) ∧
 ((∃ v6 : Value, World.cell? W9 (.mk x (xo + 28) none) = some v6) ∧
 (World.frozen? W9 (.mk x (xo + 28) none) = false ∧
 (∀ W10 : World, (W10 = World.setCell W9 (.mk x (xo + 28) none) (Value.slice (Sx.sub p6 k6 1 1) (k5 - 1) (k6 - 1)) →
 Q (.returned (.tuple #[])) W10)))))))))))))))))))) :
 Calls Tryz.prog 149 #[.pointer (some ⟨x, xo, none⟩), .pointer (some ⟨f, fo, none⟩)] W Q :=
 Sx.sound Tryz.func149 .leaf [Value.pointer (some ⟨x, xo, none⟩), .pointer (some ⟨f, fo, none⟩)] rfl (Eq.mp (by kernel_rfl) hVC)
theorem vc111 {W : World} {Q : Ending → World → Prop} (x : Nat) (xo : Nat) (f : Nat) (fo : Nat) (cause : Int) (tval : Int)
 (hVC :
 (∀ W2 : World, (W2 = World.drew W →
 (∃ z : Int, (World.cell? W2 (.mk f (fo + 1) none) = some (.int .u32 z) ∧
 (∃ z2 : Int, (World.cell? W2 (.mk f (fo + 2) none) = some (.int .u32 z2) ∧
 (∀ vs : Array Value, (vs = #[.int .u32 z, .int .u32 z2, .int .i64 0, .int .u32 0, .int .i64 cause, .int .u32 tval, .int .u32 0] →
 (∀ k : Nat, (∀ W3 : World, (k = Array.size (World.heap W2) →
 (W3 = World.alloc W2 (Obj.cells #[.int .u32 0, .int .u32 0, .int .i64 0, .int .u32 0, .int .i64 0, .int .u32 0, .int .u32 0] 69) →
 (RowKit.Below (Array.size (World.heap W2)) W2 W3 ∧
 (Array.size vs = 7 ∧
 ((∀ k2 : Nat, (k2 < 7 →
 ((∃ v : Value, World.cell? W3 (.mk k (0 + k2) none) = some v) ∧
 World.frozen? W3 (.mk k (0 + k2) none) = false))) ∧
 ((∀ v2 : Value, (v2 ∈ Array.toList vs →
 Value.oneCell' v2 = true)) ∧
 (∀ W4 : World, (W4 = World.setCells W3 k 0 (Array.toList vs) →
 (∀ W5 : World, (W5 = World.drew W4 →
 (∃ p : Option Addr, (World.cell? W5 (.mk x (xo + 4) none) = some (.pointer p) ∧
 (∃ z3 : Int, (World.cell? W5 (.mk f (fo + 1) none) = some (.int .u32 z3) ∧
 Calls Tryz.prog 147 #[.pointer p, .int .u32 z3, .int .i64 cause, .int .u32 tval] W5 (fun e =>
 (fun W6 =>
 (∃ z4 : Int, (∃ t : Bool, (e = .returned (.tuple #[.int .u32 z4, .bool t]) ∧
 ((∃ v3 : Value, World.cell? W6 (.mk k (0 + 6) none) = some v3) ∧
 (World.frozen? W6 (.mk k (0 + 6) none) = false ∧
 (∀ W7 : World, (W7 = World.setCell W6 (.mk k (0 + 6) none) (Value.int .u32 z4) →
 (∃ vs2 : Array Value, (Array.size vs2 = 7 ∧
 (Sx.cellsAt W7 (.mk k 0 none) vs2 ∧
 Calls Tryz.prog 124 #[.pointer (some (Addr.mk x xo none)), .int .i64 4, .pointer (some (Addr.mk f fo none)), .agg vs2] W7 (fun e2 =>
 (fun W8 =>
 (e2 = .returned (.tuple #[]) ∧
 ((∃ v4 : Value, World.cell? W8 (.mk x (xo + 31) none) = some v4) ∧
 (World.frozen? W8 (.mk x (xo + 31) none) = false ∧
 (∀ W9 : World, (W9 = World.setCell W8 (.mk x (xo + 31) none) (Value.bool !t) →
 Calls Tryz.prog 109 #[.pointer (some (Addr.mk x xo none)), .int .i64 (-1), .int .u32 z4] W9 (fun e3 =>
 (fun W10 =>
 (e3 = .returned (.tuple #[]) ∧
 ((∃ v5 : Value, World.cell? W10 (.mk x (xo + 27) none) = some v5) ∧
 (World.frozen? W10 (.mk x (xo + 27) none) = false ∧
 (∀ W11 : World, (W11 = World.setCell W10 (.mk x (xo + 27) none) (Value.int .u32 z4) →
 Q (.returned (.tuple #[])) W11))))))))))))))))))))))))))))))))))))))))))))))))))) :
 Calls Tryz.prog 111 #[.pointer (some ⟨x, xo, none⟩), .pointer (some ⟨f, fo, none⟩), .int .i64 cause, .int .u32 tval] W Q :=
 Sx.sound Tryz.func111 (.node [] [] 0 (.node [] [] 1013 .leaf .leaf) (.node [] [] 0 (.node [] [] 1012 .leaf .leaf) .leaf)) [Value.pointer (some ⟨x, xo, none⟩), .pointer (some ⟨f, fo, none⟩), .int .i64 cause, .int .u32 tval] rfl (Eq.mp (by kernel_rfl) hVC)
theorem vc109 {W : World} {Q : Ending → World → Prop} (arg0 : Nat) (arg0o : Nat) (arg1 : Int) (arg2 : Int)
 (hVC :
 (∃ p : Option Addr, (World.cell? W (.mk arg0 (arg0o + 2) none) = some (.pointer p) ∧
 Calls Tryz.prog 144 #[.pointer p, .int .i64 arg1] W (fun e =>
 (fun W2 =>
 (e = .returned (.tuple #[]) ∧
 (∃ p2 : Option Addr, (World.cell? W2 (.mk arg0 arg0o none) = some (.pointer p2) ∧
 Calls Tryz.prog 145 #[.pointer p2, .int .i64 arg1] W2 (fun e2 =>
 (fun W3 =>
 (∃ p3 : Option Addr, (∃ k : Nat, (∃ k2 : Nat, (e2 = .returned (.slice p3 k k2) ∧
 (∃ I : Int → World → Prop, (∃ I2 : Int → World → Nat, (I 0 W3 ∧
 ((Nat → Value) →
 (∀ x : Int, (∀ W4 : World, (I x W4 →
 Sx.split (decide (x < (↑k : Int)))
 ((((0 : Int) ≤ x ∧
 x < (↑k : Int)) ∧
 Sx.adr p3 (fun k3 =>
 (fun k4 =>
 (∃ z : Int, (World.cell? W4 (.mk k3 (k4 + Int.toNat x * 1) none) = some (.int .i64 z) ∧
 Calls Tryz.prog 105 #[.pointer (some (Addr.mk arg0 arg0o none)), .int .i64 z] W4 (fun e3 =>
 (fun W5 =>
 (∃ p4 : Option Addr, (e3 = .returned (.pointer p4) ∧
 Sx.ptr p4 (fun a =>
 (∃ z2 : Int, (World.cell? W5 (Addr.add a 15) = some (.int .i64 z2) ∧
 Sx.split (decide (z2 ≥ 0))
 ((∃ p5 : Option Addr, (World.cell? W5 (.mk arg0 (arg0o + 1) none) = some (.pointer p5) ∧
 Sx.ptr p4 (fun a2 =>
 (∃ z3 : Int, (World.cell? W5 (.mk (Addr.block a2) (Addr.off a2 + 3 + 1) none) = some (.int .i64 z3) ∧
 Sx.ptr p4 (fun a3 =>
 (∃ z4 : Int, (World.cell? W5 (Addr.add a3 15) = some (.int .i64 z4) ∧
 Sx.ptr p4 (fun a4 =>
 (∃ z5 : Int, (World.cell? W5 (Addr.add a4 16) = some (.int .i64 z5) ∧
 (∃ v : Value, ((∀ k5 : Nat, Calls Tryz.prog 146 #[.pointer p5, .int .i64 z3, .int .i64 z4, .int .i64 z5] (World.drewN W5 k5) (fun e4 =>
 (fun W6 =>
 (e4 = .returned v ∧
 (∃ k6 : Nat, W6 = World.drewN W5 k6))))) ∧
 (∀ W7 : World, (∀ k7 : Nat, (W7 = World.drewN W5 k7 →
 (∃ p6 : Option Addr, (World.cell? W7 (.mk arg0 arg0o none) = some (.pointer p6) ∧
 Sx.ptr p4 (fun a5 =>
 (∃ z6 : Int, (World.cell? W7 (Addr.add a5 15) = some (.int .i64 z6) ∧
 (∃ v2 : Value, ((∀ k8 : Nat, Calls Tryz.prog 141 #[.pointer p6, .int .i64 z6] (World.drewN W7 k8) (fun e5 =>
 (fun W8 =>
 (e5 = .returned v2 ∧
 (∃ k9 : Nat, W8 = World.drewN W7 k9))))) ∧
 (∀ W9 : World, (∀ k10 : Nat, (W9 = World.drewN W7 k10 →
 (∀ vs : Array Value, (vs = #[.int .u32 0, .int .u32 0, .int .i64 0, .int .u32 0, .int .i64 0, .int .u32 0, .int .u32 0] →
 Calls Tryz.prog 124 #[.pointer (some (Addr.mk arg0 arg0o none)), .int .i64 5, .pointer p4, .agg vs] W9 (fun e6 =>
 (fun W10 =>
 (e6 = .returned (.tuple #[]) ∧
 (∀ z7 : Int, (z7 = IntKind.wrap .i64 (x + 1) →
 (I z7 W10 ∧
 I2 z7 W10 < I2 x W4)))))))))))))))))))))))))))))))))))
 ((∀ vs2 : Array Value, (vs2 = #[.int .u32 0, .int .u32 0, .int .i64 0, .int .u32 0, .int .i64 0, .int .u32 0, .int .u32 0] →
 Calls Tryz.prog 124 #[.pointer (some (Addr.mk arg0 arg0o none)), .int .i64 5, .pointer p4, .agg vs2] W5 (fun e7 =>
 (fun W11 =>
 (e7 = .returned (.tuple #[]) ∧
 (∀ z8 : Int, (z8 = IntKind.wrap .i64 (x + 1) →
 (I z8 W11 ∧
 I2 z8 W11 < I2 x W4))))))))))))))))))))))
 ((∃ p7 : Option Addr, (∃ k11 : Nat, (∃ k12 : Nat, (World.cell? W4 (.mk arg0 (arg0o + 28) none) = some (.slice p7 k11 k12) ∧
 (∃ I3 : Int → World → Prop, (∃ I4 : Int → World → Nat, (I3 0 W4 ∧
 ((Nat → Value) →
 (∀ x2 : Int, (∀ W12 : World, (I3 x2 W12 →
 Sx.split (decide (x2 < (↑k11 : Int)))
 ((((0 : Int) ≤ x2 ∧
 x2 < (↑k11 : Int)) ∧
 Sx.adr p7 (fun k13 =>
 (fun k14 =>
 (∃ p8 : Option Addr, (World.cell? W12 (.mk k13 (k14 + Int.toNat x2 * 1) none) = some (.pointer p8) ∧
 Sx.ptr p8 (fun a6 =>
 (∃ z9 : Int, (World.cell? W12 (Addr.add a6 0) = some (.int .i64 z9) ∧
 Sx.split (decide (z9 > arg1))
 ((∃ p9 : Option Addr, (∃ k15 : Nat, (∃ k16 : Nat, (World.cell? W12 (.mk arg0 (arg0o + 28) none) = some (.slice p9 k15 k16) ∧
 (((0 : Int) ≤ x2 ∧
 x2 ≤ (↑k16 : Int)) ∧
 ((∃ v3 : Value, World.cell? W12 (.mk arg0 (arg0o + 28) none) = some v3) ∧
 (World.frozen? W12 (.mk arg0 (arg0o + 28) none) = false ∧
 (∀ W13 : World, (W13 = World.setCell W12 (.mk arg0 (arg0o + 28) none) (Value.slice p9 (Int.toNat x2) k16) →
 ((∃ v4 : Value, World.cell? W13 (.mk arg0 (arg0o + 26) none) = some v4) ∧
 (World.frozen? W13 (.mk arg0 (arg0o + 26) none) = false ∧
 (∀ W14 : World, (W14 = World.setCell W13 (.mk arg0 (arg0o + 26) none) (Value.int .u32 arg2) →
 ((∃ v5 : Value, World.cell? W14 (.mk arg0 (arg0o + 33) none) = some v5) ∧
 (World.frozen? W14 (.mk arg0 (arg0o + 33) none) = false ∧
 (∀ W15 : World, (W15 = World.setCell W14 (.mk arg0 (arg0o + 33) none) (Value.bool false) →
 Q (.returned (.tuple #[])) W15))))))))))))))))))
 ((∀ z10 : Int, (z10 = IntKind.wrap .i64 (x2 + 1) →
 (I3 z10 W12 ∧
 I4 z10 W12 < I4 x2 W12)))))))))))))
 (((∃ v6 : Value, World.cell? W12 (.mk arg0 (arg0o + 26) none) = some v6) ∧
 (World.frozen? W12 (.mk arg0 (arg0o + 26) none) = false ∧
 (∀ W16 : World, (W16 = World.setCell W12 (.mk arg0 (arg0o + 26) none) (Value.int .u32 arg2) →
 ((∃ v7 : Value, World.cell? W16 (.mk arg0 (arg0o + 33) none) = some v7) ∧
 (World.frozen? W16 (.mk arg0 (arg0o + 33) none) = false ∧
 (∀ W17 : World, (W17 = World.setCell W16 (.mk arg0 (arg0o + 33) none) (Value.bool false) →
 Q (.returned (.tuple #[])) W17)))))))))))))))))))))))))))))))))))))))))) :
 Calls Tryz.prog 109 #[.pointer (some ⟨arg0, arg0o, none⟩), .int .i64 arg1, .int .u32 arg2] W Q :=
 Sx.sound Tryz.func109 (.node [] [] 0 .leaf (.node [] [] 0 (.node [] [] 0 .leaf (.node [] [] 0 (.node [(26, .int .i64)] [25, 24, 0, 1, 2] 0 .leaf .leaf) .leaf)) (.node [] [] 0 (.node [] [] 0 .leaf (.node [] [] 0 (.node [(77, .int .i64)] [76, 75, 1, 0, 2] 0 .leaf .leaf) .leaf)) .leaf))) [Value.pointer (some ⟨arg0, arg0o, none⟩), .int .i64 arg1, .int .u32 arg2] rfl (Eq.mp (by kernel_rfl) hVC)
theorem vc148 {W : World} {Q : Ending → World → Prop} (arg0 : Nat) (arg0o : Nat) (arg1 : Nat) (arg1o : Nat)
 (hVC :
 (∃ t : Bool, (World.cell? W (.mk arg1 (arg1o + 22) none) = some (.bool t) ∧
 Sx.split t
 (Q (.returned (.bool false)) W)
 ((∃ z : Int, (World.cell? W (.mk arg1 (arg1o + 1) none) = some (.int .u32 z) ∧
 (∀ z2 : Int, (z2 = IntKind.wrap .u32 (z + 4) →
 ((∃ v : Value, World.cell? W (.mk arg1 (arg1o + 18) none) = some v) ∧
 (World.frozen? W (.mk arg1 (arg1o + 18) none) = false ∧
 (∀ W2 : World, (W2 = World.setCell W (.mk arg1 (arg1o + 18) none) (Value.int .u32 z2) →
 (∃ z3 : Int, (World.cell? W2 (.mk arg1 (arg1o + 20) none) = some (.int .i64 z3) ∧
 Sx.split (z3 != -1)
 (Q (.returned (.bool true)) W2)
 ((∃ z4 : Int, (World.cell? W2 (.mk arg1 (arg1o + 8) none) = some (.int .i64 z4) ∧
 Sx.split (z4 == 4)
 (Calls Tryz.prog 164 #[.pointer (some (Addr.mk arg0 arg0o none)), .pointer (some (Addr.mk arg1 arg1o none))] W2 (fun e =>
 (fun W3 =>
 (∃ t2 : Bool, (e = .returned (.bool t2) ∧
 Sx.split (!t2)
 (Q (.returned (.bool true)) W3)
 (Calls Tryz.prog 168 #[.pointer (some (Addr.mk arg0 arg0o none)), .pointer (some (Addr.mk arg1 arg1o none))] W3 (fun e2 =>
 (fun W4 =>
 (∃ t3 : Bool, (e2 = .returned (.bool t3) ∧
 Q (.returned (.bool t3)) W4))))))))))
 (Sx.split (z4 == 6)
 ((∃ p : Option Addr, (World.cell? W2 (.mk arg0 (arg0o + 2) none) = some (.pointer p) ∧
 Calls Tryz.prog 79 #[.pointer p] W2 (fun e3 =>
 (fun W5 =>
 (∃ vs : Array Value, (∃ t4 : Bool, (e3 = .returned (.tuple #[.agg vs, .bool t4]) ∧
 (∀ k : Nat, (∀ W6 : World, (k = Array.size (World.heap W5) →
 (W6 = World.alloc W5 (Obj.cells #[.int .u32 0, .int .i64 0, .int .u32 0] 233) →
 (Array.size vs = 3 ∧
 ((∀ k2 : Nat, (k2 < 3 →
 ((∃ v2 : Value, World.cell? W6 (.mk k (0 + k2) none) = some v2) ∧
 World.frozen? W6 (.mk k (0 + k2) none) = false))) ∧
 ((∀ v3 : Value, (v3 ∈ Array.toList vs →
 Value.oneCell' v3 = true)) ∧
 (∀ W7 : World, (W7 = World.setCells W6 k 0 (Array.toList vs) →
 Sx.split t4
 (Q (.returned (.bool false)) W7)
 (Calls Tryz.prog 164 #[.pointer (some (Addr.mk arg0 arg0o none)), .pointer (some (Addr.mk arg1 arg1o none))] W7 (fun e4 =>
 (fun W8 =>
 (∃ t5 : Bool, (e4 = .returned (.bool t5) ∧
 Sx.split (!t5)
 (Q (.returned (.bool true)) W8)
 (Calls Tryz.prog 196 #[.pointer (some (Addr.mk arg0 arg0o none)), .pointer (some (Addr.mk arg1 arg1o none))] W8 (fun e5 =>
 (fun W9 =>
 (∃ t6 : Bool, (e5 = .returned (.bool t6) ∧
 Q (.returned (.bool t6)) W9)))))))))))))))))))))))))))
 (Sx.split (z4 == 7)
 (Calls Tryz.prog 197 #[.pointer (some (Addr.mk arg0 arg0o none)), .pointer (some (Addr.mk arg1 arg1o none))] W2 (fun e6 =>
 (fun W10 =>
 (∃ t7 : Bool, (e6 = .returned (.bool t7) ∧
 Q (.returned (.bool t7)) W10)))))
 (Q (.returned (.bool false)) W2)))))))))))))))))))) :
 Calls Tryz.prog 148 #[.pointer (some ⟨arg0, arg0o, none⟩), .pointer (some ⟨arg1, arg1o, none⟩)] W Q :=
 Sx.sound Tryz.func148 .leaf [Value.pointer (some ⟨arg0, arg0o, none⟩), .pointer (some ⟨arg1, arg1o, none⟩)] rfl (Eq.mp (by kernel_rfl) hVC)
theorem vc197 {W : World} {Q : Ending → World → Prop} (arg0 : Nat) (arg0o : Nat) (arg1 : Nat) (arg1o : Nat)
 (hVC :
 (∃ z : Int, (World.cell? W (.mk arg1 (arg1o + 3) none) = some (.int .i64 z) ∧
 Sx.split (z == 57)
 ((∃ p : Option Addr, (World.cell? W (.mk arg0 (arg0o + 2) none) = some (.pointer p) ∧
 Calls Tryz.prog 79 #[.pointer p] W (fun e =>
 (fun W2 =>
 (∃ vs : Array Value, (∃ t : Bool, (e = .returned (.tuple #[.agg vs, .bool t]) ∧
 (∀ k : Nat, (∀ W3 : World, (k = Array.size (World.heap W2) →
 (W3 = World.alloc W2 (Obj.cells #[.int .u32 0, .int .i64 0, .int .u32 0] 233) →
 (Array.size vs = 3 ∧
 ((∀ k2 : Nat, (k2 < 3 →
 ((∃ v : Value, World.cell? W3 (.mk k (0 + k2) none) = some v) ∧
 World.frozen? W3 (.mk k (0 + k2) none) = false))) ∧
 ((∀ v2 : Value, (v2 ∈ Array.toList vs →
 Value.oneCell' v2 = true)) ∧
 (∀ W4 : World, (W4 = World.setCells W3 k 0 (Array.toList vs) →
 Q (.returned (.bool !t)) W4)))))))))))))))))
 (Sx.split (z == 58)
 (((∃ v3 : Value, World.cell? W (.mk arg1 (arg1o + 20) none) = some v3) ∧
 (World.frozen? W (.mk arg1 (arg1o + 20) none) = false ∧
 (∀ W5 : World, (W5 = World.setCell W (.mk arg1 (arg1o + 20) none) (Value.int .i64 11) →
 Q (.returned (.bool true)) W5)))))
 (Sx.split (z == 59)
 ((∃ z2 : Int, (World.cell? W (.mk arg1 (arg1o + 1) none) = some (.int .u32 z2) ∧
 ((∃ v4 : Value, World.cell? W (.mk arg1 (arg1o + 20) none) = some v4) ∧
 (World.frozen? W (.mk arg1 (arg1o + 20) none) = false ∧
 (∀ W6 : World, (W6 = World.setCell W (.mk arg1 (arg1o + 20) none) (Value.int .i64 3) →
 ((∃ v5 : Value, World.cell? W6 (.mk arg1 (arg1o + 21) none) = some v5) ∧
 (World.frozen? W6 (.mk arg1 (arg1o + 21) none) = false ∧
 (∀ W7 : World, (W7 = World.setCell W6 (.mk arg1 (arg1o + 21) none) (Value.int .u32 z2) →
 Q (.returned (.bool true)) W7)))))))))))
 (Sx.split (z == 60)
 ((∃ p2 : Option Addr, (World.cell? W (.mk arg0 (arg0o + 4) none) = some (.pointer p2) ∧
 Calls Tryz.prog 232 #[.pointer p2] W (fun e2 =>
 (fun W8 =>
 (∃ z3 : Int, (e2 = .returned (.int .u32 z3) ∧
 ((∃ v6 : Value, World.cell? W8 (.mk arg1 (arg1o + 18) none) = some v6) ∧
 (World.frozen? W8 (.mk arg1 (arg1o + 18) none) = false ∧
 (∀ W9 : World, (W9 = World.setCell W8 (.mk arg1 (arg1o + 18) none) (Value.int .u32 z3) →
 Q (.returned (.bool true)) W9)))))))))))
 (Sx.split (z == 61)
 (Q (.returned (.bool true)) W)
 ((∃ p3 : Option Addr, (World.cell? W (.mk arg0 (arg0o + 4) none) = some (.pointer p3) ∧
 (∃ vs2 : Array Value, (Array.size vs2 = 5 ∧
 (Sx.cellsAt W (.mk arg1 (arg1o + 3) none) vs2 ∧
 (∃ z4 : Int, (World.cell? W (.mk arg1 (arg1o + 13) none) = some (.int .i64 z4) ∧
 (∃ z5 : Int, ((∀ k3 : Nat, Calls Tryz.prog 158 #[.pointer (some (Addr.mk arg0 arg0o none)), .int .i64 z4] (World.drewN W k3) (fun e3 =>
 (fun W10 =>
 (e3 = .returned (.int .u32 z5) ∧
 (∃ k4 : Nat, W10 = World.drewN W k4))))) ∧
 (∃ z6 : Int, (∃ t2 : Bool, ((∀ k5 : Nat, Calls Tryz.prog 233 #[.pointer p3, .agg vs2, .int .u32 z5] (World.drewN W k5) (fun e4 =>
 (fun W11 =>
 (e4 = .returned (.tuple #[.int .u32 z6, .bool t2]) ∧
 (∃ k6 : Nat, W11 = World.drewN W k6))))) ∧
 (∀ W12 : World, (∀ k7 : Nat, (W12 = World.drewN W k7 →
 ((∃ v7 : Value, World.cell? W12 (.mk arg1 (arg1o + 17) none) = some v7) ∧
 (World.frozen? W12 (.mk arg1 (arg1o + 17) none) = false ∧
 (∀ W13 : World, (W13 = World.setCell W12 (.mk arg1 (arg1o + 17) none) (Value.int .u32 z6) →
 Sx.split (!t2)
 ((∃ z7 : Int, (World.cell? W13 (.mk arg1 (arg1o + 2) none) = some (.int .u32 z7) ∧
 ((∃ v8 : Value, World.cell? W13 (.mk arg1 (arg1o + 20) none) = some v8) ∧
 (World.frozen? W13 (.mk arg1 (arg1o + 20) none) = false ∧
 (∀ W14 : World, (W14 = World.setCell W13 (.mk arg1 (arg1o + 20) none) (Value.int .i64 2) →
 ((∃ v9 : Value, World.cell? W14 (.mk arg1 (arg1o + 21) none) = some v9) ∧
 (World.frozen? W14 (.mk arg1 (arg1o + 21) none) = false ∧
 (∀ W15 : World, (W15 = World.setCell W14 (.mk arg1 (arg1o + 21) none) (Value.int .u32 z7) →
 Q (.returned (.bool true)) W15)))))))))))
 (Q (.returned (.bool true)) W13)))))))))))))))))))))))))))) :
 Calls Tryz.prog 197 #[.pointer (some ⟨arg0, arg0o, none⟩), .pointer (some ⟨arg1, arg1o, none⟩)] W Q :=
 Sx.sound Tryz.func197 .leaf [Value.pointer (some ⟨arg0, arg0o, none⟩), .pointer (some ⟨arg1, arg1o, none⟩)] rfl (Eq.mp (by kernel_rfl) hVC)
theorem vc106 {W : World} {Q : Ending → World → Prop} (s : Option Addr) (sn : Nat) (sc : Nat)
 (hVC :
 Sx.split (Option.isNone s)
 (Q (.returned (.slice none 0 0)) W)
 ((∀ k : Nat, (∀ W2 : World, (k = Array.size (World.heap W) →
 (W2 = World.alloc W (Obj.cells #[] 236) →
 (∃ l : List Value, (∃ l2 : List Value, (XHeap.Sl W2 236 1 (Value.slice (some (Addr.mk k 0 none)) 0 0) 0 l ∧
 ((((sn = 0 ∧
 s = none)) ∨
 ((∃ a : Addr, (s = some a ∧
 (∀ k2 : Nat, (∀ v : Value, (l2[k2]? = some v →
 World.cell? W2 (Addr.add a k2) = some v))))))) ∧
 (List.length l2 = sn * 1 ∧
 ((∀ v2 : Value, (v2 ∈ l2 →
 Value.oneCell' v2 = true)) ∧
 (0 + sn ≤ maxLen ∧
 ((0 + sn) * 8 ≤ 140737488355328 ∧
 (∀ p : Option Addr, (∀ k3 : Nat, (∀ W3 : World, (XHeap.Sl W3 236 1 (Value.slice p (0 + sn) k3) (0 + sn) (l ++ l2) →
 (XHeap.XTouch (fun b => Value.ownBlock (Value.slice (some (Addr.mk k 0 none)) 0 0) = some b) W2 W3 →
 ((∀ k4 : Nat, (Value.ownBlock (Value.slice p (0 + sn) k3) = some k4 →
 ((Value.ownBlock (Value.slice (some (Addr.mk k 0 none)) 0 0) = some k4) ∨
 (Array.size (World.heap W2) ≤ k4)))) →
 (XHeap.Sl W3 236 1 (Value.slice (some (Addr.mk k 0 none)) 0 0) 0 l →
 ((((p = some (Addr.mk k 0 none) ∧
 k3 = 0)) ∨
 ((((XHeap.NilP (some (Addr.mk k 0 none))) ∨
 ((0 : Nat) < (0 : Nat) + sn)) ∧
 (∀ k5 : Nat, (Value.ownBlock (Value.slice p (0 + sn) k3) = some k5 →
 Array.size (World.heap W2) ≤ k5))))) →
 Q (.returned (.slice p (0 + sn) k3)) W3)))))))))))))))))))))) :
 Calls Tryz.prog 106 #[.slice s sn sc] W Q :=
 Sx.sound Tryz.func106 .leaf [Value.slice s sn sc] rfl (Eq.mp (by kernel_rfl) hVC)
theorem vc114 {W : World} {Q : Ending → World → Prop} (x : Option Addr) (xn : Nat) (xc : Nat)
 (hVC :
 (∀ z : Int, (z = IntKind.wrap .u64 (↑xn : Int) →
 Calls Tryz.prog 157 #[.int .u64 z] W (fun e =>
 (fun W2 =>
 (∃ z2 : Int, (e = .returned (.int .i64 z2) ∧
 Calls Tryz.prog 156 #[.slice x xn xc, .int .i64 0, .int .i64 (↑xn : Int), .int .i64 z2] W2 (fun e2 =>
 (fun W3 =>
 (e2 = .returned (.tuple #[]) ∧
 Q (.returned (.tuple #[])) W3)))))))))) :
 Calls Tryz.prog 114 #[.slice x xn xc] W Q :=
 Sx.sound Tryz.func114 .leaf [Value.slice x xn xc] rfl (Eq.mp (by kernel_rfl) hVC)
theorem vc156 {W : World} {Q : Ending → World → Prop} (arg0 : Option Addr) (arg0n : Nat) (arg0c : Nat) (arg1 : Int) (arg2 : Int) (arg3 : Int)
 (hVC :
 (∃ I : Int → Int → Int → Bool → Bool → World → Prop, (∃ I2 : Int → Int → Int → Bool → Bool → World → Nat, (I arg2 arg1 arg3 true true W ∧
 ((Nat → Value) →
 (∀ x : Int, (∀ x2 : Int, (∀ x3 : Int, (∀ x4 : Bool, (∀ x5 : Bool, (∀ W2 : World, (I x x2 x3 x4 x5 W2 →
 (∀ z : Int, (z = IntKind.wrap .i64 (x - x2) →
 Sx.split (decide (z ≤ 12))
 (Calls Tryz.prog 203 #[.slice arg0 arg0n arg0c, .int .i64 x2, .int .i64 x] W2 (fun e =>
 (fun W3 =>
 (e = .returned (.tuple #[]) ∧
 Q (.returned (.tuple #[])) W3))))
 (Sx.split (x3 == 0)
 (Calls Tryz.prog 204 #[.slice arg0 arg0n arg0c, .int .i64 x2, .int .i64 x] W2 (fun e2 =>
 (fun W4 =>
 (e2 = .returned (.tuple #[]) ∧
 Q (.returned (.tuple #[])) W4))))
 (Sx.split (!x4)
 (Calls Tryz.prog 205 #[.slice arg0 arg0n arg0c, .int .i64 x2, .int .i64 x] W2 (fun e3 =>
 (fun W5 =>
 (e3 = .returned (.tuple #[]) ∧
 (∀ z2 : Int, (z2 = IntKind.wrap .i64 (x3 - 1) →
 Calls Tryz.prog 206 #[.slice arg0 arg0n arg0c, .int .i64 x2, .int .i64 x] W5 (fun e4 =>
 (fun W6 =>
 (∃ z3 : Int, (∃ z4 : Int, (e4 = .returned (.tuple #[.int .i64 z3, .int .i64 z4]) ∧
 Sx.split (z4 == 2)
 (Calls Tryz.prog 207 #[.slice arg0 arg0n arg0c, .int .i64 x2, .int .i64 x] W6 (fun e5 =>
 (fun W7 =>
 (e5 = .returned (.tuple #[]) ∧
 (∀ z5 : Int, (z5 = IntKind.wrap .i64 (x - 1) →
 (∀ z6 : Int, (z6 = IntKind.wrap .i64 (z3 - x2) →
 (∀ z7 : Int, (z7 = IntKind.wrap .i64 (z5 - z6) →
 Sx.split x4
 (Sx.split x5
 (Calls Tryz.prog 208 #[.slice arg0 arg0n arg0c, .int .i64 x2, .int .i64 x] W7 (fun e6 =>
 (fun W8 =>
 (∃ t : Bool, (e6 = .returned (.bool t) ∧
 Sx.split t
 (Q (.returned (.tuple #[])) W8)
 (Sx.split (decide (x2 > 0))
 ((∀ z8 : Int, (z8 = IntKind.wrap .i64 (x2 - 1) →
 (((0 : Int) ≤ z8 ∧
 z8 < (↑arg0n : Int)) ∧
 Sx.adr arg0 (fun k =>
 (fun k2 =>
 (∃ z9 : Int, (World.cell? W8 (.mk k (k2 + Int.toNat z8 * 1) none) = some (.int .i64 z9) ∧
 (((0 : Int) ≤ z7 ∧
 z7 < (↑arg0n : Int)) ∧
 Sx.adr arg0 (fun k3 =>
 (fun k4 =>
 (∃ z10 : Int, (World.cell? W8 (.mk k3 (k4 + Int.toNat z7 * 1) none) = some (.int .i64 z10) ∧
 (∃ t2 : Bool, ((∀ k5 : Nat, Calls Tryz.prog 209 #[.int .i64 z9, .int .i64 z10] (World.drewN W8 k5) (fun e7 =>
 (fun W9 =>
 (e7 = .returned (.bool t2) ∧
 (∃ k6 : Nat, W9 = World.drewN W8 k6))))) ∧
 (∀ W10 : World, (∀ k7 : Nat, (W10 = World.drewN W8 k7 →
 Sx.split (!t2)
 (Calls Tryz.prog 210 #[.slice arg0 arg0n arg0c, .int .i64 x2, .int .i64 x, .int .i64 z7] W10 (fun e8 =>
 (fun W11 =>
 (∃ z11 : Int, (e8 = .returned (.int .i64 z11) ∧
 (I x z11 z2 x4 x5 W11 ∧
 I2 x z11 z2 x4 x5 W11 < I2 x x2 x3 x4 x5 W2))))))
 (Calls Tryz.prog 211 #[.slice arg0 arg0n arg0c, .int .i64 x2, .int .i64 x, .int .i64 z7] W10 (fun e9 =>
 (fun W12 =>
 (∃ z12 : Int, (∃ t3 : Bool, (e9 = .returned (.tuple #[.int .i64 z12, .bool t3]) ∧
 (∀ z13 : Int, (z13 = IntKind.wrap .i64 (z12 - x2) →
 (∀ z14 : Int, (z14 = IntKind.wrap .i64 (x - z12) →
 ((8 : Int) ≠ (0 : Int) ∧
 (∀ z15 : Int, (z15 = IntKind.wrap .i64 (Int.tdiv z 8) →
 Sx.split (decide (z13 < z14))
 (Calls Tryz.prog 156 #[.slice arg0 arg0n arg0c, .int .i64 x2, .int .i64 z12, .int .i64 z2] W12 (fun e10 =>
 (fun W13 =>
 (e10 = .returned (.tuple #[]) ∧
 (∀ z16 : Int, (z16 = IntKind.wrap .i64 (z12 + 1) →
 (I x z16 z2 (decide (z13 ≥ z15)) t3 W13 ∧
 I2 x z16 z2 (decide (z13 ≥ z15)) t3 W13 < I2 x x2 x3 x4 x5 W2)))))))
 ((∀ z17 : Int, (z17 = IntKind.wrap .i64 (z12 + 1) →
 Calls Tryz.prog 156 #[.slice arg0 arg0n arg0c, .int .i64 z17, .int .i64 x, .int .i64 z2] W12 (fun e11 =>
 (fun W14 =>
 (e11 = .returned (.tuple #[]) ∧
 (I z12 x2 z2 (decide (z14 ≥ z15)) t3 W14 ∧
 I2 z12 x2 z2 (decide (z14 ≥ z15)) t3 W14 < I2 x x2 x3 x4 x5 W2))))))))))))))))))))))))))))))))))))))
 ((∀ W15 : World, (∀ k8 : Nat, (W15 = World.drewN W8 k8 →
 Calls Tryz.prog 211 #[.slice arg0 arg0n arg0c, .int .i64 x2, .int .i64 x, .int .i64 z7] W15 (fun e12 =>
 (fun W16 =>
 (∃ z18 : Int, (∃ t4 : Bool, (e12 = .returned (.tuple #[.int .i64 z18, .bool t4]) ∧
 (∀ z19 : Int, (z19 = IntKind.wrap .i64 (z18 - x2) →
 (∀ z20 : Int, (z20 = IntKind.wrap .i64 (x - z18) →
 ((8 : Int) ≠ (0 : Int) ∧
 (∀ z21 : Int, (z21 = IntKind.wrap .i64 (Int.tdiv z 8) →
 Sx.split (decide (z19 < z20))
 (Calls Tryz.prog 156 #[.slice arg0 arg0n arg0c, .int .i64 x2, .int .i64 z18, .int .i64 z2] W16 (fun e13 =>
 (fun W17 =>
 (e13 = .returned (.tuple #[]) ∧
 (∀ z22 : Int, (z22 = IntKind.wrap .i64 (z18 + 1) →
 (I x z22 z2 (decide (z19 ≥ z21)) t4 W17 ∧
 I2 x z22 z2 (decide (z19 ≥ z21)) t4 W17 < I2 x x2 x3 x4 x5 W2)))))))
 ((∀ z23 : Int, (z23 = IntKind.wrap .i64 (z18 + 1) →
 Calls Tryz.prog 156 #[.slice arg0 arg0n arg0c, .int .i64 z23, .int .i64 x, .int .i64 z2] W16 (fun e14 =>
 (fun W18 =>
 (e14 = .returned (.tuple #[]) ∧
 (I z18 x2 z2 (decide (z20 ≥ z21)) t4 W18 ∧
 I2 z18 x2 z2 (decide (z20 ≥ z21)) t4 W18 < I2 x x2 x3 x4 x5 W2)))))))))))))))))))))))))))))
 (Sx.split (decide (x2 > 0))
 ((∀ z24 : Int, (z24 = IntKind.wrap .i64 (x2 - 1) →
 (((0 : Int) ≤ z24 ∧
 z24 < (↑arg0n : Int)) ∧
 Sx.adr arg0 (fun k9 =>
 (fun k10 =>
 (∃ z25 : Int, (World.cell? W7 (.mk k9 (k10 + Int.toNat z24 * 1) none) = some (.int .i64 z25) ∧
 (((0 : Int) ≤ z7 ∧
 z7 < (↑arg0n : Int)) ∧
 Sx.adr arg0 (fun k11 =>
 (fun k12 =>
 (∃ z26 : Int, (World.cell? W7 (.mk k11 (k12 + Int.toNat z7 * 1) none) = some (.int .i64 z26) ∧
 (∃ t5 : Bool, ((∀ k13 : Nat, Calls Tryz.prog 209 #[.int .i64 z25, .int .i64 z26] (World.drewN W7 k13) (fun e15 =>
 (fun W19 =>
 (e15 = .returned (.bool t5) ∧
 (∃ k14 : Nat, W19 = World.drewN W7 k14))))) ∧
 (∀ W20 : World, (∀ k15 : Nat, (W20 = World.drewN W7 k15 →
 Sx.split (!t5)
 (Calls Tryz.prog 210 #[.slice arg0 arg0n arg0c, .int .i64 x2, .int .i64 x, .int .i64 z7] W20 (fun e16 =>
 (fun W21 =>
 (∃ z27 : Int, (e16 = .returned (.int .i64 z27) ∧
 (I x z27 z2 x4 x5 W21 ∧
 I2 x z27 z2 x4 x5 W21 < I2 x x2 x3 x4 x5 W2))))))
 (Calls Tryz.prog 211 #[.slice arg0 arg0n arg0c, .int .i64 x2, .int .i64 x, .int .i64 z7] W20 (fun e17 =>
 (fun W22 =>
 (∃ z28 : Int, (∃ t6 : Bool, (e17 = .returned (.tuple #[.int .i64 z28, .bool t6]) ∧
 (∀ z29 : Int, (z29 = IntKind.wrap .i64 (z28 - x2) →
 (∀ z30 : Int, (z30 = IntKind.wrap .i64 (x - z28) →
 ((8 : Int) ≠ (0 : Int) ∧
 (∀ z31 : Int, (z31 = IntKind.wrap .i64 (Int.tdiv z 8) →
 Sx.split (decide (z29 < z30))
 (Calls Tryz.prog 156 #[.slice arg0 arg0n arg0c, .int .i64 x2, .int .i64 z28, .int .i64 z2] W22 (fun e18 =>
 (fun W23 =>
 (e18 = .returned (.tuple #[]) ∧
 (∀ z32 : Int, (z32 = IntKind.wrap .i64 (z28 + 1) →
 (I x z32 z2 (decide (z29 ≥ z31)) t6 W23 ∧
 I2 x z32 z2 (decide (z29 ≥ z31)) t6 W23 < I2 x x2 x3 x4 x5 W2)))))))
 ((∀ z33 : Int, (z33 = IntKind.wrap .i64 (z28 + 1) →
 Calls Tryz.prog 156 #[.slice arg0 arg0n arg0c, .int .i64 z33, .int .i64 x, .int .i64 z2] W22 (fun e19 =>
 (fun W24 =>
 (e19 = .returned (.tuple #[]) ∧
 (I z28 x2 z2 (decide (z30 ≥ z31)) t6 W24 ∧
 I2 z28 x2 z2 (decide (z30 ≥ z31)) t6 W24 < I2 x x2 x3 x4 x5 W2))))))))))))))))))))))))))))))))))))))
 ((∀ W25 : World, (∀ k16 : Nat, (W25 = World.drewN W7 k16 →
 Calls Tryz.prog 211 #[.slice arg0 arg0n arg0c, .int .i64 x2, .int .i64 x, .int .i64 z7] W25 (fun e20 =>
 (fun W26 =>
 (∃ z34 : Int, (∃ t7 : Bool, (e20 = .returned (.tuple #[.int .i64 z34, .bool t7]) ∧
 (∀ z35 : Int, (z35 = IntKind.wrap .i64 (z34 - x2) →
 (∀ z36 : Int, (z36 = IntKind.wrap .i64 (x - z34) →
 ((8 : Int) ≠ (0 : Int) ∧
 (∀ z37 : Int, (z37 = IntKind.wrap .i64 (Int.tdiv z 8) →
 Sx.split (decide (z35 < z36))
 (Calls Tryz.prog 156 #[.slice arg0 arg0n arg0c, .int .i64 x2, .int .i64 z34, .int .i64 z2] W26 (fun e21 =>
 (fun W27 =>
 (e21 = .returned (.tuple #[]) ∧
 (∀ z38 : Int, (z38 = IntKind.wrap .i64 (z34 + 1) →
 (I x z38 z2 (decide (z35 ≥ z37)) t7 W27 ∧
 I2 x z38 z2 (decide (z35 ≥ z37)) t7 W27 < I2 x x2 x3 x4 x5 W2)))))))
 ((∀ z39 : Int, (z39 = IntKind.wrap .i64 (z34 + 1) →
 Calls Tryz.prog 156 #[.slice arg0 arg0n arg0c, .int .i64 z39, .int .i64 x, .int .i64 z2] W26 (fun e22 =>
 (fun W28 =>
 (e22 = .returned (.tuple #[]) ∧
 (I z34 x2 z2 (decide (z36 ≥ z37)) t7 W28 ∧
 I2 z34 x2 z2 (decide (z36 ≥ z37)) t7 W28 < I2 x x2 x3 x4 x5 W2)))))))))))))))))))))))))
 (Sx.split (decide (x2 > 0))
 ((∀ z40 : Int, (z40 = IntKind.wrap .i64 (x2 - 1) →
 (((0 : Int) ≤ z40 ∧
 z40 < (↑arg0n : Int)) ∧
 Sx.adr arg0 (fun k17 =>
 (fun k18 =>
 (∃ z41 : Int, (World.cell? W7 (.mk k17 (k18 + Int.toNat z40 * 1) none) = some (.int .i64 z41) ∧
 (((0 : Int) ≤ z7 ∧
 z7 < (↑arg0n : Int)) ∧
 Sx.adr arg0 (fun k19 =>
 (fun k20 =>
 (∃ z42 : Int, (World.cell? W7 (.mk k19 (k20 + Int.toNat z7 * 1) none) = some (.int .i64 z42) ∧
 (∃ t8 : Bool, ((∀ k21 : Nat, Calls Tryz.prog 209 #[.int .i64 z41, .int .i64 z42] (World.drewN W7 k21) (fun e23 =>
 (fun W29 =>
 (e23 = .returned (.bool t8) ∧
 (∃ k22 : Nat, W29 = World.drewN W7 k22))))) ∧
 (∀ W30 : World, (∀ k23 : Nat, (W30 = World.drewN W7 k23 →
 Sx.split (!t8)
 (Calls Tryz.prog 210 #[.slice arg0 arg0n arg0c, .int .i64 x2, .int .i64 x, .int .i64 z7] W30 (fun e24 =>
 (fun W31 =>
 (∃ z43 : Int, (e24 = .returned (.int .i64 z43) ∧
 (I x z43 z2 x4 x5 W31 ∧
 I2 x z43 z2 x4 x5 W31 < I2 x x2 x3 x4 x5 W2))))))
 (Calls Tryz.prog 211 #[.slice arg0 arg0n arg0c, .int .i64 x2, .int .i64 x, .int .i64 z7] W30 (fun e25 =>
 (fun W32 =>
 (∃ z44 : Int, (∃ t9 : Bool, (e25 = .returned (.tuple #[.int .i64 z44, .bool t9]) ∧
 (∀ z45 : Int, (z45 = IntKind.wrap .i64 (z44 - x2) →
 (∀ z46 : Int, (z46 = IntKind.wrap .i64 (x - z44) →
 ((8 : Int) ≠ (0 : Int) ∧
 (∀ z47 : Int, (z47 = IntKind.wrap .i64 (Int.tdiv z 8) →
 Sx.split (decide (z45 < z46))
 (Calls Tryz.prog 156 #[.slice arg0 arg0n arg0c, .int .i64 x2, .int .i64 z44, .int .i64 z2] W32 (fun e26 =>
 (fun W33 =>
 (e26 = .returned (.tuple #[]) ∧
 (∀ z48 : Int, (z48 = IntKind.wrap .i64 (z44 + 1) →
 (I x z48 z2 (decide (z45 ≥ z47)) t9 W33 ∧
 I2 x z48 z2 (decide (z45 ≥ z47)) t9 W33 < I2 x x2 x3 x4 x5 W2)))))))
 ((∀ z49 : Int, (z49 = IntKind.wrap .i64 (z44 + 1) →
 Calls Tryz.prog 156 #[.slice arg0 arg0n arg0c, .int .i64 z49, .int .i64 x, .int .i64 z2] W32 (fun e27 =>
 (fun W34 =>
 (e27 = .returned (.tuple #[]) ∧
 (I z44 x2 z2 (decide (z46 ≥ z47)) t9 W34 ∧
 I2 z44 x2 z2 (decide (z46 ≥ z47)) t9 W34 < I2 x x2 x3 x4 x5 W2))))))))))))))))))))))))))))))))))))))
 ((∀ W35 : World, (∀ k24 : Nat, (W35 = World.drewN W7 k24 →
 Calls Tryz.prog 211 #[.slice arg0 arg0n arg0c, .int .i64 x2, .int .i64 x, .int .i64 z7] W35 (fun e28 =>
 (fun W36 =>
 (∃ z50 : Int, (∃ t10 : Bool, (e28 = .returned (.tuple #[.int .i64 z50, .bool t10]) ∧
 (∀ z51 : Int, (z51 = IntKind.wrap .i64 (z50 - x2) →
 (∀ z52 : Int, (z52 = IntKind.wrap .i64 (x - z50) →
 ((8 : Int) ≠ (0 : Int) ∧
 (∀ z53 : Int, (z53 = IntKind.wrap .i64 (Int.tdiv z 8) →
 Sx.split (decide (z51 < z52))
 (Calls Tryz.prog 156 #[.slice arg0 arg0n arg0c, .int .i64 x2, .int .i64 z50, .int .i64 z2] W36 (fun e29 =>
 (fun W37 =>
 (e29 = .returned (.tuple #[]) ∧
 (∀ z54 : Int, (z54 = IntKind.wrap .i64 (z50 + 1) →
 (I x z54 z2 (decide (z51 ≥ z53)) t10 W37 ∧
 I2 x z54 z2 (decide (z51 ≥ z53)) t10 W37 < I2 x x2 x3 x4 x5 W2)))))))
 ((∀ z55 : Int, (z55 = IntKind.wrap .i64 (z50 + 1) →
 Calls Tryz.prog 156 #[.slice arg0 arg0n arg0c, .int .i64 z55, .int .i64 x, .int .i64 z2] W36 (fun e30 =>
 (fun W38 =>
 (e30 = .returned (.tuple #[]) ∧
 (I z50 x2 z2 (decide (z52 ≥ z53)) t10 W38 ∧
 I2 z50 x2 z2 (decide (z52 ≥ z53)) t10 W38 < I2 x x2 x3 x4 x5 W2))))))))))))))))))))))))))))))))))
 (Sx.split x4
 (Sx.split x5
 (Sx.split (z4 == 1)
 (Calls Tryz.prog 208 #[.slice arg0 arg0n arg0c, .int .i64 x2, .int .i64 x] W6 (fun e31 =>
 (fun W39 =>
 (∃ t11 : Bool, (e31 = .returned (.bool t11) ∧
 Sx.split t11
 (Q (.returned (.tuple #[])) W39)
 (Sx.split (decide (x2 > 0))
 ((∀ z56 : Int, (z56 = IntKind.wrap .i64 (x2 - 1) →
 (((0 : Int) ≤ z56 ∧
 z56 < (↑arg0n : Int)) ∧
 Sx.adr arg0 (fun k25 =>
 (fun k26 =>
 (∃ z57 : Int, (World.cell? W39 (.mk k25 (k26 + Int.toNat z56 * 1) none) = some (.int .i64 z57) ∧
 (((0 : Int) ≤ z3 ∧
 z3 < (↑arg0n : Int)) ∧
 Sx.adr arg0 (fun k27 =>
 (fun k28 =>
 (∃ z58 : Int, (World.cell? W39 (.mk k27 (k28 + Int.toNat z3 * 1) none) = some (.int .i64 z58) ∧
 (∃ t12 : Bool, ((∀ k29 : Nat, Calls Tryz.prog 209 #[.int .i64 z57, .int .i64 z58] (World.drewN W39 k29) (fun e32 =>
 (fun W40 =>
 (e32 = .returned (.bool t12) ∧
 (∃ k30 : Nat, W40 = World.drewN W39 k30))))) ∧
 (∀ W41 : World, (∀ k31 : Nat, (W41 = World.drewN W39 k31 →
 Sx.split (!t12)
 (Calls Tryz.prog 210 #[.slice arg0 arg0n arg0c, .int .i64 x2, .int .i64 x, .int .i64 z3] W41 (fun e33 =>
 (fun W42 =>
 (∃ z59 : Int, (e33 = .returned (.int .i64 z59) ∧
 (I x z59 z2 x4 x5 W42 ∧
 I2 x z59 z2 x4 x5 W42 < I2 x x2 x3 x4 x5 W2))))))
 (Calls Tryz.prog 211 #[.slice arg0 arg0n arg0c, .int .i64 x2, .int .i64 x, .int .i64 z3] W41 (fun e34 =>
 (fun W43 =>
 (∃ z60 : Int, (∃ t13 : Bool, (e34 = .returned (.tuple #[.int .i64 z60, .bool t13]) ∧
 (∀ z61 : Int, (z61 = IntKind.wrap .i64 (z60 - x2) →
 (∀ z62 : Int, (z62 = IntKind.wrap .i64 (x - z60) →
 ((8 : Int) ≠ (0 : Int) ∧
 (∀ z63 : Int, (z63 = IntKind.wrap .i64 (Int.tdiv z 8) →
 Sx.split (decide (z61 < z62))
 (Calls Tryz.prog 156 #[.slice arg0 arg0n arg0c, .int .i64 x2, .int .i64 z60, .int .i64 z2] W43 (fun e35 =>
 (fun W44 =>
 (e35 = .returned (.tuple #[]) ∧
 (∀ z64 : Int, (z64 = IntKind.wrap .i64 (z60 + 1) →
 (I x z64 z2 (decide (z61 ≥ z63)) t13 W44 ∧
 I2 x z64 z2 (decide (z61 ≥ z63)) t13 W44 < I2 x x2 x3 x4 x5 W2)))))))
 ((∀ z65 : Int, (z65 = IntKind.wrap .i64 (z60 + 1) →
 Calls Tryz.prog 156 #[.slice arg0 arg0n arg0c, .int .i64 z65, .int .i64 x, .int .i64 z2] W43 (fun e36 =>
 (fun W45 =>
 (e36 = .returned (.tuple #[]) ∧
 (I z60 x2 z2 (decide (z62 ≥ z63)) t13 W45 ∧
 I2 z60 x2 z2 (decide (z62 ≥ z63)) t13 W45 < I2 x x2 x3 x4 x5 W2))))))))))))))))))))))))))))))))))))))
 ((∀ W46 : World, (∀ k32 : Nat, (W46 = World.drewN W39 k32 →
 Calls Tryz.prog 211 #[.slice arg0 arg0n arg0c, .int .i64 x2, .int .i64 x, .int .i64 z3] W46 (fun e37 =>
 (fun W47 =>
 (∃ z66 : Int, (∃ t14 : Bool, (e37 = .returned (.tuple #[.int .i64 z66, .bool t14]) ∧
 (∀ z67 : Int, (z67 = IntKind.wrap .i64 (z66 - x2) →
 (∀ z68 : Int, (z68 = IntKind.wrap .i64 (x - z66) →
 ((8 : Int) ≠ (0 : Int) ∧
 (∀ z69 : Int, (z69 = IntKind.wrap .i64 (Int.tdiv z 8) →
 Sx.split (decide (z67 < z68))
 (Calls Tryz.prog 156 #[.slice arg0 arg0n arg0c, .int .i64 x2, .int .i64 z66, .int .i64 z2] W47 (fun e38 =>
 (fun W48 =>
 (e38 = .returned (.tuple #[]) ∧
 (∀ z70 : Int, (z70 = IntKind.wrap .i64 (z66 + 1) →
 (I x z70 z2 (decide (z67 ≥ z69)) t14 W48 ∧
 I2 x z70 z2 (decide (z67 ≥ z69)) t14 W48 < I2 x x2 x3 x4 x5 W2)))))))
 ((∀ z71 : Int, (z71 = IntKind.wrap .i64 (z66 + 1) →
 Calls Tryz.prog 156 #[.slice arg0 arg0n arg0c, .int .i64 z71, .int .i64 x, .int .i64 z2] W47 (fun e39 =>
 (fun W49 =>
 (e39 = .returned (.tuple #[]) ∧
 (I z66 x2 z2 (decide (z68 ≥ z69)) t14 W49 ∧
 I2 z66 x2 z2 (decide (z68 ≥ z69)) t14 W49 < I2 x x2 x3 x4 x5 W2)))))))))))))))))))))))))))))
 (Sx.split (decide (x2 > 0))
 ((∀ z72 : Int, (z72 = IntKind.wrap .i64 (x2 - 1) →
 (((0 : Int) ≤ z72 ∧
 z72 < (↑arg0n : Int)) ∧
 Sx.adr arg0 (fun k33 =>
 (fun k34 =>
 (∃ z73 : Int, (World.cell? W6 (.mk k33 (k34 + Int.toNat z72 * 1) none) = some (.int .i64 z73) ∧
 (((0 : Int) ≤ z3 ∧
 z3 < (↑arg0n : Int)) ∧
 Sx.adr arg0 (fun k35 =>
 (fun k36 =>
 (∃ z74 : Int, (World.cell? W6 (.mk k35 (k36 + Int.toNat z3 * 1) none) = some (.int .i64 z74) ∧
 (∃ t15 : Bool, ((∀ k37 : Nat, Calls Tryz.prog 209 #[.int .i64 z73, .int .i64 z74] (World.drewN W6 k37) (fun e40 =>
 (fun W50 =>
 (e40 = .returned (.bool t15) ∧
 (∃ k38 : Nat, W50 = World.drewN W6 k38))))) ∧
 (∀ W51 : World, (∀ k39 : Nat, (W51 = World.drewN W6 k39 →
 Sx.split (!t15)
 (Calls Tryz.prog 210 #[.slice arg0 arg0n arg0c, .int .i64 x2, .int .i64 x, .int .i64 z3] W51 (fun e41 =>
 (fun W52 =>
 (∃ z75 : Int, (e41 = .returned (.int .i64 z75) ∧
 (I x z75 z2 x4 x5 W52 ∧
 I2 x z75 z2 x4 x5 W52 < I2 x x2 x3 x4 x5 W2))))))
 (Calls Tryz.prog 211 #[.slice arg0 arg0n arg0c, .int .i64 x2, .int .i64 x, .int .i64 z3] W51 (fun e42 =>
 (fun W53 =>
 (∃ z76 : Int, (∃ t16 : Bool, (e42 = .returned (.tuple #[.int .i64 z76, .bool t16]) ∧
 (∀ z77 : Int, (z77 = IntKind.wrap .i64 (z76 - x2) →
 (∀ z78 : Int, (z78 = IntKind.wrap .i64 (x - z76) →
 ((8 : Int) ≠ (0 : Int) ∧
 (∀ z79 : Int, (z79 = IntKind.wrap .i64 (Int.tdiv z 8) →
 Sx.split (decide (z77 < z78))
 (Calls Tryz.prog 156 #[.slice arg0 arg0n arg0c, .int .i64 x2, .int .i64 z76, .int .i64 z2] W53 (fun e43 =>
 (fun W54 =>
 (e43 = .returned (.tuple #[]) ∧
 (∀ z80 : Int, (z80 = IntKind.wrap .i64 (z76 + 1) →
 (I x z80 z2 (decide (z77 ≥ z79)) t16 W54 ∧
 I2 x z80 z2 (decide (z77 ≥ z79)) t16 W54 < I2 x x2 x3 x4 x5 W2)))))))
 ((∀ z81 : Int, (z81 = IntKind.wrap .i64 (z76 + 1) →
 Calls Tryz.prog 156 #[.slice arg0 arg0n arg0c, .int .i64 z81, .int .i64 x, .int .i64 z2] W53 (fun e44 =>
 (fun W55 =>
 (e44 = .returned (.tuple #[]) ∧
 (I z76 x2 z2 (decide (z78 ≥ z79)) t16 W55 ∧
 I2 z76 x2 z2 (decide (z78 ≥ z79)) t16 W55 < I2 x x2 x3 x4 x5 W2))))))))))))))))))))))))))))))))))))))
 ((∀ W56 : World, (∀ k40 : Nat, (W56 = World.drewN W6 k40 →
 Calls Tryz.prog 211 #[.slice arg0 arg0n arg0c, .int .i64 x2, .int .i64 x, .int .i64 z3] W56 (fun e45 =>
 (fun W57 =>
 (∃ z82 : Int, (∃ t17 : Bool, (e45 = .returned (.tuple #[.int .i64 z82, .bool t17]) ∧
 (∀ z83 : Int, (z83 = IntKind.wrap .i64 (z82 - x2) →
 (∀ z84 : Int, (z84 = IntKind.wrap .i64 (x - z82) →
 ((8 : Int) ≠ (0 : Int) ∧
 (∀ z85 : Int, (z85 = IntKind.wrap .i64 (Int.tdiv z 8) →
 Sx.split (decide (z83 < z84))
 (Calls Tryz.prog 156 #[.slice arg0 arg0n arg0c, .int .i64 x2, .int .i64 z82, .int .i64 z2] W57 (fun e46 =>
 (fun W58 =>
 (e46 = .returned (.tuple #[]) ∧
 (∀ z86 : Int, (z86 = IntKind.wrap .i64 (z82 + 1) →
 (I x z86 z2 (decide (z83 ≥ z85)) t17 W58 ∧
 I2 x z86 z2 (decide (z83 ≥ z85)) t17 W58 < I2 x x2 x3 x4 x5 W2)))))))
 ((∀ z87 : Int, (z87 = IntKind.wrap .i64 (z82 + 1) →
 Calls Tryz.prog 156 #[.slice arg0 arg0n arg0c, .int .i64 z87, .int .i64 x, .int .i64 z2] W57 (fun e47 =>
 (fun W59 =>
 (e47 = .returned (.tuple #[]) ∧
 (I z82 x2 z2 (decide (z84 ≥ z85)) t17 W59 ∧
 I2 z82 x2 z2 (decide (z84 ≥ z85)) t17 W59 < I2 x x2 x3 x4 x5 W2)))))))))))))))))))))))))
 (Sx.split (decide (x2 > 0))
 ((∀ z88 : Int, (z88 = IntKind.wrap .i64 (x2 - 1) →
 (((0 : Int) ≤ z88 ∧
 z88 < (↑arg0n : Int)) ∧
 Sx.adr arg0 (fun k41 =>
 (fun k42 =>
 (∃ z89 : Int, (World.cell? W6 (.mk k41 (k42 + Int.toNat z88 * 1) none) = some (.int .i64 z89) ∧
 (((0 : Int) ≤ z3 ∧
 z3 < (↑arg0n : Int)) ∧
 Sx.adr arg0 (fun k43 =>
 (fun k44 =>
 (∃ z90 : Int, (World.cell? W6 (.mk k43 (k44 + Int.toNat z3 * 1) none) = some (.int .i64 z90) ∧
 (∃ t18 : Bool, ((∀ k45 : Nat, Calls Tryz.prog 209 #[.int .i64 z89, .int .i64 z90] (World.drewN W6 k45) (fun e48 =>
 (fun W60 =>
 (e48 = .returned (.bool t18) ∧
 (∃ k46 : Nat, W60 = World.drewN W6 k46))))) ∧
 (∀ W61 : World, (∀ k47 : Nat, (W61 = World.drewN W6 k47 →
 Sx.split (!t18)
 (Calls Tryz.prog 210 #[.slice arg0 arg0n arg0c, .int .i64 x2, .int .i64 x, .int .i64 z3] W61 (fun e49 =>
 (fun W62 =>
 (∃ z91 : Int, (e49 = .returned (.int .i64 z91) ∧
 (I x z91 z2 x4 x5 W62 ∧
 I2 x z91 z2 x4 x5 W62 < I2 x x2 x3 x4 x5 W2))))))
 (Calls Tryz.prog 211 #[.slice arg0 arg0n arg0c, .int .i64 x2, .int .i64 x, .int .i64 z3] W61 (fun e50 =>
 (fun W63 =>
 (∃ z92 : Int, (∃ t19 : Bool, (e50 = .returned (.tuple #[.int .i64 z92, .bool t19]) ∧
 (∀ z93 : Int, (z93 = IntKind.wrap .i64 (z92 - x2) →
 (∀ z94 : Int, (z94 = IntKind.wrap .i64 (x - z92) →
 ((8 : Int) ≠ (0 : Int) ∧
 (∀ z95 : Int, (z95 = IntKind.wrap .i64 (Int.tdiv z 8) →
 Sx.split (decide (z93 < z94))
 (Calls Tryz.prog 156 #[.slice arg0 arg0n arg0c, .int .i64 x2, .int .i64 z92, .int .i64 z2] W63 (fun e51 =>
 (fun W64 =>
 (e51 = .returned (.tuple #[]) ∧
 (∀ z96 : Int, (z96 = IntKind.wrap .i64 (z92 + 1) →
 (I x z96 z2 (decide (z93 ≥ z95)) t19 W64 ∧
 I2 x z96 z2 (decide (z93 ≥ z95)) t19 W64 < I2 x x2 x3 x4 x5 W2)))))))
 ((∀ z97 : Int, (z97 = IntKind.wrap .i64 (z92 + 1) →
 Calls Tryz.prog 156 #[.slice arg0 arg0n arg0c, .int .i64 z97, .int .i64 x, .int .i64 z2] W63 (fun e52 =>
 (fun W65 =>
 (e52 = .returned (.tuple #[]) ∧
 (I z92 x2 z2 (decide (z94 ≥ z95)) t19 W65 ∧
 I2 z92 x2 z2 (decide (z94 ≥ z95)) t19 W65 < I2 x x2 x3 x4 x5 W2))))))))))))))))))))))))))))))))))))))
 ((∀ W66 : World, (∀ k48 : Nat, (W66 = World.drewN W6 k48 →
 Calls Tryz.prog 211 #[.slice arg0 arg0n arg0c, .int .i64 x2, .int .i64 x, .int .i64 z3] W66 (fun e53 =>
 (fun W67 =>
 (∃ z98 : Int, (∃ t20 : Bool, (e53 = .returned (.tuple #[.int .i64 z98, .bool t20]) ∧
 (∀ z99 : Int, (z99 = IntKind.wrap .i64 (z98 - x2) →
 (∀ z100 : Int, (z100 = IntKind.wrap .i64 (x - z98) →
 ((8 : Int) ≠ (0 : Int) ∧
 (∀ z101 : Int, (z101 = IntKind.wrap .i64 (Int.tdiv z 8) →
 Sx.split (decide (z99 < z100))
 (Calls Tryz.prog 156 #[.slice arg0 arg0n arg0c, .int .i64 x2, .int .i64 z98, .int .i64 z2] W67 (fun e54 =>
 (fun W68 =>
 (e54 = .returned (.tuple #[]) ∧
 (∀ z102 : Int, (z102 = IntKind.wrap .i64 (z98 + 1) →
 (I x z102 z2 (decide (z99 ≥ z101)) t20 W68 ∧
 I2 x z102 z2 (decide (z99 ≥ z101)) t20 W68 < I2 x x2 x3 x4 x5 W2)))))))
 ((∀ z103 : Int, (z103 = IntKind.wrap .i64 (z98 + 1) →
 Calls Tryz.prog 156 #[.slice arg0 arg0n arg0c, .int .i64 z103, .int .i64 x, .int .i64 z2] W67 (fun e55 =>
 (fun W69 =>
 (e55 = .returned (.tuple #[]) ∧
 (I z98 x2 z2 (decide (z100 ≥ z101)) t20 W69 ∧
 I2 z98 x2 z2 (decide (z100 ≥ z101)) t20 W69 < I2 x x2 x3 x4 x5 W2)))))))))))))))))))))))))
 (Sx.split (decide (x2 > 0))
 ((∀ z104 : Int, (z104 = IntKind.wrap .i64 (x2 - 1) →
 (((0 : Int) ≤ z104 ∧
 z104 < (↑arg0n : Int)) ∧
 Sx.adr arg0 (fun k49 =>
 (fun k50 =>
 (∃ z105 : Int, (World.cell? W6 (.mk k49 (k50 + Int.toNat z104 * 1) none) = some (.int .i64 z105) ∧
 (((0 : Int) ≤ z3 ∧
 z3 < (↑arg0n : Int)) ∧
 Sx.adr arg0 (fun k51 =>
 (fun k52 =>
 (∃ z106 : Int, (World.cell? W6 (.mk k51 (k52 + Int.toNat z3 * 1) none) = some (.int .i64 z106) ∧
 (∃ t21 : Bool, ((∀ k53 : Nat, Calls Tryz.prog 209 #[.int .i64 z105, .int .i64 z106] (World.drewN W6 k53) (fun e56 =>
 (fun W70 =>
 (e56 = .returned (.bool t21) ∧
 (∃ k54 : Nat, W70 = World.drewN W6 k54))))) ∧
 (∀ W71 : World, (∀ k55 : Nat, (W71 = World.drewN W6 k55 →
 Sx.split (!t21)
 (Calls Tryz.prog 210 #[.slice arg0 arg0n arg0c, .int .i64 x2, .int .i64 x, .int .i64 z3] W71 (fun e57 =>
 (fun W72 =>
 (∃ z107 : Int, (e57 = .returned (.int .i64 z107) ∧
 (I x z107 z2 x4 x5 W72 ∧
 I2 x z107 z2 x4 x5 W72 < I2 x x2 x3 x4 x5 W2))))))
 (Calls Tryz.prog 211 #[.slice arg0 arg0n arg0c, .int .i64 x2, .int .i64 x, .int .i64 z3] W71 (fun e58 =>
 (fun W73 =>
 (∃ z108 : Int, (∃ t22 : Bool, (e58 = .returned (.tuple #[.int .i64 z108, .bool t22]) ∧
 (∀ z109 : Int, (z109 = IntKind.wrap .i64 (z108 - x2) →
 (∀ z110 : Int, (z110 = IntKind.wrap .i64 (x - z108) →
 ((8 : Int) ≠ (0 : Int) ∧
 (∀ z111 : Int, (z111 = IntKind.wrap .i64 (Int.tdiv z 8) →
 Sx.split (decide (z109 < z110))
 (Calls Tryz.prog 156 #[.slice arg0 arg0n arg0c, .int .i64 x2, .int .i64 z108, .int .i64 z2] W73 (fun e59 =>
 (fun W74 =>
 (e59 = .returned (.tuple #[]) ∧
 (∀ z112 : Int, (z112 = IntKind.wrap .i64 (z108 + 1) →
 (I x z112 z2 (decide (z109 ≥ z111)) t22 W74 ∧
 I2 x z112 z2 (decide (z109 ≥ z111)) t22 W74 < I2 x x2 x3 x4 x5 W2)))))))
 ((∀ z113 : Int, (z113 = IntKind.wrap .i64 (z108 + 1) →
 Calls Tryz.prog 156 #[.slice arg0 arg0n arg0c, .int .i64 z113, .int .i64 x, .int .i64 z2] W73 (fun e60 =>
 (fun W75 =>
 (e60 = .returned (.tuple #[]) ∧
 (I z108 x2 z2 (decide (z110 ≥ z111)) t22 W75 ∧
 I2 z108 x2 z2 (decide (z110 ≥ z111)) t22 W75 < I2 x x2 x3 x4 x5 W2))))))))))))))))))))))))))))))))))))))
 ((∀ W76 : World, (∀ k56 : Nat, (W76 = World.drewN W6 k56 →
 Calls Tryz.prog 211 #[.slice arg0 arg0n arg0c, .int .i64 x2, .int .i64 x, .int .i64 z3] W76 (fun e61 =>
 (fun W77 =>
 (∃ z114 : Int, (∃ t23 : Bool, (e61 = .returned (.tuple #[.int .i64 z114, .bool t23]) ∧
 (∀ z115 : Int, (z115 = IntKind.wrap .i64 (z114 - x2) →
 (∀ z116 : Int, (z116 = IntKind.wrap .i64 (x - z114) →
 ((8 : Int) ≠ (0 : Int) ∧
 (∀ z117 : Int, (z117 = IntKind.wrap .i64 (Int.tdiv z 8) →
 Sx.split (decide (z115 < z116))
 (Calls Tryz.prog 156 #[.slice arg0 arg0n arg0c, .int .i64 x2, .int .i64 z114, .int .i64 z2] W77 (fun e62 =>
 (fun W78 =>
 (e62 = .returned (.tuple #[]) ∧
 (∀ z118 : Int, (z118 = IntKind.wrap .i64 (z114 + 1) →
 (I x z118 z2 (decide (z115 ≥ z117)) t23 W78 ∧
 I2 x z118 z2 (decide (z115 ≥ z117)) t23 W78 < I2 x x2 x3 x4 x5 W2)))))))
 ((∀ z119 : Int, (z119 = IntKind.wrap .i64 (z114 + 1) →
 Calls Tryz.prog 156 #[.slice arg0 arg0n arg0c, .int .i64 z119, .int .i64 x, .int .i64 z2] W77 (fun e63 =>
 (fun W79 =>
 (e63 = .returned (.tuple #[]) ∧
 (I z114 x2 z2 (decide (z116 ≥ z117)) t23 W79 ∧
 I2 z114 x2 z2 (decide (z116 ≥ z117)) t23 W79 < I2 x x2 x3 x4 x5 W2))))))))))))))))))))))))))))))))))))
 (Calls Tryz.prog 206 #[.slice arg0 arg0n arg0c, .int .i64 x2, .int .i64 x] W2 (fun e64 =>
 (fun W80 =>
 (∃ z120 : Int, (∃ z121 : Int, (e64 = .returned (.tuple #[.int .i64 z120, .int .i64 z121]) ∧
 Sx.split (z121 == 2)
 (Calls Tryz.prog 207 #[.slice arg0 arg0n arg0c, .int .i64 x2, .int .i64 x] W80 (fun e65 =>
 (fun W81 =>
 (e65 = .returned (.tuple #[]) ∧
 (∀ z122 : Int, (z122 = IntKind.wrap .i64 (x - 1) →
 (∀ z123 : Int, (z123 = IntKind.wrap .i64 (z120 - x2) →
 (∀ z124 : Int, (z124 = IntKind.wrap .i64 (z122 - z123) →
 Sx.split x4
 (Sx.split x5
 (Calls Tryz.prog 208 #[.slice arg0 arg0n arg0c, .int .i64 x2, .int .i64 x] W81 (fun e66 =>
 (fun W82 =>
 (∃ t24 : Bool, (e66 = .returned (.bool t24) ∧
 Sx.split t24
 (Q (.returned (.tuple #[])) W82)
 (Sx.split (decide (x2 > 0))
 ((∀ z125 : Int, (z125 = IntKind.wrap .i64 (x2 - 1) →
 (((0 : Int) ≤ z125 ∧
 z125 < (↑arg0n : Int)) ∧
 Sx.adr arg0 (fun k57 =>
 (fun k58 =>
 (∃ z126 : Int, (World.cell? W82 (.mk k57 (k58 + Int.toNat z125 * 1) none) = some (.int .i64 z126) ∧
 (((0 : Int) ≤ z124 ∧
 z124 < (↑arg0n : Int)) ∧
 Sx.adr arg0 (fun k59 =>
 (fun k60 =>
 (∃ z127 : Int, (World.cell? W82 (.mk k59 (k60 + Int.toNat z124 * 1) none) = some (.int .i64 z127) ∧
 (∃ t25 : Bool, ((∀ k61 : Nat, Calls Tryz.prog 209 #[.int .i64 z126, .int .i64 z127] (World.drewN W82 k61) (fun e67 =>
 (fun W83 =>
 (e67 = .returned (.bool t25) ∧
 (∃ k62 : Nat, W83 = World.drewN W82 k62))))) ∧
 (∀ W84 : World, (∀ k63 : Nat, (W84 = World.drewN W82 k63 →
 Sx.split (!t25)
 (Calls Tryz.prog 210 #[.slice arg0 arg0n arg0c, .int .i64 x2, .int .i64 x, .int .i64 z124] W84 (fun e68 =>
 (fun W85 =>
 (∃ z128 : Int, (e68 = .returned (.int .i64 z128) ∧
 (I x z128 x3 x4 x5 W85 ∧
 I2 x z128 x3 x4 x5 W85 < I2 x x2 x3 x4 x5 W2))))))
 (Calls Tryz.prog 211 #[.slice arg0 arg0n arg0c, .int .i64 x2, .int .i64 x, .int .i64 z124] W84 (fun e69 =>
 (fun W86 =>
 (∃ z129 : Int, (∃ t26 : Bool, (e69 = .returned (.tuple #[.int .i64 z129, .bool t26]) ∧
 (∀ z130 : Int, (z130 = IntKind.wrap .i64 (z129 - x2) →
 (∀ z131 : Int, (z131 = IntKind.wrap .i64 (x - z129) →
 ((8 : Int) ≠ (0 : Int) ∧
 (∀ z132 : Int, (z132 = IntKind.wrap .i64 (Int.tdiv z 8) →
 Sx.split (decide (z130 < z131))
 (Calls Tryz.prog 156 #[.slice arg0 arg0n arg0c, .int .i64 x2, .int .i64 z129, .int .i64 x3] W86 (fun e70 =>
 (fun W87 =>
 (e70 = .returned (.tuple #[]) ∧
 (∀ z133 : Int, (z133 = IntKind.wrap .i64 (z129 + 1) →
 (I x z133 x3 (decide (z130 ≥ z132)) t26 W87 ∧
 I2 x z133 x3 (decide (z130 ≥ z132)) t26 W87 < I2 x x2 x3 x4 x5 W2)))))))
 ((∀ z134 : Int, (z134 = IntKind.wrap .i64 (z129 + 1) →
 Calls Tryz.prog 156 #[.slice arg0 arg0n arg0c, .int .i64 z134, .int .i64 x, .int .i64 x3] W86 (fun e71 =>
 (fun W88 =>
 (e71 = .returned (.tuple #[]) ∧
 (I z129 x2 x3 (decide (z131 ≥ z132)) t26 W88 ∧
 I2 z129 x2 x3 (decide (z131 ≥ z132)) t26 W88 < I2 x x2 x3 x4 x5 W2))))))))))))))))))))))))))))))))))))))
 ((∀ W89 : World, (∀ k64 : Nat, (W89 = World.drewN W82 k64 →
 Calls Tryz.prog 211 #[.slice arg0 arg0n arg0c, .int .i64 x2, .int .i64 x, .int .i64 z124] W89 (fun e72 =>
 (fun W90 =>
 (∃ z135 : Int, (∃ t27 : Bool, (e72 = .returned (.tuple #[.int .i64 z135, .bool t27]) ∧
 (∀ z136 : Int, (z136 = IntKind.wrap .i64 (z135 - x2) →
 (∀ z137 : Int, (z137 = IntKind.wrap .i64 (x - z135) →
 ((8 : Int) ≠ (0 : Int) ∧
 (∀ z138 : Int, (z138 = IntKind.wrap .i64 (Int.tdiv z 8) →
 Sx.split (decide (z136 < z137))
 (Calls Tryz.prog 156 #[.slice arg0 arg0n arg0c, .int .i64 x2, .int .i64 z135, .int .i64 x3] W90 (fun e73 =>
 (fun W91 =>
 (e73 = .returned (.tuple #[]) ∧
 (∀ z139 : Int, (z139 = IntKind.wrap .i64 (z135 + 1) →
 (I x z139 x3 (decide (z136 ≥ z138)) t27 W91 ∧
 I2 x z139 x3 (decide (z136 ≥ z138)) t27 W91 < I2 x x2 x3 x4 x5 W2)))))))
 ((∀ z140 : Int, (z140 = IntKind.wrap .i64 (z135 + 1) →
 Calls Tryz.prog 156 #[.slice arg0 arg0n arg0c, .int .i64 z140, .int .i64 x, .int .i64 x3] W90 (fun e74 =>
 (fun W92 =>
 (e74 = .returned (.tuple #[]) ∧
 (I z135 x2 x3 (decide (z137 ≥ z138)) t27 W92 ∧
 I2 z135 x2 x3 (decide (z137 ≥ z138)) t27 W92 < I2 x x2 x3 x4 x5 W2)))))))))))))))))))))))))))))
 (Sx.split (decide (x2 > 0))
 ((∀ z141 : Int, (z141 = IntKind.wrap .i64 (x2 - 1) →
 (((0 : Int) ≤ z141 ∧
 z141 < (↑arg0n : Int)) ∧
 Sx.adr arg0 (fun k65 =>
 (fun k66 =>
 (∃ z142 : Int, (World.cell? W81 (.mk k65 (k66 + Int.toNat z141 * 1) none) = some (.int .i64 z142) ∧
 (((0 : Int) ≤ z124 ∧
 z124 < (↑arg0n : Int)) ∧
 Sx.adr arg0 (fun k67 =>
 (fun k68 =>
 (∃ z143 : Int, (World.cell? W81 (.mk k67 (k68 + Int.toNat z124 * 1) none) = some (.int .i64 z143) ∧
 (∃ t28 : Bool, ((∀ k69 : Nat, Calls Tryz.prog 209 #[.int .i64 z142, .int .i64 z143] (World.drewN W81 k69) (fun e75 =>
 (fun W93 =>
 (e75 = .returned (.bool t28) ∧
 (∃ k70 : Nat, W93 = World.drewN W81 k70))))) ∧
 (∀ W94 : World, (∀ k71 : Nat, (W94 = World.drewN W81 k71 →
 Sx.split (!t28)
 (Calls Tryz.prog 210 #[.slice arg0 arg0n arg0c, .int .i64 x2, .int .i64 x, .int .i64 z124] W94 (fun e76 =>
 (fun W95 =>
 (∃ z144 : Int, (e76 = .returned (.int .i64 z144) ∧
 (I x z144 x3 x4 x5 W95 ∧
 I2 x z144 x3 x4 x5 W95 < I2 x x2 x3 x4 x5 W2))))))
 (Calls Tryz.prog 211 #[.slice arg0 arg0n arg0c, .int .i64 x2, .int .i64 x, .int .i64 z124] W94 (fun e77 =>
 (fun W96 =>
 (∃ z145 : Int, (∃ t29 : Bool, (e77 = .returned (.tuple #[.int .i64 z145, .bool t29]) ∧
 (∀ z146 : Int, (z146 = IntKind.wrap .i64 (z145 - x2) →
 (∀ z147 : Int, (z147 = IntKind.wrap .i64 (x - z145) →
 ((8 : Int) ≠ (0 : Int) ∧
 (∀ z148 : Int, (z148 = IntKind.wrap .i64 (Int.tdiv z 8) →
 Sx.split (decide (z146 < z147))
 (Calls Tryz.prog 156 #[.slice arg0 arg0n arg0c, .int .i64 x2, .int .i64 z145, .int .i64 x3] W96 (fun e78 =>
 (fun W97 =>
 (e78 = .returned (.tuple #[]) ∧
 (∀ z149 : Int, (z149 = IntKind.wrap .i64 (z145 + 1) →
 (I x z149 x3 (decide (z146 ≥ z148)) t29 W97 ∧
 I2 x z149 x3 (decide (z146 ≥ z148)) t29 W97 < I2 x x2 x3 x4 x5 W2)))))))
 ((∀ z150 : Int, (z150 = IntKind.wrap .i64 (z145 + 1) →
 Calls Tryz.prog 156 #[.slice arg0 arg0n arg0c, .int .i64 z150, .int .i64 x, .int .i64 x3] W96 (fun e79 =>
 (fun W98 =>
 (e79 = .returned (.tuple #[]) ∧
 (I z145 x2 x3 (decide (z147 ≥ z148)) t29 W98 ∧
 I2 z145 x2 x3 (decide (z147 ≥ z148)) t29 W98 < I2 x x2 x3 x4 x5 W2))))))))))))))))))))))))))))))))))))))
 ((∀ W99 : World, (∀ k72 : Nat, (W99 = World.drewN W81 k72 →
 Calls Tryz.prog 211 #[.slice arg0 arg0n arg0c, .int .i64 x2, .int .i64 x, .int .i64 z124] W99 (fun e80 =>
 (fun W100 =>
 (∃ z151 : Int, (∃ t30 : Bool, (e80 = .returned (.tuple #[.int .i64 z151, .bool t30]) ∧
 (∀ z152 : Int, (z152 = IntKind.wrap .i64 (z151 - x2) →
 (∀ z153 : Int, (z153 = IntKind.wrap .i64 (x - z151) →
 ((8 : Int) ≠ (0 : Int) ∧
 (∀ z154 : Int, (z154 = IntKind.wrap .i64 (Int.tdiv z 8) →
 Sx.split (decide (z152 < z153))
 (Calls Tryz.prog 156 #[.slice arg0 arg0n arg0c, .int .i64 x2, .int .i64 z151, .int .i64 x3] W100 (fun e81 =>
 (fun W101 =>
 (e81 = .returned (.tuple #[]) ∧
 (∀ z155 : Int, (z155 = IntKind.wrap .i64 (z151 + 1) →
 (I x z155 x3 (decide (z152 ≥ z154)) t30 W101 ∧
 I2 x z155 x3 (decide (z152 ≥ z154)) t30 W101 < I2 x x2 x3 x4 x5 W2)))))))
 ((∀ z156 : Int, (z156 = IntKind.wrap .i64 (z151 + 1) →
 Calls Tryz.prog 156 #[.slice arg0 arg0n arg0c, .int .i64 z156, .int .i64 x, .int .i64 x3] W100 (fun e82 =>
 (fun W102 =>
 (e82 = .returned (.tuple #[]) ∧
 (I z151 x2 x3 (decide (z153 ≥ z154)) t30 W102 ∧
 I2 z151 x2 x3 (decide (z153 ≥ z154)) t30 W102 < I2 x x2 x3 x4 x5 W2)))))))))))))))))))))))))
 (Sx.split (decide (x2 > 0))
 ((∀ z157 : Int, (z157 = IntKind.wrap .i64 (x2 - 1) →
 (((0 : Int) ≤ z157 ∧
 z157 < (↑arg0n : Int)) ∧
 Sx.adr arg0 (fun k73 =>
 (fun k74 =>
 (∃ z158 : Int, (World.cell? W81 (.mk k73 (k74 + Int.toNat z157 * 1) none) = some (.int .i64 z158) ∧
 (((0 : Int) ≤ z124 ∧
 z124 < (↑arg0n : Int)) ∧
 Sx.adr arg0 (fun k75 =>
 (fun k76 =>
 (∃ z159 : Int, (World.cell? W81 (.mk k75 (k76 + Int.toNat z124 * 1) none) = some (.int .i64 z159) ∧
 (∃ t31 : Bool, ((∀ k77 : Nat, Calls Tryz.prog 209 #[.int .i64 z158, .int .i64 z159] (World.drewN W81 k77) (fun e83 =>
 (fun W103 =>
 (e83 = .returned (.bool t31) ∧
 (∃ k78 : Nat, W103 = World.drewN W81 k78))))) ∧
 (∀ W104 : World, (∀ k79 : Nat, (W104 = World.drewN W81 k79 →
 Sx.split (!t31)
 (Calls Tryz.prog 210 #[.slice arg0 arg0n arg0c, .int .i64 x2, .int .i64 x, .int .i64 z124] W104 (fun e84 =>
 (fun W105 =>
 (∃ z160 : Int, (e84 = .returned (.int .i64 z160) ∧
 (I x z160 x3 x4 x5 W105 ∧
 I2 x z160 x3 x4 x5 W105 < I2 x x2 x3 x4 x5 W2))))))
 (Calls Tryz.prog 211 #[.slice arg0 arg0n arg0c, .int .i64 x2, .int .i64 x, .int .i64 z124] W104 (fun e85 =>
 (fun W106 =>
 (∃ z161 : Int, (∃ t32 : Bool, (e85 = .returned (.tuple #[.int .i64 z161, .bool t32]) ∧
 (∀ z162 : Int, (z162 = IntKind.wrap .i64 (z161 - x2) →
 (∀ z163 : Int, (z163 = IntKind.wrap .i64 (x - z161) →
 ((8 : Int) ≠ (0 : Int) ∧
 (∀ z164 : Int, (z164 = IntKind.wrap .i64 (Int.tdiv z 8) →
 Sx.split (decide (z162 < z163))
 (Calls Tryz.prog 156 #[.slice arg0 arg0n arg0c, .int .i64 x2, .int .i64 z161, .int .i64 x3] W106 (fun e86 =>
 (fun W107 =>
 (e86 = .returned (.tuple #[]) ∧
 (∀ z165 : Int, (z165 = IntKind.wrap .i64 (z161 + 1) →
 (I x z165 x3 (decide (z162 ≥ z164)) t32 W107 ∧
 I2 x z165 x3 (decide (z162 ≥ z164)) t32 W107 < I2 x x2 x3 x4 x5 W2)))))))
 ((∀ z166 : Int, (z166 = IntKind.wrap .i64 (z161 + 1) →
 Calls Tryz.prog 156 #[.slice arg0 arg0n arg0c, .int .i64 z166, .int .i64 x, .int .i64 x3] W106 (fun e87 =>
 (fun W108 =>
 (e87 = .returned (.tuple #[]) ∧
 (I z161 x2 x3 (decide (z163 ≥ z164)) t32 W108 ∧
 I2 z161 x2 x3 (decide (z163 ≥ z164)) t32 W108 < I2 x x2 x3 x4 x5 W2))))))))))))))))))))))))))))))))))))))
 ((∀ W109 : World, (∀ k80 : Nat, (W109 = World.drewN W81 k80 →
 Calls Tryz.prog 211 #[.slice arg0 arg0n arg0c, .int .i64 x2, .int .i64 x, .int .i64 z124] W109 (fun e88 =>
 (fun W110 =>
 (∃ z167 : Int, (∃ t33 : Bool, (e88 = .returned (.tuple #[.int .i64 z167, .bool t33]) ∧
 (∀ z168 : Int, (z168 = IntKind.wrap .i64 (z167 - x2) →
 (∀ z169 : Int, (z169 = IntKind.wrap .i64 (x - z167) →
 ((8 : Int) ≠ (0 : Int) ∧
 (∀ z170 : Int, (z170 = IntKind.wrap .i64 (Int.tdiv z 8) →
 Sx.split (decide (z168 < z169))
 (Calls Tryz.prog 156 #[.slice arg0 arg0n arg0c, .int .i64 x2, .int .i64 z167, .int .i64 x3] W110 (fun e89 =>
 (fun W111 =>
 (e89 = .returned (.tuple #[]) ∧
 (∀ z171 : Int, (z171 = IntKind.wrap .i64 (z167 + 1) →
 (I x z171 x3 (decide (z168 ≥ z170)) t33 W111 ∧
 I2 x z171 x3 (decide (z168 ≥ z170)) t33 W111 < I2 x x2 x3 x4 x5 W2)))))))
 ((∀ z172 : Int, (z172 = IntKind.wrap .i64 (z167 + 1) →
 Calls Tryz.prog 156 #[.slice arg0 arg0n arg0c, .int .i64 z172, .int .i64 x, .int .i64 x3] W110 (fun e90 =>
 (fun W112 =>
 (e90 = .returned (.tuple #[]) ∧
 (I z167 x2 x3 (decide (z169 ≥ z170)) t33 W112 ∧
 I2 z167 x2 x3 (decide (z169 ≥ z170)) t33 W112 < I2 x x2 x3 x4 x5 W2))))))))))))))))))))))))))))))))))
 (Sx.split x4
 (Sx.split x5
 (Sx.split (z121 == 1)
 (Calls Tryz.prog 208 #[.slice arg0 arg0n arg0c, .int .i64 x2, .int .i64 x] W80 (fun e91 =>
 (fun W113 =>
 (∃ t34 : Bool, (e91 = .returned (.bool t34) ∧
 Sx.split t34
 (Q (.returned (.tuple #[])) W113)
 (Sx.split (decide (x2 > 0))
 ((∀ z173 : Int, (z173 = IntKind.wrap .i64 (x2 - 1) →
 (((0 : Int) ≤ z173 ∧
 z173 < (↑arg0n : Int)) ∧
 Sx.adr arg0 (fun k81 =>
 (fun k82 =>
 (∃ z174 : Int, (World.cell? W113 (.mk k81 (k82 + Int.toNat z173 * 1) none) = some (.int .i64 z174) ∧
 (((0 : Int) ≤ z120 ∧
 z120 < (↑arg0n : Int)) ∧
 Sx.adr arg0 (fun k83 =>
 (fun k84 =>
 (∃ z175 : Int, (World.cell? W113 (.mk k83 (k84 + Int.toNat z120 * 1) none) = some (.int .i64 z175) ∧
 (∃ t35 : Bool, ((∀ k85 : Nat, Calls Tryz.prog 209 #[.int .i64 z174, .int .i64 z175] (World.drewN W113 k85) (fun e92 =>
 (fun W114 =>
 (e92 = .returned (.bool t35) ∧
 (∃ k86 : Nat, W114 = World.drewN W113 k86))))) ∧
 (∀ W115 : World, (∀ k87 : Nat, (W115 = World.drewN W113 k87 →
 Sx.split (!t35)
 (Calls Tryz.prog 210 #[.slice arg0 arg0n arg0c, .int .i64 x2, .int .i64 x, .int .i64 z120] W115 (fun e93 =>
 (fun W116 =>
 (∃ z176 : Int, (e93 = .returned (.int .i64 z176) ∧
 (I x z176 x3 x4 x5 W116 ∧
 I2 x z176 x3 x4 x5 W116 < I2 x x2 x3 x4 x5 W2))))))
 (Calls Tryz.prog 211 #[.slice arg0 arg0n arg0c, .int .i64 x2, .int .i64 x, .int .i64 z120] W115 (fun e94 =>
 (fun W117 =>
 (∃ z177 : Int, (∃ t36 : Bool, (e94 = .returned (.tuple #[.int .i64 z177, .bool t36]) ∧
 (∀ z178 : Int, (z178 = IntKind.wrap .i64 (z177 - x2) →
 (∀ z179 : Int, (z179 = IntKind.wrap .i64 (x - z177) →
 ((8 : Int) ≠ (0 : Int) ∧
 (∀ z180 : Int, (z180 = IntKind.wrap .i64 (Int.tdiv z 8) →
 Sx.split (decide (z178 < z179))
 (Calls Tryz.prog 156 #[.slice arg0 arg0n arg0c, .int .i64 x2, .int .i64 z177, .int .i64 x3] W117 (fun e95 =>
 (fun W118 =>
 (e95 = .returned (.tuple #[]) ∧
 (∀ z181 : Int, (z181 = IntKind.wrap .i64 (z177 + 1) →
 (I x z181 x3 (decide (z178 ≥ z180)) t36 W118 ∧
 I2 x z181 x3 (decide (z178 ≥ z180)) t36 W118 < I2 x x2 x3 x4 x5 W2)))))))
 ((∀ z182 : Int, (z182 = IntKind.wrap .i64 (z177 + 1) →
 Calls Tryz.prog 156 #[.slice arg0 arg0n arg0c, .int .i64 z182, .int .i64 x, .int .i64 x3] W117 (fun e96 =>
 (fun W119 =>
 (e96 = .returned (.tuple #[]) ∧
 (I z177 x2 x3 (decide (z179 ≥ z180)) t36 W119 ∧
 I2 z177 x2 x3 (decide (z179 ≥ z180)) t36 W119 < I2 x x2 x3 x4 x5 W2))))))))))))))))))))))))))))))))))))))
 ((∀ W120 : World, (∀ k88 : Nat, (W120 = World.drewN W113 k88 →
 Calls Tryz.prog 211 #[.slice arg0 arg0n arg0c, .int .i64 x2, .int .i64 x, .int .i64 z120] W120 (fun e97 =>
 (fun W121 =>
 (∃ z183 : Int, (∃ t37 : Bool, (e97 = .returned (.tuple #[.int .i64 z183, .bool t37]) ∧
 (∀ z184 : Int, (z184 = IntKind.wrap .i64 (z183 - x2) →
 (∀ z185 : Int, (z185 = IntKind.wrap .i64 (x - z183) →
 ((8 : Int) ≠ (0 : Int) ∧
 (∀ z186 : Int, (z186 = IntKind.wrap .i64 (Int.tdiv z 8) →
 Sx.split (decide (z184 < z185))
 (Calls Tryz.prog 156 #[.slice arg0 arg0n arg0c, .int .i64 x2, .int .i64 z183, .int .i64 x3] W121 (fun e98 =>
 (fun W122 =>
 (e98 = .returned (.tuple #[]) ∧
 (∀ z187 : Int, (z187 = IntKind.wrap .i64 (z183 + 1) →
 (I x z187 x3 (decide (z184 ≥ z186)) t37 W122 ∧
 I2 x z187 x3 (decide (z184 ≥ z186)) t37 W122 < I2 x x2 x3 x4 x5 W2)))))))
 ((∀ z188 : Int, (z188 = IntKind.wrap .i64 (z183 + 1) →
 Calls Tryz.prog 156 #[.slice arg0 arg0n arg0c, .int .i64 z188, .int .i64 x, .int .i64 x3] W121 (fun e99 =>
 (fun W123 =>
 (e99 = .returned (.tuple #[]) ∧
 (I z183 x2 x3 (decide (z185 ≥ z186)) t37 W123 ∧
 I2 z183 x2 x3 (decide (z185 ≥ z186)) t37 W123 < I2 x x2 x3 x4 x5 W2)))))))))))))))))))))))))))))
 (Sx.split (decide (x2 > 0))
 ((∀ z189 : Int, (z189 = IntKind.wrap .i64 (x2 - 1) →
 (((0 : Int) ≤ z189 ∧
 z189 < (↑arg0n : Int)) ∧
 Sx.adr arg0 (fun k89 =>
 (fun k90 =>
 (∃ z190 : Int, (World.cell? W80 (.mk k89 (k90 + Int.toNat z189 * 1) none) = some (.int .i64 z190) ∧
 (((0 : Int) ≤ z120 ∧
 z120 < (↑arg0n : Int)) ∧
 Sx.adr arg0 (fun k91 =>
 (fun k92 =>
 (∃ z191 : Int, (World.cell? W80 (.mk k91 (k92 + Int.toNat z120 * 1) none) = some (.int .i64 z191) ∧
 (∃ t38 : Bool, ((∀ k93 : Nat, Calls Tryz.prog 209 #[.int .i64 z190, .int .i64 z191] (World.drewN W80 k93) (fun e100 =>
 (fun W124 =>
 (e100 = .returned (.bool t38) ∧
 (∃ k94 : Nat, W124 = World.drewN W80 k94))))) ∧
 (∀ W125 : World, (∀ k95 : Nat, (W125 = World.drewN W80 k95 →
 Sx.split (!t38)
 (Calls Tryz.prog 210 #[.slice arg0 arg0n arg0c, .int .i64 x2, .int .i64 x, .int .i64 z120] W125 (fun e101 =>
 (fun W126 =>
 (∃ z192 : Int, (e101 = .returned (.int .i64 z192) ∧
 (I x z192 x3 x4 x5 W126 ∧
 I2 x z192 x3 x4 x5 W126 < I2 x x2 x3 x4 x5 W2))))))
 (Calls Tryz.prog 211 #[.slice arg0 arg0n arg0c, .int .i64 x2, .int .i64 x, .int .i64 z120] W125 (fun e102 =>
 (fun W127 =>
 (∃ z193 : Int, (∃ t39 : Bool, (e102 = .returned (.tuple #[.int .i64 z193, .bool t39]) ∧
 (∀ z194 : Int, (z194 = IntKind.wrap .i64 (z193 - x2) →
 (∀ z195 : Int, (z195 = IntKind.wrap .i64 (x - z193) →
 ((8 : Int) ≠ (0 : Int) ∧
 (∀ z196 : Int, (z196 = IntKind.wrap .i64 (Int.tdiv z 8) →
 Sx.split (decide (z194 < z195))
 (Calls Tryz.prog 156 #[.slice arg0 arg0n arg0c, .int .i64 x2, .int .i64 z193, .int .i64 x3] W127 (fun e103 =>
 (fun W128 =>
 (e103 = .returned (.tuple #[]) ∧
 (∀ z197 : Int, (z197 = IntKind.wrap .i64 (z193 + 1) →
 (I x z197 x3 (decide (z194 ≥ z196)) t39 W128 ∧
 I2 x z197 x3 (decide (z194 ≥ z196)) t39 W128 < I2 x x2 x3 x4 x5 W2)))))))
 ((∀ z198 : Int, (z198 = IntKind.wrap .i64 (z193 + 1) →
 Calls Tryz.prog 156 #[.slice arg0 arg0n arg0c, .int .i64 z198, .int .i64 x, .int .i64 x3] W127 (fun e104 =>
 (fun W129 =>
 (e104 = .returned (.tuple #[]) ∧
 (I z193 x2 x3 (decide (z195 ≥ z196)) t39 W129 ∧
 I2 z193 x2 x3 (decide (z195 ≥ z196)) t39 W129 < I2 x x2 x3 x4 x5 W2))))))))))))))))))))))))))))))))))))))
 ((∀ W130 : World, (∀ k96 : Nat, (W130 = World.drewN W80 k96 →
 Calls Tryz.prog 211 #[.slice arg0 arg0n arg0c, .int .i64 x2, .int .i64 x, .int .i64 z120] W130 (fun e105 =>
 (fun W131 =>
 (∃ z199 : Int, (∃ t40 : Bool, (e105 = .returned (.tuple #[.int .i64 z199, .bool t40]) ∧
 (∀ z200 : Int, (z200 = IntKind.wrap .i64 (z199 - x2) →
 (∀ z201 : Int, (z201 = IntKind.wrap .i64 (x - z199) →
 ((8 : Int) ≠ (0 : Int) ∧
 (∀ z202 : Int, (z202 = IntKind.wrap .i64 (Int.tdiv z 8) →
 Sx.split (decide (z200 < z201))
 (Calls Tryz.prog 156 #[.slice arg0 arg0n arg0c, .int .i64 x2, .int .i64 z199, .int .i64 x3] W131 (fun e106 =>
 (fun W132 =>
 (e106 = .returned (.tuple #[]) ∧
 (∀ z203 : Int, (z203 = IntKind.wrap .i64 (z199 + 1) →
 (I x z203 x3 (decide (z200 ≥ z202)) t40 W132 ∧
 I2 x z203 x3 (decide (z200 ≥ z202)) t40 W132 < I2 x x2 x3 x4 x5 W2)))))))
 ((∀ z204 : Int, (z204 = IntKind.wrap .i64 (z199 + 1) →
 Calls Tryz.prog 156 #[.slice arg0 arg0n arg0c, .int .i64 z204, .int .i64 x, .int .i64 x3] W131 (fun e107 =>
 (fun W133 =>
 (e107 = .returned (.tuple #[]) ∧
 (I z199 x2 x3 (decide (z201 ≥ z202)) t40 W133 ∧
 I2 z199 x2 x3 (decide (z201 ≥ z202)) t40 W133 < I2 x x2 x3 x4 x5 W2)))))))))))))))))))))))))
 (Sx.split (decide (x2 > 0))
 ((∀ z205 : Int, (z205 = IntKind.wrap .i64 (x2 - 1) →
 (((0 : Int) ≤ z205 ∧
 z205 < (↑arg0n : Int)) ∧
 Sx.adr arg0 (fun k97 =>
 (fun k98 =>
 (∃ z206 : Int, (World.cell? W80 (.mk k97 (k98 + Int.toNat z205 * 1) none) = some (.int .i64 z206) ∧
 (((0 : Int) ≤ z120 ∧
 z120 < (↑arg0n : Int)) ∧
 Sx.adr arg0 (fun k99 =>
 (fun k100 =>
 (∃ z207 : Int, (World.cell? W80 (.mk k99 (k100 + Int.toNat z120 * 1) none) = some (.int .i64 z207) ∧
 (∃ t41 : Bool, ((∀ k101 : Nat, Calls Tryz.prog 209 #[.int .i64 z206, .int .i64 z207] (World.drewN W80 k101) (fun e108 =>
 (fun W134 =>
 (e108 = .returned (.bool t41) ∧
 (∃ k102 : Nat, W134 = World.drewN W80 k102))))) ∧
 (∀ W135 : World, (∀ k103 : Nat, (W135 = World.drewN W80 k103 →
 Sx.split (!t41)
 (Calls Tryz.prog 210 #[.slice arg0 arg0n arg0c, .int .i64 x2, .int .i64 x, .int .i64 z120] W135 (fun e109 =>
 (fun W136 =>
 (∃ z208 : Int, (e109 = .returned (.int .i64 z208) ∧
 (I x z208 x3 x4 x5 W136 ∧
 I2 x z208 x3 x4 x5 W136 < I2 x x2 x3 x4 x5 W2))))))
 (Calls Tryz.prog 211 #[.slice arg0 arg0n arg0c, .int .i64 x2, .int .i64 x, .int .i64 z120] W135 (fun e110 =>
 (fun W137 =>
 (∃ z209 : Int, (∃ t42 : Bool, (e110 = .returned (.tuple #[.int .i64 z209, .bool t42]) ∧
 (∀ z210 : Int, (z210 = IntKind.wrap .i64 (z209 - x2) →
 (∀ z211 : Int, (z211 = IntKind.wrap .i64 (x - z209) →
 ((8 : Int) ≠ (0 : Int) ∧
 (∀ z212 : Int, (z212 = IntKind.wrap .i64 (Int.tdiv z 8) →
 Sx.split (decide (z210 < z211))
 (Calls Tryz.prog 156 #[.slice arg0 arg0n arg0c, .int .i64 x2, .int .i64 z209, .int .i64 x3] W137 (fun e111 =>
 (fun W138 =>
 (e111 = .returned (.tuple #[]) ∧
 (∀ z213 : Int, (z213 = IntKind.wrap .i64 (z209 + 1) →
 (I x z213 x3 (decide (z210 ≥ z212)) t42 W138 ∧
 I2 x z213 x3 (decide (z210 ≥ z212)) t42 W138 < I2 x x2 x3 x4 x5 W2)))))))
 ((∀ z214 : Int, (z214 = IntKind.wrap .i64 (z209 + 1) →
 Calls Tryz.prog 156 #[.slice arg0 arg0n arg0c, .int .i64 z214, .int .i64 x, .int .i64 x3] W137 (fun e112 =>
 (fun W139 =>
 (e112 = .returned (.tuple #[]) ∧
 (I z209 x2 x3 (decide (z211 ≥ z212)) t42 W139 ∧
 I2 z209 x2 x3 (decide (z211 ≥ z212)) t42 W139 < I2 x x2 x3 x4 x5 W2))))))))))))))))))))))))))))))))))))))
 ((∀ W140 : World, (∀ k104 : Nat, (W140 = World.drewN W80 k104 →
 Calls Tryz.prog 211 #[.slice arg0 arg0n arg0c, .int .i64 x2, .int .i64 x, .int .i64 z120] W140 (fun e113 =>
 (fun W141 =>
 (∃ z215 : Int, (∃ t43 : Bool, (e113 = .returned (.tuple #[.int .i64 z215, .bool t43]) ∧
 (∀ z216 : Int, (z216 = IntKind.wrap .i64 (z215 - x2) →
 (∀ z217 : Int, (z217 = IntKind.wrap .i64 (x - z215) →
 ((8 : Int) ≠ (0 : Int) ∧
 (∀ z218 : Int, (z218 = IntKind.wrap .i64 (Int.tdiv z 8) →
 Sx.split (decide (z216 < z217))
 (Calls Tryz.prog 156 #[.slice arg0 arg0n arg0c, .int .i64 x2, .int .i64 z215, .int .i64 x3] W141 (fun e114 =>
 (fun W142 =>
 (e114 = .returned (.tuple #[]) ∧
 (∀ z219 : Int, (z219 = IntKind.wrap .i64 (z215 + 1) →
 (I x z219 x3 (decide (z216 ≥ z218)) t43 W142 ∧
 I2 x z219 x3 (decide (z216 ≥ z218)) t43 W142 < I2 x x2 x3 x4 x5 W2)))))))
 ((∀ z220 : Int, (z220 = IntKind.wrap .i64 (z215 + 1) →
 Calls Tryz.prog 156 #[.slice arg0 arg0n arg0c, .int .i64 z220, .int .i64 x, .int .i64 x3] W141 (fun e115 =>
 (fun W143 =>
 (e115 = .returned (.tuple #[]) ∧
 (I z215 x2 x3 (decide (z217 ≥ z218)) t43 W143 ∧
 I2 z215 x2 x3 (decide (z217 ≥ z218)) t43 W143 < I2 x x2 x3 x4 x5 W2)))))))))))))))))))))))))
 (Sx.split (decide (x2 > 0))
 ((∀ z221 : Int, (z221 = IntKind.wrap .i64 (x2 - 1) →
 (((0 : Int) ≤ z221 ∧
 z221 < (↑arg0n : Int)) ∧
 Sx.adr arg0 (fun k105 =>
 (fun k106 =>
 (∃ z222 : Int, (World.cell? W80 (.mk k105 (k106 + Int.toNat z221 * 1) none) = some (.int .i64 z222) ∧
 (((0 : Int) ≤ z120 ∧
 z120 < (↑arg0n : Int)) ∧
 Sx.adr arg0 (fun k107 =>
 (fun k108 =>
 (∃ z223 : Int, (World.cell? W80 (.mk k107 (k108 + Int.toNat z120 * 1) none) = some (.int .i64 z223) ∧
 (∃ t44 : Bool, ((∀ k109 : Nat, Calls Tryz.prog 209 #[.int .i64 z222, .int .i64 z223] (World.drewN W80 k109) (fun e116 =>
 (fun W144 =>
 (e116 = .returned (.bool t44) ∧
 (∃ k110 : Nat, W144 = World.drewN W80 k110))))) ∧
 (∀ W145 : World, (∀ k111 : Nat, (W145 = World.drewN W80 k111 →
 Sx.split (!t44)
 (Calls Tryz.prog 210 #[.slice arg0 arg0n arg0c, .int .i64 x2, .int .i64 x, .int .i64 z120] W145 (fun e117 =>
 (fun W146 =>
 (∃ z224 : Int, (e117 = .returned (.int .i64 z224) ∧
 (I x z224 x3 x4 x5 W146 ∧
 I2 x z224 x3 x4 x5 W146 < I2 x x2 x3 x4 x5 W2))))))
 (Calls Tryz.prog 211 #[.slice arg0 arg0n arg0c, .int .i64 x2, .int .i64 x, .int .i64 z120] W145 (fun e118 =>
 (fun W147 =>
 (∃ z225 : Int, (∃ t45 : Bool, (e118 = .returned (.tuple #[.int .i64 z225, .bool t45]) ∧
 (∀ z226 : Int, (z226 = IntKind.wrap .i64 (z225 - x2) →
 (∀ z227 : Int, (z227 = IntKind.wrap .i64 (x - z225) →
 ((8 : Int) ≠ (0 : Int) ∧
 (∀ z228 : Int, (z228 = IntKind.wrap .i64 (Int.tdiv z 8) →
 Sx.split (decide (z226 < z227))
 (Calls Tryz.prog 156 #[.slice arg0 arg0n arg0c, .int .i64 x2, .int .i64 z225, .int .i64 x3] W147 (fun e119 =>
 (fun W148 =>
 (e119 = .returned (.tuple #[]) ∧
 (∀ z229 : Int, (z229 = IntKind.wrap .i64 (z225 + 1) →
 (I x z229 x3 (decide (z226 ≥ z228)) t45 W148 ∧
 I2 x z229 x3 (decide (z226 ≥ z228)) t45 W148 < I2 x x2 x3 x4 x5 W2)))))))
 ((∀ z230 : Int, (z230 = IntKind.wrap .i64 (z225 + 1) →
 Calls Tryz.prog 156 #[.slice arg0 arg0n arg0c, .int .i64 z230, .int .i64 x, .int .i64 x3] W147 (fun e120 =>
 (fun W149 =>
 (e120 = .returned (.tuple #[]) ∧
 (I z225 x2 x3 (decide (z227 ≥ z228)) t45 W149 ∧
 I2 z225 x2 x3 (decide (z227 ≥ z228)) t45 W149 < I2 x x2 x3 x4 x5 W2))))))))))))))))))))))))))))))))))))))
 ((∀ W150 : World, (∀ k112 : Nat, (W150 = World.drewN W80 k112 →
 Calls Tryz.prog 211 #[.slice arg0 arg0n arg0c, .int .i64 x2, .int .i64 x, .int .i64 z120] W150 (fun e121 =>
 (fun W151 =>
 (∃ z231 : Int, (∃ t46 : Bool, (e121 = .returned (.tuple #[.int .i64 z231, .bool t46]) ∧
 (∀ z232 : Int, (z232 = IntKind.wrap .i64 (z231 - x2) →
 (∀ z233 : Int, (z233 = IntKind.wrap .i64 (x - z231) →
 ((8 : Int) ≠ (0 : Int) ∧
 (∀ z234 : Int, (z234 = IntKind.wrap .i64 (Int.tdiv z 8) →
 Sx.split (decide (z232 < z233))
 (Calls Tryz.prog 156 #[.slice arg0 arg0n arg0c, .int .i64 x2, .int .i64 z231, .int .i64 x3] W151 (fun e122 =>
 (fun W152 =>
 (e122 = .returned (.tuple #[]) ∧
 (∀ z235 : Int, (z235 = IntKind.wrap .i64 (z231 + 1) →
 (I x z235 x3 (decide (z232 ≥ z234)) t46 W152 ∧
 I2 x z235 x3 (decide (z232 ≥ z234)) t46 W152 < I2 x x2 x3 x4 x5 W2)))))))
 ((∀ z236 : Int, (z236 = IntKind.wrap .i64 (z231 + 1) →
 Calls Tryz.prog 156 #[.slice arg0 arg0n arg0c, .int .i64 z236, .int .i64 x, .int .i64 x3] W151 (fun e123 =>
 (fun W153 =>
 (e123 = .returned (.tuple #[]) ∧
 (I z231 x2 x3 (decide (z233 ≥ z234)) t46 W153 ∧
 I2 z231 x2 x3 (decide (z233 ≥ z234)) t46 W153 < I2 x x2 x3 x4 x5 W2))))))))))))))))))))))))))))))))))))))))))))))) :
 Calls Tryz.prog 156 #[.slice arg0 arg0n arg0c, .int .i64 arg1, .int .i64 arg2, .int .i64 arg3] W Q :=
 Sx.sound Tryz.func156 (.node [] [] 0 .leaf (.node [] [] 0 .leaf (.node [] [] 0 (.node [(2, .int .i64), (1, .int .i64), (3, .int .i64), (8, .bool), (9, .bool)] [0] 0 .leaf .leaf) .leaf))) [Value.slice arg0 arg0n arg0c, .int .i64 arg1, .int .i64 arg2, .int .i64 arg3] rfl (Eq.mp (by kernel_rfl) hVC)
theorem vc203 {W : World} {Q : Ending → World → Prop} (data : Option Addr) (datan : Nat) (datac : Nat) (a : Int) (b : Int)
 (hVC :
 (∀ z : Int, (z = IntKind.wrap .i64 (a + 1) →
 (∃ I : Int → World → Prop, (∃ I2 : Int → World → Nat, (I z W ∧
 ((Nat → Value) →
 (∀ i : Int, (∀ W2 : World, (I i W2 →
 Sx.split (decide (i < b))
 ((∃ I3 : Int → World → Prop, (∃ I4 : Int → World → Nat, (I3 i W2 ∧
 ((Nat → Value) →
 (∀ j : Int, (∀ W3 : World, (I3 j W3 →
 Sx.split (decide (j > a))
 ((((0 : Int) ≤ j ∧
 j < (↑datan : Int)) ∧
 Sx.adr data (fun k =>
 (fun k2 =>
 (∃ z2 : Int, (World.cell? W3 (.mk k (k2 + Int.toNat j * 1) none) = some (.int .i64 z2) ∧
 (∀ z3 : Int, (z3 = IntKind.wrap .i64 (j - 1) →
 (((0 : Int) ≤ z3 ∧
 z3 < (↑datan : Int)) ∧
 Sx.adr data (fun k3 =>
 (fun k4 =>
 (∃ z4 : Int, (World.cell? W3 (.mk k3 (k4 + Int.toNat z3 * 1) none) = some (.int .i64 z4) ∧
 (∃ t : Bool, ((∀ k5 : Nat, Calls Tryz.prog 209 #[.int .i64 z2, .int .i64 z4] (World.drewN W3 k5) (fun e =>
 (fun W4 =>
 (e = .returned (.bool t) ∧
 (∃ k6 : Nat, W4 = World.drewN W3 k6))))) ∧
 (∀ W5 : World, (∀ k7 : Nat, (W5 = World.drewN W3 k7 →
 Sx.split t
 ((∀ W6 : World, (W6 = World.drew W5 →
 (∀ z5 : Int, (z5 = IntKind.wrap .i64 (j - 1) →
 (∀ z6 : Int, (z6 = IntKind.wrap .i64 (j - 1) →
 (((0 : Int) ≤ z6 ∧
 z6 < (↑datan : Int)) ∧
 Sx.adr data (fun k8 =>
 (fun k9 =>
 (((0 : Int) ≤ j ∧
 j < (↑datan : Int)) ∧
 Sx.adr data (fun k10 =>
 (fun k11 =>
 (∃ z7 : Int, (World.cell? W6 (.mk k8 (k9 + Int.toNat z6 * 1) none) = some (.int .i64 z7) ∧
 (∃ z8 : Int, (World.cell? W6 (.mk k10 (k11 + Int.toNat j * 1) none) = some (.int .i64 z8) ∧
 (((0 : Int) ≤ j ∧
 j < (↑datan : Int)) ∧
 Sx.adr data (fun k12 =>
 (fun k13 =>
 ((∃ v : Value, World.cell? W6 (.mk k12 (k13 + Int.toNat j * 1) none) = some v) ∧
 (World.frozen? W6 (.mk k12 (k13 + Int.toNat j * 1) none) = false ∧
 (∀ W7 : World, (W7 = World.setCell W6 (.mk k12 (k13 + Int.toNat j * 1) none) (Value.int .i64 z7) →
 (((0 : Int) ≤ z5 ∧
 z5 < (↑datan : Int)) ∧
 Sx.adr data (fun k14 =>
 (fun k15 =>
 ((∃ v2 : Value, World.cell? W7 (.mk k14 (k15 + Int.toNat z5 * 1) none) = some v2) ∧
 (World.frozen? W7 (.mk k14 (k15 + Int.toNat z5 * 1) none) = false ∧
 (∀ W8 : World, (W8 = World.setCell W7 (.mk k14 (k15 + Int.toNat z5 * 1) none) (Value.int .i64 z8) →
 (∀ z9 : Int, (z9 = IntKind.wrap .i64 (j - 1) →
 (I3 z9 W8 ∧
 I4 z9 W8 < I4 j W3))))))))))))))))))))))))))))))))))
 ((∀ z10 : Int, (z10 = IntKind.wrap .i64 (i + 1) →
 (I z10 W5 ∧
 I2 z10 W5 < I2 i W2))))))))))))))))))))))
 ((∀ W9 : World, (∀ k16 : Nat, (W9 = World.drewN W3 k16 →
 (∀ z11 : Int, (z11 = IntKind.wrap .i64 (i + 1) →
 (I z11 W9 ∧
 I2 z11 W9 < I2 i W2)))))))))))))))
 (Q (.returned (.tuple #[])) W2))))))))))) :
 Calls Tryz.prog 203 #[.slice data datan datac, .int .i64 a, .int .i64 b] W Q :=
 Sx.sound Tryz.func203 (.node [] [] 0 .leaf (.node [] [] 0 (.node [(6, .int .i64)] [2, 1, 0] 0 (.node [] [] 0 .leaf (.node [] [] 0 (.node [] [] 0 (.node [] [] 0 .leaf (.node [] [] 0 (.node [(7, .int .i64)] [1, 0, 6, 2] 0 (.node [] [] 0 .leaf (.node [] [] 0 (.node [] [] 0 (.node [] [] 1016 .leaf .leaf) .leaf) .leaf)) .leaf) .leaf)) .leaf) .leaf)) .leaf) .leaf)) [Value.slice data datan datac, .int .i64 a, .int .i64 b] rfl (Eq.mp (by kernel_rfl) hVC)
theorem vc157 {W : World} {Q : Ending → World → Prop} (x : Int)
 (hVC :
 Calls Tryz.prog 213 #[.int .u64 x] W (fun e =>
 (fun W2 =>
 (∃ z : Int, (e = .returned (.int .i64 z) ∧
 Q (.returned (.int .i64 z)) W2))))) :
 Calls Tryz.prog 157 #[.int .u64 x] W Q :=
 Sx.sound Tryz.func157 .leaf [Value.int .u64 x] rfl (Eq.mp (by kernel_rfl) hVC)
theorem vc213 {W : World} {Q : Ending → World → Prop} (x : Int)
 (hVC :
 Sx.split (decide (x ≥ 4294967296))
 (((0 : Int) ≤ (32 : Int) ∧
 (∀ z : Int, (z = Int.fdiv x (2 ^ min 32 (IntKind.bits .u64)) →
 Sx.split (decide (z ≥ 65536))
 (((0 : Int) ≤ (16 : Int) ∧
 (∀ z2 : Int, (z2 = Int.fdiv z (2 ^ min 16 (IntKind.bits .u64)) →
 (∀ z3 : Int, (z3 = IntKind.wrap .i64 (32 + 16) →
 Sx.split (decide (z2 ≥ 256))
 (((0 : Int) ≤ (8 : Int) ∧
 (∀ z4 : Int, (z4 = Int.fdiv z2 (2 ^ min 8 (IntKind.bits .u64)) →
 (∀ z5 : Int, (z5 = IntKind.wrap .i64 (z3 + 8) →
 (∀ z6 : Int, (z6 = IntKind.wrap .u8 z4 →
 (∃ b : UInt8, ((0 : Int) ≤ z6 ∧
 ((ByteArray.mk #[0, 1, 2, 2, 3, 3, 3, 3, 4, 4, 4, 4, 4, 4, 4, 4, 5, 5, 5, 5, 5, 5, 5, 5, 5, 5, 5, 5, 5, 5, 5, 5, 6, 6, 6, 6, 6, 6, 6, 6, 6, 6, 6, 6, 6, 6, 6, 6, 6, 6, 6, 6, 6, 6, 6, 6, 6, 6, 6, 6, 6, 6, 6, 6, 7, 7, 7, 7, 7, 7, 7, 7, 7, 7, 7, 7, 7, 7, 7, 7, 7, 7, 7, 7, 7, 7, 7, 7, 7, 7, 7, 7, 7, 7, 7, 7, 7, 7, 7, 7, 7, 7, 7, 7, 7, 7, 7, 7, 7, 7, 7, 7, 7, 7, 7, 7, 7, 7, 7, 7, 7, 7, 7, 7, 7, 7, 7, 7, 8, 8, 8, 8, 8, 8, 8, 8, 8, 8, 8, 8, 8, 8, 8, 8, 8, 8, 8, 8, 8, 8, 8, 8, 8, 8, 8, 8, 8, 8, 8, 8, 8, 8, 8, 8, 8, 8, 8, 8, 8, 8, 8, 8, 8, 8, 8, 8, 8, 8, 8, 8, 8, 8, 8, 8, 8, 8, 8, 8, 8, 8, 8, 8, 8, 8, 8, 8, 8, 8, 8, 8, 8, 8, 8, 8, 8, 8, 8, 8, 8, 8, 8, 8, 8, 8, 8, 8, 8, 8, 8, 8, 8, 8, 8, 8, 8, 8, 8, 8, 8, 8, 8, 8, 8, 8, 8, 8, 8, 8, 8, 8, 8, 8, 8, 8, 8, 8, 8, 8, 8, 8, 8, 8, 8, 8, 8, 8])[Int.toNat z6]? = some b ∧
 (∀ z7 : Int, (z7 = IntKind.wrap .i64 (↑(UInt8.toNat b) : Int) →
 (∀ z8 : Int, (z8 = IntKind.wrap .i64 (z5 + z7) →
 Q (.returned (.int .i64 z8)) W)))))))))))))))
 ((∀ z9 : Int, (z9 = IntKind.wrap .u8 z2 →
 (∃ b2 : UInt8, ((0 : Int) ≤ z9 ∧
 ((ByteArray.mk #[0, 1, 2, 2, 3, 3, 3, 3, 4, 4, 4, 4, 4, 4, 4, 4, 5, 5, 5, 5, 5, 5, 5, 5, 5, 5, 5, 5, 5, 5, 5, 5, 6, 6, 6, 6, 6, 6, 6, 6, 6, 6, 6, 6, 6, 6, 6, 6, 6, 6, 6, 6, 6, 6, 6, 6, 6, 6, 6, 6, 6, 6, 6, 6, 7, 7, 7, 7, 7, 7, 7, 7, 7, 7, 7, 7, 7, 7, 7, 7, 7, 7, 7, 7, 7, 7, 7, 7, 7, 7, 7, 7, 7, 7, 7, 7, 7, 7, 7, 7, 7, 7, 7, 7, 7, 7, 7, 7, 7, 7, 7, 7, 7, 7, 7, 7, 7, 7, 7, 7, 7, 7, 7, 7, 7, 7, 7, 7, 8, 8, 8, 8, 8, 8, 8, 8, 8, 8, 8, 8, 8, 8, 8, 8, 8, 8, 8, 8, 8, 8, 8, 8, 8, 8, 8, 8, 8, 8, 8, 8, 8, 8, 8, 8, 8, 8, 8, 8, 8, 8, 8, 8, 8, 8, 8, 8, 8, 8, 8, 8, 8, 8, 8, 8, 8, 8, 8, 8, 8, 8, 8, 8, 8, 8, 8, 8, 8, 8, 8, 8, 8, 8, 8, 8, 8, 8, 8, 8, 8, 8, 8, 8, 8, 8, 8, 8, 8, 8, 8, 8, 8, 8, 8, 8, 8, 8, 8, 8, 8, 8, 8, 8, 8, 8, 8, 8, 8, 8, 8, 8, 8, 8, 8, 8, 8, 8, 8, 8, 8, 8, 8, 8, 8, 8, 8, 8])[Int.toNat z9]? = some b2 ∧
 (∀ z10 : Int, (z10 = IntKind.wrap .i64 (↑(UInt8.toNat b2) : Int) →
 (∀ z11 : Int, (z11 = IntKind.wrap .i64 (z3 + z10) →
 Q (.returned (.int .i64 z11)) W))))))))))))))))
 (Sx.split (decide (z ≥ 256))
 (((0 : Int) ≤ (8 : Int) ∧
 (∀ z12 : Int, (z12 = Int.fdiv z (2 ^ min 8 (IntKind.bits .u64)) →
 (∀ z13 : Int, (z13 = IntKind.wrap .i64 (32 + 8) →
 (∀ z14 : Int, (z14 = IntKind.wrap .u8 z12 →
 (∃ b3 : UInt8, ((0 : Int) ≤ z14 ∧
 ((ByteArray.mk #[0, 1, 2, 2, 3, 3, 3, 3, 4, 4, 4, 4, 4, 4, 4, 4, 5, 5, 5, 5, 5, 5, 5, 5, 5, 5, 5, 5, 5, 5, 5, 5, 6, 6, 6, 6, 6, 6, 6, 6, 6, 6, 6, 6, 6, 6, 6, 6, 6, 6, 6, 6, 6, 6, 6, 6, 6, 6, 6, 6, 6, 6, 6, 6, 7, 7, 7, 7, 7, 7, 7, 7, 7, 7, 7, 7, 7, 7, 7, 7, 7, 7, 7, 7, 7, 7, 7, 7, 7, 7, 7, 7, 7, 7, 7, 7, 7, 7, 7, 7, 7, 7, 7, 7, 7, 7, 7, 7, 7, 7, 7, 7, 7, 7, 7, 7, 7, 7, 7, 7, 7, 7, 7, 7, 7, 7, 7, 7, 8, 8, 8, 8, 8, 8, 8, 8, 8, 8, 8, 8, 8, 8, 8, 8, 8, 8, 8, 8, 8, 8, 8, 8, 8, 8, 8, 8, 8, 8, 8, 8, 8, 8, 8, 8, 8, 8, 8, 8, 8, 8, 8, 8, 8, 8, 8, 8, 8, 8, 8, 8, 8, 8, 8, 8, 8, 8, 8, 8, 8, 8, 8, 8, 8, 8, 8, 8, 8, 8, 8, 8, 8, 8, 8, 8, 8, 8, 8, 8, 8, 8, 8, 8, 8, 8, 8, 8, 8, 8, 8, 8, 8, 8, 8, 8, 8, 8, 8, 8, 8, 8, 8, 8, 8, 8, 8, 8, 8, 8, 8, 8, 8, 8, 8, 8, 8, 8, 8, 8, 8, 8, 8, 8, 8, 8, 8, 8])[Int.toNat z14]? = some b3 ∧
 (∀ z15 : Int, (z15 = IntKind.wrap .i64 (↑(UInt8.toNat b3) : Int) →
 (∀ z16 : Int, (z16 = IntKind.wrap .i64 (z13 + z15) →
 Q (.returned (.int .i64 z16)) W)))))))))))))))
 ((∀ z17 : Int, (z17 = IntKind.wrap .u8 z →
 (∃ b4 : UInt8, ((0 : Int) ≤ z17 ∧
 ((ByteArray.mk #[0, 1, 2, 2, 3, 3, 3, 3, 4, 4, 4, 4, 4, 4, 4, 4, 5, 5, 5, 5, 5, 5, 5, 5, 5, 5, 5, 5, 5, 5, 5, 5, 6, 6, 6, 6, 6, 6, 6, 6, 6, 6, 6, 6, 6, 6, 6, 6, 6, 6, 6, 6, 6, 6, 6, 6, 6, 6, 6, 6, 6, 6, 6, 6, 7, 7, 7, 7, 7, 7, 7, 7, 7, 7, 7, 7, 7, 7, 7, 7, 7, 7, 7, 7, 7, 7, 7, 7, 7, 7, 7, 7, 7, 7, 7, 7, 7, 7, 7, 7, 7, 7, 7, 7, 7, 7, 7, 7, 7, 7, 7, 7, 7, 7, 7, 7, 7, 7, 7, 7, 7, 7, 7, 7, 7, 7, 7, 7, 8, 8, 8, 8, 8, 8, 8, 8, 8, 8, 8, 8, 8, 8, 8, 8, 8, 8, 8, 8, 8, 8, 8, 8, 8, 8, 8, 8, 8, 8, 8, 8, 8, 8, 8, 8, 8, 8, 8, 8, 8, 8, 8, 8, 8, 8, 8, 8, 8, 8, 8, 8, 8, 8, 8, 8, 8, 8, 8, 8, 8, 8, 8, 8, 8, 8, 8, 8, 8, 8, 8, 8, 8, 8, 8, 8, 8, 8, 8, 8, 8, 8, 8, 8, 8, 8, 8, 8, 8, 8, 8, 8, 8, 8, 8, 8, 8, 8, 8, 8, 8, 8, 8, 8, 8, 8, 8, 8, 8, 8, 8, 8, 8, 8, 8, 8, 8, 8, 8, 8, 8, 8, 8, 8, 8, 8, 8, 8])[Int.toNat z17]? = some b4 ∧
 (∀ z18 : Int, (z18 = IntKind.wrap .i64 (↑(UInt8.toNat b4) : Int) →
 (∀ z19 : Int, (z19 = IntKind.wrap .i64 (32 + z18) →
 Q (.returned (.int .i64 z19)) W)))))))))))))))
 (Sx.split (decide (x ≥ 65536))
 (((0 : Int) ≤ (16 : Int) ∧
 (∀ z20 : Int, (z20 = Int.fdiv x (2 ^ min 16 (IntKind.bits .u64)) →
 (∀ z21 : Int, (z21 = IntKind.wrap .i64 (0 + 16) →
 Sx.split (decide (z20 ≥ 256))
 (((0 : Int) ≤ (8 : Int) ∧
 (∀ z22 : Int, (z22 = Int.fdiv z20 (2 ^ min 8 (IntKind.bits .u64)) →
 (∀ z23 : Int, (z23 = IntKind.wrap .i64 (z21 + 8) →
 (∀ z24 : Int, (z24 = IntKind.wrap .u8 z22 →
 (∃ b5 : UInt8, ((0 : Int) ≤ z24 ∧
 ((ByteArray.mk #[0, 1, 2, 2, 3, 3, 3, 3, 4, 4, 4, 4, 4, 4, 4, 4, 5, 5, 5, 5, 5, 5, 5, 5, 5, 5, 5, 5, 5, 5, 5, 5, 6, 6, 6, 6, 6, 6, 6, 6, 6, 6, 6, 6, 6, 6, 6, 6, 6, 6, 6, 6, 6, 6, 6, 6, 6, 6, 6, 6, 6, 6, 6, 6, 7, 7, 7, 7, 7, 7, 7, 7, 7, 7, 7, 7, 7, 7, 7, 7, 7, 7, 7, 7, 7, 7, 7, 7, 7, 7, 7, 7, 7, 7, 7, 7, 7, 7, 7, 7, 7, 7, 7, 7, 7, 7, 7, 7, 7, 7, 7, 7, 7, 7, 7, 7, 7, 7, 7, 7, 7, 7, 7, 7, 7, 7, 7, 7, 8, 8, 8, 8, 8, 8, 8, 8, 8, 8, 8, 8, 8, 8, 8, 8, 8, 8, 8, 8, 8, 8, 8, 8, 8, 8, 8, 8, 8, 8, 8, 8, 8, 8, 8, 8, 8, 8, 8, 8, 8, 8, 8, 8, 8, 8, 8, 8, 8, 8, 8, 8, 8, 8, 8, 8, 8, 8, 8, 8, 8, 8, 8, 8, 8, 8, 8, 8, 8, 8, 8, 8, 8, 8, 8, 8, 8, 8, 8, 8, 8, 8, 8, 8, 8, 8, 8, 8, 8, 8, 8, 8, 8, 8, 8, 8, 8, 8, 8, 8, 8, 8, 8, 8, 8, 8, 8, 8, 8, 8, 8, 8, 8, 8, 8, 8, 8, 8, 8, 8, 8, 8, 8, 8, 8, 8, 8, 8])[Int.toNat z24]? = some b5 ∧
 (∀ z25 : Int, (z25 = IntKind.wrap .i64 (↑(UInt8.toNat b5) : Int) →
 (∀ z26 : Int, (z26 = IntKind.wrap .i64 (z23 + z25) →
 Q (.returned (.int .i64 z26)) W)))))))))))))))
 ((∀ z27 : Int, (z27 = IntKind.wrap .u8 z20 →
 (∃ b6 : UInt8, ((0 : Int) ≤ z27 ∧
 ((ByteArray.mk #[0, 1, 2, 2, 3, 3, 3, 3, 4, 4, 4, 4, 4, 4, 4, 4, 5, 5, 5, 5, 5, 5, 5, 5, 5, 5, 5, 5, 5, 5, 5, 5, 6, 6, 6, 6, 6, 6, 6, 6, 6, 6, 6, 6, 6, 6, 6, 6, 6, 6, 6, 6, 6, 6, 6, 6, 6, 6, 6, 6, 6, 6, 6, 6, 7, 7, 7, 7, 7, 7, 7, 7, 7, 7, 7, 7, 7, 7, 7, 7, 7, 7, 7, 7, 7, 7, 7, 7, 7, 7, 7, 7, 7, 7, 7, 7, 7, 7, 7, 7, 7, 7, 7, 7, 7, 7, 7, 7, 7, 7, 7, 7, 7, 7, 7, 7, 7, 7, 7, 7, 7, 7, 7, 7, 7, 7, 7, 7, 8, 8, 8, 8, 8, 8, 8, 8, 8, 8, 8, 8, 8, 8, 8, 8, 8, 8, 8, 8, 8, 8, 8, 8, 8, 8, 8, 8, 8, 8, 8, 8, 8, 8, 8, 8, 8, 8, 8, 8, 8, 8, 8, 8, 8, 8, 8, 8, 8, 8, 8, 8, 8, 8, 8, 8, 8, 8, 8, 8, 8, 8, 8, 8, 8, 8, 8, 8, 8, 8, 8, 8, 8, 8, 8, 8, 8, 8, 8, 8, 8, 8, 8, 8, 8, 8, 8, 8, 8, 8, 8, 8, 8, 8, 8, 8, 8, 8, 8, 8, 8, 8, 8, 8, 8, 8, 8, 8, 8, 8, 8, 8, 8, 8, 8, 8, 8, 8, 8, 8, 8, 8, 8, 8, 8, 8, 8, 8])[Int.toNat z27]? = some b6 ∧
 (∀ z28 : Int, (z28 = IntKind.wrap .i64 (↑(UInt8.toNat b6) : Int) →
 (∀ z29 : Int, (z29 = IntKind.wrap .i64 (z21 + z28) →
 Q (.returned (.int .i64 z29)) W))))))))))))))))
 (Sx.split (decide (x ≥ 256))
 (((0 : Int) ≤ (8 : Int) ∧
 (∀ z30 : Int, (z30 = Int.fdiv x (2 ^ min 8 (IntKind.bits .u64)) →
 (∀ z31 : Int, (z31 = IntKind.wrap .i64 (0 + 8) →
 (∀ z32 : Int, (z32 = IntKind.wrap .u8 z30 →
 (∃ b7 : UInt8, ((0 : Int) ≤ z32 ∧
 ((ByteArray.mk #[0, 1, 2, 2, 3, 3, 3, 3, 4, 4, 4, 4, 4, 4, 4, 4, 5, 5, 5, 5, 5, 5, 5, 5, 5, 5, 5, 5, 5, 5, 5, 5, 6, 6, 6, 6, 6, 6, 6, 6, 6, 6, 6, 6, 6, 6, 6, 6, 6, 6, 6, 6, 6, 6, 6, 6, 6, 6, 6, 6, 6, 6, 6, 6, 7, 7, 7, 7, 7, 7, 7, 7, 7, 7, 7, 7, 7, 7, 7, 7, 7, 7, 7, 7, 7, 7, 7, 7, 7, 7, 7, 7, 7, 7, 7, 7, 7, 7, 7, 7, 7, 7, 7, 7, 7, 7, 7, 7, 7, 7, 7, 7, 7, 7, 7, 7, 7, 7, 7, 7, 7, 7, 7, 7, 7, 7, 7, 7, 8, 8, 8, 8, 8, 8, 8, 8, 8, 8, 8, 8, 8, 8, 8, 8, 8, 8, 8, 8, 8, 8, 8, 8, 8, 8, 8, 8, 8, 8, 8, 8, 8, 8, 8, 8, 8, 8, 8, 8, 8, 8, 8, 8, 8, 8, 8, 8, 8, 8, 8, 8, 8, 8, 8, 8, 8, 8, 8, 8, 8, 8, 8, 8, 8, 8, 8, 8, 8, 8, 8, 8, 8, 8, 8, 8, 8, 8, 8, 8, 8, 8, 8, 8, 8, 8, 8, 8, 8, 8, 8, 8, 8, 8, 8, 8, 8, 8, 8, 8, 8, 8, 8, 8, 8, 8, 8, 8, 8, 8, 8, 8, 8, 8, 8, 8, 8, 8, 8, 8, 8, 8, 8, 8, 8, 8, 8, 8])[Int.toNat z32]? = some b7 ∧
 (∀ z33 : Int, (z33 = IntKind.wrap .i64 (↑(UInt8.toNat b7) : Int) →
 (∀ z34 : Int, (z34 = IntKind.wrap .i64 (z31 + z33) →
 Q (.returned (.int .i64 z34)) W)))))))))))))))
 ((∀ z35 : Int, (z35 = IntKind.wrap .u8 x →
 (∃ b8 : UInt8, ((0 : Int) ≤ z35 ∧
 ((ByteArray.mk #[0, 1, 2, 2, 3, 3, 3, 3, 4, 4, 4, 4, 4, 4, 4, 4, 5, 5, 5, 5, 5, 5, 5, 5, 5, 5, 5, 5, 5, 5, 5, 5, 6, 6, 6, 6, 6, 6, 6, 6, 6, 6, 6, 6, 6, 6, 6, 6, 6, 6, 6, 6, 6, 6, 6, 6, 6, 6, 6, 6, 6, 6, 6, 6, 7, 7, 7, 7, 7, 7, 7, 7, 7, 7, 7, 7, 7, 7, 7, 7, 7, 7, 7, 7, 7, 7, 7, 7, 7, 7, 7, 7, 7, 7, 7, 7, 7, 7, 7, 7, 7, 7, 7, 7, 7, 7, 7, 7, 7, 7, 7, 7, 7, 7, 7, 7, 7, 7, 7, 7, 7, 7, 7, 7, 7, 7, 7, 7, 8, 8, 8, 8, 8, 8, 8, 8, 8, 8, 8, 8, 8, 8, 8, 8, 8, 8, 8, 8, 8, 8, 8, 8, 8, 8, 8, 8, 8, 8, 8, 8, 8, 8, 8, 8, 8, 8, 8, 8, 8, 8, 8, 8, 8, 8, 8, 8, 8, 8, 8, 8, 8, 8, 8, 8, 8, 8, 8, 8, 8, 8, 8, 8, 8, 8, 8, 8, 8, 8, 8, 8, 8, 8, 8, 8, 8, 8, 8, 8, 8, 8, 8, 8, 8, 8, 8, 8, 8, 8, 8, 8, 8, 8, 8, 8, 8, 8, 8, 8, 8, 8, 8, 8, 8, 8, 8, 8, 8, 8, 8, 8, 8, 8, 8, 8, 8, 8, 8, 8, 8, 8, 8, 8, 8, 8, 8, 8])[Int.toNat z35]? = some b8 ∧
 (∀ z36 : Int, (z36 = IntKind.wrap .i64 (↑(UInt8.toNat b8) : Int) →
 (∀ z37 : Int, (z37 = IntKind.wrap .i64 (0 + z36) →
 Q (.returned (.int .i64 z37)) W))))))))))))) :
 Calls Tryz.prog 213 #[.int .u64 x] W Q :=
 Sx.sound Tryz.func213 .leaf [Value.int .u64 x] rfl (Eq.mp (by kernel_rfl) hVC)
theorem vc77 {W : World} {Q : Ending → World → Prop} (x : Nat) (xo : Nat)
 (hVC :
 (∃ z : Int, (World.cell? W (.mk x (xo + 8) none) = some (.int .i64 z) ∧
 (∃ I : Int → World → Prop, (∃ I2 : Int → World → Nat, (I 0 W ∧
 ((Nat → Value) →
 (∀ x2 : Int, (∀ W2 : World, (I x2 W2 →
 Sx.split (decide (x2 < z))
 ((∃ t : Bool, (World.cell? W2 (.mk x (xo + 33) none) = some (.bool t) ∧
 Sx.split t
 (Q (.returned (.tuple #[])) W2)
 (Calls Tryz.prog 119 #[.pointer (some (Addr.mk x xo none))] W2 (fun e =>
 (fun W3 =>
 (∃ t2 : Bool, (e = .returned (.bool t2) ∧
 Sx.split (!t2)
 (Q (.returned (.tuple #[])) W3)
 ((∀ z2 : Int, (z2 = IntKind.wrap .i64 (x2 + 1) →
 (I z2 W3 ∧
 I2 z2 W3 < I2 x2 W2))))))))))))
 (Q (.returned (.tuple #[])) W2))))))))))) :
 Calls Tryz.prog 77 #[.pointer (some ⟨x, xo, none⟩)] W Q :=
 Sx.sound Tryz.func77 (.node [] [] 0 .leaf (.node [] [] 0 (.node [(7, .int .i64)] [6, 0] 0 .leaf .leaf) .leaf)) [Value.pointer (some ⟨x, xo, none⟩)] rfl (Eq.mp (by kernel_rfl) hVC)
theorem vc76 {W : World} {Q : Ending → World → Prop} (arg0 : Nat) (arg0o : Nat)
 (hVC :
 (∃ I : Option Addr → Nat → Nat → World → Prop, ((∀ k : Nat, (∀ W2 : World, (k = Array.size (World.heap W) →
 (W2 = World.alloc W (Obj.cells #[.int .i64 0, .int .i64 2, .int .i64 3] 239) →
 (∃ I2 : Int → Option Addr → Nat → Nat → World → Prop, (∃ I3 : Int → Option Addr → Nat → Nat → World → Nat, (I2 0 none 0 0 W2 ∧
 ((Nat → Value) →
 (∀ x : Int, (∀ x2 : Option Addr, (∀ k2 : Nat, (∀ k3 : Nat, (∀ W3 : World, (I2 x x2 k2 k3 W3 →
 Sx.split (decide (x < (↑3 : Int)))
 ((((0 : Int) ≤ x ∧
 x < (↑3 : Int)) ∧
 (∃ z : Int, (World.cell? W3 (.mk k (0 + Int.toNat x * 1) none) = some (.int .i64 z) ∧
 (∀ W4 : World, (W4 = World.drew W3 →
 (∃ p : Option Addr, (World.cell? W4 (.mk arg0 arg0o none) = some (.pointer p) ∧
 (∃ z2 : Int, (World.cell? W4 (.mk arg0 (arg0o + 8 + 4) none) = some (.int .i64 z2) ∧
 Calls Tryz.prog 113 #[.pointer p, .int .i64 z, .int .i64 z2] W4 (fun e =>
 (fun W5 =>
 (∃ p2 : Option Addr, (∃ k4 : Nat, (∃ k5 : Nat, (e = .returned (.slice p2 k4 k5) ∧
 (∃ l : List Value, (∃ l2 : List Value, (XHeap.Sl W5 3 1 (Value.slice x2 k2 k3) k2 l ∧
 ((((k4 = 0 ∧
 p2 = none)) ∨
 ((∃ a : Addr, (p2 = some a ∧
 (∀ k6 : Nat, (∀ v : Value, (l2[k6]? = some v →
 World.cell? W5 (Addr.add a k6) = some v))))))) ∧
 (List.length l2 = k4 * 1 ∧
 ((∀ v2 : Value, (v2 ∈ l2 →
 Value.oneCell' v2 = true)) ∧
 (k2 + k4 ≤ maxLen ∧
 ((k2 + k4) * 8 ≤ 140737488355328 ∧
 (∀ p3 : Option Addr, (∀ k7 : Nat, (∀ W6 : World, (XHeap.Sl W6 3 1 (Value.slice p3 (k2 + k4) k7) (k2 + k4) (l ++ l2) →
 (XHeap.XTouch (fun b => Value.ownBlock (Value.slice x2 k2 k3) = some b) W5 W6 →
 ((∀ k8 : Nat, (Value.ownBlock (Value.slice p3 (k2 + k4) k7) = some k8 →
 ((Value.ownBlock (Value.slice x2 k2 k3) = some k8) ∨
 (Array.size (World.heap W5) ≤ k8)))) →
 (XHeap.Sl W6 3 1 (Value.slice x2 k2 k3) k2 l →
 ((((p3 = x2 ∧
 k7 = k3)) ∨
 ((((XHeap.NilP x2) ∨
 (k3 < k2 + k4)) ∧
 (∀ k9 : Nat, (Value.ownBlock (Value.slice p3 (k2 + k4) k7) = some k9 →
 Array.size (World.heap W5) ≤ k9))))) →
 (∀ z3 : Int, (z3 = IntKind.wrap .i64 (x + 1) →
 (I2 z3 p3 (k2 + k4) k7 W6 ∧
 I3 z3 p3 (k2 + k4) k7 W6 < I3 x x2 k2 k3 W3)))))))))))))))))))))))))))))))))))
 (I x2 k2 k3 W3))))))))))))))) ∧
 ((Nat → Value) →
 (∀ x3 : Option Addr, (∀ k10 : Nat, (∀ k11 : Nat, (∀ W7 : World, (I x3 k10 k11 W7 →
 Calls Tryz.prog 114 #[.slice x3 k10 k11] W7 (fun e2 =>
 (fun W8 =>
 (e2 = .returned (.tuple #[]) ∧
 (∃ I4 : World → Prop, ((∃ z4 : Int, (World.cell? W8 (.mk arg0 (arg0o + 8 + 4) none) = some (.int .i64 z4) ∧
 (((0 : Int) ≤ (if z4 < (↑k10 : Int) then z4 else (↑k10 : Int)) ∧
 (if z4 < (↑k10 : Int) then z4 else (↑k10 : Int)) ≤ (↑k11 : Int)) ∧
 (∃ I5 : Int → World → Prop, (∃ I6 : Int → World → Nat, (I5 0 W8 ∧
 ((Nat → Value) →
 (∀ x4 : Int, (∀ W9 : World, (I5 x4 W9 →
 Sx.split (decide (x4 < (↑(Int.toNat (if z4 < (↑k10 : Int) then z4 else (↑k10 : Int))) : Int)))
 ((((0 : Int) ≤ x4 ∧
 x4 < (↑(Int.toNat (if z4 < (↑k10 : Int) then z4 else (↑k10 : Int))) : Int)) ∧
 Sx.adr x3 (fun k12 =>
 (fun k13 =>
 (∃ z5 : Int, (World.cell? W9 (.mk k12 (k13 + Int.toNat x4 * 1) none) = some (.int .i64 z5) ∧
 Calls Tryz.prog 105 #[.pointer (some (Addr.mk arg0 arg0o none)), .int .i64 z5] W9 (fun e3 =>
 (fun W10 =>
 (∃ p4 : Option Addr, (e3 = .returned (.pointer p4) ∧
 Calls Tryz.prog 115 #[.pointer (some (Addr.mk arg0 arg0o none)), .pointer p4] W10 (fun e4 =>
 (fun W11 =>
 (e4 = .returned (.tuple #[]) ∧
 Calls Tryz.prog 116 #[.pointer (some (Addr.mk arg0 arg0o none)), .pointer p4, .int .i64 1] W11 (fun e5 =>
 (fun W12 =>
 (e5 = .returned (.tuple #[]) ∧
 (∀ z6 : Int, (z6 = IntKind.wrap .i64 (x4 + 1) →
 (I5 z6 W12 ∧
 I6 z6 W12 < I6 x4 W9)))))))))))))))))))
 (I4 W9))))))))))) ∧
 ((Nat → Value) →
 (∀ W13 : World, (I4 W13 →
 (∃ I7 : World → Prop, ((∃ p5 : Option Addr, (World.cell? W13 (.mk arg0 arg0o none) = some (.pointer p5) ∧
 Calls Tryz.prog 113 #[.pointer p5, .int .i64 1, .int .i64 1] W13 (fun e6 =>
 (fun W14 =>
 (∃ p6 : Option Addr, (∃ k14 : Nat, (∃ k15 : Nat, (e6 = .returned (.slice p6 k14 k15) ∧
 (∃ I8 : Int → World → Prop, (∃ I9 : Int → World → Nat, (I8 0 W14 ∧
 ((Nat → Value) →
 (∀ x5 : Int, (∀ W15 : World, (I8 x5 W15 →
 Sx.split (decide (x5 < (↑k14 : Int)))
 ((((0 : Int) ≤ x5 ∧
 x5 < (↑k14 : Int)) ∧
 Sx.adr p6 (fun k16 =>
 (fun k17 =>
 (∃ z7 : Int, (World.cell? W15 (.mk k16 (k17 + Int.toNat x5 * 1) none) = some (.int .i64 z7) ∧
 Calls Tryz.prog 105 #[.pointer (some (Addr.mk arg0 arg0o none)), .int .i64 z7] W15 (fun e7 =>
 (fun W16 =>
 (∃ p7 : Option Addr, (e7 = .returned (.pointer p7) ∧
 Calls Tryz.prog 115 #[.pointer (some (Addr.mk arg0 arg0o none)), .pointer p7] W16 (fun e8 =>
 (fun W17 =>
 (e8 = .returned (.tuple #[]) ∧
 (∃ z8 : Int, (World.cell? W17 (.mk arg0 (arg0o + 8 + 5) none) = some (.int .i64 z8) ∧
 Calls Tryz.prog 116 #[.pointer (some (Addr.mk arg0 arg0o none)), .pointer p7, .int .i64 z8] W17 (fun e9 =>
 (fun W18 =>
 (e9 = .returned (.tuple #[]) ∧
 (∀ z9 : Int, (z9 = IntKind.wrap .i64 (x5 + 1) →
 (I8 z9 W18 ∧
 I9 z9 W18 < I9 x5 W15)))))))))))))))))))))
 (I7 W15)))))))))))))))) ∧
 ((Nat → Value) →
 (∀ W19 : World, (I7 W19 →
 (∃ I10 : World → Prop, ((∃ p8 : Option Addr, (World.cell? W19 (.mk arg0 arg0o none) = some (.pointer p8) ∧
 Calls Tryz.prog 113 #[.pointer p8, .int .i64 5, .int .i64 1] W19 (fun e10 =>
 (fun W20 =>
 (∃ p9 : Option Addr, (∃ k18 : Nat, (∃ k19 : Nat, (e10 = .returned (.slice p9 k18 k19) ∧
 (∃ I11 : Int → World → Prop, (∃ I12 : Int → World → Nat, (I11 0 W20 ∧
 ((Nat → Value) →
 (∀ x6 : Int, (∀ W21 : World, (I11 x6 W21 →
 Sx.split (decide (x6 < (↑k18 : Int)))
 ((((0 : Int) ≤ x6 ∧
 x6 < (↑k18 : Int)) ∧
 Sx.adr p9 (fun k20 =>
 (fun k21 =>
 (∃ z10 : Int, (World.cell? W21 (.mk k20 (k21 + Int.toNat x6 * 1) none) = some (.int .i64 z10) ∧
 Calls Tryz.prog 105 #[.pointer (some (Addr.mk arg0 arg0o none)), .int .i64 z10] W21 (fun e11 =>
 (fun W22 =>
 (∃ p10 : Option Addr, (e11 = .returned (.pointer p10) ∧
 Calls Tryz.prog 117 #[.pointer (some (Addr.mk arg0 arg0o none)), .pointer p10] W22 (fun e12 =>
 (fun W23 =>
 (e12 = .returned (.tuple #[]) ∧
 (∀ z11 : Int, (z11 = IntKind.wrap .i64 (x6 + 1) →
 (I11 z11 W23 ∧
 I12 z11 W23 < I12 x6 W21))))))))))))))))
 (I10 W21)))))))))))))))) ∧
 ((Nat → Value) →
 (∀ W24 : World, (I10 W24 →
 (∀ W25 : World, (W25 = World.drew W24 →
 (∃ p11 : Option Addr, (World.cell? W25 (.mk arg0 arg0o none) = some (.pointer p11) ∧
 (∃ z12 : Int, (World.cell? W25 (.mk arg0 (arg0o + 8 + 1) none) = some (.int .i64 z12) ∧
 Calls Tryz.prog 113 #[.pointer p11, .int .i64 4, .int .i64 z12] W25 (fun e13 =>
 (fun W26 =>
 (∃ p12 : Option Addr, (∃ k22 : Nat, (∃ k23 : Nat, (e13 = .returned (.slice p12 k22 k23) ∧
 (∃ I13 : Int → World → Prop, (∃ I14 : Int → World → Nat, (I13 0 W26 ∧
 ((Nat → Value) →
 (∀ x7 : Int, (∀ W27 : World, (I13 x7 W27 →
 Sx.split (decide (x7 < (↑k22 : Int)))
 ((((0 : Int) ≤ x7 ∧
 x7 < (↑k22 : Int)) ∧
 Sx.adr p12 (fun k24 =>
 (fun k25 =>
 (∃ z13 : Int, (World.cell? W27 (.mk k24 (k25 + Int.toNat x7 * 1) none) = some (.int .i64 z13) ∧
 Calls Tryz.prog 105 #[.pointer (some (Addr.mk arg0 arg0o none)), .int .i64 z13] W27 (fun e14 =>
 (fun W28 =>
 (∃ p13 : Option Addr, (e14 = .returned (.pointer p13) ∧
 Sx.split (Option.isSome p13)
 (Calls Tryz.prog 118 #[.pointer (some (Addr.mk arg0 arg0o none)), .pointer p13] W28 (fun e15 =>
 (fun W29 =>
 (∃ t : Bool, (e15 = .returned (.bool t) ∧
 Sx.split t
 (Q (.returned (.tuple #[])) W29)
 ((∀ z14 : Int, (z14 = IntKind.wrap .i64 (x7 + 1) →
 (I13 z14 W29 ∧
 I14 z14 W29 < I14 x7 W27)))))))))
 ((∀ z15 : Int, (z15 = IntKind.wrap .i64 (x7 + 1) →
 (I13 z15 W28 ∧
 I14 z15 W28 < I14 x7 W27))))))))))))))
 (Q (.returned (.tuple #[])) W27))))))))))))))))))))))))))))))))))))))))))))))) :
 Calls Tryz.prog 76 #[.pointer (some ⟨arg0, arg0o, none⟩)] W Q :=
 Sx.sound Tryz.func76 (.node [] [] 0 .leaf (.node [(2, .slice)] [0] 1 (.node [] [] 0 .leaf (.node [] [] 0 (.node [(18, .int .i64), (2, .slice)] [17, 16, 0] 0 (.node [] [] 0 .leaf (.node [] [] 0 .leaf (.node [] [] 0 (.node [] [] 0 (.node [] [] 0 .leaf (.node [] [] 1013 .leaf .leaf)) .leaf) .leaf))) .leaf) .leaf)) (.node [] [] 0 .leaf (.node [] [0] 1 (.node [] [] 0 .leaf (.node [] [] 0 (.node [(50, .int .i64)] [49, 48, 0] 0 .leaf .leaf) .leaf)) (.node [] [0] 1 (.node [] [] 0 .leaf (.node [] [] 0 (.node [(71, .int .i64)] [70, 69, 0] 0 .leaf .leaf) .leaf)) (.node [] [0] 1 (.node [] [] 0 .leaf (.node [] [] 0 (.node [(97, .int .i64)] [96, 95, 0] 0 .leaf .leaf) .leaf)) (.node [] [] 0 (.node [] [] 1011 .leaf .leaf) (.node [] [] 0 (.node [(119, .int .i64)] [118, 117, 0] 0 .leaf .leaf) .leaf)))))))) [Value.pointer (some ⟨arg0, arg0o, none⟩)] rfl (Eq.mp (by kernel_rfl) hVC)
end Go.Proofs.YthacioiefgabbaaGreatDoor
