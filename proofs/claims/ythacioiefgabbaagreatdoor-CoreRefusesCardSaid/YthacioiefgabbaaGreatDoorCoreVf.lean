/- What each function asks, reckoned out of its text; printed by a program of mine (wip/tpl/VcTool.lean). No condition. -/
import Derived.Test.YthacioiefgabbaaGreatDoorSxB
import Derived.Test.YthacioiefgabbaaGreatDoorChecked
namespace Go.Proofs.YthacioiefgabbaaGreatDoor
open Go Go.Proofs
set_option linter.unusedVariables false
set_option maxRecDepth 100000
theorem vc25 {W : World} {Q : Ending → World → Prop} (arg0 : Option Addr) (arg0n : Nat) (arg0c : Nat) (arg1 : Option Addr) (arg1n : Nat) (arg1c : Nat) (arg2 : Int)
 (hVC :
 (∀ k : Nat, (∀ W2 : World, (k = Array.size (World.heap W) →
 (W2 = World.alloc W (Obj.cells #[.bool false, .int .i64 0, .slice none 0 0, .string (ByteArray.mk #[]), .slice none 0 0, .slice none 0 0] 38) →
 (((0 : Int) ≤ (0 : Int) ∧
 (0 : Int) < (↑arg0n : Int)) ∧
 Sx.adr arg0 (fun k2 =>
 (fun k3 =>
 (∃ p : Option Addr, (World.cell? W2 (.mk k2 (k3 + 0) none) = some (.pointer p) ∧
 Sx.ptr p (fun a =>
 (∃ p2 : Option Addr, (World.cell? W2 (Addr.add (Addr.add a 0) 6) = some (.pointer p2) ∧
 (∃ I : World → Prop, (((∃ v : Value, World.cell? W2 (.mk k (0 + 1) none) = some v) ∧
 (World.frozen? W2 (.mk k (0 + 1) none) = false ∧
 (∀ W3 : World, (W3 = World.setCell W2 (.mk k (0 + 1) none) (Value.int .i64 0) →
 (∃ I2 : World → Prop, (∃ I3 : World → Nat, (I2 W3 ∧
 ((Nat → Value) →
 (∀ W4 : World, (I2 W4 →
 (∃ z : Int, (World.cell? W4 (.mk k (0 + 1) none) = some (.int .i64 z) ∧
 Sx.split (decide (z < arg2))
 ((∃ t : Bool, (World.cell? W4 (.mk k 0 none) = some (.bool t) ∧
 Sx.split (!t)
 ((((0 : Int) ≤ (0 : Int) ∧
 (0 : Int) < (↑arg0n : Int)) ∧
 Sx.adr arg0 (fun k4 =>
 (fun k5 =>
 (∃ p3 : Option Addr, (World.cell? W4 (.mk k4 (k5 + 0) none) = some (.pointer p3) ∧
 Sx.ptr p3 (fun a2 =>
 (∃ p4 : Option Addr, (World.cell? W4 (Addr.add (Addr.add a2 0) 5) = some (.pointer p4) ∧
 Calls Tryz.prog 48 #[.pointer p4] W4 (fun e =>
 (fun W5 =>
 (∃ p5 : Option Addr, (∃ k6 : Nat, (∃ k7 : Nat, (e = .returned (.slice p5 k6 k7) ∧
 ((∃ v2 : Value, World.cell? W5 (.mk k 0 none) = some v2) ∧
 (World.frozen? W5 (.mk k 0 none) = false ∧
 (∀ W6 : World, (W6 = World.setCell W5 (.mk k 0 none) (Value.bool true) →
 (∃ I4 : Int → World → Prop, (∃ I5 : Int → World → Nat, (I4 0 W6 ∧
 ((Nat → Value) →
 (∀ x : Int, (∀ W7 : World, (I4 x W7 →
 Sx.split (decide (x < (↑arg0n : Int)))
 ((((0 : Int) ≤ x ∧
 x < (↑arg0n : Int)) ∧
 Sx.adr arg0 (fun k8 =>
 (fun k9 =>
 (∃ p6 : Option Addr, (World.cell? W7 (.mk k8 (k9 + Int.toNat x * 1) none) = some (.pointer p6) ∧
 (∃ z2 : Int, (World.cell? W7 (.mk k (0 + 1) none) = some (.int .i64 z2) ∧
 Sx.ptr p6 (fun a3 =>
 ((∃ v3 : Value, World.cell? W7 (Addr.add a3 29) = some v3) ∧
 (World.frozen? W7 (Addr.add a3 29) = false ∧
 (∀ W8 : World, (W8 = World.setCell W7 (Addr.add a3 29) (Value.int .i64 z2) →
 (((0 : Int) ≤ x ∧
 x < (↑arg1n : Int)) ∧
 Sx.adr arg1 (fun k10 =>
 (fun k11 =>
 (∃ p7 : Option Addr, (∃ k12 : Nat, (∃ k13 : Nat, (World.cell? W8 (.mk k10 (k11 + Int.toNat x * 1) none) = some (.slice p7 k12 k13) ∧
 (∃ I6 : Int → World → Prop, (∃ I7 : Int → World → Nat, (I6 0 W8 ∧
 ((Nat → Value) →
 (∀ x2 : Int, (∀ W9 : World, (I6 x2 W9 →
 Sx.split (decide (x2 < (↑k12 : Int)))
 ((((0 : Int) ≤ x2 ∧
 x2 < (↑k12 : Int)) ∧
 Sx.adr p7 (fun k14 =>
 (fun k15 =>
 (∃ z3 : Int, (World.cell? W9 (.mk k14 (k15 + Int.toNat x2 * 1) none) = some (.int .i64 z3) ∧
 (∀ W10 : World, (W10 = World.drew W9 →
 Sx.ptr p6 (fun a4 =>
 (∃ t2 : Bool, (World.cell? W10 (Addr.add a4 30) = some (.bool t2) ∧
 (∃ z4 : Int, (World.cell? W10 (.mk k (0 + 1) none) = some (.int .i64 z4) ∧
 Sx.ptr p6 (fun a5 =>
 ((∃ v4 : Value, World.cell? W10 (Addr.add a5 30) = some v4) ∧
 (World.frozen? W10 (Addr.add a5 30) = false ∧
 (∀ W11 : World, (W11 = World.setCell W10 (Addr.add a5 30) (Value.bool (!(t2 == (z3 == z4)))) →
 (∀ z5 : Int, (z5 = IntKind.wrap .i64 (x2 + 1) →
 (I6 z5 W11 ∧
 I7 z5 W11 < I7 x2 W9)))))))))))))))))))))
 (Calls Tryz.prog 49 #[.pointer p6, .slice p5 k6 k7] W9 (fun e2 =>
 (fun W12 =>
 (e2 = .returned (.tuple #[]) ∧
 Calls Tryz.prog 50 #[.pointer p6] W12 (fun e3 =>
 (fun W13 =>
 (e3 = .returned (.tuple #[]) ∧
 (∃ t3 : Bool, (World.cell? W13 (.mk k 0 none) = some (.bool t3) ∧
 Sx.split t3
 (Calls Tryz.prog 51 #[.pointer p6] W13 (fun e4 =>
 (fun W14 =>
 (∃ t4 : Bool, (e4 = .returned (.bool t4) ∧
 ((∃ v5 : Value, World.cell? W14 (.mk k 0 none) = some v5) ∧
 (World.frozen? W14 (.mk k 0 none) = false ∧
 (∀ W15 : World, (W15 = World.setCell W14 (.mk k 0 none) (Value.bool t4) →
 (∀ z6 : Int, (z6 = IntKind.wrap .i64 (x + 1) →
 (I4 z6 W15 ∧
 I5 z6 W15 < I5 x W7))))))))))))
 (((∃ v6 : Value, World.cell? W13 (.mk k 0 none) = some v6) ∧
 (World.frozen? W13 (.mk k 0 none) = false ∧
 (∀ W16 : World, (W16 = World.setCell W13 (.mk k 0 none) (Value.bool false) →
 (∀ z7 : Int, (z7 = IntKind.wrap .i64 (x + 1) →
 (I4 z7 W16 ∧
 I5 z7 W16 < I5 x W7))))))))))))))))))))))))))))))))))))))))))))
 ((∃ z8 : Int, (World.cell? W7 (.mk k (0 + 1) none) = some (.int .i64 z8) ∧
 (∀ z9 : Int, (z9 = IntKind.wrap .i64 (z8 + 1) →
 ((∃ v7 : Value, World.cell? W7 (.mk k (0 + 1) none) = some v7) ∧
 (World.frozen? W7 (.mk k (0 + 1) none) = false ∧
 (∀ W17 : World, (W17 = World.setCell W7 (.mk k (0 + 1) none) (Value.int .i64 z9) →
 (I2 W17 ∧
 I3 W17 < I3 W4))))))))))))))))))))))))))))))))))))
 (I W4))))
 (I W4))))))))))))) ∧
 ((Nat → Value) →
 (∀ W18 : World, (I W18 →
 (∃ I8 : Int → World → Prop, (∃ I9 : Int → World → Nat, (I8 0 W18 ∧
 ((Nat → Value) →
 (∀ x3 : Int, (∀ W19 : World, (I8 x3 W19 →
 Sx.split (decide (x3 < (↑arg0n : Int)))
 ((((0 : Int) ≤ x3 ∧
 x3 < (↑arg0n : Int)) ∧
 Sx.adr arg0 (fun k16 =>
 (fun k17 =>
 (∃ p8 : Option Addr, (World.cell? W19 (.mk k16 (k17 + Int.toNat x3 * 1) none) = some (.pointer p8) ∧
 (∀ k18 : Nat, (∀ W20 : World, (k18 = Array.size (World.heap W19) →
 (W20 = World.alloc W19 (Obj.cells #[.int .u32 0, .int .u32 0, .int .u32 0, .int .u32 0, .int .u32 0, .int .u32 0, .int .u32 0, .int .u32 0, .int .u32 0, .int .u32 0, .int .u32 0, .int .u32 0, .int .u32 0, .int .u32 0, .int .u32 0, .int .u32 0, .int .u32 0, .int .u32 0, .int .u32 0, .int .u32 0, .int .u32 0, .int .u32 0, .int .u32 0, .int .u32 0, .int .u32 0, .int .u32 0, .int .u32 0, .int .u32 0, .int .u32 0, .int .u32 0, .int .u32 0, .int .u32 0] 55) →
 (∃ I10 : Int → World → Prop, (∃ I11 : Int → World → Nat, (I10 0 W20 ∧
 ((Nat → Value) →
 (∀ x4 : Int, (∀ W21 : World, (I10 x4 W21 →
 Sx.split (decide (x4 < 32))
 (Calls Tryz.prog 52 #[.pointer p8, .int .i64 x4] W21 (fun e5 =>
 (fun W22 =>
 (∃ z10 : Int, (e5 = .returned (.int .u32 z10) ∧
 (((0 : Int) ≤ x4 ∧
 x4 < (↑32 : Int)) ∧
 ((∃ v8 : Value, World.cell? W22 (.mk k18 (0 + Int.toNat x4 * 1) none) = some v8) ∧
 (World.frozen? W22 (.mk k18 (0 + Int.toNat x4 * 1) none) = false ∧
 (∀ W23 : World, (W23 = World.setCell W22 (.mk k18 (0 + Int.toNat x4 * 1) none) (Value.int .u32 z10) →
 (∀ z11 : Int, (z11 = IntKind.wrap .i64 (x4 + 1) →
 (I10 z11 W23 ∧
 I11 z11 W23 < I11 x4 W21)))))))))))))
 ((∃ p9 : Option Addr, (∃ k19 : Nat, (∃ k20 : Nat, (World.cell? W21 (.mk k (0 + 4) none) = some (.slice p9 k19 k20) ∧
 (∃ vs : Array Value, (Array.size vs = 32 ∧
 (Sx.cellsAt W21 (.mk k18 0 none) vs ∧
 (Array.size vs = 32 ∧
 (∀ k21 : Nat, (∀ W24 : World, (k21 = Array.size (World.heap W21) →
 (W24 = World.alloc W21 (Obj.cells (List.toArray (Array.toList vs ++ [])) 55) →
 (∃ l : List Value, (∃ l2 : List Value, (XHeap.Sl W24 55 32 (Value.slice p9 k19 k20) k19 l ∧
 (((((1 : Nat) = (0 : Nat) ∧
 some (Addr.mk k21 0 none) = none)) ∨
 ((∃ a6 : Addr, (some (Addr.mk k21 0 none) = some a6 ∧
 (∀ k22 : Nat, (∀ v9 : Value, (l2[k22]? = some v9 →
 World.cell? W24 (Addr.add a6 k22) = some v9))))))) ∧
 (List.length l2 = 32 ∧
 ((∀ v10 : Value, (v10 ∈ l2 →
 Value.oneCell' v10 = true)) ∧
 (k19 + 1 ≤ maxLen ∧
 ((k19 + 1) * 128 ≤ 140737488355328 ∧
 (∀ p10 : Option Addr, (∀ k23 : Nat, (∀ W25 : World, (XHeap.Sl W25 55 32 (Value.slice p10 (k19 + 1) k23) (k19 + 1) (l ++ l2) →
 (XHeap.XTouch (fun b => Value.ownBlock (Value.slice p9 k19 k20) = some b) W24 W25 →
 ((∀ k24 : Nat, (Value.ownBlock (Value.slice p10 (k19 + 1) k23) = some k24 →
 ((Value.ownBlock (Value.slice p9 k19 k20) = some k24) ∨
 (Array.size (World.heap W24) ≤ k24)))) →
 (XHeap.Sl W25 55 32 (Value.slice p9 k19 k20) k19 l →
 ((((p10 = p9 ∧
 k23 = k20)) ∨
 ((((XHeap.NilP p9) ∨
 (k20 < k19 + 1)) ∧
 (∀ k25 : Nat, (Value.ownBlock (Value.slice p10 (k19 + 1) k23) = some k25 →
 Array.size (World.heap W24) ≤ k25))))) →
 ((∃ v11 : Value, World.cell? W25 (.mk k (0 + 4) none) = some v11) ∧
 (World.frozen? W25 (.mk k (0 + 4) none) = false ∧
 (∀ W26 : World, (W26 = World.setCell W25 (.mk k (0 + 4) none) (Value.slice p10 (k19 + 1) k23) →
 (∀ z12 : Int, (z12 = IntKind.wrap .i64 (x3 + 1) →
 (I8 z12 W26 ∧
 I9 z12 W26 < I9 x3 W19)))))))))))))))))))))))))))))))))))))))))))))))))))))
 ((∃ I12 : World → Prop, ((∀ W27 : World, (W27 = World.drew W19 →
 Sx.ptr p2 (fun a7 =>
 Sx.ptr p2 (fun a8 =>
 (((0 : Int) ≤ (0 : Int) ∧
 (0 : Int) < (↑arg0n : Int)) ∧
 Sx.adr arg0 (fun k26 =>
 (fun k27 =>
 (∃ p11 : Option Addr, (World.cell? W27 (.mk k26 (k27 + 0) none) = some (.pointer p11) ∧
 Sx.ptr p11 (fun a9 =>
 (∃ p12 : Option Addr, (World.cell? W27 (Addr.add (Addr.add a9 0) 5) = some (.pointer p12) ∧
 ((∃ p13 : Option Addr, (∃ k28 : Nat, (∃ k29 : Nat, (World.cell? W27 (Addr.add a7 0) = some (.slice p13 k28 k29) ∧
 (RowKit.Below (Array.size (World.heap W27)) W27 W27 ∧
 ((∃ p14 : Option Addr, (∃ k30 : Nat, (∃ k31 : Nat, (World.cell? W27 (Addr.add a8 1) = some (.slice p14 k30 k31) ∧
 (RowKit.Below (Array.size (World.heap W27)) W27 W27 ∧
 ((∃ l3 : List Int, (Sx.Bts W27 p14 k30 l3 ∧
 (RowKit.Below (Array.size (World.heap W27)) W27 W27 ∧
 Calls Tryz.prog 53 #[.pointer p12] W27 (fun e6 =>
 (fun W28 =>
 (∃ p15 : Option Addr, (∃ k32 : Nat, (∃ k33 : Nat, (e6 = .returned (.slice p15 k32 k33) ∧
 ((∃ v12 : Value, World.cell? W28 (.mk k (0 + 2) none) = some v12) ∧
 (World.frozen? W28 (.mk k (0 + 2) none) = false ∧
 (∀ W29 : World, (W29 = World.setCell W28 (.mk k (0 + 2) none) (Value.slice p13 k28 k29) →
 ((∃ v13 : Value, World.cell? W29 (.mk k (0 + 3) none) = some v13) ∧
 (World.frozen? W29 (.mk k (0 + 3) none) = false ∧
 (∀ W30 : World, (W30 = World.setCell W29 (.mk k (0 + 3) none) (Value.string (Sx.bstr l3)) →
 ((∃ v14 : Value, World.cell? W30 (.mk k (0 + 5) none) = some v14) ∧
 (World.frozen? W30 (.mk k (0 + 5) none) = false ∧
 (∀ W31 : World, (W31 = World.setCell W30 (.mk k (0 + 5) none) (Value.slice p15 k32 k33) →
 I12 W31))))))))))))))))))))) ∧
 Calls Tryz.prog 53 #[.pointer p12] W27 (fun e7 =>
 (fun W32 =>
 (∃ p16 : Option Addr, (∃ k34 : Nat, (∃ k35 : Nat, (e7 = .returned (.slice p16 k34 k35) ∧
 ((∃ l4 : List Int, (Sx.Bts W32 p14 k30 l4 ∧
 ((∃ v15 : Value, World.cell? W32 (.mk k (0 + 2) none) = some v15) ∧
 (World.frozen? W32 (.mk k (0 + 2) none) = false ∧
 (∀ W33 : World, (W33 = World.setCell W32 (.mk k (0 + 2) none) (Value.slice p13 k28 k29) →
 ((∃ v16 : Value, World.cell? W33 (.mk k (0 + 3) none) = some v16) ∧
 (World.frozen? W33 (.mk k (0 + 3) none) = false ∧
 (∀ W34 : World, (W34 = World.setCell W33 (.mk k (0 + 3) none) (Value.string (Sx.bstr l4)) →
 ((∃ v17 : Value, World.cell? W34 (.mk k (0 + 5) none) = some v17) ∧
 (World.frozen? W34 (.mk k (0 + 5) none) = false ∧
 (∀ W35 : World, (W35 = World.setCell W34 (.mk k (0 + 5) none) (Value.slice p16 k34 k35) →
 I12 W35)))))))))))))) ∧
 ((∃ v18 : Value, World.cell? W32 (.mk k (0 + 2) none) = some v18) ∧
 (World.frozen? W32 (.mk k (0 + 2) none) = false ∧
 (∀ W36 : World, (W36 = World.setCell W32 (.mk k (0 + 2) none) (Value.slice p13 k28 k29) →
 (∃ l5 : List Int, (Sx.Bts W36 p14 k30 l5 ∧
 ((∃ v19 : Value, World.cell? W36 (.mk k (0 + 3) none) = some v19) ∧
 (World.frozen? W36 (.mk k (0 + 3) none) = false ∧
 (∀ W37 : World, (W37 = World.setCell W36 (.mk k (0 + 3) none) (Value.string (Sx.bstr l5)) →
 ((∃ v20 : Value, World.cell? W37 (.mk k (0 + 5) none) = some v20) ∧
 (World.frozen? W37 (.mk k (0 + 5) none) = false ∧
 (∀ W38 : World, (W38 = World.setCell W37 (.mk k (0 + 5) none) (Value.slice p16 k34 k35) →
 I12 W38))))))))))))))))))))))))))) ∧
 Calls Tryz.prog 53 #[.pointer p12] W27 (fun e8 =>
 (fun W39 =>
 (∃ p17 : Option Addr, (∃ k36 : Nat, (∃ k37 : Nat, (e8 = .returned (.slice p17 k36 k37) ∧
 ((∃ p18 : Option Addr, (∃ k38 : Nat, (∃ k39 : Nat, (World.cell? W39 (Addr.add a8 1) = some (.slice p18 k38 k39) ∧
 ((∃ l6 : List Int, (Sx.Bts W39 p18 k38 l6 ∧
 ((∃ v21 : Value, World.cell? W39 (.mk k (0 + 2) none) = some v21) ∧
 (World.frozen? W39 (.mk k (0 + 2) none) = false ∧
 (∀ W40 : World, (W40 = World.setCell W39 (.mk k (0 + 2) none) (Value.slice p13 k28 k29) →
 ((∃ v22 : Value, World.cell? W40 (.mk k (0 + 3) none) = some v22) ∧
 (World.frozen? W40 (.mk k (0 + 3) none) = false ∧
 (∀ W41 : World, (W41 = World.setCell W40 (.mk k (0 + 3) none) (Value.string (Sx.bstr l6)) →
 ((∃ v23 : Value, World.cell? W41 (.mk k (0 + 5) none) = some v23) ∧
 (World.frozen? W41 (.mk k (0 + 5) none) = false ∧
 (∀ W42 : World, (W42 = World.setCell W41 (.mk k (0 + 5) none) (Value.slice p17 k36 k37) →
 I12 W42)))))))))))))) ∧
 ((∃ v24 : Value, World.cell? W39 (.mk k (0 + 2) none) = some v24) ∧
 (World.frozen? W39 (.mk k (0 + 2) none) = false ∧
 (∀ W43 : World, (W43 = World.setCell W39 (.mk k (0 + 2) none) (Value.slice p13 k28 k29) →
 (∃ l7 : List Int, (Sx.Bts W43 p18 k38 l7 ∧
 ((∃ v25 : Value, World.cell? W43 (.mk k (0 + 3) none) = some v25) ∧
 (World.frozen? W43 (.mk k (0 + 3) none) = false ∧
 (∀ W44 : World, (W44 = World.setCell W43 (.mk k (0 + 3) none) (Value.string (Sx.bstr l7)) →
 ((∃ v26 : Value, World.cell? W44 (.mk k (0 + 5) none) = some v26) ∧
 (World.frozen? W44 (.mk k (0 + 5) none) = false ∧
 (∀ W45 : World, (W45 = World.setCell W44 (.mk k (0 + 5) none) (Value.slice p17 k36 k37) →
 I12 W45))))))))))))))))))) ∧
 ((∃ v27 : Value, World.cell? W39 (.mk k (0 + 2) none) = some v27) ∧
 (World.frozen? W39 (.mk k (0 + 2) none) = false ∧
 (∀ W46 : World, (W46 = World.setCell W39 (.mk k (0 + 2) none) (Value.slice p13 k28 k29) →
 (∃ p19 : Option Addr, (∃ k40 : Nat, (∃ k41 : Nat, (World.cell? W46 (Addr.add a8 1) = some (.slice p19 k40 k41) ∧
 (∃ l8 : List Int, (Sx.Bts W46 p19 k40 l8 ∧
 ((∃ v28 : Value, World.cell? W46 (.mk k (0 + 3) none) = some v28) ∧
 (World.frozen? W46 (.mk k (0 + 3) none) = false ∧
 (∀ W47 : World, (W47 = World.setCell W46 (.mk k (0 + 3) none) (Value.string (Sx.bstr l8)) →
 ((∃ v29 : Value, World.cell? W47 (.mk k (0 + 5) none) = some v29) ∧
 (World.frozen? W47 (.mk k (0 + 5) none) = false ∧
 (∀ W48 : World, (W48 = World.setCell W47 (.mk k (0 + 5) none) (Value.slice p17 k36 k37) →
 I12 W48))))))))))))))))))))))))))))))) ∧
 ((∃ p20 : Option Addr, (∃ k42 : Nat, (∃ k43 : Nat, (World.cell? W27 (Addr.add a8 1) = some (.slice p20 k42 k43) ∧
 (RowKit.Below (Array.size (World.heap W27)) W27 W27 ∧
 ((∃ p21 : Option Addr, (∃ k44 : Nat, (∃ k45 : Nat, (World.cell? W27 (Addr.add a7 0) = some (.slice p21 k44 k45) ∧
 (RowKit.Below (Array.size (World.heap W27)) W27 W27 ∧
 ((∃ l9 : List Int, (Sx.Bts W27 p20 k42 l9 ∧
 (RowKit.Below (Array.size (World.heap W27)) W27 W27 ∧
 Calls Tryz.prog 53 #[.pointer p12] W27 (fun e9 =>
 (fun W49 =>
 (∃ p22 : Option Addr, (∃ k46 : Nat, (∃ k47 : Nat, (e9 = .returned (.slice p22 k46 k47) ∧
 ((∃ v30 : Value, World.cell? W49 (.mk k (0 + 2) none) = some v30) ∧
 (World.frozen? W49 (.mk k (0 + 2) none) = false ∧
 (∀ W50 : World, (W50 = World.setCell W49 (.mk k (0 + 2) none) (Value.slice p21 k44 k45) →
 ((∃ v31 : Value, World.cell? W50 (.mk k (0 + 3) none) = some v31) ∧
 (World.frozen? W50 (.mk k (0 + 3) none) = false ∧
 (∀ W51 : World, (W51 = World.setCell W50 (.mk k (0 + 3) none) (Value.string (Sx.bstr l9)) →
 ((∃ v32 : Value, World.cell? W51 (.mk k (0 + 5) none) = some v32) ∧
 (World.frozen? W51 (.mk k (0 + 5) none) = false ∧
 (∀ W52 : World, (W52 = World.setCell W51 (.mk k (0 + 5) none) (Value.slice p22 k46 k47) →
 I12 W52))))))))))))))))))))) ∧
 Calls Tryz.prog 53 #[.pointer p12] W27 (fun e10 =>
 (fun W53 =>
 (∃ p23 : Option Addr, (∃ k48 : Nat, (∃ k49 : Nat, (e10 = .returned (.slice p23 k48 k49) ∧
 ((∃ l10 : List Int, (Sx.Bts W53 p20 k42 l10 ∧
 ((∃ v33 : Value, World.cell? W53 (.mk k (0 + 2) none) = some v33) ∧
 (World.frozen? W53 (.mk k (0 + 2) none) = false ∧
 (∀ W54 : World, (W54 = World.setCell W53 (.mk k (0 + 2) none) (Value.slice p21 k44 k45) →
 ((∃ v34 : Value, World.cell? W54 (.mk k (0 + 3) none) = some v34) ∧
 (World.frozen? W54 (.mk k (0 + 3) none) = false ∧
 (∀ W55 : World, (W55 = World.setCell W54 (.mk k (0 + 3) none) (Value.string (Sx.bstr l10)) →
 ((∃ v35 : Value, World.cell? W55 (.mk k (0 + 5) none) = some v35) ∧
 (World.frozen? W55 (.mk k (0 + 5) none) = false ∧
 (∀ W56 : World, (W56 = World.setCell W55 (.mk k (0 + 5) none) (Value.slice p23 k48 k49) →
 I12 W56)))))))))))))) ∧
 ((∃ v36 : Value, World.cell? W53 (.mk k (0 + 2) none) = some v36) ∧
 (World.frozen? W53 (.mk k (0 + 2) none) = false ∧
 (∀ W57 : World, (W57 = World.setCell W53 (.mk k (0 + 2) none) (Value.slice p21 k44 k45) →
 (∃ l11 : List Int, (Sx.Bts W57 p20 k42 l11 ∧
 ((∃ v37 : Value, World.cell? W57 (.mk k (0 + 3) none) = some v37) ∧
 (World.frozen? W57 (.mk k (0 + 3) none) = false ∧
 (∀ W58 : World, (W58 = World.setCell W57 (.mk k (0 + 3) none) (Value.string (Sx.bstr l11)) →
 ((∃ v38 : Value, World.cell? W58 (.mk k (0 + 5) none) = some v38) ∧
 (World.frozen? W58 (.mk k (0 + 5) none) = false ∧
 (∀ W59 : World, (W59 = World.setCell W58 (.mk k (0 + 5) none) (Value.slice p23 k48 k49) →
 I12 W59))))))))))))))))))))))))))) ∧
 ((∃ l12 : List Int, (Sx.Bts W27 p20 k42 l12 ∧
 (RowKit.Below (Array.size (World.heap W27)) W27 W27 ∧
 ((∃ p24 : Option Addr, (∃ k50 : Nat, (∃ k51 : Nat, (World.cell? W27 (Addr.add a7 0) = some (.slice p24 k50 k51) ∧
 (RowKit.Below (Array.size (World.heap W27)) W27 W27 ∧
 Calls Tryz.prog 53 #[.pointer p12] W27 (fun e11 =>
 (fun W60 =>
 (∃ p25 : Option Addr, (∃ k52 : Nat, (∃ k53 : Nat, (e11 = .returned (.slice p25 k52 k53) ∧
 ((∃ v39 : Value, World.cell? W60 (.mk k (0 + 2) none) = some v39) ∧
 (World.frozen? W60 (.mk k (0 + 2) none) = false ∧
 (∀ W61 : World, (W61 = World.setCell W60 (.mk k (0 + 2) none) (Value.slice p24 k50 k51) →
 ((∃ v40 : Value, World.cell? W61 (.mk k (0 + 3) none) = some v40) ∧
 (World.frozen? W61 (.mk k (0 + 3) none) = false ∧
 (∀ W62 : World, (W62 = World.setCell W61 (.mk k (0 + 3) none) (Value.string (Sx.bstr l12)) →
 ((∃ v41 : Value, World.cell? W62 (.mk k (0 + 5) none) = some v41) ∧
 (World.frozen? W62 (.mk k (0 + 5) none) = false ∧
 (∀ W63 : World, (W63 = World.setCell W62 (.mk k (0 + 5) none) (Value.slice p25 k52 k53) →
 I12 W63))))))))))))))))))))))) ∧
 Calls Tryz.prog 53 #[.pointer p12] W27 (fun e12 =>
 (fun W64 =>
 (∃ p26 : Option Addr, (∃ k54 : Nat, (∃ k55 : Nat, (e12 = .returned (.slice p26 k54 k55) ∧
 (∃ p27 : Option Addr, (∃ k56 : Nat, (∃ k57 : Nat, (World.cell? W64 (Addr.add a7 0) = some (.slice p27 k56 k57) ∧
 ((∃ v42 : Value, World.cell? W64 (.mk k (0 + 2) none) = some v42) ∧
 (World.frozen? W64 (.mk k (0 + 2) none) = false ∧
 (∀ W65 : World, (W65 = World.setCell W64 (.mk k (0 + 2) none) (Value.slice p27 k56 k57) →
 ((∃ v43 : Value, World.cell? W65 (.mk k (0 + 3) none) = some v43) ∧
 (World.frozen? W65 (.mk k (0 + 3) none) = false ∧
 (∀ W66 : World, (W66 = World.setCell W65 (.mk k (0 + 3) none) (Value.string (Sx.bstr l12)) →
 ((∃ v44 : Value, World.cell? W66 (.mk k (0 + 5) none) = some v44) ∧
 (World.frozen? W66 (.mk k (0 + 5) none) = false ∧
 (∀ W67 : World, (W67 = World.setCell W66 (.mk k (0 + 5) none) (Value.slice p26 k54 k55) →
 I12 W67)))))))))))))))))))))))))) ∧
 Calls Tryz.prog 53 #[.pointer p12] W27 (fun e13 =>
 (fun W68 =>
 (∃ p28 : Option Addr, (∃ k58 : Nat, (∃ k59 : Nat, (e13 = .returned (.slice p28 k58 k59) ∧
 ((∃ p29 : Option Addr, (∃ k60 : Nat, (∃ k61 : Nat, (World.cell? W68 (Addr.add a7 0) = some (.slice p29 k60 k61) ∧
 ((∃ l13 : List Int, (Sx.Bts W68 p20 k42 l13 ∧
 ((∃ v45 : Value, World.cell? W68 (.mk k (0 + 2) none) = some v45) ∧
 (World.frozen? W68 (.mk k (0 + 2) none) = false ∧
 (∀ W69 : World, (W69 = World.setCell W68 (.mk k (0 + 2) none) (Value.slice p29 k60 k61) →
 ((∃ v46 : Value, World.cell? W69 (.mk k (0 + 3) none) = some v46) ∧
 (World.frozen? W69 (.mk k (0 + 3) none) = false ∧
 (∀ W70 : World, (W70 = World.setCell W69 (.mk k (0 + 3) none) (Value.string (Sx.bstr l13)) →
 ((∃ v47 : Value, World.cell? W70 (.mk k (0 + 5) none) = some v47) ∧
 (World.frozen? W70 (.mk k (0 + 5) none) = false ∧
 (∀ W71 : World, (W71 = World.setCell W70 (.mk k (0 + 5) none) (Value.slice p28 k58 k59) →
 I12 W71)))))))))))))) ∧
 ((∃ v48 : Value, World.cell? W68 (.mk k (0 + 2) none) = some v48) ∧
 (World.frozen? W68 (.mk k (0 + 2) none) = false ∧
 (∀ W72 : World, (W72 = World.setCell W68 (.mk k (0 + 2) none) (Value.slice p29 k60 k61) →
 (∃ l14 : List Int, (Sx.Bts W72 p20 k42 l14 ∧
 ((∃ v49 : Value, World.cell? W72 (.mk k (0 + 3) none) = some v49) ∧
 (World.frozen? W72 (.mk k (0 + 3) none) = false ∧
 (∀ W73 : World, (W73 = World.setCell W72 (.mk k (0 + 3) none) (Value.string (Sx.bstr l14)) →
 ((∃ v50 : Value, World.cell? W73 (.mk k (0 + 5) none) = some v50) ∧
 (World.frozen? W73 (.mk k (0 + 5) none) = false ∧
 (∀ W74 : World, (W74 = World.setCell W73 (.mk k (0 + 5) none) (Value.slice p28 k58 k59) →
 I12 W74))))))))))))))))))) ∧
 (∃ l15 : List Int, (Sx.Bts W68 p20 k42 l15 ∧
 (∃ p30 : Option Addr, (∃ k62 : Nat, (∃ k63 : Nat, (World.cell? W68 (Addr.add a7 0) = some (.slice p30 k62 k63) ∧
 ((∃ v51 : Value, World.cell? W68 (.mk k (0 + 2) none) = some v51) ∧
 (World.frozen? W68 (.mk k (0 + 2) none) = false ∧
 (∀ W75 : World, (W75 = World.setCell W68 (.mk k (0 + 2) none) (Value.slice p30 k62 k63) →
 ((∃ v52 : Value, World.cell? W75 (.mk k (0 + 3) none) = some v52) ∧
 (World.frozen? W75 (.mk k (0 + 3) none) = false ∧
 (∀ W76 : World, (W76 = World.setCell W75 (.mk k (0 + 3) none) (Value.string (Sx.bstr l15)) →
 ((∃ v53 : Value, World.cell? W76 (.mk k (0 + 5) none) = some v53) ∧
 (World.frozen? W76 (.mk k (0 + 5) none) = false ∧
 (∀ W77 : World, (W77 = World.setCell W76 (.mk k (0 + 5) none) (Value.slice p28 k58 k59) →
 I12 W77)))))))))))))))))))))))))))))))) ∧
 Calls Tryz.prog 53 #[.pointer p12] W27 (fun e14 =>
 (fun W78 =>
 (∃ p31 : Option Addr, (∃ k64 : Nat, (∃ k65 : Nat, (e14 = .returned (.slice p31 k64 k65) ∧
 ((∃ p32 : Option Addr, (∃ k66 : Nat, (∃ k67 : Nat, (World.cell? W78 (Addr.add a7 0) = some (.slice p32 k66 k67) ∧
 ((∃ p33 : Option Addr, (∃ k68 : Nat, (∃ k69 : Nat, (World.cell? W78 (Addr.add a8 1) = some (.slice p33 k68 k69) ∧
 ((∃ l16 : List Int, (Sx.Bts W78 p33 k68 l16 ∧
 ((∃ v54 : Value, World.cell? W78 (.mk k (0 + 2) none) = some v54) ∧
 (World.frozen? W78 (.mk k (0 + 2) none) = false ∧
 (∀ W79 : World, (W79 = World.setCell W78 (.mk k (0 + 2) none) (Value.slice p32 k66 k67) →
 ((∃ v55 : Value, World.cell? W79 (.mk k (0 + 3) none) = some v55) ∧
 (World.frozen? W79 (.mk k (0 + 3) none) = false ∧
 (∀ W80 : World, (W80 = World.setCell W79 (.mk k (0 + 3) none) (Value.string (Sx.bstr l16)) →
 ((∃ v56 : Value, World.cell? W80 (.mk k (0 + 5) none) = some v56) ∧
 (World.frozen? W80 (.mk k (0 + 5) none) = false ∧
 (∀ W81 : World, (W81 = World.setCell W80 (.mk k (0 + 5) none) (Value.slice p31 k64 k65) →
 I12 W81)))))))))))))) ∧
 ((∃ v57 : Value, World.cell? W78 (.mk k (0 + 2) none) = some v57) ∧
 (World.frozen? W78 (.mk k (0 + 2) none) = false ∧
 (∀ W82 : World, (W82 = World.setCell W78 (.mk k (0 + 2) none) (Value.slice p32 k66 k67) →
 (∃ l17 : List Int, (Sx.Bts W82 p33 k68 l17 ∧
 ((∃ v58 : Value, World.cell? W82 (.mk k (0 + 3) none) = some v58) ∧
 (World.frozen? W82 (.mk k (0 + 3) none) = false ∧
 (∀ W83 : World, (W83 = World.setCell W82 (.mk k (0 + 3) none) (Value.string (Sx.bstr l17)) →
 ((∃ v59 : Value, World.cell? W83 (.mk k (0 + 5) none) = some v59) ∧
 (World.frozen? W83 (.mk k (0 + 5) none) = false ∧
 (∀ W84 : World, (W84 = World.setCell W83 (.mk k (0 + 5) none) (Value.slice p31 k64 k65) →
 I12 W84))))))))))))))))))) ∧
 ((∃ v60 : Value, World.cell? W78 (.mk k (0 + 2) none) = some v60) ∧
 (World.frozen? W78 (.mk k (0 + 2) none) = false ∧
 (∀ W85 : World, (W85 = World.setCell W78 (.mk k (0 + 2) none) (Value.slice p32 k66 k67) →
 (∃ p34 : Option Addr, (∃ k70 : Nat, (∃ k71 : Nat, (World.cell? W85 (Addr.add a8 1) = some (.slice p34 k70 k71) ∧
 (∃ l18 : List Int, (Sx.Bts W85 p34 k70 l18 ∧
 ((∃ v61 : Value, World.cell? W85 (.mk k (0 + 3) none) = some v61) ∧
 (World.frozen? W85 (.mk k (0 + 3) none) = false ∧
 (∀ W86 : World, (W86 = World.setCell W85 (.mk k (0 + 3) none) (Value.string (Sx.bstr l18)) →
 ((∃ v62 : Value, World.cell? W86 (.mk k (0 + 5) none) = some v62) ∧
 (World.frozen? W86 (.mk k (0 + 5) none) = false ∧
 (∀ W87 : World, (W87 = World.setCell W86 (.mk k (0 + 5) none) (Value.slice p31 k64 k65) →
 I12 W87))))))))))))))))))))))) ∧
 (∃ p35 : Option Addr, (∃ k72 : Nat, (∃ k73 : Nat, (World.cell? W78 (Addr.add a8 1) = some (.slice p35 k72 k73) ∧
 ((∃ p36 : Option Addr, (∃ k74 : Nat, (∃ k75 : Nat, (World.cell? W78 (Addr.add a7 0) = some (.slice p36 k74 k75) ∧
 ((∃ l19 : List Int, (Sx.Bts W78 p35 k72 l19 ∧
 ((∃ v63 : Value, World.cell? W78 (.mk k (0 + 2) none) = some v63) ∧
 (World.frozen? W78 (.mk k (0 + 2) none) = false ∧
 (∀ W88 : World, (W88 = World.setCell W78 (.mk k (0 + 2) none) (Value.slice p36 k74 k75) →
 ((∃ v64 : Value, World.cell? W88 (.mk k (0 + 3) none) = some v64) ∧
 (World.frozen? W88 (.mk k (0 + 3) none) = false ∧
 (∀ W89 : World, (W89 = World.setCell W88 (.mk k (0 + 3) none) (Value.string (Sx.bstr l19)) →
 ((∃ v65 : Value, World.cell? W89 (.mk k (0 + 5) none) = some v65) ∧
 (World.frozen? W89 (.mk k (0 + 5) none) = false ∧
 (∀ W90 : World, (W90 = World.setCell W89 (.mk k (0 + 5) none) (Value.slice p31 k64 k65) →
 I12 W90)))))))))))))) ∧
 ((∃ v66 : Value, World.cell? W78 (.mk k (0 + 2) none) = some v66) ∧
 (World.frozen? W78 (.mk k (0 + 2) none) = false ∧
 (∀ W91 : World, (W91 = World.setCell W78 (.mk k (0 + 2) none) (Value.slice p36 k74 k75) →
 (∃ l20 : List Int, (Sx.Bts W91 p35 k72 l20 ∧
 ((∃ v67 : Value, World.cell? W91 (.mk k (0 + 3) none) = some v67) ∧
 (World.frozen? W91 (.mk k (0 + 3) none) = false ∧
 (∀ W92 : World, (W92 = World.setCell W91 (.mk k (0 + 3) none) (Value.string (Sx.bstr l20)) →
 ((∃ v68 : Value, World.cell? W92 (.mk k (0 + 5) none) = some v68) ∧
 (World.frozen? W92 (.mk k (0 + 5) none) = false ∧
 (∀ W93 : World, (W93 = World.setCell W92 (.mk k (0 + 5) none) (Value.slice p31 k64 k65) →
 I12 W93))))))))))))))))))) ∧
 (∃ l21 : List Int, (Sx.Bts W78 p35 k72 l21 ∧
 (∃ p37 : Option Addr, (∃ k76 : Nat, (∃ k77 : Nat, (World.cell? W78 (Addr.add a7 0) = some (.slice p37 k76 k77) ∧
 ((∃ v69 : Value, World.cell? W78 (.mk k (0 + 2) none) = some v69) ∧
 (World.frozen? W78 (.mk k (0 + 2) none) = false ∧
 (∀ W94 : World, (W94 = World.setCell W78 (.mk k (0 + 2) none) (Value.slice p37 k76 k77) →
 ((∃ v70 : Value, World.cell? W94 (.mk k (0 + 3) none) = some v70) ∧
 (World.frozen? W94 (.mk k (0 + 3) none) = false ∧
 (∀ W95 : World, (W95 = World.setCell W94 (.mk k (0 + 3) none) (Value.string (Sx.bstr l21)) →
 ((∃ v71 : Value, World.cell? W95 (.mk k (0 + 5) none) = some v71) ∧
 (World.frozen? W95 (.mk k (0 + 5) none) = false ∧
 (∀ W96 : World, (W96 = World.setCell W95 (.mk k (0 + 5) none) (Value.slice p31 k64 k65) →
 I12 W96)))))))))))))))))))))))))))))))))))))))))))) ∧
 ((Nat → Value) →
 (∀ W97 : World, (I12 W97 →
 (∃ vs2 : Array Value, (Array.size vs2 = 6 ∧
 (Sx.cellsAt W97 (.mk k 0 none) vs2 ∧
 (Array.size vs2 = 6 ∧
 ((∀ k78 : Nat, (k78 < 6 →
 ((∃ v72 : Value, World.cell? W97 (.mk k (0 + k78) none) = some v72) ∧
 World.frozen? W97 (.mk k (0 + k78) none) = false))) ∧
 ((∀ v73 : Value, (v73 ∈ Array.toList vs2 →
 Value.oneCell' v73 = true)) ∧
 (∀ W98 : World, (W98 = World.setCells W97 k 0 (Array.toList vs2) →
 (∃ vs3 : Array Value, (Array.size vs3 = 6 ∧
 (Sx.cellsAt W98 (.mk k 0 none) vs3 ∧
 Q (.returned (.agg vs3)) W98)))))))))))))))))))))))))))))))))))))))))) :
 Calls Tryz.prog 25 #[.slice arg0 arg0n arg0c, .slice arg1 arg1n arg1c, .int .i64 arg2] W Q :=
 Sx.sound Tryz.func25 (.node [] [] 0 .leaf (.node [] [] 0 .leaf (.node [] [0, 6, 7] 1 (.node [] [] 0 .leaf (.node [] [] 0 (.node [] [6, 2, 0, 1, 7] 0 (.node [] [] 0 .leaf (.node [] [] 0 (.node [] [] 0 (.node [] [] 0 .leaf (.node [] [] 0 .leaf (.node [] [] 0 .leaf (.node [] [] 0 (.node [(49, .int .i64)] [48, 47, 6, 1, 8, 2, 0, 7] 0 (.node [] [] 0 .leaf (.node [] [] 0 .leaf (.node [] [] 0 (.node [] [] 0 (.node [] [] 0 .leaf (.node [] [] 0 .leaf (.node [] [] 0 (.node [] [] 0 .leaf (.node [] [] 0 (.node [(64, .int .i64)] [63, 62, 10, 6, 8, 49, 48, 47, 1, 2, 0, 7] 0 (.node [] [] 0 .leaf (.node [] [] 0 .leaf (.node [] [] 0 (.node [] [] 0 (.node [] [] 0 .leaf (.node [] [] 13 .leaf .leaf)) .leaf) .leaf))) .leaf) .leaf)) .leaf))) .leaf) .leaf))) .leaf) .leaf)))) .leaf) .leaf)) .leaf) .leaf)) (.node [] [] 0 (.node [] [] 0 .leaf (.node [] [] 0 (.node [(96, .int .i64)] [95, 94, 6, 7, 0] 0 (.node [] [] 0 .leaf (.node [] [] 0 .leaf (.node [] [] 0 (.node [] [] 0 (.node [] [] 0 .leaf (.node [] [] 0 .leaf (.node [] [] 0 (.node [] [] 0 .leaf (.node [] [] 0 (.node [(100, .int .i64)] [14, 15, 6, 96, 95, 94, 7, 0] 0 .leaf .leaf) .leaf)) .leaf))) .leaf) .leaf))) .leaf) .leaf)) (.node [] [6] 1 (.node [] [] 1017 .leaf .leaf) .leaf))))) [Value.slice arg0 arg0n arg0c, .slice arg1 arg1n arg1c, .int .i64 arg2] rfl (Eq.mp (by kernel_rfl) hVC)
theorem vc14 {W : World} {Q : Ending → World → Prop} (arg0 : Option Addr) (arg0n : Nat) (arg0c : Nat) (arg1 : Option Addr) (arg1n : Nat) (arg1c : Nat) (arg2 : Option Addr) (arg2n : Nat) (arg2c : Nat) (arg3 : Option Addr) (arg3n : Nat) (arg3c : Nat) (arg4 : Int)
 (hVC :
 (∀ k : Nat, (∀ W2 : World, (k = Array.size (World.heap W) →
 (W2 = World.alloc W (Obj.cells #[.bool false, .int .i64 0, .slice none 0 0, .string (ByteArray.mk #[]), .slice none 0 0, .slice none 0 0] 38) →
 Sx.split (decide ((↑arg0n : Int) < 1))
 ((∀ vs : Array Value, (vs = #[.bool false, .int .i64 0, .slice none 0 0, .string (ByteArray.mk #[]), .slice none 0 0, .slice none 0 0] →
 (Array.size vs = 6 ∧
 ((∀ k2 : Nat, (k2 < 6 →
 ((∃ v : Value, World.cell? W2 (.mk k (0 + k2) none) = some v) ∧
 World.frozen? W2 (.mk k (0 + k2) none) = false))) ∧
 ((∀ v2 : Value, (v2 ∈ Array.toList vs →
 Value.oneCell' v2 = true)) ∧
 (∀ W3 : World, (W3 = World.setCells W2 k 0 (Array.toList vs) →
 (∃ vs2 : Array Value, (Array.size vs2 = 6 ∧
 (Sx.cellsAt W3 (.mk k 0 none) vs2 ∧
 Q (.returned (.tuple #[.agg vs2, .iface 33 (Value.int .i64 3)])) W3)))))))))))
 (Sx.split (decide ((↑arg0n : Int) > 2))
 ((∀ vs3 : Array Value, (vs3 = #[.bool false, .int .i64 0, .slice none 0 0, .string (ByteArray.mk #[]), .slice none 0 0, .slice none 0 0] →
 (Array.size vs3 = 6 ∧
 ((∀ k3 : Nat, (k3 < 6 →
 ((∃ v3 : Value, World.cell? W2 (.mk k (0 + k3) none) = some v3) ∧
 World.frozen? W2 (.mk k (0 + k3) none) = false))) ∧
 ((∀ v4 : Value, (v4 ∈ Array.toList vs3 →
 Value.oneCell' v4 = true)) ∧
 (∀ W4 : World, (W4 = World.setCells W2 k 0 (Array.toList vs3) →
 (∃ vs4 : Array Value, (Array.size vs4 = 6 ∧
 (Sx.cellsAt W4 (.mk k 0 none) vs4 ∧
 Q (.returned (.tuple #[.agg vs4, .iface 33 (Value.int .i64 3)])) W4)))))))))))
 (Sx.split ((↑arg2n : Int) != (↑arg0n : Int))
 ((∀ vs5 : Array Value, (vs5 = #[.bool false, .int .i64 0, .slice none 0 0, .string (ByteArray.mk #[]), .slice none 0 0, .slice none 0 0] →
 (Array.size vs5 = 6 ∧
 ((∀ k4 : Nat, (k4 < 6 →
 ((∃ v5 : Value, World.cell? W2 (.mk k (0 + k4) none) = some v5) ∧
 World.frozen? W2 (.mk k (0 + k4) none) = false))) ∧
 ((∀ v6 : Value, (v6 ∈ Array.toList vs5 →
 Value.oneCell' v6 = true)) ∧
 (∀ W5 : World, (W5 = World.setCells W2 k 0 (Array.toList vs5) →
 (∃ vs6 : Array Value, (Array.size vs6 = 6 ∧
 (Sx.cellsAt W5 (.mk k 0 none) vs6 ∧
 Q (.returned (.tuple #[.agg vs6, .iface 33 (Value.int .i64 3)])) W5)))))))))))
 (Sx.split ((↑arg3n : Int) != (↑arg0n : Int))
 ((∀ vs7 : Array Value, (vs7 = #[.bool false, .int .i64 0, .slice none 0 0, .string (ByteArray.mk #[]), .slice none 0 0, .slice none 0 0] →
 (Array.size vs7 = 6 ∧
 ((∀ k5 : Nat, (k5 < 6 →
 ((∃ v7 : Value, World.cell? W2 (.mk k (0 + k5) none) = some v7) ∧
 World.frozen? W2 (.mk k (0 + k5) none) = false))) ∧
 ((∀ v8 : Value, (v8 ∈ Array.toList vs7 →
 Value.oneCell' v8 = true)) ∧
 (∀ W6 : World, (W6 = World.setCells W2 k 0 (Array.toList vs7) →
 (∃ vs8 : Array Value, (Array.size vs8 = 6 ∧
 (Sx.cellsAt W6 (.mk k 0 none) vs8 ∧
 Q (.returned (.tuple #[.agg vs8, .iface 33 (Value.int .i64 3)])) W6)))))))))))
 (Calls Tryz.prog 21 #[.int .i64 arg4, .int .i64 0, .int .i64 1000000] W2 (fun e =>
 (fun W7 =>
 (∃ t : Bool, (e = .returned (.bool t) ∧
 Sx.split (!t)
 ((∀ vs9 : Array Value, (vs9 = #[.bool false, .int .i64 0, .slice none 0 0, .string (ByteArray.mk #[]), .slice none 0 0, .slice none 0 0] →
 (Array.size vs9 = 6 ∧
 ((∀ k6 : Nat, (k6 < 6 →
 ((∃ v9 : Value, World.cell? W7 (.mk k (0 + k6) none) = some v9) ∧
 World.frozen? W7 (.mk k (0 + k6) none) = false))) ∧
 ((∀ v10 : Value, (v10 ∈ Array.toList vs9 →
 Value.oneCell' v10 = true)) ∧
 (∀ W8 : World, (W8 = World.setCells W7 k 0 (Array.toList vs9) →
 (∃ vs10 : Array Value, (Array.size vs10 = 6 ∧
 (Sx.cellsAt W8 (.mk k 0 none) vs10 ∧
 Q (.returned (.tuple #[.agg vs10, .iface 33 (Value.int .i64 3)])) W8)))))))))))
 ((∃ I : Option Addr → Nat → Nat → World → Prop, ((∃ I2 : Int → Option Addr → Nat → Nat → World → Prop, (∃ I3 : Int → Option Addr → Nat → Nat → World → Nat, (I2 0 none 0 0 W7 ∧
 ((Nat → Value) →
 (∀ x : Int, (∀ x2 : Option Addr, (∀ k7 : Nat, (∀ k8 : Nat, (∀ W9 : World, (I2 x x2 k7 k8 W9 →
 Sx.split (decide (x < (↑arg0n : Int)))
 ((((0 : Int) ≤ x ∧
 x < (↑arg0n : Int)) ∧
 Sx.adr arg0 (fun k9 =>
 (fun k10 =>
 (∃ p : Option Addr, (∃ k11 : Nat, (∃ k12 : Nat, (World.cell? W9 (.mk k9 (k10 + Int.toNat x * 1) none) = some (.slice p k11 k12) ∧
 Calls Tryz.prog 22 #[.slice p k11 k12, .int .i64 (↑arg1n : Int)] W9 (fun e2 =>
 (fun W10 =>
 (∃ v11 : Value, (e2 = .returned v11 ∧
 Sx.isNil v11 (fun t2 =>
 Sx.split (!t2)
 ((∀ vs11 : Array Value, (vs11 = #[.bool false, .int .i64 0, .slice none 0 0, .string (ByteArray.mk #[]), .slice none 0 0, .slice none 0 0] →
 (Array.size vs11 = 6 ∧
 ((∀ k13 : Nat, (k13 < 6 →
 ((∃ v12 : Value, World.cell? W10 (.mk k (0 + k13) none) = some v12) ∧
 World.frozen? W10 (.mk k (0 + k13) none) = false))) ∧
 ((∀ v13 : Value, (v13 ∈ Array.toList vs11 →
 Value.oneCell' v13 = true)) ∧
 (∀ W11 : World, (W11 = World.setCells W10 k 0 (Array.toList vs11) →
 (∃ vs12 : Array Value, (Array.size vs12 = 6 ∧
 (Sx.cellsAt W11 (.mk k 0 none) vs12 ∧
 Q (.returned (.tuple #[.agg vs12, v11])) W11)))))))))))
 ((((0 : Int) ≤ x ∧
 x < (↑arg2n : Int)) ∧
 Sx.adr arg2 (fun k14 =>
 (fun k15 =>
 (∃ vs13 : Array Value, (Array.size vs13 = 2 ∧
 (Sx.cellsAt W10 (.mk k14 (k15 + Int.toNat x * 15 + 12) none) vs13 ∧
 (Array.size vs13 = 2 ∧
 (∀ k16 : Nat, (∀ W12 : World, (k16 = Array.size (World.heap W10) →
 (W12 = World.alloc W10 (Obj.cells (List.toArray (Array.toList vs13 ++ [])) 27) →
 (∃ l : List Value, (∃ l2 : List Value, (XHeap.Sl W12 27 2 (Value.slice x2 k7 k8) k7 l ∧
 (((((1 : Nat) = (0 : Nat) ∧
 some (Addr.mk k16 0 none) = none)) ∨
 ((∃ a : Addr, (some (Addr.mk k16 0 none) = some a ∧
 (∀ k17 : Nat, (∀ v14 : Value, (l2[k17]? = some v14 →
 World.cell? W12 (Addr.add a k17) = some v14))))))) ∧
 (List.length l2 = 2 ∧
 ((∀ v15 : Value, (v15 ∈ l2 →
 Value.oneCell' v15 = true)) ∧
 (k7 + 1 ≤ maxLen ∧
 ((k7 + 1) * 16 ≤ 140737488355328 ∧
 (∀ p2 : Option Addr, (∀ k18 : Nat, (∀ W13 : World, (XHeap.Sl W13 27 2 (Value.slice p2 (k7 + 1) k18) (k7 + 1) (l ++ l2) →
 (XHeap.XTouch (fun b => Value.ownBlock (Value.slice x2 k7 k8) = some b) W12 W13 →
 ((∀ k19 : Nat, (Value.ownBlock (Value.slice p2 (k7 + 1) k18) = some k19 →
 ((Value.ownBlock (Value.slice x2 k7 k8) = some k19) ∨
 (Array.size (World.heap W12) ≤ k19)))) →
 (XHeap.Sl W13 27 2 (Value.slice x2 k7 k8) k7 l →
 ((((p2 = x2 ∧
 k18 = k8)) ∨
 ((((XHeap.NilP x2) ∨
 (k8 < k7 + 1)) ∧
 (∀ k20 : Nat, (Value.ownBlock (Value.slice p2 (k7 + 1) k18) = some k20 →
 Array.size (World.heap W12) ≤ k20))))) →
 (∀ z : Int, (z = IntKind.wrap .i64 (x + 1) →
 (I2 z p2 (k7 + 1) k18 W13 ∧
 I3 z p2 (k7 + 1) k18 W13 < I3 x x2 k7 k8 W9))))))))))))))))))))))))))))))))))))))))))))
 (I x2 k7 k8 W9))))))))))) ∧
 ((Nat → Value) →
 (∀ x3 : Option Addr, (∀ k21 : Nat, (∀ k22 : Nat, (∀ W14 : World, (I x3 k21 k22 W14 →
 (((0 : Int) ≤ (0 : Int) ∧
 (0 : Int) < (↑arg2n : Int)) ∧
 Sx.adr arg2 (fun k23 =>
 (fun k24 =>
 (∃ z2 : Int, (World.cell? W14 (.mk k23 (k24 + 0 + 14) none) = some (.int .i64 z2) ∧
 Calls Tryz.prog 23 #[.slice x3 k21 k22, .int .i64 z2, .slice arg1 arg1n arg1c] W14 (fun e3 =>
 (fun W15 =>
 (∃ p3 : Option Addr, (∃ v16 : Value, (e3 = .returned (.tuple #[.pointer p3, v16]) ∧
 Sx.isNil v16 (fun t3 =>
 Sx.split (!t3)
 ((∀ vs14 : Array Value, (vs14 = #[.bool false, .int .i64 0, .slice none 0 0, .string (ByteArray.mk #[]), .slice none 0 0, .slice none 0 0] →
 (Array.size vs14 = 6 ∧
 ((∀ k25 : Nat, (k25 < 6 →
 ((∃ v17 : Value, World.cell? W15 (.mk k (0 + k25) none) = some v17) ∧
 World.frozen? W15 (.mk k (0 + k25) none) = false))) ∧
 ((∀ v18 : Value, (v18 ∈ Array.toList vs14 →
 Value.oneCell' v18 = true)) ∧
 (∀ W16 : World, (W16 = World.setCells W15 k 0 (Array.toList vs14) →
 (∃ vs15 : Array Value, (Array.size vs15 = 6 ∧
 (Sx.cellsAt W16 (.mk k 0 none) vs15 ∧
 Q (.returned (.tuple #[.agg vs15, v16])) W16)))))))))))
 ((∀ vs16 : Array Value, (vs16 = #[.slice none 0 0, .slice none 0 0, .slice none 0 0] →
 (∀ k26 : Nat, (∀ W17 : World, (k26 = Array.size (World.heap W15) →
 (W17 = World.alloc W15 (Obj.cells (Value.cells (Value.agg vs16)) 83) →
 (∃ I4 : Option Addr → Nat → Nat → World → Prop, ((∃ I5 : Int → Option Addr → Nat → Nat → World → Prop, (∃ I6 : Int → Option Addr → Nat → Nat → World → Nat, (I5 0 none 0 0 W17 ∧
 ((Nat → Value) →
 (∀ x4 : Int, (∀ x5 : Option Addr, (∀ k27 : Nat, (∀ k28 : Nat, (∀ W18 : World, (I5 x4 x5 k27 k28 W18 →
 Sx.split (decide (x4 < (↑arg0n : Int)))
 ((((0 : Int) ≤ x4 ∧
 x4 < (↑arg0n : Int)) ∧
 Sx.adr arg0 (fun k29 =>
 (fun k30 =>
 (∃ p4 : Option Addr, (∃ k31 : Nat, (∃ k32 : Nat, (World.cell? W18 (.mk k29 (k30 + Int.toNat x4 * 1) none) = some (.slice p4 k31 k32) ∧
 (((0 : Int) ≤ x4 ∧
 x4 < (↑arg2n : Int)) ∧
 Sx.adr arg2 (fun k33 =>
 (fun k34 =>
 (∃ vs17 : Array Value, (Array.size vs17 = 15 ∧
 (Sx.cellsAt W18 (.mk k33 (k34 + Int.toNat x4 * 15) none) vs17 ∧
 Calls Tryz.prog 24 #[.int .i64 x4, .slice p4 k31 k32, .int .i64 (↑arg1n : Int), .agg vs17, .pointer p3, .pointer (some (Addr.mk k26 0 none))] W18 (fun e4 =>
 (fun W19 =>
 (∃ p5 : Option Addr, (∃ v19 : Value, (e4 = .returned (.tuple #[.pointer p5, v19]) ∧
 Sx.isNil v19 (fun t4 =>
 Sx.split (!t4)
 ((∀ vs18 : Array Value, (vs18 = #[.bool false, .int .i64 0, .slice none 0 0, .string (ByteArray.mk #[]), .slice none 0 0, .slice none 0 0] →
 (Array.size vs18 = 6 ∧
 ((∀ k35 : Nat, (k35 < 6 →
 ((∃ v20 : Value, World.cell? W19 (.mk k (0 + k35) none) = some v20) ∧
 World.frozen? W19 (.mk k (0 + k35) none) = false))) ∧
 ((∀ v21 : Value, (v21 ∈ Array.toList vs18 →
 Value.oneCell' v21 = true)) ∧
 (∀ W20 : World, (W20 = World.setCells W19 k 0 (Array.toList vs18) →
 (∃ vs19 : Array Value, (Array.size vs19 = 6 ∧
 (Sx.cellsAt W20 (.mk k 0 none) vs19 ∧
 Q (.returned (.tuple #[.agg vs19, v19])) W20)))))))))))
 ((∀ k36 : Nat, (∀ W21 : World, (k36 = Array.size (World.heap W19) →
 (W21 = World.alloc W19 (Obj.cells #[.pointer p5] 84) →
 (∃ l3 : List Value, (∃ l4 : List Value, (XHeap.Sl W21 84 1 (Value.slice x5 k27 k28) k27 l3 ∧
 (((((1 : Nat) = (0 : Nat) ∧
 some (Addr.mk k36 0 none) = none)) ∨
 ((∃ a2 : Addr, (some (Addr.mk k36 0 none) = some a2 ∧
 (∀ k37 : Nat, (∀ v22 : Value, (l4[k37]? = some v22 →
 World.cell? W21 (Addr.add a2 k37) = some v22))))))) ∧
 (List.length l4 = 1 ∧
 ((∀ v23 : Value, (v23 ∈ l4 →
 Value.oneCell' v23 = true)) ∧
 (k27 + 1 ≤ maxLen ∧
 ((k27 + 1) * 8 ≤ 140737488355328 ∧
 (∀ p6 : Option Addr, (∀ k38 : Nat, (∀ W22 : World, (XHeap.Sl W22 84 1 (Value.slice p6 (k27 + 1) k38) (k27 + 1) (l3 ++ l4) →
 (XHeap.XTouch (fun b => Value.ownBlock (Value.slice x5 k27 k28) = some b) W21 W22 →
 ((∀ k39 : Nat, (Value.ownBlock (Value.slice p6 (k27 + 1) k38) = some k39 →
 ((Value.ownBlock (Value.slice x5 k27 k28) = some k39) ∨
 (Array.size (World.heap W21) ≤ k39)))) →
 (XHeap.Sl W22 84 1 (Value.slice x5 k27 k28) k27 l3 →
 ((((p6 = x5 ∧
 k38 = k28)) ∨
 ((((XHeap.NilP x5) ∨
 (k28 < k27 + 1)) ∧
 (∀ k40 : Nat, (Value.ownBlock (Value.slice p6 (k27 + 1) k38) = some k40 →
 Array.size (World.heap W21) ≤ k40))))) →
 (∀ z3 : Int, (z3 = IntKind.wrap .i64 (x4 + 1) →
 (I5 z3 p6 (k27 + 1) k38 W22 ∧
 I6 z3 p6 (k27 + 1) k38 W22 < I6 x4 x5 k27 k28 W18))))))))))))))))))))))))))))))))))))))))))))
 (I4 x5 k27 k28 W18))))))))))) ∧
 ((Nat → Value) →
 (∀ x6 : Option Addr, (∀ k41 : Nat, (∀ k42 : Nat, (∀ W23 : World, (I4 x6 k41 k42 W23 →
 ((∃ v24 : Value, World.cell? W23 (.mk k26 (0 + 2) none) = some v24) ∧
 (World.frozen? W23 (.mk k26 (0 + 2) none) = false ∧
 (∀ W24 : World, (W24 = World.setCell W23 (.mk k26 (0 + 2) none) (Value.slice x6 k41 k42) →
 Calls Tryz.prog 25 #[.slice x6 k41 k42, .slice arg3 arg3n arg3c, .int .i64 arg4] W24 (fun e5 =>
 (fun W25 =>
 (∃ vs20 : Array Value, (e5 = .returned (.agg vs20) ∧
 (Array.size vs20 = 6 ∧
 ((∀ k43 : Nat, (k43 < 6 →
 ((∃ v25 : Value, World.cell? W25 (.mk k (0 + k43) none) = some v25) ∧
 World.frozen? W25 (.mk k (0 + k43) none) = false))) ∧
 ((∀ v26 : Value, (v26 ∈ Array.toList vs20 →
 Value.oneCell' v26 = true)) ∧
 (∀ W26 : World, (W26 = World.setCells W25 k 0 (Array.toList vs20) →
 (∃ vs21 : Array Value, (Array.size vs21 = 6 ∧
 (Sx.cellsAt W26 (.mk k 0 none) vs21 ∧
 Q (.returned (.tuple #[.agg vs21, .nilIface])) W26)))))))))))))))))))))))))))))))))))))))))))))))))))))))))))))))) :
 Calls Tryz.prog 14 #[.slice arg0 arg0n arg0c, .slice arg1 arg1n arg1c, .slice arg2 arg2n arg2c, .slice arg3 arg3n arg3c, .int .i64 arg4] W Q :=
 Sx.sound Tryz.func14 (.node [] [] 0 .leaf (.node [] [] 0 .leaf (.node [] [] 0 .leaf (.node [(12, .slice)] [2, 1, 10, 0, 3, 4] 1 (.node [] [] 0 .leaf (.node [] [] 0 (.node [(55, .int .i64), (12, .slice)] [54, 53, 1, 10, 2, 0, 3, 4] 0 .leaf .leaf) .leaf)) (.node [] [] 0 .leaf (.node [] [] 0 .leaf (.node [] [] 0 .leaf (.node [] [] 0 .leaf (.node [(19, .slice)] [18, 3, 4, 10] 1 (.node [] [] 0 .leaf (.node [] [] 0 (.node [(95, .int .i64), (19, .slice)] [94, 93, 1, 2, 16, 18, 10, 3, 4] 0 .leaf .leaf) .leaf)) .leaf))))))))) [Value.slice arg0 arg0n arg0c, .slice arg1 arg1n arg1c, .slice arg2 arg2n arg2c, .slice arg3 arg3n arg3c, .int .i64 arg4] rfl (Eq.mp (by kernel_rfl) hVC)
end Go.Proofs.YthacioiefgabbaaGreatDoor
