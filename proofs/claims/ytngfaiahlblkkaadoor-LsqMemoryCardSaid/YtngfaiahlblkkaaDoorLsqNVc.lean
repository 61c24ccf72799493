/- What each function asks, reckoned out of its text; printed by a program of mine (wip/tpl/VcTool.lean). No condition. -/
import Derived.Test.YtngfaiahlblkkaaDoorSxB
import Derived.Test.YtngfaiahlblkkaaDoorChecked
namespace Go.Proofs.YtngfaiahlblkkaaDoor
open Go Go.Proofs
set_option linter.unusedVariables false
set_option maxRecDepth 100000
theorem vc3 {W : World} {Q : Ending → World → Prop} (arg0 : Int) (arg1 : Bool) (arg2 : Option Addr) (arg2n : Nat) (arg2c : Nat) (arg3 : Option Addr) (arg3n : Nat) (arg3c : Nat)
  (hVC :
    Calls Tryd.prog 6 #[Value.int IntKind.i64 arg0, Value.int IntKind.i64 32] W (fun e =>
     (fun W2 =>
     (∃ z : Int, (e = Ending.returned (Value.int IntKind.i64 z) ∧
     (∀ z2 : Int, (z2 = IntKind.wrap IntKind.i64 (1 + z) →
     Calls Tryd.prog 5 #[Value.int IntKind.i64 z2] W2 (fun e2 =>
      (fun W3 =>
      (∃ p : Option Addr, (∃ v : Value, (e2 = Ending.returned (Value.tuple #[Value.pointer p, v]) ∧
      Sx.isNil v (fun t =>
       Sx.split (!t)
        (Q (Ending.returned (Value.bool false)) W3)
        (Sx.split (Option.isNone p)
          (Q (Ending.returned (Value.bool false)) W3)
          ((∃ I : Int → World → Prop, (Sx.split (decide ((↑arg2n : Int) > 60))
             (I 60 W3)
             (I (↑arg2n : Int) W3) ∧
           ((Nat →
           Value) →
           (∀ x : Int, (∀ W4 : World, (I x W4 →
           (∃ I2 : Option Addr → World → Prop, ((∀ W5 : World, (W5 = World.drew W4 →
            (((0 : Int) ≤ x ∧
             x ≤ (↑arg2c : Int)) ∧
            ((((0 : Int) ≤ x ∧
              (x ≤ x ∧
              (x ≤ 9223372036854775807 ∧
              (↑4 : Int) * x ≤ 281474976710656))) ∧
             (∀ k : Nat, (∀ W6 : World, (k = Array.size (World.heap W5) →
             (W6 = World.alloc W5 (Obj.cells (madeCells #[Value.int IntKind.u32 0] (Int.toNat x * 1)) 39) →
             (RowKit.Below (Array.size (World.heap W5)) W5 W6 ∧
             ((((0 : Int) ≤ x ∧
               (x ≤ x ∧
               (x ≤ 9223372036854775807 ∧
               (↑1 : Int) * x ≤ 281474976710656))) ∧
              (∀ k2 : Nat, (∀ W7 : World, (k2 = Array.size (World.heap W6) →
              (W7 = World.alloc W6 (Obj.cells (madeCells #[Value.bool false] (Int.toNat x * 1)) 4) →
              (RowKit.Below (Array.size (World.heap W5)) W5 W7 ∧
              ((((0 : Int) ≤ x ∧
                (x ≤ x ∧
                (x ≤ 9223372036854775807 ∧
                (↑1 : Int) * x ≤ 281474976710656))) ∧
               (∀ k3 : Nat, (∀ W8 : World, (k3 = Array.size (World.heap W7) →
               (W8 = World.alloc W7 (Obj.cells (madeCells #[Value.bool false] (Int.toNat x * 1)) 4) →
               (RowKit.Below (Array.size (World.heap W5)) W5 W8 ∧
               ((((0 : Int) ≤ x ∧
                 (x ≤ x ∧
                 (x ≤ 9223372036854775807 ∧
                 (↑1 : Int) * x ≤ 281474976710656))) ∧
                (∀ k4 : Nat, (∀ W9 : World, (k4 = Array.size (World.heap W8) →
                (W9 = World.alloc W8 (Obj.cells (madeCells #[Value.bool false] (Int.toNat x * 1)) 4) →
                (RowKit.Below (Array.size (World.heap W5)) W5 W9 ∧
                (((0 : Int) ≤ (16 : Int) ∧
                 ((16 : Int) ≤ (16 : Int) ∧
                 ((16 : Int) ≤ (9223372036854775807 : Int) ∧
                 (↑1 : Int) * 16 ≤ 281474976710656))) ∧
                (∀ k5 : Nat, (∀ W10 : World, (k5 = Array.size (World.heap W9) →
                (W10 = World.alloc W9 (Obj.cells (madeCells #[Value.int IntKind.u8 0] 16) 5) →
                (RowKit.Below (Array.size (World.heap W5)) W5 W10 ∧
                (∀ vs : Array Value, (vs = #[Value.pointer p, Value.slice arg2 (Int.toNat x) arg2c, Value.int IntKind.i64 0, Value.int IntKind.i64 0, Value.slice (some (Addr.mk k 0 none)) (Int.toNat x) (Int.toNat x), Value.slice (some (Addr.mk k2 0 none)) (Int.toNat x) (Int.toNat x), Value.slice (some (Addr.mk k3 0 none)) (Int.toNat x) (Int.toNat x), Value.slice (some (Addr.mk k4 0 none)) (Int.toNat x) (Int.toNat x), Value.slice (some (Addr.mk k5 0 none)) 16 16] →
                (∀ k6 : Nat, (∀ W11 : World, (k6 = Array.size (World.heap W10) →
                (W11 = World.alloc W10 (Obj.cells (Value.cells (Value.agg vs)) 35) →
                (RowKit.Below (Array.size (World.heap W5)) W5 W11 ∧
                I2 (some (Addr.mk k6 0 none)) W11))))))))))))))))))) ∧
               (((0 : Int) ≤ (16 : Int) ∧
                ((16 : Int) ≤ (16 : Int) ∧
                ((16 : Int) ≤ (9223372036854775807 : Int) ∧
                (↑1 : Int) * 16 ≤ 281474976710656))) ∧
               (∀ k7 : Nat, (∀ W12 : World, (k7 = Array.size (World.heap W8) →
               (W12 = World.alloc W8 (Obj.cells (madeCells #[Value.int IntKind.u8 0] 16) 5) →
               (RowKit.Below (Array.size (World.heap W5)) W5 W12 ∧
               (((0 : Int) ≤ x ∧
                (x ≤ x ∧
                (x ≤ 9223372036854775807 ∧
                (↑1 : Int) * x ≤ 281474976710656))) ∧
               (∀ k8 : Nat, (∀ W13 : World, (k8 = Array.size (World.heap W12) →
               (W13 = World.alloc W12 (Obj.cells (madeCells #[Value.bool false] (Int.toNat x * 1)) 4) →
               (RowKit.Below (Array.size (World.heap W5)) W5 W13 ∧
               (∀ vs2 : Array Value, (vs2 = #[Value.pointer p, Value.slice arg2 (Int.toNat x) arg2c, Value.int IntKind.i64 0, Value.int IntKind.i64 0, Value.slice (some (Addr.mk k 0 none)) (Int.toNat x) (Int.toNat x), Value.slice (some (Addr.mk k2 0 none)) (Int.toNat x) (Int.toNat x), Value.slice (some (Addr.mk k3 0 none)) (Int.toNat x) (Int.toNat x), Value.slice (some (Addr.mk k8 0 none)) (Int.toNat x) (Int.toNat x), Value.slice (some (Addr.mk k7 0 none)) 16 16] →
               (∀ k9 : Nat, (∀ W14 : World, (k9 = Array.size (World.heap W13) →
               (W14 = World.alloc W13 (Obj.cells (Value.cells (Value.agg vs2)) 35) →
               (RowKit.Below (Array.size (World.heap W5)) W5 W14 ∧
               I2 (some (Addr.mk k9 0 none)) W14)))))))))))))))))))))))))) ∧
              ((((0 : Int) ≤ x ∧
                (x ≤ x ∧
                (x ≤ 9223372036854775807 ∧
                (↑1 : Int) * x ≤ 281474976710656))) ∧
               (∀ k10 : Nat, (∀ W15 : World, (k10 = Array.size (World.heap W7) →
               (W15 = World.alloc W7 (Obj.cells (madeCells #[Value.bool false] (Int.toNat x * 1)) 4) →
               (RowKit.Below (Array.size (World.heap W5)) W5 W15 ∧
               ((((0 : Int) ≤ x ∧
                 (x ≤ x ∧
                 (x ≤ 9223372036854775807 ∧
                 (↑1 : Int) * x ≤ 281474976710656))) ∧
                (∀ k11 : Nat, (∀ W16 : World, (k11 = Array.size (World.heap W15) →
                (W16 = World.alloc W15 (Obj.cells (madeCells #[Value.bool false] (Int.toNat x * 1)) 4) →
                (RowKit.Below (Array.size (World.heap W5)) W5 W16 ∧
                (((0 : Int) ≤ (16 : Int) ∧
                 ((16 : Int) ≤ (16 : Int) ∧
                 ((16 : Int) ≤ (9223372036854775807 : Int) ∧
                 (↑1 : Int) * 16 ≤ 281474976710656))) ∧
                (∀ k12 : Nat, (∀ W17 : World, (k12 = Array.size (World.heap W16) →
                (W17 = World.alloc W16 (Obj.cells (madeCells #[Value.int IntKind.u8 0] 16) 5) →
                (RowKit.Below (Array.size (World.heap W5)) W5 W17 ∧
                (∀ vs3 : Array Value, (vs3 = #[Value.pointer p, Value.slice arg2 (Int.toNat x) arg2c, Value.int IntKind.i64 0, Value.int IntKind.i64 0, Value.slice (some (Addr.mk k 0 none)) (Int.toNat x) (Int.toNat x), Value.slice (some (Addr.mk k2 0 none)) (Int.toNat x) (Int.toNat x), Value.slice (some (Addr.mk k11 0 none)) (Int.toNat x) (Int.toNat x), Value.slice (some (Addr.mk k10 0 none)) (Int.toNat x) (Int.toNat x), Value.slice (some (Addr.mk k12 0 none)) 16 16] →
                (∀ k13 : Nat, (∀ W18 : World, (k13 = Array.size (World.heap W17) →
                (W18 = World.alloc W17 (Obj.cells (Value.cells (Value.agg vs3)) 35) →
                (RowKit.Below (Array.size (World.heap W5)) W5 W18 ∧
                I2 (some (Addr.mk k13 0 none)) W18))))))))))))))))))) ∧
               (((0 : Int) ≤ (16 : Int) ∧
                ((16 : Int) ≤ (16 : Int) ∧
                ((16 : Int) ≤ (9223372036854775807 : Int) ∧
                (↑1 : Int) * 16 ≤ 281474976710656))) ∧
               (∀ k14 : Nat, (∀ W19 : World, (k14 = Array.size (World.heap W15) →
               (W19 = World.alloc W15 (Obj.cells (madeCells #[Value.int IntKind.u8 0] 16) 5) →
               (RowKit.Below (Array.size (World.heap W5)) W5 W19 ∧
               (((0 : Int) ≤ x ∧
                (x ≤ x ∧
                (x ≤ 9223372036854775807 ∧
                (↑1 : Int) * x ≤ 281474976710656))) ∧
               (∀ k15 : Nat, (∀ W20 : World, (k15 = Array.size (World.heap W19) →
               (W20 = World.alloc W19 (Obj.cells (madeCells #[Value.bool false] (Int.toNat x * 1)) 4) →
               (RowKit.Below (Array.size (World.heap W5)) W5 W20 ∧
               (∀ vs4 : Array Value, (vs4 = #[Value.pointer p, Value.slice arg2 (Int.toNat x) arg2c, Value.int IntKind.i64 0, Value.int IntKind.i64 0, Value.slice (some (Addr.mk k 0 none)) (Int.toNat x) (Int.toNat x), Value.slice (some (Addr.mk k2 0 none)) (Int.toNat x) (Int.toNat x), Value.slice (some (Addr.mk k15 0 none)) (Int.toNat x) (Int.toNat x), Value.slice (some (Addr.mk k10 0 none)) (Int.toNat x) (Int.toNat x), Value.slice (some (Addr.mk k14 0 none)) 16 16] →
               (∀ k16 : Nat, (∀ W21 : World, (k16 = Array.size (World.heap W20) →
               (W21 = World.alloc W20 (Obj.cells (Value.cells (Value.agg vs4)) 35) →
               (RowKit.Below (Array.size (World.heap W5)) W5 W21 ∧
               I2 (some (Addr.mk k16 0 none)) W21)))))))))))))))))))))))))) ∧
              (((0 : Int) ≤ (16 : Int) ∧
               ((16 : Int) ≤ (16 : Int) ∧
               ((16 : Int) ≤ (9223372036854775807 : Int) ∧
               (↑1 : Int) * 16 ≤ 281474976710656))) ∧
              (∀ k17 : Nat, (∀ W22 : World, (k17 = Array.size (World.heap W7) →
              (W22 = World.alloc W7 (Obj.cells (madeCells #[Value.int IntKind.u8 0] 16) 5) →
              (RowKit.Below (Array.size (World.heap W5)) W5 W22 ∧
              ((((0 : Int) ≤ x ∧
                (x ≤ x ∧
                (x ≤ 9223372036854775807 ∧
                (↑1 : Int) * x ≤ 281474976710656))) ∧
               (∀ k18 : Nat, (∀ W23 : World, (k18 = Array.size (World.heap W22) →
               (W23 = World.alloc W22 (Obj.cells (madeCells #[Value.bool false] (Int.toNat x * 1)) 4) →
               (RowKit.Below (Array.size (World.heap W5)) W5 W23 ∧
               (((0 : Int) ≤ x ∧
                (x ≤ x ∧
                (x ≤ 9223372036854775807 ∧
                (↑1 : Int) * x ≤ 281474976710656))) ∧
               (∀ k19 : Nat, (∀ W24 : World, (k19 = Array.size (World.heap W23) →
               (W24 = World.alloc W23 (Obj.cells (madeCells #[Value.bool false] (Int.toNat x * 1)) 4) →
               (RowKit.Below (Array.size (World.heap W5)) W5 W24 ∧
               (∀ vs5 : Array Value, (vs5 = #[Value.pointer p, Value.slice arg2 (Int.toNat x) arg2c, Value.int IntKind.i64 0, Value.int IntKind.i64 0, Value.slice (some (Addr.mk k 0 none)) (Int.toNat x) (Int.toNat x), Value.slice (some (Addr.mk k2 0 none)) (Int.toNat x) (Int.toNat x), Value.slice (some (Addr.mk k18 0 none)) (Int.toNat x) (Int.toNat x), Value.slice (some (Addr.mk k19 0 none)) (Int.toNat x) (Int.toNat x), Value.slice (some (Addr.mk k17 0 none)) 16 16] →
               (∀ k20 : Nat, (∀ W25 : World, (k20 = Array.size (World.heap W24) →
               (W25 = World.alloc W24 (Obj.cells (Value.cells (Value.agg vs5)) 35) →
               (RowKit.Below (Array.size (World.heap W5)) W5 W25 ∧
               I2 (some (Addr.mk k20 0 none)) W25))))))))))))))))))) ∧
              (((0 : Int) ≤ x ∧
               (x ≤ x ∧
               (x ≤ 9223372036854775807 ∧
               (↑1 : Int) * x ≤ 281474976710656))) ∧
              (∀ k21 : Nat, (∀ W26 : World, (k21 = Array.size (World.heap W22) →
              (W26 = World.alloc W22 (Obj.cells (madeCells #[Value.bool false] (Int.toNat x * 1)) 4) →
              (RowKit.Below (Array.size (World.heap W5)) W5 W26 ∧
              (((0 : Int) ≤ x ∧
               (x ≤ x ∧
               (x ≤ 9223372036854775807 ∧
               (↑1 : Int) * x ≤ 281474976710656))) ∧
              (∀ k22 : Nat, (∀ W27 : World, (k22 = Array.size (World.heap W26) →
              (W27 = World.alloc W26 (Obj.cells (madeCells #[Value.bool false] (Int.toNat x * 1)) 4) →
              (RowKit.Below (Array.size (World.heap W5)) W5 W27 ∧
              (∀ vs6 : Array Value, (vs6 = #[Value.pointer p, Value.slice arg2 (Int.toNat x) arg2c, Value.int IntKind.i64 0, Value.int IntKind.i64 0, Value.slice (some (Addr.mk k 0 none)) (Int.toNat x) (Int.toNat x), Value.slice (some (Addr.mk k2 0 none)) (Int.toNat x) (Int.toNat x), Value.slice (some (Addr.mk k22 0 none)) (Int.toNat x) (Int.toNat x), Value.slice (some (Addr.mk k21 0 none)) (Int.toNat x) (Int.toNat x), Value.slice (some (Addr.mk k17 0 none)) 16 16] →
              (∀ k23 : Nat, (∀ W28 : World, (k23 = Array.size (World.heap W27) →
              (W28 = World.alloc W27 (Obj.cells (Value.cells (Value.agg vs6)) 35) →
              (RowKit.Below (Array.size (World.heap W5)) W5 W28 ∧
              I2 (some (Addr.mk k23 0 none)) W28)))))))))))))))))))))))))))))))))) ∧
             ((((0 : Int) ≤ x ∧
               (x ≤ x ∧
               (x ≤ 9223372036854775807 ∧
               (↑1 : Int) * x ≤ 281474976710656))) ∧
              (∀ k24 : Nat, (∀ W29 : World, (k24 = Array.size (World.heap W6) →
              (W29 = World.alloc W6 (Obj.cells (madeCells #[Value.bool false] (Int.toNat x * 1)) 4) →
              (RowKit.Below (Array.size (World.heap W5)) W5 W29 ∧
              ((((0 : Int) ≤ x ∧
                (x ≤ x ∧
                (x ≤ 9223372036854775807 ∧
                (↑1 : Int) * x ≤ 281474976710656))) ∧
               (∀ k25 : Nat, (∀ W30 : World, (k25 = Array.size (World.heap W29) →
               (W30 = World.alloc W29 (Obj.cells (madeCells #[Value.bool false] (Int.toNat x * 1)) 4) →
               (RowKit.Below (Array.size (World.heap W5)) W5 W30 ∧
               ((((0 : Int) ≤ x ∧
                 (x ≤ x ∧
                 (x ≤ 9223372036854775807 ∧
                 (↑1 : Int) * x ≤ 281474976710656))) ∧
                (∀ k26 : Nat, (∀ W31 : World, (k26 = Array.size (World.heap W30) →
                (W31 = World.alloc W30 (Obj.cells (madeCells #[Value.bool false] (Int.toNat x * 1)) 4) →
                (RowKit.Below (Array.size (World.heap W5)) W5 W31 ∧
                (((0 : Int) ≤ (16 : Int) ∧
                 ((16 : Int) ≤ (16 : Int) ∧
                 ((16 : Int) ≤ (9223372036854775807 : Int) ∧
                 (↑1 : Int) * 16 ≤ 281474976710656))) ∧
                (∀ k27 : Nat, (∀ W32 : World, (k27 = Array.size (World.heap W31) →
                (W32 = World.alloc W31 (Obj.cells (madeCells #[Value.int IntKind.u8 0] 16) 5) →
                (RowKit.Below (Array.size (World.heap W5)) W5 W32 ∧
                (∀ vs7 : Array Value, (vs7 = #[Value.pointer p, Value.slice arg2 (Int.toNat x) arg2c, Value.int IntKind.i64 0, Value.int IntKind.i64 0, Value.slice (some (Addr.mk k 0 none)) (Int.toNat x) (Int.toNat x), Value.slice (some (Addr.mk k25 0 none)) (Int.toNat x) (Int.toNat x), Value.slice (some (Addr.mk k24 0 none)) (Int.toNat x) (Int.toNat x), Value.slice (some (Addr.mk k26 0 none)) (Int.toNat x) (Int.toNat x), Value.slice (some (Addr.mk k27 0 none)) 16 16] →
                (∀ k28 : Nat, (∀ W33 : World, (k28 = Array.size (World.heap W32) →
                (W33 = World.alloc W32 (Obj.cells (Value.cells (Value.agg vs7)) 35) →
                (RowKit.Below (Array.size (World.heap W5)) W5 W33 ∧
                I2 (some (Addr.mk k28 0 none)) W33))))))))))))))))))) ∧
               (((0 : Int) ≤ (16 : Int) ∧
                ((16 : Int) ≤ (16 : Int) ∧
                ((16 : Int) ≤ (9223372036854775807 : Int) ∧
                (↑1 : Int) * 16 ≤ 281474976710656))) ∧
               (∀ k29 : Nat, (∀ W34 : World, (k29 = Array.size (World.heap W30) →
               (W34 = World.alloc W30 (Obj.cells (madeCells #[Value.int IntKind.u8 0] 16) 5) →
               (RowKit.Below (Array.size (World.heap W5)) W5 W34 ∧
               (((0 : Int) ≤ x ∧
                (x ≤ x ∧
                (x ≤ 9223372036854775807 ∧
                (↑1 : Int) * x ≤ 281474976710656))) ∧
               (∀ k30 : Nat, (∀ W35 : World, (k30 = Array.size (World.heap W34) →
               (W35 = World.alloc W34 (Obj.cells (madeCells #[Value.bool false] (Int.toNat x * 1)) 4) →
               (RowKit.Below (Array.size (World.heap W5)) W5 W35 ∧
               (∀ vs8 : Array Value, (vs8 = #[Value.pointer p, Value.slice arg2 (Int.toNat x) arg2c, Value.int IntKind.i64 0, Value.int IntKind.i64 0, Value.slice (some (Addr.mk k 0 none)) (Int.toNat x) (Int.toNat x), Value.slice (some (Addr.mk k25 0 none)) (Int.toNat x) (Int.toNat x), Value.slice (some (Addr.mk k24 0 none)) (Int.toNat x) (Int.toNat x), Value.slice (some (Addr.mk k30 0 none)) (Int.toNat x) (Int.toNat x), Value.slice (some (Addr.mk k29 0 none)) 16 16] →
               (∀ k31 : Nat, (∀ W36 : World, (k31 = Array.size (World.heap W35) →
               (W36 = World.alloc W35 (Obj.cells (Value.cells (Value.agg vs8)) 35) →
               (RowKit.Below (Array.size (World.heap W5)) W5 W36 ∧
               I2 (some (Addr.mk k31 0 none)) W36)))))))))))))))))))))))))) ∧
              ((((0 : Int) ≤ x ∧
                (x ≤ x ∧
                (x ≤ 9223372036854775807 ∧
                (↑1 : Int) * x ≤ 281474976710656))) ∧
               (∀ k32 : Nat, (∀ W37 : World, (k32 = Array.size (World.heap W29) →
               (W37 = World.alloc W29 (Obj.cells (madeCells #[Value.bool false] (Int.toNat x * 1)) 4) →
               (RowKit.Below (Array.size (World.heap W5)) W5 W37 ∧
               ((((0 : Int) ≤ x ∧
                 (x ≤ x ∧
                 (x ≤ 9223372036854775807 ∧
                 (↑1 : Int) * x ≤ 281474976710656))) ∧
                (∀ k33 : Nat, (∀ W38 : World, (k33 = Array.size (World.heap W37) →
                (W38 = World.alloc W37 (Obj.cells (madeCells #[Value.bool false] (Int.toNat x * 1)) 4) →
                (RowKit.Below (Array.size (World.heap W5)) W5 W38 ∧
                (((0 : Int) ≤ (16 : Int) ∧
                 ((16 : Int) ≤ (16 : Int) ∧
                 ((16 : Int) ≤ (9223372036854775807 : Int) ∧
                 (↑1 : Int) * 16 ≤ 281474976710656))) ∧
                (∀ k34 : Nat, (∀ W39 : World, (k34 = Array.size (World.heap W38) →
                (W39 = World.alloc W38 (Obj.cells (madeCells #[Value.int IntKind.u8 0] 16) 5) →
                (RowKit.Below (Array.size (World.heap W5)) W5 W39 ∧
                (∀ vs9 : Array Value, (vs9 = #[Value.pointer p, Value.slice arg2 (Int.toNat x) arg2c, Value.int IntKind.i64 0, Value.int IntKind.i64 0, Value.slice (some (Addr.mk k 0 none)) (Int.toNat x) (Int.toNat x), Value.slice (some (Addr.mk k33 0 none)) (Int.toNat x) (Int.toNat x), Value.slice (some (Addr.mk k24 0 none)) (Int.toNat x) (Int.toNat x), Value.slice (some (Addr.mk k32 0 none)) (Int.toNat x) (Int.toNat x), Value.slice (some (Addr.mk k34 0 none)) 16 16] →
                (∀ k35 : Nat, (∀ W40 : World, (k35 = Array.size (World.heap W39) →
                (W40 = World.alloc W39 (Obj.cells (Value.cells (Value.agg vs9)) 35) →
                (RowKit.Below (Array.size (World.heap W5)) W5 W40 ∧
                I2 (some (Addr.mk k35 0 none)) W40))))))))))))))))))) ∧
               (((0 : Int) ≤ (16 : Int) ∧
                ((16 : Int) ≤ (16 : Int) ∧
                ((16 : Int) ≤ (9223372036854775807 : Int) ∧
                (↑1 : Int) * 16 ≤ 281474976710656))) ∧
               (∀ k36 : Nat, (∀ W41 : World, (k36 = Array.size (World.heap W37) →
               (W41 = World.alloc W37 (Obj.cells (madeCells #[Value.int IntKind.u8 0] 16) 5) →
               (RowKit.Below (Array.size (World.heap W5)) W5 W41 ∧
               (((0 : Int) ≤ x ∧
                (x ≤ x ∧
                (x ≤ 9223372036854775807 ∧
                (↑1 : Int) * x ≤ 281474976710656))) ∧
               (∀ k37 : Nat, (∀ W42 : World, (k37 = Array.size (World.heap W41) →
               (W42 = World.alloc W41 (Obj.cells (madeCells #[Value.bool false] (Int.toNat x * 1)) 4) →
               (RowKit.Below (Array.size (World.heap W5)) W5 W42 ∧
               (∀ vs10 : Array Value, (vs10 = #[Value.pointer p, Value.slice arg2 (Int.toNat x) arg2c, Value.int IntKind.i64 0, Value.int IntKind.i64 0, Value.slice (some (Addr.mk k 0 none)) (Int.toNat x) (Int.toNat x), Value.slice (some (Addr.mk k37 0 none)) (Int.toNat x) (Int.toNat x), Value.slice (some (Addr.mk k24 0 none)) (Int.toNat x) (Int.toNat x), Value.slice (some (Addr.mk k32 0 none)) (Int.toNat x) (Int.toNat x), Value.slice (some (Addr.mk k36 0 none)) 16 16] →
               (∀ k38 : Nat, (∀ W43 : World, (k38 = Array.size (World.heap W42) →
               (W43 = World.alloc W42 (Obj.cells (Value.cells (Value.agg vs10)) 35) →
               (RowKit.Below (Array.size (World.heap W5)) W5 W43 ∧
               I2 (some (Addr.mk k38 0 none)) W43)))))))))))))))))))))))))) ∧
              (((0 : Int) ≤ (16 : Int) ∧
               ((16 : Int) ≤ (16 : Int) ∧
               ((16 : Int) ≤ (9223372036854775807 : Int) ∧
               (↑1 : Int) * 16 ≤ 281474976710656))) ∧
              (∀ k39 : Nat, (∀ W44 : World, (k39 = Array.size (World.heap W29) →
              (W44 = World.alloc W29 (Obj.cells (madeCells #[Value.int IntKind.u8 0] 16) 5) →
              (RowKit.Below (Array.size (World.heap W5)) W5 W44 ∧
              ((((0 : Int) ≤ x ∧
                (x ≤ x ∧
                (x ≤ 9223372036854775807 ∧
                (↑1 : Int) * x ≤ 281474976710656))) ∧
               (∀ k40 : Nat, (∀ W45 : World, (k40 = Array.size (World.heap W44) →
               (W45 = World.alloc W44 (Obj.cells (madeCells #[Value.bool false] (Int.toNat x * 1)) 4) →
               (RowKit.Below (Array.size (World.heap W5)) W5 W45 ∧
               (((0 : Int) ≤ x ∧
                (x ≤ x ∧
                (x ≤ 9223372036854775807 ∧
                (↑1 : Int) * x ≤ 281474976710656))) ∧
               (∀ k41 : Nat, (∀ W46 : World, (k41 = Array.size (World.heap W45) →
               (W46 = World.alloc W45 (Obj.cells (madeCells #[Value.bool false] (Int.toNat x * 1)) 4) →
               (RowKit.Below (Array.size (World.heap W5)) W5 W46 ∧
               (∀ vs11 : Array Value, (vs11 = #[Value.pointer p, Value.slice arg2 (Int.toNat x) arg2c, Value.int IntKind.i64 0, Value.int IntKind.i64 0, Value.slice (some (Addr.mk k 0 none)) (Int.toNat x) (Int.toNat x), Value.slice (some (Addr.mk k40 0 none)) (Int.toNat x) (Int.toNat x), Value.slice (some (Addr.mk k24 0 none)) (Int.toNat x) (Int.toNat x), Value.slice (some (Addr.mk k41 0 none)) (Int.toNat x) (Int.toNat x), Value.slice (some (Addr.mk k39 0 none)) 16 16] →
               (∀ k42 : Nat, (∀ W47 : World, (k42 = Array.size (World.heap W46) →
               (W47 = World.alloc W46 (Obj.cells (Value.cells (Value.agg vs11)) 35) →
               (RowKit.Below (Array.size (World.heap W5)) W5 W47 ∧
               I2 (some (Addr.mk k42 0 none)) W47))))))))))))))))))) ∧
              (((0 : Int) ≤ x ∧
               (x ≤ x ∧
               (x ≤ 9223372036854775807 ∧
               (↑1 : Int) * x ≤ 281474976710656))) ∧
              (∀ k43 : Nat, (∀ W48 : World, (k43 = Array.size (World.heap W44) →
              (W48 = World.alloc W44 (Obj.cells (madeCells #[Value.bool false] (Int.toNat x * 1)) 4) →
              (RowKit.Below (Array.size (World.heap W5)) W5 W48 ∧
              (((0 : Int) ≤ x ∧
               (x ≤ x ∧
               (x ≤ 9223372036854775807 ∧
               (↑1 : Int) * x ≤ 281474976710656))) ∧
              (∀ k44 : Nat, (∀ W49 : World, (k44 = Array.size (World.heap W48) →
              (W49 = World.alloc W48 (Obj.cells (madeCells #[Value.bool false] (Int.toNat x * 1)) 4) →
              (RowKit.Below (Array.size (World.heap W5)) W5 W49 ∧
              (∀ vs12 : Array Value, (vs12 = #[Value.pointer p, Value.slice arg2 (Int.toNat x) arg2c, Value.int IntKind.i64 0, Value.int IntKind.i64 0, Value.slice (some (Addr.mk k 0 none)) (Int.toNat x) (Int.toNat x), Value.slice (some (Addr.mk k44 0 none)) (Int.toNat x) (Int.toNat x), Value.slice (some (Addr.mk k24 0 none)) (Int.toNat x) (Int.toNat x), Value.slice (some (Addr.mk k43 0 none)) (Int.toNat x) (Int.toNat x), Value.slice (some (Addr.mk k39 0 none)) 16 16] →
              (∀ k45 : Nat, (∀ W50 : World, (k45 = Array.size (World.heap W49) →
              (W50 = World.alloc W49 (Obj.cells (Value.cells (Value.agg vs12)) 35) →
              (RowKit.Below (Array.size (World.heap W5)) W5 W50 ∧
              I2 (some (Addr.mk k45 0 none)) W50)))))))))))))))))))))))))))))))))) ∧
             ((((0 : Int) ≤ x ∧
               (x ≤ x ∧
               (x ≤ 9223372036854775807 ∧
               (↑1 : Int) * x ≤ 281474976710656))) ∧
              (∀ k46 : Nat, (∀ W51 : World, (k46 = Array.size (World.heap W6) →
              (W51 = World.alloc W6 (Obj.cells (madeCells #[Value.bool false] (Int.toNat x * 1)) 4) →
              (RowKit.Below (Array.size (World.heap W5)) W5 W51 ∧
              ((((0 : Int) ≤ x ∧
                (x ≤ x ∧
                (x ≤ 9223372036854775807 ∧
                (↑1 : Int) * x ≤ 281474976710656))) ∧
               (∀ k47 : Nat, (∀ W52 : World, (k47 = Array.size (World.heap W51) →
               (W52 = World.alloc W51 (Obj.cells (madeCells #[Value.bool false] (Int.toNat x * 1)) 4) →
               (RowKit.Below (Array.size (World.heap W5)) W5 W52 ∧
               ((((0 : Int) ≤ x ∧
                 (x ≤ x ∧
                 (x ≤ 9223372036854775807 ∧
                 (↑1 : Int) * x ≤ 281474976710656))) ∧
                (∀ k48 : Nat, (∀ W53 : World, (k48 = Array.size (World.heap W52) →
                (W53 = World.alloc W52 (Obj.cells (madeCells #[Value.bool false] (Int.toNat x * 1)) 4) →
                (RowKit.Below (Array.size (World.heap W5)) W5 W53 ∧
                (((0 : Int) ≤ (16 : Int) ∧
                 ((16 : Int) ≤ (16 : Int) ∧
                 ((16 : Int) ≤ (9223372036854775807 : Int) ∧
                 (↑1 : Int) * 16 ≤ 281474976710656))) ∧
                (∀ k49 : Nat, (∀ W54 : World, (k49 = Array.size (World.heap W53) →
                (W54 = World.alloc W53 (Obj.cells (madeCells #[Value.int IntKind.u8 0] 16) 5) →
                (RowKit.Below (Array.size (World.heap W5)) W5 W54 ∧
                (∀ vs13 : Array Value, (vs13 = #[Value.pointer p, Value.slice arg2 (Int.toNat x) arg2c, Value.int IntKind.i64 0, Value.int IntKind.i64 0, Value.slice (some (Addr.mk k 0 none)) (Int.toNat x) (Int.toNat x), Value.slice (some (Addr.mk k47 0 none)) (Int.toNat x) (Int.toNat x), Value.slice (some (Addr.mk k48 0 none)) (Int.toNat x) (Int.toNat x), Value.slice (some (Addr.mk k46 0 none)) (Int.toNat x) (Int.toNat x), Value.slice (some (Addr.mk k49 0 none)) 16 16] →
                (∀ k50 : Nat, (∀ W55 : World, (k50 = Array.size (World.heap W54) →
                (W55 = World.alloc W54 (Obj.cells (Value.cells (Value.agg vs13)) 35) →
                (RowKit.Below (Array.size (World.heap W5)) W5 W55 ∧
                I2 (some (Addr.mk k50 0 none)) W55))))))))))))))))))) ∧
               (((0 : Int) ≤ (16 : Int) ∧
                ((16 : Int) ≤ (16 : Int) ∧
                ((16 : Int) ≤ (9223372036854775807 : Int) ∧
                (↑1 : Int) * 16 ≤ 281474976710656))) ∧
               (∀ k51 : Nat, (∀ W56 : World, (k51 = Array.size (World.heap W52) →
               (W56 = World.alloc W52 (Obj.cells (madeCells #[Value.int IntKind.u8 0] 16) 5) →
               (RowKit.Below (Array.size (World.heap W5)) W5 W56 ∧
               (((0 : Int) ≤ x ∧
                (x ≤ x ∧
                (x ≤ 9223372036854775807 ∧
                (↑1 : Int) * x ≤ 281474976710656))) ∧
               (∀ k52 : Nat, (∀ W57 : World, (k52 = Array.size (World.heap W56) →
               (W57 = World.alloc W56 (Obj.cells (madeCells #[Value.bool false] (Int.toNat x * 1)) 4) →
               (RowKit.Below (Array.size (World.heap W5)) W5 W57 ∧
               (∀ vs14 : Array Value, (vs14 = #[Value.pointer p, Value.slice arg2 (Int.toNat x) arg2c, Value.int IntKind.i64 0, Value.int IntKind.i64 0, Value.slice (some (Addr.mk k 0 none)) (Int.toNat x) (Int.toNat x), Value.slice (some (Addr.mk k47 0 none)) (Int.toNat x) (Int.toNat x), Value.slice (some (Addr.mk k52 0 none)) (Int.toNat x) (Int.toNat x), Value.slice (some (Addr.mk k46 0 none)) (Int.toNat x) (Int.toNat x), Value.slice (some (Addr.mk k51 0 none)) 16 16] →
               (∀ k53 : Nat, (∀ W58 : World, (k53 = Array.size (World.heap W57) →
               (W58 = World.alloc W57 (Obj.cells (Value.cells (Value.agg vs14)) 35) →
               (RowKit.Below (Array.size (World.heap W5)) W5 W58 ∧
               I2 (some (Addr.mk k53 0 none)) W58)))))))))))))))))))))))))) ∧
              ((((0 : Int) ≤ x ∧
                (x ≤ x ∧
                (x ≤ 9223372036854775807 ∧
                (↑1 : Int) * x ≤ 281474976710656))) ∧
               (∀ k54 : Nat, (∀ W59 : World, (k54 = Array.size (World.heap W51) →
               (W59 = World.alloc W51 (Obj.cells (madeCells #[Value.bool false] (Int.toNat x * 1)) 4) →
               (RowKit.Below (Array.size (World.heap W5)) W5 W59 ∧
               ((((0 : Int) ≤ x ∧
                 (x ≤ x ∧
                 (x ≤ 9223372036854775807 ∧
                 (↑1 : Int) * x ≤ 281474976710656))) ∧
                (∀ k55 : Nat, (∀ W60 : World, (k55 = Array.size (World.heap W59) →
                (W60 = World.alloc W59 (Obj.cells (madeCells #[Value.bool false] (Int.toNat x * 1)) 4) →
                (RowKit.Below (Array.size (World.heap W5)) W5 W60 ∧
                (((0 : Int) ≤ (16 : Int) ∧
                 ((16 : Int) ≤ (16 : Int) ∧
                 ((16 : Int) ≤ (9223372036854775807 : Int) ∧
                 (↑1 : Int) * 16 ≤ 281474976710656))) ∧
                (∀ k56 : Nat, (∀ W61 : World, (k56 = Array.size (World.heap W60) →
                (W61 = World.alloc W60 (Obj.cells (madeCells #[Value.int IntKind.u8 0] 16) 5) →
                (RowKit.Below (Array.size (World.heap W5)) W5 W61 ∧
                (∀ vs15 : Array Value, (vs15 = #[Value.pointer p, Value.slice arg2 (Int.toNat x) arg2c, Value.int IntKind.i64 0, Value.int IntKind.i64 0, Value.slice (some (Addr.mk k 0 none)) (Int.toNat x) (Int.toNat x), Value.slice (some (Addr.mk k55 0 none)) (Int.toNat x) (Int.toNat x), Value.slice (some (Addr.mk k54 0 none)) (Int.toNat x) (Int.toNat x), Value.slice (some (Addr.mk k46 0 none)) (Int.toNat x) (Int.toNat x), Value.slice (some (Addr.mk k56 0 none)) 16 16] →
                (∀ k57 : Nat, (∀ W62 : World, (k57 = Array.size (World.heap W61) →
                (W62 = World.alloc W61 (Obj.cells (Value.cells (Value.agg vs15)) 35) →
                (RowKit.Below (Array.size (World.heap W5)) W5 W62 ∧
                I2 (some (Addr.mk k57 0 none)) W62))))))))))))))))))) ∧
               (((0 : Int) ≤ (16 : Int) ∧
                ((16 : Int) ≤ (16 : Int) ∧
                ((16 : Int) ≤ (9223372036854775807 : Int) ∧
                (↑1 : Int) * 16 ≤ 281474976710656))) ∧
               (∀ k58 : Nat, (∀ W63 : World, (k58 = Array.size (World.heap W59) →
               (W63 = World.alloc W59 (Obj.cells (madeCells #[Value.int IntKind.u8 0] 16) 5) →
               (RowKit.Below (Array.size (World.heap W5)) W5 W63 ∧
               (((0 : Int) ≤ x ∧
                (x ≤ x ∧
                (x ≤ 9223372036854775807 ∧
                (↑1 : Int) * x ≤ 281474976710656))) ∧
               (∀ k59 : Nat, (∀ W64 : World, (k59 = Array.size (World.heap W63) →
               (W64 = World.alloc W63 (Obj.cells (madeCells #[Value.bool false] (Int.toNat x * 1)) 4) →
               (RowKit.Below (Array.size (World.heap W5)) W5 W64 ∧
               (∀ vs16 : Array Value, (vs16 = #[Value.pointer p, Value.slice arg2 (Int.toNat x) arg2c, Value.int IntKind.i64 0, Value.int IntKind.i64 0, Value.slice (some (Addr.mk k 0 none)) (Int.toNat x) (Int.toNat x), Value.slice (some (Addr.mk k59 0 none)) (Int.toNat x) (Int.toNat x), Value.slice (some (Addr.mk k54 0 none)) (Int.toNat x) (Int.toNat x), Value.slice (some (Addr.mk k46 0 none)) (Int.toNat x) (Int.toNat x), Value.slice (some (Addr.mk k58 0 none)) 16 16] →
               (∀ k60 : Nat, (∀ W65 : World, (k60 = Array.size (World.heap W64) →
               (W65 = World.alloc W64 (Obj.cells (Value.cells (Value.agg vs16)) 35) →
               (RowKit.Below (Array.size (World.heap W5)) W5 W65 ∧
               I2 (some (Addr.mk k60 0 none)) W65)))))))))))))))))))))))))) ∧
              (((0 : Int) ≤ (16 : Int) ∧
               ((16 : Int) ≤ (16 : Int) ∧
               ((16 : Int) ≤ (9223372036854775807 : Int) ∧
               (↑1 : Int) * 16 ≤ 281474976710656))) ∧
              (∀ k61 : Nat, (∀ W66 : World, (k61 = Array.size (World.heap W51) →
              (W66 = World.alloc W51 (Obj.cells (madeCells #[Value.int IntKind.u8 0] 16) 5) →
              (RowKit.Below (Array.size (World.heap W5)) W5 W66 ∧
              ((((0 : Int) ≤ x ∧
                (x ≤ x ∧
                (x ≤ 9223372036854775807 ∧
                (↑1 : Int) * x ≤ 281474976710656))) ∧
               (∀ k62 : Nat, (∀ W67 : World, (k62 = Array.size (World.heap W66) →
               (W67 = World.alloc W66 (Obj.cells (madeCells #[Value.bool false] (Int.toNat x * 1)) 4) →
               (RowKit.Below (Array.size (World.heap W5)) W5 W67 ∧
               (((0 : Int) ≤ x ∧
                (x ≤ x ∧
                (x ≤ 9223372036854775807 ∧
                (↑1 : Int) * x ≤ 281474976710656))) ∧
               (∀ k63 : Nat, (∀ W68 : World, (k63 = Array.size (World.heap W67) →
               (W68 = World.alloc W67 (Obj.cells (madeCells #[Value.bool false] (Int.toNat x * 1)) 4) →
               (RowKit.Below (Array.size (World.heap W5)) W5 W68 ∧
               (∀ vs17 : Array Value, (vs17 = #[Value.pointer p, Value.slice arg2 (Int.toNat x) arg2c, Value.int IntKind.i64 0, Value.int IntKind.i64 0, Value.slice (some (Addr.mk k 0 none)) (Int.toNat x) (Int.toNat x), Value.slice (some (Addr.mk k62 0 none)) (Int.toNat x) (Int.toNat x), Value.slice (some (Addr.mk k63 0 none)) (Int.toNat x) (Int.toNat x), Value.slice (some (Addr.mk k46 0 none)) (Int.toNat x) (Int.toNat x), Value.slice (some (Addr.mk k61 0 none)) 16 16] →
               (∀ k64 : Nat, (∀ W69 : World, (k64 = Array.size (World.heap W68) →
               (W69 = World.alloc W68 (Obj.cells (Value.cells (Value.agg vs17)) 35) →
               (RowKit.Below (Array.size (World.heap W5)) W5 W69 ∧
               I2 (some (Addr.mk k64 0 none)) W69))))))))))))))))))) ∧
              (((0 : Int) ≤ x ∧
               (x ≤ x ∧
               (x ≤ 9223372036854775807 ∧
               (↑1 : Int) * x ≤ 281474976710656))) ∧
              (∀ k65 : Nat, (∀ W70 : World, (k65 = Array.size (World.heap W66) →
              (W70 = World.alloc W66 (Obj.cells (madeCells #[Value.bool false] (Int.toNat x * 1)) 4) →
              (RowKit.Below (Array.size (World.heap W5)) W5 W70 ∧
              (((0 : Int) ≤ x ∧
               (x ≤ x ∧
               (x ≤ 9223372036854775807 ∧
               (↑1 : Int) * x ≤ 281474976710656))) ∧
              (∀ k66 : Nat, (∀ W71 : World, (k66 = Array.size (World.heap W70) →
              (W71 = World.alloc W70 (Obj.cells (madeCells #[Value.bool false] (Int.toNat x * 1)) 4) →
              (RowKit.Below (Array.size (World.heap W5)) W5 W71 ∧
              (∀ vs18 : Array Value, (vs18 = #[Value.pointer p, Value.slice arg2 (Int.toNat x) arg2c, Value.int IntKind.i64 0, Value.int IntKind.i64 0, Value.slice (some (Addr.mk k 0 none)) (Int.toNat x) (Int.toNat x), Value.slice (some (Addr.mk k66 0 none)) (Int.toNat x) (Int.toNat x), Value.slice (some (Addr.mk k65 0 none)) (Int.toNat x) (Int.toNat x), Value.slice (some (Addr.mk k46 0 none)) (Int.toNat x) (Int.toNat x), Value.slice (some (Addr.mk k61 0 none)) 16 16] →
              (∀ k67 : Nat, (∀ W72 : World, (k67 = Array.size (World.heap W71) →
              (W72 = World.alloc W71 (Obj.cells (Value.cells (Value.agg vs18)) 35) →
              (RowKit.Below (Array.size (World.heap W5)) W5 W72 ∧
              I2 (some (Addr.mk k67 0 none)) W72)))))))))))))))))))))))))))))))))) ∧
             (((0 : Int) ≤ (16 : Int) ∧
              ((16 : Int) ≤ (16 : Int) ∧
              ((16 : Int) ≤ (9223372036854775807 : Int) ∧
              (↑1 : Int) * 16 ≤ 281474976710656))) ∧
             (∀ k68 : Nat, (∀ W73 : World, (k68 = Array.size (World.heap W6) →
             (W73 = World.alloc W6 (Obj.cells (madeCells #[Value.int IntKind.u8 0] 16) 5) →
             (RowKit.Below (Array.size (World.heap W5)) W5 W73 ∧
             ((((0 : Int) ≤ x ∧
               (x ≤ x ∧
               (x ≤ 9223372036854775807 ∧
               (↑1 : Int) * x ≤ 281474976710656))) ∧
              (∀ k69 : Nat, (∀ W74 : World, (k69 = Array.size (World.heap W73) →
              (W74 = World.alloc W73 (Obj.cells (madeCells #[Value.bool false] (Int.toNat x * 1)) 4) →
              (RowKit.Below (Array.size (World.heap W5)) W5 W74 ∧
              ((((0 : Int) ≤ x ∧
                (x ≤ x ∧
                (x ≤ 9223372036854775807 ∧
                (↑1 : Int) * x ≤ 281474976710656))) ∧
               (∀ k70 : Nat, (∀ W75 : World, (k70 = Array.size (World.heap W74) →
               (W75 = World.alloc W74 (Obj.cells (madeCells #[Value.bool false] (Int.toNat x * 1)) 4) →
               (RowKit.Below (Array.size (World.heap W5)) W5 W75 ∧
               (((0 : Int) ≤ x ∧
                (x ≤ x ∧
                (x ≤ 9223372036854775807 ∧
                (↑1 : Int) * x ≤ 281474976710656))) ∧
               (∀ k71 : Nat, (∀ W76 : World, (k71 = Array.size (World.heap W75) →
               (W76 = World.alloc W75 (Obj.cells (madeCells #[Value.bool false] (Int.toNat x * 1)) 4) →
               (RowKit.Below (Array.size (World.heap W5)) W5 W76 ∧
               (∀ vs19 : Array Value, (vs19 = #[Value.pointer p, Value.slice arg2 (Int.toNat x) arg2c, Value.int IntKind.i64 0, Value.int IntKind.i64 0, Value.slice (some (Addr.mk k 0 none)) (Int.toNat x) (Int.toNat x), Value.slice (some (Addr.mk k69 0 none)) (Int.toNat x) (Int.toNat x), Value.slice (some (Addr.mk k70 0 none)) (Int.toNat x) (Int.toNat x), Value.slice (some (Addr.mk k71 0 none)) (Int.toNat x) (Int.toNat x), Value.slice (some (Addr.mk k68 0 none)) 16 16] →
               (∀ k72 : Nat, (∀ W77 : World, (k72 = Array.size (World.heap W76) →
               (W77 = World.alloc W76 (Obj.cells (Value.cells (Value.agg vs19)) 35) →
               (RowKit.Below (Array.size (World.heap W5)) W5 W77 ∧
               I2 (some (Addr.mk k72 0 none)) W77))))))))))))))))))) ∧
              (((0 : Int) ≤ x ∧
               (x ≤ x ∧
               (x ≤ 9223372036854775807 ∧
               (↑1 : Int) * x ≤ 281474976710656))) ∧
              (∀ k73 : Nat, (∀ W78 : World, (k73 = Array.size (World.heap W74) →
              (W78 = World.alloc W74 (Obj.cells (madeCells #[Value.bool false] (Int.toNat x * 1)) 4) →
              (RowKit.Below (Array.size (World.heap W5)) W5 W78 ∧
              (((0 : Int) ≤ x ∧
               (x ≤ x ∧
               (x ≤ 9223372036854775807 ∧
               (↑1 : Int) * x ≤ 281474976710656))) ∧
              (∀ k74 : Nat, (∀ W79 : World, (k74 = Array.size (World.heap W78) →
              (W79 = World.alloc W78 (Obj.cells (madeCells #[Value.bool false] (Int.toNat x * 1)) 4) →
              (RowKit.Below (Array.size (World.heap W5)) W5 W79 ∧
              (∀ vs20 : Array Value, (vs20 = #[Value.pointer p, Value.slice arg2 (Int.toNat x) arg2c, Value.int IntKind.i64 0, Value.int IntKind.i64 0, Value.slice (some (Addr.mk k 0 none)) (Int.toNat x) (Int.toNat x), Value.slice (some (Addr.mk k69 0 none)) (Int.toNat x) (Int.toNat x), Value.slice (some (Addr.mk k74 0 none)) (Int.toNat x) (Int.toNat x), Value.slice (some (Addr.mk k73 0 none)) (Int.toNat x) (Int.toNat x), Value.slice (some (Addr.mk k68 0 none)) 16 16] →
              (∀ k75 : Nat, (∀ W80 : World, (k75 = Array.size (World.heap W79) →
              (W80 = World.alloc W79 (Obj.cells (Value.cells (Value.agg vs20)) 35) →
              (RowKit.Below (Array.size (World.heap W5)) W5 W80 ∧
              I2 (some (Addr.mk k75 0 none)) W80)))))))))))))))))))))))))) ∧
             ((((0 : Int) ≤ x ∧
               (x ≤ x ∧
               (x ≤ 9223372036854775807 ∧
               (↑1 : Int) * x ≤ 281474976710656))) ∧
              (∀ k76 : Nat, (∀ W81 : World, (k76 = Array.size (World.heap W73) →
              (W81 = World.alloc W73 (Obj.cells (madeCells #[Value.bool false] (Int.toNat x * 1)) 4) →
              (RowKit.Below (Array.size (World.heap W5)) W5 W81 ∧
              ((((0 : Int) ≤ x ∧
                (x ≤ x ∧
                (x ≤ 9223372036854775807 ∧
                (↑1 : Int) * x ≤ 281474976710656))) ∧
               (∀ k77 : Nat, (∀ W82 : World, (k77 = Array.size (World.heap W81) →
               (W82 = World.alloc W81 (Obj.cells (madeCells #[Value.bool false] (Int.toNat x * 1)) 4) →
               (RowKit.Below (Array.size (World.heap W5)) W5 W82 ∧
               (((0 : Int) ≤ x ∧
                (x ≤ x ∧
                (x ≤ 9223372036854775807 ∧
                (↑1 : Int) * x ≤ 281474976710656))) ∧
               (∀ k78 : Nat, (∀ W83 : World, (k78 = Array.size (World.heap W82) →
               (W83 = World.alloc W82 (Obj.cells (madeCells #[Value.bool false] (Int.toNat x * 1)) 4) →
               (RowKit.Below (Array.size (World.heap W5)) W5 W83 ∧
               (∀ vs21 : Array Value, (vs21 = #[Value.pointer p, Value.slice arg2 (Int.toNat x) arg2c, Value.int IntKind.i64 0, Value.int IntKind.i64 0, Value.slice (some (Addr.mk k 0 none)) (Int.toNat x) (Int.toNat x), Value.slice (some (Addr.mk k77 0 none)) (Int.toNat x) (Int.toNat x), Value.slice (some (Addr.mk k76 0 none)) (Int.toNat x) (Int.toNat x), Value.slice (some (Addr.mk k78 0 none)) (Int.toNat x) (Int.toNat x), Value.slice (some (Addr.mk k68 0 none)) 16 16] →
               (∀ k79 : Nat, (∀ W84 : World, (k79 = Array.size (World.heap W83) →
               (W84 = World.alloc W83 (Obj.cells (Value.cells (Value.agg vs21)) 35) →
               (RowKit.Below (Array.size (World.heap W5)) W5 W84 ∧
               I2 (some (Addr.mk k79 0 none)) W84))))))))))))))))))) ∧
              (((0 : Int) ≤ x ∧
               (x ≤ x ∧
               (x ≤ 9223372036854775807 ∧
               (↑1 : Int) * x ≤ 281474976710656))) ∧
              (∀ k80 : Nat, (∀ W85 : World, (k80 = Array.size (World.heap W81) →
              (W85 = World.alloc W81 (Obj.cells (madeCells #[Value.bool false] (Int.toNat x * 1)) 4) →
              (RowKit.Below (Array.size (World.heap W5)) W5 W85 ∧
              (((0 : Int) ≤ x ∧
               (x ≤ x ∧
               (x ≤ 9223372036854775807 ∧
               (↑1 : Int) * x ≤ 281474976710656))) ∧
              (∀ k81 : Nat, (∀ W86 : World, (k81 = Array.size (World.heap W85) →
              (W86 = World.alloc W85 (Obj.cells (madeCells #[Value.bool false] (Int.toNat x * 1)) 4) →
              (RowKit.Below (Array.size (World.heap W5)) W5 W86 ∧
              (∀ vs22 : Array Value, (vs22 = #[Value.pointer p, Value.slice arg2 (Int.toNat x) arg2c, Value.int IntKind.i64 0, Value.int IntKind.i64 0, Value.slice (some (Addr.mk k 0 none)) (Int.toNat x) (Int.toNat x), Value.slice (some (Addr.mk k81 0 none)) (Int.toNat x) (Int.toNat x), Value.slice (some (Addr.mk k76 0 none)) (Int.toNat x) (Int.toNat x), Value.slice (some (Addr.mk k80 0 none)) (Int.toNat x) (Int.toNat x), Value.slice (some (Addr.mk k68 0 none)) 16 16] →
              (∀ k82 : Nat, (∀ W87 : World, (k82 = Array.size (World.heap W86) →
              (W87 = World.alloc W86 (Obj.cells (Value.cells (Value.agg vs22)) 35) →
              (RowKit.Below (Array.size (World.heap W5)) W5 W87 ∧
              I2 (some (Addr.mk k82 0 none)) W87)))))))))))))))))))))))))) ∧
             (((0 : Int) ≤ x ∧
              (x ≤ x ∧
              (x ≤ 9223372036854775807 ∧
              (↑1 : Int) * x ≤ 281474976710656))) ∧
             (∀ k83 : Nat, (∀ W88 : World, (k83 = Array.size (World.heap W73) →
             (W88 = World.alloc W73 (Obj.cells (madeCells #[Value.bool false] (Int.toNat x * 1)) 4) →
             (RowKit.Below (Array.size (World.heap W5)) W5 W88 ∧
             ((((0 : Int) ≤ x ∧
               (x ≤ x ∧
               (x ≤ 9223372036854775807 ∧
               (↑1 : Int) * x ≤ 281474976710656))) ∧
              (∀ k84 : Nat, (∀ W89 : World, (k84 = Array.size (World.heap W88) →
              (W89 = World.alloc W88 (Obj.cells (madeCells #[Value.bool false] (Int.toNat x * 1)) 4) →
              (RowKit.Below (Array.size (World.heap W5)) W5 W89 ∧
              (((0 : Int) ≤ x ∧
               (x ≤ x ∧
               (x ≤ 9223372036854775807 ∧
               (↑1 : Int) * x ≤ 281474976710656))) ∧
              (∀ k85 : Nat, (∀ W90 : World, (k85 = Array.size (World.heap W89) →
              (W90 = World.alloc W89 (Obj.cells (madeCells #[Value.bool false] (Int.toNat x * 1)) 4) →
              (RowKit.Below (Array.size (World.heap W5)) W5 W90 ∧
              (∀ vs23 : Array Value, (vs23 = #[Value.pointer p, Value.slice arg2 (Int.toNat x) arg2c, Value.int IntKind.i64 0, Value.int IntKind.i64 0, Value.slice (some (Addr.mk k 0 none)) (Int.toNat x) (Int.toNat x), Value.slice (some (Addr.mk k84 0 none)) (Int.toNat x) (Int.toNat x), Value.slice (some (Addr.mk k85 0 none)) (Int.toNat x) (Int.toNat x), Value.slice (some (Addr.mk k83 0 none)) (Int.toNat x) (Int.toNat x), Value.slice (some (Addr.mk k68 0 none)) 16 16] →
              (∀ k86 : Nat, (∀ W91 : World, (k86 = Array.size (World.heap W90) →
              (W91 = World.alloc W90 (Obj.cells (Value.cells (Value.agg vs23)) 35) →
              (RowKit.Below (Array.size (World.heap W5)) W5 W91 ∧
              I2 (some (Addr.mk k86 0 none)) W91))))))))))))))))))) ∧
             (((0 : Int) ≤ x ∧
              (x ≤ x ∧
              (x ≤ 9223372036854775807 ∧
              (↑1 : Int) * x ≤ 281474976710656))) ∧
             (∀ k87 : Nat, (∀ W92 : World, (k87 = Array.size (World.heap W88) →
             (W92 = World.alloc W88 (Obj.cells (madeCells #[Value.bool false] (Int.toNat x * 1)) 4) →
             (RowKit.Below (Array.size (World.heap W5)) W5 W92 ∧
             (((0 : Int) ≤ x ∧
              (x ≤ x ∧
              (x ≤ 9223372036854775807 ∧
              (↑1 : Int) * x ≤ 281474976710656))) ∧
             (∀ k88 : Nat, (∀ W93 : World, (k88 = Array.size (World.heap W92) →
             (W93 = World.alloc W92 (Obj.cells (madeCells #[Value.bool false] (Int.toNat x * 1)) 4) →
             (RowKit.Below (Array.size (World.heap W5)) W5 W93 ∧
             (∀ vs24 : Array Value, (vs24 = #[Value.pointer p, Value.slice arg2 (Int.toNat x) arg2c, Value.int IntKind.i64 0, Value.int IntKind.i64 0, Value.slice (some (Addr.mk k 0 none)) (Int.toNat x) (Int.toNat x), Value.slice (some (Addr.mk k88 0 none)) (Int.toNat x) (Int.toNat x), Value.slice (some (Addr.mk k87 0 none)) (Int.toNat x) (Int.toNat x), Value.slice (some (Addr.mk k83 0 none)) (Int.toNat x) (Int.toNat x), Value.slice (some (Addr.mk k68 0 none)) 16 16] →
             (∀ k89 : Nat, (∀ W94 : World, (k89 = Array.size (World.heap W93) →
             (W94 = World.alloc W93 (Obj.cells (Value.cells (Value.agg vs24)) 35) →
             (RowKit.Below (Array.size (World.heap W5)) W5 W94 ∧
             I2 (some (Addr.mk k89 0 none)) W94))))))))))))))))))))))))))))))))))))))))))) ∧
            ((((0 : Int) ≤ x ∧
              (x ≤ x ∧
              (x ≤ 9223372036854775807 ∧
              (↑1 : Int) * x ≤ 281474976710656))) ∧
             (∀ k90 : Nat, (∀ W95 : World, (k90 = Array.size (World.heap W5) →
             (W95 = World.alloc W5 (Obj.cells (madeCells #[Value.bool false] (Int.toNat x * 1)) 4) →
             (RowKit.Below (Array.size (World.heap W5)) W5 W95 ∧
             ((((0 : Int) ≤ x ∧
               (x ≤ x ∧
               (x ≤ 9223372036854775807 ∧
               (↑4 : Int) * x ≤ 281474976710656))) ∧
              (∀ k91 : Nat, (∀ W96 : World, (k91 = Array.size (World.heap W95) →
              (W96 = World.alloc W95 (Obj.cells (madeCells #[Value.int IntKind.u32 0] (Int.toNat x * 1)) 39) →
              (RowKit.Below (Array.size (World.heap W5)) W5 W96 ∧
              ((((0 : Int) ≤ x ∧
                (x ≤ x ∧
                (x ≤ 9223372036854775807 ∧
                (↑1 : Int) * x ≤ 281474976710656))) ∧
               (∀ k92 : Nat, (∀ W97 : World, (k92 = Array.size (World.heap W96) →
               (W97 = World.alloc W96 (Obj.cells (madeCells #[Value.bool false] (Int.toNat x * 1)) 4) →
               (RowKit.Below (Array.size (World.heap W5)) W5 W97 ∧
               ((((0 : Int) ≤ x ∧
                 (x ≤ x ∧
                 (x ≤ 9223372036854775807 ∧
                 (↑1 : Int) * x ≤ 281474976710656))) ∧
                (∀ k93 : Nat, (∀ W98 : World, (k93 = Array.size (World.heap W97) →
                (W98 = World.alloc W97 (Obj.cells (madeCells #[Value.bool false] (Int.toNat x * 1)) 4) →
                (RowKit.Below (Array.size (World.heap W5)) W5 W98 ∧
                (((0 : Int) ≤ (16 : Int) ∧
                 ((16 : Int) ≤ (16 : Int) ∧
                 ((16 : Int) ≤ (9223372036854775807 : Int) ∧
                 (↑1 : Int) * 16 ≤ 281474976710656))) ∧
                (∀ k94 : Nat, (∀ W99 : World, (k94 = Array.size (World.heap W98) →
                (W99 = World.alloc W98 (Obj.cells (madeCells #[Value.int IntKind.u8 0] 16) 5) →
                (RowKit.Below (Array.size (World.heap W5)) W5 W99 ∧
                (∀ vs25 : Array Value, (vs25 = #[Value.pointer p, Value.slice arg2 (Int.toNat x) arg2c, Value.int IntKind.i64 0, Value.int IntKind.i64 0, Value.slice (some (Addr.mk k91 0 none)) (Int.toNat x) (Int.toNat x), Value.slice (some (Addr.mk k90 0 none)) (Int.toNat x) (Int.toNat x), Value.slice (some (Addr.mk k92 0 none)) (Int.toNat x) (Int.toNat x), Value.slice (some (Addr.mk k93 0 none)) (Int.toNat x) (Int.toNat x), Value.slice (some (Addr.mk k94 0 none)) 16 16] →
                (∀ k95 : Nat, (∀ W100 : World, (k95 = Array.size (World.heap W99) →
                (W100 = World.alloc W99 (Obj.cells (Value.cells (Value.agg vs25)) 35) →
                (RowKit.Below (Array.size (World.heap W5)) W5 W100 ∧
                I2 (some (Addr.mk k95 0 none)) W100))))))))))))))))))) ∧
               (((0 : Int) ≤ (16 : Int) ∧
                ((16 : Int) ≤ (16 : Int) ∧
                ((16 : Int) ≤ (9223372036854775807 : Int) ∧
                (↑1 : Int) * 16 ≤ 281474976710656))) ∧
               (∀ k96 : Nat, (∀ W101 : World, (k96 = Array.size (World.heap W97) →
               (W101 = World.alloc W97 (Obj.cells (madeCells #[Value.int IntKind.u8 0] 16) 5) →
               (RowKit.Below (Array.size (World.heap W5)) W5 W101 ∧
               (((0 : Int) ≤ x ∧
                (x ≤ x ∧
                (x ≤ 9223372036854775807 ∧
                (↑1 : Int) * x ≤ 281474976710656))) ∧
               (∀ k97 : Nat, (∀ W102 : World, (k97 = Array.size (World.heap W101) →
               (W102 = World.alloc W101 (Obj.cells (madeCells #[Value.bool false] (Int.toNat x * 1)) 4) →
               (RowKit.Below (Array.size (World.heap W5)) W5 W102 ∧
               (∀ vs26 : Array Value, (vs26 = #[Value.pointer p, Value.slice arg2 (Int.toNat x) arg2c, Value.int IntKind.i64 0, Value.int IntKind.i64 0, Value.slice (some (Addr.mk k91 0 none)) (Int.toNat x) (Int.toNat x), Value.slice (some (Addr.mk k90 0 none)) (Int.toNat x) (Int.toNat x), Value.slice (some (Addr.mk k92 0 none)) (Int.toNat x) (Int.toNat x), Value.slice (some (Addr.mk k97 0 none)) (Int.toNat x) (Int.toNat x), Value.slice (some (Addr.mk k96 0 none)) 16 16] →
               (∀ k98 : Nat, (∀ W103 : World, (k98 = Array.size (World.heap W102) →
               (W103 = World.alloc W102 (Obj.cells (Value.cells (Value.agg vs26)) 35) →
               (RowKit.Below (Array.size (World.heap W5)) W5 W103 ∧
               I2 (some (Addr.mk k98 0 none)) W103)))))))))))))))))))))))))) ∧
              ((((0 : Int) ≤ x ∧
                (x ≤ x ∧
                (x ≤ 9223372036854775807 ∧
                (↑1 : Int) * x ≤ 281474976710656))) ∧
               (∀ k99 : Nat, (∀ W104 : World, (k99 = Array.size (World.heap W96) →
               (W104 = World.alloc W96 (Obj.cells (madeCells #[Value.bool false] (Int.toNat x * 1)) 4) →
               (RowKit.Below (Array.size (World.heap W5)) W5 W104 ∧
               ((((0 : Int) ≤ x ∧
                 (x ≤ x ∧
                 (x ≤ 9223372036854775807 ∧
                 (↑1 : Int) * x ≤ 281474976710656))) ∧
                (∀ k100 : Nat, (∀ W105 : World, (k100 = Array.size (World.heap W104) →
                (W105 = World.alloc W104 (Obj.cells (madeCells #[Value.bool false] (Int.toNat x * 1)) 4) →
                (RowKit.Below (Array.size (World.heap W5)) W5 W105 ∧
                (((0 : Int) ≤ (16 : Int) ∧
                 ((16 : Int) ≤ (16 : Int) ∧
                 ((16 : Int) ≤ (9223372036854775807 : Int) ∧
                 (↑1 : Int) * 16 ≤ 281474976710656))) ∧
                (∀ k101 : Nat, (∀ W106 : World, (k101 = Array.size (World.heap W105) →
                (W106 = World.alloc W105 (Obj.cells (madeCells #[Value.int IntKind.u8 0] 16) 5) →
                (RowKit.Below (Array.size (World.heap W5)) W5 W106 ∧
                (∀ vs27 : Array Value, (vs27 = #[Value.pointer p, Value.slice arg2 (Int.toNat x) arg2c, Value.int IntKind.i64 0, Value.int IntKind.i64 0, Value.slice (some (Addr.mk k91 0 none)) (Int.toNat x) (Int.toNat x), Value.slice (some (Addr.mk k90 0 none)) (Int.toNat x) (Int.toNat x), Value.slice (some (Addr.mk k100 0 none)) (Int.toNat x) (Int.toNat x), Value.slice (some (Addr.mk k99 0 none)) (Int.toNat x) (Int.toNat x), Value.slice (some (Addr.mk k101 0 none)) 16 16] →
                (∀ k102 : Nat, (∀ W107 : World, (k102 = Array.size (World.heap W106) →
                (W107 = World.alloc W106 (Obj.cells (Value.cells (Value.agg vs27)) 35) →
                (RowKit.Below (Array.size (World.heap W5)) W5 W107 ∧
                I2 (some (Addr.mk k102 0 none)) W107))))))))))))))))))) ∧
               (((0 : Int) ≤ (16 : Int) ∧
                ((16 : Int) ≤ (16 : Int) ∧
                ((16 : Int) ≤ (9223372036854775807 : Int) ∧
                (↑1 : Int) * 16 ≤ 281474976710656))) ∧
               (∀ k103 : Nat, (∀ W108 : World, (k103 = Array.size (World.heap W104) →
               (W108 = World.alloc W104 (Obj.cells (madeCells #[Value.int IntKind.u8 0] 16) 5) →
               (RowKit.Below (Array.size (World.heap W5)) W5 W108 ∧
               (((0 : Int) ≤ x ∧
                (x ≤ x ∧
                (x ≤ 9223372036854775807 ∧
                (↑1 : Int) * x ≤ 281474976710656))) ∧
               (∀ k104 : Nat, (∀ W109 : World, (k104 = Array.size (World.heap W108) →
               (W109 = World.alloc W108 (Obj.cells (madeCells #[Value.bool false] (Int.toNat x * 1)) 4) →
               (RowKit.Below (Array.size (World.heap W5)) W5 W109 ∧
               (∀ vs28 : Array Value, (vs28 = #[Value.pointer p, Value.slice arg2 (Int.toNat x) arg2c, Value.int IntKind.i64 0, Value.int IntKind.i64 0, Value.slice (some (Addr.mk k91 0 none)) (Int.toNat x) (Int.toNat x), Value.slice (some (Addr.mk k90 0 none)) (Int.toNat x) (Int.toNat x), Value.slice (some (Addr.mk k104 0 none)) (Int.toNat x) (Int.toNat x), Value.slice (some (Addr.mk k99 0 none)) (Int.toNat x) (Int.toNat x), Value.slice (some (Addr.mk k103 0 none)) 16 16] →
               (∀ k105 : Nat, (∀ W110 : World, (k105 = Array.size (World.heap W109) →
               (W110 = World.alloc W109 (Obj.cells (Value.cells (Value.agg vs28)) 35) →
               (RowKit.Below (Array.size (World.heap W5)) W5 W110 ∧
               I2 (some (Addr.mk k105 0 none)) W110)))))))))))))))))))))))))) ∧
              (((0 : Int) ≤ (16 : Int) ∧
               ((16 : Int) ≤ (16 : Int) ∧
               ((16 : Int) ≤ (9223372036854775807 : Int) ∧
               (↑1 : Int) * 16 ≤ 281474976710656))) ∧
              (∀ k106 : Nat, (∀ W111 : World, (k106 = Array.size (World.heap W96) →
              (W111 = World.alloc W96 (Obj.cells (madeCells #[Value.int IntKind.u8 0] 16) 5) →
              (RowKit.Below (Array.size (World.heap W5)) W5 W111 ∧
              ((((0 : Int) ≤ x ∧
                (x ≤ x ∧
                (x ≤ 9223372036854775807 ∧
                (↑1 : Int) * x ≤ 281474976710656))) ∧
               (∀ k107 : Nat, (∀ W112 : World, (k107 = Array.size (World.heap W111) →
               (W112 = World.alloc W111 (Obj.cells (madeCells #[Value.bool false] (Int.toNat x * 1)) 4) →
               (RowKit.Below (Array.size (World.heap W5)) W5 W112 ∧
               (((0 : Int) ≤ x ∧
                (x ≤ x ∧
                (x ≤ 9223372036854775807 ∧
                (↑1 : Int) * x ≤ 281474976710656))) ∧
               (∀ k108 : Nat, (∀ W113 : World, (k108 = Array.size (World.heap W112) →
               (W113 = World.alloc W112 (Obj.cells (madeCells #[Value.bool false] (Int.toNat x * 1)) 4) →
               (RowKit.Below (Array.size (World.heap W5)) W5 W113 ∧
               (∀ vs29 : Array Value, (vs29 = #[Value.pointer p, Value.slice arg2 (Int.toNat x) arg2c, Value.int IntKind.i64 0, Value.int IntKind.i64 0, Value.slice (some (Addr.mk k91 0 none)) (Int.toNat x) (Int.toNat x), Value.slice (some (Addr.mk k90 0 none)) (Int.toNat x) (Int.toNat x), Value.slice (some (Addr.mk k107 0 none)) (Int.toNat x) (Int.toNat x), Value.slice (some (Addr.mk k108 0 none)) (Int.toNat x) (Int.toNat x), Value.slice (some (Addr.mk k106 0 none)) 16 16] →
               (∀ k109 : Nat, (∀ W114 : World, (k109 = Array.size (World.heap W113) →
               (W114 = World.alloc W113 (Obj.cells (Value.cells (Value.agg vs29)) 35) →
               (RowKit.Below (Array.size (World.heap W5)) W5 W114 ∧
               I2 (some (Addr.mk k109 0 none)) W114))))))))))))))))))) ∧
              (((0 : Int) ≤ x ∧
               (x ≤ x ∧
               (x ≤ 9223372036854775807 ∧
               (↑1 : Int) * x ≤ 281474976710656))) ∧
              (∀ k110 : Nat, (∀ W115 : World, (k110 = Array.size (World.heap W111) →
              (W115 = World.alloc W111 (Obj.cells (madeCells #[Value.bool false] (Int.toNat x * 1)) 4) →
              (RowKit.Below (Array.size (World.heap W5)) W5 W115 ∧
              (((0 : Int) ≤ x ∧
               (x ≤ x ∧
               (x ≤ 9223372036854775807 ∧
               (↑1 : Int) * x ≤ 281474976710656))) ∧
              (∀ k111 : Nat, (∀ W116 : World, (k111 = Array.size (World.heap W115) →
              (W116 = World.alloc W115 (Obj.cells (madeCells #[Value.bool false] (Int.toNat x * 1)) 4) →
              (RowKit.Below (Array.size (World.heap W5)) W5 W116 ∧
              (∀ vs30 : Array Value, (vs30 = #[Value.pointer p, Value.slice arg2 (Int.toNat x) arg2c, Value.int IntKind.i64 0, Value.int IntKind.i64 0, Value.slice (some (Addr.mk k91 0 none)) (Int.toNat x) (Int.toNat x), Value.slice (some (Addr.mk k90 0 none)) (Int.toNat x) (Int.toNat x), Value.slice (some (Addr.mk k111 0 none)) (Int.toNat x) (Int.toNat x), Value.slice (some (Addr.mk k110 0 none)) (Int.toNat x) (Int.toNat x), Value.slice (some (Addr.mk k106 0 none)) 16 16] →
              (∀ k112 : Nat, (∀ W117 : World, (k112 = Array.size (World.heap W116) →
              (W117 = World.alloc W116 (Obj.cells (Value.cells (Value.agg vs30)) 35) →
              (RowKit.Below (Array.size (World.heap W5)) W5 W117 ∧
              I2 (some (Addr.mk k112 0 none)) W117)))))))))))))))))))))))))))))))))) ∧
             ((((0 : Int) ≤ x ∧
               (x ≤ x ∧
               (x ≤ 9223372036854775807 ∧
               (↑1 : Int) * x ≤ 281474976710656))) ∧
              (∀ k113 : Nat, (∀ W118 : World, (k113 = Array.size (World.heap W95) →
              (W118 = World.alloc W95 (Obj.cells (madeCells #[Value.bool false] (Int.toNat x * 1)) 4) →
              (RowKit.Below (Array.size (World.heap W5)) W5 W118 ∧
              ((((0 : Int) ≤ x ∧
                (x ≤ x ∧
                (x ≤ 9223372036854775807 ∧
                (↑4 : Int) * x ≤ 281474976710656))) ∧
               (∀ k114 : Nat, (∀ W119 : World, (k114 = Array.size (World.heap W118) →
               (W119 = World.alloc W118 (Obj.cells (madeCells #[Value.int IntKind.u32 0] (Int.toNat x * 1)) 39) →
               (RowKit.Below (Array.size (World.heap W5)) W5 W119 ∧
               ((((0 : Int) ≤ x ∧
                 (x ≤ x ∧
                 (x ≤ 9223372036854775807 ∧
                 (↑1 : Int) * x ≤ 281474976710656))) ∧
                (∀ k115 : Nat, (∀ W120 : World, (k115 = Array.size (World.heap W119) →
                (W120 = World.alloc W119 (Obj.cells (madeCells #[Value.bool false] (Int.toNat x * 1)) 4) →
                (RowKit.Below (Array.size (World.heap W5)) W5 W120 ∧
                (((0 : Int) ≤ (16 : Int) ∧
                 ((16 : Int) ≤ (16 : Int) ∧
                 ((16 : Int) ≤ (9223372036854775807 : Int) ∧
                 (↑1 : Int) * 16 ≤ 281474976710656))) ∧
                (∀ k116 : Nat, (∀ W121 : World, (k116 = Array.size (World.heap W120) →
                (W121 = World.alloc W120 (Obj.cells (madeCells #[Value.int IntKind.u8 0] 16) 5) →
                (RowKit.Below (Array.size (World.heap W5)) W5 W121 ∧
                (∀ vs31 : Array Value, (vs31 = #[Value.pointer p, Value.slice arg2 (Int.toNat x) arg2c, Value.int IntKind.i64 0, Value.int IntKind.i64 0, Value.slice (some (Addr.mk k114 0 none)) (Int.toNat x) (Int.toNat x), Value.slice (some (Addr.mk k90 0 none)) (Int.toNat x) (Int.toNat x), Value.slice (some (Addr.mk k113 0 none)) (Int.toNat x) (Int.toNat x), Value.slice (some (Addr.mk k115 0 none)) (Int.toNat x) (Int.toNat x), Value.slice (some (Addr.mk k116 0 none)) 16 16] →
                (∀ k117 : Nat, (∀ W122 : World, (k117 = Array.size (World.heap W121) →
                (W122 = World.alloc W121 (Obj.cells (Value.cells (Value.agg vs31)) 35) →
                (RowKit.Below (Array.size (World.heap W5)) W5 W122 ∧
                I2 (some (Addr.mk k117 0 none)) W122))))))))))))))))))) ∧
               (((0 : Int) ≤ (16 : Int) ∧
                ((16 : Int) ≤ (16 : Int) ∧
                ((16 : Int) ≤ (9223372036854775807 : Int) ∧
                (↑1 : Int) * 16 ≤ 281474976710656))) ∧
               (∀ k118 : Nat, (∀ W123 : World, (k118 = Array.size (World.heap W119) →
               (W123 = World.alloc W119 (Obj.cells (madeCells #[Value.int IntKind.u8 0] 16) 5) →
               (RowKit.Below (Array.size (World.heap W5)) W5 W123 ∧
               (((0 : Int) ≤ x ∧
                (x ≤ x ∧
                (x ≤ 9223372036854775807 ∧
                (↑1 : Int) * x ≤ 281474976710656))) ∧
               (∀ k119 : Nat, (∀ W124 : World, (k119 = Array.size (World.heap W123) →
               (W124 = World.alloc W123 (Obj.cells (madeCells #[Value.bool false] (Int.toNat x * 1)) 4) →
               (RowKit.Below (Array.size (World.heap W5)) W5 W124 ∧
               (∀ vs32 : Array Value, (vs32 = #[Value.pointer p, Value.slice arg2 (Int.toNat x) arg2c, Value.int IntKind.i64 0, Value.int IntKind.i64 0, Value.slice (some (Addr.mk k114 0 none)) (Int.toNat x) (Int.toNat x), Value.slice (some (Addr.mk k90 0 none)) (Int.toNat x) (Int.toNat x), Value.slice (some (Addr.mk k113 0 none)) (Int.toNat x) (Int.toNat x), Value.slice (some (Addr.mk k119 0 none)) (Int.toNat x) (Int.toNat x), Value.slice (some (Addr.mk k118 0 none)) 16 16] →
               (∀ k120 : Nat, (∀ W125 : World, (k120 = Array.size (World.heap W124) →
               (W125 = World.alloc W124 (Obj.cells (Value.cells (Value.agg vs32)) 35) →
               (RowKit.Below (Array.size (World.heap W5)) W5 W125 ∧
               I2 (some (Addr.mk k120 0 none)) W125)))))))))))))))))))))))))) ∧
              ((((0 : Int) ≤ x ∧
                (x ≤ x ∧
                (x ≤ 9223372036854775807 ∧
                (↑1 : Int) * x ≤ 281474976710656))) ∧
               (∀ k121 : Nat, (∀ W126 : World, (k121 = Array.size (World.heap W118) →
               (W126 = World.alloc W118 (Obj.cells (madeCells #[Value.bool false] (Int.toNat x * 1)) 4) →
               (RowKit.Below (Array.size (World.heap W5)) W5 W126 ∧
               ((((0 : Int) ≤ x ∧
                 (x ≤ x ∧
                 (x ≤ 9223372036854775807 ∧
                 (↑4 : Int) * x ≤ 281474976710656))) ∧
                (∀ k122 : Nat, (∀ W127 : World, (k122 = Array.size (World.heap W126) →
                (W127 = World.alloc W126 (Obj.cells (madeCells #[Value.int IntKind.u32 0] (Int.toNat x * 1)) 39) →
                (RowKit.Below (Array.size (World.heap W5)) W5 W127 ∧
                (((0 : Int) ≤ (16 : Int) ∧
                 ((16 : Int) ≤ (16 : Int) ∧
                 ((16 : Int) ≤ (9223372036854775807 : Int) ∧
                 (↑1 : Int) * 16 ≤ 281474976710656))) ∧
                (∀ k123 : Nat, (∀ W128 : World, (k123 = Array.size (World.heap W127) →
                (W128 = World.alloc W127 (Obj.cells (madeCells #[Value.int IntKind.u8 0] 16) 5) →
                (RowKit.Below (Array.size (World.heap W5)) W5 W128 ∧
                (∀ vs33 : Array Value, (vs33 = #[Value.pointer p, Value.slice arg2 (Int.toNat x) arg2c, Value.int IntKind.i64 0, Value.int IntKind.i64 0, Value.slice (some (Addr.mk k122 0 none)) (Int.toNat x) (Int.toNat x), Value.slice (some (Addr.mk k90 0 none)) (Int.toNat x) (Int.toNat x), Value.slice (some (Addr.mk k113 0 none)) (Int.toNat x) (Int.toNat x), Value.slice (some (Addr.mk k121 0 none)) (Int.toNat x) (Int.toNat x), Value.slice (some (Addr.mk k123 0 none)) 16 16] →
                (∀ k124 : Nat, (∀ W129 : World, (k124 = Array.size (World.heap W128) →
                (W129 = World.alloc W128 (Obj.cells (Value.cells (Value.agg vs33)) 35) →
                (RowKit.Below (Array.size (World.heap W5)) W5 W129 ∧
                I2 (some (Addr.mk k124 0 none)) W129))))))))))))))))))) ∧
               (((0 : Int) ≤ (16 : Int) ∧
                ((16 : Int) ≤ (16 : Int) ∧
                ((16 : Int) ≤ (9223372036854775807 : Int) ∧
                (↑1 : Int) * 16 ≤ 281474976710656))) ∧
               (∀ k125 : Nat, (∀ W130 : World, (k125 = Array.size (World.heap W126) →
               (W130 = World.alloc W126 (Obj.cells (madeCells #[Value.int IntKind.u8 0] 16) 5) →
               (RowKit.Below (Array.size (World.heap W5)) W5 W130 ∧
               (((0 : Int) ≤ x ∧
                (x ≤ x ∧
                (x ≤ 9223372036854775807 ∧
                (↑4 : Int) * x ≤ 281474976710656))) ∧
               (∀ k126 : Nat, (∀ W131 : World, (k126 = Array.size (World.heap W130) →
               (W131 = World.alloc W130 (Obj.cells (madeCells #[Value.int IntKind.u32 0] (Int.toNat x * 1)) 39) →
               (RowKit.Below (Array.size (World.heap W5)) W5 W131 ∧
               (∀ vs34 : Array Value, (vs34 = #[Value.pointer p, Value.slice arg2 (Int.toNat x) arg2c, Value.int IntKind.i64 0, Value.int IntKind.i64 0, Value.slice (some (Addr.mk k126 0 none)) (Int.toNat x) (Int.toNat x), Value.slice (some (Addr.mk k90 0 none)) (Int.toNat x) (Int.toNat x), Value.slice (some (Addr.mk k113 0 none)) (Int.toNat x) (Int.toNat x), Value.slice (some (Addr.mk k121 0 none)) (Int.toNat x) (Int.toNat x), Value.slice (some (Addr.mk k125 0 none)) 16 16] →
               (∀ k127 : Nat, (∀ W132 : World, (k127 = Array.size (World.heap W131) →
               (W132 = World.alloc W131 (Obj.cells (Value.cells (Value.agg vs34)) 35) →
               (RowKit.Below (Array.size (World.heap W5)) W5 W132 ∧
               I2 (some (Addr.mk k127 0 none)) W132)))))))))))))))))))))))))) ∧
              (((0 : Int) ≤ (16 : Int) ∧
               ((16 : Int) ≤ (16 : Int) ∧
               ((16 : Int) ≤ (9223372036854775807 : Int) ∧
               (↑1 : Int) * 16 ≤ 281474976710656))) ∧
              (∀ k128 : Nat, (∀ W133 : World, (k128 = Array.size (World.heap W118) →
              (W133 = World.alloc W118 (Obj.cells (madeCells #[Value.int IntKind.u8 0] 16) 5) →
              (RowKit.Below (Array.size (World.heap W5)) W5 W133 ∧
              ((((0 : Int) ≤ x ∧
                (x ≤ x ∧
                (x ≤ 9223372036854775807 ∧
                (↑4 : Int) * x ≤ 281474976710656))) ∧
               (∀ k129 : Nat, (∀ W134 : World, (k129 = Array.size (World.heap W133) →
               (W134 = World.alloc W133 (Obj.cells (madeCells #[Value.int IntKind.u32 0] (Int.toNat x * 1)) 39) →
               (RowKit.Below (Array.size (World.heap W5)) W5 W134 ∧
               (((0 : Int) ≤ x ∧
                (x ≤ x ∧
                (x ≤ 9223372036854775807 ∧
                (↑1 : Int) * x ≤ 281474976710656))) ∧
               (∀ k130 : Nat, (∀ W135 : World, (k130 = Array.size (World.heap W134) →
               (W135 = World.alloc W134 (Obj.cells (madeCells #[Value.bool false] (Int.toNat x * 1)) 4) →
               (RowKit.Below (Array.size (World.heap W5)) W5 W135 ∧
               (∀ vs35 : Array Value, (vs35 = #[Value.pointer p, Value.slice arg2 (Int.toNat x) arg2c, Value.int IntKind.i64 0, Value.int IntKind.i64 0, Value.slice (some (Addr.mk k129 0 none)) (Int.toNat x) (Int.toNat x), Value.slice (some (Addr.mk k90 0 none)) (Int.toNat x) (Int.toNat x), Value.slice (some (Addr.mk k113 0 none)) (Int.toNat x) (Int.toNat x), Value.slice (some (Addr.mk k130 0 none)) (Int.toNat x) (Int.toNat x), Value.slice (some (Addr.mk k128 0 none)) 16 16] →
               (∀ k131 : Nat, (∀ W136 : World, (k131 = Array.size (World.heap W135) →
               (W136 = World.alloc W135 (Obj.cells (Value.cells (Value.agg vs35)) 35) →
               (RowKit.Below (Array.size (World.heap W5)) W5 W136 ∧
               I2 (some (Addr.mk k131 0 none)) W136))))))))))))))))))) ∧
              (((0 : Int) ≤ x ∧
               (x ≤ x ∧
               (x ≤ 9223372036854775807 ∧
               (↑1 : Int) * x ≤ 281474976710656))) ∧
              (∀ k132 : Nat, (∀ W137 : World, (k132 = Array.size (World.heap W133) →
              (W137 = World.alloc W133 (Obj.cells (madeCells #[Value.bool false] (Int.toNat x * 1)) 4) →
              (RowKit.Below (Array.size (World.heap W5)) W5 W137 ∧
              (((0 : Int) ≤ x ∧
               (x ≤ x ∧
               (x ≤ 9223372036854775807 ∧
               (↑4 : Int) * x ≤ 281474976710656))) ∧
              (∀ k133 : Nat, (∀ W138 : World, (k133 = Array.size (World.heap W137) →
              (W138 = World.alloc W137 (Obj.cells (madeCells #[Value.int IntKind.u32 0] (Int.toNat x * 1)) 39) →
              (RowKit.Below (Array.size (World.heap W5)) W5 W138 ∧
              (∀ vs36 : Array Value, (vs36 = #[Value.pointer p, Value.slice arg2 (Int.toNat x) arg2c, Value.int IntKind.i64 0, Value.int IntKind.i64 0, Value.slice (some (Addr.mk k133 0 none)) (Int.toNat x) (Int.toNat x), Value.slice (some (Addr.mk k90 0 none)) (Int.toNat x) (Int.toNat x), Value.slice (some (Addr.mk k113 0 none)) (Int.toNat x) (Int.toNat x), Value.slice (some (Addr.mk k132 0 none)) (Int.toNat x) (Int.toNat x), Value.slice (some (Addr.mk k128 0 none)) 16 16] →
              (∀ k134 : Nat, (∀ W139 : World, (k134 = Array.size (World.heap W138) →
              (W139 = World.alloc W138 (Obj.cells (Value.cells (Value.agg vs36)) 35) →
              (RowKit.Below (Array.size (World.heap W5)) W5 W139 ∧
              I2 (some (Addr.mk k134 0 none)) W139)))))))))))))))))))))))))))))))))) ∧
             ((((0 : Int) ≤ x ∧
               (x ≤ x ∧
               (x ≤ 9223372036854775807 ∧
               (↑1 : Int) * x ≤ 281474976710656))) ∧
              (∀ k135 : Nat, (∀ W140 : World, (k135 = Array.size (World.heap W95) →
              (W140 = World.alloc W95 (Obj.cells (madeCells #[Value.bool false] (Int.toNat x * 1)) 4) →
              (RowKit.Below (Array.size (World.heap W5)) W5 W140 ∧
              ((((0 : Int) ≤ x ∧
                (x ≤ x ∧
                (x ≤ 9223372036854775807 ∧
                (↑4 : Int) * x ≤ 281474976710656))) ∧
               (∀ k136 : Nat, (∀ W141 : World, (k136 = Array.size (World.heap W140) →
               (W141 = World.alloc W140 (Obj.cells (madeCells #[Value.int IntKind.u32 0] (Int.toNat x * 1)) 39) →
               (RowKit.Below (Array.size (World.heap W5)) W5 W141 ∧
               ((((0 : Int) ≤ x ∧
                 (x ≤ x ∧
                 (x ≤ 9223372036854775807 ∧
                 (↑1 : Int) * x ≤ 281474976710656))) ∧
                (∀ k137 : Nat, (∀ W142 : World, (k137 = Array.size (World.heap W141) →
                (W142 = World.alloc W141 (Obj.cells (madeCells #[Value.bool false] (Int.toNat x * 1)) 4) →
                (RowKit.Below (Array.size (World.heap W5)) W5 W142 ∧
                (((0 : Int) ≤ (16 : Int) ∧
                 ((16 : Int) ≤ (16 : Int) ∧
                 ((16 : Int) ≤ (9223372036854775807 : Int) ∧
                 (↑1 : Int) * 16 ≤ 281474976710656))) ∧
                (∀ k138 : Nat, (∀ W143 : World, (k138 = Array.size (World.heap W142) →
                (W143 = World.alloc W142 (Obj.cells (madeCells #[Value.int IntKind.u8 0] 16) 5) →
                (RowKit.Below (Array.size (World.heap W5)) W5 W143 ∧
                (∀ vs37 : Array Value, (vs37 = #[Value.pointer p, Value.slice arg2 (Int.toNat x) arg2c, Value.int IntKind.i64 0, Value.int IntKind.i64 0, Value.slice (some (Addr.mk k136 0 none)) (Int.toNat x) (Int.toNat x), Value.slice (some (Addr.mk k90 0 none)) (Int.toNat x) (Int.toNat x), Value.slice (some (Addr.mk k137 0 none)) (Int.toNat x) (Int.toNat x), Value.slice (some (Addr.mk k135 0 none)) (Int.toNat x) (Int.toNat x), Value.slice (some (Addr.mk k138 0 none)) 16 16] →
                (∀ k139 : Nat, (∀ W144 : World, (k139 = Array.size (World.heap W143) →
                (W144 = World.alloc W143 (Obj.cells (Value.cells (Value.agg vs37)) 35) →
                (RowKit.Below (Array.size (World.heap W5)) W5 W144 ∧
                I2 (some (Addr.mk k139 0 none)) W144))))))))))))))))))) ∧
               (((0 : Int) ≤ (16 : Int) ∧
                ((16 : Int) ≤ (16 : Int) ∧
                ((16 : Int) ≤ (9223372036854775807 : Int) ∧
                (↑1 : Int) * 16 ≤ 281474976710656))) ∧
               (∀ k140 : Nat, (∀ W145 : World, (k140 = Array.size (World.heap W141) →
               (W145 = World.alloc W141 (Obj.cells (madeCells #[Value.int IntKind.u8 0] 16) 5) →
               (RowKit.Below (Array.size (World.heap W5)) W5 W145 ∧
               (((0 : Int) ≤ x ∧
                (x ≤ x ∧
                (x ≤ 9223372036854775807 ∧
                (↑1 : Int) * x ≤ 281474976710656))) ∧
               (∀ k141 : Nat, (∀ W146 : World, (k141 = Array.size (World.heap W145) →
               (W146 = World.alloc W145 (Obj.cells (madeCells #[Value.bool false] (Int.toNat x * 1)) 4) →
               (RowKit.Below (Array.size (World.heap W5)) W5 W146 ∧
               (∀ vs38 : Array Value, (vs38 = #[Value.pointer p, Value.slice arg2 (Int.toNat x) arg2c, Value.int IntKind.i64 0, Value.int IntKind.i64 0, Value.slice (some (Addr.mk k136 0 none)) (Int.toNat x) (Int.toNat x), Value.slice (some (Addr.mk k90 0 none)) (Int.toNat x) (Int.toNat x), Value.slice (some (Addr.mk k141 0 none)) (Int.toNat x) (Int.toNat x), Value.slice (some (Addr.mk k135 0 none)) (Int.toNat x) (Int.toNat x), Value.slice (some (Addr.mk k140 0 none)) 16 16] →
               (∀ k142 : Nat, (∀ W147 : World, (k142 = Array.size (World.heap W146) →
               (W147 = World.alloc W146 (Obj.cells (Value.cells (Value.agg vs38)) 35) →
               (RowKit.Below (Array.size (World.heap W5)) W5 W147 ∧
               I2 (some (Addr.mk k142 0 none)) W147)))))))))))))))))))))))))) ∧
              ((((0 : Int) ≤ x ∧
                (x ≤ x ∧
                (x ≤ 9223372036854775807 ∧
                (↑1 : Int) * x ≤ 281474976710656))) ∧
               (∀ k143 : Nat, (∀ W148 : World, (k143 = Array.size (World.heap W140) →
               (W148 = World.alloc W140 (Obj.cells (madeCells #[Value.bool false] (Int.toNat x * 1)) 4) →
               (RowKit.Below (Array.size (World.heap W5)) W5 W148 ∧
               ((((0 : Int) ≤ x ∧
                 (x ≤ x ∧
                 (x ≤ 9223372036854775807 ∧
                 (↑4 : Int) * x ≤ 281474976710656))) ∧
                (∀ k144 : Nat, (∀ W149 : World, (k144 = Array.size (World.heap W148) →
                (W149 = World.alloc W148 (Obj.cells (madeCells #[Value.int IntKind.u32 0] (Int.toNat x * 1)) 39) →
                (RowKit.Below (Array.size (World.heap W5)) W5 W149 ∧
                (((0 : Int) ≤ (16 : Int) ∧
                 ((16 : Int) ≤ (16 : Int) ∧
                 ((16 : Int) ≤ (9223372036854775807 : Int) ∧
                 (↑1 : Int) * 16 ≤ 281474976710656))) ∧
                (∀ k145 : Nat, (∀ W150 : World, (k145 = Array.size (World.heap W149) →
                (W150 = World.alloc W149 (Obj.cells (madeCells #[Value.int IntKind.u8 0] 16) 5) →
                (RowKit.Below (Array.size (World.heap W5)) W5 W150 ∧
                (∀ vs39 : Array Value, (vs39 = #[Value.pointer p, Value.slice arg2 (Int.toNat x) arg2c, Value.int IntKind.i64 0, Value.int IntKind.i64 0, Value.slice (some (Addr.mk k144 0 none)) (Int.toNat x) (Int.toNat x), Value.slice (some (Addr.mk k90 0 none)) (Int.toNat x) (Int.toNat x), Value.slice (some (Addr.mk k143 0 none)) (Int.toNat x) (Int.toNat x), Value.slice (some (Addr.mk k135 0 none)) (Int.toNat x) (Int.toNat x), Value.slice (some (Addr.mk k145 0 none)) 16 16] →
                (∀ k146 : Nat, (∀ W151 : World, (k146 = Array.size (World.heap W150) →
                (W151 = World.alloc W150 (Obj.cells (Value.cells (Value.agg vs39)) 35) →
                (RowKit.Below (Array.size (World.heap W5)) W5 W151 ∧
                I2 (some (Addr.mk k146 0 none)) W151))))))))))))))))))) ∧
               (((0 : Int) ≤ (16 : Int) ∧
                ((16 : Int) ≤ (16 : Int) ∧
                ((16 : Int) ≤ (9223372036854775807 : Int) ∧
                (↑1 : Int) * 16 ≤ 281474976710656))) ∧
               (∀ k147 : Nat, (∀ W152 : World, (k147 = Array.size (World.heap W148) →
               (W152 = World.alloc W148 (Obj.cells (madeCells #[Value.int IntKind.u8 0] 16) 5) →
               (RowKit.Below (Array.size (World.heap W5)) W5 W152 ∧
               (((0 : Int) ≤ x ∧
                (x ≤ x ∧
                (x ≤ 9223372036854775807 ∧
                (↑4 : Int) * x ≤ 281474976710656))) ∧
               (∀ k148 : Nat, (∀ W153 : World, (k148 = Array.size (World.heap W152) →
               (W153 = World.alloc W152 (Obj.cells (madeCells #[Value.int IntKind.u32 0] (Int.toNat x * 1)) 39) →
               (RowKit.Below (Array.size (World.heap W5)) W5 W153 ∧
               (∀ vs40 : Array Value, (vs40 = #[Value.pointer p, Value.slice arg2 (Int.toNat x) arg2c, Value.int IntKind.i64 0, Value.int IntKind.i64 0, Value.slice (some (Addr.mk k148 0 none)) (Int.toNat x) (Int.toNat x), Value.slice (some (Addr.mk k90 0 none)) (Int.toNat x) (Int.toNat x), Value.slice (some (Addr.mk k143 0 none)) (Int.toNat x) (Int.toNat x), Value.slice (some (Addr.mk k135 0 none)) (Int.toNat x) (Int.toNat x), Value.slice (some (Addr.mk k147 0 none)) 16 16] →
               (∀ k149 : Nat, (∀ W154 : World, (k149 = Array.size (World.heap W153) →
               (W154 = World.alloc W153 (Obj.cells (Value.cells (Value.agg vs40)) 35) →
               (RowKit.Below (Array.size (World.heap W5)) W5 W154 ∧
               I2 (some (Addr.mk k149 0 none)) W154)))))))))))))))))))))))))) ∧
              (((0 : Int) ≤ (16 : Int) ∧
               ((16 : Int) ≤ (16 : Int) ∧
               ((16 : Int) ≤ (9223372036854775807 : Int) ∧
               (↑1 : Int) * 16 ≤ 281474976710656))) ∧
              (∀ k150 : Nat, (∀ W155 : World, (k150 = Array.size (World.heap W140) →
              (W155 = World.alloc W140 (Obj.cells (madeCells #[Value.int IntKind.u8 0] 16) 5) →
              (RowKit.Below (Array.size (World.heap W5)) W5 W155 ∧
              ((((0 : Int) ≤ x ∧
                (x ≤ x ∧
                (x ≤ 9223372036854775807 ∧
                (↑4 : Int) * x ≤ 281474976710656))) ∧
               (∀ k151 : Nat, (∀ W156 : World, (k151 = Array.size (World.heap W155) →
               (W156 = World.alloc W155 (Obj.cells (madeCells #[Value.int IntKind.u32 0] (Int.toNat x * 1)) 39) →
               (RowKit.Below (Array.size (World.heap W5)) W5 W156 ∧
               (((0 : Int) ≤ x ∧
                (x ≤ x ∧
                (x ≤ 9223372036854775807 ∧
                (↑1 : Int) * x ≤ 281474976710656))) ∧
               (∀ k152 : Nat, (∀ W157 : World, (k152 = Array.size (World.heap W156) →
               (W157 = World.alloc W156 (Obj.cells (madeCells #[Value.bool false] (Int.toNat x * 1)) 4) →
               (RowKit.Below (Array.size (World.heap W5)) W5 W157 ∧
               (∀ vs41 : Array Value, (vs41 = #[Value.pointer p, Value.slice arg2 (Int.toNat x) arg2c, Value.int IntKind.i64 0, Value.int IntKind.i64 0, Value.slice (some (Addr.mk k151 0 none)) (Int.toNat x) (Int.toNat x), Value.slice (some (Addr.mk k90 0 none)) (Int.toNat x) (Int.toNat x), Value.slice (some (Addr.mk k152 0 none)) (Int.toNat x) (Int.toNat x), Value.slice (some (Addr.mk k135 0 none)) (Int.toNat x) (Int.toNat x), Value.slice (some (Addr.mk k150 0 none)) 16 16] →
               (∀ k153 : Nat, (∀ W158 : World, (k153 = Array.size (World.heap W157) →
               (W158 = World.alloc W157 (Obj.cells (Value.cells (Value.agg vs41)) 35) →
               (RowKit.Below (Array.size (World.heap W5)) W5 W158 ∧
               I2 (some (Addr.mk k153 0 none)) W158))))))))))))))))))) ∧
              (((0 : Int) ≤ x ∧
               (x ≤ x ∧
               (x ≤ 9223372036854775807 ∧
               (↑1 : Int) * x ≤ 281474976710656))) ∧
              (∀ k154 : Nat, (∀ W159 : World, (k154 = Array.size (World.heap W155) →
              (W159 = World.alloc W155 (Obj.cells (madeCells #[Value.bool false] (Int.toNat x * 1)) 4) →
              (RowKit.Below (Array.size (World.heap W5)) W5 W159 ∧
              (((0 : Int) ≤ x ∧
               (x ≤ x ∧
               (x ≤ 9223372036854775807 ∧
               (↑4 : Int) * x ≤ 281474976710656))) ∧
              (∀ k155 : Nat, (∀ W160 : World, (k155 = Array.size (World.heap W159) →
              (W160 = World.alloc W159 (Obj.cells (madeCells #[Value.int IntKind.u32 0] (Int.toNat x * 1)) 39) →
              (RowKit.Below (Array.size (World.heap W5)) W5 W160 ∧
              (∀ vs42 : Array Value, (vs42 = #[Value.pointer p, Value.slice arg2 (Int.toNat x) arg2c, Value.int IntKind.i64 0, Value.int IntKind.i64 0, Value.slice (some (Addr.mk k155 0 none)) (Int.toNat x) (Int.toNat x), Value.slice (some (Addr.mk k90 0 none)) (Int.toNat x) (Int.toNat x), Value.slice (some (Addr.mk k154 0 none)) (Int.toNat x) (Int.toNat x), Value.slice (some (Addr.mk k135 0 none)) (Int.toNat x) (Int.toNat x), Value.slice (some (Addr.mk k150 0 none)) 16 16] →
              (∀ k156 : Nat, (∀ W161 : World, (k156 = Array.size (World.heap W160) →
              (W161 = World.alloc W160 (Obj.cells (Value.cells (Value.agg vs42)) 35) →
              (RowKit.Below (Array.size (World.heap W5)) W5 W161 ∧
              I2 (some (Addr.mk k156 0 none)) W161)))))))))))))))))))))))))))))))))) ∧
             (((0 : Int) ≤ (16 : Int) ∧
              ((16 : Int) ≤ (16 : Int) ∧
              ((16 : Int) ≤ (9223372036854775807 : Int) ∧
              (↑1 : Int) * 16 ≤ 281474976710656))) ∧
             (∀ k157 : Nat, (∀ W162 : World, (k157 = Array.size (World.heap W95) →
             (W162 = World.alloc W95 (Obj.cells (madeCells #[Value.int IntKind.u8 0] 16) 5) →
             (RowKit.Below (Array.size (World.heap W5)) W5 W162 ∧
             ((((0 : Int) ≤ x ∧
               (x ≤ x ∧
               (x ≤ 9223372036854775807 ∧
               (↑4 : Int) * x ≤ 281474976710656))) ∧
              (∀ k158 : Nat, (∀ W163 : World, (k158 = Array.size (World.heap W162) →
              (W163 = World.alloc W162 (Obj.cells (madeCells #[Value.int IntKind.u32 0] (Int.toNat x * 1)) 39) →
              (RowKit.Below (Array.size (World.heap W5)) W5 W163 ∧
              ((((0 : Int) ≤ x ∧
                (x ≤ x ∧
                (x ≤ 9223372036854775807 ∧
                (↑1 : Int) * x ≤ 281474976710656))) ∧
               (∀ k159 : Nat, (∀ W164 : World, (k159 = Array.size (World.heap W163) →
               (W164 = World.alloc W163 (Obj.cells (madeCells #[Value.bool false] (Int.toNat x * 1)) 4) →
               (RowKit.Below (Array.size (World.heap W5)) W5 W164 ∧
               (((0 : Int) ≤ x ∧
                (x ≤ x ∧
                (x ≤ 9223372036854775807 ∧
                (↑1 : Int) * x ≤ 281474976710656))) ∧
               (∀ k160 : Nat, (∀ W165 : World, (k160 = Array.size (World.heap W164) →
               (W165 = World.alloc W164 (Obj.cells (madeCells #[Value.bool false] (Int.toNat x * 1)) 4) →
               (RowKit.Below (Array.size (World.heap W5)) W5 W165 ∧
               (∀ vs43 : Array Value, (vs43 = #[Value.pointer p, Value.slice arg2 (Int.toNat x) arg2c, Value.int IntKind.i64 0, Value.int IntKind.i64 0, Value.slice (some (Addr.mk k158 0 none)) (Int.toNat x) (Int.toNat x), Value.slice (some (Addr.mk k90 0 none)) (Int.toNat x) (Int.toNat x), Value.slice (some (Addr.mk k159 0 none)) (Int.toNat x) (Int.toNat x), Value.slice (some (Addr.mk k160 0 none)) (Int.toNat x) (Int.toNat x), Value.slice (some (Addr.mk k157 0 none)) 16 16] →
               (∀ k161 : Nat, (∀ W166 : World, (k161 = Array.size (World.heap W165) →
               (W166 = World.alloc W165 (Obj.cells (Value.cells (Value.agg vs43)) 35) →
               (RowKit.Below (Array.size (World.heap W5)) W5 W166 ∧
               I2 (some (Addr.mk k161 0 none)) W166))))))))))))))))))) ∧
              (((0 : Int) ≤ x ∧
               (x ≤ x ∧
               (x ≤ 9223372036854775807 ∧
               (↑1 : Int) * x ≤ 281474976710656))) ∧
              (∀ k162 : Nat, (∀ W167 : World, (k162 = Array.size (World.heap W163) →
              (W167 = World.alloc W163 (Obj.cells (madeCells #[Value.bool false] (Int.toNat x * 1)) 4) →
              (RowKit.Below (Array.size (World.heap W5)) W5 W167 ∧
              (((0 : Int) ≤ x ∧
               (x ≤ x ∧
               (x ≤ 9223372036854775807 ∧
               (↑1 : Int) * x ≤ 281474976710656))) ∧
              (∀ k163 : Nat, (∀ W168 : World, (k163 = Array.size (World.heap W167) →
              (W168 = World.alloc W167 (Obj.cells (madeCells #[Value.bool false] (Int.toNat x * 1)) 4) →
              (RowKit.Below (Array.size (World.heap W5)) W5 W168 ∧
              (∀ vs44 : Array Value, (vs44 = #[Value.pointer p, Value.slice arg2 (Int.toNat x) arg2c, Value.int IntKind.i64 0, Value.int IntKind.i64 0, Value.slice (some (Addr.mk k158 0 none)) (Int.toNat x) (Int.toNat x), Value.slice (some (Addr.mk k90 0 none)) (Int.toNat x) (Int.toNat x), Value.slice (some (Addr.mk k163 0 none)) (Int.toNat x) (Int.toNat x), Value.slice (some (Addr.mk k162 0 none)) (Int.toNat x) (Int.toNat x), Value.slice (some (Addr.mk k157 0 none)) 16 16] →
              (∀ k164 : Nat, (∀ W169 : World, (k164 = Array.size (World.heap W168) →
              (W169 = World.alloc W168 (Obj.cells (Value.cells (Value.agg vs44)) 35) →
              (RowKit.Below (Array.size (World.heap W5)) W5 W169 ∧
              I2 (some (Addr.mk k164 0 none)) W169)))))))))))))))))))))))))) ∧
             ((((0 : Int) ≤ x ∧
               (x ≤ x ∧
               (x ≤ 9223372036854775807 ∧
               (↑1 : Int) * x ≤ 281474976710656))) ∧
              (∀ k165 : Nat, (∀ W170 : World, (k165 = Array.size (World.heap W162) →
              (W170 = World.alloc W162 (Obj.cells (madeCells #[Value.bool false] (Int.toNat x * 1)) 4) →
              (RowKit.Below (Array.size (World.heap W5)) W5 W170 ∧
              ((((0 : Int) ≤ x ∧
                (x ≤ x ∧
                (x ≤ 9223372036854775807 ∧
                (↑4 : Int) * x ≤ 281474976710656))) ∧
               (∀ k166 : Nat, (∀ W171 : World, (k166 = Array.size (World.heap W170) →
               (W171 = World.alloc W170 (Obj.cells (madeCells #[Value.int IntKind.u32 0] (Int.toNat x * 1)) 39) →
               (RowKit.Below (Array.size (World.heap W5)) W5 W171 ∧
               (((0 : Int) ≤ x ∧
                (x ≤ x ∧
                (x ≤ 9223372036854775807 ∧
                (↑1 : Int) * x ≤ 281474976710656))) ∧
               (∀ k167 : Nat, (∀ W172 : World, (k167 = Array.size (World.heap W171) →
               (W172 = World.alloc W171 (Obj.cells (madeCells #[Value.bool false] (Int.toNat x * 1)) 4) →
               (RowKit.Below (Array.size (World.heap W5)) W5 W172 ∧
               (∀ vs45 : Array Value, (vs45 = #[Value.pointer p, Value.slice arg2 (Int.toNat x) arg2c, Value.int IntKind.i64 0, Value.int IntKind.i64 0, Value.slice (some (Addr.mk k166 0 none)) (Int.toNat x) (Int.toNat x), Value.slice (some (Addr.mk k90 0 none)) (Int.toNat x) (Int.toNat x), Value.slice (some (Addr.mk k165 0 none)) (Int.toNat x) (Int.toNat x), Value.slice (some (Addr.mk k167 0 none)) (Int.toNat x) (Int.toNat x), Value.slice (some (Addr.mk k157 0 none)) 16 16] →
               (∀ k168 : Nat, (∀ W173 : World, (k168 = Array.size (World.heap W172) →
               (W173 = World.alloc W172 (Obj.cells (Value.cells (Value.agg vs45)) 35) →
               (RowKit.Below (Array.size (World.heap W5)) W5 W173 ∧
               I2 (some (Addr.mk k168 0 none)) W173))))))))))))))))))) ∧
              (((0 : Int) ≤ x ∧
               (x ≤ x ∧
               (x ≤ 9223372036854775807 ∧
               (↑1 : Int) * x ≤ 281474976710656))) ∧
              (∀ k169 : Nat, (∀ W174 : World, (k169 = Array.size (World.heap W170) →
              (W174 = World.alloc W170 (Obj.cells (madeCells #[Value.bool false] (Int.toNat x * 1)) 4) →
              (RowKit.Below (Array.size (World.heap W5)) W5 W174 ∧
              (((0 : Int) ≤ x ∧
               (x ≤ x ∧
               (x ≤ 9223372036854775807 ∧
               (↑4 : Int) * x ≤ 281474976710656))) ∧
              (∀ k170 : Nat, (∀ W175 : World, (k170 = Array.size (World.heap W174) →
              (W175 = World.alloc W174 (Obj.cells (madeCells #[Value.int IntKind.u32 0] (Int.toNat x * 1)) 39) →
              (RowKit.Below (Array.size (World.heap W5)) W5 W175 ∧
              (∀ vs46 : Array Value, (vs46 = #[Value.pointer p, Value.slice arg2 (Int.toNat x) arg2c, Value.int IntKind.i64 0, Value.int IntKind.i64 0, Value.slice (some (Addr.mk k170 0 none)) (Int.toNat x) (Int.toNat x), Value.slice (some (Addr.mk k90 0 none)) (Int.toNat x) (Int.toNat x), Value.slice (some (Addr.mk k165 0 none)) (Int.toNat x) (Int.toNat x), Value.slice (some (Addr.mk k169 0 none)) (Int.toNat x) (Int.toNat x), Value.slice (some (Addr.mk k157 0 none)) 16 16] →
              (∀ k171 : Nat, (∀ W176 : World, (k171 = Array.size (World.heap W175) →
              (W176 = World.alloc W175 (Obj.cells (Value.cells (Value.agg vs46)) 35) →
              (RowKit.Below (Array.size (World.heap W5)) W5 W176 ∧
              I2 (some (Addr.mk k171 0 none)) W176)))))))))))))))))))))))))) ∧
             (((0 : Int) ≤ x ∧
              (x ≤ x ∧
              (x ≤ 9223372036854775807 ∧
              (↑1 : Int) * x ≤ 281474976710656))) ∧
             (∀ k172 : Nat, (∀ W177 : World, (k172 = Array.size (World.heap W162) →
             (W177 = World.alloc W162 (Obj.cells (madeCells #[Value.bool false] (Int.toNat x * 1)) 4) →
             (RowKit.Below (Array.size (World.heap W5)) W5 W177 ∧
             ((((0 : Int) ≤ x ∧
               (x ≤ x ∧
               (x ≤ 9223372036854775807 ∧
               (↑4 : Int) * x ≤ 281474976710656))) ∧
              (∀ k173 : Nat, (∀ W178 : World, (k173 = Array.size (World.heap W177) →
              (W178 = World.alloc W177 (Obj.cells (madeCells #[Value.int IntKind.u32 0] (Int.toNat x * 1)) 39) →
              (RowKit.Below (Array.size (World.heap W5)) W5 W178 ∧
              (((0 : Int) ≤ x ∧
               (x ≤ x ∧
               (x ≤ 9223372036854775807 ∧
               (↑1 : Int) * x ≤ 281474976710656))) ∧
              (∀ k174 : Nat, (∀ W179 : World, (k174 = Array.size (World.heap W178) →
              (W179 = World.alloc W178 (Obj.cells (madeCells #[Value.bool false] (Int.toNat x * 1)) 4) →
              (RowKit.Below (Array.size (World.heap W5)) W5 W179 ∧
              (∀ vs47 : Array Value, (vs47 = #[Value.pointer p, Value.slice arg2 (Int.toNat x) arg2c, Value.int IntKind.i64 0, Value.int IntKind.i64 0, Value.slice (some (Addr.mk k173 0 none)) (Int.toNat x) (Int.toNat x), Value.slice (some (Addr.mk k90 0 none)) (Int.toNat x) (Int.toNat x), Value.slice (some (Addr.mk k174 0 none)) (Int.toNat x) (Int.toNat x), Value.slice (some (Addr.mk k172 0 none)) (Int.toNat x) (Int.toNat x), Value.slice (some (Addr.mk k157 0 none)) 16 16] →
              (∀ k175 : Nat, (∀ W180 : World, (k175 = Array.size (World.heap W179) →
              (W180 = World.alloc W179 (Obj.cells (Value.cells (Value.agg vs47)) 35) →
              (RowKit.Below (Array.size (World.heap W5)) W5 W180 ∧
              I2 (some (Addr.mk k175 0 none)) W180))))))))))))))))))) ∧
             (((0 : Int) ≤ x ∧
              (x ≤ x ∧
              (x ≤ 9223372036854775807 ∧
              (↑1 : Int) * x ≤ 281474976710656))) ∧
             (∀ k176 : Nat, (∀ W181 : World, (k176 = Array.size (World.heap W177) →
             (W181 = World.alloc W177 (Obj.cells (madeCells #[Value.bool false] (Int.toNat x * 1)) 4) →
             (RowKit.Below (Array.size (World.heap W5)) W5 W181 ∧
             (((0 : Int) ≤ x ∧
              (x ≤ x ∧
              (x ≤ 9223372036854775807 ∧
              (↑4 : Int) * x ≤ 281474976710656))) ∧
             (∀ k177 : Nat, (∀ W182 : World, (k177 = Array.size (World.heap W181) →
             (W182 = World.alloc W181 (Obj.cells (madeCells #[Value.int IntKind.u32 0] (Int.toNat x * 1)) 39) →
             (RowKit.Below (Array.size (World.heap W5)) W5 W182 ∧
             (∀ vs48 : Array Value, (vs48 = #[Value.pointer p, Value.slice arg2 (Int.toNat x) arg2c, Value.int IntKind.i64 0, Value.int IntKind.i64 0, Value.slice (some (Addr.mk k177 0 none)) (Int.toNat x) (Int.toNat x), Value.slice (some (Addr.mk k90 0 none)) (Int.toNat x) (Int.toNat x), Value.slice (some (Addr.mk k176 0 none)) (Int.toNat x) (Int.toNat x), Value.slice (some (Addr.mk k172 0 none)) (Int.toNat x) (Int.toNat x), Value.slice (some (Addr.mk k157 0 none)) 16 16] →
             (∀ k178 : Nat, (∀ W183 : World, (k178 = Array.size (World.heap W182) →
             (W183 = World.alloc W182 (Obj.cells (Value.cells (Value.agg vs48)) 35) →
             (RowKit.Below (Array.size (World.heap W5)) W5 W183 ∧
             I2 (some (Addr.mk k178 0 none)) W183))))))))))))))))))))))))))))))))))))))))))) ∧
            ((((0 : Int) ≤ x ∧
              (x ≤ x ∧
              (x ≤ 9223372036854775807 ∧
              (↑1 : Int) * x ≤ 281474976710656))) ∧
             (∀ k179 : Nat, (∀ W184 : World, (k179 = Array.size (World.heap W5) →
             (W184 = World.alloc W5 (Obj.cells (madeCells #[Value.bool false] (Int.toNat x * 1)) 4) →
             (RowKit.Below (Array.size (World.heap W5)) W5 W184 ∧
             ((((0 : Int) ≤ x ∧
               (x ≤ x ∧
               (x ≤ 9223372036854775807 ∧
               (↑4 : Int) * x ≤ 281474976710656))) ∧
              (∀ k180 : Nat, (∀ W185 : World, (k180 = Array.size (World.heap W184) →
              (W185 = World.alloc W184 (Obj.cells (madeCells #[Value.int IntKind.u32 0] (Int.toNat x * 1)) 39) →
              (RowKit.Below (Array.size (World.heap W5)) W5 W185 ∧
              ((((0 : Int) ≤ x ∧
                (x ≤ x ∧
                (x ≤ 9223372036854775807 ∧
                (↑1 : Int) * x ≤ 281474976710656))) ∧
               (∀ k181 : Nat, (∀ W186 : World, (k181 = Array.size (World.heap W185) →
               (W186 = World.alloc W185 (Obj.cells (madeCells #[Value.bool false] (Int.toNat x * 1)) 4) →
               (RowKit.Below (Array.size (World.heap W5)) W5 W186 ∧
               ((((0 : Int) ≤ x ∧
                 (x ≤ x ∧
                 (x ≤ 9223372036854775807 ∧
                 (↑1 : Int) * x ≤ 281474976710656))) ∧
                (∀ k182 : Nat, (∀ W187 : World, (k182 = Array.size (World.heap W186) →
                (W187 = World.alloc W186 (Obj.cells (madeCells #[Value.bool false] (Int.toNat x * 1)) 4) →
                (RowKit.Below (Array.size (World.heap W5)) W5 W187 ∧
                (((0 : Int) ≤ (16 : Int) ∧
                 ((16 : Int) ≤ (16 : Int) ∧
                 ((16 : Int) ≤ (9223372036854775807 : Int) ∧
                 (↑1 : Int) * 16 ≤ 281474976710656))) ∧
                (∀ k183 : Nat, (∀ W188 : World, (k183 = Array.size (World.heap W187) →
                (W188 = World.alloc W187 (Obj.cells (madeCells #[Value.int IntKind.u8 0] 16) 5) →
                (RowKit.Below (Array.size (World.heap W5)) W5 W188 ∧
                (∀ vs49 : Array Value, (vs49 = #[Value.pointer p, Value.slice arg2 (Int.toNat x) arg2c, Value.int IntKind.i64 0, Value.int IntKind.i64 0, Value.slice (some (Addr.mk k180 0 none)) (Int.toNat x) (Int.toNat x), Value.slice (some (Addr.mk k181 0 none)) (Int.toNat x) (Int.toNat x), Value.slice (some (Addr.mk k179 0 none)) (Int.toNat x) (Int.toNat x), Value.slice (some (Addr.mk k182 0 none)) (Int.toNat x) (Int.toNat x), Value.slice (some (Addr.mk k183 0 none)) 16 16] →
                (∀ k184 : Nat, (∀ W189 : World, (k184 = Array.size (World.heap W188) →
                (W189 = World.alloc W188 (Obj.cells (Value.cells (Value.agg vs49)) 35) →
                (RowKit.Below (Array.size (World.heap W5)) W5 W189 ∧
                I2 (some (Addr.mk k184 0 none)) W189))))))))))))))))))) ∧
               (((0 : Int) ≤ (16 : Int) ∧
                ((16 : Int) ≤ (16 : Int) ∧
                ((16 : Int) ≤ (9223372036854775807 : Int) ∧
                (↑1 : Int) * 16 ≤ 281474976710656))) ∧
               (∀ k185 : Nat, (∀ W190 : World, (k185 = Array.size (World.heap W186) →
               (W190 = World.alloc W186 (Obj.cells (madeCells #[Value.int IntKind.u8 0] 16) 5) →
               (RowKit.Below (Array.size (World.heap W5)) W5 W190 ∧
               (((0 : Int) ≤ x ∧
                (x ≤ x ∧
                (x ≤ 9223372036854775807 ∧
                (↑1 : Int) * x ≤ 281474976710656))) ∧
               (∀ k186 : Nat, (∀ W191 : World, (k186 = Array.size (World.heap W190) →
               (W191 = World.alloc W190 (Obj.cells (madeCells #[Value.bool false] (Int.toNat x * 1)) 4) →
               (RowKit.Below (Array.size (World.heap W5)) W5 W191 ∧
               (∀ vs50 : Array Value, (vs50 = #[Value.pointer p, Value.slice arg2 (Int.toNat x) arg2c, Value.int IntKind.i64 0, Value.int IntKind.i64 0, Value.slice (some (Addr.mk k180 0 none)) (Int.toNat x) (Int.toNat x), Value.slice (some (Addr.mk k181 0 none)) (Int.toNat x) (Int.toNat x), Value.slice (some (Addr.mk k179 0 none)) (Int.toNat x) (Int.toNat x), Value.slice (some (Addr.mk k186 0 none)) (Int.toNat x) (Int.toNat x), Value.slice (some (Addr.mk k185 0 none)) 16 16] →
               (∀ k187 : Nat, (∀ W192 : World, (k187 = Array.size (World.heap W191) →
               (W192 = World.alloc W191 (Obj.cells (Value.cells (Value.agg vs50)) 35) →
               (RowKit.Below (Array.size (World.heap W5)) W5 W192 ∧
               I2 (some (Addr.mk k187 0 none)) W192)))))))))))))))))))))))))) ∧
              ((((0 : Int) ≤ x ∧
                (x ≤ x ∧
                (x ≤ 9223372036854775807 ∧
                (↑1 : Int) * x ≤ 281474976710656))) ∧
               (∀ k188 : Nat, (∀ W193 : World, (k188 = Array.size (World.heap W185) →
               (W193 = World.alloc W185 (Obj.cells (madeCells #[Value.bool false] (Int.toNat x * 1)) 4) →
               (RowKit.Below (Array.size (World.heap W5)) W5 W193 ∧
               ((((0 : Int) ≤ x ∧
                 (x ≤ x ∧
                 (x ≤ 9223372036854775807 ∧
                 (↑1 : Int) * x ≤ 281474976710656))) ∧
                (∀ k189 : Nat, (∀ W194 : World, (k189 = Array.size (World.heap W193) →
                (W194 = World.alloc W193 (Obj.cells (madeCells #[Value.bool false] (Int.toNat x * 1)) 4) →
                (RowKit.Below (Array.size (World.heap W5)) W5 W194 ∧
                (((0 : Int) ≤ (16 : Int) ∧
                 ((16 : Int) ≤ (16 : Int) ∧
                 ((16 : Int) ≤ (9223372036854775807 : Int) ∧
                 (↑1 : Int) * 16 ≤ 281474976710656))) ∧
                (∀ k190 : Nat, (∀ W195 : World, (k190 = Array.size (World.heap W194) →
                (W195 = World.alloc W194 (Obj.cells (madeCells #[Value.int IntKind.u8 0] 16) 5) →
                (RowKit.Below (Array.size (World.heap W5)) W5 W195 ∧
                (∀ vs51 : Array Value, (vs51 = #[Value.pointer p, Value.slice arg2 (Int.toNat x) arg2c, Value.int IntKind.i64 0, Value.int IntKind.i64 0, Value.slice (some (Addr.mk k180 0 none)) (Int.toNat x) (Int.toNat x), Value.slice (some (Addr.mk k189 0 none)) (Int.toNat x) (Int.toNat x), Value.slice (some (Addr.mk k179 0 none)) (Int.toNat x) (Int.toNat x), Value.slice (some (Addr.mk k188 0 none)) (Int.toNat x) (Int.toNat x), Value.slice (some (Addr.mk k190 0 none)) 16 16] →
                (∀ k191 : Nat, (∀ W196 : World, (k191 = Array.size (World.heap W195) →
                (W196 = World.alloc W195 (Obj.cells (Value.cells (Value.agg vs51)) 35) →
                (RowKit.Below (Array.size (World.heap W5)) W5 W196 ∧
                I2 (some (Addr.mk k191 0 none)) W196))))))))))))))))))) ∧
               (((0 : Int) ≤ (16 : Int) ∧
                ((16 : Int) ≤ (16 : Int) ∧
                ((16 : Int) ≤ (9223372036854775807 : Int) ∧
                (↑1 : Int) * 16 ≤ 281474976710656))) ∧
               (∀ k192 : Nat, (∀ W197 : World, (k192 = Array.size (World.heap W193) →
               (W197 = World.alloc W193 (Obj.cells (madeCells #[Value.int IntKind.u8 0] 16) 5) →
               (RowKit.Below (Array.size (World.heap W5)) W5 W197 ∧
               (((0 : Int) ≤ x ∧
                (x ≤ x ∧
                (x ≤ 9223372036854775807 ∧
                (↑1 : Int) * x ≤ 281474976710656))) ∧
               (∀ k193 : Nat, (∀ W198 : World, (k193 = Array.size (World.heap W197) →
               (W198 = World.alloc W197 (Obj.cells (madeCells #[Value.bool false] (Int.toNat x * 1)) 4) →
               (RowKit.Below (Array.size (World.heap W5)) W5 W198 ∧
               (∀ vs52 : Array Value, (vs52 = #[Value.pointer p, Value.slice arg2 (Int.toNat x) arg2c, Value.int IntKind.i64 0, Value.int IntKind.i64 0, Value.slice (some (Addr.mk k180 0 none)) (Int.toNat x) (Int.toNat x), Value.slice (some (Addr.mk k193 0 none)) (Int.toNat x) (Int.toNat x), Value.slice (some (Addr.mk k179 0 none)) (Int.toNat x) (Int.toNat x), Value.slice (some (Addr.mk k188 0 none)) (Int.toNat x) (Int.toNat x), Value.slice (some (Addr.mk k192 0 none)) 16 16] →
               (∀ k194 : Nat, (∀ W199 : World, (k194 = Array.size (World.heap W198) →
               (W199 = World.alloc W198 (Obj.cells (Value.cells (Value.agg vs52)) 35) →
               (RowKit.Below (Array.size (World.heap W5)) W5 W199 ∧
               I2 (some (Addr.mk k194 0 none)) W199)))))))))))))))))))))))))) ∧
              (((0 : Int) ≤ (16 : Int) ∧
               ((16 : Int) ≤ (16 : Int) ∧
               ((16 : Int) ≤ (9223372036854775807 : Int) ∧
               (↑1 : Int) * 16 ≤ 281474976710656))) ∧
              (∀ k195 : Nat, (∀ W200 : World, (k195 = Array.size (World.heap W185) →
              (W200 = World.alloc W185 (Obj.cells (madeCells #[Value.int IntKind.u8 0] 16) 5) →
              (RowKit.Below (Array.size (World.heap W5)) W5 W200 ∧
              ((((0 : Int) ≤ x ∧
                (x ≤ x ∧
                (x ≤ 9223372036854775807 ∧
                (↑1 : Int) * x ≤ 281474976710656))) ∧
               (∀ k196 : Nat, (∀ W201 : World, (k196 = Array.size (World.heap W200) →
               (W201 = World.alloc W200 (Obj.cells (madeCells #[Value.bool false] (Int.toNat x * 1)) 4) →
               (RowKit.Below (Array.size (World.heap W5)) W5 W201 ∧
               (((0 : Int) ≤ x ∧
                (x ≤ x ∧
                (x ≤ 9223372036854775807 ∧
                (↑1 : Int) * x ≤ 281474976710656))) ∧
               (∀ k197 : Nat, (∀ W202 : World, (k197 = Array.size (World.heap W201) →
               (W202 = World.alloc W201 (Obj.cells (madeCells #[Value.bool false] (Int.toNat x * 1)) 4) →
               (RowKit.Below (Array.size (World.heap W5)) W5 W202 ∧
               (∀ vs53 : Array Value, (vs53 = #[Value.pointer p, Value.slice arg2 (Int.toNat x) arg2c, Value.int IntKind.i64 0, Value.int IntKind.i64 0, Value.slice (some (Addr.mk k180 0 none)) (Int.toNat x) (Int.toNat x), Value.slice (some (Addr.mk k196 0 none)) (Int.toNat x) (Int.toNat x), Value.slice (some (Addr.mk k179 0 none)) (Int.toNat x) (Int.toNat x), Value.slice (some (Addr.mk k197 0 none)) (Int.toNat x) (Int.toNat x), Value.slice (some (Addr.mk k195 0 none)) 16 16] →
               (∀ k198 : Nat, (∀ W203 : World, (k198 = Array.size (World.heap W202) →
               (W203 = World.alloc W202 (Obj.cells (Value.cells (Value.agg vs53)) 35) →
               (RowKit.Below (Array.size (World.heap W5)) W5 W203 ∧
               I2 (some (Addr.mk k198 0 none)) W203))))))))))))))))))) ∧
              (((0 : Int) ≤ x ∧
               (x ≤ x ∧
               (x ≤ 9223372036854775807 ∧
               (↑1 : Int) * x ≤ 281474976710656))) ∧
              (∀ k199 : Nat, (∀ W204 : World, (k199 = Array.size (World.heap W200) →
              (W204 = World.alloc W200 (Obj.cells (madeCells #[Value.bool false] (Int.toNat x * 1)) 4) →
              (RowKit.Below (Array.size (World.heap W5)) W5 W204 ∧
              (((0 : Int) ≤ x ∧
               (x ≤ x ∧
               (x ≤ 9223372036854775807 ∧
               (↑1 : Int) * x ≤ 281474976710656))) ∧
              (∀ k200 : Nat, (∀ W205 : World, (k200 = Array.size (World.heap W204) →
              (W205 = World.alloc W204 (Obj.cells (madeCells #[Value.bool false] (Int.toNat x * 1)) 4) →
              (RowKit.Below (Array.size (World.heap W5)) W5 W205 ∧
              (∀ vs54 : Array Value, (vs54 = #[Value.pointer p, Value.slice arg2 (Int.toNat x) arg2c, Value.int IntKind.i64 0, Value.int IntKind.i64 0, Value.slice (some (Addr.mk k180 0 none)) (Int.toNat x) (Int.toNat x), Value.slice (some (Addr.mk k200 0 none)) (Int.toNat x) (Int.toNat x), Value.slice (some (Addr.mk k179 0 none)) (Int.toNat x) (Int.toNat x), Value.slice (some (Addr.mk k199 0 none)) (Int.toNat x) (Int.toNat x), Value.slice (some (Addr.mk k195 0 none)) 16 16] →
              (∀ k201 : Nat, (∀ W206 : World, (k201 = Array.size (World.heap W205) →
              (W206 = World.alloc W205 (Obj.cells (Value.cells (Value.agg vs54)) 35) →
              (RowKit.Below (Array.size (World.heap W5)) W5 W206 ∧
              I2 (some (Addr.mk k201 0 none)) W206)))))))))))))))))))))))))))))))))) ∧
             ((((0 : Int) ≤ x ∧
               (x ≤ x ∧
               (x ≤ 9223372036854775807 ∧
               (↑1 : Int) * x ≤ 281474976710656))) ∧
              (∀ k202 : Nat, (∀ W207 : World, (k202 = Array.size (World.heap W184) →
              (W207 = World.alloc W184 (Obj.cells (madeCells #[Value.bool false] (Int.toNat x * 1)) 4) →
              (RowKit.Below (Array.size (World.heap W5)) W5 W207 ∧
              ((((0 : Int) ≤ x ∧
                (x ≤ x ∧
                (x ≤ 9223372036854775807 ∧
                (↑4 : Int) * x ≤ 281474976710656))) ∧
               (∀ k203 : Nat, (∀ W208 : World, (k203 = Array.size (World.heap W207) →
               (W208 = World.alloc W207 (Obj.cells (madeCells #[Value.int IntKind.u32 0] (Int.toNat x * 1)) 39) →
               (RowKit.Below (Array.size (World.heap W5)) W5 W208 ∧
               ((((0 : Int) ≤ x ∧
                 (x ≤ x ∧
                 (x ≤ 9223372036854775807 ∧
                 (↑1 : Int) * x ≤ 281474976710656))) ∧
                (∀ k204 : Nat, (∀ W209 : World, (k204 = Array.size (World.heap W208) →
                (W209 = World.alloc W208 (Obj.cells (madeCells #[Value.bool false] (Int.toNat x * 1)) 4) →
                (RowKit.Below (Array.size (World.heap W5)) W5 W209 ∧
                (((0 : Int) ≤ (16 : Int) ∧
                 ((16 : Int) ≤ (16 : Int) ∧
                 ((16 : Int) ≤ (9223372036854775807 : Int) ∧
                 (↑1 : Int) * 16 ≤ 281474976710656))) ∧
                (∀ k205 : Nat, (∀ W210 : World, (k205 = Array.size (World.heap W209) →
                (W210 = World.alloc W209 (Obj.cells (madeCells #[Value.int IntKind.u8 0] 16) 5) →
                (RowKit.Below (Array.size (World.heap W5)) W5 W210 ∧
                (∀ vs55 : Array Value, (vs55 = #[Value.pointer p, Value.slice arg2 (Int.toNat x) arg2c, Value.int IntKind.i64 0, Value.int IntKind.i64 0, Value.slice (some (Addr.mk k203 0 none)) (Int.toNat x) (Int.toNat x), Value.slice (some (Addr.mk k202 0 none)) (Int.toNat x) (Int.toNat x), Value.slice (some (Addr.mk k179 0 none)) (Int.toNat x) (Int.toNat x), Value.slice (some (Addr.mk k204 0 none)) (Int.toNat x) (Int.toNat x), Value.slice (some (Addr.mk k205 0 none)) 16 16] →
                (∀ k206 : Nat, (∀ W211 : World, (k206 = Array.size (World.heap W210) →
                (W211 = World.alloc W210 (Obj.cells (Value.cells (Value.agg vs55)) 35) →
                (RowKit.Below (Array.size (World.heap W5)) W5 W211 ∧
                I2 (some (Addr.mk k206 0 none)) W211))))))))))))))))))) ∧
               (((0 : Int) ≤ (16 : Int) ∧
                ((16 : Int) ≤ (16 : Int) ∧
                ((16 : Int) ≤ (9223372036854775807 : Int) ∧
                (↑1 : Int) * 16 ≤ 281474976710656))) ∧
               (∀ k207 : Nat, (∀ W212 : World, (k207 = Array.size (World.heap W208) →
               (W212 = World.alloc W208 (Obj.cells (madeCells #[Value.int IntKind.u8 0] 16) 5) →
               (RowKit.Below (Array.size (World.heap W5)) W5 W212 ∧
               (((0 : Int) ≤ x ∧
                (x ≤ x ∧
                (x ≤ 9223372036854775807 ∧
                (↑1 : Int) * x ≤ 281474976710656))) ∧
               (∀ k208 : Nat, (∀ W213 : World, (k208 = Array.size (World.heap W212) →
               (W213 = World.alloc W212 (Obj.cells (madeCells #[Value.bool false] (Int.toNat x * 1)) 4) →
               (RowKit.Below (Array.size (World.heap W5)) W5 W213 ∧
               (∀ vs56 : Array Value, (vs56 = #[Value.pointer p, Value.slice arg2 (Int.toNat x) arg2c, Value.int IntKind.i64 0, Value.int IntKind.i64 0, Value.slice (some (Addr.mk k203 0 none)) (Int.toNat x) (Int.toNat x), Value.slice (some (Addr.mk k202 0 none)) (Int.toNat x) (Int.toNat x), Value.slice (some (Addr.mk k179 0 none)) (Int.toNat x) (Int.toNat x), Value.slice (some (Addr.mk k208 0 none)) (Int.toNat x) (Int.toNat x), Value.slice (some (Addr.mk k207 0 none)) 16 16] →
               (∀ k209 : Nat, (∀ W214 : World, (k209 = Array.size (World.heap W213) →
               (W214 = World.alloc W213 (Obj.cells (Value.cells (Value.agg vs56)) 35) →
               (RowKit.Below (Array.size (World.heap W5)) W5 W214 ∧
               I2 (some (Addr.mk k209 0 none)) W214)))))))))))))))))))))))))) ∧
              ((((0 : Int) ≤ x ∧
                (x ≤ x ∧
                (x ≤ 9223372036854775807 ∧
                (↑1 : Int) * x ≤ 281474976710656))) ∧
               (∀ k210 : Nat, (∀ W215 : World, (k210 = Array.size (World.heap W207) →
               (W215 = World.alloc W207 (Obj.cells (madeCells #[Value.bool false] (Int.toNat x * 1)) 4) →
               (RowKit.Below (Array.size (World.heap W5)) W5 W215 ∧
               ((((0 : Int) ≤ x ∧
                 (x ≤ x ∧
                 (x ≤ 9223372036854775807 ∧
                 (↑4 : Int) * x ≤ 281474976710656))) ∧
                (∀ k211 : Nat, (∀ W216 : World, (k211 = Array.size (World.heap W215) →
                (W216 = World.alloc W215 (Obj.cells (madeCells #[Value.int IntKind.u32 0] (Int.toNat x * 1)) 39) →
                (RowKit.Below (Array.size (World.heap W5)) W5 W216 ∧
                (((0 : Int) ≤ (16 : Int) ∧
                 ((16 : Int) ≤ (16 : Int) ∧
                 ((16 : Int) ≤ (9223372036854775807 : Int) ∧
                 (↑1 : Int) * 16 ≤ 281474976710656))) ∧
                (∀ k212 : Nat, (∀ W217 : World, (k212 = Array.size (World.heap W216) →
                (W217 = World.alloc W216 (Obj.cells (madeCells #[Value.int IntKind.u8 0] 16) 5) →
                (RowKit.Below (Array.size (World.heap W5)) W5 W217 ∧
                (∀ vs57 : Array Value, (vs57 = #[Value.pointer p, Value.slice arg2 (Int.toNat x) arg2c, Value.int IntKind.i64 0, Value.int IntKind.i64 0, Value.slice (some (Addr.mk k211 0 none)) (Int.toNat x) (Int.toNat x), Value.slice (some (Addr.mk k202 0 none)) (Int.toNat x) (Int.toNat x), Value.slice (some (Addr.mk k179 0 none)) (Int.toNat x) (Int.toNat x), Value.slice (some (Addr.mk k210 0 none)) (Int.toNat x) (Int.toNat x), Value.slice (some (Addr.mk k212 0 none)) 16 16] →
                (∀ k213 : Nat, (∀ W218 : World, (k213 = Array.size (World.heap W217) →
                (W218 = World.alloc W217 (Obj.cells (Value.cells (Value.agg vs57)) 35) →
                (RowKit.Below (Array.size (World.heap W5)) W5 W218 ∧
                I2 (some (Addr.mk k213 0 none)) W218))))))))))))))))))) ∧
               (((0 : Int) ≤ (16 : Int) ∧
                ((16 : Int) ≤ (16 : Int) ∧
                ((16 : Int) ≤ (9223372036854775807 : Int) ∧
                (↑1 : Int) * 16 ≤ 281474976710656))) ∧
               (∀ k214 : Nat, (∀ W219 : World, (k214 = Array.size (World.heap W215) →
               (W219 = World.alloc W215 (Obj.cells (madeCells #[Value.int IntKind.u8 0] 16) 5) →
               (RowKit.Below (Array.size (World.heap W5)) W5 W219 ∧
               (((0 : Int) ≤ x ∧
                (x ≤ x ∧
                (x ≤ 9223372036854775807 ∧
                (↑4 : Int) * x ≤ 281474976710656))) ∧
               (∀ k215 : Nat, (∀ W220 : World, (k215 = Array.size (World.heap W219) →
               (W220 = World.alloc W219 (Obj.cells (madeCells #[Value.int IntKind.u32 0] (Int.toNat x * 1)) 39) →
               (RowKit.Below (Array.size (World.heap W5)) W5 W220 ∧
               (∀ vs58 : Array Value, (vs58 = #[Value.pointer p, Value.slice arg2 (Int.toNat x) arg2c, Value.int IntKind.i64 0, Value.int IntKind.i64 0, Value.slice (some (Addr.mk k215 0 none)) (Int.toNat x) (Int.toNat x), Value.slice (some (Addr.mk k202 0 none)) (Int.toNat x) (Int.toNat x), Value.slice (some (Addr.mk k179 0 none)) (Int.toNat x) (Int.toNat x), Value.slice (some (Addr.mk k210 0 none)) (Int.toNat x) (Int.toNat x), Value.slice (some (Addr.mk k214 0 none)) 16 16] →
               (∀ k216 : Nat, (∀ W221 : World, (k216 = Array.size (World.heap W220) →
               (W221 = World.alloc W220 (Obj.cells (Value.cells (Value.agg vs58)) 35) →
               (RowKit.Below (Array.size (World.heap W5)) W5 W221 ∧
               I2 (some (Addr.mk k216 0 none)) W221)))))))))))))))))))))))))) ∧
              (((0 : Int) ≤ (16 : Int) ∧
               ((16 : Int) ≤ (16 : Int) ∧
               ((16 : Int) ≤ (9223372036854775807 : Int) ∧
               (↑1 : Int) * 16 ≤ 281474976710656))) ∧
              (∀ k217 : Nat, (∀ W222 : World, (k217 = Array.size (World.heap W207) →
              (W222 = World.alloc W207 (Obj.cells (madeCells #[Value.int IntKind.u8 0] 16) 5) →
              (RowKit.Below (Array.size (World.heap W5)) W5 W222 ∧
              ((((0 : Int) ≤ x ∧
                (x ≤ x ∧
                (x ≤ 9223372036854775807 ∧
                (↑4 : Int) * x ≤ 281474976710656))) ∧
               (∀ k218 : Nat, (∀ W223 : World, (k218 = Array.size (World.heap W222) →
               (W223 = World.alloc W222 (Obj.cells (madeCells #[Value.int IntKind.u32 0] (Int.toNat x * 1)) 39) →
               (RowKit.Below (Array.size (World.heap W5)) W5 W223 ∧
               (((0 : Int) ≤ x ∧
                (x ≤ x ∧
                (x ≤ 9223372036854775807 ∧
                (↑1 : Int) * x ≤ 281474976710656))) ∧
               (∀ k219 : Nat, (∀ W224 : World, (k219 = Array.size (World.heap W223) →
               (W224 = World.alloc W223 (Obj.cells (madeCells #[Value.bool false] (Int.toNat x * 1)) 4) →
               (RowKit.Below (Array.size (World.heap W5)) W5 W224 ∧
               (∀ vs59 : Array Value, (vs59 = #[Value.pointer p, Value.slice arg2 (Int.toNat x) arg2c, Value.int IntKind.i64 0, Value.int IntKind.i64 0, Value.slice (some (Addr.mk k218 0 none)) (Int.toNat x) (Int.toNat x), Value.slice (some (Addr.mk k202 0 none)) (Int.toNat x) (Int.toNat x), Value.slice (some (Addr.mk k179 0 none)) (Int.toNat x) (Int.toNat x), Value.slice (some (Addr.mk k219 0 none)) (Int.toNat x) (Int.toNat x), Value.slice (some (Addr.mk k217 0 none)) 16 16] →
               (∀ k220 : Nat, (∀ W225 : World, (k220 = Array.size (World.heap W224) →
               (W225 = World.alloc W224 (Obj.cells (Value.cells (Value.agg vs59)) 35) →
               (RowKit.Below (Array.size (World.heap W5)) W5 W225 ∧
               I2 (some (Addr.mk k220 0 none)) W225))))))))))))))))))) ∧
              (((0 : Int) ≤ x ∧
               (x ≤ x ∧
               (x ≤ 9223372036854775807 ∧
               (↑1 : Int) * x ≤ 281474976710656))) ∧
              (∀ k221 : Nat, (∀ W226 : World, (k221 = Array.size (World.heap W222) →
              (W226 = World.alloc W222 (Obj.cells (madeCells #[Value.bool false] (Int.toNat x * 1)) 4) →
              (RowKit.Below (Array.size (World.heap W5)) W5 W226 ∧
              (((0 : Int) ≤ x ∧
               (x ≤ x ∧
               (x ≤ 9223372036854775807 ∧
               (↑4 : Int) * x ≤ 281474976710656))) ∧
              (∀ k222 : Nat, (∀ W227 : World, (k222 = Array.size (World.heap W226) →
              (W227 = World.alloc W226 (Obj.cells (madeCells #[Value.int IntKind.u32 0] (Int.toNat x * 1)) 39) →
              (RowKit.Below (Array.size (World.heap W5)) W5 W227 ∧
              (∀ vs60 : Array Value, (vs60 = #[Value.pointer p, Value.slice arg2 (Int.toNat x) arg2c, Value.int IntKind.i64 0, Value.int IntKind.i64 0, Value.slice (some (Addr.mk k222 0 none)) (Int.toNat x) (Int.toNat x), Value.slice (some (Addr.mk k202 0 none)) (Int.toNat x) (Int.toNat x), Value.slice (some (Addr.mk k179 0 none)) (Int.toNat x) (Int.toNat x), Value.slice (some (Addr.mk k221 0 none)) (Int.toNat x) (Int.toNat x), Value.slice (some (Addr.mk k217 0 none)) 16 16] →
              (∀ k223 : Nat, (∀ W228 : World, (k223 = Array.size (World.heap W227) →
              (W228 = World.alloc W227 (Obj.cells (Value.cells (Value.agg vs60)) 35) →
              (RowKit.Below (Array.size (World.heap W5)) W5 W228 ∧
              I2 (some (Addr.mk k223 0 none)) W228)))))))))))))))))))))))))))))))))) ∧
             ((((0 : Int) ≤ x ∧
               (x ≤ x ∧
               (x ≤ 9223372036854775807 ∧
               (↑1 : Int) * x ≤ 281474976710656))) ∧
              (∀ k224 : Nat, (∀ W229 : World, (k224 = Array.size (World.heap W184) →
              (W229 = World.alloc W184 (Obj.cells (madeCells #[Value.bool false] (Int.toNat x * 1)) 4) →
              (RowKit.Below (Array.size (World.heap W5)) W5 W229 ∧
              ((((0 : Int) ≤ x ∧
                (x ≤ x ∧
                (x ≤ 9223372036854775807 ∧
                (↑4 : Int) * x ≤ 281474976710656))) ∧
               (∀ k225 : Nat, (∀ W230 : World, (k225 = Array.size (World.heap W229) →
               (W230 = World.alloc W229 (Obj.cells (madeCells #[Value.int IntKind.u32 0] (Int.toNat x * 1)) 39) →
               (RowKit.Below (Array.size (World.heap W5)) W5 W230 ∧
               ((((0 : Int) ≤ x ∧
                 (x ≤ x ∧
                 (x ≤ 9223372036854775807 ∧
                 (↑1 : Int) * x ≤ 281474976710656))) ∧
                (∀ k226 : Nat, (∀ W231 : World, (k226 = Array.size (World.heap W230) →
                (W231 = World.alloc W230 (Obj.cells (madeCells #[Value.bool false] (Int.toNat x * 1)) 4) →
                (RowKit.Below (Array.size (World.heap W5)) W5 W231 ∧
                (((0 : Int) ≤ (16 : Int) ∧
                 ((16 : Int) ≤ (16 : Int) ∧
                 ((16 : Int) ≤ (9223372036854775807 : Int) ∧
                 (↑1 : Int) * 16 ≤ 281474976710656))) ∧
                (∀ k227 : Nat, (∀ W232 : World, (k227 = Array.size (World.heap W231) →
                (W232 = World.alloc W231 (Obj.cells (madeCells #[Value.int IntKind.u8 0] 16) 5) →
                (RowKit.Below (Array.size (World.heap W5)) W5 W232 ∧
                (∀ vs61 : Array Value, (vs61 = #[Value.pointer p, Value.slice arg2 (Int.toNat x) arg2c, Value.int IntKind.i64 0, Value.int IntKind.i64 0, Value.slice (some (Addr.mk k225 0 none)) (Int.toNat x) (Int.toNat x), Value.slice (some (Addr.mk k226 0 none)) (Int.toNat x) (Int.toNat x), Value.slice (some (Addr.mk k179 0 none)) (Int.toNat x) (Int.toNat x), Value.slice (some (Addr.mk k224 0 none)) (Int.toNat x) (Int.toNat x), Value.slice (some (Addr.mk k227 0 none)) 16 16] →
                (∀ k228 : Nat, (∀ W233 : World, (k228 = Array.size (World.heap W232) →
                (W233 = World.alloc W232 (Obj.cells (Value.cells (Value.agg vs61)) 35) →
                (RowKit.Below (Array.size (World.heap W5)) W5 W233 ∧
                I2 (some (Addr.mk k228 0 none)) W233))))))))))))))))))) ∧
               (((0 : Int) ≤ (16 : Int) ∧
                ((16 : Int) ≤ (16 : Int) ∧
                ((16 : Int) ≤ (9223372036854775807 : Int) ∧
                (↑1 : Int) * 16 ≤ 281474976710656))) ∧
               (∀ k229 : Nat, (∀ W234 : World, (k229 = Array.size (World.heap W230) →
               (W234 = World.alloc W230 (Obj.cells (madeCells #[Value.int IntKind.u8 0] 16) 5) →
               (RowKit.Below (Array.size (World.heap W5)) W5 W234 ∧
               (((0 : Int) ≤ x ∧
                (x ≤ x ∧
                (x ≤ 9223372036854775807 ∧
                (↑1 : Int) * x ≤ 281474976710656))) ∧
               (∀ k230 : Nat, (∀ W235 : World, (k230 = Array.size (World.heap W234) →
               (W235 = World.alloc W234 (Obj.cells (madeCells #[Value.bool false] (Int.toNat x * 1)) 4) →
               (RowKit.Below (Array.size (World.heap W5)) W5 W235 ∧
               (∀ vs62 : Array Value, (vs62 = #[Value.pointer p, Value.slice arg2 (Int.toNat x) arg2c, Value.int IntKind.i64 0, Value.int IntKind.i64 0, Value.slice (some (Addr.mk k225 0 none)) (Int.toNat x) (Int.toNat x), Value.slice (some (Addr.mk k230 0 none)) (Int.toNat x) (Int.toNat x), Value.slice (some (Addr.mk k179 0 none)) (Int.toNat x) (Int.toNat x), Value.slice (some (Addr.mk k224 0 none)) (Int.toNat x) (Int.toNat x), Value.slice (some (Addr.mk k229 0 none)) 16 16] →
               (∀ k231 : Nat, (∀ W236 : World, (k231 = Array.size (World.heap W235) →
               (W236 = World.alloc W235 (Obj.cells (Value.cells (Value.agg vs62)) 35) →
               (RowKit.Below (Array.size (World.heap W5)) W5 W236 ∧
               I2 (some (Addr.mk k231 0 none)) W236)))))))))))))))))))))))))) ∧
              ((((0 : Int) ≤ x ∧
                (x ≤ x ∧
                (x ≤ 9223372036854775807 ∧
                (↑1 : Int) * x ≤ 281474976710656))) ∧
               (∀ k232 : Nat, (∀ W237 : World, (k232 = Array.size (World.heap W229) →
               (W237 = World.alloc W229 (Obj.cells (madeCells #[Value.bool false] (Int.toNat x * 1)) 4) →
               (RowKit.Below (Array.size (World.heap W5)) W5 W237 ∧
               ((((0 : Int) ≤ x ∧
                 (x ≤ x ∧
                 (x ≤ 9223372036854775807 ∧
                 (↑4 : Int) * x ≤ 281474976710656))) ∧
                (∀ k233 : Nat, (∀ W238 : World, (k233 = Array.size (World.heap W237) →
                (W238 = World.alloc W237 (Obj.cells (madeCells #[Value.int IntKind.u32 0] (Int.toNat x * 1)) 39) →
                (RowKit.Below (Array.size (World.heap W5)) W5 W238 ∧
                (((0 : Int) ≤ (16 : Int) ∧
                 ((16 : Int) ≤ (16 : Int) ∧
                 ((16 : Int) ≤ (9223372036854775807 : Int) ∧
                 (↑1 : Int) * 16 ≤ 281474976710656))) ∧
                (∀ k234 : Nat, (∀ W239 : World, (k234 = Array.size (World.heap W238) →
                (W239 = World.alloc W238 (Obj.cells (madeCells #[Value.int IntKind.u8 0] 16) 5) →
                (RowKit.Below (Array.size (World.heap W5)) W5 W239 ∧
                (∀ vs63 : Array Value, (vs63 = #[Value.pointer p, Value.slice arg2 (Int.toNat x) arg2c, Value.int IntKind.i64 0, Value.int IntKind.i64 0, Value.slice (some (Addr.mk k233 0 none)) (Int.toNat x) (Int.toNat x), Value.slice (some (Addr.mk k232 0 none)) (Int.toNat x) (Int.toNat x), Value.slice (some (Addr.mk k179 0 none)) (Int.toNat x) (Int.toNat x), Value.slice (some (Addr.mk k224 0 none)) (Int.toNat x) (Int.toNat x), Value.slice (some (Addr.mk k234 0 none)) 16 16] →
                (∀ k235 : Nat, (∀ W240 : World, (k235 = Array.size (World.heap W239) →
                (W240 = World.alloc W239 (Obj.cells (Value.cells (Value.agg vs63)) 35) →
                (RowKit.Below (Array.size (World.heap W5)) W5 W240 ∧
                I2 (some (Addr.mk k235 0 none)) W240))))))))))))))))))) ∧
               (((0 : Int) ≤ (16 : Int) ∧
                ((16 : Int) ≤ (16 : Int) ∧
                ((16 : Int) ≤ (9223372036854775807 : Int) ∧
                (↑1 : Int) * 16 ≤ 281474976710656))) ∧
               (∀ k236 : Nat, (∀ W241 : World, (k236 = Array.size (World.heap W237) →
               (W241 = World.alloc W237 (Obj.cells (madeCells #[Value.int IntKind.u8 0] 16) 5) →
               (RowKit.Below (Array.size (World.heap W5)) W5 W241 ∧
               (((0 : Int) ≤ x ∧
                (x ≤ x ∧
                (x ≤ 9223372036854775807 ∧
                (↑4 : Int) * x ≤ 281474976710656))) ∧
               (∀ k237 : Nat, (∀ W242 : World, (k237 = Array.size (World.heap W241) →
               (W242 = World.alloc W241 (Obj.cells (madeCells #[Value.int IntKind.u32 0] (Int.toNat x * 1)) 39) →
               (RowKit.Below (Array.size (World.heap W5)) W5 W242 ∧
               (∀ vs64 : Array Value, (vs64 = #[Value.pointer p, Value.slice arg2 (Int.toNat x) arg2c, Value.int IntKind.i64 0, Value.int IntKind.i64 0, Value.slice (some (Addr.mk k237 0 none)) (Int.toNat x) (Int.toNat x), Value.slice (some (Addr.mk k232 0 none)) (Int.toNat x) (Int.toNat x), Value.slice (some (Addr.mk k179 0 none)) (Int.toNat x) (Int.toNat x), Value.slice (some (Addr.mk k224 0 none)) (Int.toNat x) (Int.toNat x), Value.slice (some (Addr.mk k236 0 none)) 16 16] →
               (∀ k238 : Nat, (∀ W243 : World, (k238 = Array.size (World.heap W242) →
               (W243 = World.alloc W242 (Obj.cells (Value.cells (Value.agg vs64)) 35) →
               (RowKit.Below (Array.size (World.heap W5)) W5 W243 ∧
               I2 (some (Addr.mk k238 0 none)) W243)))))))))))))))))))))))))) ∧
              (((0 : Int) ≤ (16 : Int) ∧
               ((16 : Int) ≤ (16 : Int) ∧
               ((16 : Int) ≤ (9223372036854775807 : Int) ∧
               (↑1 : Int) * 16 ≤ 281474976710656))) ∧
              (∀ k239 : Nat, (∀ W244 : World, (k239 = Array.size (World.heap W229) →
              (W244 = World.alloc W229 (Obj.cells (madeCells #[Value.int IntKind.u8 0] 16) 5) →
              (RowKit.Below (Array.size (World.heap W5)) W5 W244 ∧
              ((((0 : Int) ≤ x ∧
                (x ≤ x ∧
                (x ≤ 9223372036854775807 ∧
                (↑4 : Int) * x ≤ 281474976710656))) ∧
               (∀ k240 : Nat, (∀ W245 : World, (k240 = Array.size (World.heap W244) →
               (W245 = World.alloc W244 (Obj.cells (madeCells #[Value.int IntKind.u32 0] (Int.toNat x * 1)) 39) →
               (RowKit.Below (Array.size (World.heap W5)) W5 W245 ∧
               (((0 : Int) ≤ x ∧
                (x ≤ x ∧
                (x ≤ 9223372036854775807 ∧
                (↑1 : Int) * x ≤ 281474976710656))) ∧
               (∀ k241 : Nat, (∀ W246 : World, (k241 = Array.size (World.heap W245) →
               (W246 = World.alloc W245 (Obj.cells (madeCells #[Value.bool false] (Int.toNat x * 1)) 4) →
               (RowKit.Below (Array.size (World.heap W5)) W5 W246 ∧
               (∀ vs65 : Array Value, (vs65 = #[Value.pointer p, Value.slice arg2 (Int.toNat x) arg2c, Value.int IntKind.i64 0, Value.int IntKind.i64 0, Value.slice (some (Addr.mk k240 0 none)) (Int.toNat x) (Int.toNat x), Value.slice (some (Addr.mk k241 0 none)) (Int.toNat x) (Int.toNat x), Value.slice (some (Addr.mk k179 0 none)) (Int.toNat x) (Int.toNat x), Value.slice (some (Addr.mk k224 0 none)) (Int.toNat x) (Int.toNat x), Value.slice (some (Addr.mk k239 0 none)) 16 16] →
               (∀ k242 : Nat, (∀ W247 : World, (k242 = Array.size (World.heap W246) →
               (W247 = World.alloc W246 (Obj.cells (Value.cells (Value.agg vs65)) 35) →
               (RowKit.Below (Array.size (World.heap W5)) W5 W247 ∧
               I2 (some (Addr.mk k242 0 none)) W247))))))))))))))))))) ∧
              (((0 : Int) ≤ x ∧
               (x ≤ x ∧
               (x ≤ 9223372036854775807 ∧
               (↑1 : Int) * x ≤ 281474976710656))) ∧
              (∀ k243 : Nat, (∀ W248 : World, (k243 = Array.size (World.heap W244) →
              (W248 = World.alloc W244 (Obj.cells (madeCells #[Value.bool false] (Int.toNat x * 1)) 4) →
              (RowKit.Below (Array.size (World.heap W5)) W5 W248 ∧
              (((0 : Int) ≤ x ∧
               (x ≤ x ∧
               (x ≤ 9223372036854775807 ∧
               (↑4 : Int) * x ≤ 281474976710656))) ∧
              (∀ k244 : Nat, (∀ W249 : World, (k244 = Array.size (World.heap W248) →
              (W249 = World.alloc W248 (Obj.cells (madeCells #[Value.int IntKind.u32 0] (Int.toNat x * 1)) 39) →
              (RowKit.Below (Array.size (World.heap W5)) W5 W249 ∧
              (∀ vs66 : Array Value, (vs66 = #[Value.pointer p, Value.slice arg2 (Int.toNat x) arg2c, Value.int IntKind.i64 0, Value.int IntKind.i64 0, Value.slice (some (Addr.mk k244 0 none)) (Int.toNat x) (Int.toNat x), Value.slice (some (Addr.mk k243 0 none)) (Int.toNat x) (Int.toNat x), Value.slice (some (Addr.mk k179 0 none)) (Int.toNat x) (Int.toNat x), Value.slice (some (Addr.mk k224 0 none)) (Int.toNat x) (Int.toNat x), Value.slice (some (Addr.mk k239 0 none)) 16 16] →
              (∀ k245 : Nat, (∀ W250 : World, (k245 = Array.size (World.heap W249) →
              (W250 = World.alloc W249 (Obj.cells (Value.cells (Value.agg vs66)) 35) →
              (RowKit.Below (Array.size (World.heap W5)) W5 W250 ∧
              I2 (some (Addr.mk k245 0 none)) W250)))))))))))))))))))))))))))))))))) ∧
             (((0 : Int) ≤ (16 : Int) ∧
              ((16 : Int) ≤ (16 : Int) ∧
              ((16 : Int) ≤ (9223372036854775807 : Int) ∧
              (↑1 : Int) * 16 ≤ 281474976710656))) ∧
             (∀ k246 : Nat, (∀ W251 : World, (k246 = Array.size (World.heap W184) →
             (W251 = World.alloc W184 (Obj.cells (madeCells #[Value.int IntKind.u8 0] 16) 5) →
             (RowKit.Below (Array.size (World.heap W5)) W5 W251 ∧
             ((((0 : Int) ≤ x ∧
               (x ≤ x ∧
               (x ≤ 9223372036854775807 ∧
               (↑4 : Int) * x ≤ 281474976710656))) ∧
              (∀ k247 : Nat, (∀ W252 : World, (k247 = Array.size (World.heap W251) →
              (W252 = World.alloc W251 (Obj.cells (madeCells #[Value.int IntKind.u32 0] (Int.toNat x * 1)) 39) →
              (RowKit.Below (Array.size (World.heap W5)) W5 W252 ∧
              ((((0 : Int) ≤ x ∧
                (x ≤ x ∧
                (x ≤ 9223372036854775807 ∧
                (↑1 : Int) * x ≤ 281474976710656))) ∧
               (∀ k248 : Nat, (∀ W253 : World, (k248 = Array.size (World.heap W252) →
               (W253 = World.alloc W252 (Obj.cells (madeCells #[Value.bool false] (Int.toNat x * 1)) 4) →
               (RowKit.Below (Array.size (World.heap W5)) W5 W253 ∧
               (((0 : Int) ≤ x ∧
                (x ≤ x ∧
                (x ≤ 9223372036854775807 ∧
                (↑1 : Int) * x ≤ 281474976710656))) ∧
               (∀ k249 : Nat, (∀ W254 : World, (k249 = Array.size (World.heap W253) →
               (W254 = World.alloc W253 (Obj.cells (madeCells #[Value.bool false] (Int.toNat x * 1)) 4) →
               (RowKit.Below (Array.size (World.heap W5)) W5 W254 ∧
               (∀ vs67 : Array Value, (vs67 = #[Value.pointer p, Value.slice arg2 (Int.toNat x) arg2c, Value.int IntKind.i64 0, Value.int IntKind.i64 0, Value.slice (some (Addr.mk k247 0 none)) (Int.toNat x) (Int.toNat x), Value.slice (some (Addr.mk k248 0 none)) (Int.toNat x) (Int.toNat x), Value.slice (some (Addr.mk k179 0 none)) (Int.toNat x) (Int.toNat x), Value.slice (some (Addr.mk k249 0 none)) (Int.toNat x) (Int.toNat x), Value.slice (some (Addr.mk k246 0 none)) 16 16] →
               (∀ k250 : Nat, (∀ W255 : World, (k250 = Array.size (World.heap W254) →
               (W255 = World.alloc W254 (Obj.cells (Value.cells (Value.agg vs67)) 35) →
               (RowKit.Below (Array.size (World.heap W5)) W5 W255 ∧
               I2 (some (Addr.mk k250 0 none)) W255))))))))))))))))))) ∧
              (((0 : Int) ≤ x ∧
               (x ≤ x ∧
               (x ≤ 9223372036854775807 ∧
               (↑1 : Int) * x ≤ 281474976710656))) ∧
              (∀ k251 : Nat, (∀ W256 : World, (k251 = Array.size (World.heap W252) →
              (W256 = World.alloc W252 (Obj.cells (madeCells #[Value.bool false] (Int.toNat x * 1)) 4) →
              (RowKit.Below (Array.size (World.heap W5)) W5 W256 ∧
              (((0 : Int) ≤ x ∧
               (x ≤ x ∧
               (x ≤ 9223372036854775807 ∧
               (↑1 : Int) * x ≤ 281474976710656))) ∧
              (∀ k252 : Nat, (∀ W257 : World, (k252 = Array.size (World.heap W256) →
              (W257 = World.alloc W256 (Obj.cells (madeCells #[Value.bool false] (Int.toNat x * 1)) 4) →
              (RowKit.Below (Array.size (World.heap W5)) W5 W257 ∧
              (∀ vs68 : Array Value, (vs68 = #[Value.pointer p, Value.slice arg2 (Int.toNat x) arg2c, Value.int IntKind.i64 0, Value.int IntKind.i64 0, Value.slice (some (Addr.mk k247 0 none)) (Int.toNat x) (Int.toNat x), Value.slice (some (Addr.mk k252 0 none)) (Int.toNat x) (Int.toNat x), Value.slice (some (Addr.mk k179 0 none)) (Int.toNat x) (Int.toNat x), Value.slice (some (Addr.mk k251 0 none)) (Int.toNat x) (Int.toNat x), Value.slice (some (Addr.mk k246 0 none)) 16 16] →
              (∀ k253 : Nat, (∀ W258 : World, (k253 = Array.size (World.heap W257) →
              (W258 = World.alloc W257 (Obj.cells (Value.cells (Value.agg vs68)) 35) →
              (RowKit.Below (Array.size (World.heap W5)) W5 W258 ∧
              I2 (some (Addr.mk k253 0 none)) W258)))))))))))))))))))))))))) ∧
             ((((0 : Int) ≤ x ∧
               (x ≤ x ∧
               (x ≤ 9223372036854775807 ∧
               (↑1 : Int) * x ≤ 281474976710656))) ∧
              (∀ k254 : Nat, (∀ W259 : World, (k254 = Array.size (World.heap W251) →
              (W259 = World.alloc W251 (Obj.cells (madeCells #[Value.bool false] (Int.toNat x * 1)) 4) →
              (RowKit.Below (Array.size (World.heap W5)) W5 W259 ∧
              ((((0 : Int) ≤ x ∧
                (x ≤ x ∧
                (x ≤ 9223372036854775807 ∧
                (↑4 : Int) * x ≤ 281474976710656))) ∧
               (∀ k255 : Nat, (∀ W260 : World, (k255 = Array.size (World.heap W259) →
               (W260 = World.alloc W259 (Obj.cells (madeCells #[Value.int IntKind.u32 0] (Int.toNat x * 1)) 39) →
               (RowKit.Below (Array.size (World.heap W5)) W5 W260 ∧
               (((0 : Int) ≤ x ∧
                (x ≤ x ∧
                (x ≤ 9223372036854775807 ∧
                (↑1 : Int) * x ≤ 281474976710656))) ∧
               (∀ k256 : Nat, (∀ W261 : World, (k256 = Array.size (World.heap W260) →
               (W261 = World.alloc W260 (Obj.cells (madeCells #[Value.bool false] (Int.toNat x * 1)) 4) →
               (RowKit.Below (Array.size (World.heap W5)) W5 W261 ∧
               (∀ vs69 : Array Value, (vs69 = #[Value.pointer p, Value.slice arg2 (Int.toNat x) arg2c, Value.int IntKind.i64 0, Value.int IntKind.i64 0, Value.slice (some (Addr.mk k255 0 none)) (Int.toNat x) (Int.toNat x), Value.slice (some (Addr.mk k254 0 none)) (Int.toNat x) (Int.toNat x), Value.slice (some (Addr.mk k179 0 none)) (Int.toNat x) (Int.toNat x), Value.slice (some (Addr.mk k256 0 none)) (Int.toNat x) (Int.toNat x), Value.slice (some (Addr.mk k246 0 none)) 16 16] →
               (∀ k257 : Nat, (∀ W262 : World, (k257 = Array.size (World.heap W261) →
               (W262 = World.alloc W261 (Obj.cells (Value.cells (Value.agg vs69)) 35) →
               (RowKit.Below (Array.size (World.heap W5)) W5 W262 ∧
               I2 (some (Addr.mk k257 0 none)) W262))))))))))))))))))) ∧
              (((0 : Int) ≤ x ∧
               (x ≤ x ∧
               (x ≤ 9223372036854775807 ∧
               (↑1 : Int) * x ≤ 281474976710656))) ∧
              (∀ k258 : Nat, (∀ W263 : World, (k258 = Array.size (World.heap W259) →
              (W263 = World.alloc W259 (Obj.cells (madeCells #[Value.bool false] (Int.toNat x * 1)) 4) →
              (RowKit.Below (Array.size (World.heap W5)) W5 W263 ∧
              (((0 : Int) ≤ x ∧
               (x ≤ x ∧
               (x ≤ 9223372036854775807 ∧
               (↑4 : Int) * x ≤ 281474976710656))) ∧
              (∀ k259 : Nat, (∀ W264 : World, (k259 = Array.size (World.heap W263) →
              (W264 = World.alloc W263 (Obj.cells (madeCells #[Value.int IntKind.u32 0] (Int.toNat x * 1)) 39) →
              (RowKit.Below (Array.size (World.heap W5)) W5 W264 ∧
              (∀ vs70 : Array Value, (vs70 = #[Value.pointer p, Value.slice arg2 (Int.toNat x) arg2c, Value.int IntKind.i64 0, Value.int IntKind.i64 0, Value.slice (some (Addr.mk k259 0 none)) (Int.toNat x) (Int.toNat x), Value.slice (some (Addr.mk k254 0 none)) (Int.toNat x) (Int.toNat x), Value.slice (some (Addr.mk k179 0 none)) (Int.toNat x) (Int.toNat x), Value.slice (some (Addr.mk k258 0 none)) (Int.toNat x) (Int.toNat x), Value.slice (some (Addr.mk k246 0 none)) 16 16] →
              (∀ k260 : Nat, (∀ W265 : World, (k260 = Array.size (World.heap W264) →
              (W265 = World.alloc W264 (Obj.cells (Value.cells (Value.agg vs70)) 35) →
              (RowKit.Below (Array.size (World.heap W5)) W5 W265 ∧
              I2 (some (Addr.mk k260 0 none)) W265)))))))))))))))))))))))))) ∧
             (((0 : Int) ≤ x ∧
              (x ≤ x ∧
              (x ≤ 9223372036854775807 ∧
              (↑1 : Int) * x ≤ 281474976710656))) ∧
             (∀ k261 : Nat, (∀ W266 : World, (k261 = Array.size (World.heap W251) →
             (W266 = World.alloc W251 (Obj.cells (madeCells #[Value.bool false] (Int.toNat x * 1)) 4) →
             (RowKit.Below (Array.size (World.heap W5)) W5 W266 ∧
             ((((0 : Int) ≤ x ∧
               (x ≤ x ∧
               (x ≤ 9223372036854775807 ∧
               (↑4 : Int) * x ≤ 281474976710656))) ∧
              (∀ k262 : Nat, (∀ W267 : World, (k262 = Array.size (World.heap W266) →
              (W267 = World.alloc W266 (Obj.cells (madeCells #[Value.int IntKind.u32 0] (Int.toNat x * 1)) 39) →
              (RowKit.Below (Array.size (World.heap W5)) W5 W267 ∧
              (((0 : Int) ≤ x ∧
               (x ≤ x ∧
               (x ≤ 9223372036854775807 ∧
               (↑1 : Int) * x ≤ 281474976710656))) ∧
              (∀ k263 : Nat, (∀ W268 : World, (k263 = Array.size (World.heap W267) →
              (W268 = World.alloc W267 (Obj.cells (madeCells #[Value.bool false] (Int.toNat x * 1)) 4) →
              (RowKit.Below (Array.size (World.heap W5)) W5 W268 ∧
              (∀ vs71 : Array Value, (vs71 = #[Value.pointer p, Value.slice arg2 (Int.toNat x) arg2c, Value.int IntKind.i64 0, Value.int IntKind.i64 0, Value.slice (some (Addr.mk k262 0 none)) (Int.toNat x) (Int.toNat x), Value.slice (some (Addr.mk k263 0 none)) (Int.toNat x) (Int.toNat x), Value.slice (some (Addr.mk k179 0 none)) (Int.toNat x) (Int.toNat x), Value.slice (some (Addr.mk k261 0 none)) (Int.toNat x) (Int.toNat x), Value.slice (some (Addr.mk k246 0 none)) 16 16] →
              (∀ k264 : Nat, (∀ W269 : World, (k264 = Array.size (World.heap W268) →
              (W269 = World.alloc W268 (Obj.cells (Value.cells (Value.agg vs71)) 35) →
              (RowKit.Below (Array.size (World.heap W5)) W5 W269 ∧
              I2 (some (Addr.mk k264 0 none)) W269))))))))))))))))))) ∧
             (((0 : Int) ≤ x ∧
              (x ≤ x ∧
              (x ≤ 9223372036854775807 ∧
              (↑1 : Int) * x ≤ 281474976710656))) ∧
             (∀ k265 : Nat, (∀ W270 : World, (k265 = Array.size (World.heap W266) →
             (W270 = World.alloc W266 (Obj.cells (madeCells #[Value.bool false] (Int.toNat x * 1)) 4) →
             (RowKit.Below (Array.size (World.heap W5)) W5 W270 ∧
             (((0 : Int) ≤ x ∧
              (x ≤ x ∧
              (x ≤ 9223372036854775807 ∧
              (↑4 : Int) * x ≤ 281474976710656))) ∧
             (∀ k266 : Nat, (∀ W271 : World, (k266 = Array.size (World.heap W270) →
             (W271 = World.alloc W270 (Obj.cells (madeCells #[Value.int IntKind.u32 0] (Int.toNat x * 1)) 39) →
             (RowKit.Below (Array.size (World.heap W5)) W5 W271 ∧
             (∀ vs72 : Array Value, (vs72 = #[Value.pointer p, Value.slice arg2 (Int.toNat x) arg2c, Value.int IntKind.i64 0, Value.int IntKind.i64 0, Value.slice (some (Addr.mk k266 0 none)) (Int.toNat x) (Int.toNat x), Value.slice (some (Addr.mk k265 0 none)) (Int.toNat x) (Int.toNat x), Value.slice (some (Addr.mk k179 0 none)) (Int.toNat x) (Int.toNat x), Value.slice (some (Addr.mk k261 0 none)) (Int.toNat x) (Int.toNat x), Value.slice (some (Addr.mk k246 0 none)) 16 16] →
             (∀ k267 : Nat, (∀ W272 : World, (k267 = Array.size (World.heap W271) →
             (W272 = World.alloc W271 (Obj.cells (Value.cells (Value.agg vs72)) 35) →
             (RowKit.Below (Array.size (World.heap W5)) W5 W272 ∧
             I2 (some (Addr.mk k267 0 none)) W272))))))))))))))))))))))))))))))))))))))))))) ∧
            ((((0 : Int) ≤ x ∧
              (x ≤ x ∧
              (x ≤ 9223372036854775807 ∧
              (↑1 : Int) * x ≤ 281474976710656))) ∧
             (∀ k268 : Nat, (∀ W273 : World, (k268 = Array.size (World.heap W5) →
             (W273 = World.alloc W5 (Obj.cells (madeCells #[Value.bool false] (Int.toNat x * 1)) 4) →
             (RowKit.Below (Array.size (World.heap W5)) W5 W273 ∧
             ((((0 : Int) ≤ x ∧
               (x ≤ x ∧
               (x ≤ 9223372036854775807 ∧
               (↑4 : Int) * x ≤ 281474976710656))) ∧
              (∀ k269 : Nat, (∀ W274 : World, (k269 = Array.size (World.heap W273) →
              (W274 = World.alloc W273 (Obj.cells (madeCells #[Value.int IntKind.u32 0] (Int.toNat x * 1)) 39) →
              (RowKit.Below (Array.size (World.heap W5)) W5 W274 ∧
              ((((0 : Int) ≤ x ∧
                (x ≤ x ∧
                (x ≤ 9223372036854775807 ∧
                (↑1 : Int) * x ≤ 281474976710656))) ∧
               (∀ k270 : Nat, (∀ W275 : World, (k270 = Array.size (World.heap W274) →
               (W275 = World.alloc W274 (Obj.cells (madeCells #[Value.bool false] (Int.toNat x * 1)) 4) →
               (RowKit.Below (Array.size (World.heap W5)) W5 W275 ∧
               ((((0 : Int) ≤ x ∧
                 (x ≤ x ∧
                 (x ≤ 9223372036854775807 ∧
                 (↑1 : Int) * x ≤ 281474976710656))) ∧
                (∀ k271 : Nat, (∀ W276 : World, (k271 = Array.size (World.heap W275) →
                (W276 = World.alloc W275 (Obj.cells (madeCells #[Value.bool false] (Int.toNat x * 1)) 4) →
                (RowKit.Below (Array.size (World.heap W5)) W5 W276 ∧
                (((0 : Int) ≤ (16 : Int) ∧
                 ((16 : Int) ≤ (16 : Int) ∧
                 ((16 : Int) ≤ (9223372036854775807 : Int) ∧
                 (↑1 : Int) * 16 ≤ 281474976710656))) ∧
                (∀ k272 : Nat, (∀ W277 : World, (k272 = Array.size (World.heap W276) →
                (W277 = World.alloc W276 (Obj.cells (madeCells #[Value.int IntKind.u8 0] 16) 5) →
                (RowKit.Below (Array.size (World.heap W5)) W5 W277 ∧
                (∀ vs73 : Array Value, (vs73 = #[Value.pointer p, Value.slice arg2 (Int.toNat x) arg2c, Value.int IntKind.i64 0, Value.int IntKind.i64 0, Value.slice (some (Addr.mk k269 0 none)) (Int.toNat x) (Int.toNat x), Value.slice (some (Addr.mk k270 0 none)) (Int.toNat x) (Int.toNat x), Value.slice (some (Addr.mk k271 0 none)) (Int.toNat x) (Int.toNat x), Value.slice (some (Addr.mk k268 0 none)) (Int.toNat x) (Int.toNat x), Value.slice (some (Addr.mk k272 0 none)) 16 16] →
                (∀ k273 : Nat, (∀ W278 : World, (k273 = Array.size (World.heap W277) →
                (W278 = World.alloc W277 (Obj.cells (Value.cells (Value.agg vs73)) 35) →
                (RowKit.Below (Array.size (World.heap W5)) W5 W278 ∧
                I2 (some (Addr.mk k273 0 none)) W278))))))))))))))))))) ∧
               (((0 : Int) ≤ (16 : Int) ∧
                ((16 : Int) ≤ (16 : Int) ∧
                ((16 : Int) ≤ (9223372036854775807 : Int) ∧
                (↑1 : Int) * 16 ≤ 281474976710656))) ∧
               (∀ k274 : Nat, (∀ W279 : World, (k274 = Array.size (World.heap W275) →
               (W279 = World.alloc W275 (Obj.cells (madeCells #[Value.int IntKind.u8 0] 16) 5) →
               (RowKit.Below (Array.size (World.heap W5)) W5 W279 ∧
               (((0 : Int) ≤ x ∧
                (x ≤ x ∧
                (x ≤ 9223372036854775807 ∧
                (↑1 : Int) * x ≤ 281474976710656))) ∧
               (∀ k275 : Nat, (∀ W280 : World, (k275 = Array.size (World.heap W279) →
               (W280 = World.alloc W279 (Obj.cells (madeCells #[Value.bool false] (Int.toNat x * 1)) 4) →
               (RowKit.Below (Array.size (World.heap W5)) W5 W280 ∧
               (∀ vs74 : Array Value, (vs74 = #[Value.pointer p, Value.slice arg2 (Int.toNat x) arg2c, Value.int IntKind.i64 0, Value.int IntKind.i64 0, Value.slice (some (Addr.mk k269 0 none)) (Int.toNat x) (Int.toNat x), Value.slice (some (Addr.mk k270 0 none)) (Int.toNat x) (Int.toNat x), Value.slice (some (Addr.mk k275 0 none)) (Int.toNat x) (Int.toNat x), Value.slice (some (Addr.mk k268 0 none)) (Int.toNat x) (Int.toNat x), Value.slice (some (Addr.mk k274 0 none)) 16 16] →
               (∀ k276 : Nat, (∀ W281 : World, (k276 = Array.size (World.heap W280) →
               (W281 = World.alloc W280 (Obj.cells (Value.cells (Value.agg vs74)) 35) →
               (RowKit.Below (Array.size (World.heap W5)) W5 W281 ∧
               I2 (some (Addr.mk k276 0 none)) W281)))))))))))))))))))))))))) ∧
              ((((0 : Int) ≤ x ∧
                (x ≤ x ∧
                (x ≤ 9223372036854775807 ∧
                (↑1 : Int) * x ≤ 281474976710656))) ∧
               (∀ k277 : Nat, (∀ W282 : World, (k277 = Array.size (World.heap W274) →
               (W282 = World.alloc W274 (Obj.cells (madeCells #[Value.bool false] (Int.toNat x * 1)) 4) →
               (RowKit.Below (Array.size (World.heap W5)) W5 W282 ∧
               ((((0 : Int) ≤ x ∧
                 (x ≤ x ∧
                 (x ≤ 9223372036854775807 ∧
                 (↑1 : Int) * x ≤ 281474976710656))) ∧
                (∀ k278 : Nat, (∀ W283 : World, (k278 = Array.size (World.heap W282) →
                (W283 = World.alloc W282 (Obj.cells (madeCells #[Value.bool false] (Int.toNat x * 1)) 4) →
                (RowKit.Below (Array.size (World.heap W5)) W5 W283 ∧
                (((0 : Int) ≤ (16 : Int) ∧
                 ((16 : Int) ≤ (16 : Int) ∧
                 ((16 : Int) ≤ (9223372036854775807 : Int) ∧
                 (↑1 : Int) * 16 ≤ 281474976710656))) ∧
                (∀ k279 : Nat, (∀ W284 : World, (k279 = Array.size (World.heap W283) →
                (W284 = World.alloc W283 (Obj.cells (madeCells #[Value.int IntKind.u8 0] 16) 5) →
                (RowKit.Below (Array.size (World.heap W5)) W5 W284 ∧
                (∀ vs75 : Array Value, (vs75 = #[Value.pointer p, Value.slice arg2 (Int.toNat x) arg2c, Value.int IntKind.i64 0, Value.int IntKind.i64 0, Value.slice (some (Addr.mk k269 0 none)) (Int.toNat x) (Int.toNat x), Value.slice (some (Addr.mk k278 0 none)) (Int.toNat x) (Int.toNat x), Value.slice (some (Addr.mk k277 0 none)) (Int.toNat x) (Int.toNat x), Value.slice (some (Addr.mk k268 0 none)) (Int.toNat x) (Int.toNat x), Value.slice (some (Addr.mk k279 0 none)) 16 16] →
                (∀ k280 : Nat, (∀ W285 : World, (k280 = Array.size (World.heap W284) →
                (W285 = World.alloc W284 (Obj.cells (Value.cells (Value.agg vs75)) 35) →
                (RowKit.Below (Array.size (World.heap W5)) W5 W285 ∧
                I2 (some (Addr.mk k280 0 none)) W285))))))))))))))))))) ∧
               (((0 : Int) ≤ (16 : Int) ∧
                ((16 : Int) ≤ (16 : Int) ∧
                ((16 : Int) ≤ (9223372036854775807 : Int) ∧
                (↑1 : Int) * 16 ≤ 281474976710656))) ∧
               (∀ k281 : Nat, (∀ W286 : World, (k281 = Array.size (World.heap W282) →
               (W286 = World.alloc W282 (Obj.cells (madeCells #[Value.int IntKind.u8 0] 16) 5) →
               (RowKit.Below (Array.size (World.heap W5)) W5 W286 ∧
               (((0 : Int) ≤ x ∧
                (x ≤ x ∧
                (x ≤ 9223372036854775807 ∧
                (↑1 : Int) * x ≤ 281474976710656))) ∧
               (∀ k282 : Nat, (∀ W287 : World, (k282 = Array.size (World.heap W286) →
               (W287 = World.alloc W286 (Obj.cells (madeCells #[Value.bool false] (Int.toNat x * 1)) 4) →
               (RowKit.Below (Array.size (World.heap W5)) W5 W287 ∧
               (∀ vs76 : Array Value, (vs76 = #[Value.pointer p, Value.slice arg2 (Int.toNat x) arg2c, Value.int IntKind.i64 0, Value.int IntKind.i64 0, Value.slice (some (Addr.mk k269 0 none)) (Int.toNat x) (Int.toNat x), Value.slice (some (Addr.mk k282 0 none)) (Int.toNat x) (Int.toNat x), Value.slice (some (Addr.mk k277 0 none)) (Int.toNat x) (Int.toNat x), Value.slice (some (Addr.mk k268 0 none)) (Int.toNat x) (Int.toNat x), Value.slice (some (Addr.mk k281 0 none)) 16 16] →
               (∀ k283 : Nat, (∀ W288 : World, (k283 = Array.size (World.heap W287) →
               (W288 = World.alloc W287 (Obj.cells (Value.cells (Value.agg vs76)) 35) →
               (RowKit.Below (Array.size (World.heap W5)) W5 W288 ∧
               I2 (some (Addr.mk k283 0 none)) W288)))))))))))))))))))))))))) ∧
              (((0 : Int) ≤ (16 : Int) ∧
               ((16 : Int) ≤ (16 : Int) ∧
               ((16 : Int) ≤ (9223372036854775807 : Int) ∧
               (↑1 : Int) * 16 ≤ 281474976710656))) ∧
              (∀ k284 : Nat, (∀ W289 : World, (k284 = Array.size (World.heap W274) →
              (W289 = World.alloc W274 (Obj.cells (madeCells #[Value.int IntKind.u8 0] 16) 5) →
              (RowKit.Below (Array.size (World.heap W5)) W5 W289 ∧
              ((((0 : Int) ≤ x ∧
                (x ≤ x ∧
                (x ≤ 9223372036854775807 ∧
                (↑1 : Int) * x ≤ 281474976710656))) ∧
               (∀ k285 : Nat, (∀ W290 : World, (k285 = Array.size (World.heap W289) →
               (W290 = World.alloc W289 (Obj.cells (madeCells #[Value.bool false] (Int.toNat x * 1)) 4) →
               (RowKit.Below (Array.size (World.heap W5)) W5 W290 ∧
               (((0 : Int) ≤ x ∧
                (x ≤ x ∧
                (x ≤ 9223372036854775807 ∧
                (↑1 : Int) * x ≤ 281474976710656))) ∧
               (∀ k286 : Nat, (∀ W291 : World, (k286 = Array.size (World.heap W290) →
               (W291 = World.alloc W290 (Obj.cells (madeCells #[Value.bool false] (Int.toNat x * 1)) 4) →
               (RowKit.Below (Array.size (World.heap W5)) W5 W291 ∧
               (∀ vs77 : Array Value, (vs77 = #[Value.pointer p, Value.slice arg2 (Int.toNat x) arg2c, Value.int IntKind.i64 0, Value.int IntKind.i64 0, Value.slice (some (Addr.mk k269 0 none)) (Int.toNat x) (Int.toNat x), Value.slice (some (Addr.mk k285 0 none)) (Int.toNat x) (Int.toNat x), Value.slice (some (Addr.mk k286 0 none)) (Int.toNat x) (Int.toNat x), Value.slice (some (Addr.mk k268 0 none)) (Int.toNat x) (Int.toNat x), Value.slice (some (Addr.mk k284 0 none)) 16 16] →
               (∀ k287 : Nat, (∀ W292 : World, (k287 = Array.size (World.heap W291) →
               (W292 = World.alloc W291 (Obj.cells (Value.cells (Value.agg vs77)) 35) →
               (RowKit.Below (Array.size (World.heap W5)) W5 W292 ∧
               I2 (some (Addr.mk k287 0 none)) W292))))))))))))))))))) ∧
              (((0 : Int) ≤ x ∧
               (x ≤ x ∧
               (x ≤ 9223372036854775807 ∧
               (↑1 : Int) * x ≤ 281474976710656))) ∧
              (∀ k288 : Nat, (∀ W293 : World, (k288 = Array.size (World.heap W289) →
              (W293 = World.alloc W289 (Obj.cells (madeCells #[Value.bool false] (Int.toNat x * 1)) 4) →
              (RowKit.Below (Array.size (World.heap W5)) W5 W293 ∧
              (((0 : Int) ≤ x ∧
               (x ≤ x ∧
               (x ≤ 9223372036854775807 ∧
               (↑1 : Int) * x ≤ 281474976710656))) ∧
              (∀ k289 : Nat, (∀ W294 : World, (k289 = Array.size (World.heap W293) →
              (W294 = World.alloc W293 (Obj.cells (madeCells #[Value.bool false] (Int.toNat x * 1)) 4) →
              (RowKit.Below (Array.size (World.heap W5)) W5 W294 ∧
              (∀ vs78 : Array Value, (vs78 = #[Value.pointer p, Value.slice arg2 (Int.toNat x) arg2c, Value.int IntKind.i64 0, Value.int IntKind.i64 0, Value.slice (some (Addr.mk k269 0 none)) (Int.toNat x) (Int.toNat x), Value.slice (some (Addr.mk k289 0 none)) (Int.toNat x) (Int.toNat x), Value.slice (some (Addr.mk k288 0 none)) (Int.toNat x) (Int.toNat x), Value.slice (some (Addr.mk k268 0 none)) (Int.toNat x) (Int.toNat x), Value.slice (some (Addr.mk k284 0 none)) 16 16] →
              (∀ k290 : Nat, (∀ W295 : World, (k290 = Array.size (World.heap W294) →
              (W295 = World.alloc W294 (Obj.cells (Value.cells (Value.agg vs78)) 35) →
              (RowKit.Below (Array.size (World.heap W5)) W5 W295 ∧
              I2 (some (Addr.mk k290 0 none)) W295)))))))))))))))))))))))))))))))))) ∧
             ((((0 : Int) ≤ x ∧
               (x ≤ x ∧
               (x ≤ 9223372036854775807 ∧
               (↑1 : Int) * x ≤ 281474976710656))) ∧
              (∀ k291 : Nat, (∀ W296 : World, (k291 = Array.size (World.heap W273) →
              (W296 = World.alloc W273 (Obj.cells (madeCells #[Value.bool false] (Int.toNat x * 1)) 4) →
              (RowKit.Below (Array.size (World.heap W5)) W5 W296 ∧
              ((((0 : Int) ≤ x ∧
                (x ≤ x ∧
                (x ≤ 9223372036854775807 ∧
                (↑4 : Int) * x ≤ 281474976710656))) ∧
               (∀ k292 : Nat, (∀ W297 : World, (k292 = Array.size (World.heap W296) →
               (W297 = World.alloc W296 (Obj.cells (madeCells #[Value.int IntKind.u32 0] (Int.toNat x * 1)) 39) →
               (RowKit.Below (Array.size (World.heap W5)) W5 W297 ∧
               ((((0 : Int) ≤ x ∧
                 (x ≤ x ∧
                 (x ≤ 9223372036854775807 ∧
                 (↑1 : Int) * x ≤ 281474976710656))) ∧
                (∀ k293 : Nat, (∀ W298 : World, (k293 = Array.size (World.heap W297) →
                (W298 = World.alloc W297 (Obj.cells (madeCells #[Value.bool false] (Int.toNat x * 1)) 4) →
                (RowKit.Below (Array.size (World.heap W5)) W5 W298 ∧
                (((0 : Int) ≤ (16 : Int) ∧
                 ((16 : Int) ≤ (16 : Int) ∧
                 ((16 : Int) ≤ (9223372036854775807 : Int) ∧
                 (↑1 : Int) * 16 ≤ 281474976710656))) ∧
                (∀ k294 : Nat, (∀ W299 : World, (k294 = Array.size (World.heap W298) →
                (W299 = World.alloc W298 (Obj.cells (madeCells #[Value.int IntKind.u8 0] 16) 5) →
                (RowKit.Below (Array.size (World.heap W5)) W5 W299 ∧
                (∀ vs79 : Array Value, (vs79 = #[Value.pointer p, Value.slice arg2 (Int.toNat x) arg2c, Value.int IntKind.i64 0, Value.int IntKind.i64 0, Value.slice (some (Addr.mk k292 0 none)) (Int.toNat x) (Int.toNat x), Value.slice (some (Addr.mk k291 0 none)) (Int.toNat x) (Int.toNat x), Value.slice (some (Addr.mk k293 0 none)) (Int.toNat x) (Int.toNat x), Value.slice (some (Addr.mk k268 0 none)) (Int.toNat x) (Int.toNat x), Value.slice (some (Addr.mk k294 0 none)) 16 16] →
                (∀ k295 : Nat, (∀ W300 : World, (k295 = Array.size (World.heap W299) →
                (W300 = World.alloc W299 (Obj.cells (Value.cells (Value.agg vs79)) 35) →
                (RowKit.Below (Array.size (World.heap W5)) W5 W300 ∧
                I2 (some (Addr.mk k295 0 none)) W300))))))))))))))))))) ∧
               (((0 : Int) ≤ (16 : Int) ∧
                ((16 : Int) ≤ (16 : Int) ∧
                ((16 : Int) ≤ (9223372036854775807 : Int) ∧
                (↑1 : Int) * 16 ≤ 281474976710656))) ∧
               (∀ k296 : Nat, (∀ W301 : World, (k296 = Array.size (World.heap W297) →
               (W301 = World.alloc W297 (Obj.cells (madeCells #[Value.int IntKind.u8 0] 16) 5) →
               (RowKit.Below (Array.size (World.heap W5)) W5 W301 ∧
               (((0 : Int) ≤ x ∧
                (x ≤ x ∧
                (x ≤ 9223372036854775807 ∧
                (↑1 : Int) * x ≤ 281474976710656))) ∧
               (∀ k297 : Nat, (∀ W302 : World, (k297 = Array.size (World.heap W301) →
               (W302 = World.alloc W301 (Obj.cells (madeCells #[Value.bool false] (Int.toNat x * 1)) 4) →
               (RowKit.Below (Array.size (World.heap W5)) W5 W302 ∧
               (∀ vs80 : Array Value, (vs80 = #[Value.pointer p, Value.slice arg2 (Int.toNat x) arg2c, Value.int IntKind.i64 0, Value.int IntKind.i64 0, Value.slice (some (Addr.mk k292 0 none)) (Int.toNat x) (Int.toNat x), Value.slice (some (Addr.mk k291 0 none)) (Int.toNat x) (Int.toNat x), Value.slice (some (Addr.mk k297 0 none)) (Int.toNat x) (Int.toNat x), Value.slice (some (Addr.mk k268 0 none)) (Int.toNat x) (Int.toNat x), Value.slice (some (Addr.mk k296 0 none)) 16 16] →
               (∀ k298 : Nat, (∀ W303 : World, (k298 = Array.size (World.heap W302) →
               (W303 = World.alloc W302 (Obj.cells (Value.cells (Value.agg vs80)) 35) →
               (RowKit.Below (Array.size (World.heap W5)) W5 W303 ∧
               I2 (some (Addr.mk k298 0 none)) W303)))))))))))))))))))))))))) ∧
              ((((0 : Int) ≤ x ∧
                (x ≤ x ∧
                (x ≤ 9223372036854775807 ∧
                (↑1 : Int) * x ≤ 281474976710656))) ∧
               (∀ k299 : Nat, (∀ W304 : World, (k299 = Array.size (World.heap W296) →
               (W304 = World.alloc W296 (Obj.cells (madeCells #[Value.bool false] (Int.toNat x * 1)) 4) →
               (RowKit.Below (Array.size (World.heap W5)) W5 W304 ∧
               ((((0 : Int) ≤ x ∧
                 (x ≤ x ∧
                 (x ≤ 9223372036854775807 ∧
                 (↑4 : Int) * x ≤ 281474976710656))) ∧
                (∀ k300 : Nat, (∀ W305 : World, (k300 = Array.size (World.heap W304) →
                (W305 = World.alloc W304 (Obj.cells (madeCells #[Value.int IntKind.u32 0] (Int.toNat x * 1)) 39) →
                (RowKit.Below (Array.size (World.heap W5)) W5 W305 ∧
                (((0 : Int) ≤ (16 : Int) ∧
                 ((16 : Int) ≤ (16 : Int) ∧
                 ((16 : Int) ≤ (9223372036854775807 : Int) ∧
                 (↑1 : Int) * 16 ≤ 281474976710656))) ∧
                (∀ k301 : Nat, (∀ W306 : World, (k301 = Array.size (World.heap W305) →
                (W306 = World.alloc W305 (Obj.cells (madeCells #[Value.int IntKind.u8 0] 16) 5) →
                (RowKit.Below (Array.size (World.heap W5)) W5 W306 ∧
                (∀ vs81 : Array Value, (vs81 = #[Value.pointer p, Value.slice arg2 (Int.toNat x) arg2c, Value.int IntKind.i64 0, Value.int IntKind.i64 0, Value.slice (some (Addr.mk k300 0 none)) (Int.toNat x) (Int.toNat x), Value.slice (some (Addr.mk k291 0 none)) (Int.toNat x) (Int.toNat x), Value.slice (some (Addr.mk k299 0 none)) (Int.toNat x) (Int.toNat x), Value.slice (some (Addr.mk k268 0 none)) (Int.toNat x) (Int.toNat x), Value.slice (some (Addr.mk k301 0 none)) 16 16] →
                (∀ k302 : Nat, (∀ W307 : World, (k302 = Array.size (World.heap W306) →
                (W307 = World.alloc W306 (Obj.cells (Value.cells (Value.agg vs81)) 35) →
                (RowKit.Below (Array.size (World.heap W5)) W5 W307 ∧
                I2 (some (Addr.mk k302 0 none)) W307))))))))))))))))))) ∧
               (((0 : Int) ≤ (16 : Int) ∧
                ((16 : Int) ≤ (16 : Int) ∧
                ((16 : Int) ≤ (9223372036854775807 : Int) ∧
                (↑1 : Int) * 16 ≤ 281474976710656))) ∧
               (∀ k303 : Nat, (∀ W308 : World, (k303 = Array.size (World.heap W304) →
               (W308 = World.alloc W304 (Obj.cells (madeCells #[Value.int IntKind.u8 0] 16) 5) →
               (RowKit.Below (Array.size (World.heap W5)) W5 W308 ∧
               (((0 : Int) ≤ x ∧
                (x ≤ x ∧
                (x ≤ 9223372036854775807 ∧
                (↑4 : Int) * x ≤ 281474976710656))) ∧
               (∀ k304 : Nat, (∀ W309 : World, (k304 = Array.size (World.heap W308) →
               (W309 = World.alloc W308 (Obj.cells (madeCells #[Value.int IntKind.u32 0] (Int.toNat x * 1)) 39) →
               (RowKit.Below (Array.size (World.heap W5)) W5 W309 ∧
               (∀ vs82 : Array Value, (vs82 = #[Value.pointer p, Value.slice arg2 (Int.toNat x) arg2c, Value.int IntKind.i64 0, Value.int IntKind.i64 0, Value.slice (some (Addr.mk k304 0 none)) (Int.toNat x) (Int.toNat x), Value.slice (some (Addr.mk k291 0 none)) (Int.toNat x) (Int.toNat x), Value.slice (some (Addr.mk k299 0 none)) (Int.toNat x) (Int.toNat x), Value.slice (some (Addr.mk k268 0 none)) (Int.toNat x) (Int.toNat x), Value.slice (some (Addr.mk k303 0 none)) 16 16] →
               (∀ k305 : Nat, (∀ W310 : World, (k305 = Array.size (World.heap W309) →
               (W310 = World.alloc W309 (Obj.cells (Value.cells (Value.agg vs82)) 35) →
               (RowKit.Below (Array.size (World.heap W5)) W5 W310 ∧
               I2 (some (Addr.mk k305 0 none)) W310)))))))))))))))))))))))))) ∧
              (((0 : Int) ≤ (16 : Int) ∧
               ((16 : Int) ≤ (16 : Int) ∧
               ((16 : Int) ≤ (9223372036854775807 : Int) ∧
               (↑1 : Int) * 16 ≤ 281474976710656))) ∧
              (∀ k306 : Nat, (∀ W311 : World, (k306 = Array.size (World.heap W296) →
              (W311 = World.alloc W296 (Obj.cells (madeCells #[Value.int IntKind.u8 0] 16) 5) →
              (RowKit.Below (Array.size (World.heap W5)) W5 W311 ∧
              ((((0 : Int) ≤ x ∧
                (x ≤ x ∧
                (x ≤ 9223372036854775807 ∧
                (↑4 : Int) * x ≤ 281474976710656))) ∧
               (∀ k307 : Nat, (∀ W312 : World, (k307 = Array.size (World.heap W311) →
               (W312 = World.alloc W311 (Obj.cells (madeCells #[Value.int IntKind.u32 0] (Int.toNat x * 1)) 39) →
               (RowKit.Below (Array.size (World.heap W5)) W5 W312 ∧
               (((0 : Int) ≤ x ∧
                (x ≤ x ∧
                (x ≤ 9223372036854775807 ∧
                (↑1 : Int) * x ≤ 281474976710656))) ∧
               (∀ k308 : Nat, (∀ W313 : World, (k308 = Array.size (World.heap W312) →
               (W313 = World.alloc W312 (Obj.cells (madeCells #[Value.bool false] (Int.toNat x * 1)) 4) →
               (RowKit.Below (Array.size (World.heap W5)) W5 W313 ∧
               (∀ vs83 : Array Value, (vs83 = #[Value.pointer p, Value.slice arg2 (Int.toNat x) arg2c, Value.int IntKind.i64 0, Value.int IntKind.i64 0, Value.slice (some (Addr.mk k307 0 none)) (Int.toNat x) (Int.toNat x), Value.slice (some (Addr.mk k291 0 none)) (Int.toNat x) (Int.toNat x), Value.slice (some (Addr.mk k308 0 none)) (Int.toNat x) (Int.toNat x), Value.slice (some (Addr.mk k268 0 none)) (Int.toNat x) (Int.toNat x), Value.slice (some (Addr.mk k306 0 none)) 16 16] →
               (∀ k309 : Nat, (∀ W314 : World, (k309 = Array.size (World.heap W313) →
               (W314 = World.alloc W313 (Obj.cells (Value.cells (Value.agg vs83)) 35) →
               (RowKit.Below (Array.size (World.heap W5)) W5 W314 ∧
               I2 (some (Addr.mk k309 0 none)) W314))))))))))))))))))) ∧
              (((0 : Int) ≤ x ∧
               (x ≤ x ∧
               (x ≤ 9223372036854775807 ∧
               (↑1 : Int) * x ≤ 281474976710656))) ∧
              (∀ k310 : Nat, (∀ W315 : World, (k310 = Array.size (World.heap W311) →
              (W315 = World.alloc W311 (Obj.cells (madeCells #[Value.bool false] (Int.toNat x * 1)) 4) →
              (RowKit.Below (Array.size (World.heap W5)) W5 W315 ∧
              (((0 : Int) ≤ x ∧
               (x ≤ x ∧
               (x ≤ 9223372036854775807 ∧
               (↑4 : Int) * x ≤ 281474976710656))) ∧
              (∀ k311 : Nat, (∀ W316 : World, (k311 = Array.size (World.heap W315) →
              (W316 = World.alloc W315 (Obj.cells (madeCells #[Value.int IntKind.u32 0] (Int.toNat x * 1)) 39) →
              (RowKit.Below (Array.size (World.heap W5)) W5 W316 ∧
              (∀ vs84 : Array Value, (vs84 = #[Value.pointer p, Value.slice arg2 (Int.toNat x) arg2c, Value.int IntKind.i64 0, Value.int IntKind.i64 0, Value.slice (some (Addr.mk k311 0 none)) (Int.toNat x) (Int.toNat x), Value.slice (some (Addr.mk k291 0 none)) (Int.toNat x) (Int.toNat x), Value.slice (some (Addr.mk k310 0 none)) (Int.toNat x) (Int.toNat x), Value.slice (some (Addr.mk k268 0 none)) (Int.toNat x) (Int.toNat x), Value.slice (some (Addr.mk k306 0 none)) 16 16] →
              (∀ k312 : Nat, (∀ W317 : World, (k312 = Array.size (World.heap W316) →
              (W317 = World.alloc W316 (Obj.cells (Value.cells (Value.agg vs84)) 35) →
              (RowKit.Below (Array.size (World.heap W5)) W5 W317 ∧
              I2 (some (Addr.mk k312 0 none)) W317)))))))))))))))))))))))))))))))))) ∧
             ((((0 : Int) ≤ x ∧
               (x ≤ x ∧
               (x ≤ 9223372036854775807 ∧
               (↑1 : Int) * x ≤ 281474976710656))) ∧
              (∀ k313 : Nat, (∀ W318 : World, (k313 = Array.size (World.heap W273) →
              (W318 = World.alloc W273 (Obj.cells (madeCells #[Value.bool false] (Int.toNat x * 1)) 4) →
              (RowKit.Below (Array.size (World.heap W5)) W5 W318 ∧
              ((((0 : Int) ≤ x ∧
                (x ≤ x ∧
                (x ≤ 9223372036854775807 ∧
                (↑4 : Int) * x ≤ 281474976710656))) ∧
               (∀ k314 : Nat, (∀ W319 : World, (k314 = Array.size (World.heap W318) →
               (W319 = World.alloc W318 (Obj.cells (madeCells #[Value.int IntKind.u32 0] (Int.toNat x * 1)) 39) →
               (RowKit.Below (Array.size (World.heap W5)) W5 W319 ∧
               ((((0 : Int) ≤ x ∧
                 (x ≤ x ∧
                 (x ≤ 9223372036854775807 ∧
                 (↑1 : Int) * x ≤ 281474976710656))) ∧
                (∀ k315 : Nat, (∀ W320 : World, (k315 = Array.size (World.heap W319) →
                (W320 = World.alloc W319 (Obj.cells (madeCells #[Value.bool false] (Int.toNat x * 1)) 4) →
                (RowKit.Below (Array.size (World.heap W5)) W5 W320 ∧
                (((0 : Int) ≤ (16 : Int) ∧
                 ((16 : Int) ≤ (16 : Int) ∧
                 ((16 : Int) ≤ (9223372036854775807 : Int) ∧
                 (↑1 : Int) * 16 ≤ 281474976710656))) ∧
                (∀ k316 : Nat, (∀ W321 : World, (k316 = Array.size (World.heap W320) →
                (W321 = World.alloc W320 (Obj.cells (madeCells #[Value.int IntKind.u8 0] 16) 5) →
                (RowKit.Below (Array.size (World.heap W5)) W5 W321 ∧
                (∀ vs85 : Array Value, (vs85 = #[Value.pointer p, Value.slice arg2 (Int.toNat x) arg2c, Value.int IntKind.i64 0, Value.int IntKind.i64 0, Value.slice (some (Addr.mk k314 0 none)) (Int.toNat x) (Int.toNat x), Value.slice (some (Addr.mk k315 0 none)) (Int.toNat x) (Int.toNat x), Value.slice (some (Addr.mk k313 0 none)) (Int.toNat x) (Int.toNat x), Value.slice (some (Addr.mk k268 0 none)) (Int.toNat x) (Int.toNat x), Value.slice (some (Addr.mk k316 0 none)) 16 16] →
                (∀ k317 : Nat, (∀ W322 : World, (k317 = Array.size (World.heap W321) →
                (W322 = World.alloc W321 (Obj.cells (Value.cells (Value.agg vs85)) 35) →
                (RowKit.Below (Array.size (World.heap W5)) W5 W322 ∧
                I2 (some (Addr.mk k317 0 none)) W322))))))))))))))))))) ∧
               (((0 : Int) ≤ (16 : Int) ∧
                ((16 : Int) ≤ (16 : Int) ∧
                ((16 : Int) ≤ (9223372036854775807 : Int) ∧
                (↑1 : Int) * 16 ≤ 281474976710656))) ∧
               (∀ k318 : Nat, (∀ W323 : World, (k318 = Array.size (World.heap W319) →
               (W323 = World.alloc W319 (Obj.cells (madeCells #[Value.int IntKind.u8 0] 16) 5) →
               (RowKit.Below (Array.size (World.heap W5)) W5 W323 ∧
               (((0 : Int) ≤ x ∧
                (x ≤ x ∧
                (x ≤ 9223372036854775807 ∧
                (↑1 : Int) * x ≤ 281474976710656))) ∧
               (∀ k319 : Nat, (∀ W324 : World, (k319 = Array.size (World.heap W323) →
               (W324 = World.alloc W323 (Obj.cells (madeCells #[Value.bool false] (Int.toNat x * 1)) 4) →
               (RowKit.Below (Array.size (World.heap W5)) W5 W324 ∧
               (∀ vs86 : Array Value, (vs86 = #[Value.pointer p, Value.slice arg2 (Int.toNat x) arg2c, Value.int IntKind.i64 0, Value.int IntKind.i64 0, Value.slice (some (Addr.mk k314 0 none)) (Int.toNat x) (Int.toNat x), Value.slice (some (Addr.mk k319 0 none)) (Int.toNat x) (Int.toNat x), Value.slice (some (Addr.mk k313 0 none)) (Int.toNat x) (Int.toNat x), Value.slice (some (Addr.mk k268 0 none)) (Int.toNat x) (Int.toNat x), Value.slice (some (Addr.mk k318 0 none)) 16 16] →
               (∀ k320 : Nat, (∀ W325 : World, (k320 = Array.size (World.heap W324) →
               (W325 = World.alloc W324 (Obj.cells (Value.cells (Value.agg vs86)) 35) →
               (RowKit.Below (Array.size (World.heap W5)) W5 W325 ∧
               I2 (some (Addr.mk k320 0 none)) W325)))))))))))))))))))))))))) ∧
              ((((0 : Int) ≤ x ∧
                (x ≤ x ∧
                (x ≤ 9223372036854775807 ∧
                (↑1 : Int) * x ≤ 281474976710656))) ∧
               (∀ k321 : Nat, (∀ W326 : World, (k321 = Array.size (World.heap W318) →
               (W326 = World.alloc W318 (Obj.cells (madeCells #[Value.bool false] (Int.toNat x * 1)) 4) →
               (RowKit.Below (Array.size (World.heap W5)) W5 W326 ∧
               ((((0 : Int) ≤ x ∧
                 (x ≤ x ∧
                 (x ≤ 9223372036854775807 ∧
                 (↑4 : Int) * x ≤ 281474976710656))) ∧
                (∀ k322 : Nat, (∀ W327 : World, (k322 = Array.size (World.heap W326) →
                (W327 = World.alloc W326 (Obj.cells (madeCells #[Value.int IntKind.u32 0] (Int.toNat x * 1)) 39) →
                (RowKit.Below (Array.size (World.heap W5)) W5 W327 ∧
                (((0 : Int) ≤ (16 : Int) ∧
                 ((16 : Int) ≤ (16 : Int) ∧
                 ((16 : Int) ≤ (9223372036854775807 : Int) ∧
                 (↑1 : Int) * 16 ≤ 281474976710656))) ∧
                (∀ k323 : Nat, (∀ W328 : World, (k323 = Array.size (World.heap W327) →
                (W328 = World.alloc W327 (Obj.cells (madeCells #[Value.int IntKind.u8 0] 16) 5) →
                (RowKit.Below (Array.size (World.heap W5)) W5 W328 ∧
                (∀ vs87 : Array Value, (vs87 = #[Value.pointer p, Value.slice arg2 (Int.toNat x) arg2c, Value.int IntKind.i64 0, Value.int IntKind.i64 0, Value.slice (some (Addr.mk k322 0 none)) (Int.toNat x) (Int.toNat x), Value.slice (some (Addr.mk k321 0 none)) (Int.toNat x) (Int.toNat x), Value.slice (some (Addr.mk k313 0 none)) (Int.toNat x) (Int.toNat x), Value.slice (some (Addr.mk k268 0 none)) (Int.toNat x) (Int.toNat x), Value.slice (some (Addr.mk k323 0 none)) 16 16] →
                (∀ k324 : Nat, (∀ W329 : World, (k324 = Array.size (World.heap W328) →
                (W329 = World.alloc W328 (Obj.cells (Value.cells (Value.agg vs87)) 35) →
                (RowKit.Below (Array.size (World.heap W5)) W5 W329 ∧
                I2 (some (Addr.mk k324 0 none)) W329))))))))))))))))))) ∧
               (((0 : Int) ≤ (16 : Int) ∧
                ((16 : Int) ≤ (16 : Int) ∧
                ((16 : Int) ≤ (9223372036854775807 : Int) ∧
                (↑1 : Int) * 16 ≤ 281474976710656))) ∧
               (∀ k325 : Nat, (∀ W330 : World, (k325 = Array.size (World.heap W326) →
               (W330 = World.alloc W326 (Obj.cells (madeCells #[Value.int IntKind.u8 0] 16) 5) →
               (RowKit.Below (Array.size (World.heap W5)) W5 W330 ∧
               (((0 : Int) ≤ x ∧
                (x ≤ x ∧
                (x ≤ 9223372036854775807 ∧
                (↑4 : Int) * x ≤ 281474976710656))) ∧
               (∀ k326 : Nat, (∀ W331 : World, (k326 = Array.size (World.heap W330) →
               (W331 = World.alloc W330 (Obj.cells (madeCells #[Value.int IntKind.u32 0] (Int.toNat x * 1)) 39) →
               (RowKit.Below (Array.size (World.heap W5)) W5 W331 ∧
               (∀ vs88 : Array Value, (vs88 = #[Value.pointer p, Value.slice arg2 (Int.toNat x) arg2c, Value.int IntKind.i64 0, Value.int IntKind.i64 0, Value.slice (some (Addr.mk k326 0 none)) (Int.toNat x) (Int.toNat x), Value.slice (some (Addr.mk k321 0 none)) (Int.toNat x) (Int.toNat x), Value.slice (some (Addr.mk k313 0 none)) (Int.toNat x) (Int.toNat x), Value.slice (some (Addr.mk k268 0 none)) (Int.toNat x) (Int.toNat x), Value.slice (some (Addr.mk k325 0 none)) 16 16] →
               (∀ k327 : Nat, (∀ W332 : World, (k327 = Array.size (World.heap W331) →
               (W332 = World.alloc W331 (Obj.cells (Value.cells (Value.agg vs88)) 35) →
               (RowKit.Below (Array.size (World.heap W5)) W5 W332 ∧
               I2 (some (Addr.mk k327 0 none)) W332)))))))))))))))))))))))))) ∧
              (((0 : Int) ≤ (16 : Int) ∧
               ((16 : Int) ≤ (16 : Int) ∧
               ((16 : Int) ≤ (9223372036854775807 : Int) ∧
               (↑1 : Int) * 16 ≤ 281474976710656))) ∧
              (∀ k328 : Nat, (∀ W333 : World, (k328 = Array.size (World.heap W318) →
              (W333 = World.alloc W318 (Obj.cells (madeCells #[Value.int IntKind.u8 0] 16) 5) →
              (RowKit.Below (Array.size (World.heap W5)) W5 W333 ∧
              ((((0 : Int) ≤ x ∧
                (x ≤ x ∧
                (x ≤ 9223372036854775807 ∧
                (↑4 : Int) * x ≤ 281474976710656))) ∧
               (∀ k329 : Nat, (∀ W334 : World, (k329 = Array.size (World.heap W333) →
               (W334 = World.alloc W333 (Obj.cells (madeCells #[Value.int IntKind.u32 0] (Int.toNat x * 1)) 39) →
               (RowKit.Below (Array.size (World.heap W5)) W5 W334 ∧
               (((0 : Int) ≤ x ∧
                (x ≤ x ∧
                (x ≤ 9223372036854775807 ∧
                (↑1 : Int) * x ≤ 281474976710656))) ∧
               (∀ k330 : Nat, (∀ W335 : World, (k330 = Array.size (World.heap W334) →
               (W335 = World.alloc W334 (Obj.cells (madeCells #[Value.bool false] (Int.toNat x * 1)) 4) →
               (RowKit.Below (Array.size (World.heap W5)) W5 W335 ∧
               (∀ vs89 : Array Value, (vs89 = #[Value.pointer p, Value.slice arg2 (Int.toNat x) arg2c, Value.int IntKind.i64 0, Value.int IntKind.i64 0, Value.slice (some (Addr.mk k329 0 none)) (Int.toNat x) (Int.toNat x), Value.slice (some (Addr.mk k330 0 none)) (Int.toNat x) (Int.toNat x), Value.slice (some (Addr.mk k313 0 none)) (Int.toNat x) (Int.toNat x), Value.slice (some (Addr.mk k268 0 none)) (Int.toNat x) (Int.toNat x), Value.slice (some (Addr.mk k328 0 none)) 16 16] →
               (∀ k331 : Nat, (∀ W336 : World, (k331 = Array.size (World.heap W335) →
               (W336 = World.alloc W335 (Obj.cells (Value.cells (Value.agg vs89)) 35) →
               (RowKit.Below (Array.size (World.heap W5)) W5 W336 ∧
               I2 (some (Addr.mk k331 0 none)) W336))))))))))))))))))) ∧
              (((0 : Int) ≤ x ∧
               (x ≤ x ∧
               (x ≤ 9223372036854775807 ∧
               (↑1 : Int) * x ≤ 281474976710656))) ∧
              (∀ k332 : Nat, (∀ W337 : World, (k332 = Array.size (World.heap W333) →
              (W337 = World.alloc W333 (Obj.cells (madeCells #[Value.bool false] (Int.toNat x * 1)) 4) →
              (RowKit.Below (Array.size (World.heap W5)) W5 W337 ∧
              (((0 : Int) ≤ x ∧
               (x ≤ x ∧
               (x ≤ 9223372036854775807 ∧
               (↑4 : Int) * x ≤ 281474976710656))) ∧
              (∀ k333 : Nat, (∀ W338 : World, (k333 = Array.size (World.heap W337) →
              (W338 = World.alloc W337 (Obj.cells (madeCells #[Value.int IntKind.u32 0] (Int.toNat x * 1)) 39) →
              (RowKit.Below (Array.size (World.heap W5)) W5 W338 ∧
              (∀ vs90 : Array Value, (vs90 = #[Value.pointer p, Value.slice arg2 (Int.toNat x) arg2c, Value.int IntKind.i64 0, Value.int IntKind.i64 0, Value.slice (some (Addr.mk k333 0 none)) (Int.toNat x) (Int.toNat x), Value.slice (some (Addr.mk k332 0 none)) (Int.toNat x) (Int.toNat x), Value.slice (some (Addr.mk k313 0 none)) (Int.toNat x) (Int.toNat x), Value.slice (some (Addr.mk k268 0 none)) (Int.toNat x) (Int.toNat x), Value.slice (some (Addr.mk k328 0 none)) 16 16] →
              (∀ k334 : Nat, (∀ W339 : World, (k334 = Array.size (World.heap W338) →
              (W339 = World.alloc W338 (Obj.cells (Value.cells (Value.agg vs90)) 35) →
              (RowKit.Below (Array.size (World.heap W5)) W5 W339 ∧
              I2 (some (Addr.mk k334 0 none)) W339)))))))))))))))))))))))))))))))))) ∧
             (((0 : Int) ≤ (16 : Int) ∧
              ((16 : Int) ≤ (16 : Int) ∧
              ((16 : Int) ≤ (9223372036854775807 : Int) ∧
              (↑1 : Int) * 16 ≤ 281474976710656))) ∧
             (∀ k335 : Nat, (∀ W340 : World, (k335 = Array.size (World.heap W273) →
             (W340 = World.alloc W273 (Obj.cells (madeCells #[Value.int IntKind.u8 0] 16) 5) →
             (RowKit.Below (Array.size (World.heap W5)) W5 W340 ∧
             ((((0 : Int) ≤ x ∧
               (x ≤ x ∧
               (x ≤ 9223372036854775807 ∧
               (↑4 : Int) * x ≤ 281474976710656))) ∧
              (∀ k336 : Nat, (∀ W341 : World, (k336 = Array.size (World.heap W340) →
              (W341 = World.alloc W340 (Obj.cells (madeCells #[Value.int IntKind.u32 0] (Int.toNat x * 1)) 39) →
              (RowKit.Below (Array.size (World.heap W5)) W5 W341 ∧
              ((((0 : Int) ≤ x ∧
                (x ≤ x ∧
                (x ≤ 9223372036854775807 ∧
                (↑1 : Int) * x ≤ 281474976710656))) ∧
               (∀ k337 : Nat, (∀ W342 : World, (k337 = Array.size (World.heap W341) →
               (W342 = World.alloc W341 (Obj.cells (madeCells #[Value.bool false] (Int.toNat x * 1)) 4) →
               (RowKit.Below (Array.size (World.heap W5)) W5 W342 ∧
               (((0 : Int) ≤ x ∧
                (x ≤ x ∧
                (x ≤ 9223372036854775807 ∧
                (↑1 : Int) * x ≤ 281474976710656))) ∧
               (∀ k338 : Nat, (∀ W343 : World, (k338 = Array.size (World.heap W342) →
               (W343 = World.alloc W342 (Obj.cells (madeCells #[Value.bool false] (Int.toNat x * 1)) 4) →
               (RowKit.Below (Array.size (World.heap W5)) W5 W343 ∧
               (∀ vs91 : Array Value, (vs91 = #[Value.pointer p, Value.slice arg2 (Int.toNat x) arg2c, Value.int IntKind.i64 0, Value.int IntKind.i64 0, Value.slice (some (Addr.mk k336 0 none)) (Int.toNat x) (Int.toNat x), Value.slice (some (Addr.mk k337 0 none)) (Int.toNat x) (Int.toNat x), Value.slice (some (Addr.mk k338 0 none)) (Int.toNat x) (Int.toNat x), Value.slice (some (Addr.mk k268 0 none)) (Int.toNat x) (Int.toNat x), Value.slice (some (Addr.mk k335 0 none)) 16 16] →
               (∀ k339 : Nat, (∀ W344 : World, (k339 = Array.size (World.heap W343) →
               (W344 = World.alloc W343 (Obj.cells (Value.cells (Value.agg vs91)) 35) →
               (RowKit.Below (Array.size (World.heap W5)) W5 W344 ∧
               I2 (some (Addr.mk k339 0 none)) W344))))))))))))))))))) ∧
              (((0 : Int) ≤ x ∧
               (x ≤ x ∧
               (x ≤ 9223372036854775807 ∧
               (↑1 : Int) * x ≤ 281474976710656))) ∧
              (∀ k340 : Nat, (∀ W345 : World, (k340 = Array.size (World.heap W341) →
              (W345 = World.alloc W341 (Obj.cells (madeCells #[Value.bool false] (Int.toNat x * 1)) 4) →
              (RowKit.Below (Array.size (World.heap W5)) W5 W345 ∧
              (((0 : Int) ≤ x ∧
               (x ≤ x ∧
               (x ≤ 9223372036854775807 ∧
               (↑1 : Int) * x ≤ 281474976710656))) ∧
              (∀ k341 : Nat, (∀ W346 : World, (k341 = Array.size (World.heap W345) →
              (W346 = World.alloc W345 (Obj.cells (madeCells #[Value.bool false] (Int.toNat x * 1)) 4) →
              (RowKit.Below (Array.size (World.heap W5)) W5 W346 ∧
              (∀ vs92 : Array Value, (vs92 = #[Value.pointer p, Value.slice arg2 (Int.toNat x) arg2c, Value.int IntKind.i64 0, Value.int IntKind.i64 0, Value.slice (some (Addr.mk k336 0 none)) (Int.toNat x) (Int.toNat x), Value.slice (some (Addr.mk k341 0 none)) (Int.toNat x) (Int.toNat x), Value.slice (some (Addr.mk k340 0 none)) (Int.toNat x) (Int.toNat x), Value.slice (some (Addr.mk k268 0 none)) (Int.toNat x) (Int.toNat x), Value.slice (some (Addr.mk k335 0 none)) 16 16] →
              (∀ k342 : Nat, (∀ W347 : World, (k342 = Array.size (World.heap W346) →
              (W347 = World.alloc W346 (Obj.cells (Value.cells (Value.agg vs92)) 35) →
              (RowKit.Below (Array.size (World.heap W5)) W5 W347 ∧
              I2 (some (Addr.mk k342 0 none)) W347)))))))))))))))))))))))))) ∧
             ((((0 : Int) ≤ x ∧
               (x ≤ x ∧
               (x ≤ 9223372036854775807 ∧
               (↑1 : Int) * x ≤ 281474976710656))) ∧
              (∀ k343 : Nat, (∀ W348 : World, (k343 = Array.size (World.heap W340) →
              (W348 = World.alloc W340 (Obj.cells (madeCells #[Value.bool false] (Int.toNat x * 1)) 4) →
              (RowKit.Below (Array.size (World.heap W5)) W5 W348 ∧
              ((((0 : Int) ≤ x ∧
                (x ≤ x ∧
                (x ≤ 9223372036854775807 ∧
                (↑4 : Int) * x ≤ 281474976710656))) ∧
               (∀ k344 : Nat, (∀ W349 : World, (k344 = Array.size (World.heap W348) →
               (W349 = World.alloc W348 (Obj.cells (madeCells #[Value.int IntKind.u32 0] (Int.toNat x * 1)) 39) →
               (RowKit.Below (Array.size (World.heap W5)) W5 W349 ∧
               (((0 : Int) ≤ x ∧
                (x ≤ x ∧
                (x ≤ 9223372036854775807 ∧
                (↑1 : Int) * x ≤ 281474976710656))) ∧
               (∀ k345 : Nat, (∀ W350 : World, (k345 = Array.size (World.heap W349) →
               (W350 = World.alloc W349 (Obj.cells (madeCells #[Value.bool false] (Int.toNat x * 1)) 4) →
               (RowKit.Below (Array.size (World.heap W5)) W5 W350 ∧
               (∀ vs93 : Array Value, (vs93 = #[Value.pointer p, Value.slice arg2 (Int.toNat x) arg2c, Value.int IntKind.i64 0, Value.int IntKind.i64 0, Value.slice (some (Addr.mk k344 0 none)) (Int.toNat x) (Int.toNat x), Value.slice (some (Addr.mk k343 0 none)) (Int.toNat x) (Int.toNat x), Value.slice (some (Addr.mk k345 0 none)) (Int.toNat x) (Int.toNat x), Value.slice (some (Addr.mk k268 0 none)) (Int.toNat x) (Int.toNat x), Value.slice (some (Addr.mk k335 0 none)) 16 16] →
               (∀ k346 : Nat, (∀ W351 : World, (k346 = Array.size (World.heap W350) →
               (W351 = World.alloc W350 (Obj.cells (Value.cells (Value.agg vs93)) 35) →
               (RowKit.Below (Array.size (World.heap W5)) W5 W351 ∧
               I2 (some (Addr.mk k346 0 none)) W351))))))))))))))))))) ∧
              (((0 : Int) ≤ x ∧
               (x ≤ x ∧
               (x ≤ 9223372036854775807 ∧
               (↑1 : Int) * x ≤ 281474976710656))) ∧
              (∀ k347 : Nat, (∀ W352 : World, (k347 = Array.size (World.heap W348) →
              (W352 = World.alloc W348 (Obj.cells (madeCells #[Value.bool false] (Int.toNat x * 1)) 4) →
              (RowKit.Below (Array.size (World.heap W5)) W5 W352 ∧
              (((0 : Int) ≤ x ∧
               (x ≤ x ∧
               (x ≤ 9223372036854775807 ∧
               (↑4 : Int) * x ≤ 281474976710656))) ∧
              (∀ k348 : Nat, (∀ W353 : World, (k348 = Array.size (World.heap W352) →
              (W353 = World.alloc W352 (Obj.cells (madeCells #[Value.int IntKind.u32 0] (Int.toNat x * 1)) 39) →
              (RowKit.Below (Array.size (World.heap W5)) W5 W353 ∧
              (∀ vs94 : Array Value, (vs94 = #[Value.pointer p, Value.slice arg2 (Int.toNat x) arg2c, Value.int IntKind.i64 0, Value.int IntKind.i64 0, Value.slice (some (Addr.mk k348 0 none)) (Int.toNat x) (Int.toNat x), Value.slice (some (Addr.mk k343 0 none)) (Int.toNat x) (Int.toNat x), Value.slice (some (Addr.mk k347 0 none)) (Int.toNat x) (Int.toNat x), Value.slice (some (Addr.mk k268 0 none)) (Int.toNat x) (Int.toNat x), Value.slice (some (Addr.mk k335 0 none)) 16 16] →
              (∀ k349 : Nat, (∀ W354 : World, (k349 = Array.size (World.heap W353) →
              (W354 = World.alloc W353 (Obj.cells (Value.cells (Value.agg vs94)) 35) →
              (RowKit.Below (Array.size (World.heap W5)) W5 W354 ∧
              I2 (some (Addr.mk k349 0 none)) W354)))))))))))))))))))))))))) ∧
             (((0 : Int) ≤ x ∧
              (x ≤ x ∧
              (x ≤ 9223372036854775807 ∧
              (↑1 : Int) * x ≤ 281474976710656))) ∧
             (∀ k350 : Nat, (∀ W355 : World, (k350 = Array.size (World.heap W340) →
             (W355 = World.alloc W340 (Obj.cells (madeCells #[Value.bool false] (Int.toNat x * 1)) 4) →
             (RowKit.Below (Array.size (World.heap W5)) W5 W355 ∧
             ((((0 : Int) ≤ x ∧
               (x ≤ x ∧
               (x ≤ 9223372036854775807 ∧
               (↑4 : Int) * x ≤ 281474976710656))) ∧
              (∀ k351 : Nat, (∀ W356 : World, (k351 = Array.size (World.heap W355) →
              (W356 = World.alloc W355 (Obj.cells (madeCells #[Value.int IntKind.u32 0] (Int.toNat x * 1)) 39) →
              (RowKit.Below (Array.size (World.heap W5)) W5 W356 ∧
              (((0 : Int) ≤ x ∧
               (x ≤ x ∧
               (x ≤ 9223372036854775807 ∧
               (↑1 : Int) * x ≤ 281474976710656))) ∧
              (∀ k352 : Nat, (∀ W357 : World, (k352 = Array.size (World.heap W356) →
              (W357 = World.alloc W356 (Obj.cells (madeCells #[Value.bool false] (Int.toNat x * 1)) 4) →
              (RowKit.Below (Array.size (World.heap W5)) W5 W357 ∧
              (∀ vs95 : Array Value, (vs95 = #[Value.pointer p, Value.slice arg2 (Int.toNat x) arg2c, Value.int IntKind.i64 0, Value.int IntKind.i64 0, Value.slice (some (Addr.mk k351 0 none)) (Int.toNat x) (Int.toNat x), Value.slice (some (Addr.mk k352 0 none)) (Int.toNat x) (Int.toNat x), Value.slice (some (Addr.mk k350 0 none)) (Int.toNat x) (Int.toNat x), Value.slice (some (Addr.mk k268 0 none)) (Int.toNat x) (Int.toNat x), Value.slice (some (Addr.mk k335 0 none)) 16 16] →
              (∀ k353 : Nat, (∀ W358 : World, (k353 = Array.size (World.heap W357) →
              (W358 = World.alloc W357 (Obj.cells (Value.cells (Value.agg vs95)) 35) →
              (RowKit.Below (Array.size (World.heap W5)) W5 W358 ∧
              I2 (some (Addr.mk k353 0 none)) W358))))))))))))))))))) ∧
             (((0 : Int) ≤ x ∧
              (x ≤ x ∧
              (x ≤ 9223372036854775807 ∧
              (↑1 : Int) * x ≤ 281474976710656))) ∧
             (∀ k354 : Nat, (∀ W359 : World, (k354 = Array.size (World.heap W355) →
             (W359 = World.alloc W355 (Obj.cells (madeCells #[Value.bool false] (Int.toNat x * 1)) 4) →
             (RowKit.Below (Array.size (World.heap W5)) W5 W359 ∧
             (((0 : Int) ≤ x ∧
              (x ≤ x ∧
              (x ≤ 9223372036854775807 ∧
              (↑4 : Int) * x ≤ 281474976710656))) ∧
             (∀ k355 : Nat, (∀ W360 : World, (k355 = Array.size (World.heap W359) →
             (W360 = World.alloc W359 (Obj.cells (madeCells #[Value.int IntKind.u32 0] (Int.toNat x * 1)) 39) →
             (RowKit.Below (Array.size (World.heap W5)) W5 W360 ∧
             (∀ vs96 : Array Value, (vs96 = #[Value.pointer p, Value.slice arg2 (Int.toNat x) arg2c, Value.int IntKind.i64 0, Value.int IntKind.i64 0, Value.slice (some (Addr.mk k355 0 none)) (Int.toNat x) (Int.toNat x), Value.slice (some (Addr.mk k354 0 none)) (Int.toNat x) (Int.toNat x), Value.slice (some (Addr.mk k350 0 none)) (Int.toNat x) (Int.toNat x), Value.slice (some (Addr.mk k268 0 none)) (Int.toNat x) (Int.toNat x), Value.slice (some (Addr.mk k335 0 none)) 16 16] →
             (∀ k356 : Nat, (∀ W361 : World, (k356 = Array.size (World.heap W360) →
             (W361 = World.alloc W360 (Obj.cells (Value.cells (Value.agg vs96)) 35) →
             (RowKit.Below (Array.size (World.heap W5)) W5 W361 ∧
             I2 (some (Addr.mk k356 0 none)) W361))))))))))))))))))))))))))))))))))))))))))) ∧
            (((0 : Int) ≤ (16 : Int) ∧
             ((16 : Int) ≤ (16 : Int) ∧
             ((16 : Int) ≤ (9223372036854775807 : Int) ∧
             (↑1 : Int) * 16 ≤ 281474976710656))) ∧
            (∀ k357 : Nat, (∀ W362 : World, (k357 = Array.size (World.heap W5) →
            (W362 = World.alloc W5 (Obj.cells (madeCells #[Value.int IntKind.u8 0] 16) 5) →
            (RowKit.Below (Array.size (World.heap W5)) W5 W362 ∧
            ((((0 : Int) ≤ x ∧
              (x ≤ x ∧
              (x ≤ 9223372036854775807 ∧
              (↑4 : Int) * x ≤ 281474976710656))) ∧
             (∀ k358 : Nat, (∀ W363 : World, (k358 = Array.size (World.heap W362) →
             (W363 = World.alloc W362 (Obj.cells (madeCells #[Value.int IntKind.u32 0] (Int.toNat x * 1)) 39) →
             (RowKit.Below (Array.size (World.heap W5)) W5 W363 ∧
             ((((0 : Int) ≤ x ∧
               (x ≤ x ∧
               (x ≤ 9223372036854775807 ∧
               (↑1 : Int) * x ≤ 281474976710656))) ∧
              (∀ k359 : Nat, (∀ W364 : World, (k359 = Array.size (World.heap W363) →
              (W364 = World.alloc W363 (Obj.cells (madeCells #[Value.bool false] (Int.toNat x * 1)) 4) →
              (RowKit.Below (Array.size (World.heap W5)) W5 W364 ∧
              ((((0 : Int) ≤ x ∧
                (x ≤ x ∧
                (x ≤ 9223372036854775807 ∧
                (↑1 : Int) * x ≤ 281474976710656))) ∧
               (∀ k360 : Nat, (∀ W365 : World, (k360 = Array.size (World.heap W364) →
               (W365 = World.alloc W364 (Obj.cells (madeCells #[Value.bool false] (Int.toNat x * 1)) 4) →
               (RowKit.Below (Array.size (World.heap W5)) W5 W365 ∧
               (((0 : Int) ≤ x ∧
                (x ≤ x ∧
                (x ≤ 9223372036854775807 ∧
                (↑1 : Int) * x ≤ 281474976710656))) ∧
               (∀ k361 : Nat, (∀ W366 : World, (k361 = Array.size (World.heap W365) →
               (W366 = World.alloc W365 (Obj.cells (madeCells #[Value.bool false] (Int.toNat x * 1)) 4) →
               (RowKit.Below (Array.size (World.heap W5)) W5 W366 ∧
               (∀ vs97 : Array Value, (vs97 = #[Value.pointer p, Value.slice arg2 (Int.toNat x) arg2c, Value.int IntKind.i64 0, Value.int IntKind.i64 0, Value.slice (some (Addr.mk k358 0 none)) (Int.toNat x) (Int.toNat x), Value.slice (some (Addr.mk k359 0 none)) (Int.toNat x) (Int.toNat x), Value.slice (some (Addr.mk k360 0 none)) (Int.toNat x) (Int.toNat x), Value.slice (some (Addr.mk k361 0 none)) (Int.toNat x) (Int.toNat x), Value.slice (some (Addr.mk k357 0 none)) 16 16] →
               (∀ k362 : Nat, (∀ W367 : World, (k362 = Array.size (World.heap W366) →
               (W367 = World.alloc W366 (Obj.cells (Value.cells (Value.agg vs97)) 35) →
               (RowKit.Below (Array.size (World.heap W5)) W5 W367 ∧
               I2 (some (Addr.mk k362 0 none)) W367))))))))))))))))))) ∧
              (((0 : Int) ≤ x ∧
               (x ≤ x ∧
               (x ≤ 9223372036854775807 ∧
               (↑1 : Int) * x ≤ 281474976710656))) ∧
              (∀ k363 : Nat, (∀ W368 : World, (k363 = Array.size (World.heap W364) →
              (W368 = World.alloc W364 (Obj.cells (madeCells #[Value.bool false] (Int.toNat x * 1)) 4) →
              (RowKit.Below (Array.size (World.heap W5)) W5 W368 ∧
              (((0 : Int) ≤ x ∧
               (x ≤ x ∧
               (x ≤ 9223372036854775807 ∧
               (↑1 : Int) * x ≤ 281474976710656))) ∧
              (∀ k364 : Nat, (∀ W369 : World, (k364 = Array.size (World.heap W368) →
              (W369 = World.alloc W368 (Obj.cells (madeCells #[Value.bool false] (Int.toNat x * 1)) 4) →
              (RowKit.Below (Array.size (World.heap W5)) W5 W369 ∧
              (∀ vs98 : Array Value, (vs98 = #[Value.pointer p, Value.slice arg2 (Int.toNat x) arg2c, Value.int IntKind.i64 0, Value.int IntKind.i64 0, Value.slice (some (Addr.mk k358 0 none)) (Int.toNat x) (Int.toNat x), Value.slice (some (Addr.mk k359 0 none)) (Int.toNat x) (Int.toNat x), Value.slice (some (Addr.mk k364 0 none)) (Int.toNat x) (Int.toNat x), Value.slice (some (Addr.mk k363 0 none)) (Int.toNat x) (Int.toNat x), Value.slice (some (Addr.mk k357 0 none)) 16 16] →
              (∀ k365 : Nat, (∀ W370 : World, (k365 = Array.size (World.heap W369) →
              (W370 = World.alloc W369 (Obj.cells (Value.cells (Value.agg vs98)) 35) →
              (RowKit.Below (Array.size (World.heap W5)) W5 W370 ∧
              I2 (some (Addr.mk k365 0 none)) W370)))))))))))))))))))))))))) ∧
             ((((0 : Int) ≤ x ∧
               (x ≤ x ∧
               (x ≤ 9223372036854775807 ∧
               (↑1 : Int) * x ≤ 281474976710656))) ∧
              (∀ k366 : Nat, (∀ W371 : World, (k366 = Array.size (World.heap W363) →
              (W371 = World.alloc W363 (Obj.cells (madeCells #[Value.bool false] (Int.toNat x * 1)) 4) →
              (RowKit.Below (Array.size (World.heap W5)) W5 W371 ∧
              ((((0 : Int) ≤ x ∧
                (x ≤ x ∧
                (x ≤ 9223372036854775807 ∧
                (↑1 : Int) * x ≤ 281474976710656))) ∧
               (∀ k367 : Nat, (∀ W372 : World, (k367 = Array.size (World.heap W371) →
               (W372 = World.alloc W371 (Obj.cells (madeCells #[Value.bool false] (Int.toNat x * 1)) 4) →
               (RowKit.Below (Array.size (World.heap W5)) W5 W372 ∧
               (((0 : Int) ≤ x ∧
                (x ≤ x ∧
                (x ≤ 9223372036854775807 ∧
                (↑1 : Int) * x ≤ 281474976710656))) ∧
               (∀ k368 : Nat, (∀ W373 : World, (k368 = Array.size (World.heap W372) →
               (W373 = World.alloc W372 (Obj.cells (madeCells #[Value.bool false] (Int.toNat x * 1)) 4) →
               (RowKit.Below (Array.size (World.heap W5)) W5 W373 ∧
               (∀ vs99 : Array Value, (vs99 = #[Value.pointer p, Value.slice arg2 (Int.toNat x) arg2c, Value.int IntKind.i64 0, Value.int IntKind.i64 0, Value.slice (some (Addr.mk k358 0 none)) (Int.toNat x) (Int.toNat x), Value.slice (some (Addr.mk k367 0 none)) (Int.toNat x) (Int.toNat x), Value.slice (some (Addr.mk k366 0 none)) (Int.toNat x) (Int.toNat x), Value.slice (some (Addr.mk k368 0 none)) (Int.toNat x) (Int.toNat x), Value.slice (some (Addr.mk k357 0 none)) 16 16] →
               (∀ k369 : Nat, (∀ W374 : World, (k369 = Array.size (World.heap W373) →
               (W374 = World.alloc W373 (Obj.cells (Value.cells (Value.agg vs99)) 35) →
               (RowKit.Below (Array.size (World.heap W5)) W5 W374 ∧
               I2 (some (Addr.mk k369 0 none)) W374))))))))))))))))))) ∧
              (((0 : Int) ≤ x ∧
               (x ≤ x ∧
               (x ≤ 9223372036854775807 ∧
               (↑1 : Int) * x ≤ 281474976710656))) ∧
              (∀ k370 : Nat, (∀ W375 : World, (k370 = Array.size (World.heap W371) →
              (W375 = World.alloc W371 (Obj.cells (madeCells #[Value.bool false] (Int.toNat x * 1)) 4) →
              (RowKit.Below (Array.size (World.heap W5)) W5 W375 ∧
              (((0 : Int) ≤ x ∧
               (x ≤ x ∧
               (x ≤ 9223372036854775807 ∧
               (↑1 : Int) * x ≤ 281474976710656))) ∧
              (∀ k371 : Nat, (∀ W376 : World, (k371 = Array.size (World.heap W375) →
              (W376 = World.alloc W375 (Obj.cells (madeCells #[Value.bool false] (Int.toNat x * 1)) 4) →
              (RowKit.Below (Array.size (World.heap W5)) W5 W376 ∧
              (∀ vs100 : Array Value, (vs100 = #[Value.pointer p, Value.slice arg2 (Int.toNat x) arg2c, Value.int IntKind.i64 0, Value.int IntKind.i64 0, Value.slice (some (Addr.mk k358 0 none)) (Int.toNat x) (Int.toNat x), Value.slice (some (Addr.mk k371 0 none)) (Int.toNat x) (Int.toNat x), Value.slice (some (Addr.mk k366 0 none)) (Int.toNat x) (Int.toNat x), Value.slice (some (Addr.mk k370 0 none)) (Int.toNat x) (Int.toNat x), Value.slice (some (Addr.mk k357 0 none)) 16 16] →
              (∀ k372 : Nat, (∀ W377 : World, (k372 = Array.size (World.heap W376) →
              (W377 = World.alloc W376 (Obj.cells (Value.cells (Value.agg vs100)) 35) →
              (RowKit.Below (Array.size (World.heap W5)) W5 W377 ∧
              I2 (some (Addr.mk k372 0 none)) W377)))))))))))))))))))))))))) ∧
             (((0 : Int) ≤ x ∧
              (x ≤ x ∧
              (x ≤ 9223372036854775807 ∧
              (↑1 : Int) * x ≤ 281474976710656))) ∧
             (∀ k373 : Nat, (∀ W378 : World, (k373 = Array.size (World.heap W363) →
             (W378 = World.alloc W363 (Obj.cells (madeCells #[Value.bool false] (Int.toNat x * 1)) 4) →
             (RowKit.Below (Array.size (World.heap W5)) W5 W378 ∧
             ((((0 : Int) ≤ x ∧
               (x ≤ x ∧
               (x ≤ 9223372036854775807 ∧
               (↑1 : Int) * x ≤ 281474976710656))) ∧
              (∀ k374 : Nat, (∀ W379 : World, (k374 = Array.size (World.heap W378) →
              (W379 = World.alloc W378 (Obj.cells (madeCells #[Value.bool false] (Int.toNat x * 1)) 4) →
              (RowKit.Below (Array.size (World.heap W5)) W5 W379 ∧
              (((0 : Int) ≤ x ∧
               (x ≤ x ∧
               (x ≤ 9223372036854775807 ∧
               (↑1 : Int) * x ≤ 281474976710656))) ∧
              (∀ k375 : Nat, (∀ W380 : World, (k375 = Array.size (World.heap W379) →
              (W380 = World.alloc W379 (Obj.cells (madeCells #[Value.bool false] (Int.toNat x * 1)) 4) →
              (RowKit.Below (Array.size (World.heap W5)) W5 W380 ∧
              (∀ vs101 : Array Value, (vs101 = #[Value.pointer p, Value.slice arg2 (Int.toNat x) arg2c, Value.int IntKind.i64 0, Value.int IntKind.i64 0, Value.slice (some (Addr.mk k358 0 none)) (Int.toNat x) (Int.toNat x), Value.slice (some (Addr.mk k374 0 none)) (Int.toNat x) (Int.toNat x), Value.slice (some (Addr.mk k375 0 none)) (Int.toNat x) (Int.toNat x), Value.slice (some (Addr.mk k373 0 none)) (Int.toNat x) (Int.toNat x), Value.slice (some (Addr.mk k357 0 none)) 16 16] →
              (∀ k376 : Nat, (∀ W381 : World, (k376 = Array.size (World.heap W380) →
              (W381 = World.alloc W380 (Obj.cells (Value.cells (Value.agg vs101)) 35) →
              (RowKit.Below (Array.size (World.heap W5)) W5 W381 ∧
              I2 (some (Addr.mk k376 0 none)) W381))))))))))))))))))) ∧
             (((0 : Int) ≤ x ∧
              (x ≤ x ∧
              (x ≤ 9223372036854775807 ∧
              (↑1 : Int) * x ≤ 281474976710656))) ∧
             (∀ k377 : Nat, (∀ W382 : World, (k377 = Array.size (World.heap W378) →
             (W382 = World.alloc W378 (Obj.cells (madeCells #[Value.bool false] (Int.toNat x * 1)) 4) →
             (RowKit.Below (Array.size (World.heap W5)) W5 W382 ∧
             (((0 : Int) ≤ x ∧
              (x ≤ x ∧
              (x ≤ 9223372036854775807 ∧
              (↑1 : Int) * x ≤ 281474976710656))) ∧
             (∀ k378 : Nat, (∀ W383 : World, (k378 = Array.size (World.heap W382) →
             (W383 = World.alloc W382 (Obj.cells (madeCells #[Value.bool false] (Int.toNat x * 1)) 4) →
             (RowKit.Below (Array.size (World.heap W5)) W5 W383 ∧
             (∀ vs102 : Array Value, (vs102 = #[Value.pointer p, Value.slice arg2 (Int.toNat x) arg2c, Value.int IntKind.i64 0, Value.int IntKind.i64 0, Value.slice (some (Addr.mk k358 0 none)) (Int.toNat x) (Int.toNat x), Value.slice (some (Addr.mk k378 0 none)) (Int.toNat x) (Int.toNat x), Value.slice (some (Addr.mk k377 0 none)) (Int.toNat x) (Int.toNat x), Value.slice (some (Addr.mk k373 0 none)) (Int.toNat x) (Int.toNat x), Value.slice (some (Addr.mk k357 0 none)) 16 16] →
             (∀ k379 : Nat, (∀ W384 : World, (k379 = Array.size (World.heap W383) →
             (W384 = World.alloc W383 (Obj.cells (Value.cells (Value.agg vs102)) 35) →
             (RowKit.Below (Array.size (World.heap W5)) W5 W384 ∧
             I2 (some (Addr.mk k379 0 none)) W384)))))))))))))))))))))))))))))))))) ∧
            ((((0 : Int) ≤ x ∧
              (x ≤ x ∧
              (x ≤ 9223372036854775807 ∧
              (↑1 : Int) * x ≤ 281474976710656))) ∧
             (∀ k380 : Nat, (∀ W385 : World, (k380 = Array.size (World.heap W362) →
             (W385 = World.alloc W362 (Obj.cells (madeCells #[Value.bool false] (Int.toNat x * 1)) 4) →
             (RowKit.Below (Array.size (World.heap W5)) W5 W385 ∧
             ((((0 : Int) ≤ x ∧
               (x ≤ x ∧
               (x ≤ 9223372036854775807 ∧
               (↑4 : Int) * x ≤ 281474976710656))) ∧
              (∀ k381 : Nat, (∀ W386 : World, (k381 = Array.size (World.heap W385) →
              (W386 = World.alloc W385 (Obj.cells (madeCells #[Value.int IntKind.u32 0] (Int.toNat x * 1)) 39) →
              (RowKit.Below (Array.size (World.heap W5)) W5 W386 ∧
              ((((0 : Int) ≤ x ∧
                (x ≤ x ∧
                (x ≤ 9223372036854775807 ∧
                (↑1 : Int) * x ≤ 281474976710656))) ∧
               (∀ k382 : Nat, (∀ W387 : World, (k382 = Array.size (World.heap W386) →
               (W387 = World.alloc W386 (Obj.cells (madeCells #[Value.bool false] (Int.toNat x * 1)) 4) →
               (RowKit.Below (Array.size (World.heap W5)) W5 W387 ∧
               (((0 : Int) ≤ x ∧
                (x ≤ x ∧
                (x ≤ 9223372036854775807 ∧
                (↑1 : Int) * x ≤ 281474976710656))) ∧
               (∀ k383 : Nat, (∀ W388 : World, (k383 = Array.size (World.heap W387) →
               (W388 = World.alloc W387 (Obj.cells (madeCells #[Value.bool false] (Int.toNat x * 1)) 4) →
               (RowKit.Below (Array.size (World.heap W5)) W5 W388 ∧
               (∀ vs103 : Array Value, (vs103 = #[Value.pointer p, Value.slice arg2 (Int.toNat x) arg2c, Value.int IntKind.i64 0, Value.int IntKind.i64 0, Value.slice (some (Addr.mk k381 0 none)) (Int.toNat x) (Int.toNat x), Value.slice (some (Addr.mk k380 0 none)) (Int.toNat x) (Int.toNat x), Value.slice (some (Addr.mk k382 0 none)) (Int.toNat x) (Int.toNat x), Value.slice (some (Addr.mk k383 0 none)) (Int.toNat x) (Int.toNat x), Value.slice (some (Addr.mk k357 0 none)) 16 16] →
               (∀ k384 : Nat, (∀ W389 : World, (k384 = Array.size (World.heap W388) →
               (W389 = World.alloc W388 (Obj.cells (Value.cells (Value.agg vs103)) 35) →
               (RowKit.Below (Array.size (World.heap W5)) W5 W389 ∧
               I2 (some (Addr.mk k384 0 none)) W389))))))))))))))))))) ∧
              (((0 : Int) ≤ x ∧
               (x ≤ x ∧
               (x ≤ 9223372036854775807 ∧
               (↑1 : Int) * x ≤ 281474976710656))) ∧
              (∀ k385 : Nat, (∀ W390 : World, (k385 = Array.size (World.heap W386) →
              (W390 = World.alloc W386 (Obj.cells (madeCells #[Value.bool false] (Int.toNat x * 1)) 4) →
              (RowKit.Below (Array.size (World.heap W5)) W5 W390 ∧
              (((0 : Int) ≤ x ∧
               (x ≤ x ∧
               (x ≤ 9223372036854775807 ∧
               (↑1 : Int) * x ≤ 281474976710656))) ∧
              (∀ k386 : Nat, (∀ W391 : World, (k386 = Array.size (World.heap W390) →
              (W391 = World.alloc W390 (Obj.cells (madeCells #[Value.bool false] (Int.toNat x * 1)) 4) →
              (RowKit.Below (Array.size (World.heap W5)) W5 W391 ∧
              (∀ vs104 : Array Value, (vs104 = #[Value.pointer p, Value.slice arg2 (Int.toNat x) arg2c, Value.int IntKind.i64 0, Value.int IntKind.i64 0, Value.slice (some (Addr.mk k381 0 none)) (Int.toNat x) (Int.toNat x), Value.slice (some (Addr.mk k380 0 none)) (Int.toNat x) (Int.toNat x), Value.slice (some (Addr.mk k386 0 none)) (Int.toNat x) (Int.toNat x), Value.slice (some (Addr.mk k385 0 none)) (Int.toNat x) (Int.toNat x), Value.slice (some (Addr.mk k357 0 none)) 16 16] →
              (∀ k387 : Nat, (∀ W392 : World, (k387 = Array.size (World.heap W391) →
              (W392 = World.alloc W391 (Obj.cells (Value.cells (Value.agg vs104)) 35) →
              (RowKit.Below (Array.size (World.heap W5)) W5 W392 ∧
              I2 (some (Addr.mk k387 0 none)) W392)))))))))))))))))))))))))) ∧
             ((((0 : Int) ≤ x ∧
               (x ≤ x ∧
               (x ≤ 9223372036854775807 ∧
               (↑1 : Int) * x ≤ 281474976710656))) ∧
              (∀ k388 : Nat, (∀ W393 : World, (k388 = Array.size (World.heap W385) →
              (W393 = World.alloc W385 (Obj.cells (madeCells #[Value.bool false] (Int.toNat x * 1)) 4) →
              (RowKit.Below (Array.size (World.heap W5)) W5 W393 ∧
              ((((0 : Int) ≤ x ∧
                (x ≤ x ∧
                (x ≤ 9223372036854775807 ∧
                (↑4 : Int) * x ≤ 281474976710656))) ∧
               (∀ k389 : Nat, (∀ W394 : World, (k389 = Array.size (World.heap W393) →
               (W394 = World.alloc W393 (Obj.cells (madeCells #[Value.int IntKind.u32 0] (Int.toNat x * 1)) 39) →
               (RowKit.Below (Array.size (World.heap W5)) W5 W394 ∧
               (((0 : Int) ≤ x ∧
                (x ≤ x ∧
                (x ≤ 9223372036854775807 ∧
                (↑1 : Int) * x ≤ 281474976710656))) ∧
               (∀ k390 : Nat, (∀ W395 : World, (k390 = Array.size (World.heap W394) →
               (W395 = World.alloc W394 (Obj.cells (madeCells #[Value.bool false] (Int.toNat x * 1)) 4) →
               (RowKit.Below (Array.size (World.heap W5)) W5 W395 ∧
               (∀ vs105 : Array Value, (vs105 = #[Value.pointer p, Value.slice arg2 (Int.toNat x) arg2c, Value.int IntKind.i64 0, Value.int IntKind.i64 0, Value.slice (some (Addr.mk k389 0 none)) (Int.toNat x) (Int.toNat x), Value.slice (some (Addr.mk k380 0 none)) (Int.toNat x) (Int.toNat x), Value.slice (some (Addr.mk k388 0 none)) (Int.toNat x) (Int.toNat x), Value.slice (some (Addr.mk k390 0 none)) (Int.toNat x) (Int.toNat x), Value.slice (some (Addr.mk k357 0 none)) 16 16] →
               (∀ k391 : Nat, (∀ W396 : World, (k391 = Array.size (World.heap W395) →
               (W396 = World.alloc W395 (Obj.cells (Value.cells (Value.agg vs105)) 35) →
               (RowKit.Below (Array.size (World.heap W5)) W5 W396 ∧
               I2 (some (Addr.mk k391 0 none)) W396))))))))))))))))))) ∧
              (((0 : Int) ≤ x ∧
               (x ≤ x ∧
               (x ≤ 9223372036854775807 ∧
               (↑1 : Int) * x ≤ 281474976710656))) ∧
              (∀ k392 : Nat, (∀ W397 : World, (k392 = Array.size (World.heap W393) →
              (W397 = World.alloc W393 (Obj.cells (madeCells #[Value.bool false] (Int.toNat x * 1)) 4) →
              (RowKit.Below (Array.size (World.heap W5)) W5 W397 ∧
              (((0 : Int) ≤ x ∧
               (x ≤ x ∧
               (x ≤ 9223372036854775807 ∧
               (↑4 : Int) * x ≤ 281474976710656))) ∧
              (∀ k393 : Nat, (∀ W398 : World, (k393 = Array.size (World.heap W397) →
              (W398 = World.alloc W397 (Obj.cells (madeCells #[Value.int IntKind.u32 0] (Int.toNat x * 1)) 39) →
              (RowKit.Below (Array.size (World.heap W5)) W5 W398 ∧
              (∀ vs106 : Array Value, (vs106 = #[Value.pointer p, Value.slice arg2 (Int.toNat x) arg2c, Value.int IntKind.i64 0, Value.int IntKind.i64 0, Value.slice (some (Addr.mk k393 0 none)) (Int.toNat x) (Int.toNat x), Value.slice (some (Addr.mk k380 0 none)) (Int.toNat x) (Int.toNat x), Value.slice (some (Addr.mk k388 0 none)) (Int.toNat x) (Int.toNat x), Value.slice (some (Addr.mk k392 0 none)) (Int.toNat x) (Int.toNat x), Value.slice (some (Addr.mk k357 0 none)) 16 16] →
              (∀ k394 : Nat, (∀ W399 : World, (k394 = Array.size (World.heap W398) →
              (W399 = World.alloc W398 (Obj.cells (Value.cells (Value.agg vs106)) 35) →
              (RowKit.Below (Array.size (World.heap W5)) W5 W399 ∧
              I2 (some (Addr.mk k394 0 none)) W399)))))))))))))))))))))))))) ∧
             (((0 : Int) ≤ x ∧
              (x ≤ x ∧
              (x ≤ 9223372036854775807 ∧
              (↑1 : Int) * x ≤ 281474976710656))) ∧
             (∀ k395 : Nat, (∀ W400 : World, (k395 = Array.size (World.heap W385) →
             (W400 = World.alloc W385 (Obj.cells (madeCells #[Value.bool false] (Int.toNat x * 1)) 4) →
             (RowKit.Below (Array.size (World.heap W5)) W5 W400 ∧
             ((((0 : Int) ≤ x ∧
               (x ≤ x ∧
               (x ≤ 9223372036854775807 ∧
               (↑4 : Int) * x ≤ 281474976710656))) ∧
              (∀ k396 : Nat, (∀ W401 : World, (k396 = Array.size (World.heap W400) →
              (W401 = World.alloc W400 (Obj.cells (madeCells #[Value.int IntKind.u32 0] (Int.toNat x * 1)) 39) →
              (RowKit.Below (Array.size (World.heap W5)) W5 W401 ∧
              (((0 : Int) ≤ x ∧
               (x ≤ x ∧
               (x ≤ 9223372036854775807 ∧
               (↑1 : Int) * x ≤ 281474976710656))) ∧
              (∀ k397 : Nat, (∀ W402 : World, (k397 = Array.size (World.heap W401) →
              (W402 = World.alloc W401 (Obj.cells (madeCells #[Value.bool false] (Int.toNat x * 1)) 4) →
              (RowKit.Below (Array.size (World.heap W5)) W5 W402 ∧
              (∀ vs107 : Array Value, (vs107 = #[Value.pointer p, Value.slice arg2 (Int.toNat x) arg2c, Value.int IntKind.i64 0, Value.int IntKind.i64 0, Value.slice (some (Addr.mk k396 0 none)) (Int.toNat x) (Int.toNat x), Value.slice (some (Addr.mk k380 0 none)) (Int.toNat x) (Int.toNat x), Value.slice (some (Addr.mk k397 0 none)) (Int.toNat x) (Int.toNat x), Value.slice (some (Addr.mk k395 0 none)) (Int.toNat x) (Int.toNat x), Value.slice (some (Addr.mk k357 0 none)) 16 16] →
              (∀ k398 : Nat, (∀ W403 : World, (k398 = Array.size (World.heap W402) →
              (W403 = World.alloc W402 (Obj.cells (Value.cells (Value.agg vs107)) 35) →
              (RowKit.Below (Array.size (World.heap W5)) W5 W403 ∧
              I2 (some (Addr.mk k398 0 none)) W403))))))))))))))))))) ∧
             (((0 : Int) ≤ x ∧
              (x ≤ x ∧
              (x ≤ 9223372036854775807 ∧
              (↑1 : Int) * x ≤ 281474976710656))) ∧
             (∀ k399 : Nat, (∀ W404 : World, (k399 = Array.size (World.heap W400) →
             (W404 = World.alloc W400 (Obj.cells (madeCells #[Value.bool false] (Int.toNat x * 1)) 4) →
             (RowKit.Below (Array.size (World.heap W5)) W5 W404 ∧
             (((0 : Int) ≤ x ∧
              (x ≤ x ∧
              (x ≤ 9223372036854775807 ∧
              (↑4 : Int) * x ≤ 281474976710656))) ∧
             (∀ k400 : Nat, (∀ W405 : World, (k400 = Array.size (World.heap W404) →
             (W405 = World.alloc W404 (Obj.cells (madeCells #[Value.int IntKind.u32 0] (Int.toNat x * 1)) 39) →
             (RowKit.Below (Array.size (World.heap W5)) W5 W405 ∧
             (∀ vs108 : Array Value, (vs108 = #[Value.pointer p, Value.slice arg2 (Int.toNat x) arg2c, Value.int IntKind.i64 0, Value.int IntKind.i64 0, Value.slice (some (Addr.mk k400 0 none)) (Int.toNat x) (Int.toNat x), Value.slice (some (Addr.mk k380 0 none)) (Int.toNat x) (Int.toNat x), Value.slice (some (Addr.mk k399 0 none)) (Int.toNat x) (Int.toNat x), Value.slice (some (Addr.mk k395 0 none)) (Int.toNat x) (Int.toNat x), Value.slice (some (Addr.mk k357 0 none)) 16 16] →
             (∀ k401 : Nat, (∀ W406 : World, (k401 = Array.size (World.heap W405) →
             (W406 = World.alloc W405 (Obj.cells (Value.cells (Value.agg vs108)) 35) →
             (RowKit.Below (Array.size (World.heap W5)) W5 W406 ∧
             I2 (some (Addr.mk k401 0 none)) W406)))))))))))))))))))))))))))))))))) ∧
            ((((0 : Int) ≤ x ∧
              (x ≤ x ∧
              (x ≤ 9223372036854775807 ∧
              (↑1 : Int) * x ≤ 281474976710656))) ∧
             (∀ k402 : Nat, (∀ W407 : World, (k402 = Array.size (World.heap W362) →
             (W407 = World.alloc W362 (Obj.cells (madeCells #[Value.bool false] (Int.toNat x * 1)) 4) →
             (RowKit.Below (Array.size (World.heap W5)) W5 W407 ∧
             ((((0 : Int) ≤ x ∧
               (x ≤ x ∧
               (x ≤ 9223372036854775807 ∧
               (↑4 : Int) * x ≤ 281474976710656))) ∧
              (∀ k403 : Nat, (∀ W408 : World, (k403 = Array.size (World.heap W407) →
              (W408 = World.alloc W407 (Obj.cells (madeCells #[Value.int IntKind.u32 0] (Int.toNat x * 1)) 39) →
              (RowKit.Below (Array.size (World.heap W5)) W5 W408 ∧
              ((((0 : Int) ≤ x ∧
                (x ≤ x ∧
                (x ≤ 9223372036854775807 ∧
                (↑1 : Int) * x ≤ 281474976710656))) ∧
               (∀ k404 : Nat, (∀ W409 : World, (k404 = Array.size (World.heap W408) →
               (W409 = World.alloc W408 (Obj.cells (madeCells #[Value.bool false] (Int.toNat x * 1)) 4) →
               (RowKit.Below (Array.size (World.heap W5)) W5 W409 ∧
               (((0 : Int) ≤ x ∧
                (x ≤ x ∧
                (x ≤ 9223372036854775807 ∧
                (↑1 : Int) * x ≤ 281474976710656))) ∧
               (∀ k405 : Nat, (∀ W410 : World, (k405 = Array.size (World.heap W409) →
               (W410 = World.alloc W409 (Obj.cells (madeCells #[Value.bool false] (Int.toNat x * 1)) 4) →
               (RowKit.Below (Array.size (World.heap W5)) W5 W410 ∧
               (∀ vs109 : Array Value, (vs109 = #[Value.pointer p, Value.slice arg2 (Int.toNat x) arg2c, Value.int IntKind.i64 0, Value.int IntKind.i64 0, Value.slice (some (Addr.mk k403 0 none)) (Int.toNat x) (Int.toNat x), Value.slice (some (Addr.mk k404 0 none)) (Int.toNat x) (Int.toNat x), Value.slice (some (Addr.mk k402 0 none)) (Int.toNat x) (Int.toNat x), Value.slice (some (Addr.mk k405 0 none)) (Int.toNat x) (Int.toNat x), Value.slice (some (Addr.mk k357 0 none)) 16 16] →
               (∀ k406 : Nat, (∀ W411 : World, (k406 = Array.size (World.heap W410) →
               (W411 = World.alloc W410 (Obj.cells (Value.cells (Value.agg vs109)) 35) →
               (RowKit.Below (Array.size (World.heap W5)) W5 W411 ∧
               I2 (some (Addr.mk k406 0 none)) W411))))))))))))))))))) ∧
              (((0 : Int) ≤ x ∧
               (x ≤ x ∧
               (x ≤ 9223372036854775807 ∧
               (↑1 : Int) * x ≤ 281474976710656))) ∧
              (∀ k407 : Nat, (∀ W412 : World, (k407 = Array.size (World.heap W408) →
              (W412 = World.alloc W408 (Obj.cells (madeCells #[Value.bool false] (Int.toNat x * 1)) 4) →
              (RowKit.Below (Array.size (World.heap W5)) W5 W412 ∧
              (((0 : Int) ≤ x ∧
               (x ≤ x ∧
               (x ≤ 9223372036854775807 ∧
               (↑1 : Int) * x ≤ 281474976710656))) ∧
              (∀ k408 : Nat, (∀ W413 : World, (k408 = Array.size (World.heap W412) →
              (W413 = World.alloc W412 (Obj.cells (madeCells #[Value.bool false] (Int.toNat x * 1)) 4) →
              (RowKit.Below (Array.size (World.heap W5)) W5 W413 ∧
              (∀ vs110 : Array Value, (vs110 = #[Value.pointer p, Value.slice arg2 (Int.toNat x) arg2c, Value.int IntKind.i64 0, Value.int IntKind.i64 0, Value.slice (some (Addr.mk k403 0 none)) (Int.toNat x) (Int.toNat x), Value.slice (some (Addr.mk k408 0 none)) (Int.toNat x) (Int.toNat x), Value.slice (some (Addr.mk k402 0 none)) (Int.toNat x) (Int.toNat x), Value.slice (some (Addr.mk k407 0 none)) (Int.toNat x) (Int.toNat x), Value.slice (some (Addr.mk k357 0 none)) 16 16] →
              (∀ k409 : Nat, (∀ W414 : World, (k409 = Array.size (World.heap W413) →
              (W414 = World.alloc W413 (Obj.cells (Value.cells (Value.agg vs110)) 35) →
              (RowKit.Below (Array.size (World.heap W5)) W5 W414 ∧
              I2 (some (Addr.mk k409 0 none)) W414)))))))))))))))))))))))))) ∧
             ((((0 : Int) ≤ x ∧
               (x ≤ x ∧
               (x ≤ 9223372036854775807 ∧
               (↑1 : Int) * x ≤ 281474976710656))) ∧
              (∀ k410 : Nat, (∀ W415 : World, (k410 = Array.size (World.heap W407) →
              (W415 = World.alloc W407 (Obj.cells (madeCells #[Value.bool false] (Int.toNat x * 1)) 4) →
              (RowKit.Below (Array.size (World.heap W5)) W5 W415 ∧
              ((((0 : Int) ≤ x ∧
                (x ≤ x ∧
                (x ≤ 9223372036854775807 ∧
                (↑4 : Int) * x ≤ 281474976710656))) ∧
               (∀ k411 : Nat, (∀ W416 : World, (k411 = Array.size (World.heap W415) →
               (W416 = World.alloc W415 (Obj.cells (madeCells #[Value.int IntKind.u32 0] (Int.toNat x * 1)) 39) →
               (RowKit.Below (Array.size (World.heap W5)) W5 W416 ∧
               (((0 : Int) ≤ x ∧
                (x ≤ x ∧
                (x ≤ 9223372036854775807 ∧
                (↑1 : Int) * x ≤ 281474976710656))) ∧
               (∀ k412 : Nat, (∀ W417 : World, (k412 = Array.size (World.heap W416) →
               (W417 = World.alloc W416 (Obj.cells (madeCells #[Value.bool false] (Int.toNat x * 1)) 4) →
               (RowKit.Below (Array.size (World.heap W5)) W5 W417 ∧
               (∀ vs111 : Array Value, (vs111 = #[Value.pointer p, Value.slice arg2 (Int.toNat x) arg2c, Value.int IntKind.i64 0, Value.int IntKind.i64 0, Value.slice (some (Addr.mk k411 0 none)) (Int.toNat x) (Int.toNat x), Value.slice (some (Addr.mk k410 0 none)) (Int.toNat x) (Int.toNat x), Value.slice (some (Addr.mk k402 0 none)) (Int.toNat x) (Int.toNat x), Value.slice (some (Addr.mk k412 0 none)) (Int.toNat x) (Int.toNat x), Value.slice (some (Addr.mk k357 0 none)) 16 16] →
               (∀ k413 : Nat, (∀ W418 : World, (k413 = Array.size (World.heap W417) →
               (W418 = World.alloc W417 (Obj.cells (Value.cells (Value.agg vs111)) 35) →
               (RowKit.Below (Array.size (World.heap W5)) W5 W418 ∧
               I2 (some (Addr.mk k413 0 none)) W418))))))))))))))))))) ∧
              (((0 : Int) ≤ x ∧
               (x ≤ x ∧
               (x ≤ 9223372036854775807 ∧
               (↑1 : Int) * x ≤ 281474976710656))) ∧
              (∀ k414 : Nat, (∀ W419 : World, (k414 = Array.size (World.heap W415) →
              (W419 = World.alloc W415 (Obj.cells (madeCells #[Value.bool false] (Int.toNat x * 1)) 4) →
              (RowKit.Below (Array.size (World.heap W5)) W5 W419 ∧
              (((0 : Int) ≤ x ∧
               (x ≤ x ∧
               (x ≤ 9223372036854775807 ∧
               (↑4 : Int) * x ≤ 281474976710656))) ∧
              (∀ k415 : Nat, (∀ W420 : World, (k415 = Array.size (World.heap W419) →
              (W420 = World.alloc W419 (Obj.cells (madeCells #[Value.int IntKind.u32 0] (Int.toNat x * 1)) 39) →
              (RowKit.Below (Array.size (World.heap W5)) W5 W420 ∧
              (∀ vs112 : Array Value, (vs112 = #[Value.pointer p, Value.slice arg2 (Int.toNat x) arg2c, Value.int IntKind.i64 0, Value.int IntKind.i64 0, Value.slice (some (Addr.mk k415 0 none)) (Int.toNat x) (Int.toNat x), Value.slice (some (Addr.mk k410 0 none)) (Int.toNat x) (Int.toNat x), Value.slice (some (Addr.mk k402 0 none)) (Int.toNat x) (Int.toNat x), Value.slice (some (Addr.mk k414 0 none)) (Int.toNat x) (Int.toNat x), Value.slice (some (Addr.mk k357 0 none)) 16 16] →
              (∀ k416 : Nat, (∀ W421 : World, (k416 = Array.size (World.heap W420) →
              (W421 = World.alloc W420 (Obj.cells (Value.cells (Value.agg vs112)) 35) →
              (RowKit.Below (Array.size (World.heap W5)) W5 W421 ∧
              I2 (some (Addr.mk k416 0 none)) W421)))))))))))))))))))))))))) ∧
             (((0 : Int) ≤ x ∧
              (x ≤ x ∧
              (x ≤ 9223372036854775807 ∧
              (↑1 : Int) * x ≤ 281474976710656))) ∧
             (∀ k417 : Nat, (∀ W422 : World, (k417 = Array.size (World.heap W407) →
             (W422 = World.alloc W407 (Obj.cells (madeCells #[Value.bool false] (Int.toNat x * 1)) 4) →
             (RowKit.Below (Array.size (World.heap W5)) W5 W422 ∧
             ((((0 : Int) ≤ x ∧
               (x ≤ x ∧
               (x ≤ 9223372036854775807 ∧
               (↑4 : Int) * x ≤ 281474976710656))) ∧
              (∀ k418 : Nat, (∀ W423 : World, (k418 = Array.size (World.heap W422) →
              (W423 = World.alloc W422 (Obj.cells (madeCells #[Value.int IntKind.u32 0] (Int.toNat x * 1)) 39) →
              (RowKit.Below (Array.size (World.heap W5)) W5 W423 ∧
              (((0 : Int) ≤ x ∧
               (x ≤ x ∧
               (x ≤ 9223372036854775807 ∧
               (↑1 : Int) * x ≤ 281474976710656))) ∧
              (∀ k419 : Nat, (∀ W424 : World, (k419 = Array.size (World.heap W423) →
              (W424 = World.alloc W423 (Obj.cells (madeCells #[Value.bool false] (Int.toNat x * 1)) 4) →
              (RowKit.Below (Array.size (World.heap W5)) W5 W424 ∧
              (∀ vs113 : Array Value, (vs113 = #[Value.pointer p, Value.slice arg2 (Int.toNat x) arg2c, Value.int IntKind.i64 0, Value.int IntKind.i64 0, Value.slice (some (Addr.mk k418 0 none)) (Int.toNat x) (Int.toNat x), Value.slice (some (Addr.mk k419 0 none)) (Int.toNat x) (Int.toNat x), Value.slice (some (Addr.mk k402 0 none)) (Int.toNat x) (Int.toNat x), Value.slice (some (Addr.mk k417 0 none)) (Int.toNat x) (Int.toNat x), Value.slice (some (Addr.mk k357 0 none)) 16 16] →
              (∀ k420 : Nat, (∀ W425 : World, (k420 = Array.size (World.heap W424) →
              (W425 = World.alloc W424 (Obj.cells (Value.cells (Value.agg vs113)) 35) →
              (RowKit.Below (Array.size (World.heap W5)) W5 W425 ∧
              I2 (some (Addr.mk k420 0 none)) W425))))))))))))))))))) ∧
             (((0 : Int) ≤ x ∧
              (x ≤ x ∧
              (x ≤ 9223372036854775807 ∧
              (↑1 : Int) * x ≤ 281474976710656))) ∧
             (∀ k421 : Nat, (∀ W426 : World, (k421 = Array.size (World.heap W422) →
             (W426 = World.alloc W422 (Obj.cells (madeCells #[Value.bool false] (Int.toNat x * 1)) 4) →
             (RowKit.Below (Array.size (World.heap W5)) W5 W426 ∧
             (((0 : Int) ≤ x ∧
              (x ≤ x ∧
              (x ≤ 9223372036854775807 ∧
              (↑4 : Int) * x ≤ 281474976710656))) ∧
             (∀ k422 : Nat, (∀ W427 : World, (k422 = Array.size (World.heap W426) →
             (W427 = World.alloc W426 (Obj.cells (madeCells #[Value.int IntKind.u32 0] (Int.toNat x * 1)) 39) →
             (RowKit.Below (Array.size (World.heap W5)) W5 W427 ∧
             (∀ vs114 : Array Value, (vs114 = #[Value.pointer p, Value.slice arg2 (Int.toNat x) arg2c, Value.int IntKind.i64 0, Value.int IntKind.i64 0, Value.slice (some (Addr.mk k422 0 none)) (Int.toNat x) (Int.toNat x), Value.slice (some (Addr.mk k421 0 none)) (Int.toNat x) (Int.toNat x), Value.slice (some (Addr.mk k402 0 none)) (Int.toNat x) (Int.toNat x), Value.slice (some (Addr.mk k417 0 none)) (Int.toNat x) (Int.toNat x), Value.slice (some (Addr.mk k357 0 none)) 16 16] →
             (∀ k423 : Nat, (∀ W428 : World, (k423 = Array.size (World.heap W427) →
             (W428 = World.alloc W427 (Obj.cells (Value.cells (Value.agg vs114)) 35) →
             (RowKit.Below (Array.size (World.heap W5)) W5 W428 ∧
             I2 (some (Addr.mk k423 0 none)) W428)))))))))))))))))))))))))))))))))) ∧
            (((0 : Int) ≤ x ∧
             (x ≤ x ∧
             (x ≤ 9223372036854775807 ∧
             (↑1 : Int) * x ≤ 281474976710656))) ∧
            (∀ k424 : Nat, (∀ W429 : World, (k424 = Array.size (World.heap W362) →
            (W429 = World.alloc W362 (Obj.cells (madeCells #[Value.bool false] (Int.toNat x * 1)) 4) →
            (RowKit.Below (Array.size (World.heap W5)) W5 W429 ∧
            ((((0 : Int) ≤ x ∧
              (x ≤ x ∧
              (x ≤ 9223372036854775807 ∧
              (↑4 : Int) * x ≤ 281474976710656))) ∧
             (∀ k425 : Nat, (∀ W430 : World, (k425 = Array.size (World.heap W429) →
             (W430 = World.alloc W429 (Obj.cells (madeCells #[Value.int IntKind.u32 0] (Int.toNat x * 1)) 39) →
             (RowKit.Below (Array.size (World.heap W5)) W5 W430 ∧
             ((((0 : Int) ≤ x ∧
               (x ≤ x ∧
               (x ≤ 9223372036854775807 ∧
               (↑1 : Int) * x ≤ 281474976710656))) ∧
              (∀ k426 : Nat, (∀ W431 : World, (k426 = Array.size (World.heap W430) →
              (W431 = World.alloc W430 (Obj.cells (madeCells #[Value.bool false] (Int.toNat x * 1)) 4) →
              (RowKit.Below (Array.size (World.heap W5)) W5 W431 ∧
              (((0 : Int) ≤ x ∧
               (x ≤ x ∧
               (x ≤ 9223372036854775807 ∧
               (↑1 : Int) * x ≤ 281474976710656))) ∧
              (∀ k427 : Nat, (∀ W432 : World, (k427 = Array.size (World.heap W431) →
              (W432 = World.alloc W431 (Obj.cells (madeCells #[Value.bool false] (Int.toNat x * 1)) 4) →
              (RowKit.Below (Array.size (World.heap W5)) W5 W432 ∧
              (∀ vs115 : Array Value, (vs115 = #[Value.pointer p, Value.slice arg2 (Int.toNat x) arg2c, Value.int IntKind.i64 0, Value.int IntKind.i64 0, Value.slice (some (Addr.mk k425 0 none)) (Int.toNat x) (Int.toNat x), Value.slice (some (Addr.mk k426 0 none)) (Int.toNat x) (Int.toNat x), Value.slice (some (Addr.mk k427 0 none)) (Int.toNat x) (Int.toNat x), Value.slice (some (Addr.mk k424 0 none)) (Int.toNat x) (Int.toNat x), Value.slice (some (Addr.mk k357 0 none)) 16 16] →
              (∀ k428 : Nat, (∀ W433 : World, (k428 = Array.size (World.heap W432) →
              (W433 = World.alloc W432 (Obj.cells (Value.cells (Value.agg vs115)) 35) →
              (RowKit.Below (Array.size (World.heap W5)) W5 W433 ∧
              I2 (some (Addr.mk k428 0 none)) W433))))))))))))))))))) ∧
             (((0 : Int) ≤ x ∧
              (x ≤ x ∧
              (x ≤ 9223372036854775807 ∧
              (↑1 : Int) * x ≤ 281474976710656))) ∧
             (∀ k429 : Nat, (∀ W434 : World, (k429 = Array.size (World.heap W430) →
             (W434 = World.alloc W430 (Obj.cells (madeCells #[Value.bool false] (Int.toNat x * 1)) 4) →
             (RowKit.Below (Array.size (World.heap W5)) W5 W434 ∧
             (((0 : Int) ≤ x ∧
              (x ≤ x ∧
              (x ≤ 9223372036854775807 ∧
              (↑1 : Int) * x ≤ 281474976710656))) ∧
             (∀ k430 : Nat, (∀ W435 : World, (k430 = Array.size (World.heap W434) →
             (W435 = World.alloc W434 (Obj.cells (madeCells #[Value.bool false] (Int.toNat x * 1)) 4) →
             (RowKit.Below (Array.size (World.heap W5)) W5 W435 ∧
             (∀ vs116 : Array Value, (vs116 = #[Value.pointer p, Value.slice arg2 (Int.toNat x) arg2c, Value.int IntKind.i64 0, Value.int IntKind.i64 0, Value.slice (some (Addr.mk k425 0 none)) (Int.toNat x) (Int.toNat x), Value.slice (some (Addr.mk k430 0 none)) (Int.toNat x) (Int.toNat x), Value.slice (some (Addr.mk k429 0 none)) (Int.toNat x) (Int.toNat x), Value.slice (some (Addr.mk k424 0 none)) (Int.toNat x) (Int.toNat x), Value.slice (some (Addr.mk k357 0 none)) 16 16] →
             (∀ k431 : Nat, (∀ W436 : World, (k431 = Array.size (World.heap W435) →
             (W436 = World.alloc W435 (Obj.cells (Value.cells (Value.agg vs116)) 35) →
             (RowKit.Below (Array.size (World.heap W5)) W5 W436 ∧
             I2 (some (Addr.mk k431 0 none)) W436)))))))))))))))))))))))))) ∧
            ((((0 : Int) ≤ x ∧
              (x ≤ x ∧
              (x ≤ 9223372036854775807 ∧
              (↑1 : Int) * x ≤ 281474976710656))) ∧
             (∀ k432 : Nat, (∀ W437 : World, (k432 = Array.size (World.heap W429) →
             (W437 = World.alloc W429 (Obj.cells (madeCells #[Value.bool false] (Int.toNat x * 1)) 4) →
             (RowKit.Below (Array.size (World.heap W5)) W5 W437 ∧
             ((((0 : Int) ≤ x ∧
               (x ≤ x ∧
               (x ≤ 9223372036854775807 ∧
               (↑4 : Int) * x ≤ 281474976710656))) ∧
              (∀ k433 : Nat, (∀ W438 : World, (k433 = Array.size (World.heap W437) →
              (W438 = World.alloc W437 (Obj.cells (madeCells #[Value.int IntKind.u32 0] (Int.toNat x * 1)) 39) →
              (RowKit.Below (Array.size (World.heap W5)) W5 W438 ∧
              (((0 : Int) ≤ x ∧
               (x ≤ x ∧
               (x ≤ 9223372036854775807 ∧
               (↑1 : Int) * x ≤ 281474976710656))) ∧
              (∀ k434 : Nat, (∀ W439 : World, (k434 = Array.size (World.heap W438) →
              (W439 = World.alloc W438 (Obj.cells (madeCells #[Value.bool false] (Int.toNat x * 1)) 4) →
              (RowKit.Below (Array.size (World.heap W5)) W5 W439 ∧
              (∀ vs117 : Array Value, (vs117 = #[Value.pointer p, Value.slice arg2 (Int.toNat x) arg2c, Value.int IntKind.i64 0, Value.int IntKind.i64 0, Value.slice (some (Addr.mk k433 0 none)) (Int.toNat x) (Int.toNat x), Value.slice (some (Addr.mk k432 0 none)) (Int.toNat x) (Int.toNat x), Value.slice (some (Addr.mk k434 0 none)) (Int.toNat x) (Int.toNat x), Value.slice (some (Addr.mk k424 0 none)) (Int.toNat x) (Int.toNat x), Value.slice (some (Addr.mk k357 0 none)) 16 16] →
              (∀ k435 : Nat, (∀ W440 : World, (k435 = Array.size (World.heap W439) →
              (W440 = World.alloc W439 (Obj.cells (Value.cells (Value.agg vs117)) 35) →
              (RowKit.Below (Array.size (World.heap W5)) W5 W440 ∧
              I2 (some (Addr.mk k435 0 none)) W440))))))))))))))))))) ∧
             (((0 : Int) ≤ x ∧
              (x ≤ x ∧
              (x ≤ 9223372036854775807 ∧
              (↑1 : Int) * x ≤ 281474976710656))) ∧
             (∀ k436 : Nat, (∀ W441 : World, (k436 = Array.size (World.heap W437) →
             (W441 = World.alloc W437 (Obj.cells (madeCells #[Value.bool false] (Int.toNat x * 1)) 4) →
             (RowKit.Below (Array.size (World.heap W5)) W5 W441 ∧
             (((0 : Int) ≤ x ∧
              (x ≤ x ∧
              (x ≤ 9223372036854775807 ∧
              (↑4 : Int) * x ≤ 281474976710656))) ∧
             (∀ k437 : Nat, (∀ W442 : World, (k437 = Array.size (World.heap W441) →
             (W442 = World.alloc W441 (Obj.cells (madeCells #[Value.int IntKind.u32 0] (Int.toNat x * 1)) 39) →
             (RowKit.Below (Array.size (World.heap W5)) W5 W442 ∧
             (∀ vs118 : Array Value, (vs118 = #[Value.pointer p, Value.slice arg2 (Int.toNat x) arg2c, Value.int IntKind.i64 0, Value.int IntKind.i64 0, Value.slice (some (Addr.mk k437 0 none)) (Int.toNat x) (Int.toNat x), Value.slice (some (Addr.mk k432 0 none)) (Int.toNat x) (Int.toNat x), Value.slice (some (Addr.mk k436 0 none)) (Int.toNat x) (Int.toNat x), Value.slice (some (Addr.mk k424 0 none)) (Int.toNat x) (Int.toNat x), Value.slice (some (Addr.mk k357 0 none)) 16 16] →
             (∀ k438 : Nat, (∀ W443 : World, (k438 = Array.size (World.heap W442) →
             (W443 = World.alloc W442 (Obj.cells (Value.cells (Value.agg vs118)) 35) →
             (RowKit.Below (Array.size (World.heap W5)) W5 W443 ∧
             I2 (some (Addr.mk k438 0 none)) W443)))))))))))))))))))))))))) ∧
            (((0 : Int) ≤ x ∧
             (x ≤ x ∧
             (x ≤ 9223372036854775807 ∧
             (↑1 : Int) * x ≤ 281474976710656))) ∧
            (∀ k439 : Nat, (∀ W444 : World, (k439 = Array.size (World.heap W429) →
            (W444 = World.alloc W429 (Obj.cells (madeCells #[Value.bool false] (Int.toNat x * 1)) 4) →
            (RowKit.Below (Array.size (World.heap W5)) W5 W444 ∧
            ((((0 : Int) ≤ x ∧
              (x ≤ x ∧
              (x ≤ 9223372036854775807 ∧
              (↑4 : Int) * x ≤ 281474976710656))) ∧
             (∀ k440 : Nat, (∀ W445 : World, (k440 = Array.size (World.heap W444) →
             (W445 = World.alloc W444 (Obj.cells (madeCells #[Value.int IntKind.u32 0] (Int.toNat x * 1)) 39) →
             (RowKit.Below (Array.size (World.heap W5)) W5 W445 ∧
             (((0 : Int) ≤ x ∧
              (x ≤ x ∧
              (x ≤ 9223372036854775807 ∧
              (↑1 : Int) * x ≤ 281474976710656))) ∧
             (∀ k441 : Nat, (∀ W446 : World, (k441 = Array.size (World.heap W445) →
             (W446 = World.alloc W445 (Obj.cells (madeCells #[Value.bool false] (Int.toNat x * 1)) 4) →
             (RowKit.Below (Array.size (World.heap W5)) W5 W446 ∧
             (∀ vs119 : Array Value, (vs119 = #[Value.pointer p, Value.slice arg2 (Int.toNat x) arg2c, Value.int IntKind.i64 0, Value.int IntKind.i64 0, Value.slice (some (Addr.mk k440 0 none)) (Int.toNat x) (Int.toNat x), Value.slice (some (Addr.mk k441 0 none)) (Int.toNat x) (Int.toNat x), Value.slice (some (Addr.mk k439 0 none)) (Int.toNat x) (Int.toNat x), Value.slice (some (Addr.mk k424 0 none)) (Int.toNat x) (Int.toNat x), Value.slice (some (Addr.mk k357 0 none)) 16 16] →
             (∀ k442 : Nat, (∀ W447 : World, (k442 = Array.size (World.heap W446) →
             (W447 = World.alloc W446 (Obj.cells (Value.cells (Value.agg vs119)) 35) →
             (RowKit.Below (Array.size (World.heap W5)) W5 W447 ∧
             I2 (some (Addr.mk k442 0 none)) W447))))))))))))))))))) ∧
            (((0 : Int) ≤ x ∧
             (x ≤ x ∧
             (x ≤ 9223372036854775807 ∧
             (↑1 : Int) * x ≤ 281474976710656))) ∧
            (∀ k443 : Nat, (∀ W448 : World, (k443 = Array.size (World.heap W444) →
            (W448 = World.alloc W444 (Obj.cells (madeCells #[Value.bool false] (Int.toNat x * 1)) 4) →
            (RowKit.Below (Array.size (World.heap W5)) W5 W448 ∧
            (((0 : Int) ≤ x ∧
             (x ≤ x ∧
             (x ≤ 9223372036854775807 ∧
             (↑4 : Int) * x ≤ 281474976710656))) ∧
            (∀ k444 : Nat, (∀ W449 : World, (k444 = Array.size (World.heap W448) →
            (W449 = World.alloc W448 (Obj.cells (madeCells #[Value.int IntKind.u32 0] (Int.toNat x * 1)) 39) →
            (RowKit.Below (Array.size (World.heap W5)) W5 W449 ∧
            (∀ vs120 : Array Value, (vs120 = #[Value.pointer p, Value.slice arg2 (Int.toNat x) arg2c, Value.int IntKind.i64 0, Value.int IntKind.i64 0, Value.slice (some (Addr.mk k444 0 none)) (Int.toNat x) (Int.toNat x), Value.slice (some (Addr.mk k443 0 none)) (Int.toNat x) (Int.toNat x), Value.slice (some (Addr.mk k439 0 none)) (Int.toNat x) (Int.toNat x), Value.slice (some (Addr.mk k424 0 none)) (Int.toNat x) (Int.toNat x), Value.slice (some (Addr.mk k357 0 none)) 16 16] →
            (∀ k445 : Nat, (∀ W450 : World, (k445 = Array.size (World.heap W449) →
            (W450 = World.alloc W449 (Obj.cells (Value.cells (Value.agg vs120)) 35) →
            (RowKit.Below (Array.size (World.heap W5)) W5 W450 ∧
            I2 (some (Addr.mk k445 0 none)) W450)))))))))))))))))))))))))))))))))))))))))))))))))) ∧
           ((Nat →
           Value) →
           (∀ x2 : Option Addr, (∀ W451 : World, (I2 x2 W451 →
           (∃ I3 : Int → World → Prop, (∃ I4 : Int → World → Nat, (I3 0 W451 ∧
           ((Nat →
           Value) →
           (∀ x3 : Int, (∀ W452 : World, (I3 x3 W452 →
           (∃ I5 : Bool → World → Prop, (Sx.ptr x2 (fun a =>
             (∃ z3 : Int, (World.cell? W452 (Addr.add a 3) = some (Value.int IntKind.i64 z3) ∧
             Sx.split (decide (z3 < x))
              (I5 true W452)
              (Calls Tryd.prog 7 #[Value.pointer p] W452 (fun e3 =>
                (fun W453 =>
                (∃ z4 : Int, (e3 = Ending.returned (Value.int IntKind.i64 z4) ∧
                I5 (decide (z4 > 0)) W453)))))))) ∧
           ((Nat →
           Value) →
           (∀ x4 : Bool, (∀ W454 : World, (I5 x4 W454 →
           Sx.split x4
            (Sx.split (decide (x3 > 8000))
              (Q (Ending.returned (Value.bool false)) W454)
              (Calls Tryd.prog 8 #[Value.pointer x2] W454 (fun e4 =>
                (fun W455 =>
                (∃ t2 : Bool, (e4 = Ending.returned (Value.bool t2) ∧
                Sx.split (!t2)
                 (Q (Ending.returned (Value.bool false)) W455)
                 ((∃ I6 : Int → World → Prop, (Sx.split (decide (x3 < (↑arg3n : Int)))
                    (Sx.split (decide (x3 < 4000))
                      ((((0 : Int) ≤ x3 ∧
                        x3 < (↑arg3n : Int)) ∧
                       Sx.adr arg3 (fun k446 =>
                        (fun k447 =>
                        (∃ z5 : Int, (World.cell? W455 (Addr.mk k446 (k447 + Int.toNat x3 * 1) none) = some (Value.int IntKind.i64 z5) ∧
                        Calls Tryd.prog 6 #[Value.int IntKind.i64 z5, Value.int IntKind.i64 1048576] W455 (fun e5 =>
                         (fun W456 =>
                         (∃ z6 : Int, (e5 = Ending.returned (Value.int IntKind.i64 z6) ∧
                         I6 z6 W456))))))))))
                      (I6 0 W455))
                    (I6 0 W455) ∧
                  ((Nat →
                  Value) →
                  (∀ x5 : Int, (∀ W457 : World, (I6 x5 W457 →
                  (∃ I7 : Bool → World → Prop, (Sx.ptr x2 (fun a2 =>
                    (∃ z7 : Int, (World.cell? W457 (Addr.add a2 2) = some (Value.int IntKind.i64 z7) ∧
                    Sx.ptr x2 (fun a3 =>
                     (∃ z8 : Int, (World.cell? W457 (Addr.add a3 3) = some (Value.int IntKind.i64 z8) ∧
                     (∀ W458 : World, (∀ k448 : Nat, (W458 = World.drewN W457 k448 →
                     Sx.split (decide (z7 > z8))
                      ((∀ W459 : World, (W459 = World.drew W458 →
                       Sx.ptr x2 (fun a4 =>
                        (∃ z9 : Int, (World.cell? W459 (Addr.add a4 3) = some (Value.int IntKind.i64 z9) ∧
                        ((4 : Int) ≠ (0 : Int) ∧
                        (∀ z10 : Int, (z10 = IntKind.wrap IntKind.i64 (Int.tdiv x5 4) →
                        Sx.ptr x2 (fun a5 =>
                         (∃ z11 : Int, (World.cell? W459 (Addr.add a5 2) = some (Value.int IntKind.i64 z11) ∧
                         Sx.ptr x2 (fun a6 =>
                          (∃ z12 : Int, (World.cell? W459 (Addr.add a6 3) = some (Value.int IntKind.i64 z12) ∧
                          (∀ z13 : Int, (z13 = IntKind.wrap IntKind.i64 (z11 - z12) →
                          (z13 ≠ 0 ∧
                          (∀ z14 : Int, (z14 = Int.tmod z10 z13 →
                          (∀ z15 : Int, (z15 = IntKind.wrap IntKind.i64 (z9 + z14) →
                          Calls Tryd.prog 9 #[Value.pointer x2, Value.int IntKind.i64 z15, Value.bool arg1] W459 (fun e6 =>
                           (fun W460 =>
                           (∃ t3 : Bool, (e6 = Ending.returned (Value.bool t3) ∧
                           I7 t3 W460))))))))))))))))))))))))))
                      (I7 true W458)))))))))) ∧
                  ((Nat →
                  Value) →
                  (∀ x6 : Bool, (∀ W461 : World, (I7 x6 W461 →
                  (∃ I8 : Bool → World → Prop, (Sx.split x6
                    (((4 : Int) ≠ (0 : Int) ∧
                     (∀ z16 : Int, (z16 = Int.tmod x5 4 →
                     Sx.split (z16 == 0)
                      (Calls Tryd.prog 10 #[Value.pointer x2] W461 (fun e7 =>
                        (fun W462 =>
                        (∃ t4 : Bool, (e7 = Ending.returned (Value.bool t4) ∧
                        I8 t4 W462)))))
                      (I8 x6 W461)))))
                    (I8 x6 W461) ∧
                  ((Nat →
                  Value) →
                  (∀ x7 : Bool, (∀ W463 : World, (I8 x7 W463 →
                  Sx.split (!x7)
                   (Q (Ending.returned (Value.bool false)) W463)
                   ((∃ I9 : Bool → World → Prop, (Sx.ptr x2 (fun a7 =>
                      (∃ z17 : Int, (World.cell? W463 (Addr.add a7 3) = some (Value.int IntKind.i64 z17) ∧
                      Sx.ptr x2 (fun a8 =>
                       (∃ z18 : Int, (World.cell? W463 (Addr.add a8 2) = some (Value.int IntKind.i64 z18) ∧
                       Sx.split (decide (z17 < z18))
                        (Sx.ptr x2 (fun a9 =>
                          (∃ p2 : Option Addr, (∃ k449 : Nat, (∃ k450 : Nat, (World.cell? W463 (Addr.add a9 5) = some (Value.slice p2 k449 k450) ∧
                          Sx.ptr x2 (fun a10 =>
                           (∃ z19 : Int, (World.cell? W463 (Addr.add a10 3) = some (Value.int IntKind.i64 z19) ∧
                           (((0 : Int) ≤ z19 ∧
                            z19 < (↑k449 : Int)) ∧
                           Sx.adr p2 (fun k451 =>
                            (fun k452 =>
                            (∃ t5 : Bool, (World.cell? W463 (Addr.mk k451 (k452 + Int.toNat z19 * 1) none) = some (Value.bool t5) ∧
                            Sx.split t5
                             (Sx.ptr x2 (fun a11 =>
                               (∃ p3 : Option Addr, (∃ k453 : Nat, (∃ k454 : Nat, (World.cell? W463 (Addr.add a11 1) = some (Value.slice p3 k453 k454) ∧
                               Sx.ptr x2 (fun a12 =>
                                (∃ z20 : Int, (World.cell? W463 (Addr.add a12 3) = some (Value.int IntKind.i64 z20) ∧
                                (((0 : Int) ≤ z20 ∧
                                 z20 < (↑k453 : Int)) ∧
                                Sx.adr p3 (fun k455 =>
                                 (fun k456 =>
                                 (∃ t6 : Bool, (World.cell? W463 (Addr.mk k455 (k456 + Int.toNat z20 * 4) none) = some (Value.bool t6) ∧
                                 Sx.split t6
                                  (Sx.ptr x2 (fun a13 =>
                                    (∃ p4 : Option Addr, (∃ k457 : Nat, (∃ k458 : Nat, (World.cell? W463 (Addr.add a13 6) = some (Value.slice p4 k457 k458) ∧
                                    Sx.ptr x2 (fun a14 =>
                                     (∃ z21 : Int, (World.cell? W463 (Addr.add a14 3) = some (Value.int IntKind.i64 z21) ∧
                                     (((0 : Int) ≤ z21 ∧
                                      z21 < (↑k457 : Int)) ∧
                                     Sx.adr p4 (fun k459 =>
                                      (fun k460 =>
                                      (∃ t7 : Bool, (World.cell? W463 (Addr.mk k459 (k460 + Int.toNat z21 * 1) none) = some (Value.bool t7) ∧
                                      Sx.split t7
                                       ((∀ W464 : World, (∀ k461 : Nat, (W464 = World.drewN W463 k461 →
                                        I9 true W464))))
                                       (Sx.ptr x2 (fun a15 =>
                                         (∃ p5 : Option Addr, (∃ k462 : Nat, (∃ k463 : Nat, (World.cell? W463 (Addr.add a15 7) = some (Value.slice p5 k462 k463) ∧
                                         Sx.ptr x2 (fun a16 =>
                                          (∃ z22 : Int, (World.cell? W463 (Addr.add a16 3) = some (Value.int IntKind.i64 z22) ∧
                                          (((0 : Int) ≤ z22 ∧
                                           z22 < (↑k462 : Int)) ∧
                                          Sx.adr p5 (fun k464 =>
                                           (fun k465 =>
                                           (∃ t8 : Bool, (World.cell? W463 (Addr.mk k464 (k465 + Int.toNat z22 * 1) none) = some (Value.bool t8) ∧
                                           (∀ W465 : World, (∀ k466 : Nat, (W465 = World.drewN W463 k466 →
                                           I9 t8 W465)))))))))))))))))))))))))))))))
                                  (Sx.ptr x2 (fun a17 =>
                                    (∃ p6 : Option Addr, (∃ k467 : Nat, (∃ k468 : Nat, (World.cell? W463 (Addr.add a17 7) = some (Value.slice p6 k467 k468) ∧
                                    Sx.ptr x2 (fun a18 =>
                                     (∃ z23 : Int, (World.cell? W463 (Addr.add a18 3) = some (Value.int IntKind.i64 z23) ∧
                                     (((0 : Int) ≤ z23 ∧
                                      z23 < (↑k467 : Int)) ∧
                                     Sx.adr p6 (fun k469 =>
                                      (fun k470 =>
                                      (∃ t9 : Bool, (World.cell? W463 (Addr.mk k469 (k470 + Int.toNat z23 * 1) none) = some (Value.bool t9) ∧
                                      (∀ W466 : World, (∀ k471 : Nat, (W466 = World.drewN W463 k471 →
                                      I9 t9 W466)))))))))))))))))))))))))))))))
                             ((∀ W467 : World, (∀ k472 : Nat, (W467 = World.drewN W463 k472 →
                              I9 false W467))))))))))))))))))
                        ((∀ W468 : World, (∀ k473 : Nat, (W468 = World.drewN W463 k473 →
                         I9 false W468)))))))))) ∧
                    ((Nat →
                    Value) →
                    (∀ x8 : Bool, (∀ W469 : World, (I9 x8 W469 →
                    Sx.split x8
                     (Sx.ptr x2 (fun a19 =>
                       (∃ z24 : Int, (World.cell? W469 (Addr.add a19 3) = some (Value.int IntKind.i64 z24) ∧
                       Calls Tryd.prog 11 #[Value.pointer p, Value.int IntKind.i64 z24] W469 (fun e8 =>
                        (fun W470 =>
                        (∃ v2 : Value, (e8 = Ending.returned v2 ∧
                        Sx.isNil v2 (fun t10 =>
                         Sx.split (!t10)
                          (Q (Ending.returned (Value.bool false)) W470)
                          (Sx.ptr x2 (fun a20 =>
                            (∃ z25 : Int, (World.cell? W470 (Addr.add a20 3) = some (Value.int IntKind.i64 z25) ∧
                            (∀ z26 : Int, (z26 = IntKind.wrap IntKind.i64 (z25 + 1) →
                            Sx.ptr x2 (fun a21 =>
                             ((∃ v3 : Value, World.cell? W470 (Addr.add a21 3) = some v3) ∧
                             (World.frozen? W470 (Addr.add a21 3) = false ∧
                             (∀ W471 : World, (W471 = World.setCell W470 (Addr.add a21 3) (Value.int IntKind.i64 z26) →
                             (∀ z27 : Int, (z27 = IntKind.wrap IntKind.i64 (x3 + 1) →
                             (I3 z27 W471 ∧
                             I4 z27 W471 < I4 x3 W452)))))))))))))))))))))))
                     ((∀ z28 : Int, (z28 = IntKind.wrap IntKind.i64 (x3 + 1) →
                      (I3 z28 W469 ∧
                      I4 z28 W469 < I4 x3 W452))))))))))))))))))))))))))))))))))))
            ((((0 : Int) ≤ (16 : Int) ∧
              ((16 : Int) ≤ (16 : Int) ∧
              ((16 : Int) ≤ (9223372036854775807 : Int) ∧
              (↑1 : Int) * 16 ≤ 281474976710656))) ∧
             (∀ k474 : Nat, (∀ W472 : World, (k474 = Array.size (World.heap W454) →
             (W472 = World.alloc W454 (Obj.cells (madeCells #[Value.int IntKind.u8 0] 16) 5) →
             (∃ I10 : Int → World → Prop, (∃ I11 : Int → World → Nat, (I10 0 W472 ∧
             ((Nat →
             Value) →
             (∀ x9 : Int, (∀ W473 : World, (I10 x9 W473 →
             Sx.split (decide (x9 < x))
              ((((0 : Int) ≤ x9 ∧
                x9 < (↑arg2n : Int)) ∧
               Sx.adr arg2 (fun k475 =>
                (fun k476 =>
                (∃ vs121 : Array Value, (Array.size vs121 = 4 ∧
                (Sx.cellsAt W473 (Addr.mk k475 (k476 + Int.toNat x9 * 4) none) vs121 ∧
                Calls Tryd.prog 12 #[Value.agg vs121] W473 (fun e9 =>
                 (fun W474 =>
                 (∃ z29 : Int, (∃ z30 : Int, (e9 = Ending.returned (Value.tuple #[Value.int IntKind.u32 z29, Value.int IntKind.i64 z30]) ∧
                 (((0 : Int) ≤ x9 ∧
                  x9 < (↑arg2n : Int)) ∧
                 Sx.adr arg2 (fun k477 =>
                  (fun k478 =>
                  (∃ t11 : Bool, (World.cell? W474 (Addr.mk k477 (k478 + Int.toNat x9 * 4) none) = some (Value.bool t11) ∧
                  Sx.split (!t11)
                   (Calls Tryd.prog 13 #[Value.slice (some (Addr.mk k474 0 none)) 16 16, Value.int IntKind.u32 z29, Value.int IntKind.i64 z30] W474 (fun e10 =>
                     (fun W475 =>
                     (∃ z31 : Int, (e10 = Ending.returned (Value.int IntKind.u32 z31) ∧
                     Sx.ptr x2 (fun a22 =>
                      (∃ p7 : Option Addr, (∃ k479 : Nat, (∃ k480 : Nat, (World.cell? W475 (Addr.add a22 4) = some (Value.slice p7 k479 k480) ∧
                      (((0 : Int) ≤ x9 ∧
                       x9 < (↑k479 : Int)) ∧
                      Sx.adr p7 (fun k481 =>
                       (fun k482 =>
                       (∃ z32 : Int, (World.cell? W475 (Addr.mk k481 (k482 + Int.toNat x9 * 1) none) = some (Value.int IntKind.u32 z32) ∧
                       Sx.split (z31 != z32)
                        (Q (Ending.returned (Value.bool false)) W475)
                        ((∀ z33 : Int, (z33 = IntKind.wrap IntKind.i64 (x9 + 1) →
                         (I10 z33 W475 ∧
                         I11 z33 W475 < I11 x9 W473)))))))))))))))))))
                   ((∃ I12 : Int → World → Prop, (∃ I13 : Int → World → Nat, (I12 0 W474 ∧
                    ((Nat →
                    Value) →
                    (∀ x10 : Int, (∀ W476 : World, (I12 x10 W476 →
                    Sx.split (decide (x10 < z30))
                     ((∀ z34 : Int, (z34 = IntKind.wrap IntKind.i64 z29 →
                      (∀ z35 : Int, (z35 = IntKind.wrap IntKind.i64 (z34 - 64) →
                      (∀ z36 : Int, (z36 = IntKind.wrap IntKind.i64 (z35 + x10) →
                      (((0 : Int) ≤ x9 ∧
                       x9 < (↑arg2n : Int)) ∧
                      Sx.adr arg2 (fun k483 =>
                       (fun k484 =>
                       (∃ z37 : Int, (World.cell? W476 (Addr.mk k483 (k484 + Int.toNat x9 * 4 + 3) none) = some (Value.int IntKind.u32 z37) ∧
                       (∀ z38 : Int, (z38 = IntKind.wrap IntKind.i64 (8 * x10) →
                       ((0 : Int) ≤ z38 ∧
                       (∀ z39 : Int, (z39 = Int.fdiv z37 (2 ^ min (Int.toNat z38) (IntKind.bits IntKind.u32)) →
                       (∀ z40 : Int, (z40 = IntKind.wrap IntKind.u8 z39 →
                       (((0 : Int) ≤ z36 ∧
                        z36 < (↑16 : Int)) ∧
                       ((∃ v4 : Value, World.cell? W476 (Addr.mk k474 (0 + Int.toNat z36 * 1) none) = some v4) ∧
                       (World.frozen? W476 (Addr.mk k474 (0 + Int.toNat z36 * 1) none) = false ∧
                       (∀ W477 : World, (W477 = World.setCell W476 (Addr.mk k474 (0 + Int.toNat z36 * 1) none) (Value.int IntKind.u8 z40) →
                       (∀ z41 : Int, (z41 = IntKind.wrap IntKind.i64 (x10 + 1) →
                       (I12 z41 W477 ∧
                       I13 z41 W477 < I13 x10 W476)))))))))))))))))))))))))))
                     ((∀ z42 : Int, (z42 = IntKind.wrap IntKind.i64 (x9 + 1) →
                      (I10 z42 W476 ∧
                      I11 z42 W476 < I11 x9 W473)))))))))))))))))))))))))))))
              ((∃ I14 : Int → World → Prop, (∃ I15 : Int → World → Nat, (I14 0 W473 ∧
               ((Nat →
               Value) →
               (∀ x11 : Int, (∀ W478 : World, (I14 x11 W478 →
               Sx.split (decide (x11 < 16))
                ((((0 : Int) ≤ x11 ∧
                  x11 < (↑16 : Int)) ∧
                 (∃ z43 : Int, (World.cell? W478 (Addr.mk k474 (0 + Int.toNat x11 * 1) none) = some (Value.int IntKind.u8 z43) ∧
                 Sx.ptr x2 (fun a23 =>
                  (∃ p8 : Option Addr, (∃ k485 : Nat, (∃ k486 : Nat, (World.cell? W478 (Addr.add a23 8) = some (Value.slice p8 k485 k486) ∧
                  (((0 : Int) ≤ x11 ∧
                   x11 < (↑k485 : Int)) ∧
                  Sx.adr p8 (fun k487 =>
                   (fun k488 =>
                   (∃ z44 : Int, (World.cell? W478 (Addr.mk k487 (k488 + Int.toNat x11 * 1) none) = some (Value.int IntKind.u8 z44) ∧
                   (∀ W479 : World, (∀ k489 : Nat, (W479 = World.drewN W478 k489 →
                   Sx.split (z43 != z44)
                    (Q (Ending.returned (Value.bool false)) W479)
                    ((∀ z45 : Int, (z45 = IntKind.wrap IntKind.i64 (x11 + 1) →
                     (I14 z45 W479 ∧
                     I15 z45 W479 < I15 x11 W478)))))))))))))))))))))
                (Q (Ending.returned (Value.bool true)) W478)))))))))))))))))))))))))))))))))))))))))))))))))))))))))))))) :
  Calls Tryd.prog 3 #[Value.int .i64 arg0, Value.bool arg1, Value.slice arg2 arg2n arg2c, Value.slice arg3 arg3n arg3c] W Q :=
  Sx.sound Tryd.func3 (.node [] [] 0 .leaf (.node [] [] 0 .leaf (.node [] [] 0 .leaf (.node [] [] 0 .leaf (.node [(11, .int .i64)] [9, 2, 3, 1] 1 .leaf (.node [(12, .ptr)] [11, 9, 3, 1, 2] 1 (.node [] [] 1017 .leaf .leaf) (.node [] [] 0 (.node [] [] 0 .leaf (.node [] [] 0 (.node [(13, .int .i64)] [12, 11, 9, 3, 1, 2] 0 (.node [] [] 0 (.node [(67, .bool)] [13, 12, 3, 1, 9, 11, 2] 1 .leaf .leaf) (.node [] [] 0 (.node [] [] 0 (.node [] [] 0 .leaf (.node [] [] 0 .leaf (.node [] [] 0 .leaf (.node [] [] 0 .leaf (.node [(15, .int .i64)] [12, 1, 9, 13, 11, 3, 2] 1 .leaf (.node [] [] 0 .leaf (.node [(16, .bool)] [15, 12, 9, 13, 11, 3, 1, 2] 1 (.node [] [] 0 .leaf (.node [] [] 0 (.node [] [] 20 .leaf .leaf) .leaf)) (.node [(16, .bool)] [12, 9, 13, 11, 3, 1, 2] 1 .leaf (.node [] [] 0 .leaf (.node [(185, .bool)] [9, 12, 13, 11, 3, 1, 2] 1 .leaf .leaf)))))))))) .leaf) .leaf)) .leaf) .leaf)) (.node [] [] 0 .leaf (.node [] [] 0 (.node [] [] 0 .leaf (.node [] [] 0 (.node [(19, .int .i64)] [11, 2, 18, 12] 0 (.node [] [] 0 .leaf (.node [] [] 0 (.node [] [] 0 (.node [] [] 0 .leaf (.node [] [] 0 .leaf (.node [] [] 0 .leaf (.node [] [] 0 (.node [(23, .int .i64)] [21, 18, 20, 2, 19, 11, 12] 0 .leaf .leaf) .leaf)))) .leaf) .leaf)) .leaf) .leaf)) (.node [] [] 0 (.node [] [] 0 .leaf (.node [] [] 0 (.node [(24, .int .i64)] [18, 12] 0 .leaf .leaf) .leaf)) .leaf)))))))))) [Value.int .i64 arg0, Value.bool arg1, Value.slice arg2 arg2n arg2c, Value.slice arg3 arg3n arg3c] rfl (Eq.mp (by kernel_rfl) hVC)
end Go.Proofs.YtngfaiahlblkkaaDoor
