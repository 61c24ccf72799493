import Derived.Test.YtcpmgklhfpcaeaaGreatDoorSxB
import Derived.Test.YtcpmgklhfpcaeaaGreatDoorChecked
/- What each function asks, reckoned out of its text; printed by a program of mine (wip/tpl/VcTool.lean). No condition. -/
namespace Go.Proofs.YtcpmgklhfpcaeaaGreatDoor
open Go Go.Proofs
set_option linter.unusedVariables false
set_option maxRecDepth 100000
theorem vc4 {W : World} {Q : Ending → World → Prop} (arg0 : Option Addr) (arg0n : Nat) (arg0c : Nat) (arg1 : Option Addr) (arg1n : Nat) (arg1c : Nat) (arg2 : Option Addr) (arg2n : Nat) (arg2c : Nat) (arg3 : Int)
  (hVC :
    (∀ z : Int, (z = IntKind.wrap IntKind.i64 ((↑arg0n : Int) + 70) →
    (((0 : Int) ≤ z ∧
     (z ≤ z ∧
     (z ≤ 9223372036854775807 ∧
     (↑4 : Int) * z ≤ 281474976710656))) ∧
    (∀ k : Nat, (∀ W2 : World, (k = Array.size (World.heap W) →
    (W2 = World.alloc W (Obj.cells (madeCells #[Value.int IntKind.u32 0] (Int.toNat z * 1)) 35) →
    (∃ l : List Value, (List.length l = Nat.min arg0n (Int.toNat z) * 1 ∧
    ((∀ v : Value, (v ∈ l →
     Value.oneCell' v = true)) ∧
    (((l = []) ∨
     (((∃ a : Addr, (arg0 = some a ∧
      (∀ k2 : Nat, (∀ v2 : Value, (l[k2]? = some v2 →
      World.cell? W2 (Addr.add a k2) = some v2))))) ∧
     (∃ k3 : Nat, (∃ k4 : Nat, (some (Addr.mk k 0 none) = some (Addr.mk k3 k4 none) ∧
     (∀ k5 : Nat, (k5 < List.length l →
     ((∃ v3 : Value, World.cell? W2 (Addr.mk k3 (k4 + k5) none) = some v3) ∧
     World.frozen? W2 (Addr.mk k3 (k4 + k5) none) = false))))))))) ∧
    (∀ W3 : World, (W3 = Sx.setRow (some (Addr.mk k 0 none)) W2 l →
    (∀ z2 : Int, (z2 = IntKind.wrap IntKind.i64 ((↑arg1n : Int) + 70) →
    (((0 : Int) ≤ z2 ∧
     (z2 ≤ z2 ∧
     (z2 ≤ 9223372036854775807 ∧
     (↑1 : Int) * z2 ≤ 281474976710656))) ∧
    (∀ k6 : Nat, (∀ W4 : World, (k6 = Array.size (World.heap W3) →
    (W4 = World.alloc W3 (Obj.cells (madeCells #[Value.int IntKind.u8 0] (Int.toNat z2 * 1)) 5) →
    (∃ l2 : List Value, (List.length l2 = Nat.min arg1n (Int.toNat z2) * 1 ∧
    ((∀ v4 : Value, (v4 ∈ l2 →
     Value.oneCell' v4 = true)) ∧
    (((l2 = []) ∨
     (((∃ a2 : Addr, (arg1 = some a2 ∧
      (∀ k7 : Nat, (∀ v5 : Value, (l2[k7]? = some v5 →
      World.cell? W4 (Addr.add a2 k7) = some v5))))) ∧
     (∃ k8 : Nat, (∃ k9 : Nat, (some (Addr.mk k6 0 none) = some (Addr.mk k8 k9 none) ∧
     (∀ k10 : Nat, (k10 < List.length l2 →
     ((∃ v6 : Value, World.cell? W4 (Addr.mk k8 (k9 + k10) none) = some v6) ∧
     World.frozen? W4 (Addr.mk k8 (k9 + k10) none) = false))))))))) ∧
    (∀ W5 : World, (W5 = Sx.setRow (some (Addr.mk k6 0 none)) W4 l2 →
    (∃ I : Value → Option Addr → World → Prop, ((∀ W6 : World, (W6 = World.drew W5 →
     (((0 : Int) ≤ (↑arg0n : Int) ∧
      (↑arg0n : Int) ≤ (↑(Int.toNat z) : Int)) ∧
     (((0 : Int) ≤ (↑arg1n : Int) ∧
      (↑arg1n : Int) ≤ (↑(Int.toNat z2) : Int)) ∧
     Calls Tryz.prog 16 #[Value.slice (some (Addr.mk k 0 none)) (Int.toNat (↑arg0n : Int)) (Int.toNat z), Value.slice (some (Addr.mk k6 0 none)) (Int.toNat (↑arg1n : Int)) (Int.toNat z2)] W6 (fun e =>
      (fun W7 =>
      (∃ p : Option Addr, (∃ v7 : Value, (e = Ending.returned (Value.tuple #[Value.pointer p, v7]) ∧
      I v7 p W7))))))))) ∧
    ((Nat →
    Value) →
    (∀ x : Value, (∀ x2 : Option Addr, (∀ W8 : World, (I x x2 W8 →
    Calls Tryz.prog 17 #[Value.slice arg0 arg0n arg0c, Value.slice arg1 arg1n arg1c] W8 (fun e2 =>
     (fun W9 =>
     (∃ p2 : Option Addr, (∃ z3 : Int, (e2 = Ending.returned (Value.tuple #[Value.pointer p2, Value.int IntKind.i64 z3]) ∧
     (∃ I2 : Int → World → Prop, (∃ I3 : Int → World → Nat, (I2 0 W9 ∧
     ((Nat →
     Value) →
     (∀ x3 : Int, (∀ W10 : World, (I2 x3 W10 →
     Sx.split (decide (x3 < (↑(Int.toNat z) : Int)))
      ((∃ I4 : Bool → World → Prop, (Sx.split (decide (x3 < (↑arg0n : Int)))
         ((((0 : Int) ≤ x3 ∧
           x3 < (↑(Int.toNat z) : Int)) ∧
          (∃ z4 : Int, (World.cell? W10 (Addr.mk k (0 + Int.toNat x3 * 1) none) = some (Value.int IntKind.u32 z4) ∧
          (((0 : Int) ≤ x3 ∧
           x3 < (↑arg0n : Int)) ∧
          Sx.adr arg0 (fun k11 =>
           (fun k12 =>
           (∃ z5 : Int, (World.cell? W10 (Addr.mk k11 (k12 + Int.toNat x3 * 1) none) = some (Value.int IntKind.u32 z5) ∧
           Sx.split (z4 != z5)
            ((∀ W11 : World, (∀ k13 : Nat, (W11 = World.drewN W10 k13 →
             I4 true W11))))
            (Sx.split (decide (x3 ≥ (↑arg0n : Int)))
              ((((0 : Int) ≤ x3 ∧
                x3 < (↑(Int.toNat z) : Int)) ∧
               (∃ z6 : Int, (World.cell? W10 (Addr.mk k (0 + Int.toNat x3 * 1) none) = some (Value.int IntKind.u32 z6) ∧
               (∀ W12 : World, (∀ k14 : Nat, (W12 = World.drewN W10 k14 →
               I4 (z6 != 0) W12)))))))
              ((∀ W13 : World, (∀ k15 : Nat, (W13 = World.drewN W10 k15 →
               I4 false W13))))))))))))))
         (Sx.split (decide (x3 ≥ (↑arg0n : Int)))
           ((((0 : Int) ≤ x3 ∧
             x3 < (↑(Int.toNat z) : Int)) ∧
            (∃ z7 : Int, (World.cell? W10 (Addr.mk k (0 + Int.toNat x3 * 1) none) = some (Value.int IntKind.u32 z7) ∧
            (∀ W14 : World, (∀ k16 : Nat, (W14 = World.drewN W10 k16 →
            I4 (z7 != 0) W14)))))))
           ((∀ W15 : World, (∀ k17 : Nat, (W15 = World.drewN W10 k17 →
            I4 false W15))))) ∧
       ((Nat →
       Value) →
       (∀ x4 : Bool, (∀ W16 : World, (I4 x4 W16 →
       Sx.split x4
        (Q (Ending.returned (Value.bool false)) W16)
        ((((0 : Int) ≤ x3 ∧
          x3 < (↑(Int.toNat z) : Int)) ∧
         ((∃ v8 : Value, World.cell? W16 (Addr.mk k (0 + Int.toNat x3 * 1) none) = some v8) ∧
         (World.frozen? W16 (Addr.mk k (0 + Int.toNat x3 * 1) none) = false ∧
         (∀ W17 : World, (W17 = World.setCell W16 (Addr.mk k (0 + Int.toNat x3 * 1) none) (Value.int IntKind.u32 19) →
         (∀ z8 : Int, (z8 = IntKind.wrap IntKind.i64 (x3 + 1) →
         (I2 z8 W17 ∧
         I3 z8 W17 < I3 x3 W10))))))))))))))))
      ((∃ I5 : Int → World → Prop, (∃ I6 : Int → World → Nat, (I5 0 W10 ∧
       ((Nat →
       Value) →
       (∀ x5 : Int, (∀ W18 : World, (I5 x5 W18 →
       Sx.split (decide (x5 < (↑(Int.toNat z2) : Int)))
        ((∃ I7 : Bool → World → Prop, (Sx.split (decide (x5 < (↑arg1n : Int)))
           ((((0 : Int) ≤ x5 ∧
             x5 < (↑(Int.toNat z2) : Int)) ∧
            (∃ z9 : Int, (World.cell? W18 (Addr.mk k6 (0 + Int.toNat x5 * 1) none) = some (Value.int IntKind.u8 z9) ∧
            (((0 : Int) ≤ x5 ∧
             x5 < (↑arg1n : Int)) ∧
            Sx.adr arg1 (fun k18 =>
             (fun k19 =>
             (∃ z10 : Int, (World.cell? W18 (Addr.mk k18 (k19 + Int.toNat x5 * 1) none) = some (Value.int IntKind.u8 z10) ∧
             Sx.split (z9 != z10)
              ((∀ W19 : World, (∀ k20 : Nat, (W19 = World.drewN W18 k20 →
               I7 true W19))))
              (Sx.split (decide (x5 ≥ (↑arg1n : Int)))
                ((((0 : Int) ≤ x5 ∧
                  x5 < (↑(Int.toNat z2) : Int)) ∧
                 (∃ z11 : Int, (World.cell? W18 (Addr.mk k6 (0 + Int.toNat x5 * 1) none) = some (Value.int IntKind.u8 z11) ∧
                 (∀ W20 : World, (∀ k21 : Nat, (W20 = World.drewN W18 k21 →
                 I7 (z11 != 0) W20)))))))
                ((∀ W21 : World, (∀ k22 : Nat, (W21 = World.drewN W18 k22 →
                 I7 false W21))))))))))))))
           (Sx.split (decide (x5 ≥ (↑arg1n : Int)))
             ((((0 : Int) ≤ x5 ∧
               x5 < (↑(Int.toNat z2) : Int)) ∧
              (∃ z12 : Int, (World.cell? W18 (Addr.mk k6 (0 + Int.toNat x5 * 1) none) = some (Value.int IntKind.u8 z12) ∧
              (∀ W22 : World, (∀ k23 : Nat, (W22 = World.drewN W18 k23 →
              I7 (z12 != 0) W22)))))))
             ((∀ W23 : World, (∀ k24 : Nat, (W23 = World.drewN W18 k24 →
              I7 false W23))))) ∧
         ((Nat →
         Value) →
         (∀ x6 : Bool, (∀ W24 : World, (I7 x6 W24 →
         Sx.split x6
          (Q (Ending.returned (Value.bool false)) W24)
          ((((0 : Int) ≤ x5 ∧
            x5 < (↑(Int.toNat z2) : Int)) ∧
           ((∃ v9 : Value, World.cell? W24 (Addr.mk k6 (0 + Int.toNat x5 * 1) none) = some v9) ∧
           (World.frozen? W24 (Addr.mk k6 (0 + Int.toNat x5 * 1) none) = false ∧
           (∀ W25 : World, (W25 = World.setCell W24 (Addr.mk k6 (0 + Int.toNat x5 * 1) none) (Value.int IntKind.u8 119) →
           (∀ z13 : Int, (z13 = IntKind.wrap IntKind.i64 (x5 + 1) →
           (I5 z13 W25 ∧
           I6 z13 W25 < I6 x5 W18))))))))))))))))
        (Calls Tryz.prog 7 #[x] W18 (fun e3 =>
          (fun W26 =>
          (∃ z14 : Int, (e3 = Ending.returned (Value.int IntKind.i64 z14) ∧
          (∃ I8 : Bool → World → Prop, (Sx.split (z14 != z3)
            (I8 true W26)
            (I8 (!Option.isNone x2 == Option.isNone p2) W26) ∧
          ((Nat →
          Value) →
          (∀ x7 : Bool, (∀ W27 : World, (I8 x7 W27 →
          Sx.split x7
           (Q (Ending.returned (Value.bool false)) W27)
           (Sx.split (Option.isNone x2)
             (Q (Ending.returned (Value.bool true)) W27)
             ((∃ I9 : Int → World → Prop, (∃ I10 : Int → World → Nat, (I9 0 W27 ∧
              ((Nat →
              Value) →
              (∀ x8 : Int, (∀ W28 : World, (I9 x8 W28 →
              (∃ I11 : Bool → World → Prop, (Sx.split (decide (x8 < arg3))
                (I11 (decide (x8 < 2000)) W28)
                (I11 false W28) ∧
              ((Nat →
              Value) →
              (∀ x9 : Bool, (∀ W29 : World, (I11 x9 W29 →
              Sx.split x9
               ((∃ I12 : World → Prop, ((∃ I13 : Int → World → Prop, (∃ I14 : Int → World → Nat, (I13 0 W29 ∧
                 ((Nat →
                 Value) →
                 (∀ x10 : Int, (∀ W30 : World, (I13 x10 W30 →
                 Sx.split (decide (x10 < (↑arg2n : Int)))
                  ((∃ I15 : World → Prop, ((((0 : Int) ≤ x10 ∧
                     x10 < (↑arg2n : Int)) ∧
                    Sx.adr arg2 (fun k25 =>
                     (fun k26 =>
                     (∃ z15 : Int, (World.cell? W30 (Addr.mk k25 (k26 + Int.toNat x10 * 1) none) = some (Value.int IntKind.i64 z15) ∧
                     Sx.split (z15 == x8)
                      (Sx.ptr p2 (fun a3 =>
                        (∃ t : Bool, (World.cell? W30 (Addr.add a3 3) = some (Value.bool t) ∧
                        Sx.ptr p2 (fun a4 =>
                         ((∃ v10 : Value, World.cell? W30 (Addr.add a4 3) = some v10) ∧
                         (World.frozen? W30 (Addr.add a4 3) = false ∧
                         (∀ W31 : World, (W31 = World.setCell W30 (Addr.add a4 3) (Value.bool !t) →
                         Sx.ptr p2 (fun a5 =>
                          (∃ t2 : Bool, (World.cell? W31 (Addr.add a5 3) = some (Value.bool t2) ∧
                          Calls Tryz.prog 18 #[Value.pointer x2, Value.bool t2] W31 (fun e4 =>
                           (fun W32 =>
                           (e4 = Ending.returned (Value.tuple #[]) ∧
                           I15 W32)))))))))))))))
                      (I15 W30)))))) ∧
                   ((Nat →
                   Value) →
                   (∀ W33 : World, (I15 W33 →
                   (∀ z16 : Int, (z16 = IntKind.wrap IntKind.i64 (x10 + 1) →
                   (I13 z16 W33 ∧
                   I14 z16 W33 < I14 x10 W30)))))))))
                  (Calls Tryz.prog 19 #[Value.pointer x2] W30 (fun e5 =>
                    (fun W34 =>
                    (∃ vs : Array Value, (∃ t3 : Bool, (e5 = Ending.returned (Value.tuple #[Value.agg vs, Value.bool t3]) ∧
                    (∀ k27 : Nat, (∀ W35 : World, (k27 = Array.size (World.heap W34) →
                    (W35 = World.alloc W34 (Obj.cells #[Value.int IntKind.u32 0, Value.int IntKind.u32 0, Value.int IntKind.i64 0, Value.int IntKind.u32 0, Value.int IntKind.i64 0, Value.int IntKind.u32 0, Value.int IntKind.u32 0] 43) →
                    (Array.size vs = 7 ∧
                    ((∀ k28 : Nat, (k28 < 7 →
                     ((∃ v11 : Value, World.cell? W35 (Addr.mk k27 (0 + k28) none) = some v11) ∧
                     World.frozen? W35 (Addr.mk k27 (0 + k28) none) = false))) ∧
                    ((∀ v12 : Value, (v12 ∈ Array.toList vs →
                     Value.oneCell' v12 = true)) ∧
                    (∀ W36 : World, (W36 = World.setCells W35 k27 0 (Array.toList vs) →
                    Calls Tryz.prog 20 #[Value.pointer p2] W36 (fun e6 =>
                     (fun W37 =>
                     (∃ vs2 : Array Value, (∃ t4 : Bool, (e6 = Ending.returned (Value.tuple #[Value.agg vs2, Value.bool t4]) ∧
                     (∀ k29 : Nat, (∀ W38 : World, (k29 = Array.size (World.heap W37) →
                     (W38 = World.alloc W37 (Obj.cells #[Value.int IntKind.u32 0, Value.int IntKind.u32 0, Value.int IntKind.i64 0, Value.int IntKind.u32 0, Value.int IntKind.i64 0, Value.int IntKind.u32 0, Value.int IntKind.u32 0] 46) →
                     (Array.size vs2 = 7 ∧
                     ((∀ k30 : Nat, (k30 < 7 →
                      ((∃ v13 : Value, World.cell? W38 (Addr.mk k29 (0 + k30) none) = some v13) ∧
                      World.frozen? W38 (Addr.mk k29 (0 + k30) none) = false))) ∧
                     ((∀ v14 : Value, (v14 ∈ Array.toList vs2 →
                      Value.oneCell' v14 = true)) ∧
                     (∀ W39 : World, (W39 = World.setCells W38 k29 0 (Array.toList vs2) →
                     (∃ I16 : Bool → World → Prop, ((∀ W40 : World, (W40 = World.drew W39 →
                      Sx.split (!t3 == t4)
                       ((I16 true W40 ∧
                        (RowKit.Below (Array.size (World.heap W40)) W40 W40 ∧
                        I16 true W40)))
                       (Sx.split t3
                         ((∃ vs3 : Array Value, (Array.size vs3 = 7 ∧
                          (Sx.cellsAt W40 (Addr.mk k27 0 none) vs3 ∧
                          (Calls Tryz.prog 12 #[Value.agg vs3] W40 (fun e7 =>
                            (fun W41 =>
                            (∃ vs4 : Array Value, (e7 = Ending.returned (Value.agg vs4) ∧
                            (∃ vs5 : Array Value, (Array.size vs5 = 7 ∧
                            (Sx.cellsAt W41 (Addr.mk k29 0 none) vs5 ∧
                            (∃ t5 : Bool, ((∀ W42 : World, Sem.run Tryz.prog
    (do
      eqGuard BinOp.neq 46 (Operand.tmp 206) (Operand.tmp 207) (Value.agg vs4) (Value.agg vs5)
      binOp BinOp.neq 46 (Value.agg vs4) (Value.agg vs5))
    W42 =
  Result.ok (Value.bool t5) W42) ∧
                            Sx.split t5
                             (I16 true W41)
                             (Sx.split (!t3)
                               ((∀ vs6 : Array Value, (vs6 = #[Value.int IntKind.u32 0, Value.int IntKind.u32 0, Value.int IntKind.i64 0, Value.int IntKind.u32 0, Value.int IntKind.i64 0, Value.int IntKind.u32 0, Value.int IntKind.u32 0] →
                                (∃ vs7 : Array Value, (Array.size vs7 = 7 ∧
                                (Sx.cellsAt W41 (Addr.mk k27 0 none) vs7 ∧
                                (∃ t6 : Bool, ((∀ W43 : World, Sem.run Tryz.prog
    (do
      eqGuard BinOp.neq 43 (Operand.tmp 215) (Operand.tmp 216) (Value.agg vs7) (Value.agg vs6)
      binOp BinOp.neq 43 (Value.agg vs7) (Value.agg vs6))
    W43 =
  Result.ok (Value.bool t6) W43) ∧
                                I16 t6 W41))))))))
                               (I16 false W41))))))))))) ∧
                          (∃ vs8 : Array Value, (Array.size vs8 = 7 ∧
                          (Sx.cellsAt W40 (Addr.mk k29 0 none) vs8 ∧
                          (RowKit.Below (Array.size (World.heap W40)) W40 W40 ∧
                          Calls Tryz.prog 12 #[Value.agg vs3] W40 (fun e8 =>
                           (fun W44 =>
                           (∃ vs9 : Array Value, (e8 = Ending.returned (Value.agg vs9) ∧
                           (∃ t7 : Bool, ((∀ W45 : World, Sem.run Tryz.prog
    (do
      eqGuard BinOp.neq 46 (Operand.tmp 206) (Operand.tmp 207) (Value.agg vs9) (Value.agg vs8)
      binOp BinOp.neq 46 (Value.agg vs9) (Value.agg vs8))
    W45 =
  Result.ok (Value.bool t7) W45) ∧
                           Sx.split t7
                            (I16 true W44)
                            (Sx.split (!t3)
                              ((∀ vs10 : Array Value, (vs10 = #[Value.int IntKind.u32 0, Value.int IntKind.u32 0, Value.int IntKind.i64 0, Value.int IntKind.u32 0, Value.int IntKind.i64 0, Value.int IntKind.u32 0, Value.int IntKind.u32 0] →
                               (∃ vs11 : Array Value, (Array.size vs11 = 7 ∧
                               (Sx.cellsAt W44 (Addr.mk k27 0 none) vs11 ∧
                               (∃ t8 : Bool, ((∀ W46 : World, Sem.run Tryz.prog
    (do
      eqGuard BinOp.neq 43 (Operand.tmp 215) (Operand.tmp 216) (Value.agg vs11) (Value.agg vs10)
      binOp BinOp.neq 43 (Value.agg vs11) (Value.agg vs10))
    W46 =
  Result.ok (Value.bool t8) W46) ∧
                               I16 t8 W44))))))))
                              (I16 false W44)))))))))))))))))
                         ((Sx.split (!t3)
                            ((∀ vs12 : Array Value, (vs12 = #[Value.int IntKind.u32 0, Value.int IntKind.u32 0, Value.int IntKind.i64 0, Value.int IntKind.u32 0, Value.int IntKind.i64 0, Value.int IntKind.u32 0, Value.int IntKind.u32 0] →
                             (∃ vs13 : Array Value, (Array.size vs13 = 7 ∧
                             (Sx.cellsAt W40 (Addr.mk k27 0 none) vs13 ∧
                             (∃ t9 : Bool, ((∀ W47 : World, Sem.run Tryz.prog
    (do
      eqGuard BinOp.neq 43 (Operand.tmp 215) (Operand.tmp 216) (Value.agg vs13) (Value.agg vs12)
      binOp BinOp.neq 43 (Value.agg vs13) (Value.agg vs12))
    W47 =
  Result.ok (Value.bool t9) W47) ∧
                             I16 t9 W40))))))))
                            (I16 false W40) ∧
                          (RowKit.Below (Array.size (World.heap W40)) W40 W40 ∧
                          Sx.split (!t3)
                           ((∀ vs14 : Array Value, (vs14 = #[Value.int IntKind.u32 0, Value.int IntKind.u32 0, Value.int IntKind.i64 0, Value.int IntKind.u32 0, Value.int IntKind.i64 0, Value.int IntKind.u32 0, Value.int IntKind.u32 0] →
                            (∃ vs15 : Array Value, (Array.size vs15 = 7 ∧
                            (Sx.cellsAt W40 (Addr.mk k27 0 none) vs15 ∧
                            (∃ t10 : Bool, ((∀ W48 : World, Sem.run Tryz.prog
    (do
      eqGuard BinOp.neq 43 (Operand.tmp 215) (Operand.tmp 216) (Value.agg vs15) (Value.agg vs14)
      binOp BinOp.neq 43 (Value.agg vs15) (Value.agg vs14))
    W48 =
  Result.ok (Value.bool t10) W48) ∧
                            I16 t10 W40))))))))
                           (I16 false W40))))))) ∧
                     ((Nat →
                     Value) →
                     (∀ x11 : Bool, (∀ W49 : World, (I16 x11 W49 →
                     Sx.split x11
                      (Q (Ending.returned (Value.bool false)) W49)
                      (((16 : Int) ≠ (0 : Int) ∧
                       (∀ z17 : Int, (z17 = Int.tmod x8 16 →
                       Sx.split (z17 == 5)
                        (Calls Tryz.prog 21 #[Value.pointer x2] W49 (fun e9 =>
                          (fun W50 =>
                          (∃ p3 : Option Addr, (∃ k31 : Nat, (∃ k32 : Nat, (e9 = Ending.returned (Value.slice p3 k31 k32) ∧
                          Sx.ptr p2 (fun a6 =>
                           (∃ p4 : Option Addr, (∃ k33 : Nat, (∃ k34 : Nat, (World.cell? W50 (Addr.add a6 1) = some (Value.slice p4 k33 k34) ∧
                           Calls Tryz.prog 22 #[Value.slice p3 k31 k32, Value.slice p4 k33 k34] W50 (fun e10 =>
                            (fun W51 =>
                            (∃ t11 : Bool, (e10 = Ending.returned (Value.bool t11) ∧
                            Sx.split (!t11)
                             (Q (Ending.returned (Value.bool false)) W51)
                             (I12 W51)))))))))))))))))
                        (I12 W49))))))))))))))))))))))))))))))))))))))))))))))) ∧
                ((Nat →
                Value) →
                (∀ W52 : World, (I12 W52 →
                (∀ z18 : Int, (z18 = IntKind.wrap IntKind.i64 (x8 + 1) →
                (I9 z18 W52 ∧
                I10 z18 W52 < I10 x8 W28)))))))))
               (Calls Tryz.prog 23 #[Value.pointer x2] W29 (fun e11 =>
                 (fun W53 =>
                 (∃ p5 : Option Addr, (e11 = Ending.returned (Value.pointer p5) ∧
                 Calls Tryz.prog 21 #[Value.pointer x2] W53 (fun e12 =>
                  (fun W54 =>
                  (∃ p6 : Option Addr, (∃ k35 : Nat, (∃ k36 : Nat, (e12 = Ending.returned (Value.slice p6 k35 k36) ∧
                  Calls Tryz.prog 21 #[Value.pointer x2] W54 (fun e13 =>
                   (fun W55 =>
                   (∃ p7 : Option Addr, (∃ k37 : Nat, (∃ k38 : Nat, (e13 = Ending.returned (Value.slice p7 k37 k38) ∧
                   Calls Tryz.prog 24 #[Value.pointer x2] W55 (fun e14 =>
                    (fun W56 =>
                    (∃ s : ByteArray, (e14 = Ending.returned (Value.string s) ∧
                    Sx.ptr p2 (fun a7 =>
                     (∃ p8 : Option Addr, (∃ k39 : Nat, (∃ k40 : Nat, (World.cell? W56 (Addr.add a7 1) = some (Value.slice p8 k39 k40) ∧
                     Calls Tryz.prog 22 #[Value.slice p6 k35 k36, Value.slice p8 k39 k40] W56 (fun e15 =>
                      (fun W57 =>
                      (∃ t12 : Bool, (e15 = Ending.returned (Value.bool t12) ∧
                      Sx.ptr p2 (fun a8 =>
                       (∃ p9 : Option Addr, (∃ k41 : Nat, (∃ k42 : Nat, (World.cell? W57 (Addr.add a8 1) = some (Value.slice p9 k41 k42) ∧
                       Calls Tryz.prog 22 #[Value.slice p7 k37 k38, Value.slice p9 k41 k42] W57 (fun e16 =>
                        (fun W58 =>
                        (∃ t13 : Bool, (e16 = Ending.returned (Value.bool t13) ∧
                        (∃ I17 : Bool → World → Prop, (Sx.split (Option.isNone p5)
                          (I17 true W58)
                          (Sx.ptr p2 (fun a9 =>
                            (∃ s2 : ByteArray, (World.cell? W58 (Addr.add a9 2) = some (Value.string s2) ∧
                            Sx.split (!ByteArray.toList s == ByteArray.toList s2)
                             (I17 true W58)
                             (Sx.split (!t12)
                               (I17 true W58)
                               (I17 (!t13) W58)))))) ∧
                        ((Nat →
                        Value) →
                        (∀ x12 : Bool, (∀ W59 : World, (I17 x12 W59 →
                        Sx.split x12
                         (Q (Ending.returned (Value.bool false)) W59)
                         (Sx.ptr p2 (fun a10 =>
                           (∃ p10 : Option Addr, (World.cell? W59 (Addr.add a10 0) = some (Value.pointer p10) ∧
                           Calls Tryz.prog 15 #[Value.pointer p5, Value.pointer p10] W59 (fun e17 =>
                            (fun W60 =>
                            (∃ t14 : Bool, (e17 = Ending.returned (Value.bool t14) ∧
                            Sx.ptr p2 (fun a11 =>
                             (∃ p11 : Option Addr, (World.cell? W60 (Addr.add a11 0) = some (Value.pointer p11) ∧
                             Calls Tryz.prog 25 #[Value.pointer p5, Value.pointer p11] W60 (fun e18 =>
                              (fun W61 =>
                              (∃ t15 : Bool, (e18 = Ending.returned (Value.bool t15) ∧
                              Sx.split t14
                               (Q (Ending.returned (Value.bool t15)) W61)
                               (Q (Ending.returned (Value.bool false)) W61))))))))))))))))))))))))))))))))))))))))))))))))))))))))))))))))))))))))))))))))))))))))))))))))))))))))))))))))))))))))))))))))))))))))))))) :
  Calls Tryz.prog 4 #[Value.slice arg0 arg0n arg0c, Value.slice arg1 arg1n arg1c, Value.slice arg2 arg2n arg2c, Value.int .i64 arg3] W Q :=
  Sx.sound Tryz.func4 (.node [] [] 0 .leaf (.node [] [] 0 .leaf (.node [] [] 0 .leaf (.node [] [] 0 .leaf (.node [] [] 0 .leaf (.node [(12, .any), (11, .ptr)] [0, 1, 9, 10, 3, 2] 1 (.node [] [] 1009 .leaf .leaf) (.node [] [] 0 .leaf (.node [] [] 0 (.node [] [] 0 .leaf (.node [] [] 0 (.node [(15, .int .i64)] [9, 0, 10, 1, 12, 14, 11, 13, 3, 2] 0 (.node [] [] 0 .leaf (.node [] [] 0 (.node [] [] 0 (.node [] [] 0 (.node [(99, .bool)] [9, 15, 0, 10, 1, 12, 14, 11, 13, 3, 2] 1 .leaf .leaf) .leaf) .leaf) .leaf)) .leaf) .leaf)) (.node [] [] 0 (.node [] [] 0 .leaf (.node [] [] 0 (.node [(16, .int .i64)] [10, 1, 12, 14, 11, 13, 3, 2] 0 (.node [] [] 0 .leaf (.node [] [] 0 (.node [] [] 0 (.node [] [] 0 (.node [(136, .bool)] [10, 16, 1, 12, 14, 11, 13, 3, 2] 1 .leaf .leaf) .leaf) .leaf) .leaf)) .leaf) .leaf)) (.node [] [] 0 .leaf (.node [] [] 0 (.node [(151, .bool)] [11, 3, 2, 13] 1 .leaf .leaf) (.node [] [] 0 .leaf (.node [] [] 0 (.node [] [] 0 .leaf (.node [] [] 0 (.node [(18, .int .i64)] [3, 2, 13, 11] 0 (.node [] [] 0 (.node [(160, .bool)] [2, 18, 13, 11, 3] 1 .leaf .leaf) (.node [] [18, 3, 2, 13, 11] 1 (.node [] [] 0 (.node [] [] 0 (.node [] [] 0 .leaf (.node [] [] 0 (.node [(19, .int .i64)] [2, 18, 13, 11, 3] 0 (.node [] [] 0 .leaf (.node [] [19, 2, 18, 13, 11, 3] 1 .leaf .leaf)) .leaf) .leaf)) (.node [] [] 0 .leaf (.node [] [] 0 .leaf (.node [] [] 0 (.node [(219, .bool)] [18, 11, 13, 3, 2] 1 (.node [] [] 1008 .leaf .leaf) .leaf) .leaf)))) .leaf) .leaf)) .leaf) .leaf)) (.node [] [] 0 .leaf (.node [] [] 0 .leaf (.node [] [] 0 .leaf (.node [] [] 0 .leaf (.node [] [] 0 .leaf (.node [] [] 0 .leaf (.node [] [] 0 (.node [(270, .bool)] [26, 13] 1 .leaf .leaf) .leaf)))))))))))))))))))) [Value.slice arg0 arg0n arg0c, Value.slice arg1 arg1n arg1c, Value.slice arg2 arg2n arg2c, Value.int .i64 arg3] rfl (Eq.mp (by kernel_rfl) hVC)
end Go.Proofs.YtcpmgklhfpcaeaaGreatDoor
/- What each function asks, reckoned out of its text; printed by a program of mine (wip/tpl/VcTool.lean). No condition. -/
namespace Go.Proofs.YtcpmgklhfpcaeaaGreatDoor
open Go Go.Proofs
set_option linter.unusedVariables false
set_option maxRecDepth 100000
theorem vc18 {W : World} {Q : Ending → World → Prop} (m : Nat) (mo : Nat) (on : Bool)
  (hVC :
    ((∃ v : Value, World.cell? W (Addr.mk m (mo + 3) none) = some v) ∧
    (World.frozen? W (Addr.mk m (mo + 3) none) = false ∧
    (∀ W2 : World, (W2 = World.setCell W (Addr.mk m (mo + 3) none) (Value.bool on) →
    Q (Ending.returned (Value.tuple #[])) W2))))) :
  Calls Tryz.prog 18 #[Value.pointer (some ⟨m, mo, none⟩), Value.bool on] W Q :=
  Sx.sound Tryz.func18 .leaf [Value.pointer (some ⟨m, mo, none⟩), Value.bool on] rfl (Eq.mp (by kernel_rfl) hVC)
theorem vc21 {W : World} {Q : Ending → World → Prop} (m : Nat) (mo : Nat)
  (hVC :
    (∃ p : Option Addr, (∃ k : Nat, (∃ k2 : Nat, (World.cell? W (Addr.mk m (mo + 1) none) = some (Value.slice p k k2) ∧
    Calls Tryz.prog 63 #[Value.slice p k k2] W (fun e =>
     (fun W2 =>
     (∃ p2 : Option Addr, (∃ k3 : Nat, (∃ k4 : Nat, (e = Ending.returned (Value.slice p2 k3 k4) ∧
     Q (Ending.returned (Value.slice p2 k3 k4)) W2))))))))))) :
  Calls Tryz.prog 21 #[Value.pointer (some ⟨m, mo, none⟩)] W Q :=
  Sx.sound Tryz.func21 .leaf [Value.pointer (some ⟨m, mo, none⟩)] rfl (Eq.mp (by kernel_rfl) hVC)
theorem vc24 {W : World} {Q : Ending → World → Prop} (m : Nat) (mo : Nat)
  (hVC :
    (∃ p : Option Addr, (∃ k : Nat, (∃ k2 : Nat, (World.cell? W (Addr.mk m (mo + 2) none) = some (Value.slice p k k2) ∧
    (∃ l : List Int, (Sx.Bts W p k l ∧
    Q (Ending.returned (Value.string (Sx.bstr l))) W))))))) :
  Calls Tryz.prog 24 #[Value.pointer (some ⟨m, mo, none⟩)] W Q :=
  Sx.sound Tryz.func24 .leaf [Value.pointer (some ⟨m, mo, none⟩)] rfl (Eq.mp (by kernel_rfl) hVC)
theorem vc17 {W : World} {Q : Ending → World → Prop} (code : Option Addr) (coden : Nat) (codec : Nat) (data : Option Addr) (datan : Nat) (datac : Nat)
  (hVC :
    Calls Tryz.prog 6 #[Value.slice code coden codec, Value.int IntKind.i64 (↑datan : Int), Value.int IntKind.i64 0] W (fun e =>
     (fun W2 =>
     (∃ p : Option Addr, (∃ z : Int, (e = Ending.returned (Value.tuple #[Value.pointer p, Value.int IntKind.i64 z]) ∧
     Sx.split (z != 0)
      (Q (Ending.returned (Value.tuple #[Value.pointer none, Value.int IntKind.i64 z])) W2)
      ((((0 : Int) ≤ (↑datan : Int) ∧
        ((↑datan : Int) ≤ (↑datan : Int) ∧
        ((↑datan : Int) ≤ 9223372036854775807 ∧
        (↑1 : Int) * (↑datan : Int) ≤ 281474976710656))) ∧
       (∀ k : Nat, (∀ W3 : World, (k = Array.size (World.heap W2) →
       (W3 = World.alloc W2 (Obj.cells (madeCells #[Value.int IntKind.u8 0] (Int.toNat (↑datan : Int) * 1)) 5) →
       (∃ l : List Value, (List.length l = Nat.min datan (Int.toNat (↑datan : Int)) * 1 ∧
       ((∀ v : Value, (v ∈ l →
        Value.oneCell' v = true)) ∧
       (((l = []) ∨
        (((∃ a : Addr, (data = some a ∧
         (∀ k2 : Nat, (∀ v2 : Value, (l[k2]? = some v2 →
         World.cell? W3 (Addr.add a k2) = some v2))))) ∧
        (∃ k3 : Nat, (∃ k4 : Nat, (some (Addr.mk k 0 none) = some (Addr.mk k3 k4 none) ∧
        (∀ k5 : Nat, (k5 < List.length l →
        ((∃ v3 : Value, World.cell? W3 (Addr.mk k3 (k4 + k5) none) = some v3) ∧
        World.frozen? W3 (Addr.mk k3 (k4 + k5) none) = false))))))))) ∧
       (∀ W4 : World, (W4 = Sx.setRow (some (Addr.mk k 0 none)) W3 l →
       (∀ vs : Array Value, (vs = #[Value.pointer p, Value.slice (some (Addr.mk k 0 none)) (Int.toNat (↑datan : Int)) (Int.toNat (↑datan : Int)), Value.string (ByteArray.mk #[]), Value.bool false, Value.int IntKind.u32 0] →
       (∀ k6 : Nat, (∀ W5 : World, (k6 = Array.size (World.heap W4) →
       (W5 = World.alloc W4 (Obj.cells (Value.cells (Value.agg vs)) 62) →
       Q (Ending.returned (Value.tuple #[Value.pointer (some (Addr.mk k6 0 none)), Value.int IntKind.i64 0])) W5)))))))))))))))))))))))) :
  Calls Tryz.prog 17 #[Value.slice code coden codec, Value.slice data datan datac] W Q :=
  Sx.sound Tryz.func17 .leaf [Value.slice code coden codec, Value.slice data datan datac] rfl (Eq.mp (by kernel_rfl) hVC)
theorem vc20 {W : World} {Q : Ending → World → Prop} (arg0 : Nat) (arg0o : Nat)
  (hVC :
    (∀ k : Nat, (∀ W2 : World, (k = Array.size (World.heap W) →
    (W2 = World.alloc W (Obj.cells #[Value.int IntKind.u32 0, Value.int IntKind.u32 0, Value.int IntKind.i64 0, Value.int IntKind.u32 0, Value.int IntKind.i64 0, Value.int IntKind.u32 0, Value.int IntKind.u32 0] 46) →
    (∃ p : Option Addr, (World.cell? W2 (Addr.mk arg0 arg0o none) = some (Value.pointer p) ∧
    Sx.ptr p (fun a =>
     (∃ t : Bool, (World.cell? W2 (Addr.add a 36) = some (Value.bool t) ∧
     Sx.split t
      ((∀ vs : Array Value, (vs = #[Value.int IntKind.u32 0, Value.int IntKind.u32 0, Value.int IntKind.i64 0, Value.int IntKind.u32 0, Value.int IntKind.i64 0, Value.int IntKind.u32 0, Value.int IntKind.u32 0] →
       (Array.size vs = 7 ∧
       ((∀ k2 : Nat, (k2 < 7 →
        ((∃ v : Value, World.cell? W2 (Addr.mk k (0 + k2) none) = some v) ∧
        World.frozen? W2 (Addr.mk k (0 + k2) none) = false))) ∧
       ((∀ v2 : Value, (v2 ∈ Array.toList vs →
        Value.oneCell' v2 = true)) ∧
       (∀ W3 : World, (W3 = World.setCells W2 k 0 (Array.toList vs) →
       (∃ vs2 : Array Value, (Array.size vs2 = 7 ∧
       (Sx.cellsAt W3 (Addr.mk k 0 none) vs2 ∧
       Q (Ending.returned (Value.tuple #[Value.agg vs2, Value.bool false])) W3)))))))))))
      ((∃ I : World → Prop, ((∃ t2 : Bool, (World.cell? W2 (Addr.mk arg0 (arg0o + 3) none) = some (Value.bool t2) ∧
        Sx.split t2
         ((∃ p2 : Option Addr, (World.cell? W2 (Addr.mk arg0 arg0o none) = some (Value.pointer p2) ∧
          Calls Tryz.prog 11 #[Value.pointer p2] W2 (fun e =>
           (fun W4 =>
           (∃ vs3 : Array Value, (∃ t3 : Bool, (e = Ending.returned (Value.tuple #[Value.agg vs3, Value.bool t3]) ∧
           (∀ k3 : Nat, (∀ W5 : World, (k3 = Array.size (World.heap W4) →
           (W5 = World.alloc W4 (Obj.cells #[Value.int IntKind.u32 0, Value.int IntKind.u32 0, Value.int IntKind.i64 0, Value.int IntKind.u32 0, Value.int IntKind.i64 0, Value.int IntKind.u32 0, Value.int IntKind.u32 0] 46) →
           (Array.size vs3 = 7 ∧
           ((∀ k4 : Nat, (k4 < 7 →
            ((∃ v3 : Value, World.cell? W5 (Addr.mk k3 (0 + k4) none) = some v3) ∧
            World.frozen? W5 (Addr.mk k3 (0 + k4) none) = false))) ∧
           ((∀ v4 : Value, (v4 ∈ Array.toList vs3 →
            Value.oneCell' v4 = true)) ∧
           (∀ W6 : World, (W6 = World.setCells W5 k3 0 (Array.toList vs3) →
           Sx.split t3
            ((∃ vs4 : Array Value, (Array.size vs4 = 7 ∧
             (Sx.cellsAt W6 (Addr.mk k3 0 none) vs4 ∧
             (Array.size vs4 = 7 ∧
             ((∀ k5 : Nat, (k5 < 7 →
              ((∃ v5 : Value, World.cell? W6 (Addr.mk k (0 + k5) none) = some v5) ∧
              World.frozen? W6 (Addr.mk k (0 + k5) none) = false))) ∧
             ((∀ v6 : Value, (v6 ∈ Array.toList vs4 →
              Value.oneCell' v6 = true)) ∧
             (∀ W7 : World, (W7 = World.setCells W6 k 0 (Array.toList vs4) →
             (∃ vs5 : Array Value, (Array.size vs5 = 7 ∧
             (Sx.cellsAt W7 (Addr.mk k 0 none) vs5 ∧
             Q (Ending.returned (Value.tuple #[Value.agg vs5, Value.bool true])) W7))))))))))))
            (I W6))))))))))))))))))
         (I W2))) ∧
       ((Nat →
       Value) →
       (∀ W8 : World, (I W8 →
       (∃ p3 : Option Addr, (World.cell? W8 (Addr.mk arg0 arg0o none) = some (Value.pointer p3) ∧
       Calls Tryz.prog 9 #[Value.pointer p3] W8 (fun e2 =>
        (fun W9 =>
        (∃ vs6 : Array Value, (e2 = Ending.returned (Value.agg vs6) ∧
        (∀ k6 : Nat, (∀ W10 : World, (k6 = Array.size (World.heap W9) →
        (W10 = World.alloc W9 (Obj.cells #[Value.int IntKind.i64 0, Value.int IntKind.u32 0, Value.int IntKind.i64 0, Value.int IntKind.u32 0] 40) →
        (Array.size vs6 = 4 ∧
        ((∀ k7 : Nat, (k7 < 4 →
         ((∃ v7 : Value, World.cell? W10 (Addr.mk k6 (0 + k7) none) = some v7) ∧
         World.frozen? W10 (Addr.mk k6 (0 + k7) none) = false))) ∧
        ((∀ v8 : Value, (v8 ∈ Array.toList vs6 →
         Value.oneCell' v8 = true)) ∧
        (∀ W11 : World, (W11 = World.setCells W10 k6 0 (Array.toList vs6) →
        (∃ z : Int, (World.cell? W11 (Addr.mk k6 0 none) = some (Value.int IntKind.i64 z) ∧
        Calls Tryz.prog 40 #[Value.int IntKind.i64 z] W11 (fun e3 =>
         (fun W12 =>
         (∃ z2 : Int, (e3 = Ending.returned (Value.int IntKind.i64 z2) ∧
         (∃ I2 : Int → Bool → World → Prop, ((∃ z3 : Int, (World.cell? W12 (Addr.mk k6 0 none) = some (Value.int IntKind.i64 z3) ∧
          Sx.split (z3 == 0)
           (I2 0 false W12)
           (Sx.split (z2 == 4)
             ((∃ p4 : Option Addr, (∃ k8 : Nat, (∃ k9 : Nat, (World.cell? W12 (Addr.mk arg0 (arg0o + 1) none) = some (Value.slice p4 k8 k9) ∧
              (∃ z4 : Int, (World.cell? W12 (Addr.mk k6 (0 + 1) none) = some (Value.int IntKind.u32 z4) ∧
              (∃ z5 : Int, (World.cell? W12 (Addr.mk k6 (0 + 2) none) = some (Value.int IntKind.i64 z5) ∧
              (∃ z6 : Int, ((∀ k10 : Nat, Calls Tryz.prog 67 #[Value.slice p4 k8 k9, Value.int IntKind.u32 z4, Value.int IntKind.i64 z5] (World.drewN W12 k10) (fun e4 =>
                (fun W13 =>
                (e4 = Ending.returned (Value.int IntKind.u32 z6) ∧
                (∃ k11 : Nat, W13 = World.drewN W12 k11))))) ∧
              (∀ W14 : World, (∀ k12 : Nat, (W14 = World.drewN W12 k12 →
              I2 z6 false W14))))))))))))))
             (Sx.split (z2 == 5)
               ((∃ z7 : Int, (World.cell? W12 (Addr.mk k6 (0 + 1) none) = some (Value.int IntKind.u32 z7) ∧
                Sx.split (decide (z7 ≥ 131072))
                 ((∀ W15 : World, (W15 = World.drew W12 →
                  (∃ z8 : Int, (World.cell? W15 (Addr.mk k6 (0 + 3) none) = some (Value.int IntKind.u32 z8) ∧
                  (∀ z9 : Int, (z9 = IntKind.wrap IntKind.u8 z8 →
                  ((∃ s : ByteArray, (World.cell? W15 (Addr.mk arg0 (arg0o + 2) none) = some (Value.string s) ∧
                   (RowKit.Below (Array.size (World.heap W15)) W15 W15 ∧
                   (∀ k13 : Nat, (∀ W16 : World, (k13 = Array.size (World.heap W15) →
                   (W16 = World.alloc W15 (Obj.cells #[Value.int IntKind.u8 z9] 5) →
                   (∃ l : List Int, (Sx.Bts W16 (some (Addr.mk k13 0 none)) 1 l ∧
                   ((↑(ByteArray.size s + ByteArray.size (Sx.bstr l)) : Int) ≤ 9223372036854775807 ∧
                   (∀ s2 : ByteArray, (s2 = s ++ Sx.bstr l →
                   ((∃ v9 : Value, World.cell? W16 (Addr.mk arg0 (arg0o + 2) none) = some v9) ∧
                   (World.frozen? W16 (Addr.mk arg0 (arg0o + 2) none) = false ∧
                   (∀ W17 : World, (W17 = World.setCell W16 (Addr.mk arg0 (arg0o + 2) none) (Value.string s2) →
                   I2 0 false W17)))))))))))))))) ∧
                  (∀ k14 : Nat, (∀ W18 : World, (k14 = Array.size (World.heap W15) →
                  (W18 = World.alloc W15 (Obj.cells #[Value.int IntKind.u8 z9] 5) →
                  ((∃ s3 : ByteArray, (World.cell? W18 (Addr.mk arg0 (arg0o + 2) none) = some (Value.string s3) ∧
                   (∃ l2 : List Int, (Sx.Bts W18 (some (Addr.mk k14 0 none)) 1 l2 ∧
                   ((↑(ByteArray.size s3 + ByteArray.size (Sx.bstr l2)) : Int) ≤ 9223372036854775807 ∧
                   (∀ s4 : ByteArray, (s4 = s3 ++ Sx.bstr l2 →
                   ((∃ v10 : Value, World.cell? W18 (Addr.mk arg0 (arg0o + 2) none) = some v10) ∧
                   (World.frozen? W18 (Addr.mk arg0 (arg0o + 2) none) = false ∧
                   (∀ W19 : World, (W19 = World.setCell W18 (Addr.mk arg0 (arg0o + 2) none) (Value.string s4) →
                   I2 0 false W19))))))))))) ∧
                  (∃ l3 : List Int, (Sx.Bts W18 (some (Addr.mk k14 0 none)) 1 l3 ∧
                  (∃ s5 : ByteArray, (World.cell? W18 (Addr.mk arg0 (arg0o + 2) none) = some (Value.string s5) ∧
                  ((↑(ByteArray.size s5 + ByteArray.size (Sx.bstr l3)) : Int) ≤ 9223372036854775807 ∧
                  (∀ s6 : ByteArray, (s6 = s5 ++ Sx.bstr l3 →
                  ((∃ v11 : Value, World.cell? W18 (Addr.mk arg0 (arg0o + 2) none) = some v11) ∧
                  (World.frozen? W18 (Addr.mk arg0 (arg0o + 2) none) = false ∧
                  (∀ W20 : World, (W20 = World.setCell W18 (Addr.mk arg0 (arg0o + 2) none) (Value.string s6) →
                  I2 0 false W20))))))))))))))))))))))))
                 (Sx.split (z2 == 5)
                   ((∀ W21 : World, (W21 = World.drew W12 →
                    (∃ p5 : Option Addr, (∃ k15 : Nat, (∃ k16 : Nat, (World.cell? W21 (Addr.mk arg0 (arg0o + 1) none) = some (Value.slice p5 k15 k16) ∧
                    (∃ z10 : Int, (World.cell? W21 (Addr.mk k6 (0 + 1) none) = some (Value.int IntKind.u32 z10) ∧
                    (∃ z11 : Int, (World.cell? W21 (Addr.mk k6 (0 + 2) none) = some (Value.int IntKind.i64 z11) ∧
                    (∃ z12 : Int, (World.cell? W21 (Addr.mk k6 (0 + 3) none) = some (Value.int IntKind.u32 z12) ∧
                    Calls Tryz.prog 68 #[Value.slice p5 k15 k16, Value.int IntKind.u32 z10, Value.int IntKind.i64 z11, Value.int IntKind.u32 z12] W21 (fun e5 =>
                     (fun W22 =>
                     (e5 = Ending.returned (Value.tuple #[]) ∧
                     I2 0 false W22))))))))))))))))
                   ((∀ W23 : World, (W23 = World.drew W12 →
                    (∃ p6 : Option Addr, (∃ k17 : Nat, (∃ k18 : Nat, (World.cell? W23 (Addr.mk arg0 (arg0o + 1) none) = some (Value.slice p6 k17 k18) ∧
                    (∃ vs7 : Array Value, (Array.size vs7 = 4 ∧
                    (Sx.cellsAt W23 (Addr.mk k6 0 none) vs7 ∧
                    (∃ z13 : Int, (World.cell? W23 (Addr.mk arg0 (arg0o + 4) none) = some (Value.int IntKind.u32 z13) ∧
                    Calls Tryz.prog 69 #[Value.slice p6 k17 k18, Value.agg vs7, Value.int IntKind.u32 z13] W23 (fun e6 =>
                     (fun W24 =>
                     (∃ z14 : Int, (∃ t4 : Bool, (∃ z15 : Int, (e6 = Ending.returned (Value.tuple #[Value.int IntKind.u32 z14, Value.bool t4, Value.int IntKind.u32 z15]) ∧
                     ((∃ v12 : Value, World.cell? W24 (Addr.mk arg0 (arg0o + 4) none) = some v12) ∧
                     (World.frozen? W24 (Addr.mk arg0 (arg0o + 4) none) = false ∧
                     (∀ W25 : World, (W25 = World.setCell W24 (Addr.mk arg0 (arg0o + 4) none) (Value.int IntKind.u32 z15) →
                     I2 z14 t4 W25))))))))))))))))))))))))))
               (Sx.split (z2 == 5)
                 ((∀ W26 : World, (W26 = World.drew W12 →
                  (∃ p7 : Option Addr, (∃ k19 : Nat, (∃ k20 : Nat, (World.cell? W26 (Addr.mk arg0 (arg0o + 1) none) = some (Value.slice p7 k19 k20) ∧
                  (∃ z16 : Int, (World.cell? W26 (Addr.mk k6 (0 + 1) none) = some (Value.int IntKind.u32 z16) ∧
                  (∃ z17 : Int, (World.cell? W26 (Addr.mk k6 (0 + 2) none) = some (Value.int IntKind.i64 z17) ∧
                  (∃ z18 : Int, (World.cell? W26 (Addr.mk k6 (0 + 3) none) = some (Value.int IntKind.u32 z18) ∧
                  Calls Tryz.prog 68 #[Value.slice p7 k19 k20, Value.int IntKind.u32 z16, Value.int IntKind.i64 z17, Value.int IntKind.u32 z18] W26 (fun e7 =>
                   (fun W27 =>
                   (e7 = Ending.returned (Value.tuple #[]) ∧
                   I2 0 false W27))))))))))))))))
                 ((∀ W28 : World, (W28 = World.drew W12 →
                  (∃ p8 : Option Addr, (∃ k21 : Nat, (∃ k22 : Nat, (World.cell? W28 (Addr.mk arg0 (arg0o + 1) none) = some (Value.slice p8 k21 k22) ∧
                  (∃ vs8 : Array Value, (Array.size vs8 = 4 ∧
                  (Sx.cellsAt W28 (Addr.mk k6 0 none) vs8 ∧
                  (∃ z19 : Int, (World.cell? W28 (Addr.mk arg0 (arg0o + 4) none) = some (Value.int IntKind.u32 z19) ∧
                  Calls Tryz.prog 69 #[Value.slice p8 k21 k22, Value.agg vs8, Value.int IntKind.u32 z19] W28 (fun e8 =>
                   (fun W29 =>
                   (∃ z20 : Int, (∃ t5 : Bool, (∃ z21 : Int, (e8 = Ending.returned (Value.tuple #[Value.int IntKind.u32 z20, Value.bool t5, Value.int IntKind.u32 z21]) ∧
                   ((∃ v13 : Value, World.cell? W29 (Addr.mk arg0 (arg0o + 4) none) = some v13) ∧
                   (World.frozen? W29 (Addr.mk arg0 (arg0o + 4) none) = false ∧
                   (∀ W30 : World, (W30 = World.setCell W29 (Addr.mk arg0 (arg0o + 4) none) (Value.int IntKind.u32 z21) →
                   I2 z20 t5 W30))))))))))))))))))))))))))) ∧
         ((Nat →
         Value) →
         (∀ x : Int, (∀ x2 : Bool, (∀ W31 : World, (I2 x x2 W31 →
         (∃ p9 : Option Addr, (World.cell? W31 (Addr.mk arg0 arg0o none) = some (Value.pointer p9) ∧
         Calls Tryz.prog 14 #[Value.pointer p9, Value.int IntKind.u32 x, Value.bool x2] W31 (fun e9 =>
          (fun W32 =>
          (∃ vs9 : Array Value, (e9 = Ending.returned (Value.agg vs9) ∧
          (∀ k23 : Nat, (∀ W33 : World, (k23 = Array.size (World.heap W32) →
          (W33 = World.alloc W32 (Obj.cells #[Value.int IntKind.u32 0, Value.int IntKind.u32 0, Value.int IntKind.i64 0, Value.int IntKind.u32 0, Value.int IntKind.i64 0, Value.int IntKind.u32 0, Value.int IntKind.u32 0] 46) →
          (Array.size vs9 = 7 ∧
          ((∀ k24 : Nat, (k24 < 7 →
           ((∃ v14 : Value, World.cell? W33 (Addr.mk k23 (0 + k24) none) = some v14) ∧
           World.frozen? W33 (Addr.mk k23 (0 + k24) none) = false))) ∧
          ((∀ v15 : Value, (v15 ∈ Array.toList vs9 →
           Value.oneCell' v15 = true)) ∧
          (∀ W34 : World, (W34 = World.setCells W33 k23 0 (Array.toList vs9) →
          (∃ vs10 : Array Value, (Array.size vs10 = 7 ∧
          (Sx.cellsAt W34 (Addr.mk k23 0 none) vs10 ∧
          (Array.size vs10 = 7 ∧
          ((∀ k25 : Nat, (k25 < 7 →
           ((∃ v16 : Value, World.cell? W34 (Addr.mk k (0 + k25) none) = some v16) ∧
           World.frozen? W34 (Addr.mk k (0 + k25) none) = false))) ∧
          ((∀ v17 : Value, (v17 ∈ Array.toList vs10 →
           Value.oneCell' v17 = true)) ∧
          (∀ W35 : World, (W35 = World.setCells W34 k 0 (Array.toList vs10) →
          (∃ vs11 : Array Value, (Array.size vs11 = 7 ∧
          (Sx.cellsAt W35 (Addr.mk k 0 none) vs11 ∧
          Q (Ending.returned (Value.tuple #[Value.agg vs11, Value.bool true])) W35)))))))))))))))))))))))))))))))))))))))))))))))))))))))))))))))))))))) :
  Calls Tryz.prog 20 #[Value.pointer (some ⟨arg0, arg0o, none⟩)] W Q :=
  Sx.sound Tryz.func20 (.node [] [] 0 .leaf (.node [] [] 0 .leaf (.node [] [0, 2] 1 .leaf (.node [] [] 0 .leaf (.node [] [] 0 .leaf (.node [] [] 0 .leaf (.node [] [] 0 .leaf (.node [(8, .int .u32), (9, .bool)] [0, 2] 1 (.node [] [] 0 (.node [] [] 0 .leaf (.node [] [] 0 .leaf (.node [] [] 0 .leaf (.node [] [] 0 .leaf (.node [] [] 0 .leaf (.node [] [] 0 (.node [] [] 1009 .leaf .leaf) (.node [] [] 0 .leaf (.node [] [] 0 (.node [] [] 1011 .leaf .leaf) (.node [] [] 1011 .leaf .leaf))))))))) .leaf) .leaf)))))))) [Value.pointer (some ⟨arg0, arg0o, none⟩)] rfl (Eq.mp (by kernel_rfl) hVC)
theorem vc67 {W : World} {Q : Ending → World → Prop} (data : Option Addr) (datan : Nat) (datac : Nat) (addr : Int) (size : Int)
  (hVC :
    (∀ z : Int, (z = IntKind.wrap IntKind.i64 (size - 1) →
    (∃ I : Int → Int → World → Prop, (∃ I2 : Int → Int → World → Nat, (I z 0 W ∧
    ((Nat →
    Value) →
    (∀ k : Int, (∀ v : Int, (∀ W2 : World, (I k v W2 →
    Sx.split (decide (k ≥ 0))
     (((0 : Int) ≤ (8 : Int) ∧
      (∀ z2 : Int, (z2 = IntKind.wrap IntKind.u32 (v * 2 ^ min 8 (IntKind.bits IntKind.u32)) →
      (∀ z3 : Int, (z3 = IntKind.wrap IntKind.i64 addr →
      (∀ z4 : Int, (z4 = IntKind.wrap IntKind.i64 (z3 - 65536) →
      (∀ z5 : Int, (z5 = IntKind.wrap IntKind.i64 (z4 + k) →
      (((0 : Int) ≤ z5 ∧
       z5 < (↑datan : Int)) ∧
      Sx.adr data (fun k2 =>
       (fun k3 =>
       (∃ z6 : Int, (World.cell? W2 (Addr.mk k2 (k3 + Int.toNat z5 * 1) none) = some (Value.int IntKind.u8 z6) ∧
       (∀ z7 : Int, (z7 = IntKind.wrap IntKind.u32 z6 →
       (∀ z8 : Int, (z8 = IntKind.wrap IntKind.u32 (↑(BitVec.toNat (BitVec.ofInt (IntKind.bits IntKind.u32) z2 ||| BitVec.ofInt (IntKind.bits IntKind.u32) z7)) : Int) →
       (∀ z9 : Int, (z9 = IntKind.wrap IntKind.i64 (k - 1) →
       (I z9 z8 W2 ∧
       I2 z9 z8 W2 < I2 k v W2))))))))))))))))))))))
     (Q (Ending.returned (Value.int IntKind.u32 v)) W2)))))))))))) :
  Calls Tryz.prog 67 #[Value.slice data datan datac, Value.int .u32 addr, Value.int .i64 size] W Q :=
  Sx.sound Tryz.func67 (.node [] [] 0 .leaf (.node [] [] 0 .leaf (.node [] [] 0 (.node [] [] 0 .leaf (.node [] [] 0 (.node [(8, .int .i64), (7, .int .u32)] [0, 1] 0 .leaf .leaf) .leaf)) .leaf))) [Value.slice data datan datac, Value.int .u32 addr, Value.int .i64 size] rfl (Eq.mp (by kernel_rfl) hVC)
theorem vc68 {W : World} {Q : Ending → World → Prop} (data : Option Addr) (datan : Nat) (datac : Nat) (addr : Int) (size : Int) (v : Int)
  (hVC :
    (∃ I : Int → World → Prop, (∃ I2 : Int → World → Nat, (I 0 W ∧
    ((Nat →
    Value) →
    (∀ k : Int, (∀ W2 : World, (I k W2 →
    Sx.split (decide (k < size))
     ((∀ z : Int, (z = IntKind.wrap IntKind.i64 addr →
      (∀ z2 : Int, (z2 = IntKind.wrap IntKind.i64 (z - 65536) →
      (∀ z3 : Int, (z3 = IntKind.wrap IntKind.i64 (z2 + k) →
      (∀ z4 : Int, (z4 = IntKind.wrap IntKind.i64 (8 * k) →
      ((0 : Int) ≤ z4 ∧
      (∀ z5 : Int, (z5 = Int.fdiv v (2 ^ min (Int.toNat z4) (IntKind.bits IntKind.u32)) →
      (∀ z6 : Int, (z6 = IntKind.wrap IntKind.u8 z5 →
      (((0 : Int) ≤ z3 ∧
       z3 < (↑datan : Int)) ∧
      Sx.adr data (fun k2 =>
       (fun k3 =>
       ((∃ v2 : Value, World.cell? W2 (Addr.mk k2 (k3 + Int.toNat z3 * 1) none) = some v2) ∧
       (World.frozen? W2 (Addr.mk k2 (k3 + Int.toNat z3 * 1) none) = false ∧
       (∀ W3 : World, (W3 = World.setCell W2 (Addr.mk k2 (k3 + Int.toNat z3 * 1) none) (Value.int IntKind.u8 z6) →
       (∀ z7 : Int, (z7 = IntKind.wrap IntKind.i64 (k + 1) →
       (I z7 W3 ∧
       I2 z7 W3 < I2 k W2))))))))))))))))))))))))
     (Q (Ending.returned (Value.tuple #[])) W2))))))))) :
  Calls Tryz.prog 68 #[Value.slice data datan datac, Value.int .u32 addr, Value.int .i64 size, Value.int .u32 v] W Q :=
  Sx.sound Tryz.func68 (.node [] [] 0 .leaf (.node [] [] 0 (.node [(8, .int .i64)] [2, 0, 1, 3] 0 .leaf .leaf) .leaf)) [Value.slice data datan datac, Value.int .u32 addr, Value.int .i64 size, Value.int .u32 v] rfl (Eq.mp (by kernel_rfl) hVC)
theorem vc69 {W : World} {Q : Ending → World → Prop} (data : Option Addr) (datan : Nat) (datac : Nat) (q : Array Value) (reserved : Int)
  (hVC :
    (∀ k : Nat, (∀ W2 : World, (k = Array.size (World.heap W) →
    (W2 = World.alloc W (Obj.cells (Value.cells (Value.agg q)) 40) →
    Calls Tryz.prog 57 #[] W2 (fun e =>
     (fun W3 =>
     (∃ p : Option Addr, (∃ k2 : Nat, (∃ k3 : Nat, (e = Ending.returned (Value.slice p k2 k3) ∧
     (∃ z : Int, (World.cell? W3 (Addr.mk k (0 + 1) none) = some (Value.int IntKind.u32 z) ∧
     Calls Tryz.prog 67 #[Value.slice data datan datac, Value.int IntKind.u32 z, Value.int IntKind.i64 4] W3 (fun e2 =>
      (fun W4 =>
      (∃ z2 : Int, (e2 = Ending.returned (Value.int IntKind.u32 z2) ∧
      (∃ z3 : Int, (World.cell? W4 (Addr.mk k 0 none) = some (Value.int IntKind.i64 z3) ∧
      (∀ z4 : Int, (z4 = IntKind.wrap IntKind.i64 (z3 - 1) →
      (((0 : Int) ≤ z4 ∧
       z4 < (↑k2 : Int)) ∧
      Sx.adr p (fun k4 =>
       (fun k5 =>
       (∃ s : ByteArray, (World.cell? W4 (Addr.mk k4 (k5 + Int.toNat z4 * 5) none) = some (Value.string s) ∧
       Sx.split (ByteArray.toList s == ByteArray.toList (ByteArray.mk #[108, 114, 46, 119]))
        ((∃ z5 : Int, (World.cell? W4 (Addr.mk k (0 + 1) none) = some (Value.int IntKind.u32 z5) ∧
         (∀ W5 : World, (∀ k6 : Nat, (W5 = World.drewN W4 k6 →
         Q (Ending.returned (Value.tuple #[Value.int IntKind.u32 z2, Value.bool false, Value.int IntKind.u32 z5])) W5))))))
        (Sx.split (ByteArray.toList s == ByteArray.toList (ByteArray.mk #[115, 99, 46, 119]))
          ((∃ z6 : Int, (World.cell? W4 (Addr.mk k (0 + 1) none) = some (Value.int IntKind.u32 z6) ∧
           Sx.split (reserved == z6)
            ((∃ z7 : Int, (World.cell? W4 (Addr.mk k (0 + 1) none) = some (Value.int IntKind.u32 z7) ∧
             (∃ z8 : Int, (World.cell? W4 (Addr.mk k (0 + 3) none) = some (Value.int IntKind.u32 z8) ∧
             Calls Tryz.prog 68 #[Value.slice data datan datac, Value.int IntKind.u32 z7, Value.int IntKind.i64 4, Value.int IntKind.u32 z8] W4 (fun e3 =>
              (fun W6 =>
              (e3 = Ending.returned (Value.tuple #[]) ∧
              Q (Ending.returned (Value.tuple #[Value.int IntKind.u32 z2, Value.bool (reserved == z6), Value.int IntKind.u32 0])) W6))))))))
            (Q (Ending.returned (Value.tuple #[Value.int IntKind.u32 z2, Value.bool (reserved == z6), Value.int IntKind.u32 0])) W4))))
          ((∃ z9 : Int, (World.cell? W4 (Addr.mk k 0 none) = some (Value.int IntKind.i64 z9) ∧
           (∃ z10 : Int, (World.cell? W4 (Addr.mk k (0 + 3) none) = some (Value.int IntKind.u32 z10) ∧
           Calls Tryz.prog 91 #[Value.int IntKind.i64 z9, Value.int IntKind.u32 z2, Value.int IntKind.u32 z10] W4 (fun e4 =>
            (fun W7 =>
            (∃ z11 : Int, (e4 = Ending.returned (Value.int IntKind.u32 z11) ∧
            (∃ z12 : Int, (World.cell? W7 (Addr.mk k (0 + 1) none) = some (Value.int IntKind.u32 z12) ∧
            Calls Tryz.prog 68 #[Value.slice data datan datac, Value.int IntKind.u32 z12, Value.int IntKind.i64 4, Value.int IntKind.u32 z11] W7 (fun e5 =>
             (fun W8 =>
             (e5 = Ending.returned (Value.tuple #[]) ∧
             Q (Ending.returned (Value.tuple #[Value.int IntKind.u32 z2, Value.bool false, Value.int IntKind.u32 reserved])) W8))))))))))))))))))))))))))))))))))))))))) :
  Calls Tryz.prog 69 #[Value.slice data datan datac, Value.agg q, Value.int .u32 reserved] W Q :=
  Sx.sound Tryz.func69 .leaf [Value.slice data datan datac, Value.agg q, Value.int .u32 reserved] rfl (Eq.mp (by kernel_rfl) hVC)
theorem vc25 {W : World} {Q : Ending → World → Prop} (h : Nat) (ho : Nat) (r : Nat) (ro : Nat)
  (hVC :
    (∃ I : Int → World → Prop, (∃ I2 : Int → World → Nat, (I 0 W ∧
    ((Nat →
    Value) →
    (∀ n : Int, (∀ W2 : World, (I n W2 →
    Sx.split (decide (n < 4096))
     (((64 : Int) ≠ (0 : Int) ∧
      (∀ z : Int, (z = Int.tmod n 64 →
      Sx.split (decide (z > 5))
       (((64 : Int) ≠ (0 : Int) ∧
        (∀ z2 : Int, (z2 = Int.tmod n 64 →
        Sx.split (z2 != 20)
         ((∀ z3 : Int, (z3 = IntKind.wrap IntKind.i64 (n + 1) →
          (I z3 W2 ∧
          I2 z3 W2 < I2 n W2))))
         (Calls Tryz.prog 70 #[Value.pointer (some (Addr.mk h ho none)), Value.int IntKind.i64 n] W2 (fun e =>
           (fun W3 =>
           (∃ z4 : Int, (∃ t : Bool, (e = Ending.returned (Value.tuple #[Value.int IntKind.u32 z4, Value.bool t]) ∧
           Calls Tryz.prog 71 #[Value.pointer (some (Addr.mk r ro none)), Value.int IntKind.i64 n] W3 (fun e2 =>
            (fun W4 =>
            (∃ z5 : Int, (∃ t2 : Bool, (e2 = Ending.returned (Value.tuple #[Value.int IntKind.u32 z5, Value.bool t2]) ∧
            Sx.split (z4 != z5)
             (Q (Ending.returned (Value.bool false)) W4)
             (Sx.split (!t == t2)
               (Q (Ending.returned (Value.bool false)) W4)
               ((∀ z6 : Int, (z6 = IntKind.wrap IntKind.i64 (n + 1) →
                (I z6 W4 ∧
                I2 z6 W4 < I2 n W2))))))))))))))))))))
       (Calls Tryz.prog 70 #[Value.pointer (some (Addr.mk h ho none)), Value.int IntKind.i64 n] W2 (fun e3 =>
         (fun W5 =>
         (∃ z7 : Int, (∃ t3 : Bool, (e3 = Ending.returned (Value.tuple #[Value.int IntKind.u32 z7, Value.bool t3]) ∧
         Calls Tryz.prog 71 #[Value.pointer (some (Addr.mk r ro none)), Value.int IntKind.i64 n] W5 (fun e4 =>
          (fun W6 =>
          (∃ z8 : Int, (∃ t4 : Bool, (e4 = Ending.returned (Value.tuple #[Value.int IntKind.u32 z8, Value.bool t4]) ∧
          Sx.split (z7 != z8)
           (Q (Ending.returned (Value.bool false)) W6)
           (Sx.split (!t3 == t4)
             (Q (Ending.returned (Value.bool false)) W6)
             ((∀ z9 : Int, (z9 = IntKind.wrap IntKind.i64 (n + 1) →
              (I z9 W6 ∧
              I2 z9 W6 < I2 n W2))))))))))))))))))))
     (Q (Ending.returned (Value.bool true)) W2))))))))) :
  Calls Tryz.prog 25 #[Value.pointer (some ⟨h, ho, none⟩), Value.pointer (some ⟨r, ro, none⟩)] W Q :=
  Sx.sound Tryz.func25 (.node [] [] 0 .leaf (.node [] [] 0 (.node [] [] 0 .leaf (.node [] [] 0 (.node [(5, .int .i64)] [0, 1] 0 .leaf .leaf) .leaf)) .leaf)) [Value.pointer (some ⟨h, ho, none⟩), Value.pointer (some ⟨r, ro, none⟩)] rfl (Eq.mp (by kernel_rfl) hVC)
theorem vc22 {W : World} {Q : Ending → World → Prop} (d : Option Addr) (dn : Nat) (dc : Nat) (want : Option Addr) (wantn : Nat) (wantc : Nat)
  (hVC :
    Sx.split ((↑dn : Int) != (↑wantn : Int))
     (Q (Ending.returned (Value.bool false)) W)
     ((∃ I : Int → World → Prop, (∃ I2 : Int → World → Nat, (I 0 W ∧
      ((Nat →
      Value) →
      (∀ i : Int, (∀ W2 : World, (I i W2 →
      Sx.split (decide (i < (↑dn : Int)))
       ((((0 : Int) ≤ i ∧
         i < (↑dn : Int)) ∧
        Sx.adr d (fun k =>
         (fun k2 =>
         (∃ z : Int, (World.cell? W2 (Addr.mk k (k2 + Int.toNat i * 1) none) = some (Value.int IntKind.u8 z) ∧
         (((0 : Int) ≤ i ∧
          i < (↑wantn : Int)) ∧
         Sx.adr want (fun k3 =>
          (fun k4 =>
          (∃ z2 : Int, (World.cell? W2 (Addr.mk k3 (k4 + Int.toNat i * 1) none) = some (Value.int IntKind.u8 z2) ∧
          (∀ W3 : World, (∀ k5 : Nat, (W3 = World.drewN W2 k5 →
          Sx.split (z != z2)
           (Q (Ending.returned (Value.bool false)) W3)
           ((((0 : Int) ≤ i ∧
             i < (↑dn : Int)) ∧
            Sx.adr d (fun k6 =>
             (fun k7 =>
             (∃ z3 : Int, (World.cell? W3 (Addr.mk k6 (k7 + Int.toNat i * 1) none) = some (Value.int IntKind.u8 z3) ∧
             (∀ z4 : Int, (z4 = IntKind.wrap IntKind.u8 (z3 + 101) →
             (((0 : Int) ≤ i ∧
              i < (↑dn : Int)) ∧
             Sx.adr d (fun k8 =>
              (fun k9 =>
              ((∃ v : Value, World.cell? W3 (Addr.mk k8 (k9 + Int.toNat i * 1) none) = some v) ∧
              (World.frozen? W3 (Addr.mk k8 (k9 + Int.toNat i * 1) none) = false ∧
              (∀ W4 : World, (W4 = World.setCell W3 (Addr.mk k8 (k9 + Int.toNat i * 1) none) (Value.int IntKind.u8 z4) →
              (∀ z5 : Int, (z5 = IntKind.wrap IntKind.i64 (i + 1) →
              (I z5 W4 ∧
              I2 z5 W4 < I2 i W2))))))))))))))))))))))))))))))))
       ((∃ I3 : Int → Option Addr → Nat → Nat → World → Prop, (∃ I4 : Int → Option Addr → Nat → Nat → World → Nat, (I3 0 d dn dc W2 ∧
        ((Nat →
        Value) →
        (∀ i2 : Int, (∀ g : Option Addr, (∀ k10 : Nat, (∀ k11 : Nat, (∀ W5 : World, (I3 i2 g k10 k11 W5 →
        Sx.split (decide (i2 < 70))
         ((∀ k12 : Nat, (∀ W6 : World, (k12 = Array.size (World.heap W5) →
          (W6 = World.alloc W5 (Obj.cells #[Value.int IntKind.u8 238] 5) →
          (∃ l : List Value, (∃ l2 : List Value, (XHeap.Sl W6 5 1 (Value.slice g k10 k11) k10 l ∧
          (((((1 : Nat) = (0 : Nat) ∧
            some (Addr.mk k12 0 none) = none)) ∨
           ((∃ a : Addr, (some (Addr.mk k12 0 none) = some a ∧
           (∀ k13 : Nat, (∀ v2 : Value, (l2[k13]? = some v2 →
           World.cell? W6 (Addr.add a k13) = some v2))))))) ∧
          (List.length l2 = 1 ∧
          ((∀ v3 : Value, (v3 ∈ l2 →
           Value.oneCell' v3 = true)) ∧
          (k10 + 1 ≤ maxLen ∧
          ((k10 + 1) * 1 ≤ 140737488355328 ∧
          (∀ p : Option Addr, (∀ k14 : Nat, (∀ W7 : World, (XHeap.Sl W7 5 1 (Value.slice p (k10 + 1) k14) (k10 + 1) (l ++ l2) →
          (XHeap.XTouch (fun b => Value.ownBlock (Value.slice g k10 k11) = some b) W6 W7 →
          ((∀ k15 : Nat, (Value.ownBlock (Value.slice p (k10 + 1) k14) = some k15 →
          ((Value.ownBlock (Value.slice g k10 k11) = some k15) ∨
          (Array.size (World.heap W6) ≤ k15)))) →
          (XHeap.Sl W7 5 1 (Value.slice g k10 k11) k10 l →
          ((((p = g ∧
           k14 = k11)) ∨
          ((((XHeap.NilP g) ∨
           (k11 < k10 + 1)) ∧
          (∀ k16 : Nat, (Value.ownBlock (Value.slice p (k10 + 1) k14) = some k16 →
          Array.size (World.heap W6) ≤ k16))))) →
          (∀ z6 : Int, (z6 = IntKind.wrap IntKind.i64 (i2 + 1) →
          (I3 z6 p (k10 + 1) k14 W7 ∧
          I4 z6 p (k10 + 1) k14 W7 < I4 i2 g k10 k11 W5))))))))))))))))))))))))
         ((∀ z7 : Int, (z7 = IntKind.wrap IntKind.i64 ((↑dn : Int) + 70) →
          Q (Ending.returned (Value.bool ((↑k10 : Int) == z7))) W5))))))))))))))))))))))) :
  Calls Tryz.prog 22 #[Value.slice d dn dc, Value.slice want wantn wantc] W Q :=
  Sx.sound Tryz.func22 (.node [] [] 0 .leaf (.node [] [] 0 .leaf (.node [] [] 0 (.node [] [] 0 .leaf (.node [] [] 0 (.node [(5, .int .i64)] [0, 1] 0 .leaf .leaf) .leaf)) (.node [] [] 0 .leaf (.node [] [] 0 (.node [] [] 0 .leaf (.node [] [] 0 (.node [(7, .int .i64), (6, .slice)] [0] 0 .leaf .leaf) .leaf)) .leaf))))) [Value.slice d dn dc, Value.slice want wantn wantc] rfl (Eq.mp (by kernel_rfl) hVC)
end Go.Proofs.YtcpmgklhfpcaeaaGreatDoor
