/- What each function asks, reckoned out of its text; printed by a program of mine (wip/tpl/VcTool.lean). No condition. -/
import Derived.Test.YtdliholhfiihcaaDoorSxB
import Derived.Test.YtdliholhfiihcaaDoorChecked
namespace Go.Proofs.YtdliholhfiihcaaDoor
open Go Go.Proofs
set_option linter.unusedVariables false
set_option maxRecDepth 100000
theorem vc3 {W : World} {Q : Ending → World → Prop} (a0 : Int) (a1 : Option Addr) (a1n : Nat) (a1c : Nat)
  (hVC :
    Calls Tryd.prog 5 #[Value.int IntKind.i64 a0, Value.int IntKind.i64 63] W (fun e =>
     (fun W2 =>
     (∃ z : Int, (e = Ending.returned (Value.int IntKind.i64 z) ∧
     (∀ z2 : Int, (z2 = IntKind.wrap IntKind.i64 (2 + z) →
     Calls Tryd.prog 6 #[Value.int IntKind.i64 z2, Value.int IntKind.i64 128] W2 (fun e2 =>
      (fun W3 =>
      (∃ p : Option Addr, (∃ v : Value, (e2 = Ending.returned (Value.tuple #[Value.pointer p, v]) ∧
      Sx.isNil v (fun t =>
       Sx.split (!t)
        (Q (Ending.returned (Value.bool false)) W3)
        (Sx.split (Option.isNone p)
          (Q (Ending.returned (Value.bool false)) W3)
          ((∃ I : Option Addr → Nat → Nat → Option Addr → Nat → Nat → World → Prop, ((∃ I2 : Int → Int → Option Addr → Nat → Nat → Option Addr → Nat → Nat → World → Prop, (∃ I3 : Int → Int → Option Addr → Nat → Nat → Option Addr → Nat → Nat → World → Nat, (I2 0 0 none 0 0 none 0 0 W3 ∧
            ((Nat →
            Value) →
            (∀ x : Int, (∀ x2 : Int, (∀ x3 : Option Addr, (∀ k : Nat, (∀ k2 : Nat, (∀ x4 : Option Addr, (∀ k3 : Nat, (∀ k4 : Nat, (∀ W4 : World, (I2 x x2 x3 k k2 x4 k3 k4 W4 →
            Sx.split (decide (x < z2))
             ((∃ I4 : Int → Option Addr → Nat → Nat → Option Addr → Nat → Nat → World → Prop, ((∀ vs : Array Value, (vs = #[Value.int IntKind.i64 0, Value.int IntKind.i64 (-1), Value.int IntKind.i64 (-1), Value.int IntKind.i64 (-1)] →
               (∀ k5 : Nat, (∀ W5 : World, (k5 = Array.size (World.heap W4) →
               (W5 = World.alloc W4 (Obj.cells #[Value.int IntKind.i64 0, Value.int IntKind.i64 0, Value.int IntKind.i64 0, Value.int IntKind.i64 0] 32) →
               (Array.size vs = 4 ∧
               ((∀ k6 : Nat, (k6 < 4 →
                ((∃ v2 : Value, World.cell? W5 (Addr.mk k5 (0 + k6) none) = some v2) ∧
                World.frozen? W5 (Addr.mk k5 (0 + k6) none) = false))) ∧
               ((∀ v3 : Value, (v3 ∈ Array.toList vs →
                Value.oneCell' v3 = true)) ∧
               (∀ W6 : World, (W6 = World.setCells W5 k5 0 (Array.toList vs) →
               (∃ I5 : Bool → World → Prop, (Sx.split (decide (x < (↑a1n : Int)))
                 ((((0 : Int) ≤ x ∧
                   x < (↑a1n : Int)) ∧
                  Sx.adr a1 (fun k7 =>
                   (fun k8 =>
                   (∃ t2 : Bool, (World.cell? W6 (Addr.mk k7 (k8 + Int.toNat x * 1) none) = some (Value.bool t2) ∧
                   I5 t2 W6))))))
                 (I5 false W6) ∧
               ((Nat →
               Value) →
               (∀ x5 : Bool, (∀ W7 : World, (I5 x5 W7 →
               (∃ I6 : Int → World → Prop, (Sx.split x5
                 ((∀ z3 : Int, (z3 = IntKind.wrap IntKind.i64 (40 + x) →
                  (∀ vs2 : Array Value, (vs2 = #[Value.int IntKind.i64 0, Value.int IntKind.i64 x2, Value.int IntKind.i64 (-1), Value.int IntKind.i64 z3] →
                  (Array.size vs2 = 4 ∧
                  ((∀ k9 : Nat, (k9 < 4 →
                   ((∃ v4 : Value, World.cell? W7 (Addr.mk k5 (0 + k9) none) = some v4) ∧
                   World.frozen? W7 (Addr.mk k5 (0 + k9) none) = false))) ∧
                  ((∀ v5 : Value, (v5 ∈ Array.toList vs2 →
                   Value.oneCell' v5 = true)) ∧
                  (∀ W8 : World, (W8 = World.setCells W7 k5 0 (Array.toList vs2) →
                  (∀ z4 : Int, (z4 = IntKind.wrap IntKind.i64 (40 + x) →
                  I6 z4 W8))))))))))))
                 (I6 x2 W7) ∧
               ((Nat →
               Value) →
               (∀ x6 : Int, (∀ W9 : World, (I6 x6 W9 →
               (∃ vs3 : Array Value, (Array.size vs3 = 4 ∧
               (Sx.cellsAt W9 (Addr.mk k5 0 none) vs3 ∧
               Calls Tryd.prog 7 #[Value.pointer p, Value.agg vs3] W9 (fun e3 =>
                (fun W10 =>
                (∃ z5 : Int, (∃ v6 : Value, (e3 = Ending.returned (Value.tuple #[Value.int IntKind.i64 z5, v6]) ∧
                Sx.isNil v6 (fun t3 =>
                 Sx.split (!t3)
                  (Q (Ending.returned (Value.bool false)) W10)
                  (Sx.split (z5 != x)
                    (Q (Ending.returned (Value.bool false)) W10)
                    (Sx.split x5
                      ((∀ k10 : Nat, (∀ W11 : World, (k10 = Array.size (World.heap W10) →
                       (W11 = World.alloc W10 (Obj.cells #[Value.int IntKind.i64 z5] 3) →
                       (∃ l : List Value, (∃ l2 : List Value, (XHeap.Sl W11 3 1 (Value.slice x3 k k2) k l ∧
                       (((((1 : Nat) = (0 : Nat) ∧
                         some (Addr.mk k10 0 none) = none)) ∨
                        ((∃ a : Addr, (some (Addr.mk k10 0 none) = some a ∧
                        (∀ k11 : Nat, (∀ v7 : Value, (l2[k11]? = some v7 →
                        World.cell? W11 (Addr.add a k11) = some v7))))))) ∧
                       (List.length l2 = 1 ∧
                       ((∀ v8 : Value, (v8 ∈ l2 →
                        Value.oneCell' v8 = true)) ∧
                       (k + 1 ≤ maxLen ∧
                       ((k + 1) * 8 ≤ 140737488355328 ∧
                       (∀ p2 : Option Addr, (∀ k12 : Nat, (∀ W12 : World, (XHeap.Sl W12 3 1 (Value.slice p2 (k + 1) k12) (k + 1) (l ++ l2) →
                       (XHeap.XTouch (fun b => Value.ownBlock (Value.slice x3 k k2) = some b) W11 W12 →
                       ((∀ k13 : Nat, (Value.ownBlock (Value.slice p2 (k + 1) k12) = some k13 →
                       ((Value.ownBlock (Value.slice x3 k k2) = some k13) ∨
                       (Array.size (World.heap W11) ≤ k13)))) →
                       (XHeap.Sl W12 3 1 (Value.slice x3 k k2) k l →
                       (((p2 = x3) ∨
                       ((∀ k14 : Nat, (Value.ownBlock (Value.slice p2 (k + 1) k12) = some k14 →
                       Array.size (World.heap W11) ≤ k14)))) →
                       I4 x6 p2 (k + 1) k12 x4 k3 k4 W12)))))))))))))))))))))
                      ((∀ k15 : Nat, (∀ W13 : World, (k15 = Array.size (World.heap W10) →
                       (W13 = World.alloc W10 (Obj.cells #[Value.int IntKind.i64 z5] 3) →
                       (∃ l3 : List Value, (∃ l4 : List Value, (XHeap.Sl W13 3 1 (Value.slice x4 k3 k4) k3 l3 ∧
                       (((((1 : Nat) = (0 : Nat) ∧
                         some (Addr.mk k15 0 none) = none)) ∨
                        ((∃ a2 : Addr, (some (Addr.mk k15 0 none) = some a2 ∧
                        (∀ k16 : Nat, (∀ v9 : Value, (l4[k16]? = some v9 →
                        World.cell? W13 (Addr.add a2 k16) = some v9))))))) ∧
                       (List.length l4 = 1 ∧
                       ((∀ v10 : Value, (v10 ∈ l4 →
                        Value.oneCell' v10 = true)) ∧
                       (k3 + 1 ≤ maxLen ∧
                       ((k3 + 1) * 8 ≤ 140737488355328 ∧
                       (∀ p3 : Option Addr, (∀ k17 : Nat, (∀ W14 : World, (XHeap.Sl W14 3 1 (Value.slice p3 (k3 + 1) k17) (k3 + 1) (l3 ++ l4) →
                       (XHeap.XTouch (fun b => Value.ownBlock (Value.slice x4 k3 k4) = some b) W13 W14 →
                       ((∀ k18 : Nat, (Value.ownBlock (Value.slice p3 (k3 + 1) k17) = some k18 →
                       ((Value.ownBlock (Value.slice x4 k3 k4) = some k18) ∨
                       (Array.size (World.heap W13) ≤ k18)))) →
                       (XHeap.Sl W14 3 1 (Value.slice x4 k3 k4) k3 l3 →
                       (((p3 = x4) ∨
                       ((∀ k19 : Nat, (Value.ownBlock (Value.slice p3 (k3 + 1) k17) = some k19 →
                       Array.size (World.heap W13) ≤ k19)))) →
                       I4 x6 x3 k k2 p3 (k3 + 1) k17 W14))))))))))))))))))))))))))))))))))))))))))))))))))))))) ∧
              ((Nat →
              Value) →
              (∀ x7 : Int, (∀ x8 : Option Addr, (∀ k20 : Nat, (∀ k21 : Nat, (∀ x9 : Option Addr, (∀ k22 : Nat, (∀ k23 : Nat, (∀ W15 : World, (I4 x7 x8 k20 k21 x9 k22 k23 W15 →
              (∀ z6 : Int, (z6 = IntKind.wrap IntKind.i64 (x + 1) →
              (I2 z6 x7 x8 k20 k21 x9 k22 k23 W15 ∧
              I3 z6 x7 x8 k20 k21 x9 k22 k23 W15 < I3 x x2 x3 k k2 x4 k3 k4 W4))))))))))))))))
             (I x4 k3 k4 x3 k k2 W4))))))))))))))) ∧
           ((Nat →
           Value) →
           (∀ x10 : Option Addr, (∀ k24 : Nat, (∀ k25 : Nat, (∀ x11 : Option Addr, (∀ k26 : Nat, (∀ k27 : Nat, (∀ W16 : World, (I x10 k24 k25 x11 k26 k27 W16 →
           (∀ vs4 : Array Value, (vs4 = #[Value.int IntKind.i64 0, Value.int IntKind.i64 (-1), Value.int IntKind.i64 (-1), Value.int IntKind.i64 (-1)] →
           Calls Tryd.prog 7 #[Value.pointer p, Value.agg vs4] W16 (fun e4 =>
            (fun W17 =>
            (∃ z7 : Int, (∃ v11 : Value, (e4 = Ending.returned (Value.tuple #[Value.int IntKind.i64 z7, v11]) ∧
            Calls Tryd.prog 8 #[v11] W17 (fun e5 =>
             (fun W18 =>
             (∃ z8 : Int, (e5 = Ending.returned (Value.int IntKind.i64 z8) ∧
             Calls Tryd.prog 9 #[Value.pointer p, Value.int IntKind.i64 0, Value.int IntKind.i64 100] W18 (fun e6 =>
              (fun W19 =>
              (∃ p4 : Option Addr, (∃ k28 : Nat, (∃ k29 : Nat, (e6 = Ending.returned (Value.slice p4 k28 k29) ∧
              (∃ I7 : Int → World → Prop, (Sx.split (decide ((↑k26 : Int) > 0))
                ((∀ z9 : Int, (z9 = IntKind.wrap IntKind.i64 ((↑k24 : Int) + 1) →
                 I7 z9 W19)))
                (I7 (↑k24 : Int) W19) ∧
              ((Nat →
              Value) →
              (∀ x12 : Int, (∀ W20 : World, (I7 x12 W20 →
              Sx.split (z8 != 4)
               (Q (Ending.returned (Value.bool false)) W20)
               (Sx.split ((↑k28 : Int) != x12)
                 (Q (Ending.returned (Value.bool false)) W20)
                 ((∃ I8 : World → Prop, ((∃ I9 : Int → World → Prop, (∃ I10 : Int → World → Nat, (I9 0 W20 ∧
                   ((Nat →
                   Value) →
                   (∀ x13 : Int, (∀ W21 : World, (I9 x13 W21 →
                   Sx.split (decide (x13 < (↑k24 : Int)))
                    ((((0 : Int) ≤ x13 ∧
                      x13 < (↑k24 : Int)) ∧
                     Sx.adr x10 (fun k30 =>
                      (fun k31 =>
                      (∃ z10 : Int, (World.cell? W21 (Addr.mk k30 (k31 + Int.toNat x13 * 1) none) = some (Value.int IntKind.i64 z10) ∧
                      Calls Tryd.prog 10 #[Value.pointer p, Value.int IntKind.i64 z10] W21 (fun e7 =>
                       (fun W22 =>
                       (∃ v12 : Value, (e7 = Ending.returned v12 ∧
                       Sx.isNil v12 (fun t4 =>
                        Sx.split (!t4)
                         (Q (Ending.returned (Value.bool false)) W22)
                         ((∀ z11 : Int, (z11 = IntKind.wrap IntKind.i64 (x13 + 1) →
                          (I9 z11 W22 ∧
                          I10 z11 W22 < I10 x13 W21)))))))))))))))
                    (I8 W21)))))))) ∧
                  ((Nat →
                  Value) →
                  (∀ W23 : World, (I8 W23 →
                  (∃ I11 : World → Prop, ((∃ I12 : Int → World → Prop, (∃ I13 : Int → World → Nat, (I12 0 W23 ∧
                   ((Nat →
                   Value) →
                   (∀ x14 : Int, (∀ W24 : World, (I12 x14 W24 →
                   Sx.split (decide (x14 < (↑k26 : Int)))
                    (Calls Tryd.prog 9 #[Value.pointer p, Value.int IntKind.i64 0, Value.int IntKind.i64 100] W24 (fun e8 =>
                      (fun W25 =>
                      (∃ p5 : Option Addr, (∃ k32 : Nat, (∃ k33 : Nat, (e8 = Ending.returned (Value.slice p5 k32 k33) ∧
                      Sx.split ((↑k32 : Int) != 1)
                       ((∀ W26 : World, (∀ k34 : Nat, (W26 = World.drewN W25 k34 →
                        Q (Ending.returned (Value.bool false)) W26))))
                       ((((0 : Int) ≤ (0 : Int) ∧
                         (0 : Int) < (↑k32 : Int)) ∧
                        Sx.adr p5 (fun k35 =>
                         (fun k36 =>
                         (∃ z12 : Int, (World.cell? W25 (Addr.mk k35 (k36 + 0) none) = some (Value.int IntKind.i64 z12) ∧
                         (((0 : Int) ≤ x14 ∧
                          x14 < (↑k26 : Int)) ∧
                         Sx.adr x11 (fun k37 =>
                          (fun k38 =>
                          (∃ z13 : Int, (World.cell? W25 (Addr.mk k37 (k38 + Int.toNat x14 * 1) none) = some (Value.int IntKind.i64 z13) ∧
                          (∀ W27 : World, (∀ k39 : Nat, (W27 = World.drewN W25 k39 →
                          Sx.split (z12 != z13)
                           (Q (Ending.returned (Value.bool false)) W27)
                           ((((0 : Int) ≤ x14 ∧
                             x14 < (↑k26 : Int)) ∧
                            Sx.adr x11 (fun k40 =>
                             (fun k41 =>
                             (∃ z14 : Int, (World.cell? W27 (Addr.mk k40 (k41 + Int.toNat x14 * 1) none) = some (Value.int IntKind.i64 z14) ∧
                             Calls Tryd.prog 10 #[Value.pointer p, Value.int IntKind.i64 z14] W27 (fun e9 =>
                              (fun W28 =>
                              (∃ v13 : Value, (e9 = Ending.returned v13 ∧
                              (((0 : Int) ≤ x14 ∧
                               x14 < (↑k26 : Int)) ∧
                              Sx.adr x11 (fun k42 =>
                               (fun k43 =>
                               (∃ z15 : Int, (World.cell? W28 (Addr.mk k42 (k43 + Int.toNat x14 * 1) none) = some (Value.int IntKind.i64 z15) ∧
                               Calls Tryd.prog 11 #[Value.pointer p, Value.int IntKind.i64 z15] W28 (fun e10 =>
                                (fun W29 =>
                                (∃ v14 : Value, (e10 = Ending.returned v14 ∧
                                (((0 : Int) ≤ x14 ∧
                                 x14 < (↑k26 : Int)) ∧
                                Sx.adr x11 (fun k44 =>
                                 (fun k45 =>
                                 (∃ z16 : Int, (World.cell? W29 (Addr.mk k44 (k45 + Int.toNat x14 * 1) none) = some (Value.int IntKind.i64 z16) ∧
                                 (∀ z17 : Int, (z17 = IntKind.wrap IntKind.i64 (40 + z16) →
                                 Calls Tryd.prog 12 #[Value.pointer p, Value.int IntKind.i64 z17] W29 (fun e11 =>
                                  (fun W30 =>
                                  (∃ v15 : Value, (e11 = Ending.returned v15 ∧
                                  Sx.isNil v13 (fun t5 =>
                                   Sx.split (!t5)
                                    (Q (Ending.returned (Value.bool false)) W30)
                                    (Sx.isNil v14 (fun t6 =>
                                      Sx.split (!t6)
                                       (Q (Ending.returned (Value.bool false)) W30)
                                       (Sx.isNil v15 (fun t7 =>
                                         Sx.split (!t7)
                                          (Q (Ending.returned (Value.bool false)) W30)
                                          ((∀ z18 : Int, (z18 = IntKind.wrap IntKind.i64 (x14 + 1) →
                                           (I12 z18 W30 ∧
                                           I13 z18 W30 < I13 x14 W24))))))))))))))))))))))))))))))))))))))))))))))))))))))))))))
                    (I11 W24)))))))) ∧
                  ((Nat →
                  Value) →
                  (∀ W31 : World, (I11 W31 →
                  (∃ I14 : World → Prop, ((∀ z19 : Int, (z19 = IntKind.wrap IntKind.i64 ((↑k24 : Int) - 1) →
                   (∃ I15 : Int → World → Prop, (∃ I16 : Int → World → Nat, (I15 z19 W31 ∧
                   ((Nat →
                   Value) →
                   (∀ x15 : Int, (∀ W32 : World, (I15 x15 W32 →
                   Sx.split (decide (x15 ≥ 0))
                    ((((0 : Int) ≤ x15 ∧
                      x15 < (↑k24 : Int)) ∧
                     Sx.adr x10 (fun k46 =>
                      (fun k47 =>
                      (∃ z20 : Int, (World.cell? W32 (Addr.mk k46 (k47 + Int.toNat x15 * 1) none) = some (Value.int IntKind.i64 z20) ∧
                      Calls Tryd.prog 11 #[Value.pointer p, Value.int IntKind.i64 z20] W32 (fun e12 =>
                       (fun W33 =>
                       (∃ v16 : Value, (e12 = Ending.returned v16 ∧
                       Sx.isNil v16 (fun t8 =>
                        Sx.split (!t8)
                         (Q (Ending.returned (Value.bool false)) W33)
                         ((∀ z21 : Int, (z21 = IntKind.wrap IntKind.i64 (x15 - 1) →
                          (I15 z21 W33 ∧
                          I16 z21 W33 < I16 x15 W32)))))))))))))))
                    (I14 W32)))))))))) ∧
                  ((Nat →
                  Value) →
                  (∀ W34 : World, (I14 W34 →
                  (∃ I17 : World → Prop, ((∃ I18 : Int → World → Prop, (∃ I19 : Int → World → Nat, (I18 0 W34 ∧
                   ((Nat →
                   Value) →
                   (∀ x16 : Int, (∀ W35 : World, (I18 x16 W35 →
                   Sx.split (decide (x16 < z2))
                    (Calls Tryd.prog 13 #[Value.pointer p] W35 (fun e13 =>
                      (fun W36 =>
                      (∃ z22 : Int, (∃ v17 : Value, (e13 = Ending.returned (Value.tuple #[Value.int IntKind.i64 z22, v17]) ∧
                      Sx.isNil v17 (fun t9 =>
                       Sx.split (!t9)
                        (Q (Ending.returned (Value.bool false)) W36)
                        (Sx.split (z22 != x16)
                          (Q (Ending.returned (Value.bool false)) W36)
                          ((∀ z23 : Int, (z23 = IntKind.wrap IntKind.i64 (x16 + 1) →
                           (I18 z23 W36 ∧
                           I19 z23 W36 < I19 x16 W35))))))))))))
                    (I17 W35)))))))) ∧
                  ((Nat →
                  Value) →
                  (∀ W37 : World, (I17 W37 →
                  Calls Tryd.prog 14 #[Value.pointer p] W37 (fun e14 =>
                   (fun W38 =>
                   (∃ z24 : Int, (e14 = Ending.returned (Value.int IntKind.i64 z24) ∧
                   Q (Ending.returned (Value.bool (z24 == 0))) W38))))))))))))))))))))))))))))))))))))))))))))))))))))))))))))))))))))))))))) :
  Calls Tryd.prog 3 #[Value.int .i64 a0, Value.slice a1 a1n a1c] W Q :=
  Sx.sound Tryd.func3 (.node [] [] 0 .leaf (.node [] [] 0 .leaf (.node [] [] 0 .leaf (.node [] [] 0 .leaf (.node [] [] 0 .leaf (.node [] [] 0 .leaf (.node [] [] 0 .leaf (.node [(10, .slice), (9, .slice)] [6, 5] 1 (.node [] [] 0 .leaf (.node [] [] 0 (.node [(11, .int .i64), (8, .int .i64), (9, .slice), (10, .slice)] [5, 1, 6] 0 (.node [] [] 0 .leaf (.node [(8, .int .i64), (9, .slice), (10, .slice)] [11, 5, 1, 6] 1 (.node [] [] 0 (.node [] [] 0 .leaf (.node [(13, .bool)] [8, 11, 12, 6, 9, 5, 1, 10] 1 .leaf (.node [(8, .int .i64)] [6, 12, 11, 13, 9, 5, 1, 10] 1 .leaf .leaf))) .leaf) .leaf)) .leaf) .leaf)) (.node [] [] 0 .leaf (.node [] [] 0 .leaf (.node [] [] 0 .leaf (.node [] [] 0 .leaf (.node [(20, .int .i64)] [18, 19, 10, 6, 9, 5] 1 .leaf (.node [] [] 0 .leaf (.node [] [9, 6, 10, 5] 1 (.node [] [] 0 .leaf (.node [] [] 0 (.node [(21, .int .i64)] [10, 6, 9, 5] 0 .leaf .leaf) .leaf)) (.node [] [10, 6, 5] 1 (.node [] [] 0 .leaf (.node [] [] 0 (.node [(23, .int .i64)] [9, 6, 10, 5] 0 .leaf .leaf) .leaf)) (.node [] [5, 6] 1 (.node [] [] 0 .leaf (.node [] [] 0 (.node [(28, .int .i64)] [6, 10, 5] 0 .leaf .leaf) .leaf)) (.node [] [6] 1 (.node [] [] 0 .leaf (.node [] [] 0 (.node [(30, .int .i64)] [5, 6] 0 .leaf .leaf) .leaf)) .leaf)))))))))))))))))) [Value.int .i64 a0, Value.slice a1 a1n a1c] rfl (Eq.mp (by kernel_rfl) hVC)
theorem vc5 {W : World} {Q : Ending → World → Prop} (c : Int) (n : Int)
  (hVC :
    Sx.split (decide (c < 0))
     ((∀ z : Int, (z = IntKind.wrap IntKind.i64 (c + 1) →
      (n ≠ 0 ∧
      (∀ z2 : Int, (z2 = Int.tmod (IntKind.wrap IntKind.i64 (0 - z)) n →
      Q (Ending.returned (Value.int IntKind.i64 z2)) W))))))
     ((n ≠ 0 ∧
      (∀ z3 : Int, (z3 = Int.tmod c n →
      Q (Ending.returned (Value.int IntKind.i64 z3)) W))))) :
  Calls Tryd.prog 5 #[Value.int .i64 c, Value.int .i64 n] W Q :=
  Sx.sound Tryd.func5 .leaf [Value.int .i64 c, Value.int .i64 n] rfl (Eq.mp (by kernel_rfl) hVC)
end Go.Proofs.YtdliholhfiihcaaDoor
