/- What each function asks, reckoned out of its text; printed by a program of mine (wip/tpl/VcTool.lean). No condition. -/
import Derived.Test.YtcpmgklhfpcaeaaDoorSxB
import Derived.Test.YtcpmgklhfpcaeaaDoorChecked
namespace Go.Proofs.YtcpmgklhfpcaeaaDoor
open Go Go.Proofs
set_option linter.unusedVariables false
set_option maxRecDepth 100000
theorem vc3 {W : World} {Q : Ending → World → Prop} (arg0 : Option Addr) (arg0n : Nat) (arg0c : Nat) (arg1 : Option Addr) (arg1n : Nat) (arg1c : Nat) (arg2 : Int)
  (hVC :
    (∀ k : Nat, (∀ W2 : World, (k = Array.size (World.heap W) →
    (W2 = World.alloc W (Obj.cells #[Value.int IntKind.u32 5243027, Value.int IntKind.u32 3178771] 29) →
    Calls Tryd.prog 4 #[Value.slice (some (Addr.mk k 0 none)) 2 2, Value.slice none 0 0] W2 (fun e =>
     (fun W3 =>
     (∃ p : Option Addr, (∃ v : Value, (e = Ending.returned (Value.tuple #[Value.pointer p, v]) ∧
     Sx.isNil v (fun t =>
      Sx.split (!t)
       (Q (Ending.returned (Value.bool false)) W3)
       (Sx.split (Option.isNone p)
         (Q (Ending.returned (Value.bool false)) W3)
         (Calls Tryd.prog 5 #[Value.pointer p] W3 (fun e2 =>
           (fun W4 =>
           (∃ vs : Array Value, (∃ t2 : Bool, (e2 = Ending.returned (Value.tuple #[Value.agg vs, Value.bool t2]) ∧
           Calls Tryd.prog 5 #[Value.pointer p] W4 (fun e3 =>
            (fun W5 =>
            (∃ vs2 : Array Value, (∃ t3 : Bool, (e3 = Ending.returned (Value.tuple #[Value.agg vs2, Value.bool t3]) ∧
            Calls Tryd.prog 6 #[Value.pointer p] W5 (fun e4 =>
             (fun W6 =>
             (∃ p2 : Option Addr, (e4 = Ending.returned (Value.pointer p2) ∧
             Sx.split (Option.isNone p2)
              (Q (Ending.returned (Value.bool false)) W6)
              (Calls Tryd.prog 7 #[Value.pointer p2, Value.int IntKind.i64 2] W6 (fun e5 =>
                (fun W7 =>
                (∃ z : Int, (e5 = Ending.returned (Value.int IntKind.u32 z) ∧
                Calls Tryd.prog 4 #[Value.slice arg0 arg0n arg0c, Value.slice arg1 arg1n arg1c] W7 (fun e6 =>
                 (fun W8 =>
                 (∃ p3 : Option Addr, (∃ v2 : Value, (e6 = Ending.returned (Value.tuple #[Value.pointer p3, v2]) ∧
                 Sx.isNil v2 (fun t4 =>
                  Sx.split (!t4)
                   (Sx.split (z == 8)
                     (Sx.split (Option.isNone p3)
                       (Sx.isNil v2 (fun t5 =>
                         Q (Ending.returned (Value.bool !t5)) W8))
                       (Q (Ending.returned (Value.bool false)) W8))
                     (Q (Ending.returned (Value.bool false)) W8))
                   (Sx.split (Option.isNone p3)
                     (Sx.split (z == 8)
                       (Sx.split (Option.isNone p3)
                         (Sx.isNil v2 (fun t6 =>
                           Q (Ending.returned (Value.bool !t6)) W8))
                         (Q (Ending.returned (Value.bool false)) W8))
                       (Q (Ending.returned (Value.bool false)) W8))
                     (Calls Tryd.prog 6 #[Value.pointer p3] W8 (fun e7 =>
                       (fun W9 =>
                       (∃ p4 : Option Addr, (e7 = Ending.returned (Value.pointer p4) ∧
                       Sx.split (Option.isNone p4)
                        (Q (Ending.returned (Value.bool false)) W9)
                        ((∃ I : Int → World → Prop, (∃ I2 : Int → World → Nat, (I 0 W9 ∧
                         ((Nat →
                         Value) →
                         (∀ x : Int, (∀ W10 : World, (I x W10 →
                         Sx.split (decide (x < arg2))
                          (Sx.split (decide (x < 2000))
                            ((∀ k2 : Nat, (∀ W11 : World, (k2 = Array.size (World.heap W10) →
                             (W11 = World.alloc W10 (Obj.cells #[Value.int IntKind.u32 0, Value.int IntKind.u32 0, Value.int IntKind.u32 0, Value.int IntKind.u32 0, Value.int IntKind.u32 0, Value.int IntKind.u32 0, Value.int IntKind.u32 0, Value.int IntKind.u32 0, Value.int IntKind.u32 0, Value.int IntKind.u32 0, Value.int IntKind.u32 0, Value.int IntKind.u32 0, Value.int IntKind.u32 0, Value.int IntKind.u32 0, Value.int IntKind.u32 0, Value.int IntKind.u32 0, Value.int IntKind.u32 0, Value.int IntKind.u32 0, Value.int IntKind.u32 0, Value.int IntKind.u32 0, Value.int IntKind.u32 0, Value.int IntKind.u32 0, Value.int IntKind.u32 0, Value.int IntKind.u32 0, Value.int IntKind.u32 0, Value.int IntKind.u32 0, Value.int IntKind.u32 0, Value.int IntKind.u32 0, Value.int IntKind.u32 0, Value.int IntKind.u32 0, Value.int IntKind.u32 0, Value.int IntKind.u32 0] 37) →
                             (∃ I3 : World → Prop, ((∃ I4 : Int → World → Prop, (∃ I5 : Int → World → Nat, (I4 0 W11 ∧
                              ((Nat →
                              Value) →
                              (∀ x2 : Int, (∀ W12 : World, (I4 x2 W12 →
                              Sx.split (decide (x2 < 32))
                               (Calls Tryd.prog 7 #[Value.pointer p4, Value.int IntKind.i64 x2] W12 (fun e8 =>
                                 (fun W13 =>
                                 (∃ z2 : Int, (e8 = Ending.returned (Value.int IntKind.u32 z2) ∧
                                 (((0 : Int) ≤ x2 ∧
                                  x2 < (↑32 : Int)) ∧
                                 ((∃ v3 : Value, World.cell? W13 (Addr.mk k2 (0 + Int.toNat x2 * 1) none) = some v3) ∧
                                 (World.frozen? W13 (Addr.mk k2 (0 + Int.toNat x2 * 1) none) = false ∧
                                 (∀ W14 : World, (W14 = World.setCell W13 (Addr.mk k2 (0 + Int.toNat x2 * 1) none) (Value.int IntKind.u32 z2) →
                                 (∀ z3 : Int, (z3 = IntKind.wrap IntKind.i64 (x2 + 1) →
                                 (I4 z3 W14 ∧
                                 I5 z3 W14 < I5 x2 W12)))))))))))))
                               (I3 W12)))))))) ∧
                             ((Nat →
                             Value) →
                             (∀ W15 : World, (I3 W15 →
                             Calls Tryd.prog 8 #[Value.pointer p4] W15 (fun e9 =>
                              (fun W16 =>
                              (∃ z4 : Int, (e9 = Ending.returned (Value.int IntKind.u32 z4) ∧
                              Calls Tryd.prog 5 #[Value.pointer p3] W16 (fun e10 =>
                               (fun W17 =>
                               (∃ vs3 : Array Value, (∃ t7 : Bool, (e10 = Ending.returned (Value.tuple #[Value.agg vs3, Value.bool t7]) ∧
                               (∀ k3 : Nat, (∀ W18 : World, (k3 = Array.size (World.heap W17) →
                               (W18 = World.alloc W17 (Obj.cells #[Value.int IntKind.u32 0, Value.int IntKind.u32 0, Value.int IntKind.i64 0, Value.int IntKind.u32 0, Value.int IntKind.i64 0, Value.int IntKind.u32 0, Value.int IntKind.u32 0] 31) →
                               (Array.size vs3 = 7 ∧
                               ((∀ k4 : Nat, (k4 < 7 →
                                ((∃ v4 : Value, World.cell? W18 (Addr.mk k3 (0 + k4) none) = some v4) ∧
                                World.frozen? W18 (Addr.mk k3 (0 + k4) none) = false))) ∧
                               ((∀ v5 : Value, (v5 ∈ Array.toList vs3 →
                                Value.oneCell' v5 = true)) ∧
                               (∀ W19 : World, (W19 = World.setCells W18 k3 0 (Array.toList vs3) →
                               Calls Tryd.prog 8 #[Value.pointer p4] W19 (fun e11 =>
                                (fun W20 =>
                                (∃ z5 : Int, (e11 = Ending.returned (Value.int IntKind.u32 z5) ∧
                                (∃ I6 : World → Prop, (Sx.split (!t7)
                                  (Sx.split (z == 8)
                                    (Q (Ending.returned (Value.bool (z5 == z4))) W20)
                                    (Q (Ending.returned (Value.bool false)) W20))
                                  (I6 W20) ∧
                                ((Nat →
                                Value) →
                                (∀ W21 : World, (I6 W21 →
                                (∃ I7 : World → Prop, ((∃ z6 : Int, (World.cell? W21 (Addr.mk k3 0 none) = some (Value.int IntKind.u32 z6) ∧
                                 Sx.split (z6 != z4)
                                  (Q (Ending.returned (Value.bool false)) W21)
                                  ((∃ z7 : Int, (World.cell? W21 (Addr.mk k3 (0 + 6) none) = some (Value.int IntKind.u32 z7) ∧
                                   Sx.split (z7 != z5)
                                    (Q (Ending.returned (Value.bool false)) W21)
                                    ((((0 : Int) ≤ (0 : Int) ∧
                                      (0 : Int) < (↑(32 : Nat) : Int)) ∧
                                     (∃ z8 : Int, (World.cell? W21 (Addr.mk k2 0 none) = some (Value.int IntKind.u32 z8) ∧
                                     Sx.split (z8 != 0)
                                      (Q (Ending.returned (Value.bool false)) W21)
                                      ((∃ z9 : Int, (World.cell? W21 (Addr.mk k3 (0 + 2) none) = some (Value.int IntKind.i64 z9) ∧
                                       Sx.split (z9 == 0)
                                        ((∃ z10 : Int, (World.cell? W21 (Addr.mk k3 (0 + 3) none) = some (Value.int IntKind.u32 z10) ∧
                                         Sx.split (z10 != 0)
                                          (Q (Ending.returned (Value.bool false)) W21)
                                          ((∃ z11 : Int, (World.cell? W21 (Addr.mk k3 (0 + 4) none) = some (Value.int IntKind.i64 z11) ∧
                                           Sx.split (z11 != -1)
                                            ((∃ z12 : Int, (World.cell? W21 (Addr.mk k3 (0 + 2) none) = some (Value.int IntKind.i64 z12) ∧
                                             Sx.split (z12 != 0)
                                              (Q (Ending.returned (Value.bool false)) W21)
                                              (I7 W21))))
                                            (I7 W21)))))))
                                        ((∃ z13 : Int, (World.cell? W21 (Addr.mk k3 (0 + 4) none) = some (Value.int IntKind.i64 z13) ∧
                                         Sx.split (z13 != -1)
                                          ((∃ z14 : Int, (World.cell? W21 (Addr.mk k3 (0 + 2) none) = some (Value.int IntKind.i64 z14) ∧
                                           Sx.split (z14 != 0)
                                            (Q (Ending.returned (Value.bool false)) W21)
                                            (I7 W21))))
                                          (I7 W21)))))))))))))))) ∧
                                ((Nat →
                                Value) →
                                (∀ W22 : World, (I7 W22 →
                                (∃ I8 : World → Prop, ((∃ I9 : Int → World → Prop, (∃ I10 : Int → World → Nat, (I9 0 W22 ∧
                                 ((Nat →
                                 Value) →
                                 (∀ x3 : Int, (∀ W23 : World, (I9 x3 W23 →
                                 Sx.split (decide (x3 < 32))
                                  ((∃ I11 : World → Prop, (Calls Tryd.prog 7 #[Value.pointer p4, Value.int IntKind.i64 x3] W23 (fun e12 =>
                                     (fun W24 =>
                                     (∃ z15 : Int, (e12 = Ending.returned (Value.int IntKind.u32 z15) ∧
                                     (∃ z16 : Int, (World.cell? W24 (Addr.mk k3 (0 + 2) none) = some (Value.int IntKind.i64 z16) ∧
                                     Sx.split (x3 == z16)
                                      ((∃ z17 : Int, (World.cell? W24 (Addr.mk k3 (0 + 3) none) = some (Value.int IntKind.u32 z17) ∧
                                       Sx.split (z15 != z17)
                                        (Q (Ending.returned (Value.bool false)) W24)
                                        ((∃ z18 : Int, (World.cell? W24 (Addr.mk k3 (0 + 2) none) = some (Value.int IntKind.i64 z18) ∧
                                         Sx.split (x3 != z18)
                                          ((((0 : Int) ≤ x3 ∧
                                            x3 < (↑32 : Int)) ∧
                                           (∃ z19 : Int, (World.cell? W24 (Addr.mk k2 (0 + Int.toNat x3 * 1) none) = some (Value.int IntKind.u32 z19) ∧
                                           Sx.split (z15 != z19)
                                            (Q (Ending.returned (Value.bool false)) W24)
                                            (I11 W24)))))
                                          (I11 W24)))))))
                                      ((∃ z20 : Int, (World.cell? W24 (Addr.mk k3 (0 + 2) none) = some (Value.int IntKind.i64 z20) ∧
                                       Sx.split (x3 != z20)
                                        ((((0 : Int) ≤ x3 ∧
                                          x3 < (↑32 : Int)) ∧
                                         (∃ z21 : Int, (World.cell? W24 (Addr.mk k2 (0 + Int.toNat x3 * 1) none) = some (Value.int IntKind.u32 z21) ∧
                                         Sx.split (z15 != z21)
                                          (Q (Ending.returned (Value.bool false)) W24)
                                          (I11 W24)))))
                                        (I11 W24)))))))))) ∧
                                   ((Nat →
                                   Value) →
                                   (∀ W25 : World, (I11 W25 →
                                   (∀ z22 : Int, (z22 = IntKind.wrap IntKind.i64 (x3 + 1) →
                                   (I9 z22 W25 ∧
                                   I10 z22 W25 < I10 x3 W23)))))))))
                                  (I8 W23)))))))) ∧
                                ((Nat →
                                Value) →
                                (∀ W26 : World, (I8 W26 →
                                (∃ z23 : Int, (World.cell? W26 (Addr.mk k3 (0 + 1) none) = some (Value.int IntKind.u32 z23) ∧
                                (∀ z24 : Int, (z24 = IntKind.wrap IntKind.u32 (↑(BitVec.toNat (BitVec.ofInt (IntKind.bits IntKind.u32) z23 &&& BitVec.ofInt (IntKind.bits IntKind.u32) 127)) : Int) →
                                (∃ z25 : Int, (World.cell? W26 (Addr.mk k3 (0 + 4) none) = some (Value.int IntKind.i64 z25) ∧
                                Sx.split (z25 == -1)
                                 (Sx.split (z24 != 111)
                                   (Sx.split (z24 != 103)
                                     (Sx.split (z24 != 99)
                                       (Sx.split (z24 != 115)
                                         ((∀ z26 : Int, (z26 = IntKind.wrap IntKind.u32 (z4 + 4) →
                                          Sx.split (z5 != z26)
                                           (Q (Ending.returned (Value.bool false)) W26)
                                           ((∀ z27 : Int, (z27 = IntKind.wrap IntKind.i64 (x + 1) →
                                            (I z27 W26 ∧
                                            I2 z27 W26 < I2 x W10)))))))
                                         ((∀ z28 : Int, (z28 = IntKind.wrap IntKind.i64 (x + 1) →
                                          (I z28 W26 ∧
                                          I2 z28 W26 < I2 x W10)))))
                                       ((∀ z29 : Int, (z29 = IntKind.wrap IntKind.i64 (x + 1) →
                                        (I z29 W26 ∧
                                        I2 z29 W26 < I2 x W10)))))
                                     ((∀ z30 : Int, (z30 = IntKind.wrap IntKind.i64 (x + 1) →
                                      (I z30 W26 ∧
                                      I2 z30 W26 < I2 x W10)))))
                                   ((∀ z31 : Int, (z31 = IntKind.wrap IntKind.i64 (x + 1) →
                                    (I z31 W26 ∧
                                    I2 z31 W26 < I2 x W10)))))
                                 ((∀ z32 : Int, (z32 = IntKind.wrap IntKind.i64 (x + 1) →
                                  (I z32 W26 ∧
                                  I2 z32 W26 < I2 x W10)))))))))))))))))))))))))))))))))))))))))))))))))))))))))
                            (Q (Ending.returned (Value.bool (z == 8))) W10))
                          (Q (Ending.returned (Value.bool (z == 8))) W10))))))))))))))))))))))))))))))))))))))))))))))))))))) :
  Calls Tryd.prog 3 #[Value.slice arg0 arg0n arg0c, Value.slice arg1 arg1n arg1c, Value.int .i64 arg2] W Q :=
  Sx.sound Tryd.func3 (.node [] [] 0 .leaf (.node [] [] 0 .leaf (.node [] [] 0 .leaf (.node [] [] 0 .leaf (.node [] [] 0 .leaf (.node [] [] 0 .leaf (.node [] [] 0 .leaf (.node [] [] 0 .leaf (.node [] [] 0 .leaf (.node [] [] 0 .leaf (.node [] [] 0 .leaf (.node [] [] 0 .leaf (.node [] [] 0 (.node [] [] 0 .leaf (.node [] [] 0 (.node [(14, .int .i64)] [2, 13, 11, 10] 0 (.node [] [] 0 .leaf (.node [] [] 0 (.node [] [] 0 (.node [] [] 0 .leaf (.node [] [13, 11, 10, 15, 14, 2] 1 (.node [] [] 0 .leaf (.node [] [] 0 (.node [(16, .int .i64)] [13, 15, 11, 10, 14, 2] 0 .leaf .leaf) .leaf)) (.node [] [] 0 .leaf (.node [] [] 0 .leaf (.node [] [] 0 .leaf (.node [] [18, 17, 20, 15, 13, 14, 2, 11, 10] 1 .leaf (.node [] [13, 18, 15, 20, 17, 14, 2, 11, 10] 1 .leaf (.node [] [18, 20, 17, 14, 2, 13, 11, 10] 1 (.node [] [] 0 .leaf (.node [] [] 0 (.node [(21, .int .i64)] [13, 18, 15, 20, 17, 14, 2, 11, 10] 0 (.node [] [] 0 .leaf (.node [] [21, 13, 18, 15, 20, 17, 14, 2, 11, 10] 1 .leaf .leaf)) .leaf) .leaf)) .leaf)))))))) .leaf) .leaf)) .leaf) .leaf)) .leaf))))))))))))) [Value.slice arg0 arg0n arg0c, Value.slice arg1 arg1n arg1c, Value.int .i64 arg2] rfl (Eq.mp (by kernel_rfl) hVC)
end Go.Proofs.YtcpmgklhfpcaeaaDoor
