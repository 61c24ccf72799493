/- What each function asks, reckoned out of its text; printed by a program of mine (wip/tpl/VcTool.lean). No condition. -/
import Derived.Test.YtdliholhfiihcaaDoorSxB
import Derived.Test.YtdliholhfiihcaaDoorChecked
namespace Go.Proofs.YtdliholhfiihcaaDoor
open Go Go.Proofs
set_option linter.unusedVariables false
set_option maxRecDepth 100000
theorem vc4 {W : World} {Q : Ending → World → Prop} (a0 : Int) (a1 : Int) (a2 : Option Addr) (a2n : Nat) (a2c : Nat)
  (hVC :
    Calls Tryd.prog 6 #[Value.int IntKind.i64 a0, Value.int IntKind.i64 a1] W (fun e =>
     (fun W2 =>
     (∃ p : Option Addr, (∃ v : Value, (e = Ending.returned (Value.tuple #[Value.pointer p, v]) ∧
     Calls Tryd.prog 15 #[Value.int IntKind.i64 a0, Value.int IntKind.i64 a1] W2 (fun e2 =>
      (fun W3 =>
      (∃ p2 : Option Addr, (∃ z : Int, (e2 = Ending.returned (Value.tuple #[Value.pointer p2, Value.int IntKind.i64 z]) ∧
      Calls Tryd.prog 16 #[v, Value.int IntKind.i64 z] W3 (fun e3 =>
       (fun W4 =>
       (∃ t : Bool, (e3 = Ending.returned (Value.bool t) ∧
       Sx.split (!t)
        (Q (Ending.returned (Value.bool false)) W4)
        (Sx.split (!Option.isNone p == Option.isNone p2)
          (Q (Ending.returned (Value.bool false)) W4)
          ((∃ I : Int → Option Addr → Nat → Nat → Bool → World → Prop, (∃ I2 : Int → Option Addr → Nat → Nat → Bool → World → Nat, (I 0 none 0 0 t W4 ∧
           ((Nat →
           Value) →
           (∀ x : Int, (∀ x2 : Option Addr, (∀ k : Nat, (∀ k2 : Nat, (∀ x3 : Bool, (∀ W5 : World, (I x x2 k k2 x3 W5 →
           Sx.split (decide (x < (↑a2n : Int)))
            (Sx.split (decide (x < 4096))
              (Sx.split (Option.isSome p)
                ((((0 : Int) ≤ x ∧
                  x < (↑a2n : Int)) ∧
                 Sx.adr a2 (fun k3 =>
                  (fun k4 =>
                  (∃ vs : Array Value, (Array.size vs = 5 ∧
                  (Sx.cellsAt W5 (Addr.mk k3 (k4 + Int.toNat x * 5) none) vs ∧
                  (∀ k5 : Nat, (∀ W6 : World, (k5 = Array.size (World.heap W5) →
                  (W6 = World.alloc W5 (Obj.cells #[Value.int IntKind.i64 0, Value.int IntKind.i64 0, Value.int IntKind.i64 0, Value.int IntKind.i64 0, Value.int IntKind.i64 0] 49) →
                  (Array.size vs = 5 ∧
                  ((∀ k6 : Nat, (k6 < 5 →
                   ((∃ v2 : Value, World.cell? W6 (Addr.mk k5 (0 + k6) none) = some v2) ∧
                   World.frozen? W6 (Addr.mk k5 (0 + k6) none) = false))) ∧
                  ((∀ v3 : Value, (v3 ∈ Array.toList vs →
                   Value.oneCell' v3 = true)) ∧
                  (∀ W7 : World, (W7 = World.setCells W6 k5 0 (Array.toList vs) →
                  Sx.ptr p2 (fun a =>
                   (∃ z2 : Int, (World.cell? W7 (Addr.add a 1) = some (Value.int IntKind.i64 z2) ∧
                   (∀ z3 : Int, (z3 = IntKind.wrap IntKind.i64 (z2 - 1) →
                   (∃ z4 : Int, (World.cell? W7 (Addr.mk k5 (0 + 1) none) = some (Value.int IntKind.i64 z4) ∧
                   (∀ z5 : Int, (z5 = IntKind.wrap IntKind.i64 (z3 - z4) →
                   (∀ W8 : World, (∀ k7 : Nat, (W8 = World.drewN W7 k7 →
                   (∃ I3 : Bool → Option Addr → Nat → Nat → World → Prop, ((∃ z6 : Int, (World.cell? W8 (Addr.mk k5 0 none) = some (Value.int IntKind.i64 z6) ∧
                    Sx.split (z6 == 0)
                     ((∃ z7 : Int, (World.cell? W8 (Addr.mk k5 (0 + 1) none) = some (Value.int IntKind.i64 z7) ∧
                      (∃ z8 : Int, (World.cell? W8 (Addr.mk k5 (0 + 2) none) = some (Value.int IntKind.i64 z8) ∧
                      (∃ z9 : Int, (World.cell? W8 (Addr.mk k5 (0 + 3) none) = some (Value.int IntKind.i64 z9) ∧
                      (∃ z10 : Int, (World.cell? W8 (Addr.mk k5 (0 + 4) none) = some (Value.int IntKind.i64 z10) ∧
                      (∀ vs2 : Array Value, (vs2 = #[Value.int IntKind.i64 z7, Value.int IntKind.i64 z8, Value.int IntKind.i64 z9, Value.int IntKind.i64 z10] →
                      Calls Tryd.prog 7 #[Value.pointer p, Value.agg vs2] W8 (fun e4 =>
                       (fun W9 =>
                       (∃ z11 : Int, (∃ v4 : Value, (e4 = Ending.returned (Value.tuple #[Value.int IntKind.i64 z11, v4]) ∧
                       (∃ z12 : Int, (World.cell? W9 (Addr.mk k5 (0 + 1) none) = some (Value.int IntKind.i64 z12) ∧
                       (∃ z13 : Int, (World.cell? W9 (Addr.mk k5 (0 + 2) none) = some (Value.int IntKind.i64 z13) ∧
                       (∃ z14 : Int, (World.cell? W9 (Addr.mk k5 (0 + 3) none) = some (Value.int IntKind.i64 z14) ∧
                       (∃ z15 : Int, (World.cell? W9 (Addr.mk k5 (0 + 4) none) = some (Value.int IntKind.i64 z15) ∧
                       Calls Tryd.prog 17 #[Value.pointer p2, Value.int IntKind.i64 z12, Value.int IntKind.i64 z13, Value.int IntKind.i64 z14, Value.int IntKind.i64 z15] W9 (fun e5 =>
                        (fun W10 =>
                        (∃ z16 : Int, (∃ z17 : Int, (e5 = Ending.returned (Value.tuple #[Value.int IntKind.i64 z16, Value.int IntKind.i64 z17]) ∧
                        Calls Tryd.prog 16 #[v4, Value.int IntKind.i64 z17] W10 (fun e6 =>
                         (fun W11 =>
                         (∃ t2 : Bool, (e6 = Ending.returned (Value.bool t2) ∧
                         Sx.split t2
                          (I3 (z11 == z16) x2 k k2 W11)
                          (I3 false x2 k k2 W11))))))))))))))))))))))))))))))))))
                     (Sx.split (z6 == 1)
                       ((∃ z18 : Int, (World.cell? W8 (Addr.mk k5 (0 + 1) none) = some (Value.int IntKind.i64 z18) ∧
                        Calls Tryd.prog 12 #[Value.pointer p, Value.int IntKind.i64 z18] W8 (fun e7 =>
                         (fun W12 =>
                         (∃ v5 : Value, (e7 = Ending.returned v5 ∧
                         (∃ z19 : Int, (World.cell? W12 (Addr.mk k5 (0 + 1) none) = some (Value.int IntKind.i64 z19) ∧
                         Calls Tryd.prog 18 #[Value.pointer p2, Value.int IntKind.i64 z19] W12 (fun e8 =>
                          (fun W13 =>
                          (∃ z20 : Int, (e8 = Ending.returned (Value.int IntKind.i64 z20) ∧
                          Calls Tryd.prog 16 #[v5, Value.int IntKind.i64 z20] W13 (fun e9 =>
                           (fun W14 =>
                           (∃ t3 : Bool, (e9 = Ending.returned (Value.bool t3) ∧
                           I3 t3 x2 k k2 W14)))))))))))))))))
                       (Sx.split (z6 == 2)
                         ((∃ z21 : Int, (World.cell? W8 (Addr.mk k5 (0 + 1) none) = some (Value.int IntKind.i64 z21) ∧
                          (∃ z22 : Int, (World.cell? W8 (Addr.mk k5 (0 + 2) none) = some (Value.int IntKind.i64 z22) ∧
                          Calls Tryd.prog 9 #[Value.pointer p, Value.int IntKind.i64 z21, Value.int IntKind.i64 z22] W8 (fun e10 =>
                           (fun W15 =>
                           (∃ p3 : Option Addr, (∃ k8 : Nat, (∃ k9 : Nat, (e10 = Ending.returned (Value.slice p3 k8 k9) ∧
                           (∃ z23 : Int, (World.cell? W15 (Addr.mk k5 (0 + 1) none) = some (Value.int IntKind.i64 z23) ∧
                           (∃ z24 : Int, (World.cell? W15 (Addr.mk k5 (0 + 2) none) = some (Value.int IntKind.i64 z24) ∧
                           Calls Tryd.prog 19 #[Value.pointer p2, Value.int IntKind.i64 z23, Value.int IntKind.i64 z24] W15 (fun e11 =>
                            (fun W16 =>
                            (∃ p4 : Option Addr, (∃ k10 : Nat, (∃ k11 : Nat, (e11 = Ending.returned (Value.slice p4 k10 k11) ∧
                            (∀ vs3 : Array Value, (vs3 = #[Value.slice p3 k8 k9, Value.slice p4 k10 k11] →
                            Calls Tryd.prog 20 #[Value.agg vs3] W16 (fun e12 =>
                             (fun W17 =>
                             (∃ t4 : Bool, (e12 = Ending.returned (Value.bool t4) ∧
                             Calls Tryd.prog 21 #[Value.slice x2 k k2, Value.slice p3 k8 k9] W17 (fun e13 =>
                              (fun W18 =>
                              (∃ p5 : Option Addr, (∃ k12 : Nat, (∃ k13 : Nat, (e13 = Ending.returned (Value.slice p5 k12 k13) ∧
                              I3 t4 p5 k12 k13 W18)))))))))))))))))))))))))))))))))
                         (Sx.split (z6 == 3)
                           (Calls Tryd.prog 10 #[Value.pointer p, Value.int IntKind.i64 z5] W8 (fun e14 =>
                             (fun W19 =>
                             (∃ v6 : Value, (e14 = Ending.returned v6 ∧
                             Calls Tryd.prog 22 #[Value.pointer p2, Value.int IntKind.i64 z5, Value.int IntKind.i64 0, Value.int IntKind.i64 1] W19 (fun e15 =>
                              (fun W20 =>
                              (∃ z25 : Int, (e15 = Ending.returned (Value.int IntKind.i64 z25) ∧
                              Calls Tryd.prog 16 #[v6, Value.int IntKind.i64 z25] W20 (fun e16 =>
                               (fun W21 =>
                               (∃ t5 : Bool, (e16 = Ending.returned (Value.bool t5) ∧
                               I3 t5 x2 k k2 W21)))))))))))))
                           (Sx.split (z6 == 4)
                             (Calls Tryd.prog 23 #[Value.pointer p, Value.int IntKind.i64 z5] W8 (fun e17 =>
                               (fun W22 =>
                               (∃ v7 : Value, (e17 = Ending.returned v7 ∧
                               Calls Tryd.prog 22 #[Value.pointer p2, Value.int IntKind.i64 z5, Value.int IntKind.i64 1, Value.int IntKind.i64 0] W22 (fun e18 =>
                                (fun W23 =>
                                (∃ z26 : Int, (e18 = Ending.returned (Value.int IntKind.i64 z26) ∧
                                Calls Tryd.prog 16 #[v7, Value.int IntKind.i64 z26] W23 (fun e19 =>
                                 (fun W24 =>
                                 (∃ t6 : Bool, (e19 = Ending.returned (Value.bool t6) ∧
                                 I3 t6 x2 k k2 W24)))))))))))))
                             (Sx.split (z6 == 5)
                               (Calls Tryd.prog 11 #[Value.pointer p, Value.int IntKind.i64 z5] W8 (fun e20 =>
                                 (fun W25 =>
                                 (∃ v8 : Value, (e20 = Ending.returned v8 ∧
                                 Calls Tryd.prog 22 #[Value.pointer p2, Value.int IntKind.i64 z5, Value.int IntKind.i64 1, Value.int IntKind.i64 2] W25 (fun e21 =>
                                  (fun W26 =>
                                  (∃ z27 : Int, (e21 = Ending.returned (Value.int IntKind.i64 z27) ∧
                                  Calls Tryd.prog 16 #[v8, Value.int IntKind.i64 z27] W26 (fun e22 =>
                                   (fun W27 =>
                                   (∃ t7 : Bool, (e22 = Ending.returned (Value.bool t7) ∧
                                   I3 t7 x2 k k2 W27)))))))))))))
                               (Sx.split (z6 == 6)
                                 (Calls Tryd.prog 13 #[Value.pointer p] W8 (fun e23 =>
                                   (fun W28 =>
                                   (∃ z28 : Int, (∃ v9 : Value, (e23 = Ending.returned (Value.tuple #[Value.int IntKind.i64 z28, v9]) ∧
                                   Calls Tryd.prog 24 #[Value.pointer p2] W28 (fun e24 =>
                                    (fun W29 =>
                                    (∃ z29 : Int, (∃ z30 : Int, (e24 = Ending.returned (Value.tuple #[Value.int IntKind.i64 z29, Value.int IntKind.i64 z30]) ∧
                                    Calls Tryd.prog 16 #[v9, Value.int IntKind.i64 z30] W29 (fun e25 =>
                                     (fun W30 =>
                                     (∃ t8 : Bool, (e25 = Ending.returned (Value.bool t8) ∧
                                     Sx.split t8
                                      (I3 (z28 == z29) x2 k k2 W30)
                                      (I3 false x2 k k2 W30))))))))))))))))
                                 (Sx.split (z6 == 7)
                                   (Calls Tryd.prog 25 #[Value.pointer p, Value.int IntKind.i64 z5] W8 (fun e26 =>
                                     (fun W31 =>
                                     (∃ p6 : Option Addr, (∃ k14 : Nat, (∃ k15 : Nat, (e26 = Ending.returned (Value.slice p6 k14 k15) ∧
                                     Calls Tryd.prog 26 #[Value.pointer p2, Value.int IntKind.i64 z5] W31 (fun e27 =>
                                      (fun W32 =>
                                      (∃ p7 : Option Addr, (∃ k16 : Nat, (∃ k17 : Nat, (e27 = Ending.returned (Value.slice p7 k16 k17) ∧
                                      (∀ vs4 : Array Value, (vs4 = #[Value.slice p6 k14 k15, Value.slice p7 k16 k17] →
                                      Calls Tryd.prog 20 #[Value.agg vs4] W32 (fun e28 =>
                                       (fun W33 =>
                                       (∃ t9 : Bool, (e28 = Ending.returned (Value.bool t9) ∧
                                       Calls Tryd.prog 21 #[Value.slice x2 k k2, Value.slice p6 k14 k15] W33 (fun e29 =>
                                        (fun W34 =>
                                        (∃ p8 : Option Addr, (∃ k18 : Nat, (∃ k19 : Nat, (e29 = Ending.returned (Value.slice p8 k18 k19) ∧
                                        I3 t9 p8 k18 k19 W34)))))))))))))))))))))))))
                                   (I3 x3 x2 k k2 W8)))))))))) ∧
                   ((Nat →
                   Value) →
                   (∀ x4 : Bool, (∀ x5 : Option Addr, (∀ k20 : Nat, (∀ k21 : Nat, (∀ W35 : World, (I3 x4 x5 k20 k21 W35 →
                   Calls Tryd.prog 14 #[Value.pointer p] W35 (fun e30 =>
                    (fun W36 =>
                    (∃ z31 : Int, (e30 = Ending.returned (Value.int IntKind.i64 z31) ∧
                    Calls Tryd.prog 27 #[Value.pointer p] W36 (fun e31 =>
                     (fun W37 =>
                     (∃ z32 : Int, (∃ t10 : Bool, (∃ t11 : Bool, (e31 = Ending.returned (Value.tuple #[Value.int IntKind.i64 z32, Value.bool t10, Value.bool t11]) ∧
                     (∃ I4 : World → Prop, ((∃ I5 : Bool → World → Prop, (Sx.split (!x4)
                        (I5 true W37)
                        (Sx.ptr p2 (fun a2 =>
                          (∃ p9 : Option Addr, (∃ k22 : Nat, (∃ k23 : Nat, (World.cell? W37 (Addr.add a2 2) = some (Value.slice p9 k22 k23) ∧
                          Sx.split (z31 != (↑k22 : Int))
                           (I5 true W37)
                           (Sx.split (!t11 == decide (z31 > 0))
                             (I5 true W37)
                             (Sx.split t11
                               (Sx.ptr p2 (fun a3 =>
                                 (∃ p10 : Option Addr, (∃ k24 : Nat, (∃ k25 : Nat, (World.cell? W37 (Addr.add a3 2) = some (Value.slice p10 k24 k25) ∧
                                 (((0 : Int) ≤ (0 : Int) ∧
                                  (0 : Int) < (↑k24 : Int)) ∧
                                 Sx.adr p10 (fun k26 =>
                                  (fun k27 =>
                                  (∃ z33 : Int, (World.cell? W37 (Addr.mk k26 (k27 + 0) none) = some (Value.int IntKind.i64 z33) ∧
                                  Sx.split (z32 != z33)
                                   (I5 true W37)
                                   (Sx.ptr p2 (fun a4 =>
                                     (∃ p11 : Option Addr, (∃ k28 : Nat, (∃ k29 : Nat, (World.cell? W37 (Addr.add a4 2) = some (Value.slice p11 k28 k29) ∧
                                     (((0 : Int) ≤ (0 : Int) ∧
                                      (0 : Int) < (↑k28 : Int)) ∧
                                     Sx.adr p11 (fun k30 =>
                                      (fun k31 =>
                                      (∃ z34 : Int, (World.cell? W37 (Addr.mk k30 (k31 + 0 + 4) none) = some (Value.int IntKind.i64 z34) ∧
                                      Sx.split (!t10 == (z34 == 2))
                                       (I5 true W37)
                                       (Sx.split (!t11)
                                         (Sx.split (z32 != 0)
                                           (I5 true W37)
                                           (I5 t10 W37))
                                         (I5 false W37))))))))))))))))))))))))
                               (Sx.split (!t11)
                                 (Sx.split (z32 != 0)
                                   (I5 true W37)
                                   (I5 t10 W37))
                                 (I5 false W37)))))))))) ∧
                      ((Nat →
                      Value) →
                      (∀ x6 : Bool, (∀ W38 : World, (I5 x6 W38 →
                      Sx.split x6
                       (Q (Ending.returned (Value.bool false)) W38)
                       (I4 W38))))))) ∧
                     ((Nat →
                     Value) →
                     (∀ W39 : World, (I4 W39 →
                     (∃ I6 : Int → World → Prop, (∃ I7 : Int → World → Nat, (I6 0 W39 ∧
                     ((Nat →
                     Value) →
                     (∀ x7 : Int, (∀ W40 : World, (I6 x7 W40 →
                     Sx.split (decide (x7 < (↑k20 : Int)))
                      ((((0 : Int) ≤ x7 ∧
                        x7 < (↑k20 : Int)) ∧
                       Sx.adr x5 (fun k32 =>
                        (fun k33 =>
                        (∃ vs5 : Array Value, (Array.size vs5 = 2 ∧
                        (Sx.cellsAt W40 (Addr.mk k32 (k33 + Int.toNat x7 * 2) none) vs5 ∧
                        Calls Tryd.prog 20 #[Value.agg vs5] W40 (fun e32 =>
                         (fun W41 =>
                         (∃ t12 : Bool, (e32 = Ending.returned (Value.bool t12) ∧
                         Sx.split (!t12)
                          (Q (Ending.returned (Value.bool false)) W41)
                          ((∀ z35 : Int, (z35 = IntKind.wrap IntKind.i64 (x7 + 1) →
                           (I6 z35 W41 ∧
                           I7 z35 W41 < I7 x7 W40)))))))))))))))
                      ((∀ z36 : Int, (z36 = IntKind.wrap IntKind.i64 (x + 1) →
                       (I z36 x5 k20 k21 x4 W40 ∧
                       I2 z36 x5 k20 k21 x4 W40 < I2 x x2 k k2 x3 W5)))))))))))))))))))))))))))))))))))))))))))))))))))))))))))))))
                (Q (Ending.returned (Value.bool true)) W5))
              (Q (Ending.returned (Value.bool true)) W5))
            (Q (Ending.returned (Value.bool true)) W5))))))))))))))))))))))))))))) :
  Calls Tryd.prog 4 #[Value.int .i64 a0, Value.int .i64 a1, Value.slice a2 a2n a2c] W Q :=
  Sx.sound Tryd.func4 (.node [] [] 0 .leaf (.node [] [] 0 .leaf (.node [] [] 0 .leaf (.node [] [] 0 .leaf (.node [] [] 0 .leaf (.node [] [] 0 .leaf (.node [] [] 0 (.node [] [] 0 .leaf (.node [] [] 0 (.node [(13, .int .i64), (12, .slice), (11, .bool)] [2, 7, 9] 0 (.node [] [] 0 .leaf (.node [] [] 0 (.node [] [] 0 (.node [] [] 0 .leaf (.node [] [] 0 .leaf (.node [(11, .bool), (12, .slice)] [7, 9, 13, 2] 1 .leaf (.node [] [] 0 .leaf (.node [] [] 0 .leaf (.node [] [12, 13, 2, 7, 9, 11] 1 (.node [(296, .bool)] [12, 13, 2, 7, 9, 11] 1 .leaf .leaf) (.node [] [] 0 .leaf (.node [] [] 0 (.node [(40, .int .i64)] [12, 13, 2, 7, 9, 11] 0 .leaf .leaf) .leaf)))))))) .leaf) .leaf)) .leaf) .leaf)) .leaf))))))) [Value.int .i64 a0, Value.int .i64 a1, Value.slice a2 a2n a2c] rfl (Eq.mp (by kernel_rfl) hVC)
end Go.Proofs.YtdliholhfiihcaaDoor
