/- What each function asks, reckoned out of its text; printed by a program of mine (wip/tpl/VcTool.lean). No condition. -/
import Derived.Test.YtngfaiahlblkkaaDoorSxB
import Derived.Test.YtngfaiahlblkkaaDoorChecked
namespace Go.Proofs.YtngfaiahlblkkaaDoor
open Go Go.Proofs
set_option linter.unusedVariables false
set_option maxRecDepth 100000
theorem vc4 {W : World} {Q : Ending → World → Prop} (arg0 : Int) (arg1 : Option Addr) (arg1n : Nat) (arg1c : Nat)
  (hVC :
    Calls Tryd.prog 5 #[Value.int IntKind.i64 arg0] W (fun e =>
     (fun W2 =>
     (∃ p : Option Addr, (∃ v : Value, (e = Ending.returned (Value.tuple #[Value.pointer p, v]) ∧
     Calls Tryd.prog 14 #[Value.int IntKind.i64 arg0] W2 (fun e2 =>
      (fun W3 =>
      (∃ p2 : Option Addr, (∃ z : Int, (e2 = Ending.returned (Value.tuple #[Value.pointer p2, Value.int IntKind.i64 z]) ∧
      Calls Tryd.prog 15 #[v, Value.int IntKind.i64 z] W3 (fun e3 =>
       (fun W4 =>
       (∃ t : Bool, (e3 = Ending.returned (Value.bool t) ∧
       Sx.split (!t)
        (Q (Ending.returned (Value.bool false)) W4)
        (Sx.split (!Option.isNone p == Option.isNone p2)
          (Q (Ending.returned (Value.bool false)) W4)
          ((∃ I : Int → Int → Bool → World → Prop, (∃ I2 : Int → Int → Bool → World → Nat, (I 0 0 t W4 ∧
           ((Nat →
           Value) →
           (∀ x : Int, (∀ x2 : Int, (∀ x3 : Bool, (∀ W5 : World, (I x x2 x3 W5 →
           Sx.split (decide (x < (↑arg1n : Int)))
            (Sx.split (decide (x < 4096))
              (Sx.split (Option.isSome p)
                ((((0 : Int) ≤ x ∧
                  x < (↑arg1n : Int)) ∧
                 Sx.adr arg1 (fun k =>
                  (fun k2 =>
                  (∃ vs : Array Value, (Array.size vs = 4 ∧
                  (Sx.cellsAt W5 (Addr.mk k (k2 + Int.toNat x * 4) none) vs ∧
                  (∀ k3 : Nat, (∀ W6 : World, (k3 = Array.size (World.heap W5) →
                  (W6 = World.alloc W5 (Obj.cells #[Value.int IntKind.i64 0, Value.int IntKind.i64 0, Value.int IntKind.i64 0, Value.int IntKind.i64 0] 53) →
                  (Array.size vs = 4 ∧
                  ((∀ k4 : Nat, (k4 < 4 →
                   ((∃ v2 : Value, World.cell? W6 (Addr.mk k3 (0 + k4) none) = some v2) ∧
                   World.frozen? W6 (Addr.mk k3 (0 + k4) none) = false))) ∧
                  ((∀ v3 : Value, (v3 ∈ Array.toList vs →
                   Value.oneCell' v3 = true)) ∧
                  (∀ W7 : World, (W7 = World.setCells W6 k3 0 (Array.toList vs) →
                  (∀ z2 : Int, (z2 = IntKind.wrap IntKind.i64 (x2 - 1) →
                  (∃ z3 : Int, (World.cell? W7 (Addr.mk k3 (0 + 1) none) = some (Value.int IntKind.i64 z3) ∧
                  (∀ z4 : Int, (z4 = IntKind.wrap IntKind.i64 (z2 - z3) →
                  (∃ I3 : Bool → Int → World → Prop, ((∃ z5 : Int, (World.cell? W7 (Addr.mk k3 0 none) = some (Value.int IntKind.i64 z5) ∧
                   Sx.split (z5 == 0)
                    ((∃ z6 : Int, (World.cell? W7 (Addr.mk k3 (0 + 3) none) = some (Value.int IntKind.i64 z6) ∧
                     (∀ z7 : Int, (z7 = IntKind.wrap IntKind.i64 (x2 + z6) →
                     (∃ z8 : Int, (World.cell? W7 (Addr.mk k3 (0 + 2) none) = some (Value.int IntKind.i64 z8) ∧
                     Calls Tryd.prog 16 #[Value.pointer p, Value.int IntKind.i64 z7, Value.bool (z8 == 1)] W7 (fun e4 =>
                      (fun W8 =>
                      (∃ v4 : Value, (e4 = Ending.returned v4 ∧
                      (∃ z9 : Int, (World.cell? W8 (Addr.mk k3 (0 + 2) none) = some (Value.int IntKind.i64 z9) ∧
                      Calls Tryd.prog 17 #[Value.pointer p2, Value.int IntKind.i64 z7, Value.bool (z9 == 1)] W8 (fun e5 =>
                       (fun W9 =>
                       (∃ z10 : Int, (e5 = Ending.returned (Value.int IntKind.i64 z10) ∧
                       Calls Tryd.prog 15 #[v4, Value.int IntKind.i64 z10] W9 (fun e6 =>
                        (fun W10 =>
                        (∃ t2 : Bool, (e6 = Ending.returned (Value.bool t2) ∧
                        Sx.split (z10 == 0)
                         ((∀ z11 : Int, (z11 = IntKind.wrap IntKind.i64 (z7 + 1) →
                          I3 t2 z11 W10)))
                         (I3 t2 x2 W10))))))))))))))))))))))
                    (Sx.split (z5 == 1)
                      ((∃ z12 : Int, (World.cell? W7 (Addr.mk k3 (0 + 2) none) = some (Value.int IntKind.i64 z12) ∧
                       (∀ z13 : Int, (z13 = IntKind.wrap IntKind.u32 z12 →
                       (∃ z14 : Int, (World.cell? W7 (Addr.mk k3 (0 + 3) none) = some (Value.int IntKind.i64 z14) ∧
                       Calls Tryd.prog 18 #[Value.pointer p, Value.int IntKind.i64 z4, Value.int IntKind.u32 z13, Value.int IntKind.i64 z14] W7 (fun e7 =>
                        (fun W11 =>
                        (∃ z15 : Int, (∃ v5 : Value, (e7 = Ending.returned (Value.tuple #[Value.int IntKind.i64 z15, v5]) ∧
                        (∃ z16 : Int, (World.cell? W11 (Addr.mk k3 (0 + 2) none) = some (Value.int IntKind.i64 z16) ∧
                        (∀ z17 : Int, (z17 = IntKind.wrap IntKind.u32 z16 →
                        (∀ z18 : Int, (z18 = IntKind.wrap IntKind.i64 z17 →
                        (∃ z19 : Int, (World.cell? W11 (Addr.mk k3 (0 + 3) none) = some (Value.int IntKind.i64 z19) ∧
                        Calls Tryd.prog 19 #[Value.pointer p2, Value.int IntKind.i64 z4, Value.int IntKind.i64 z18, Value.int IntKind.i64 z19] W11 (fun e8 =>
                         (fun W12 =>
                         (∃ z20 : Int, (∃ z21 : Int, (e8 = Ending.returned (Value.tuple #[Value.int IntKind.i64 z20, Value.int IntKind.i64 z21]) ∧
                         Calls Tryd.prog 15 #[v5, Value.int IntKind.i64 z21] W12 (fun e9 =>
                          (fun W13 =>
                          (∃ t3 : Bool, (e9 = Ending.returned (Value.bool t3) ∧
                          Sx.split t3
                           (I3 (z15 == z20) x2 W13)
                           (I3 false x2 W13))))))))))))))))))))))))))))))
                      (Sx.split (z5 == 2)
                        ((∃ z22 : Int, (World.cell? W7 (Addr.mk k3 (0 + 2) none) = some (Value.int IntKind.i64 z22) ∧
                         (∀ z23 : Int, (z23 = IntKind.wrap IntKind.u32 z22 →
                         Calls Tryd.prog 20 #[Value.pointer p, Value.int IntKind.i64 z4, Value.int IntKind.u32 z23] W7 (fun e10 =>
                          (fun W14 =>
                          (∃ v6 : Value, (e10 = Ending.returned v6 ∧
                          (∃ z24 : Int, (World.cell? W14 (Addr.mk k3 (0 + 2) none) = some (Value.int IntKind.i64 z24) ∧
                          (∀ z25 : Int, (z25 = IntKind.wrap IntKind.u32 z24 →
                          Calls Tryd.prog 21 #[Value.pointer p2, Value.int IntKind.i64 z4, Value.int IntKind.u32 z25] W14 (fun e11 =>
                           (fun W15 =>
                           (∃ z26 : Int, (e11 = Ending.returned (Value.int IntKind.i64 z26) ∧
                           Calls Tryd.prog 15 #[v6, Value.int IntKind.i64 z26] W15 (fun e12 =>
                            (fun W16 =>
                            (∃ t4 : Bool, (e12 = Ending.returned (Value.bool t4) ∧
                            I3 t4 x2 W16)))))))))))))))))))))
                        (Sx.split (z5 == 3)
                          ((∃ z27 : Int, (World.cell? W7 (Addr.mk k3 (0 + 2) none) = some (Value.int IntKind.i64 z27) ∧
                           Calls Tryd.prog 22 #[Value.pointer p, Value.int IntKind.i64 z4, Value.bool (z27 == 1)] W7 (fun e13 =>
                            (fun W17 =>
                            (∃ vs2 : Array Value, (∃ v7 : Value, (e13 = Ending.returned (Value.tuple #[Value.agg vs2, v7]) ∧
                            (∀ k5 : Nat, (∀ W18 : World, (k5 = Array.size (World.heap W17) →
                            (W18 = World.alloc W17 (Obj.cells #[Value.bool false, Value.int IntKind.i64 0, Value.int IntKind.u32 0] 63) →
                            (Array.size vs2 = 3 ∧
                            ((∀ k6 : Nat, (k6 < 3 →
                             ((∃ v8 : Value, World.cell? W18 (Addr.mk k5 (0 + k6) none) = some v8) ∧
                             World.frozen? W18 (Addr.mk k5 (0 + k6) none) = false))) ∧
                            ((∀ v9 : Value, (v9 ∈ Array.toList vs2 →
                             Value.oneCell' v9 = true)) ∧
                            (∀ W19 : World, (W19 = World.setCells W18 k5 0 (Array.toList vs2) →
                            (∃ z28 : Int, (World.cell? W19 (Addr.mk k3 (0 + 2) none) = some (Value.int IntKind.i64 z28) ∧
                            Calls Tryd.prog 23 #[Value.pointer p2, Value.int IntKind.i64 z4, Value.bool (z28 == 1)] W19 (fun e14 =>
                             (fun W20 =>
                             (∃ vs3 : Array Value, (∃ z29 : Int, (e14 = Ending.returned (Value.tuple #[Value.agg vs3, Value.int IntKind.i64 z29]) ∧
                             (∀ k7 : Nat, (∀ W21 : World, (k7 = Array.size (World.heap W20) →
                             (W21 = World.alloc W20 (Obj.cells #[Value.bool false, Value.int IntKind.i64 0, Value.int IntKind.u32 0] 66) →
                             (Array.size vs3 = 3 ∧
                             ((∀ k8 : Nat, (k8 < 3 →
                              ((∃ v10 : Value, World.cell? W21 (Addr.mk k7 (0 + k8) none) = some v10) ∧
                              World.frozen? W21 (Addr.mk k7 (0 + k8) none) = false))) ∧
                             ((∀ v11 : Value, (v11 ∈ Array.toList vs3 →
                              Value.oneCell' v11 = true)) ∧
                             (∀ W22 : World, (W22 = World.setCells W21 k7 0 (Array.toList vs3) →
                             Calls Tryd.prog 15 #[v7, Value.int IntKind.i64 z29] W22 (fun e15 =>
                              (fun W23 =>
                              (∃ t5 : Bool, (e15 = Ending.returned (Value.bool t5) ∧
                              (∃ vs4 : Array Value, (Array.size vs4 = 3 ∧
                              (Sx.cellsAt W23 (Addr.mk k5 0 none) vs4 ∧
                              (∃ vs5 : Array Value, (Array.size vs5 = 3 ∧
                              (Sx.cellsAt W23 (Addr.mk k7 0 none) vs5 ∧
                              Calls Tryd.prog 24 #[Value.agg vs4, Value.agg vs5] W23 (fun e16 =>
                               (fun W24 =>
                               (∃ t6 : Bool, (e16 = Ending.returned (Value.bool t6) ∧
                               Sx.split t5
                                (I3 t6 x2 W24)
                                (I3 false x2 W24))))))))))))))))))))))))))))))))))))))))))))))))
                          (Sx.split (z5 == 4)
                            (Calls Tryd.prog 25 #[Value.pointer p, Value.int IntKind.i64 z4] W7 (fun e17 =>
                              (fun W25 =>
                              (∃ v12 : Value, (e17 = Ending.returned v12 ∧
                              Calls Tryd.prog 26 #[Value.pointer p2, Value.int IntKind.i64 z4] W25 (fun e18 =>
                               (fun W26 =>
                               (∃ z30 : Int, (e18 = Ending.returned (Value.int IntKind.i64 z30) ∧
                               Calls Tryd.prog 15 #[v12, Value.int IntKind.i64 z30] W26 (fun e19 =>
                                (fun W27 =>
                                (∃ t7 : Bool, (e19 = Ending.returned (Value.bool t7) ∧
                                I3 t7 x2 W27)))))))))))))
                            (Sx.split (z5 == 5)
                              ((∃ I4 : Int → World → Prop, ((∃ z31 : Int, (World.cell? W7 (Addr.mk k3 (0 + 2) none) = some (Value.int IntKind.i64 z31) ∧
                                Sx.split (z31 != 1)
                                 (Calls Tryd.prog 27 #[Value.pointer p2] W7 (fun e20 =>
                                   (fun W28 =>
                                   (∃ z32 : Int, (e20 = Ending.returned (Value.int IntKind.i64 z32) ∧
                                   I4 z32 W28)))))
                                 (I4 z4 W7))) ∧
                               ((Nat →
                               Value) →
                               (∀ x4 : Int, (∀ W29 : World, (I4 x4 W29 →
                               Calls Tryd.prog 11 #[Value.pointer p, Value.int IntKind.i64 x4] W29 (fun e21 =>
                                (fun W30 =>
                                (∃ v13 : Value, (e21 = Ending.returned v13 ∧
                                Calls Tryd.prog 28 #[Value.pointer p2, Value.int IntKind.i64 x4] W30 (fun e22 =>
                                 (fun W31 =>
                                 (∃ z33 : Int, (e22 = Ending.returned (Value.int IntKind.i64 z33) ∧
                                 Calls Tryd.prog 15 #[v13, Value.int IntKind.i64 z33] W31 (fun e23 =>
                                  (fun W32 =>
                                  (∃ t8 : Bool, (e23 = Ending.returned (Value.bool t8) ∧
                                  I3 t8 x2 W32)))))))))))))))))))
                              (Sx.split (z5 == 6)
                                (Calls Tryd.prog 29 #[Value.pointer p] W7 (fun e24 =>
                                  (fun W33 =>
                                  (∃ v14 : Value, (e24 = Ending.returned v14 ∧
                                  Calls Tryd.prog 30 #[Value.pointer p2] W33 (fun e25 =>
                                   (fun W34 =>
                                   (∃ t9 : Bool, (e25 = Ending.returned (Value.bool t9) ∧
                                   Calls Tryd.prog 31 #[v14] W34 (fun e26 =>
                                    (fun W35 =>
                                    (∃ z34 : Int, (e26 = Ending.returned (Value.int IntKind.i64 z34) ∧
                                    Sx.split t9
                                     (Sx.split (z34 == 0)
                                       (I3 true x2 W35)
                                       (Sx.split (!t9)
                                         (I3 (z34 == 7) x2 W35)
                                         (I3 false x2 W35)))
                                     (Sx.split (!t9)
                                       (I3 (z34 == 7) x2 W35)
                                       (I3 false x2 W35)))))))))))))))
                                (Sx.split (z5 == 7)
                                  ((∃ z35 : Int, (World.cell? W7 (Addr.mk k3 (0 + 2) none) = some (Value.int IntKind.i64 z35) ∧
                                   (∀ z36 : Int, (z36 = IntKind.wrap IntKind.u32 z35 →
                                   Calls Tryd.prog 32 #[Value.pointer p, Value.int IntKind.u32 z36] W7 (fun e27 =>
                                    (fun W36 =>
                                    (∃ z37 : Int, (e27 = Ending.returned (Value.int IntKind.i64 z37) ∧
                                    (∃ z38 : Int, (World.cell? W36 (Addr.mk k3 (0 + 2) none) = some (Value.int IntKind.i64 z38) ∧
                                    (∀ z39 : Int, (z39 = IntKind.wrap IntKind.u32 z38 →
                                    (∀ z40 : Int, (z40 = IntKind.wrap IntKind.i64 z39 →
                                    Calls Tryd.prog 33 #[Value.pointer p2, Value.int IntKind.i64 z40] W36 (fun e28 =>
                                     (fun W37 =>
                                     (∃ z41 : Int, (e28 = Ending.returned (Value.int IntKind.i64 z41) ∧
                                     I3 (z37 == z41) x2 W37)))))))))))))))))))
                                  (Sx.split (z5 == 8)
                                    (Calls Tryd.prog 34 #[Value.pointer p, Value.int IntKind.i64 z4] W7 (fun e29 =>
                                      (fun W38 =>
                                      (e29 = Ending.returned (Value.tuple #[]) ∧
                                      Calls Tryd.prog 35 #[Value.pointer p2, Value.int IntKind.i64 z4] W38 (fun e30 =>
                                       (fun W39 =>
                                       (e30 = Ending.returned (Value.tuple #[]) ∧
                                       I3 x3 x2 W39)))))))
                                    (I3 x3 x2 W7))))))))))) ∧
                  ((Nat →
                  Value) →
                  (∀ x5 : Bool, (∀ x6 : Int, (∀ W40 : World, (I3 x5 x6 W40 →
                  Calls Tryd.prog 36 #[Value.pointer p, Value.pointer p2] W40 (fun e31 =>
                   (fun W41 =>
                   (∃ t10 : Bool, (e31 = Ending.returned (Value.bool t10) ∧
                   Sx.split (!x5)
                    (Q (Ending.returned (Value.bool false)) W41)
                    (Sx.split (!t10)
                      (Q (Ending.returned (Value.bool false)) W41)
                      ((∀ z42 : Int, (z42 = IntKind.wrap IntKind.i64 (x + 1) →
                       (I z42 x6 x5 W41 ∧
                       I2 z42 x6 x5 W41 < I2 x x2 x3 W5))))))))))))))))))))))))))))))))))))))
                (Q (Ending.returned (Value.bool true)) W5))
              (Q (Ending.returned (Value.bool true)) W5))
            (Q (Ending.returned (Value.bool true)) W5))))))))))))))))))))))))))) :
  Calls Tryd.prog 4 #[Value.int .i64 arg0, Value.slice arg1 arg1n arg1c] W Q :=
  Sx.sound Tryd.func4 (.node [] [] 0 .leaf (.node [] [] 0 .leaf (.node [] [] 0 .leaf (.node [] [] 0 .leaf (.node [] [] 0 .leaf (.node [] [] 0 .leaf (.node [] [] 0 (.node [] [] 0 .leaf (.node [] [] 0 (.node [(11, .int .i64), (10, .int .i64), (9, .bool)] [1, 5, 7] 0 (.node [] [] 0 .leaf (.node [] [] 0 (.node [] [] 0 (.node [] [] 0 .leaf (.node [] [] 0 .leaf (.node [(9, .bool), (10, .int .i64)] [5, 7, 11, 1] 1 (.node [] [] 0 .leaf (.node [] [] 0 (.node [] [] 0 .leaf (.node [] [] 0 .leaf (.node [] [] 0 .leaf (.node [] [] 0 .leaf (.node [] [] 0 .leaf (.node [] [] 0 .leaf (.node [] [] 0 .leaf (.node [] [] 0 .leaf (.node [] [] 0 .leaf (.node [] [] 0 .leaf (.node [] [] 0 .leaf (.node [] [] 0 (.node [(13, .int .i64)] [5, 7, 11, 1, 10] 1 .leaf .leaf) .leaf)))))))))))) .leaf)) .leaf))) .leaf) .leaf)) .leaf) .leaf)) .leaf))))))) [Value.int .i64 arg0, Value.slice arg1 arg1n arg1c] rfl (Eq.mp (by kernel_rfl) hVC)
end Go.Proofs.YtngfaiahlblkkaaDoor
