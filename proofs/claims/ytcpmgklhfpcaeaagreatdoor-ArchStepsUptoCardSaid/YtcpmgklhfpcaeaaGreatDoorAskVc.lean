/- What each function asks, reckoned out of its text; printed by a program of mine (wip/tpl/VcTool.lean). No condition. -/
import Derived.Test.YtcpmgklhfpcaeaaGreatDoorSxB
import Derived.Test.YtcpmgklhfpcaeaaGreatDoorChecked
namespace Go.Proofs.YtcpmgklhfpcaeaaGreatDoor
open Go Go.Proofs
set_option linter.unusedVariables false
set_option maxRecDepth 100000
theorem vc3 {W : World} {Q : Ending → World → Prop} (arg0 : Option Addr) (arg0n : Nat) (arg0c : Nat) (arg1 : Int) (arg2 : Int) (arg3 : Option Addr) (arg3n : Nat) (arg3c : Nat) (arg4 : Option Addr) (arg4n : Nat) (arg4c : Nat) (arg5 : Int)
  (hVC :
    Calls Tryz.prog 5 #[Value.slice arg0 arg0n arg0c, Value.int IntKind.i64 arg1, Value.int IntKind.i64 arg2] W (fun e =>
     (fun W2 =>
     (∃ p : Option Addr, (∃ v : Value, (e = Ending.returned (Value.tuple #[Value.pointer p, v]) ∧
     Calls Tryz.prog 6 #[Value.slice arg0 arg0n arg0c, Value.int IntKind.i64 arg1, Value.int IntKind.i64 arg2] W2 (fun e2 =>
      (fun W3 =>
      (∃ p2 : Option Addr, (∃ z : Int, (e2 = Ending.returned (Value.tuple #[Value.pointer p2, Value.int IntKind.i64 z]) ∧
      Calls Tryz.prog 7 #[v] W3 (fun e3 =>
       (fun W4 =>
       (∃ z2 : Int, (e3 = Ending.returned (Value.int IntKind.i64 z2) ∧
       Sx.split (z2 != z)
        (Q (Ending.returned (Value.bool false)) W4)
        (Sx.split (!Option.isNone p == Option.isNone p2)
          (Q (Ending.returned (Value.bool false)) W4)
          ((∃ I : Int → World → Prop, (∃ I2 : Int → World → Nat, (I 0 W4 ∧
           ((Nat →
           Value) →
           (∀ x : Int, (∀ W5 : World, (I x W5 →
           Sx.split (Option.isSome p)
            (Sx.split (decide (x < arg5))
              (Sx.split (decide (x < 2000))
                (Calls Tryz.prog 8 #[Value.pointer p] W5 (fun e4 =>
                  (fun W6 =>
                  (∃ vs : Array Value, (e4 = Ending.returned (Value.agg vs) ∧
                  (∀ k : Nat, (∀ W7 : World, (k = Array.size (World.heap W6) →
                  (W7 = World.alloc W6 (Obj.cells #[Value.int IntKind.i64 0, Value.int IntKind.u32 0, Value.int IntKind.i64 0, Value.int IntKind.u32 0] 37) →
                  (Array.size vs = 4 ∧
                  ((∀ k2 : Nat, (k2 < 4 →
                   ((∃ v2 : Value, World.cell? W7 (Addr.mk k (0 + k2) none) = some v2) ∧
                   World.frozen? W7 (Addr.mk k (0 + k2) none) = false))) ∧
                  ((∀ v3 : Value, (v3 ∈ Array.toList vs →
                   Value.oneCell' v3 = true)) ∧
                  (∀ W8 : World, (W8 = World.setCells W7 k 0 (Array.toList vs) →
                  Calls Tryz.prog 9 #[Value.pointer p2] W8 (fun e5 =>
                   (fun W9 =>
                   (∃ vs2 : Array Value, (e5 = Ending.returned (Value.agg vs2) ∧
                   (∀ k3 : Nat, (∀ W10 : World, (k3 = Array.size (World.heap W9) →
                   (W10 = World.alloc W9 (Obj.cells #[Value.int IntKind.i64 0, Value.int IntKind.u32 0, Value.int IntKind.i64 0, Value.int IntKind.u32 0] 40) →
                   (Array.size vs2 = 4 ∧
                   ((∀ k4 : Nat, (k4 < 4 →
                    ((∃ v4 : Value, World.cell? W10 (Addr.mk k3 (0 + k4) none) = some v4) ∧
                    World.frozen? W10 (Addr.mk k3 (0 + k4) none) = false))) ∧
                   ((∀ v5 : Value, (v5 ∈ Array.toList vs2 →
                    Value.oneCell' v5 = true)) ∧
                   (∀ W11 : World, (W11 = World.setCells W10 k3 0 (Array.toList vs2) →
                   (∃ I3 : World → Prop, ((∃ z3 : Int, (World.cell? W11 (Addr.mk k 0 none) = some (Value.int IntKind.i64 z3) ∧
                    (∃ z4 : Int, (World.cell? W11 (Addr.mk k3 0 none) = some (Value.int IntKind.i64 z4) ∧
                    Sx.split (z3 != z4)
                     (Q (Ending.returned (Value.bool false)) W11)
                     ((∃ z5 : Int, (World.cell? W11 (Addr.mk k (0 + 1) none) = some (Value.int IntKind.u32 z5) ∧
                      (∃ z6 : Int, (World.cell? W11 (Addr.mk k3 (0 + 1) none) = some (Value.int IntKind.u32 z6) ∧
                      Sx.split (z5 != z6)
                       (Q (Ending.returned (Value.bool false)) W11)
                       ((∃ z7 : Int, (World.cell? W11 (Addr.mk k (0 + 2) none) = some (Value.int IntKind.i64 z7) ∧
                        (∃ z8 : Int, (World.cell? W11 (Addr.mk k3 (0 + 2) none) = some (Value.int IntKind.i64 z8) ∧
                        Sx.split (z7 != z8)
                         (Q (Ending.returned (Value.bool false)) W11)
                         ((∃ z9 : Int, (World.cell? W11 (Addr.mk k (0 + 3) none) = some (Value.int IntKind.u32 z9) ∧
                          (∃ z10 : Int, (World.cell? W11 (Addr.mk k3 (0 + 3) none) = some (Value.int IntKind.u32 z10) ∧
                          Sx.split (z9 != z10)
                           (Q (Ending.returned (Value.bool false)) W11)
                           (I3 W11)))))))))))))))))))) ∧
                   ((Nat →
                   Value) →
                   (∀ W12 : World, (I3 W12 →
                   (∃ I4 : Int → World → Prop, (Sx.split (decide ((↑arg3n : Int) > 0))
                     (((↑arg3n : Int) ≠ 0 ∧
                      (∀ z11 : Int, (z11 = Int.tmod x (↑arg3n : Int) →
                      (((0 : Int) ≤ z11 ∧
                       z11 < (↑arg3n : Int)) ∧
                      Sx.adr arg3 (fun k5 =>
                       (fun k6 =>
                       (∃ z12 : Int, (World.cell? W12 (Addr.mk k5 (k6 + Int.toNat z11 * 1) none) = some (Value.int IntKind.u32 z12) ∧
                       I4 z12 W12)))))))))
                     (I4 0 W12) ∧
                   ((Nat →
                   Value) →
                   (∀ x2 : Int, (∀ W13 : World, (I4 x2 W13 →
                   (∃ I5 : Bool → World → Prop, ((∃ I6 : Int → Bool → World → Prop, (∃ I7 : Int → Bool → World → Nat, (I6 0 false W13 ∧
                    ((Nat →
                    Value) →
                    (∀ x3 : Int, (∀ x4 : Bool, (∀ W14 : World, (I6 x3 x4 W14 →
                    Sx.split (decide (x3 < (↑arg4n : Int)))
                     (Sx.split x4
                       ((∀ z13 : Int, (z13 = IntKind.wrap IntKind.i64 (x3 + 1) →
                        (I6 z13 true W14 ∧
                        I7 z13 true W14 < I7 x3 x4 W14))))
                       ((((0 : Int) ≤ x3 ∧
                         x3 < (↑arg4n : Int)) ∧
                        Sx.adr arg4 (fun k7 =>
                         (fun k8 =>
                         (∃ z14 : Int, (World.cell? W14 (Addr.mk k7 (k8 + Int.toNat x3 * 1) none) = some (Value.int IntKind.i64 z14) ∧
                         (∀ z15 : Int, (z15 = IntKind.wrap IntKind.i64 (x3 + 1) →
                         (I6 z15 (z14 == x) W14 ∧
                         I7 z15 (z14 == x) W14 < I7 x3 x4 W14))))))))))
                     (I5 x4 W14))))))))) ∧
                   ((Nat →
                   Value) →
                   (∀ x5 : Bool, (∀ W15 : World, (I5 x5 W15 →
                   (∃ I8 : World → Prop, (((7 : Int) ≠ (0 : Int) ∧
                    (∀ z16 : Int, (z16 = Int.tmod x 7 →
                    Sx.split (z16 == 3)
                     (Calls Tryz.prog 10 #[Value.pointer p] W15 (fun e6 =>
                       (fun W16 =>
                       (∃ vs3 : Array Value, (∃ t : Bool, (e6 = Ending.returned (Value.tuple #[Value.agg vs3, Value.bool t]) ∧
                       (∀ k9 : Nat, (∀ W17 : World, (k9 = Array.size (World.heap W16) →
                       (W17 = World.alloc W16 (Obj.cells #[Value.int IntKind.u32 0, Value.int IntKind.u32 0, Value.int IntKind.i64 0, Value.int IntKind.u32 0, Value.int IntKind.i64 0, Value.int IntKind.u32 0, Value.int IntKind.u32 0] 43) →
                       (Array.size vs3 = 7 ∧
                       ((∀ k10 : Nat, (k10 < 7 →
                        ((∃ v6 : Value, World.cell? W17 (Addr.mk k9 (0 + k10) none) = some v6) ∧
                        World.frozen? W17 (Addr.mk k9 (0 + k10) none) = false))) ∧
                       ((∀ v7 : Value, (v7 ∈ Array.toList vs3 →
                        Value.oneCell' v7 = true)) ∧
                       (∀ W18 : World, (W18 = World.setCells W17 k9 0 (Array.toList vs3) →
                       Calls Tryz.prog 11 #[Value.pointer p2] W18 (fun e7 =>
                        (fun W19 =>
                        (∃ vs4 : Array Value, (∃ t2 : Bool, (e7 = Ending.returned (Value.tuple #[Value.agg vs4, Value.bool t2]) ∧
                        (∀ k11 : Nat, (∀ W20 : World, (k11 = Array.size (World.heap W19) →
                        (W20 = World.alloc W19 (Obj.cells #[Value.int IntKind.u32 0, Value.int IntKind.u32 0, Value.int IntKind.i64 0, Value.int IntKind.u32 0, Value.int IntKind.i64 0, Value.int IntKind.u32 0, Value.int IntKind.u32 0] 46) →
                        (Array.size vs4 = 7 ∧
                        ((∀ k12 : Nat, (k12 < 7 →
                         ((∃ v8 : Value, World.cell? W20 (Addr.mk k11 (0 + k12) none) = some v8) ∧
                         World.frozen? W20 (Addr.mk k11 (0 + k12) none) = false))) ∧
                        ((∀ v9 : Value, (v9 ∈ Array.toList vs4 →
                         Value.oneCell' v9 = true)) ∧
                        (∀ W21 : World, (W21 = World.setCells W20 k11 0 (Array.toList vs4) →
                        (∀ W22 : World, (W22 = World.drew W21 →
                        Sx.split (!t == t2)
                         (((Q (Ending.returned (Value.bool false)) W22 ∧
                           Q (Ending.returned (Value.bool false)) W22) ∧
                          Q (Ending.returned (Value.bool false)) W22))
                         ((Sx.split t
                            ((∃ vs5 : Array Value, (Array.size vs5 = 7 ∧
                             (Sx.cellsAt W22 (Addr.mk k9 0 none) vs5 ∧
                             (Calls Tryz.prog 12 #[Value.agg vs5] W22 (fun e8 =>
                               (fun W23 =>
                               (∃ vs6 : Array Value, (e8 = Ending.returned (Value.agg vs6) ∧
                               (∃ vs7 : Array Value, (Array.size vs7 = 7 ∧
                               (Sx.cellsAt W23 (Addr.mk k11 0 none) vs7 ∧
                               (∃ t3 : Bool, ((∀ W24 : World, Sem.run Tryz.prog
    (do
      eqGuard BinOp.neq 46 (Operand.tmp 144) (Operand.tmp 145) (Value.agg vs6) (Value.agg vs7)
      binOp BinOp.neq 46 (Value.agg vs6) (Value.agg vs7))
    W24 =
  Result.ok (Value.bool t3) W24) ∧
                               Sx.split t3
                                (Q (Ending.returned (Value.bool false)) W23)
                                (I8 W23)))))))))) ∧
                             (∃ vs8 : Array Value, (Array.size vs8 = 7 ∧
                             (Sx.cellsAt W22 (Addr.mk k11 0 none) vs8 ∧
                             Calls Tryz.prog 12 #[Value.agg vs5] W22 (fun e9 =>
                              (fun W25 =>
                              (∃ vs9 : Array Value, (e9 = Ending.returned (Value.agg vs9) ∧
                              (∃ t4 : Bool, ((∀ W26 : World, Sem.run Tryz.prog
    (do
      eqGuard BinOp.neq 46 (Operand.tmp 144) (Operand.tmp 145) (Value.agg vs9) (Value.agg vs8)
      binOp BinOp.neq 46 (Value.agg vs9) (Value.agg vs8))
    W26 =
  Result.ok (Value.bool t4) W26) ∧
                              Sx.split t4
                               (Q (Ending.returned (Value.bool false)) W25)
                               (I8 W25)))))))))))))))
                            ((I8 W22 ∧
                             I8 W22)) ∧
                          Sx.split t
                           ((∃ vs10 : Array Value, (Array.size vs10 = 7 ∧
                            (Sx.cellsAt W22 (Addr.mk k11 0 none) vs10 ∧
                            (∃ vs11 : Array Value, (Array.size vs11 = 7 ∧
                            (Sx.cellsAt W22 (Addr.mk k9 0 none) vs11 ∧
                            Calls Tryz.prog 12 #[Value.agg vs11] W22 (fun e10 =>
                             (fun W27 =>
                             (∃ vs12 : Array Value, (e10 = Ending.returned (Value.agg vs12) ∧
                             (∃ t5 : Bool, ((∀ W28 : World, Sem.run Tryz.prog
    (do
      eqGuard BinOp.neq 46 (Operand.tmp 144) (Operand.tmp 145) (Value.agg vs12) (Value.agg vs10)
      binOp BinOp.neq 46 (Value.agg vs12) (Value.agg vs10))
    W28 =
  Result.ok (Value.bool t5) W28) ∧
                             Sx.split t5
                              (Q (Ending.returned (Value.bool false)) W27)
                              (I8 W27))))))))))))))
                           (I8 W22))))))))))))))))))))))))))))))))))
                     (I8 W15)))) ∧
                   ((Nat →
                   Value) →
                   (∀ W29 : World, (I8 W29 →
                   Calls Tryz.prog 13 #[Value.pointer p, Value.int IntKind.u32 x2, Value.bool x5] W29 (fun e11 =>
                    (fun W30 =>
                    (∃ vs13 : Array Value, (e11 = Ending.returned (Value.agg vs13) ∧
                    (∀ k13 : Nat, (∀ W31 : World, (k13 = Array.size (World.heap W30) →
                    (W31 = World.alloc W30 (Obj.cells #[Value.int IntKind.u32 0, Value.int IntKind.u32 0, Value.int IntKind.i64 0, Value.int IntKind.u32 0, Value.int IntKind.i64 0, Value.int IntKind.u32 0, Value.int IntKind.u32 0] 43) →
                    (Array.size vs13 = 7 ∧
                    ((∀ k14 : Nat, (k14 < 7 →
                     ((∃ v10 : Value, World.cell? W31 (Addr.mk k13 (0 + k14) none) = some v10) ∧
                     World.frozen? W31 (Addr.mk k13 (0 + k14) none) = false))) ∧
                    ((∀ v11 : Value, (v11 ∈ Array.toList vs13 →
                     Value.oneCell' v11 = true)) ∧
                    (∀ W32 : World, (W32 = World.setCells W31 k13 0 (Array.toList vs13) →
                    Calls Tryz.prog 14 #[Value.pointer p2, Value.int IntKind.u32 x2, Value.bool x5] W32 (fun e12 =>
                     (fun W33 =>
                     (∃ vs14 : Array Value, (e12 = Ending.returned (Value.agg vs14) ∧
                     (∀ k15 : Nat, (∀ W34 : World, (k15 = Array.size (World.heap W33) →
                     (W34 = World.alloc W33 (Obj.cells #[Value.int IntKind.u32 0, Value.int IntKind.u32 0, Value.int IntKind.i64 0, Value.int IntKind.u32 0, Value.int IntKind.i64 0, Value.int IntKind.u32 0, Value.int IntKind.u32 0] 46) →
                     (Array.size vs14 = 7 ∧
                     ((∀ k16 : Nat, (k16 < 7 →
                      ((∃ v12 : Value, World.cell? W34 (Addr.mk k15 (0 + k16) none) = some v12) ∧
                      World.frozen? W34 (Addr.mk k15 (0 + k16) none) = false))) ∧
                     ((∀ v13 : Value, (v13 ∈ Array.toList vs14 →
                      Value.oneCell' v13 = true)) ∧
                     (∀ W35 : World, (W35 = World.setCells W34 k15 0 (Array.toList vs14) →
                     (∀ W36 : World, (W36 = World.drew W35 →
                     (∃ vs15 : Array Value, (Array.size vs15 = 7 ∧
                     (Sx.cellsAt W36 (Addr.mk k13 0 none) vs15 ∧
                     (Calls Tryz.prog 12 #[Value.agg vs15] W36 (fun e13 =>
                       (fun W37 =>
                       (∃ vs16 : Array Value, (e13 = Ending.returned (Value.agg vs16) ∧
                       (∃ vs17 : Array Value, (Array.size vs17 = 7 ∧
                       (Sx.cellsAt W37 (Addr.mk k15 0 none) vs17 ∧
                       (∃ t6 : Bool, ((∀ W38 : World, Sem.run Tryz.prog
    (do
      eqGuard BinOp.neq 46 (Operand.tmp 158) (Operand.tmp 159) (Value.agg vs16) (Value.agg vs17)
      binOp BinOp.neq 46 (Value.agg vs16) (Value.agg vs17))
    W38 =
  Result.ok (Value.bool t6) W38) ∧
                       Sx.split t6
                        (Q (Ending.returned (Value.bool false)) W37)
                        ((∀ z17 : Int, (z17 = IntKind.wrap IntKind.i64 (x + 1) →
                         (I z17 W37 ∧
                         I2 z17 W37 < I2 x W5))))))))))))) ∧
                     (∃ vs18 : Array Value, (Array.size vs18 = 7 ∧
                     (Sx.cellsAt W36 (Addr.mk k15 0 none) vs18 ∧
                     (RowKit.Below (Array.size (World.heap W36)) W36 W36 ∧
                     Calls Tryz.prog 12 #[Value.agg vs15] W36 (fun e14 =>
                      (fun W39 =>
                      (∃ vs19 : Array Value, (e14 = Ending.returned (Value.agg vs19) ∧
                      (∃ t7 : Bool, ((∀ W40 : World, Sem.run Tryz.prog
    (do
      eqGuard BinOp.neq 46 (Operand.tmp 158) (Operand.tmp 159) (Value.agg vs19) (Value.agg vs18)
      binOp BinOp.neq 46 (Value.agg vs19) (Value.agg vs18))
    W40 =
  Result.ok (Value.bool t7) W40) ∧
                      Sx.split t7
                       (Q (Ending.returned (Value.bool false)) W39)
                       ((∀ z18 : Int, (z18 = IntKind.wrap IntKind.i64 (x + 1) →
                        (I z18 W39 ∧
                        I2 z18 W39 < I2 x W5)))))))))))))))))))))))))))))))))))))))))))))))))))))))))))))))))))))))))))))))))))))))))))))))
                (Sx.split (Option.isNone p)
                  (Q (Ending.returned (Value.bool true)) W5)
                  (Calls Tryz.prog 15 #[Value.pointer p, Value.pointer p2] W5 (fun e15 =>
                    (fun W41 =>
                    (∃ t8 : Bool, (e15 = Ending.returned (Value.bool t8) ∧
                    Q (Ending.returned (Value.bool t8)) W41)))))))
              (Sx.split (Option.isNone p)
                (Q (Ending.returned (Value.bool true)) W5)
                (Calls Tryz.prog 15 #[Value.pointer p, Value.pointer p2] W5 (fun e16 =>
                  (fun W42 =>
                  (∃ t9 : Bool, (e16 = Ending.returned (Value.bool t9) ∧
                  Q (Ending.returned (Value.bool t9)) W42)))))))
            (Sx.split (Option.isNone p)
              (Q (Ending.returned (Value.bool true)) W5)
              (Calls Tryz.prog 15 #[Value.pointer p, Value.pointer p2] W5 (fun e17 =>
                (fun W43 =>
                (∃ t10 : Bool, (e17 = Ending.returned (Value.bool t10) ∧
                Q (Ending.returned (Value.bool t10)) W43)))))))))))))))))))))))))))))) :
  Calls Tryz.prog 3 #[Value.slice arg0 arg0n arg0c, Value.int .i64 arg1, Value.int .i64 arg2, Value.slice arg3 arg3n arg3c, Value.slice arg4 arg4n arg4c, Value.int .i64 arg5] W Q :=
  Sx.sound Tryz.func3 (.node [] [] 0 .leaf (.node [] [] 0 .leaf (.node [] [] 0 .leaf (.node [] [] 0 .leaf (.node [] [] 0 .leaf (.node [] [] 0 (.node [] [] 0 .leaf (.node [] [] 0 (.node [(18, .int .i64)] [13, 5, 15, 3, 4] 0 (.node [] [] 0 .leaf (.node [] [] 0 (.node [] [] 0 (.node [] [] 0 .leaf (.node [] [] 0 .leaf (.node [] [3, 18, 4, 13, 15, 5] 1 .leaf (.node [] [] 0 .leaf (.node [(21, .int .u32)] [4, 18, 13, 15, 5, 3] 1 .leaf (.node [] [] 0 .leaf (.node [(22, .bool)] [18, 13, 15, 21, 5, 3, 4] 1 (.node [] [] 0 .leaf (.node [] [] 0 (.node [(23, .int .i64), (22, .bool)] [4, 18, 13, 15, 21, 5, 3] 0 .leaf .leaf) .leaf)) (.node [] [13, 21, 22, 15, 18, 5, 3, 4] 1 (.node [] [] 0 .leaf (.node [] [] 0 (.node [] [] 0 .leaf (.node [] [] 0 .leaf (.node [] [] 0 (.node [] [] 1005 .leaf .leaf) .leaf))) .leaf)) (.node [] [] 0 .leaf (.node [] [] 0 .leaf (.node [] [] 0 (.node [] [] 1002 .leaf .leaf) .leaf))))))))))) .leaf) .leaf)) .leaf) .leaf)) .leaf)))))) [Value.slice arg0 arg0n arg0c, Value.int .i64 arg1, Value.int .i64 arg2, Value.slice arg3 arg3n arg3c, Value.slice arg4 arg4n arg4c, Value.int .i64 arg5] rfl (Eq.mp (by kernel_rfl) hVC)
end Go.Proofs.YtcpmgklhfpcaeaaGreatDoor
