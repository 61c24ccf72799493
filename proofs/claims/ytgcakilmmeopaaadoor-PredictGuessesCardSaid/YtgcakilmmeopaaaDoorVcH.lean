/- What each function asks, reckoned out of its text; printed by a program of mine (wip/tpl/VcTool.lean). No condition. -/
import Derived.Test.YtgcakilmmeopaaaDoorSxB
import Derived.Test.YtgcakilmmeopaaaDoorChecked
namespace Go.Proofs.YtgcakilmmeopaaaDoor
open Go Go.Proofs
set_option linter.unusedVariables false
set_option maxRecDepth 100000
theorem vc5 {W : World} {Q : Ending → World → Prop} (a0 : Int) (a1 : Int) (a2 : Int) (a3 : Int) (a4 : Int) (a5 : Option Addr) (a5n : Nat) (a5c : Nat)
  (h :
    (∀ vs : Array Value, (vs = #[Value.int IntKind.i64 a0, Value.int IntKind.i64 a1, Value.int IntKind.i64 a2, Value.int IntKind.i64 a3, Value.int IntKind.i64 a4] →
    (∀ k : Nat, (∀ W2 : World, (k = Array.size (World.heap W) →
    (W2 = World.alloc W (Obj.cells #[Value.int IntKind.i64 0, Value.int IntKind.i64 0, Value.int IntKind.i64 0, Value.int IntKind.i64 0, Value.int IntKind.i64 0] 46) →
    (Array.size vs = 5 ∧
    ((∀ k2 : Nat, (k2 < 5 →
     ((∃ v : Value, World.cell? W2 (Addr.mk k (0 + k2) none) = some v) ∧
     World.frozen? W2 (Addr.mk k (0 + k2) none) = false))) ∧
    ((∀ v2 : Value, (v2 ∈ Array.toList vs →
     Value.oneCell' v2 = true)) ∧
    (∀ W3 : World, (W3 = World.setCells W2 k 0 (Array.toList vs) →
    (∃ vs2 : Array Value, (Array.size vs2 = 5 ∧
    (Sx.cellsAt W3 (Addr.mk k 0 none) vs2 ∧
    Calls Tryd.prog 12 #[Value.agg vs2] W3 (fun e =>
     (fun W4 =>
     (∃ vs3 : Array Value, (e = Ending.returned (Value.agg vs3) ∧
     Calls Tryd.prog 7 #[Value.agg vs3] W4 (fun e2 =>
      (fun W5 =>
      (∃ p : Option Addr, (∃ v3 : Value, (e2 = Ending.returned (Value.tuple #[Value.pointer p, v3]) ∧
      (∃ vs4 : Array Value, (Array.size vs4 = 5 ∧
      (Sx.cellsAt W5 (Addr.mk k 0 none) vs4 ∧
      Calls Tryd.prog 13 #[Value.agg vs4] W5 (fun e3 =>
       (fun W6 =>
       (∃ p2 : Option Addr, (∃ z : Int, (e3 = Ending.returned (Value.tuple #[Value.pointer p2, Value.int IntKind.i64 z]) ∧
       Calls Tryd.prog 14 #[v3] W6 (fun e4 =>
        (fun W7 =>
        (∃ z2 : Int, (e4 = Ending.returned (Value.int IntKind.i64 z2) ∧
        Sx.split (z2 != z)
         (Q (Ending.returned (Value.bool false)) W7)
         (Sx.split (!Option.isNone p == Option.isNone p2)
           (Q (Ending.returned (Value.bool false)) W7)
           ((∃ I : World → Prop, ((∃ I2 : Int → Option Addr → Nat → Nat → World → Prop, (∃ I3 : Int → Option Addr → Nat → Nat → World → Nat, (I2 0 none 0 0 W7 ∧
             ((Nat →
             Value) →
             (∀ x : Int, (∀ x2 : Option Addr, (∀ k3 : Nat, (∀ k4 : Nat, (∀ W8 : World, (I2 x x2 k3 k4 W8 →
             Sx.split (decide (x < (↑a5n : Int)))
              (Sx.split (decide (x < 4096))
                (Sx.split (Option.isSome p)
                  ((∃ I4 : Option Addr → Nat → Nat → World → Prop, ((((0 : Int) ≤ x ∧
                     x < (↑a5n : Int)) ∧
                    Sx.adr a5 (fun k5 =>
                     (fun k6 =>
                     (∃ vs5 : Array Value, (Array.size vs5 = 9 ∧
                     (Sx.cellsAt W8 (Addr.mk k5 (k6 + Int.toNat x * 9) none) vs5 ∧
                     (∀ k7 : Nat, (∀ W9 : World, (k7 = Array.size (World.heap W8) →
                     (W9 = World.alloc W8 (Obj.cells #[Value.int IntKind.i64 0, Value.int IntKind.i64 0, Value.int IntKind.u32 0, Value.int IntKind.i64 0, Value.int IntKind.i64 0, Value.int IntKind.i64 0, Value.int IntKind.i64 0, Value.bool false, Value.int IntKind.u32 0] 55) →
                     (Array.size vs5 = 9 ∧
                     ((∀ k8 : Nat, (k8 < 9 →
                      ((∃ v4 : Value, World.cell? W9 (Addr.mk k7 (0 + k8) none) = some v4) ∧
                      World.frozen? W9 (Addr.mk k7 (0 + k8) none) = false))) ∧
                     ((∀ v5 : Value, (v5 ∈ Array.toList vs5 →
                      Value.oneCell' v5 = true)) ∧
                     (∀ W10 : World, (W10 = World.setCells W9 k7 0 (Array.toList vs5) →
                     (∃ vs6 : Array Value, (Array.size vs6 = 9 ∧
                     (Sx.cellsAt W10 (Addr.mk k7 0 none) vs6 ∧
                     Calls Tryd.prog 15 #[Value.agg vs6] W10 (fun e5 =>
                      (fun W11 =>
                      (∃ vs7 : Array Value, (∃ vs8 : Array Value, (e5 = Ending.returned (Value.tuple #[Value.agg vs7, Value.agg vs8]) ∧
                      (∀ k9 : Nat, (∀ W12 : World, (k9 = Array.size (World.heap W11) →
                      (W12 = World.alloc W11 (Obj.cells #[Value.int IntKind.i64 0, Value.int IntKind.i64 0, Value.int IntKind.i64 0, Value.int IntKind.i64 0, Value.int IntKind.i64 0] 33) →
                      (∀ k10 : Nat, (∀ W13 : World, (k10 = Array.size (World.heap W12) →
                      (W13 = World.alloc W12 (Obj.cells #[Value.int IntKind.i64 0, Value.int IntKind.i64 0, Value.int IntKind.i64 0, Value.int IntKind.i64 0] 57) →
                      (Array.size vs7 = 5 ∧
                      ((∀ k11 : Nat, (k11 < 5 →
                       ((∃ v6 : Value, World.cell? W13 (Addr.mk k9 (0 + k11) none) = some v6) ∧
                       World.frozen? W13 (Addr.mk k9 (0 + k11) none) = false))) ∧
                      ((∀ v7 : Value, (v7 ∈ Array.toList vs7 →
                       Value.oneCell' v7 = true)) ∧
                      (∀ W14 : World, (W14 = World.setCells W13 k9 0 (Array.toList vs7) →
                      (Array.size vs8 = 4 ∧
                      ((∀ k12 : Nat, (k12 < 4 →
                       ((∃ v8 : Value, World.cell? W14 (Addr.mk k10 (0 + k12) none) = some v8) ∧
                       World.frozen? W14 (Addr.mk k10 (0 + k12) none) = false))) ∧
                      ((∀ v9 : Value, (v9 ∈ Array.toList vs8 →
                       Value.oneCell' v9 = true)) ∧
                      (∀ W15 : World, (W15 = World.setCells W14 k10 0 (Array.toList vs8) →
                      (∃ z3 : Int, (World.cell? W15 (Addr.mk k7 0 none) = some (Value.int IntKind.i64 z3) ∧
                      Sx.split (z3 == 0)
                       ((∃ z4 : Int, (World.cell? W15 (Addr.mk k7 (0 + 2) none) = some (Value.int IntKind.u32 z4) ∧
                        (∃ vs9 : Array Value, (Array.size vs9 = 5 ∧
                        (Sx.cellsAt W15 (Addr.mk k9 0 none) vs9 ∧
                        Calls Tryd.prog 9 #[Value.pointer p, Value.int IntKind.u32 z4, Value.agg vs9] W15 (fun e6 =>
                         (fun W16 =>
                         (∃ z5 : Int, (∃ vs10 : Array Value, (e6 = Ending.returned (Value.tuple #[Value.int IntKind.u32 z5, Value.agg vs10]) ∧
                         (∀ k13 : Nat, (∀ W17 : World, (k13 = Array.size (World.heap W16) →
                         (W17 = World.alloc W16 (Obj.cells #[Value.int IntKind.i64 0, Value.int IntKind.i64 0, Value.int IntKind.u32 0] 37) →
                         (Array.size vs10 = 3 ∧
                         ((∀ k14 : Nat, (k14 < 3 →
                          ((∃ v10 : Value, World.cell? W17 (Addr.mk k13 (0 + k14) none) = some v10) ∧
                          World.frozen? W17 (Addr.mk k13 (0 + k14) none) = false))) ∧
                         ((∀ v11 : Value, (v11 ∈ Array.toList vs10 →
                          Value.oneCell' v11 = true)) ∧
                         (∀ W18 : World, (W18 = World.setCells W17 k13 0 (Array.toList vs10) →
                         (∃ z6 : Int, (World.cell? W18 (Addr.mk k7 (0 + 2) none) = some (Value.int IntKind.u32 z6) ∧
                         (∃ vs11 : Array Value, (Array.size vs11 = 4 ∧
                         (Sx.cellsAt W18 (Addr.mk k10 0 none) vs11 ∧
                         Calls Tryd.prog 16 #[Value.pointer p2, Value.int IntKind.u32 z6, Value.agg vs11] W18 (fun e7 =>
                          (fun W19 =>
                          (∃ z7 : Int, (∃ vs12 : Array Value, (e7 = Ending.returned (Value.tuple #[Value.int IntKind.u32 z7, Value.agg vs12]) ∧
                          (∀ k15 : Nat, (∀ W20 : World, (k15 = Array.size (World.heap W19) →
                          (W20 = World.alloc W19 (Obj.cells #[Value.int IntKind.i64 0, Value.int IntKind.i64 0, Value.int IntKind.u32 0] 60) →
                          (Array.size vs12 = 3 ∧
                          ((∀ k16 : Nat, (k16 < 3 →
                           ((∃ v12 : Value, World.cell? W20 (Addr.mk k15 (0 + k16) none) = some v12) ∧
                           World.frozen? W20 (Addr.mk k15 (0 + k16) none) = false))) ∧
                          ((∀ v13 : Value, (v13 ∈ Array.toList vs12 →
                           Value.oneCell' v13 = true)) ∧
                          (∀ W21 : World, (W21 = World.setCells W20 k15 0 (Array.toList vs12) →
                          (∀ W22 : World, (W22 = World.drew W21 →
                          Sx.split (z5 != z7)
                           ((RowKit.Below (Array.size (World.heap W22)) W22 W22 ∧
                            Q (Ending.returned (Value.bool false)) W22))
                           ((∃ vs13 : Array Value, (Array.size vs13 = 3 ∧
                            (Sx.cellsAt W22 (Addr.mk k13 0 none) vs13 ∧
                            (∃ vs14 : Array Value, (Array.size vs14 = 3 ∧
                            (Sx.cellsAt W22 (Addr.mk k15 0 none) vs14 ∧
                            Calls Tryd.prog 17 #[Value.agg vs13] W22 (fun e8 =>
                             (fun W23 =>
                             (∃ vs15 : Array Value, (e8 = Ending.returned (Value.agg vs15) ∧
                             (RowKit.Below (Array.size (World.heap W22)) W22 W23 ∧
                             (∃ t : Bool, ((∀ W24 : World, Sem.run Tryd.prog
    (do
      eqGuard BinOp.neq 60 (Operand.tmp 106) (Operand.tmp 107) (Value.agg vs15) (Value.agg vs14)
      binOp BinOp.neq 60 (Value.agg vs15) (Value.agg vs14))
    W24 =
  Result.ok (Value.bool t) W24) ∧
                             Sx.split t
                              (Q (Ending.returned (Value.bool false)) W23)
                              ((∃ vs16 : Array Value, (Array.size vs16 = 3 ∧
                               (Sx.cellsAt W23 (Addr.mk k13 0 none) vs16 ∧
                               (Array.size vs16 = 3 ∧
                               (∀ k17 : Nat, (∀ W25 : World, (k17 = Array.size (World.heap W23) →
                               (W25 = World.alloc W23 (Obj.cells (List.toArray (Array.toList vs16 ++ [])) 37) →
                               (∃ l : List Value, (∃ l2 : List Value, (XHeap.Sl W25 37 3 (Value.slice x2 k3 k4) k3 l ∧
                               (((((1 : Nat) = (0 : Nat) ∧
                                 some (Addr.mk k17 0 none) = none)) ∨
                                ((∃ a : Addr, (some (Addr.mk k17 0 none) = some a ∧
                                (∀ k18 : Nat, (∀ v14 : Value, (l2[k18]? = some v14 →
                                World.cell? W25 (Addr.add a k18) = some v14))))))) ∧
                               (List.length l2 = 3 ∧
                               ((∀ v15 : Value, (v15 ∈ l2 →
                                Value.oneCell' v15 = true)) ∧
                               (k3 + 1 ≤ maxLen ∧
                               ((k3 + 1) * 24 ≤ 140737488355328 ∧
                               (∀ p3 : Option Addr, (∀ k19 : Nat, (∀ W26 : World, (XHeap.Sl W26 37 3 (Value.slice p3 (k3 + 1) k19) (k3 + 1) (l ++ l2) →
                               (XHeap.XTouch (fun b => Value.ownBlock (Value.slice x2 k3 k4) = some b) W25 W26 →
                               ((∀ k20 : Nat, (Value.ownBlock (Value.slice p3 (k3 + 1) k19) = some k20 →
                               ((Value.ownBlock (Value.slice x2 k3 k4) = some k20) ∨
                               (Array.size (World.heap W25) ≤ k20)))) →
                               I4 p3 (k3 + 1) k19 W26))))))))))))))))))))))))))))))))))))))))))))))))))))))))))))))))))))))))))))))
                       ((∃ I5 : Bool → World → Prop, ((∃ z8 : Int, (World.cell? W15 (Addr.mk k7 0 none) = some (Value.int IntKind.i64 z8) ∧
                         Sx.split (z8 == 3)
                          (I5 true W15)
                          ((∃ z9 : Int, (World.cell? W15 (Addr.mk k7 0 none) = some (Value.int IntKind.i64 z9) ∧
                           I5 (z9 == 4) W15))))) ∧
                        ((Nat →
                        Value) →
                        (∀ x3 : Bool, (∀ W27 : World, (I5 x3 W27 →
                        (∃ I6 : Bool → World → Prop, (Sx.split (!x3)
                          (Sx.split ((↑k3 : Int) == 0)
                            (I6 true W27)
                            ((∃ z10 : Int, (World.cell? W27 (Addr.mk k7 (0 + 1) none) = some (Value.int IntKind.i64 z10) ∧
                             I6 (decide (z10 < 0)) W27))))
                          (I6 false W27) ∧
                        ((Nat →
                        Value) →
                        (∀ x4 : Bool, (∀ W28 : World, (I6 x4 W28 →
                        Sx.split x4
                         (I4 x2 k3 k4 W28)
                         ((∃ z11 : Int, (World.cell? W28 (Addr.mk k7 (0 + 1) none) = some (Value.int IntKind.i64 z11) ∧
                          (∃ z12 : Int, (World.cell? W28 (Addr.mk k7 (0 + 6) none) = some (Value.int IntKind.i64 z12) ∧
                          (∃ z13 : Int, (World.cell? W28 (Addr.mk k7 (0 + 8) none) = some (Value.int IntKind.u32 z13) ∧
                          (∀ vs17 : Array Value, (vs17 = #[Value.int IntKind.i64 z11, Value.int IntKind.i64 z12, Value.int IntKind.u32 z13] →
                          (∀ k21 : Nat, (∀ W29 : World, (k21 = Array.size (World.heap W28) →
                          (W29 = World.alloc W28 (Obj.cells #[Value.int IntKind.i64 0, Value.int IntKind.i64 0, Value.int IntKind.u32 0] 37) →
                          (Array.size vs17 = 3 ∧
                          ((∀ k22 : Nat, (k22 < 3 →
                           ((∃ v16 : Value, World.cell? W29 (Addr.mk k21 (0 + k22) none) = some v16) ∧
                           World.frozen? W29 (Addr.mk k21 (0 + k22) none) = false))) ∧
                          ((∀ v17 : Value, (v17 ∈ Array.toList vs17 →
                           Value.oneCell' v17 = true)) ∧
                          (∀ W30 : World, (W30 = World.setCells W29 k21 0 (Array.toList vs17) →
                          (∃ I7 : World → Prop, (Sx.split (!x3)
                            ((∀ z14 : Int, (z14 = IntKind.wrap IntKind.i64 ((↑k3 : Int) - 1) →
                             (∃ z15 : Int, (World.cell? W30 (Addr.mk k7 (0 + 1) none) = some (Value.int IntKind.i64 z15) ∧
                             ((↑k3 : Int) ≠ 0 ∧
                             (∀ z16 : Int, (z16 = Int.tmod z15 (↑k3 : Int) →
                             (∀ z17 : Int, (z17 = IntKind.wrap IntKind.i64 (z14 - z16) →
                             (((0 : Int) ≤ z17 ∧
                              z17 < (↑k3 : Int)) ∧
                             Sx.adr x2 (fun k23 =>
                              (fun k24 =>
                              (∃ vs18 : Array Value, (Array.size vs18 = 3 ∧
                              (Sx.cellsAt W30 (Addr.mk k23 (k24 + Int.toNat z17 * 3) none) vs18 ∧
                              (Array.size vs18 = 3 ∧
                              ((∀ k25 : Nat, (k25 < 3 →
                               ((∃ v18 : Value, World.cell? W30 (Addr.mk k21 (0 + k25) none) = some v18) ∧
                               World.frozen? W30 (Addr.mk k21 (0 + k25) none) = false))) ∧
                              ((∀ v19 : Value, (v19 ∈ Array.toList vs18 →
                               Value.oneCell' v19 = true)) ∧
                              (∀ W31 : World, (W31 = World.setCells W30 k21 0 (Array.toList vs18) →
                              I7 W31)))))))))))))))))))))
                            (I7 W30) ∧
                          ((Nat →
                          Value) →
                          (∀ W32 : World, (I7 W32 →
                          (∃ I8 : Bool → World → Prop, ((∃ z18 : Int, (World.cell? W32 (Addr.mk k7 0 none) = some (Value.int IntKind.i64 z18) ∧
                           Sx.split (z18 == 1)
                            (I8 true W32)
                            ((∃ z19 : Int, (World.cell? W32 (Addr.mk k7 0 none) = some (Value.int IntKind.i64 z19) ∧
                             I8 (z19 == 3) W32))))) ∧
                          ((Nat →
                          Value) →
                          (∀ x5 : Bool, (∀ W33 : World, (I8 x5 W33 →
                          Sx.split x5
                           ((∃ vs19 : Array Value, (Array.size vs19 = 3 ∧
                            (Sx.cellsAt W33 (Addr.mk k21 0 none) vs19 ∧
                            (∃ z20 : Int, (World.cell? W33 (Addr.mk k7 (0 + 2) none) = some (Value.int IntKind.u32 z20) ∧
                            (∃ vs20 : Array Value, (Array.size vs20 = 5 ∧
                            (Sx.cellsAt W33 (Addr.mk k9 0 none) vs20 ∧
                            (∃ t2 : Bool, (World.cell? W33 (Addr.mk k7 (0 + 7) none) = some (Value.bool t2) ∧
                            Calls Tryd.prog 10 #[Value.pointer p, Value.agg vs19, Value.int IntKind.u32 z20, Value.agg vs20, Value.bool t2] W33 (fun e9 =>
                             (fun W34 =>
                             (e9 = Ending.returned (Value.tuple #[]) ∧
                             (∀ W35 : World, (W35 = World.drew W34 →
                             (∃ vs21 : Array Value, (Array.size vs21 = 3 ∧
                             (Sx.cellsAt W35 (Addr.mk k21 0 none) vs21 ∧
                             (∃ z21 : Int, (World.cell? W35 (Addr.mk k7 (0 + 2) none) = some (Value.int IntKind.u32 z21) ∧
                             (∃ vs22 : Array Value, (Array.size vs22 = 4 ∧
                             (Sx.cellsAt W35 (Addr.mk k10 0 none) vs22 ∧
                             (∃ t3 : Bool, (World.cell? W35 (Addr.mk k7 (0 + 7) none) = some (Value.bool t3) ∧
                             Calls Tryd.prog 17 #[Value.agg vs21] W35 (fun e10 =>
                              (fun W36 =>
                              (∃ vs23 : Array Value, (e10 = Ending.returned (Value.agg vs23) ∧
                              (RowKit.Below (Array.size (World.heap W35)) W35 W36 ∧
                              Calls Tryd.prog 18 #[Value.pointer p2, Value.agg vs23, Value.int IntKind.u32 z21, Value.agg vs22, Value.bool t3] W36 (fun e11 =>
                               (fun W37 =>
                               (e11 = Ending.returned (Value.tuple #[]) ∧
                               I4 x2 k3 k4 W37))))))))))))))))))))))))))))))))))
                           ((∃ vs24 : Array Value, (Array.size vs24 = 3 ∧
                            (Sx.cellsAt W33 (Addr.mk k21 0 none) vs24 ∧
                            (∃ z22 : Int, (World.cell? W33 (Addr.mk k7 (0 + 2) none) = some (Value.int IntKind.u32 z22) ∧
                            (∃ vs25 : Array Value, (Array.size vs25 = 5 ∧
                            (Sx.cellsAt W33 (Addr.mk k9 0 none) vs25 ∧
                            (∃ t4 : Bool, (World.cell? W33 (Addr.mk k7 (0 + 7) none) = some (Value.bool t4) ∧
                            (∃ z23 : Int, (World.cell? W33 (Addr.mk k7 (0 + 8) none) = some (Value.int IntKind.u32 z23) ∧
                            Calls Tryd.prog 11 #[Value.pointer p, Value.agg vs24, Value.int IntKind.u32 z22, Value.agg vs25, Value.bool t4, Value.int IntKind.u32 z23] W33 (fun e12 =>
                             (fun W38 =>
                             (e12 = Ending.returned (Value.tuple #[]) ∧
                             (∀ W39 : World, (W39 = World.drew W38 →
                             (∃ vs26 : Array Value, (Array.size vs26 = 3 ∧
                             (Sx.cellsAt W39 (Addr.mk k21 0 none) vs26 ∧
                             (∃ z24 : Int, (World.cell? W39 (Addr.mk k7 (0 + 2) none) = some (Value.int IntKind.u32 z24) ∧
                             (∃ vs27 : Array Value, (Array.size vs27 = 4 ∧
                             (Sx.cellsAt W39 (Addr.mk k10 0 none) vs27 ∧
                             (∃ t5 : Bool, (World.cell? W39 (Addr.mk k7 (0 + 7) none) = some (Value.bool t5) ∧
                             (∃ z25 : Int, (World.cell? W39 (Addr.mk k7 (0 + 8) none) = some (Value.int IntKind.u32 z25) ∧
                             Calls Tryd.prog 17 #[Value.agg vs26] W39 (fun e13 =>
                              (fun W40 =>
                              (∃ vs28 : Array Value, (e13 = Ending.returned (Value.agg vs28) ∧
                              (RowKit.Below (Array.size (World.heap W39)) W39 W40 ∧
                              Calls Tryd.prog 19 #[Value.pointer p2, Value.agg vs28, Value.int IntKind.u32 z24, Value.agg vs27, Value.bool t5, Value.int IntKind.u32 z25] W40 (fun e14 =>
                               (fun W41 =>
                               (e14 = Ending.returned (Value.tuple #[]) ∧
                               I4 x2 k3 k4 W41))))))))))))))))))))))))))))))))))))))))))))))))))))))))))))))))))))))))))))))))))))))))))))))))))))))))))))))))))))))))))) ∧
                   ((Nat →
                   Value) →
                   (∀ x6 : Option Addr, (∀ k26 : Nat, (∀ k27 : Nat, (∀ W42 : World, (I4 x6 k26 k27 W42 →
                   (∀ z26 : Int, (z26 = IntKind.wrap IntKind.i64 (x + 1) →
                   (I2 z26 x6 k26 k27 W42 ∧
                   I3 z26 x6 k26 k27 W42 < I3 x x2 k3 k4 W8))))))))))))
                  (I W8))
                (I W8))
              (I W8))))))))))) ∧
            ((Nat →
            Value) →
            (∀ W43 : World, (I W43 →
            Q (Ending.returned (Value.bool true)) W43))))))))))))))))))))))))))))))))))))))))))) :
  Calls Tryd.prog 5 #[Value.int .i64 a0, Value.int .i64 a1, Value.int .i64 a2, Value.int .i64 a3, Value.int .i64 a4, Value.slice a5 a5n a5c] W Q :=
  Sx.sound Tryd.func5 (.node [] [] 0 .leaf (.node [] [] 0 .leaf (.node [] [] 0 .leaf (.node [] [] 0 .leaf (.node [] [] 0 .leaf (.node [] [] 0 .leaf (.node [] [] 0 .leaf (.node [] [] 1 (.node [] [] 0 .leaf (.node [] [] 0 (.node [(20, .int .i64), (19, .slice)] [5, 14, 16] 0 (.node [] [] 0 .leaf (.node [(19, .slice)] [20, 5, 14, 16] 1 (.node [] [] 0 (.node [] [] 0 .leaf (.node [] [] 0 .leaf (.node [] [] 0 (.node [] [] 0 .leaf (.node [] [] 0 (.node [] [] 0 .leaf (.node [] [] 0 .leaf (.node [] [] 0 (.node [] [] 0 (.node [] [] 1010 .leaf .leaf) .leaf) .leaf))) .leaf)) (.node [(28, .bool)] [19, 21, 20, 5, 14, 16, 22, 23] 1 .leaf (.node [] [] 0 (.node [(133, .bool)] [20, 5, 14, 16, 19, 21, 28, 22, 23] 1 .leaf .leaf) (.node [] [] 0 .leaf (.node [] [21, 14, 29, 22, 16, 23, 20, 5, 19] 1 .leaf (.node [(162, .bool)] [14, 29, 21, 22, 16, 23, 20, 5, 19] 1 .leaf (.node [] [] 0 (.node [] [] 0 .leaf (.node [] [] 1009 .leaf .leaf)) (.node [] [] 0 .leaf (.node [] [] 1011 .leaf .leaf))))))))))) .leaf) .leaf)) .leaf) .leaf)) .leaf)))))))) [Value.int .i64 a0, Value.int .i64 a1, Value.int .i64 a2, Value.int .i64 a3, Value.int .i64 a4, Value.slice a5 a5n a5c] rfl (Eq.mp (by kernel_rfl) h)
end Go.Proofs.YtgcakilmmeopaaaDoor
