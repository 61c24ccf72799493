/- What each function asks, reckoned out of its text; printed by a program of mine (wip/tpl/VcTool.lean). No condition. -/
import Derived.Test.YtgcakilmmeopaaaDoorSxB
import Derived.Test.YtgcakilmmeopaaaDoorChecked
namespace Go.Proofs.YtgcakilmmeopaaaDoor
open Go Go.Proofs
set_option linter.unusedVariables false
set_option maxRecDepth 100000
theorem vc12 {W : World} {Q : Ending → World → Prop} (g : Array Value)
  (h :
    (∀ k : Nat, (∀ W2 : World, (k = Array.size (World.heap W) →
    (W2 = World.alloc W (Obj.cells (Value.cells (Value.agg g)) 46) →
    (∀ k2 : Nat, (∀ W3 : World, (k2 = Array.size (World.heap W2) →
    (W3 = World.alloc W2 (Obj.cells #[Value.int IntKind.i64 0, Value.int IntKind.i64 0, Value.int IntKind.i64 0, Value.int IntKind.i64 0, Value.int IntKind.i64 0] 30) →
    (∃ z : Int, (World.cell? W3 (Addr.mk k 0 none) = some (Value.int IntKind.i64 z) ∧
    (∃ z2 : Int, (World.cell? W3 (Addr.mk k (0 + 1) none) = some (Value.int IntKind.i64 z2) ∧
    (∃ z3 : Int, (World.cell? W3 (Addr.mk k (0 + 2) none) = some (Value.int IntKind.i64 z3) ∧
    (∃ z4 : Int, (World.cell? W3 (Addr.mk k (0 + 3) none) = some (Value.int IntKind.i64 z4) ∧
    (∃ z5 : Int, (World.cell? W3 (Addr.mk k (0 + 4) none) = some (Value.int IntKind.i64 z5) ∧
    (∀ vs : Array Value, (vs = #[Value.int IntKind.i64 z, Value.int IntKind.i64 z2, Value.int IntKind.i64 z3, Value.int IntKind.i64 z4, Value.int IntKind.i64 z5] →
    (Array.size vs = 5 ∧
    ((∀ k3 : Nat, (k3 < 5 →
     ((∃ v : Value, World.cell? W3 (Addr.mk k2 (0 + k3) none) = some v) ∧
     World.frozen? W3 (Addr.mk k2 (0 + k3) none) = false))) ∧
    ((∀ v2 : Value, (v2 ∈ Array.toList vs →
     Value.oneCell' v2 = true)) ∧
    (∀ W4 : World, (W4 = World.setCells W3 k2 0 (Array.toList vs) →
    (∃ vs2 : Array Value, (Array.size vs2 = 5 ∧
    (Sx.cellsAt W4 (Addr.mk k2 0 none) vs2 ∧
    Q (Ending.returned (Value.agg vs2)) W4))))))))))))))))))))))))))))) :
  Calls Tryd.prog 12 #[Value.agg g] W Q :=
  Sx.sound Tryd.func12 .leaf [Value.agg g] rfl (Eq.mp (by kernel_rfl) h)
theorem vc13 {W : World} {Q : Ending → World → Prop} (a0 : Array Value)
  (h :
    (∀ k : Nat, (∀ W2 : World, (k = Array.size (World.heap W) →
    (W2 = World.alloc W (Obj.cells (Value.cells (Value.agg a0)) 46) →
    (∃ z : Int, (World.cell? W2 (Addr.mk k 0 none) = some (Value.int IntKind.i64 z) ∧
    Sx.split (decide (z < 0))
     (Q (Ending.returned (Value.tuple #[Value.pointer none, Value.int IntKind.i64 2])) W2)
     ((∃ z2 : Int, (World.cell? W2 (Addr.mk k 0 none) = some (Value.int IntKind.i64 z2) ∧
      Sx.split (decide (z2 > 3))
       (Q (Ending.returned (Value.tuple #[Value.pointer none, Value.int IntKind.i64 2])) W2)
       ((∃ z3 : Int, (World.cell? W2 (Addr.mk k (0 + 1) none) = some (Value.int IntKind.i64 z3) ∧
        Sx.split (decide (z3 < 1))
         (Q (Ending.returned (Value.tuple #[Value.pointer none, Value.int IntKind.i64 2])) W2)
         ((∃ z4 : Int, (World.cell? W2 (Addr.mk k (0 + 1) none) = some (Value.int IntKind.i64 z4) ∧
          Sx.split (decide (z4 > 10))
           (Q (Ending.returned (Value.tuple #[Value.pointer none, Value.int IntKind.i64 2])) W2)
           ((∃ z5 : Int, (World.cell? W2 (Addr.mk k (0 + 2) none) = some (Value.int IntKind.i64 z5) ∧
            Sx.split (decide (z5 < 0))
             (Q (Ending.returned (Value.tuple #[Value.pointer none, Value.int IntKind.i64 2])) W2)
             ((∃ z6 : Int, (World.cell? W2 (Addr.mk k (0 + 2) none) = some (Value.int IntKind.i64 z6) ∧
              (∃ z7 : Int, (World.cell? W2 (Addr.mk k (0 + 1) none) = some (Value.int IntKind.i64 z7) ∧
              Sx.split (decide (z6 > z7))
               (Q (Ending.returned (Value.tuple #[Value.pointer none, Value.int IntKind.i64 2])) W2)
               ((∃ z8 : Int, (World.cell? W2 (Addr.mk k (0 + 3) none) = some (Value.int IntKind.i64 z8) ∧
                Sx.split (decide (z8 < 0))
                 (Q (Ending.returned (Value.tuple #[Value.pointer none, Value.int IntKind.i64 2])) W2)
                 ((∃ z9 : Int, (World.cell? W2 (Addr.mk k (0 + 3) none) = some (Value.int IntKind.i64 z9) ∧
                  Sx.split (decide (z9 > 8))
                   (Q (Ending.returned (Value.tuple #[Value.pointer none, Value.int IntKind.i64 2])) W2)
                   ((∃ z10 : Int, (World.cell? W2 (Addr.mk k (0 + 4) none) = some (Value.int IntKind.i64 z10) ∧
                    Sx.split (decide (z10 < 1))
                     (Q (Ending.returned (Value.tuple #[Value.pointer none, Value.int IntKind.i64 2])) W2)
                     ((∃ z11 : Int, (World.cell? W2 (Addr.mk k (0 + 4) none) = some (Value.int IntKind.i64 z11) ∧
                      Sx.split (decide (z11 > 16))
                       (Q (Ending.returned (Value.tuple #[Value.pointer none, Value.int IntKind.i64 2])) W2)
                       ((∃ I : Option Addr → World → Prop, ((∀ W3 : World, (W3 = World.drew W2 →
                         (∃ vs : Array Value, (Array.size vs = 5 ∧
                         (Sx.cellsAt W3 (Addr.mk k 0 none) vs ∧
                         (∃ z12 : Int, (World.cell? W3 (Addr.mk k (0 + 1) none) = some (Value.int IntKind.i64 z12) ∧
                         ((0 : Int) ≤ z12 ∧
                         (∀ z13 : Int, (z13 = IntKind.wrap IntKind.i64 (1 * 2 ^ min (Int.toNat z12) (IntKind.bits IntKind.i64)) →
                         (∃ z14 : Int, (World.cell? W3 (Addr.mk k (0 + 3) none) = some (Value.int IntKind.i64 z14) ∧
                         ((0 : Int) ≤ z14 ∧
                         (∀ z15 : Int, (z15 = IntKind.wrap IntKind.i64 (1 * 2 ^ min (Int.toNat z14) (IntKind.bits IntKind.i64)) →
                         (∃ z16 : Int, (World.cell? W3 (Addr.mk k (0 + 4) none) = some (Value.int IntKind.i64 z16) ∧
                         ((((0 : Int) ≤ z13 ∧
                           (z13 ≤ z13 ∧
                           (z13 ≤ 9223372036854775807 ∧
                           (↑8 : Int) * z13 ≤ 281474976710656))) ∧
                          (∀ k2 : Nat, (∀ W4 : World, (k2 = Array.size (World.heap W3) →
                          (W4 = World.alloc W3 (Obj.cells (madeCells #[Value.int IntKind.i64 0] (Int.toNat z13 * 1)) 3) →
                          (RowKit.Below (Array.size (World.heap W3)) W3 W4 ∧
                          ((((0 : Int) ≤ z15 ∧
                            (z15 ≤ z15 ∧
                            (z15 ≤ 9223372036854775807 ∧
                            (↑12 : Int) * z15 ≤ 281474976710656))) ∧
                           (∀ k3 : Nat, (∀ W5 : World, (k3 = Array.size (World.heap W4) →
                           (W5 = World.alloc W4 (Obj.cells (madeCells #[Value.bool false, Value.int IntKind.u32 0, Value.int IntKind.u32 0] (Int.toNat z15 * 3)) 99) →
                           (RowKit.Below (Array.size (World.heap W3)) W3 W5 ∧
                           (((0 : Int) ≤ z16 ∧
                            (z16 ≤ z16 ∧
                            (z16 ≤ 9223372036854775807 ∧
                            (↑4 : Int) * z16 ≤ 281474976710656))) ∧
                           (∀ k4 : Nat, (∀ W6 : World, (k4 = Array.size (World.heap W5) →
                           (W6 = World.alloc W5 (Obj.cells (madeCells #[Value.int IntKind.u32 0] (Int.toNat z16 * 1)) 35) →
                           (RowKit.Below (Array.size (World.heap W3)) W3 W6 ∧
                           (Array.size vs = 5 ∧
                           (∀ vs2 : Array Value, (vs2 = List.toArray (Array.toList vs ++ [Value.int IntKind.i64 0, Value.slice (some (Addr.mk k2 0 none)) (Int.toNat z13) (Int.toNat z13), Value.slice (some (Addr.mk k3 0 none)) (Int.toNat z15) (Int.toNat z15), Value.slice (some (Addr.mk k4 0 none)) (Int.toNat z16) (Int.toNat z16), Value.int IntKind.i64 0]) →
                           (∀ k5 : Nat, (∀ W7 : World, (k5 = Array.size (World.heap W6) →
                           (W7 = World.alloc W6 (Obj.cells (Value.cells (Value.agg vs2)) 94) →
                           (RowKit.Below (Array.size (World.heap W3)) W3 W7 ∧
                           I (some (Addr.mk k5 0 none)) W7)))))))))))))))))))) ∧
                          (((0 : Int) ≤ z16 ∧
                           (z16 ≤ z16 ∧
                           (z16 ≤ 9223372036854775807 ∧
                           (↑4 : Int) * z16 ≤ 281474976710656))) ∧
                          (∀ k6 : Nat, (∀ W8 : World, (k6 = Array.size (World.heap W4) →
                          (W8 = World.alloc W4 (Obj.cells (madeCells #[Value.int IntKind.u32 0] (Int.toNat z16 * 1)) 35) →
                          (RowKit.Below (Array.size (World.heap W3)) W3 W8 ∧
                          (((0 : Int) ≤ z15 ∧
                           (z15 ≤ z15 ∧
                           (z15 ≤ 9223372036854775807 ∧
                           (↑12 : Int) * z15 ≤ 281474976710656))) ∧
                          (∀ k7 : Nat, (∀ W9 : World, (k7 = Array.size (World.heap W8) →
                          (W9 = World.alloc W8 (Obj.cells (madeCells #[Value.bool false, Value.int IntKind.u32 0, Value.int IntKind.u32 0] (Int.toNat z15 * 3)) 99) →
                          (RowKit.Below (Array.size (World.heap W3)) W3 W9 ∧
                          (Array.size vs = 5 ∧
                          (∀ vs3 : Array Value, (vs3 = List.toArray (Array.toList vs ++ [Value.int IntKind.i64 0, Value.slice (some (Addr.mk k2 0 none)) (Int.toNat z13) (Int.toNat z13), Value.slice (some (Addr.mk k7 0 none)) (Int.toNat z15) (Int.toNat z15), Value.slice (some (Addr.mk k6 0 none)) (Int.toNat z16) (Int.toNat z16), Value.int IntKind.i64 0]) →
                          (∀ k8 : Nat, (∀ W10 : World, (k8 = Array.size (World.heap W9) →
                          (W10 = World.alloc W9 (Obj.cells (Value.cells (Value.agg vs3)) 94) →
                          (RowKit.Below (Array.size (World.heap W3)) W3 W10 ∧
                          I (some (Addr.mk k8 0 none)) W10))))))))))))))))))))))))))) ∧
                         ((((0 : Int) ≤ z15 ∧
                           (z15 ≤ z15 ∧
                           (z15 ≤ 9223372036854775807 ∧
                           (↑12 : Int) * z15 ≤ 281474976710656))) ∧
                          (∀ k9 : Nat, (∀ W11 : World, (k9 = Array.size (World.heap W3) →
                          (W11 = World.alloc W3 (Obj.cells (madeCells #[Value.bool false, Value.int IntKind.u32 0, Value.int IntKind.u32 0] (Int.toNat z15 * 3)) 99) →
                          (RowKit.Below (Array.size (World.heap W3)) W3 W11 ∧
                          ((((0 : Int) ≤ z13 ∧
                            (z13 ≤ z13 ∧
                            (z13 ≤ 9223372036854775807 ∧
                            (↑8 : Int) * z13 ≤ 281474976710656))) ∧
                           (∀ k10 : Nat, (∀ W12 : World, (k10 = Array.size (World.heap W11) →
                           (W12 = World.alloc W11 (Obj.cells (madeCells #[Value.int IntKind.i64 0] (Int.toNat z13 * 1)) 3) →
                           (RowKit.Below (Array.size (World.heap W3)) W3 W12 ∧
                           (((0 : Int) ≤ z16 ∧
                            (z16 ≤ z16 ∧
                            (z16 ≤ 9223372036854775807 ∧
                            (↑4 : Int) * z16 ≤ 281474976710656))) ∧
                           (∀ k11 : Nat, (∀ W13 : World, (k11 = Array.size (World.heap W12) →
                           (W13 = World.alloc W12 (Obj.cells (madeCells #[Value.int IntKind.u32 0] (Int.toNat z16 * 1)) 35) →
                           (RowKit.Below (Array.size (World.heap W3)) W3 W13 ∧
                           (Array.size vs = 5 ∧
                           (∀ vs4 : Array Value, (vs4 = List.toArray (Array.toList vs ++ [Value.int IntKind.i64 0, Value.slice (some (Addr.mk k10 0 none)) (Int.toNat z13) (Int.toNat z13), Value.slice (some (Addr.mk k9 0 none)) (Int.toNat z15) (Int.toNat z15), Value.slice (some (Addr.mk k11 0 none)) (Int.toNat z16) (Int.toNat z16), Value.int IntKind.i64 0]) →
                           (∀ k12 : Nat, (∀ W14 : World, (k12 = Array.size (World.heap W13) →
                           (W14 = World.alloc W13 (Obj.cells (Value.cells (Value.agg vs4)) 94) →
                           (RowKit.Below (Array.size (World.heap W3)) W3 W14 ∧
                           I (some (Addr.mk k12 0 none)) W14)))))))))))))))))))) ∧
                          (((0 : Int) ≤ z16 ∧
                           (z16 ≤ z16 ∧
                           (z16 ≤ 9223372036854775807 ∧
                           (↑4 : Int) * z16 ≤ 281474976710656))) ∧
                          (∀ k13 : Nat, (∀ W15 : World, (k13 = Array.size (World.heap W11) →
                          (W15 = World.alloc W11 (Obj.cells (madeCells #[Value.int IntKind.u32 0] (Int.toNat z16 * 1)) 35) →
                          (RowKit.Below (Array.size (World.heap W3)) W3 W15 ∧
                          (((0 : Int) ≤ z13 ∧
                           (z13 ≤ z13 ∧
                           (z13 ≤ 9223372036854775807 ∧
                           (↑8 : Int) * z13 ≤ 281474976710656))) ∧
                          (∀ k14 : Nat, (∀ W16 : World, (k14 = Array.size (World.heap W15) →
                          (W16 = World.alloc W15 (Obj.cells (madeCells #[Value.int IntKind.i64 0] (Int.toNat z13 * 1)) 3) →
                          (RowKit.Below (Array.size (World.heap W3)) W3 W16 ∧
                          (Array.size vs = 5 ∧
                          (∀ vs5 : Array Value, (vs5 = List.toArray (Array.toList vs ++ [Value.int IntKind.i64 0, Value.slice (some (Addr.mk k14 0 none)) (Int.toNat z13) (Int.toNat z13), Value.slice (some (Addr.mk k9 0 none)) (Int.toNat z15) (Int.toNat z15), Value.slice (some (Addr.mk k13 0 none)) (Int.toNat z16) (Int.toNat z16), Value.int IntKind.i64 0]) →
                          (∀ k15 : Nat, (∀ W17 : World, (k15 = Array.size (World.heap W16) →
                          (W17 = World.alloc W16 (Obj.cells (Value.cells (Value.agg vs5)) 94) →
                          (RowKit.Below (Array.size (World.heap W3)) W3 W17 ∧
                          I (some (Addr.mk k15 0 none)) W17))))))))))))))))))))))))))) ∧
                         (((0 : Int) ≤ z16 ∧
                          (z16 ≤ z16 ∧
                          (z16 ≤ 9223372036854775807 ∧
                          (↑4 : Int) * z16 ≤ 281474976710656))) ∧
                         (∀ k16 : Nat, (∀ W18 : World, (k16 = Array.size (World.heap W3) →
                         (W18 = World.alloc W3 (Obj.cells (madeCells #[Value.int IntKind.u32 0] (Int.toNat z16 * 1)) 35) →
                         (RowKit.Below (Array.size (World.heap W3)) W3 W18 ∧
                         ((((0 : Int) ≤ z13 ∧
                           (z13 ≤ z13 ∧
                           (z13 ≤ 9223372036854775807 ∧
                           (↑8 : Int) * z13 ≤ 281474976710656))) ∧
                          (∀ k17 : Nat, (∀ W19 : World, (k17 = Array.size (World.heap W18) →
                          (W19 = World.alloc W18 (Obj.cells (madeCells #[Value.int IntKind.i64 0] (Int.toNat z13 * 1)) 3) →
                          (RowKit.Below (Array.size (World.heap W3)) W3 W19 ∧
                          (((0 : Int) ≤ z15 ∧
                           (z15 ≤ z15 ∧
                           (z15 ≤ 9223372036854775807 ∧
                           (↑12 : Int) * z15 ≤ 281474976710656))) ∧
                          (∀ k18 : Nat, (∀ W20 : World, (k18 = Array.size (World.heap W19) →
                          (W20 = World.alloc W19 (Obj.cells (madeCells #[Value.bool false, Value.int IntKind.u32 0, Value.int IntKind.u32 0] (Int.toNat z15 * 3)) 99) →
                          (RowKit.Below (Array.size (World.heap W3)) W3 W20 ∧
                          (Array.size vs = 5 ∧
                          (∀ vs6 : Array Value, (vs6 = List.toArray (Array.toList vs ++ [Value.int IntKind.i64 0, Value.slice (some (Addr.mk k17 0 none)) (Int.toNat z13) (Int.toNat z13), Value.slice (some (Addr.mk k18 0 none)) (Int.toNat z15) (Int.toNat z15), Value.slice (some (Addr.mk k16 0 none)) (Int.toNat z16) (Int.toNat z16), Value.int IntKind.i64 0]) →
                          (∀ k19 : Nat, (∀ W21 : World, (k19 = Array.size (World.heap W20) →
                          (W21 = World.alloc W20 (Obj.cells (Value.cells (Value.agg vs6)) 94) →
                          (RowKit.Below (Array.size (World.heap W3)) W3 W21 ∧
                          I (some (Addr.mk k19 0 none)) W21)))))))))))))))))))) ∧
                         (((0 : Int) ≤ z15 ∧
                          (z15 ≤ z15 ∧
                          (z15 ≤ 9223372036854775807 ∧
                          (↑12 : Int) * z15 ≤ 281474976710656))) ∧
                         (∀ k20 : Nat, (∀ W22 : World, (k20 = Array.size (World.heap W18) →
                         (W22 = World.alloc W18 (Obj.cells (madeCells #[Value.bool false, Value.int IntKind.u32 0, Value.int IntKind.u32 0] (Int.toNat z15 * 3)) 99) →
                         (RowKit.Below (Array.size (World.heap W3)) W3 W22 ∧
                         (((0 : Int) ≤ z13 ∧
                          (z13 ≤ z13 ∧
                          (z13 ≤ 9223372036854775807 ∧
                          (↑8 : Int) * z13 ≤ 281474976710656))) ∧
                         (∀ k21 : Nat, (∀ W23 : World, (k21 = Array.size (World.heap W22) →
                         (W23 = World.alloc W22 (Obj.cells (madeCells #[Value.int IntKind.i64 0] (Int.toNat z13 * 1)) 3) →
                         (RowKit.Below (Array.size (World.heap W3)) W3 W23 ∧
                         (Array.size vs = 5 ∧
                         (∀ vs7 : Array Value, (vs7 = List.toArray (Array.toList vs ++ [Value.int IntKind.i64 0, Value.slice (some (Addr.mk k21 0 none)) (Int.toNat z13) (Int.toNat z13), Value.slice (some (Addr.mk k20 0 none)) (Int.toNat z15) (Int.toNat z15), Value.slice (some (Addr.mk k16 0 none)) (Int.toNat z16) (Int.toNat z16), Value.int IntKind.i64 0]) →
                         (∀ k22 : Nat, (∀ W24 : World, (k22 = Array.size (World.heap W23) →
                         (W24 = World.alloc W23 (Obj.cells (Value.cells (Value.agg vs7)) 94) →
                         (RowKit.Below (Array.size (World.heap W3)) W3 W24 ∧
                         I (some (Addr.mk k22 0 none)) W24)))))))))))))))))))))))))))))))))))))))))))))) ∧
                        ((Nat →
                        Value) →
                        (∀ x : Option Addr, (∀ W25 : World, (I x W25 →
                        (∃ I2 : Int → World → Prop, (∃ I3 : Int → World → Nat, (I2 0 W25 ∧
                        ((Nat →
                        Value) →
                        (∀ x2 : Int, (∀ W26 : World, (I2 x2 W26 →
                        Sx.ptr x (fun a =>
                         (∃ p : Option Addr, (∃ k23 : Nat, (∃ k24 : Nat, (World.cell? W26 (Addr.add a 6) = some (Value.slice p k23 k24) ∧
                         Sx.split (decide (x2 < (↑k23 : Int)))
                          (Sx.ptr x (fun a2 =>
                            (∃ p2 : Option Addr, (∃ k25 : Nat, (∃ k26 : Nat, (World.cell? W26 (Addr.add a2 6) = some (Value.slice p2 k25 k26) ∧
                            (((0 : Int) ≤ x2 ∧
                             x2 < (↑k25 : Int)) ∧
                            Sx.adr p2 (fun k27 =>
                             (fun k28 =>
                             ((∃ v : Value, World.cell? W26 (Addr.mk k27 (k28 + Int.toNat x2 * 1) none) = some v) ∧
                             (World.frozen? W26 (Addr.mk k27 (k28 + Int.toNat x2 * 1) none) = false ∧
                             (∀ W27 : World, (W27 = World.setCell W26 (Addr.mk k27 (k28 + Int.toNat x2 * 1) none) (Value.int IntKind.i64 1) →
                             (∀ z17 : Int, (z17 = IntKind.wrap IntKind.i64 (x2 + 1) →
                             (I2 z17 W27 ∧
                             I3 z17 W27 < I3 x2 W26))))))))))))))))
                          (Q (Ending.returned (Value.tuple #[Value.pointer x, Value.int IntKind.i64 0])) W26)))))))))))))))))))))))))))))))))))))))))))))))))))))))) :
  Calls Tryd.prog 13 #[Value.agg a0] W Q :=
  Sx.sound Tryd.func13 (.node [] [] 0 .leaf (.node [] [] 0 .leaf (.node [(4, .ptr)] [] 1 (.node [] [] 1016 .leaf .leaf) (.node [] [] 0 (.node [] [] 0 .leaf (.node [] [] 0 (.node [(5, .int .i64)] [4] 0 .leaf .leaf) .leaf)) .leaf)))) [Value.agg a0] rfl (Eq.mp (by kernel_rfl) h)
theorem vc15 {W : World} {Q : Ending → World → Prop} (o : Array Value)
  (h :
    (∀ k : Nat, (∀ W2 : World, (k = Array.size (World.heap W) →
    (W2 = World.alloc W (Obj.cells (Value.cells (Value.agg o)) 55) →
    (∀ k2 : Nat, (∀ W3 : World, (k2 = Array.size (World.heap W2) →
    (W3 = World.alloc W2 (Obj.cells #[Value.int IntKind.i64 0, Value.int IntKind.i64 0, Value.int IntKind.i64 0, Value.int IntKind.i64 0, Value.int IntKind.i64 0] 33) →
    (∀ k3 : Nat, (∀ W4 : World, (k3 = Array.size (World.heap W3) →
    (W4 = World.alloc W3 (Obj.cells #[Value.int IntKind.i64 0, Value.int IntKind.i64 0, Value.int IntKind.i64 0, Value.int IntKind.i64 0] 57) →
    (∃ z : Int, (World.cell? W4 (Addr.mk k (0 + 4) none) = some (Value.int IntKind.i64 z) ∧
    (∃ z2 : Int, (World.cell? W4 (Addr.mk k (0 + 5) none) = some (Value.int IntKind.i64 z2) ∧
    (∃ z3 : Int, (World.cell? W4 (Addr.mk k (0 + 6) none) = some (Value.int IntKind.i64 z3) ∧
    (∀ vs : Array Value, (vs = #[Value.int IntKind.i64 28, Value.int IntKind.i64 z, Value.int IntKind.i64 z2, Value.int IntKind.i64 0, Value.int IntKind.i64 z3] →
    (∀ k4 : Nat, (∀ W5 : World, (k4 = Array.size (World.heap W4) →
    (W5 = World.alloc W4 (Obj.cells #[Value.int IntKind.i64 0, Value.int IntKind.i64 0, Value.int IntKind.i64 0, Value.int IntKind.i64 0, Value.int IntKind.i64 0] 33) →
    (Array.size vs = 5 ∧
    ((∀ k5 : Nat, (k5 < 5 →
     ((∃ v : Value, World.cell? W5 (Addr.mk k4 (0 + k5) none) = some v) ∧
     World.frozen? W5 (Addr.mk k4 (0 + k5) none) = false))) ∧
    ((∀ v2 : Value, (v2 ∈ Array.toList vs →
     Value.oneCell' v2 = true)) ∧
    (∀ W6 : World, (W6 = World.setCells W5 k4 0 (Array.toList vs) →
    (∃ z4 : Int, (World.cell? W6 (Addr.mk k (0 + 4) none) = some (Value.int IntKind.i64 z4) ∧
    (∃ z5 : Int, (World.cell? W6 (Addr.mk k (0 + 5) none) = some (Value.int IntKind.i64 z5) ∧
    (∃ z6 : Int, (World.cell? W6 (Addr.mk k (0 + 6) none) = some (Value.int IntKind.i64 z6) ∧
    (∀ vs2 : Array Value, (vs2 = #[Value.int IntKind.i64 0, Value.int IntKind.i64 z4, Value.int IntKind.i64 z5, Value.int IntKind.i64 z6] →
    (∀ k6 : Nat, (∀ W7 : World, (k6 = Array.size (World.heap W6) →
    (W7 = World.alloc W6 (Obj.cells #[Value.int IntKind.i64 0, Value.int IntKind.i64 0, Value.int IntKind.i64 0, Value.int IntKind.i64 0] 57) →
    (Array.size vs2 = 4 ∧
    ((∀ k7 : Nat, (k7 < 4 →
     ((∃ v3 : Value, World.cell? W7 (Addr.mk k6 (0 + k7) none) = some v3) ∧
     World.frozen? W7 (Addr.mk k6 (0 + k7) none) = false))) ∧
    ((∀ v4 : Value, (v4 ∈ Array.toList vs2 →
     Value.oneCell' v4 = true)) ∧
    (∀ W8 : World, (W8 = World.setCells W7 k6 0 (Array.toList vs2) →
    (∃ I : World → Prop, ((∃ z7 : Int, (World.cell? W8 (Addr.mk k (0 + 3) none) = some (Value.int IntKind.i64 z7) ∧
     Sx.split (z7 == 1)
      (((∃ v5 : Value, World.cell? W8 (Addr.mk k4 0 none) = some v5) ∧
       (World.frozen? W8 (Addr.mk k4 0 none) = false ∧
       (∀ W9 : World, (W9 = World.setCell W8 (Addr.mk k4 0 none) (Value.int IntKind.i64 8) →
       ((∃ v6 : Value, World.cell? W9 (Addr.mk k6 0 none) = some v6) ∧
       (World.frozen? W9 (Addr.mk k6 0 none) = false ∧
       (∀ W10 : World, (W10 = World.setCell W9 (Addr.mk k6 0 none) (Value.int IntKind.i64 1) →
       I W10)))))))))
      (Sx.split (z7 == 2)
        (((∃ v7 : Value, World.cell? W8 (Addr.mk k4 0 none) = some v7) ∧
         (World.frozen? W8 (Addr.mk k4 0 none) = false ∧
         (∀ W11 : World, (W11 = World.setCell W8 (Addr.mk k4 0 none) (Value.int IntKind.i64 3) →
         ((∃ v8 : Value, World.cell? W11 (Addr.mk k6 0 none) = some v8) ∧
         (World.frozen? W11 (Addr.mk k6 0 none) = false ∧
         (∀ W12 : World, (W12 = World.setCell W11 (Addr.mk k6 0 none) (Value.int IntKind.i64 2) →
         I W12)))))))))
        (Sx.split (z7 == 3)
          (((∃ v9 : Value, World.cell? W8 (Addr.mk k4 0 none) = some v9) ∧
           (World.frozen? W8 (Addr.mk k4 0 none) = false ∧
           (∀ W13 : World, (W13 = World.setCell W8 (Addr.mk k4 0 none) (Value.int IntKind.i64 4) →
           ((∃ v10 : Value, World.cell? W13 (Addr.mk k6 0 none) = some v10) ∧
           (World.frozen? W13 (Addr.mk k6 0 none) = false ∧
           (∀ W14 : World, (W14 = World.setCell W13 (Addr.mk k6 0 none) (Value.int IntKind.i64 3) →
           I W14)))))))))
          (I W8))))) ∧
    ((Nat →
    Value) →
    (∀ W15 : World, (I W15 →
    (∀ W16 : World, (W16 = World.drew W15 →
    (∃ vs3 : Array Value, (Array.size vs3 = 5 ∧
    (Sx.cellsAt W16 (Addr.mk k4 0 none) vs3 ∧
    ((∃ vs4 : Array Value, (Array.size vs4 = 4 ∧
     (Sx.cellsAt W16 (Addr.mk k6 0 none) vs4 ∧
     (RowKit.Below (Array.size (World.heap W16)) W16 W16 ∧
     (Array.size vs3 = 5 ∧
     ((∀ k8 : Nat, (k8 < 5 →
      ((∃ v11 : Value, World.cell? W16 (Addr.mk k2 (0 + k8) none) = some v11) ∧
      World.frozen? W16 (Addr.mk k2 (0 + k8) none) = false))) ∧
     ((∀ v12 : Value, (v12 ∈ Array.toList vs3 →
      Value.oneCell' v12 = true)) ∧
     (∀ W17 : World, (W17 = World.setCells W16 k2 0 (Array.toList vs3) →
     (Array.size vs4 = 4 ∧
     ((∀ k9 : Nat, (k9 < 4 →
      ((∃ v13 : Value, World.cell? W17 (Addr.mk k3 (0 + k9) none) = some v13) ∧
      World.frozen? W17 (Addr.mk k3 (0 + k9) none) = false))) ∧
     ((∀ v14 : Value, (v14 ∈ Array.toList vs4 →
      Value.oneCell' v14 = true)) ∧
     (∀ W18 : World, (W18 = World.setCells W17 k3 0 (Array.toList vs4) →
     (∃ vs5 : Array Value, (Array.size vs5 = 5 ∧
     (Sx.cellsAt W18 (Addr.mk k2 0 none) vs5 ∧
     (∃ vs6 : Array Value, (Array.size vs6 = 4 ∧
     (Sx.cellsAt W18 (Addr.mk k3 0 none) vs6 ∧
     Q (Ending.returned (Value.tuple #[Value.agg vs5, Value.agg vs6])) W18)))))))))))))))))))) ∧
    (Array.size vs3 = 5 ∧
    ((∀ k10 : Nat, (k10 < 5 →
     ((∃ v15 : Value, World.cell? W16 (Addr.mk k2 (0 + k10) none) = some v15) ∧
     World.frozen? W16 (Addr.mk k2 (0 + k10) none) = false))) ∧
    ((∀ v16 : Value, (v16 ∈ Array.toList vs3 →
     Value.oneCell' v16 = true)) ∧
    (∀ W19 : World, (W19 = World.setCells W16 k2 0 (Array.toList vs3) →
    (∃ vs7 : Array Value, (Array.size vs7 = 4 ∧
    (Sx.cellsAt W19 (Addr.mk k6 0 none) vs7 ∧
    (Array.size vs7 = 4 ∧
    ((∀ k11 : Nat, (k11 < 4 →
     ((∃ v17 : Value, World.cell? W19 (Addr.mk k3 (0 + k11) none) = some v17) ∧
     World.frozen? W19 (Addr.mk k3 (0 + k11) none) = false))) ∧
    ((∀ v18 : Value, (v18 ∈ Array.toList vs7 →
     Value.oneCell' v18 = true)) ∧
    (∀ W20 : World, (W20 = World.setCells W19 k3 0 (Array.toList vs7) →
    (∃ vs8 : Array Value, (Array.size vs8 = 5 ∧
    (Sx.cellsAt W20 (Addr.mk k2 0 none) vs8 ∧
    (∃ vs9 : Array Value, (Array.size vs9 = 4 ∧
    (Sx.cellsAt W20 (Addr.mk k3 0 none) vs9 ∧
    Q (Ending.returned (Value.tuple #[Value.agg vs8, Value.agg vs9])) W20))))))))))))))))))))))))))))))))))))))))))))))))))))))))))))))))))))))))))))) :
  Calls Tryd.prog 15 #[Value.agg o] W Q :=
  Sx.sound Tryd.func15 (.node [] [] 0 .leaf (.node [] [] 0 .leaf (.node [] [] 0 .leaf (.node [] [4, 5, 2, 3] 1 .leaf (.node [] [] 0 (.node [] [] 1003 .leaf .leaf) .leaf))))) [Value.agg o] rfl (Eq.mp (by kernel_rfl) h)
theorem vc16 {W : World} {Q : Ending → World → Prop} (a0 : Nat) (a0o : Nat) (a1 : Int) (a2 : Array Value)
  (h :
    (∀ k : Nat, (∀ W2 : World, (k = Array.size (World.heap W) →
    (W2 = World.alloc W (Obj.cells (Value.cells (Value.agg a2)) 57) →
    (∀ k2 : Nat, (∀ W3 : World, (k2 = Array.size (World.heap W2) →
    (W3 = World.alloc W2 (Obj.cells #[Value.int IntKind.i64 0, Value.int IntKind.i64 0, Value.int IntKind.u32 0] 60) →
    (∀ W4 : World, (W4 = World.drew W3 →
    (∃ z : Int, (World.cell? W4 (Addr.mk a0 (a0o + 5) none) = some (Value.int IntKind.i64 z) ∧
    (∃ z2 : Int, (World.cell? W4 (Addr.mk a0 (a0o + 9) none) = some (Value.int IntKind.i64 z2) ∧
    (∃ p : Option Addr, (∃ k3 : Nat, (∃ k4 : Nat, (World.cell? W4 (Addr.mk a0 (a0o + 8) none) = some (Value.slice p k3 k4) ∧
    (∃ z3 : Int, (World.cell? W4 (Addr.mk a0 (a0o + 9) none) = some (Value.int IntKind.i64 z3) ∧
    (((0 : Int) ≤ z3 ∧
     z3 < (↑k3 : Int)) ∧
    Sx.adr p (fun k5 =>
     (fun k6 =>
     (∃ z4 : Int, (World.cell? W4 (Addr.mk k5 (k6 + Int.toNat z3 * 1) none) = some (Value.int IntKind.u32 z4) ∧
     (∀ vs : Array Value, (vs = #[Value.int IntKind.i64 z, Value.int IntKind.i64 z2, Value.int IntKind.u32 z4] →
     (∀ k7 : Nat, (∀ W5 : World, (k7 = Array.size (World.heap W4) →
     (W5 = World.alloc W4 (Obj.cells #[Value.int IntKind.i64 0, Value.int IntKind.i64 0, Value.int IntKind.u32 0] 60) →
     (RowKit.Below (Array.size (World.heap W4)) W4 W5 ∧
     (Array.size vs = 3 ∧
     ((∀ k8 : Nat, (k8 < 3 →
      ((∃ v : Value, World.cell? W5 (Addr.mk k7 (0 + k8) none) = some v) ∧
      World.frozen? W5 (Addr.mk k7 (0 + k8) none) = false))) ∧
     ((∀ v2 : Value, (v2 ∈ Array.toList vs →
      Value.oneCell' v2 = true)) ∧
     (∀ W6 : World, (W6 = World.setCells W5 k7 0 (Array.toList vs) →
     (∀ z5 : Int, (z5 = IntKind.wrap IntKind.u32 (a1 + 4) →
     (∃ I : Bool → Int → World → Prop, ((∃ z6 : Int, (World.cell? W6 (Addr.mk k 0 none) = some (Value.int IntKind.i64 z6) ∧
      Sx.split (z6 == 1)
       ((∃ I2 : Bool → World → Prop, ((∃ z7 : Int, (World.cell? W6 (Addr.mk a0 a0o none) = some (Value.int IntKind.i64 z7) ∧
         Sx.split (z7 == 1)
          ((∃ z8 : Int, (World.cell? W6 (Addr.mk k (0 + 3) none) = some (Value.int IntKind.i64 z8) ∧
           I2 (decide (z8 < 0)) W6)))
          ((∃ I3 : Bool → World → Prop, (Sx.split (z7 == 2)
             (I3 true W6)
             (I3 (z7 == 3) W6) ∧
           ((Nat →
           Value) →
           (∀ x : Bool, (∀ W7 : World, (I3 x W7 →
           Sx.split x
            ((∃ z9 : Int, (World.cell? W7 (Addr.mk a0 (a0o + 5) none) = some (Value.int IntKind.i64 z9) ∧
             Calls Tryd.prog 28 #[Value.pointer (some (Addr.mk a0 a0o none)), Value.int IntKind.u32 a1, Value.int IntKind.i64 z9] W7 (fun e =>
              (fun W8 =>
              (∃ z10 : Int, (e = Ending.returned (Value.int IntKind.i64 z10) ∧
              (∃ p2 : Option Addr, (∃ k9 : Nat, (∃ k10 : Nat, (World.cell? W8 (Addr.mk a0 (a0o + 6) none) = some (Value.slice p2 k9 k10) ∧
              (((0 : Int) ≤ z10 ∧
               z10 < (↑k9 : Int)) ∧
              Sx.adr p2 (fun k11 =>
               (fun k12 =>
               (∃ z11 : Int, (World.cell? W8 (Addr.mk k11 (k12 + Int.toNat z10 * 1) none) = some (Value.int IntKind.i64 z11) ∧
               I2 (decide (z11 > 1)) W8))))))))))))))))
            (I2 false W7)))))))))) ∧
        ((Nat →
        Value) →
        (∀ x2 : Bool, (∀ W9 : World, (I2 x2 W9 →
        Sx.split x2
         ((∃ z12 : Int, (World.cell? W9 (Addr.mk k (0 + 3) none) = some (Value.int IntKind.i64 z12) ∧
          (∀ z13 : Int, (z13 = IntKind.wrap IntKind.u32 z12 →
          (∀ z14 : Int, (z14 = IntKind.wrap IntKind.u32 (a1 + z13) →
          I x2 z14 W9)))))))
         (I x2 z5 W9))))))))
       (Sx.split (z6 == 2)
         ((∃ z15 : Int, (World.cell? W6 (Addr.mk k (0 + 3) none) = some (Value.int IntKind.i64 z15) ∧
          (∀ z16 : Int, (z16 = IntKind.wrap IntKind.u32 z15 →
          (∀ z17 : Int, (z17 = IntKind.wrap IntKind.u32 (a1 + z16) →
          I false z17 W6)))))))
         (Sx.split (z6 == 3)
           ((∀ W10 : World, (W10 = World.drew W6 →
            ((4 : Int) ≠ (0 : Int) ∧
            (∀ z18 : Int, (z18 = IntKind.wrap IntKind.u32 (Int.tdiv a1 4) →
            (∀ z19 : Int, (z19 = IntKind.wrap IntKind.i64 z18 →
            (∃ p3 : Option Addr, (∃ k13 : Nat, (∃ k14 : Nat, (World.cell? W10 (Addr.mk a0 (a0o + 7) none) = some (Value.slice p3 k13 k14) ∧
            (∃ p4 : Option Addr, (∃ k15 : Nat, (∃ k16 : Nat, (World.cell? W10 (Addr.mk a0 (a0o + 7) none) = some (Value.slice p4 k15 k16) ∧
            ((↑k15 : Int) ≠ 0 ∧
            (∀ z20 : Int, (z20 = Int.tmod z19 (↑k15 : Int) →
            (((0 : Int) ≤ z20 ∧
             z20 < (↑k13 : Int)) ∧
            Sx.adr p3 (fun k17 =>
             (fun k18 =>
             (∃ vs2 : Array Value, (Array.size vs2 = 3 ∧
             (Sx.cellsAt W10 (Addr.mk k17 (k18 + Int.toNat z20 * 3) none) vs2 ∧
             (∀ k19 : Nat, (∀ W11 : World, (k19 = Array.size (World.heap W10) →
             (W11 = World.alloc W10 (Obj.cells #[Value.bool false, Value.int IntKind.u32 0, Value.int IntKind.u32 0] 99) →
             (RowKit.Below (Array.size (World.heap W10)) W10 W11 ∧
             (Array.size vs2 = 3 ∧
             ((∀ k20 : Nat, (k20 < 3 →
              ((∃ v3 : Value, World.cell? W11 (Addr.mk k19 (0 + k20) none) = some v3) ∧
              World.frozen? W11 (Addr.mk k19 (0 + k20) none) = false))) ∧
             ((∀ v4 : Value, (v4 ∈ Array.toList vs2 →
              Value.oneCell' v4 = true)) ∧
             (∀ W12 : World, (W12 = World.setCells W11 k19 0 (Array.toList vs2) →
             (∃ I4 : Int → World → Prop, ((∃ t : Bool, (World.cell? W12 (Addr.mk k19 0 none) = some (Value.bool t) ∧
              Sx.split t
               ((∃ z21 : Int, (World.cell? W12 (Addr.mk k19 (0 + 1) none) = some (Value.int IntKind.u32 z21) ∧
                Sx.split (z21 == a1)
                 ((∃ z22 : Int, (World.cell? W12 (Addr.mk k19 (0 + 2) none) = some (Value.int IntKind.u32 z22) ∧
                  I4 z22 W12)))
                 (I4 z5 W12))))
               (I4 z5 W12))) ∧
             ((Nat →
             Value) →
             (∀ x3 : Int, (∀ W13 : World, (I4 x3 W13 →
             (∃ z23 : Int, (World.cell? W13 (Addr.mk k (0 + 2) none) = some (Value.int IntKind.i64 z23) ∧
             Sx.split (z23 == 1)
              ((∃ z24 : Int, (World.cell? W13 (Addr.mk k (0 + 1) none) = some (Value.int IntKind.i64 z24) ∧
               Sx.split (z24 == 0)
                ((∃ z25 : Int, (World.cell? W13 (Addr.mk k7 (0 + 2) none) = some (Value.int IntKind.u32 z25) ∧
                 I false z25 W13)))
                (I false x3 W13))))
              (I false x3 W13))))))))))))))))))))))))))))))))))))))))))))
           (I false z5 W6))))) ∧
     ((Nat →
     Value) →
     (∀ x4 : Bool, (∀ x5 : Int, (∀ W14 : World, (I x4 x5 W14 →
     (∃ vs3 : Array Value, (Array.size vs3 = 4 ∧
     (Sx.cellsAt W14 (Addr.mk k 0 none) vs3 ∧
     Calls Tryd.prog 29 #[Value.pointer (some (Addr.mk a0 a0o none)), Value.int IntKind.u32 a1, Value.agg vs3, Value.bool x4] W14 (fun e2 =>
      (fun W15 =>
      (e2 = Ending.returned (Value.tuple #[]) ∧
      (∀ W16 : World, (W16 = World.drew W15 →
      (∃ vs4 : Array Value, (Array.size vs4 = 3 ∧
      (Sx.cellsAt W16 (Addr.mk k7 0 none) vs4 ∧
      (Array.size vs4 = 3 ∧
      ((∀ k21 : Nat, (k21 < 3 →
       ((∃ v5 : Value, World.cell? W16 (Addr.mk k2 (0 + k21) none) = some v5) ∧
       World.frozen? W16 (Addr.mk k2 (0 + k21) none) = false))) ∧
      ((∀ v6 : Value, (v6 ∈ Array.toList vs4 →
       Value.oneCell' v6 = true)) ∧
      (∀ W17 : World, (W17 = World.setCells W16 k2 0 (Array.toList vs4) →
      (∃ vs5 : Array Value, (Array.size vs5 = 3 ∧
      (Sx.cellsAt W17 (Addr.mk k2 0 none) vs5 ∧
      Q (Ending.returned (Value.tuple #[Value.int IntKind.u32 x5, Value.agg vs5])) W17)))))))))))))))))))))))))))))))))))))))))))))))))))))))))))))))))) :
  Calls Tryd.prog 16 #[Value.pointer (some ⟨a0, a0o, none⟩), Value.int .u32 a1, Value.agg a2] W Q :=
  Sx.sound Tryd.func16 (.node [] [] 0 .leaf (.node [] [] 0 (.node [] [] 1021 .leaf .leaf) (.node [] [] 0 .leaf (.node [] [] 0 .leaf (.node [(10, .bool), (9, .int .u32)] [0, 1, 5, 8, 7] 1 (.node [] [] 0 .leaf (.node [] [] 0 (.node [] [] 0 .leaf (.node [] [] 0 (.node [(10, .bool)] [1, 5, 0, 8, 7, 9] 1 (.node [] [] 0 .leaf (.node [] [] 0 (.node [] [] 0 .leaf (.node [] [] 0 .leaf (.node [(48, .bool)] [0, 1, 5, 8, 7, 9, 10] 1 .leaf .leaf))) .leaf)) .leaf) (.node [] [] 0 .leaf (.node [] [] 0 .leaf (.node [] [] 0 .leaf (.node [] [] 0 (.node [] [] 0 (.node [] [] 1017 .leaf .leaf) (.node [(9, .int .u32)] [5, 8, 0, 1, 10, 7] 1 .leaf .leaf)) .leaf)))))) .leaf)) (.node [] [] 0 .leaf (.node [] [] 0 (.node [] [] 4 .leaf .leaf) .leaf))))))) [Value.pointer (some ⟨a0, a0o, none⟩), Value.int .u32 a1, Value.agg a2] rfl (Eq.mp (by kernel_rfl) h)
theorem vc17 {W : World} {Q : Ending → World → Prop} (m : Array Value)
  (h :
    (∀ k : Nat, (∀ W2 : World, (k = Array.size (World.heap W) →
    (W2 = World.alloc W (Obj.cells (Value.cells (Value.agg m)) 37) →
    (∀ k2 : Nat, (∀ W3 : World, (k2 = Array.size (World.heap W2) →
    (W3 = World.alloc W2 (Obj.cells #[Value.int IntKind.i64 0, Value.int IntKind.i64 0, Value.int IntKind.u32 0] 60) →
    (∃ z : Int, (World.cell? W3 (Addr.mk k 0 none) = some (Value.int IntKind.i64 z) ∧
    (∃ z2 : Int, (World.cell? W3 (Addr.mk k (0 + 1) none) = some (Value.int IntKind.i64 z2) ∧
    (∃ z3 : Int, (World.cell? W3 (Addr.mk k (0 + 2) none) = some (Value.int IntKind.u32 z3) ∧
    (∀ vs : Array Value, (vs = #[Value.int IntKind.i64 z, Value.int IntKind.i64 z2, Value.int IntKind.u32 z3] →
    (Array.size vs = 3 ∧
    ((∀ k3 : Nat, (k3 < 3 →
     ((∃ v : Value, World.cell? W3 (Addr.mk k2 (0 + k3) none) = some v) ∧
     World.frozen? W3 (Addr.mk k2 (0 + k3) none) = false))) ∧
    ((∀ v2 : Value, (v2 ∈ Array.toList vs →
     Value.oneCell' v2 = true)) ∧
    (∀ W4 : World, (W4 = World.setCells W3 k2 0 (Array.toList vs) →
    (∃ vs2 : Array Value, (Array.size vs2 = 3 ∧
    (Sx.cellsAt W4 (Addr.mk k2 0 none) vs2 ∧
    Q (Ending.returned (Value.agg vs2)) W4))))))))))))))))))))))))) :
  Calls Tryd.prog 17 #[Value.agg m] W Q :=
  Sx.sound Tryd.func17 .leaf [Value.agg m] rfl (Eq.mp (by kernel_rfl) h)
theorem vc18 {W : World} {Q : Ending → World → Prop} (p : Nat) (po : Nat) (m : Array Value) (pc : Int) (i : Array Value) (taken : Bool)
  (h :
    (∀ k : Nat, (∀ W2 : World, (k = Array.size (World.heap W) →
    (W2 = World.alloc W (Obj.cells (Value.cells (Value.agg m)) 60) →
    (∀ k2 : Nat, (∀ W3 : World, (k2 = Array.size (World.heap W2) →
    (W3 = World.alloc W2 (Obj.cells (Value.cells (Value.agg i)) 57) →
    (∃ vs : Array Value, (Array.size vs = 3 ∧
    (Sx.cellsAt W3 (Addr.mk k 0 none) vs ∧
    Calls Tryd.prog 30 #[Value.pointer (some (Addr.mk p po none)), Value.agg vs] W3 (fun e =>
     (fun W4 =>
     (∃ t : Bool, (e = Ending.returned (Value.bool t) ∧
     Sx.split (!t)
      (Q (Ending.returned (Value.tuple #[])) W4)
      ((∃ z : Int, (World.cell? W4 (Addr.mk k 0 none) = some (Value.int IntKind.i64 z) ∧
       ((∃ v : Value, World.cell? W4 (Addr.mk p (po + 5) none) = some v) ∧
       (World.frozen? W4 (Addr.mk p (po + 5) none) = false ∧
       (∀ W5 : World, (W5 = World.setCell W4 (Addr.mk p (po + 5) none) (Value.int IntKind.i64 z) →
       (∃ z2 : Int, (World.cell? W5 (Addr.mk k (0 + 1) none) = some (Value.int IntKind.i64 z2) ∧
       ((∃ v2 : Value, World.cell? W5 (Addr.mk p (po + 9) none) = some v2) ∧
       (World.frozen? W5 (Addr.mk p (po + 9) none) = false ∧
       (∀ W6 : World, (W6 = World.setCell W5 (Addr.mk p (po + 9) none) (Value.int IntKind.i64 z2) →
       (∀ W7 : World, (W7 = World.drew W6 →
       (∃ p2 : Option Addr, (∃ k3 : Nat, (∃ k4 : Nat, (World.cell? W7 (Addr.mk p (po + 8) none) = some (Value.slice p2 k3 k4) ∧
       (∃ z3 : Int, (World.cell? W7 (Addr.mk k (0 + 1) none) = some (Value.int IntKind.i64 z3) ∧
       (∃ z4 : Int, (World.cell? W7 (Addr.mk k (0 + 2) none) = some (Value.int IntKind.u32 z4) ∧
       (((0 : Int) ≤ z3 ∧
        z3 < (↑k3 : Int)) ∧
       Sx.adr p2 (fun k5 =>
        (fun k6 =>
        ((∃ v3 : Value, World.cell? W7 (Addr.mk k5 (k6 + Int.toNat z3 * 1) none) = some v3) ∧
        (World.frozen? W7 (Addr.mk k5 (k6 + Int.toNat z3 * 1) none) = false ∧
        (∀ W8 : World, (W8 = World.setCell W7 (Addr.mk k5 (k6 + Int.toNat z3 * 1) none) (Value.int IntKind.u32 z4) →
        (∃ vs2 : Array Value, (Array.size vs2 = 4 ∧
        (Sx.cellsAt W8 (Addr.mk k2 0 none) vs2 ∧
        Calls Tryd.prog 29 #[Value.pointer (some (Addr.mk p po none)), Value.int IntKind.u32 pc, Value.agg vs2, Value.bool taken] W8 (fun e2 =>
         (fun W9 =>
         (e2 = Ending.returned (Value.tuple #[]) ∧
         Q (Ending.returned (Value.tuple #[])) W9)))))))))))))))))))))))))))))))))))))))))))))))))))) :
  Calls Tryd.prog 18 #[Value.pointer (some ⟨p, po, none⟩), Value.agg m, Value.int .u32 pc, Value.agg i, Value.bool taken] W Q :=
  Sx.sound Tryd.func18 (.node [] [] 0 .leaf (.node [] [] 0 .leaf (.node [] [] 0 .leaf (.node [] [] 0 .leaf (.node [] [] 0 .leaf (.node [] [] 0 (.node [] [] 10 .leaf .leaf) .leaf)))))) [Value.pointer (some ⟨p, po, none⟩), Value.agg m, Value.int .u32 pc, Value.agg i, Value.bool taken] rfl (Eq.mp (by kernel_rfl) h)
theorem vc19 {W : World} {Q : Ending → World → Prop} (a0 : Nat) (a0o : Nat) (a1 : Array Value) (a2 : Int) (a3 : Array Value) (a4 : Bool) (a5 : Int)
  (h :
    (∀ k : Nat, (∀ W2 : World, (k = Array.size (World.heap W) →
    (W2 = World.alloc W (Obj.cells (Value.cells (Value.agg a1)) 60) →
    (∀ k2 : Nat, (∀ W3 : World, (k2 = Array.size (World.heap W2) →
    (W3 = World.alloc W2 (Obj.cells (Value.cells (Value.agg a3)) 57) →
    (∃ vs : Array Value, (Array.size vs = 3 ∧
    (Sx.cellsAt W3 (Addr.mk k 0 none) vs ∧
    Calls Tryd.prog 30 #[Value.pointer (some (Addr.mk a0 a0o none)), Value.agg vs] W3 (fun e =>
     (fun W4 =>
     (∃ t : Bool, (e = Ending.returned (Value.bool t) ∧
     Sx.split (!t)
      (Q (Ending.returned (Value.tuple #[])) W4)
      ((∃ z : Int, (World.cell? W4 (Addr.mk k2 0 none) = some (Value.int IntKind.i64 z) ∧
       Sx.split (z == 1)
        ((∃ z2 : Int, (World.cell? W4 (Addr.mk k 0 none) = some (Value.int IntKind.i64 z2) ∧
         Calls Tryd.prog 28 #[Value.pointer (some (Addr.mk a0 a0o none)), Value.int IntKind.u32 a2, Value.int IntKind.i64 z2] W4 (fun e2 =>
          (fun W5 =>
          (∃ z3 : Int, (e2 = Ending.returned (Value.int IntKind.i64 z3) ∧
          (∃ p : Option Addr, (∃ k3 : Nat, (∃ k4 : Nat, (World.cell? W5 (Addr.mk a0 (a0o + 6) none) = some (Value.slice p k3 k4) ∧
          (((0 : Int) ≤ z3 ∧
           z3 < (↑k3 : Int)) ∧
          Sx.adr p (fun k5 =>
           (fun k6 =>
           (∃ z4 : Int, (World.cell? W5 (Addr.mk k5 (k6 + Int.toNat z3 * 1) none) = some (Value.int IntKind.i64 z4) ∧
           (∃ I : Int → World → Prop, (Sx.split a4
             (Sx.split (decide (z4 < 3))
               ((∀ z5 : Int, (z5 = IntKind.wrap IntKind.i64 (z4 + 1) →
                I z5 W5)))
               (I z4 W5))
             (I z4 W5) ∧
           ((Nat →
           Value) →
           (∀ x : Int, (∀ W6 : World, (I x W6 →
           (∃ I2 : Int → World → Prop, (Sx.split (!a4)
             (Sx.split (decide (x > 0))
               ((∀ z6 : Int, (z6 = IntKind.wrap IntKind.i64 (x - 1) →
                I2 z6 W6)))
               (I2 x W6))
             (I2 x W6) ∧
           ((Nat →
           Value) →
           (∀ x2 : Int, (∀ W7 : World, (I2 x2 W7 →
           (∃ p2 : Option Addr, (∃ k7 : Nat, (∃ k8 : Nat, (World.cell? W7 (Addr.mk a0 (a0o + 6) none) = some (Value.slice p2 k7 k8) ∧
           (((0 : Int) ≤ z3 ∧
            z3 < (↑k7 : Int)) ∧
           Sx.adr p2 (fun k9 =>
            (fun k10 =>
            ((∃ v : Value, World.cell? W7 (Addr.mk k9 (k10 + Int.toNat z3 * 1) none) = some v) ∧
            (World.frozen? W7 (Addr.mk k9 (k10 + Int.toNat z3 * 1) none) = false ∧
            (∀ W8 : World, (W8 = World.setCell W7 (Addr.mk k9 (k10 + Int.toNat z3 * 1) none) (Value.int IntKind.i64 x2) →
            Q (Ending.returned (Value.tuple #[])) W8)))))))))))))))))))))))))))))))))))))))
        (Sx.split (z == 3)
          ((∃ I3 : Bool → World → Prop, ((∃ z7 : Int, (World.cell? W4 (Addr.mk k2 (0 + 2) none) = some (Value.int IntKind.i64 z7) ∧
            Sx.split (z7 != 1)
             (I3 true W4)
             ((∃ z8 : Int, (World.cell? W4 (Addr.mk k2 (0 + 1) none) = some (Value.int IntKind.i64 z8) ∧
              I3 (z8 != 0) W4))))) ∧
           ((Nat →
           Value) →
           (∀ x3 : Bool, (∀ W9 : World, (I3 x3 W9 →
           Sx.split x3
            ((∀ W10 : World, (W10 = World.drew W9 →
             (∃ p3 : Option Addr, (∃ k11 : Nat, (∃ k12 : Nat, (World.cell? W10 (Addr.mk a0 (a0o + 7) none) = some (Value.slice p3 k11 k12) ∧
             ((4 : Int) ≠ (0 : Int) ∧
             (∀ z9 : Int, (z9 = IntKind.wrap IntKind.u32 (Int.tdiv a2 4) →
             (∀ z10 : Int, (z10 = IntKind.wrap IntKind.i64 z9 →
             (∃ p4 : Option Addr, (∃ k13 : Nat, (∃ k14 : Nat, (World.cell? W10 (Addr.mk a0 (a0o + 7) none) = some (Value.slice p4 k13 k14) ∧
             ((↑k13 : Int) ≠ 0 ∧
             (∀ z11 : Int, (z11 = Int.tmod z10 (↑k13 : Int) →
             (∀ vs2 : Array Value, (vs2 = #[Value.bool true, Value.int IntKind.u32 a2, Value.int IntKind.u32 a5] →
             (((0 : Int) ≤ z11 ∧
              z11 < (↑k11 : Int)) ∧
             Sx.adr p3 (fun k15 =>
              (fun k16 =>
              (Array.size vs2 = 3 ∧
              ((∀ k17 : Nat, (k17 < 3 →
               ((∃ v2 : Value, World.cell? W10 (Addr.mk k15 (k16 + Int.toNat z11 * 3 + k17) none) = some v2) ∧
               World.frozen? W10 (Addr.mk k15 (k16 + Int.toNat z11 * 3 + k17) none) = false))) ∧
              ((∀ v3 : Value, (v3 ∈ Array.toList vs2 →
               Value.oneCell' v3 = true)) ∧
              (∀ W11 : World, (W11 = World.setCells W10 k15 (k16 + Int.toNat z11 * 3) (Array.toList vs2) →
              Q (Ending.returned (Value.tuple #[])) W11)))))))))))))))))))))))))))))
            (Q (Ending.returned (Value.tuple #[])) W9))))))))
          (Q (Ending.returned (Value.tuple #[])) W4))))))))))))))))))))) :
  Calls Tryd.prog 19 #[Value.pointer (some ⟨a0, a0o, none⟩), Value.agg a1, Value.int .u32 a2, Value.agg a3, Value.bool a4, Value.int .u32 a5] W Q :=
  Sx.sound Tryd.func19 (.node [] [] 0 .leaf (.node [] [] 0 .leaf (.node [] [] 0 .leaf (.node [] [] 0 .leaf (.node [] [] 0 (.node [] [] 0 .leaf (.node [] [] 0 (.node [] [] 0 .leaf (.node [] [] 0 .leaf (.node [(14, .int .i64)] [4, 0, 13] 1 .leaf (.node [(14, .int .i64)] [0, 13] 1 .leaf .leaf)))) (.node [] [] 0 .leaf (.node [] [] 0 (.node [(67, .bool)] [0, 2, 5] 1 .leaf (.node [] [] 0 (.node [] [] 18 .leaf .leaf) .leaf)) .leaf)))) .leaf))))) [Value.pointer (some ⟨a0, a0o, none⟩), Value.agg a1, Value.int .u32 a2, Value.agg a3, Value.bool a4, Value.int .u32 a5] rfl (Eq.mp (by kernel_rfl) h)
theorem vc28 {W : World} {Q : Ending → World → Prop} (p : Nat) (po : Nat) (pc : Int) (history : Int)
  (h :
    ((4 : Int) ≠ (0 : Int) ∧
    (∀ z : Int, (z = IntKind.wrap IntKind.u32 (Int.tdiv pc 4) →
    (∀ z2 : Int, (z2 = IntKind.wrap IntKind.i64 z →
    (∃ z3 : Int, (World.cell? W (Addr.mk p po none) = some (Value.int IntKind.i64 z3) ∧
    Sx.split (z3 == 3)
     ((∀ z4 : Int, (z4 = IntKind.wrap IntKind.i64 (↑(BitVec.toNat (BitVec.ofInt (IntKind.bits IntKind.i64) z2 ^^^ BitVec.ofInt (IntKind.bits IntKind.i64) history)) : Int) →
      (∃ p2 : Option Addr, (∃ k : Nat, (∃ k2 : Nat, (World.cell? W (Addr.mk p (po + 6) none) = some (Value.slice p2 k k2) ∧
      ((↑k : Int) ≠ 0 ∧
      (∀ z5 : Int, (z5 = Int.tmod z4 (↑k : Int) →
      Q (Ending.returned (Value.int IntKind.i64 z5)) W))))))))))
     ((∃ p3 : Option Addr, (∃ k3 : Nat, (∃ k4 : Nat, (World.cell? W (Addr.mk p (po + 6) none) = some (Value.slice p3 k3 k4) ∧
      ((↑k3 : Int) ≠ 0 ∧
      (∀ z6 : Int, (z6 = Int.tmod z2 (↑k3 : Int) →
      Q (Ending.returned (Value.int IntKind.i64 z6)) W)))))))))))))))) :
  Calls Tryd.prog 28 #[Value.pointer (some ⟨p, po, none⟩), Value.int .u32 pc, Value.int .i64 history] W Q :=
  Sx.sound Tryd.func28 .leaf [Value.pointer (some ⟨p, po, none⟩), Value.int .u32 pc, Value.int .i64 history] rfl (Eq.mp (by kernel_rfl) h)
theorem vc29 {W : World} {Q : Ending → World → Prop} (a0 : Nat) (a0o : Nat) (a1 : Int) (a2 : Array Value) (a3 : Bool)
  (h :
    (∀ k : Nat, (∀ W2 : World, (k = Array.size (World.heap W) →
    (W2 = World.alloc W (Obj.cells (Value.cells (Value.agg a2)) 57) →
    (∃ z : Int, (World.cell? W2 (Addr.mk k 0 none) = some (Value.int IntKind.i64 z) ∧
    Sx.split (z == 1)
     ((∃ z2 : Int, (World.cell? W2 (Addr.mk a0 (a0o + 5) none) = some (Value.int IntKind.i64 z2) ∧
      (∀ z3 : Int, (z3 = IntKind.wrap IntKind.i64 (2 * z2) →
      (∃ I : Int → World → Prop, (Sx.split a3
        ((∀ z4 : Int, (z4 = IntKind.wrap IntKind.i64 (z3 + 1) →
         I z4 W2)))
        (I z3 W2) ∧
      ((Nat →
      Value) →
      (∀ x : Int, (∀ W3 : World, (I x W3 →
      (∃ z5 : Int, (World.cell? W3 (Addr.mk a0 (a0o + 2) none) = some (Value.int IntKind.i64 z5) ∧
      ((0 : Int) ≤ z5 ∧
      (∀ z6 : Int, (z6 = IntKind.wrap IntKind.i64 (1 * 2 ^ min (Int.toNat z5) (IntKind.bits IntKind.i64)) →
      (z6 ≠ 0 ∧
      (∀ z7 : Int, (z7 = Int.tmod x z6 →
      ((∃ v : Value, World.cell? W3 (Addr.mk a0 (a0o + 5) none) = some v) ∧
      (World.frozen? W3 (Addr.mk a0 (a0o + 5) none) = false ∧
      (∀ W4 : World, (W4 = World.setCell W3 (Addr.mk a0 (a0o + 5) none) (Value.int IntKind.i64 z7) →
      Q (Ending.returned (Value.tuple #[])) W4)))))))))))))))))))))))
     ((∃ I2 : Bool → World → Prop, ((∃ z8 : Int, (World.cell? W2 (Addr.mk k 0 none) = some (Value.int IntKind.i64 z8) ∧
       Sx.split (z8 == 3)
        ((∃ z9 : Int, (World.cell? W2 (Addr.mk k (0 + 2) none) = some (Value.int IntKind.i64 z9) ∧
         Sx.split (z9 == 1)
          ((∃ z10 : Int, (World.cell? W2 (Addr.mk k (0 + 1) none) = some (Value.int IntKind.i64 z10) ∧
           I2 (z10 == 0) W2)))
          (I2 false W2))))
        (I2 false W2))) ∧
      ((Nat →
      Value) →
      (∀ x2 : Bool, (∀ W5 : World, (I2 x2 W5 →
      Sx.split x2
       ((∀ W6 : World, (W6 = World.drew W5 →
        (∃ z11 : Int, (World.cell? W6 (Addr.mk a0 (a0o + 9) none) = some (Value.int IntKind.i64 z11) ∧
        (∃ z12 : Int, (World.cell? W6 (Addr.mk a0 (a0o + 4) none) = some (Value.int IntKind.i64 z12) ∧
        (∀ z13 : Int, (z13 = IntKind.wrap IntKind.i64 (z11 + z12) →
        (∀ z14 : Int, (z14 = IntKind.wrap IntKind.i64 (z13 - 1) →
        (∃ z15 : Int, (World.cell? W6 (Addr.mk a0 (a0o + 4) none) = some (Value.int IntKind.i64 z15) ∧
        (z15 ≠ 0 ∧
        (∀ z16 : Int, (z16 = Int.tmod z14 z15 →
        ((∃ v2 : Value, World.cell? W6 (Addr.mk a0 (a0o + 9) none) = some v2) ∧
        (World.frozen? W6 (Addr.mk a0 (a0o + 9) none) = false ∧
        (∀ W7 : World, (W7 = World.setCell W6 (Addr.mk a0 (a0o + 9) none) (Value.int IntKind.i64 z16) →
        Q (Ending.returned (Value.tuple #[])) W7))))))))))))))))))))
       ((∃ I3 : Bool → World → Prop, ((∃ z17 : Int, (World.cell? W5 (Addr.mk k 0 none) = some (Value.int IntKind.i64 z17) ∧
         Sx.split (z17 != 0)
          ((∃ z18 : Int, (World.cell? W5 (Addr.mk k (0 + 1) none) = some (Value.int IntKind.i64 z18) ∧
           I3 (z18 == 1) W5)))
          (I3 false W5))) ∧
        ((Nat →
        Value) →
        (∀ x3 : Bool, (∀ W8 : World, (I3 x3 W8 →
        Sx.split x3
         ((∀ W9 : World, (W9 = World.drew W8 →
          (∃ z19 : Int, (World.cell? W9 (Addr.mk a0 (a0o + 9) none) = some (Value.int IntKind.i64 z19) ∧
          (∀ z20 : Int, (z20 = IntKind.wrap IntKind.i64 (z19 + 1) →
          (∃ z21 : Int, (World.cell? W9 (Addr.mk a0 (a0o + 4) none) = some (Value.int IntKind.i64 z21) ∧
          (z21 ≠ 0 ∧
          (∀ z22 : Int, (z22 = Int.tmod z20 z21 →
          ((∃ v3 : Value, World.cell? W9 (Addr.mk a0 (a0o + 9) none) = some v3) ∧
          (World.frozen? W9 (Addr.mk a0 (a0o + 9) none) = false ∧
          (∀ W10 : World, (W10 = World.setCell W9 (Addr.mk a0 (a0o + 9) none) (Value.int IntKind.i64 z22) →
          (∀ W11 : World, (W11 = World.drew W10 →
          (∃ p : Option Addr, (∃ k2 : Nat, (∃ k3 : Nat, (World.cell? W11 (Addr.mk a0 (a0o + 8) none) = some (Value.slice p k2 k3) ∧
          (∃ z23 : Int, (World.cell? W11 (Addr.mk a0 (a0o + 9) none) = some (Value.int IntKind.i64 z23) ∧
          (∀ z24 : Int, (z24 = IntKind.wrap IntKind.u32 (a1 + 4) →
          (((0 : Int) ≤ z23 ∧
           z23 < (↑k2 : Int)) ∧
          Sx.adr p (fun k4 =>
           (fun k5 =>
           ((∃ v4 : Value, World.cell? W11 (Addr.mk k4 (k5 + Int.toNat z23 * 1) none) = some v4) ∧
           (World.frozen? W11 (Addr.mk k4 (k5 + Int.toNat z23 * 1) none) = false ∧
           (∀ W12 : World, (W12 = World.setCell W11 (Addr.mk k4 (k5 + Int.toNat z23 * 1) none) (Value.int IntKind.u32 z24) →
           Q (Ending.returned (Value.tuple #[])) W12)))))))))))))))))))))))))))))))))
         (Q (Ending.returned (Value.tuple #[])) W8)))))))))))))))))))))) :
  Calls Tryd.prog 29 #[Value.pointer (some ⟨a0, a0o, none⟩), Value.int .u32 a1, Value.agg a2, Value.bool a3] W Q :=
  Sx.sound Tryd.func29 (.node [] [] 0 .leaf (.node [] [] 0 (.node [] [] 0 .leaf (.node [] [] 0 (.node [] [] 0 .leaf (.node [(8, .int .i64)] [0] 1 .leaf .leaf)) .leaf)) (.node [] [] 0 (.node [(43, .bool)] [0, 6, 1] 1 .leaf (.node [] [] 0 (.node [] [] 0 (.node [] [] 21 .leaf .leaf) .leaf) .leaf)) (.node [(71, .bool)] [0, 1] 1 .leaf (.node [] [] 0 (.node [] [] 0 (.node [] [] 15 .leaf .leaf) (.node [] [] 12 .leaf .leaf)) .leaf))))) [Value.pointer (some ⟨a0, a0o, none⟩), Value.int .u32 a1, Value.agg a2, Value.bool a3] rfl (Eq.mp (by kernel_rfl) h)
theorem vc30 {W : World} {Q : Ending → World → Prop} (p : Nat) (po : Nat) (m : Array Value)
  (h :
    (∀ k : Nat, (∀ W2 : World, (k = Array.size (World.heap W) →
    (W2 = World.alloc W (Obj.cells (Value.cells (Value.agg m)) 60) →
    (∃ z : Int, (World.cell? W2 (Addr.mk k 0 none) = some (Value.int IntKind.i64 z) ∧
    Sx.split (decide (z ≥ 0))
     ((∃ z2 : Int, (World.cell? W2 (Addr.mk k 0 none) = some (Value.int IntKind.i64 z2) ∧
      (∃ z3 : Int, (World.cell? W2 (Addr.mk p (po + 2) none) = some (Value.int IntKind.i64 z3) ∧
      ((0 : Int) ≤ z3 ∧
      (∀ z4 : Int, (z4 = IntKind.wrap IntKind.i64 (1 * 2 ^ min (Int.toNat z3) (IntKind.bits IntKind.i64)) →
      Sx.split (decide (z2 < z4))
       ((∃ z5 : Int, (World.cell? W2 (Addr.mk k (0 + 1) none) = some (Value.int IntKind.i64 z5) ∧
        Sx.split (decide (z5 ≥ 0))
         ((∃ z6 : Int, (World.cell? W2 (Addr.mk k (0 + 1) none) = some (Value.int IntKind.i64 z6) ∧
          (∃ z7 : Int, (World.cell? W2 (Addr.mk p (po + 4) none) = some (Value.int IntKind.i64 z7) ∧
          (∀ W3 : World, (∀ k2 : Nat, (W3 = World.drewN W2 k2 →
          Q (Ending.returned (Value.bool (decide (z6 < z7)))) W3))))))))
         ((∀ W4 : World, (∀ k3 : Nat, (W4 = World.drewN W2 k3 →
          Q (Ending.returned (Value.bool false)) W4)))))))
       ((∀ W5 : World, (∀ k4 : Nat, (W5 = World.drewN W2 k4 →
        Q (Ending.returned (Value.bool false)) W5))))))))))))
     ((∀ W6 : World, (∀ k5 : Nat, (W6 = World.drewN W2 k5 →
      Q (Ending.returned (Value.bool false)) W6))))))))))) :
  Calls Tryd.prog 30 #[Value.pointer (some ⟨p, po, none⟩), Value.agg m] W Q :=
  Sx.sound Tryd.func30 .leaf [Value.pointer (some ⟨p, po, none⟩), Value.agg m] rfl (Eq.mp (by kernel_rfl) h)
end Go.Proofs.YtgcakilmmeopaaaDoor
