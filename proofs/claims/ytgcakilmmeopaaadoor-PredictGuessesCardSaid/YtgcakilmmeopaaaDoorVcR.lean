/- What each function asks, reckoned out of its text; printed by a program of mine (wip/tpl/VcTool.lean). No condition. -/
import Derived.Test.YtgcakilmmeopaaaDoorSxB
import Derived.Test.YtgcakilmmeopaaaDoorChecked
namespace Go.Proofs.YtgcakilmmeopaaaDoor
open Go Go.Proofs
set_option linter.unusedVariables false
set_option maxRecDepth 100000
theorem vc3 {W : World} {Q : Ending → World → Prop} (a0 : Int) (a1 : Int) (a2 : Option Addr) (a2n : Nat) (a2c : Nat)
  (h :
    Calls Tryd.prog 6 #[Value.int IntKind.i64 a0, Value.int IntKind.i64 16] W (fun e =>
     (fun W2 =>
     (∃ z : Int, (e = Ending.returned (Value.int IntKind.i64 z) ∧
     (∀ z2 : Int, (z2 = IntKind.wrap IntKind.i64 (1 + z) →
     (∀ vs : Array Value, (vs = #[Value.int IntKind.i64 0, Value.int IntKind.i64 1, Value.int IntKind.i64 0, Value.int IntKind.i64 0, Value.int IntKind.i64 z2] →
     Calls Tryd.prog 7 #[Value.agg vs] W2 (fun e2 =>
      (fun W3 =>
      (∃ p : Option Addr, (∃ v : Value, (e2 = Ending.returned (Value.tuple #[Value.pointer p, v]) ∧
      Sx.isNil v (fun t =>
       Sx.split (!t)
        (Q (Ending.returned (Value.bool false)) W3)
        (Sx.split (Option.isNone p)
          (Q (Ending.returned (Value.bool false)) W3)
          ((∀ z3 : Int, (z3 = IntKind.wrap IntKind.i64 (z2 + 1) →
           Calls Tryd.prog 6 #[Value.int IntKind.i64 a1, Value.int IntKind.i64 z3] W3 (fun e3 =>
            (fun W4 =>
            (∃ z4 : Int, (e3 = Ending.returned (Value.int IntKind.i64 z4) ∧
            (∀ vs2 : Array Value, (vs2 = #[Value.int IntKind.i64 3, Value.int IntKind.i64 1, Value.int IntKind.i64 0, Value.int IntKind.i64 0, Value.int IntKind.i64 400] →
            (∀ k : Nat, (∀ W5 : World, (k = Array.size (World.heap W4) →
            (W5 = World.alloc W4 (Obj.cells #[Value.int IntKind.i64 0, Value.int IntKind.i64 0, Value.int IntKind.i64 0, Value.int IntKind.i64 0, Value.int IntKind.i64 0] 33) →
            (Array.size vs2 = 5 ∧
            ((∀ k2 : Nat, (k2 < 5 →
             ((∃ v2 : Value, World.cell? W5 (Addr.mk k (0 + k2) none) = some v2) ∧
             World.frozen? W5 (Addr.mk k (0 + k2) none) = false))) ∧
            ((∀ v3 : Value, (v3 ∈ Array.toList vs2 →
             Value.oneCell' v3 = true)) ∧
            (∀ W6 : World, (W6 = World.setCells W5 k 0 (Array.toList vs2) →
            (∀ vs3 : Array Value, (vs3 = #[Value.int IntKind.i64 4, Value.int IntKind.i64 0, Value.int IntKind.i64 1, Value.int IntKind.i64 0, Value.int IntKind.i64 0] →
            (∀ k3 : Nat, (∀ W7 : World, (k3 = Array.size (World.heap W6) →
            (W7 = World.alloc W6 (Obj.cells #[Value.int IntKind.i64 0, Value.int IntKind.i64 0, Value.int IntKind.i64 0, Value.int IntKind.i64 0, Value.int IntKind.i64 0] 33) →
            (Array.size vs3 = 5 ∧
            ((∀ k4 : Nat, (k4 < 5 →
             ((∃ v4 : Value, World.cell? W7 (Addr.mk k3 (0 + k4) none) = some v4) ∧
             World.frozen? W7 (Addr.mk k3 (0 + k4) none) = false))) ∧
            ((∀ v5 : Value, (v5 ∈ Array.toList vs3 →
             Value.oneCell' v5 = true)) ∧
            (∀ W8 : World, (W8 = World.setCells W7 k3 0 (Array.toList vs3) →
            Calls Tryd.prog 8 #[Value.slice a2 a2n a2c] W8 (fun e4 =>
             (fun W9 =>
             (∃ p2 : Option Addr, (∃ k5 : Nat, (∃ k6 : Nat, (e4 = Ending.returned (Value.slice p2 k5 k6) ∧
             (∃ I : Int → World → Prop, (∃ I2 : Int → World → Nat, (I 0 W9 ∧
             ((Nat →
             Value) →
             (∀ x : Int, (∀ W10 : World, (I x W10 →
             Sx.split (decide (x < z4))
              ((∃ I3 : Int → World → Prop, ((∀ W11 : World, (W11 = World.drew W10 →
                (((0 : Int) ≤ x ∧
                 x < (↑k5 : Int)) ∧
                Sx.adr p2 (fun k7 =>
                 (fun k8 =>
                 (∃ z5 : Int, (World.cell? W11 (Addr.mk k7 (k8 + Int.toNat x * 1) none) = some (Value.int IntKind.u32 z5) ∧
                 (∃ vs4 : Array Value, (Array.size vs4 = 5 ∧
                 (Sx.cellsAt W11 (Addr.mk k 0 none) vs4 ∧
                 (Calls Tryd.prog 9 #[Value.pointer p, Value.int IntKind.u32 z5, Value.agg vs4] W11 (fun e5 =>
                   (fun W12 =>
                   (∃ z6 : Int, (∃ vs5 : Array Value, (e5 = Ending.returned (Value.tuple #[Value.int IntKind.u32 z6, Value.agg vs5]) ∧
                   (∀ k9 : Nat, (∀ W13 : World, (k9 = Array.size (World.heap W12) →
                   (W13 = World.alloc W12 (Obj.cells #[Value.int IntKind.i64 0, Value.int IntKind.i64 0, Value.int IntKind.u32 0] 37) →
                   (Array.size vs5 = 3 ∧
                   ((∀ k10 : Nat, (k10 < 3 →
                    ((∃ v6 : Value, World.cell? W13 (Addr.mk k9 (0 + k10) none) = some v6) ∧
                    World.frozen? W13 (Addr.mk k9 (0 + k10) none) = false))) ∧
                   ((∀ v7 : Value, (v7 ∈ Array.toList vs5 →
                    Value.oneCell' v7 = true)) ∧
                   (∀ W14 : World, (W14 = World.setCells W13 k9 0 (Array.toList vs5) →
                   I3 z6 W14)))))))))))))) ∧
                 (∀ k11 : Nat, (∀ W15 : World, (k11 = Array.size (World.heap W11) →
                 (W15 = World.alloc W11 (Obj.cells #[Value.int IntKind.i64 0, Value.int IntKind.i64 0, Value.int IntKind.u32 0] 37) →
                 (RowKit.Below (Array.size (World.heap W11)) W11 W15 ∧
                 Calls Tryd.prog 9 #[Value.pointer p, Value.int IntKind.u32 z5, Value.agg vs4] W15 (fun e6 =>
                  (fun W16 =>
                  (∃ z7 : Int, (∃ vs6 : Array Value, (e6 = Ending.returned (Value.tuple #[Value.int IntKind.u32 z7, Value.agg vs6]) ∧
                  (Array.size vs6 = 3 ∧
                  ((∀ k12 : Nat, (k12 < 3 →
                   ((∃ v8 : Value, World.cell? W16 (Addr.mk k11 (0 + k12) none) = some v8) ∧
                   World.frozen? W16 (Addr.mk k11 (0 + k12) none) = false))) ∧
                  ((∀ v9 : Value, (v9 ∈ Array.toList vs6 →
                   Value.oneCell' v9 = true)) ∧
                  (∀ W17 : World, (W17 = World.setCells W16 k11 0 (Array.toList vs6) →
                  I3 z7 W17)))))))))))))))))))))))))) ∧
               ((Nat →
               Value) →
               (∀ x2 : Int, (∀ W18 : World, (I3 x2 W18 →
               (((0 : Int) ≤ x ∧
                x < (↑k5 : Int)) ∧
               Sx.adr p2 (fun k13 =>
                (fun k14 =>
                (∃ z8 : Int, (World.cell? W18 (Addr.mk k13 (k14 + Int.toNat x * 1) none) = some (Value.int IntKind.u32 z8) ∧
                (∀ z9 : Int, (z9 = IntKind.wrap IntKind.u32 (z8 + 400) →
                Sx.split (x2 != z9)
                 (Q (Ending.returned (Value.bool false)) W18)
                 ((((0 : Int) ≤ x ∧
                   x < (↑k5 : Int)) ∧
                  Sx.adr p2 (fun k15 =>
                   (fun k16 =>
                   (∃ z10 : Int, (World.cell? W18 (Addr.mk k15 (k16 + Int.toNat x * 1) none) = some (Value.int IntKind.u32 z10) ∧
                   (∀ z11 : Int, (z11 = IntKind.wrap IntKind.u32 (z10 + 400) →
                   (∀ vs7 : Array Value, (vs7 = #[Value.int IntKind.i64 5, Value.int IntKind.i64 0, Value.int IntKind.i64 0, Value.int IntKind.i64 0, Value.int IntKind.i64 8] →
                   Calls Tryd.prog 9 #[Value.pointer p, Value.int IntKind.u32 z11, Value.agg vs7] W18 (fun e7 =>
                    (fun W19 =>
                    (∃ z12 : Int, (∃ vs8 : Array Value, (e7 = Ending.returned (Value.tuple #[Value.int IntKind.u32 z12, Value.agg vs8]) ∧
                    (∀ k17 : Nat, (∀ W20 : World, (k17 = Array.size (World.heap W19) →
                    (W20 = World.alloc W19 (Obj.cells #[Value.int IntKind.i64 0, Value.int IntKind.i64 0, Value.int IntKind.u32 0] 37) →
                    (Array.size vs8 = 3 ∧
                    ((∀ k18 : Nat, (k18 < 3 →
                     ((∃ v10 : Value, World.cell? W20 (Addr.mk k17 (0 + k18) none) = some v10) ∧
                     World.frozen? W20 (Addr.mk k17 (0 + k18) none) = false))) ∧
                    ((∀ v11 : Value, (v11 ∈ Array.toList vs8 →
                     Value.oneCell' v11 = true)) ∧
                    (∀ W21 : World, (W21 = World.setCells W20 k17 0 (Array.toList vs8) →
                    (∀ W22 : World, (W22 = World.drew W21 →
                    (((0 : Int) ≤ x ∧
                     x < (↑k5 : Int)) ∧
                    Sx.adr p2 (fun k19 =>
                     (fun k20 =>
                     (∃ z13 : Int, (World.cell? W22 (Addr.mk k19 (k20 + Int.toNat x * 1) none) = some (Value.int IntKind.u32 z13) ∧
                     (∀ z14 : Int, (z14 = IntKind.wrap IntKind.u32 (z13 + 404) →
                     (∃ vs9 : Array Value, (Array.size vs9 = 5 ∧
                     (Sx.cellsAt W22 (Addr.mk k3 0 none) vs9 ∧
                     Calls Tryd.prog 9 #[Value.pointer p, Value.int IntKind.u32 z14, Value.agg vs9] W22 (fun e8 =>
                      (fun W23 =>
                      (∃ z15 : Int, (∃ vs10 : Array Value, (e8 = Ending.returned (Value.tuple #[Value.int IntKind.u32 z15, Value.agg vs10]) ∧
                      (∃ I4 : World → Prop, (((2 : Int) ≠ (0 : Int) ∧
                       (∀ z16 : Int, (z16 = Int.tmod x 2 →
                       Sx.split (z16 == 0)
                        ((∀ W24 : World, (W24 = World.drew W23 →
                         (((0 : Int) ≤ x ∧
                          x < (↑k5 : Int)) ∧
                         Sx.adr p2 (fun k21 =>
                          (fun k22 =>
                          (∃ z17 : Int, (World.cell? W24 (Addr.mk k21 (k22 + Int.toNat x * 1) none) = some (Value.int IntKind.u32 z17) ∧
                          (∀ z18 : Int, (z18 = IntKind.wrap IntKind.u32 (z17 + 408) →
                          (∃ vs11 : Array Value, (Array.size vs11 = 5 ∧
                          (Sx.cellsAt W24 (Addr.mk k 0 none) vs11 ∧
                          Calls Tryd.prog 9 #[Value.pointer p, Value.int IntKind.u32 z18, Value.agg vs11] W24 (fun e9 =>
                           (fun W25 =>
                           (∃ z19 : Int, (∃ vs12 : Array Value, (e9 = Ending.returned (Value.tuple #[Value.int IntKind.u32 z19, Value.agg vs12]) ∧
                           I4 W25))))))))))))))))))
                        (I4 W23)))) ∧
                      ((Nat →
                      Value) →
                      (∀ W26 : World, (I4 W26 →
                      (∀ W27 : World, (W27 = World.drew W26 →
                      (∃ vs13 : Array Value, (Array.size vs13 = 3 ∧
                      (Sx.cellsAt W27 (Addr.mk k17 0 none) vs13 ∧
                      (((0 : Int) ≤ x ∧
                       x < (↑k5 : Int)) ∧
                      Sx.adr p2 (fun k23 =>
                       (fun k24 =>
                       (∃ z20 : Int, (World.cell? W27 (Addr.mk k23 (k24 + Int.toNat x * 1) none) = some (Value.int IntKind.u32 z20) ∧
                       (∀ z21 : Int, (z21 = IntKind.wrap IntKind.u32 (z20 + 400) →
                       (∀ vs14 : Array Value, (vs14 = #[Value.int IntKind.i64 5, Value.int IntKind.i64 0, Value.int IntKind.i64 0, Value.int IntKind.i64 0, Value.int IntKind.i64 8] →
                       Calls Tryd.prog 10 #[Value.pointer p, Value.agg vs13, Value.int IntKind.u32 z21, Value.agg vs14, Value.bool true] W27 (fun e10 =>
                        (fun W28 =>
                        (e10 = Ending.returned (Value.tuple #[]) ∧
                        (∀ z22 : Int, (z22 = IntKind.wrap IntKind.i64 (x + 1) →
                        (I z22 W28 ∧
                        I2 z22 W28 < I2 x W10))))))))))))))))))))))))))))))))))))))))))))))))))))))))))))))))))))))))))))))))
              ((∀ z23 : Int, (z23 = IntKind.wrap IntKind.i64 (z4 - 1) →
               (∃ I5 : Int → World → Prop, (∃ I6 : Int → World → Nat, (I5 z23 W10 ∧
               ((Nat →
               Value) →
               (∀ x3 : Int, (∀ W29 : World, (I5 x3 W29 →
               Sx.split (decide (x3 ≥ 0))
                ((∃ I7 : Int → World → Prop, ((∀ W30 : World, (W30 = World.drew W29 →
                  (((0 : Int) ≤ x3 ∧
                   x3 < (↑k5 : Int)) ∧
                  Sx.adr p2 (fun k25 =>
                   (fun k26 =>
                   (∃ z24 : Int, (World.cell? W30 (Addr.mk k25 (k26 + Int.toNat x3 * 1) none) = some (Value.int IntKind.u32 z24) ∧
                   (∀ z25 : Int, (z25 = IntKind.wrap IntKind.u32 (z24 + 500) →
                   (∃ vs15 : Array Value, (Array.size vs15 = 5 ∧
                   (Sx.cellsAt W30 (Addr.mk k3 0 none) vs15 ∧
                   (Calls Tryd.prog 9 #[Value.pointer p, Value.int IntKind.u32 z25, Value.agg vs15] W30 (fun e11 =>
                     (fun W31 =>
                     (∃ z26 : Int, (∃ vs16 : Array Value, (e11 = Ending.returned (Value.tuple #[Value.int IntKind.u32 z26, Value.agg vs16]) ∧
                     (∀ k27 : Nat, (∀ W32 : World, (k27 = Array.size (World.heap W31) →
                     (W32 = World.alloc W31 (Obj.cells #[Value.int IntKind.i64 0, Value.int IntKind.i64 0, Value.int IntKind.u32 0] 37) →
                     (Array.size vs16 = 3 ∧
                     ((∀ k28 : Nat, (k28 < 3 →
                      ((∃ v12 : Value, World.cell? W32 (Addr.mk k27 (0 + k28) none) = some v12) ∧
                      World.frozen? W32 (Addr.mk k27 (0 + k28) none) = false))) ∧
                     ((∀ v13 : Value, (v13 ∈ Array.toList vs16 →
                      Value.oneCell' v13 = true)) ∧
                     (∀ W33 : World, (W33 = World.setCells W32 k27 0 (Array.toList vs16) →
                     I7 z26 W33)))))))))))))) ∧
                   (∀ k29 : Nat, (∀ W34 : World, (k29 = Array.size (World.heap W30) →
                   (W34 = World.alloc W30 (Obj.cells #[Value.int IntKind.i64 0, Value.int IntKind.i64 0, Value.int IntKind.u32 0] 37) →
                   (RowKit.Below (Array.size (World.heap W30)) W30 W34 ∧
                   Calls Tryd.prog 9 #[Value.pointer p, Value.int IntKind.u32 z25, Value.agg vs15] W34 (fun e12 =>
                    (fun W35 =>
                    (∃ z27 : Int, (∃ vs17 : Array Value, (e12 = Ending.returned (Value.tuple #[Value.int IntKind.u32 z27, Value.agg vs17]) ∧
                    (Array.size vs17 = 3 ∧
                    ((∀ k30 : Nat, (k30 < 3 →
                     ((∃ v14 : Value, World.cell? W35 (Addr.mk k29 (0 + k30) none) = some v14) ∧
                     World.frozen? W35 (Addr.mk k29 (0 + k30) none) = false))) ∧
                    ((∀ v15 : Value, (v15 ∈ Array.toList vs17 →
                     Value.oneCell' v15 = true)) ∧
                    (∀ W36 : World, (W36 = World.setCells W35 k29 0 (Array.toList vs17) →
                    I7 z27 W36)))))))))))))))))))))))))))) ∧
                 ((Nat →
                 Value) →
                 (∀ x4 : Int, (∀ W37 : World, (I7 x4 W37 →
                 (((0 : Int) ≤ x3 ∧
                  x3 < (↑k5 : Int)) ∧
                 Sx.adr p2 (fun k31 =>
                  (fun k32 =>
                  (∃ z28 : Int, (World.cell? W37 (Addr.mk k31 (k32 + Int.toNat x3 * 1) none) = some (Value.int IntKind.u32 z28) ∧
                  (∀ z29 : Int, (z29 = IntKind.wrap IntKind.u32 (z28 + 4) →
                  Sx.split (x4 != z29)
                   (Q (Ending.returned (Value.bool false)) W37)
                   ((∀ z30 : Int, (z30 = IntKind.wrap IntKind.i64 (x3 - 1) →
                    (I5 z30 W37 ∧
                    I6 z30 W37 < I6 x3 W29))))))))))))))))))
                (Q (Ending.returned (Value.bool true)) W29))))))))))))))))))))))))))))))))))))))))))))))))))))))))))))))))))))) :
  Calls Tryd.prog 3 #[Value.int .i64 a0, Value.int .i64 a1, Value.slice a2 a2n a2c] W Q :=
  Sx.sound Tryd.func3 (.node [] [] 0 .leaf (.node [] [] 0 .leaf (.node [] [] 0 .leaf (.node [] [] 0 .leaf (.node [] [] 0 .leaf (.node [] [] 0 .leaf (.node [] [] 0 .leaf (.node [] [] 0 .leaf (.node [] [] 0 (.node [] [] 0 .leaf (.node [] [] 0 (.node [(14, .int .i64)] [10, 8, 13, 11, 12] 0 (.node [] [] 0 .leaf (.node [] [] 0 (.node [] [] 0 (.node [(15, .int .u32)] [13, 14, 8, 12, 11, 10] 1 (.node [] [] 1007 .leaf .leaf) (.node [] [] 0 .leaf (.node [] [] 0 .leaf (.node [] [] 0 (.node [] [] 8 .leaf .leaf) (.node [] [8, 18, 13, 14, 10, 11, 12] 1 (.node [] [] 0 .leaf (.node [] [] 0 (.node [] [] 8 .leaf .leaf) .leaf)) (.node [] [] 9 .leaf .leaf)))))) .leaf) .leaf)) .leaf) .leaf)) (.node [] [] 0 (.node [] [] 0 .leaf (.node [] [] 0 (.node [(19, .int .i64)] [8, 13, 12] 0 (.node [] [] 0 .leaf (.node [] [] 0 (.node [] [] 0 (.node [(20, .int .u32)] [13, 19, 8, 12] 1 (.node [] [] 1008 .leaf .leaf) .leaf) .leaf) .leaf)) .leaf) .leaf)) .leaf)))))))))) [Value.int .i64 a0, Value.int .i64 a1, Value.slice a2 a2n a2c] rfl (Eq.mp (by kernel_rfl) h)
end Go.Proofs.YtgcakilmmeopaaaDoor
