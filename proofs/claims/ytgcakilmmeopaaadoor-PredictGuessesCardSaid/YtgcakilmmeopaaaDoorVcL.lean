/- What each function asks, reckoned out of its text; printed by a program of mine (wip/tpl/VcTool.lean). No condition. -/
import Derived.Test.YtgcakilmmeopaaaDoorSxB
import Derived.Test.YtgcakilmmeopaaaDoorChecked
namespace Go.Proofs.YtgcakilmmeopaaaDoor
open Go Go.Proofs
set_option linter.unusedVariables false
set_option maxRecDepth 100000
theorem vc4 {W : World} {Q : Ending → World → Prop} (a0 : Int) (a1 : Int) (a2 : Option Addr) (a2n : Nat) (a2c : Nat) (a3 : Bool) (a4 : Int)
  (h :
    Calls Tryd.prog 6 #[Value.int IntKind.i64 a0, Value.int IntKind.i64 10] W (fun e =>
     (fun W2 =>
     (∃ z : Int, (e = Ending.returned (Value.int IntKind.i64 z) ∧
     (∀ z2 : Int, (z2 = IntKind.wrap IntKind.i64 (1 + z) →
     (∀ vs : Array Value, (vs = #[Value.int IntKind.i64 2, Value.int IntKind.i64 z2, Value.int IntKind.i64 0, Value.int IntKind.i64 3, Value.int IntKind.i64 4] →
     Calls Tryd.prog 7 #[Value.agg vs] W2 (fun e2 =>
      (fun W3 =>
      (∃ p : Option Addr, (∃ v : Value, (e2 = Ending.returned (Value.tuple #[Value.pointer p, v]) ∧
      Sx.isNil v (fun t =>
       Sx.split (!t)
        (Q (Ending.returned (Value.bool false)) W3)
        (Sx.split (Option.isNone p)
          (Q (Ending.returned (Value.bool false)) W3)
          ((∀ vs2 : Array Value, (vs2 = #[Value.int IntKind.i64 6, Value.int IntKind.i64 0, Value.int IntKind.i64 1, Value.int IntKind.i64 0, Value.int IntKind.i64 64] →
           (∀ k : Nat, (∀ W4 : World, (k = Array.size (World.heap W3) →
           (W4 = World.alloc W3 (Obj.cells #[Value.int IntKind.i64 0, Value.int IntKind.i64 0, Value.int IntKind.i64 0, Value.int IntKind.i64 0, Value.int IntKind.i64 0] 33) →
           (Array.size vs2 = 5 ∧
           ((∀ k2 : Nat, (k2 < 5 →
            ((∃ v2 : Value, World.cell? W4 (Addr.mk k (0 + k2) none) = some v2) ∧
            World.frozen? W4 (Addr.mk k (0 + k2) none) = false))) ∧
           ((∀ v3 : Value, (v3 ∈ Array.toList vs2 →
            Value.oneCell' v3 = true)) ∧
           (∀ W5 : World, (W5 = World.setCells W4 k 0 (Array.toList vs2) →
           (∃ I : World → Prop, ((∃ I2 : Int → World → Prop, (∃ I3 : Int → World → Nat, (I2 0 W5 ∧
            ((Nat →
            Value) →
            (∀ x : Int, (∀ W6 : World, (I2 x W6 →
            Sx.split (decide (x < (↑a2n : Int)))
             (Sx.split (decide (x < 4096))
               ((∃ vs3 : Array Value, (Array.size vs3 = 5 ∧
                (Sx.cellsAt W6 (Addr.mk k 0 none) vs3 ∧
                Calls Tryd.prog 9 #[Value.pointer p, Value.int IntKind.u32 a1, Value.agg vs3] W6 (fun e3 =>
                 (fun W7 =>
                 (∃ z3 : Int, (∃ vs4 : Array Value, (e3 = Ending.returned (Value.tuple #[Value.int IntKind.u32 z3, Value.agg vs4]) ∧
                 (∀ k3 : Nat, (∀ W8 : World, (k3 = Array.size (World.heap W7) →
                 (W8 = World.alloc W7 (Obj.cells #[Value.int IntKind.i64 0, Value.int IntKind.i64 0, Value.int IntKind.u32 0] 37) →
                 (Array.size vs4 = 3 ∧
                 ((∀ k4 : Nat, (k4 < 3 →
                  ((∃ v4 : Value, World.cell? W8 (Addr.mk k3 (0 + k4) none) = some v4) ∧
                  World.frozen? W8 (Addr.mk k3 (0 + k4) none) = false))) ∧
                 ((∀ v5 : Value, (v5 ∈ Array.toList vs4 →
                  Value.oneCell' v5 = true)) ∧
                 (∀ W9 : World, (W9 = World.setCells W8 k3 0 (Array.toList vs4) →
                 (∀ W10 : World, (W10 = World.drew W9 →
                 (∃ vs5 : Array Value, (Array.size vs5 = 3 ∧
                 (Sx.cellsAt W10 (Addr.mk k3 0 none) vs5 ∧
                 (∃ vs6 : Array Value, (Array.size vs6 = 5 ∧
                 (Sx.cellsAt W10 (Addr.mk k 0 none) vs6 ∧
                 (((0 : Int) ≤ x ∧
                  x < (↑a2n : Int)) ∧
                 Sx.adr a2 (fun k5 =>
                  (fun k6 =>
                  (∃ t2 : Bool, (World.cell? W10 (Addr.mk k5 (k6 + Int.toNat x * 1) none) = some (Value.bool t2) ∧
                  Calls Tryd.prog 11 #[Value.pointer p, Value.agg vs5, Value.int IntKind.u32 a1, Value.agg vs6, Value.bool t2, Value.int IntKind.u32 0] W10 (fun e4 =>
                   (fun W11 =>
                   (e4 = Ending.returned (Value.tuple #[]) ∧
                   (∀ z4 : Int, (z4 = IntKind.wrap IntKind.i64 (x + 1) →
                   (I2 z4 W11 ∧
                   I3 z4 W11 < I3 x W6)))))))))))))))))))))))))))))))))))))
               (I W6))
             (I W6)))))))) ∧
           ((Nat →
           Value) →
           (∀ W12 : World, (I W12 →
           (∃ I4 : World → Prop, ((∃ I5 : Int → World → Prop, (∃ I6 : Int → World → Nat, (I5 0 W12 ∧
            ((Nat →
            Value) →
            (∀ x2 : Int, (∀ W13 : World, (I5 x2 W13 →
            Sx.split (decide (x2 < 2))
             ((∃ vs7 : Array Value, (Array.size vs7 = 5 ∧
              (Sx.cellsAt W13 (Addr.mk k 0 none) vs7 ∧
              Calls Tryd.prog 9 #[Value.pointer p, Value.int IntKind.u32 a1, Value.agg vs7] W13 (fun e5 =>
               (fun W14 =>
               (∃ z5 : Int, (∃ vs8 : Array Value, (e5 = Ending.returned (Value.tuple #[Value.int IntKind.u32 z5, Value.agg vs8]) ∧
               (∀ k7 : Nat, (∀ W15 : World, (k7 = Array.size (World.heap W14) →
               (W15 = World.alloc W14 (Obj.cells #[Value.int IntKind.i64 0, Value.int IntKind.i64 0, Value.int IntKind.u32 0] 37) →
               (Array.size vs8 = 3 ∧
               ((∀ k8 : Nat, (k8 < 3 →
                ((∃ v6 : Value, World.cell? W15 (Addr.mk k7 (0 + k8) none) = some v6) ∧
                World.frozen? W15 (Addr.mk k7 (0 + k8) none) = false))) ∧
               ((∀ v7 : Value, (v7 ∈ Array.toList vs8 →
                Value.oneCell' v7 = true)) ∧
               (∀ W16 : World, (W16 = World.setCells W15 k7 0 (Array.toList vs8) →
               (∃ vs9 : Array Value, (Array.size vs9 = 3 ∧
               (Sx.cellsAt W16 (Addr.mk k7 0 none) vs9 ∧
               (∃ vs10 : Array Value, (Array.size vs10 = 5 ∧
               (Sx.cellsAt W16 (Addr.mk k 0 none) vs10 ∧
               (∀ z6 : Int, (z6 = IntKind.wrap IntKind.u32 (a1 + 64) →
               Calls Tryd.prog 11 #[Value.pointer p, Value.agg vs9, Value.int IntKind.u32 a1, Value.agg vs10, Value.bool a3, Value.int IntKind.u32 z6] W16 (fun e6 =>
                (fun W17 =>
                (e6 = Ending.returned (Value.tuple #[]) ∧
                (∀ z7 : Int, (z7 = IntKind.wrap IntKind.i64 (x2 + 1) →
                (I5 z7 W17 ∧
                I6 z7 W17 < I6 x2 W13))))))))))))))))))))))))))))))))
             (I4 W13)))))))) ∧
           ((Nat →
           Value) →
           (∀ W18 : World, (I4 W18 →
           (∃ vs11 : Array Value, (Array.size vs11 = 5 ∧
           (Sx.cellsAt W18 (Addr.mk k 0 none) vs11 ∧
           Calls Tryd.prog 9 #[Value.pointer p, Value.int IntKind.u32 a1, Value.agg vs11] W18 (fun e7 =>
            (fun W19 =>
            (∃ z8 : Int, (∃ vs12 : Array Value, (e7 = Ending.returned (Value.tuple #[Value.int IntKind.u32 z8, Value.agg vs12]) ∧
            (∀ k9 : Nat, (∀ W20 : World, (k9 = Array.size (World.heap W19) →
            (W20 = World.alloc W19 (Obj.cells #[Value.int IntKind.i64 0, Value.int IntKind.i64 0, Value.int IntKind.u32 0] 37) →
            (Array.size vs12 = 3 ∧
            ((∀ k10 : Nat, (k10 < 3 →
             ((∃ v8 : Value, World.cell? W20 (Addr.mk k9 (0 + k10) none) = some v8) ∧
             World.frozen? W20 (Addr.mk k9 (0 + k10) none) = false))) ∧
            ((∀ v9 : Value, (v9 ∈ Array.toList vs12 →
             Value.oneCell' v9 = true)) ∧
            (∀ W21 : World, (W21 = World.setCells W20 k9 0 (Array.toList vs12) →
            (∀ vs13 : Array Value, (vs13 = #[Value.int IntKind.i64 4, Value.int IntKind.i64 0, Value.int IntKind.i64 5, Value.int IntKind.i64 0, Value.int IntKind.i64 0] →
            (∀ k11 : Nat, (∀ W22 : World, (k11 = Array.size (World.heap W21) →
            (W22 = World.alloc W21 (Obj.cells #[Value.int IntKind.i64 0, Value.int IntKind.i64 0, Value.int IntKind.i64 0, Value.int IntKind.i64 0, Value.int IntKind.i64 0] 33) →
            (Array.size vs13 = 5 ∧
            ((∀ k12 : Nat, (k12 < 5 →
             ((∃ v10 : Value, World.cell? W22 (Addr.mk k11 (0 + k12) none) = some v10) ∧
             World.frozen? W22 (Addr.mk k11 (0 + k12) none) = false))) ∧
            ((∀ v11 : Value, (v11 ∈ Array.toList vs13 →
             Value.oneCell' v11 = true)) ∧
            (∀ W23 : World, (W23 = World.setCells W22 k11 0 (Array.toList vs13) →
            (∃ vs14 : Array Value, (Array.size vs14 = 5 ∧
            (Sx.cellsAt W23 (Addr.mk k11 0 none) vs14 ∧
            Calls Tryd.prog 9 #[Value.pointer p, Value.int IntKind.u32 a1, Value.agg vs14] W23 (fun e8 =>
             (fun W24 =>
             (∃ z9 : Int, (∃ vs15 : Array Value, (e8 = Ending.returned (Value.tuple #[Value.int IntKind.u32 z9, Value.agg vs15]) ∧
             (∀ k13 : Nat, (∀ W25 : World, (k13 = Array.size (World.heap W24) →
             (W25 = World.alloc W24 (Obj.cells #[Value.int IntKind.i64 0, Value.int IntKind.i64 0, Value.int IntKind.u32 0] 37) →
             (Array.size vs15 = 3 ∧
             ((∀ k14 : Nat, (k14 < 3 →
              ((∃ v12 : Value, World.cell? W25 (Addr.mk k13 (0 + k14) none) = some v12) ∧
              World.frozen? W25 (Addr.mk k13 (0 + k14) none) = false))) ∧
             ((∀ v13 : Value, (v13 ∈ Array.toList vs15 →
              Value.oneCell' v13 = true)) ∧
             (∀ W26 : World, (W26 = World.setCells W25 k13 0 (Array.toList vs15) →
             (∃ vs16 : Array Value, (Array.size vs16 = 3 ∧
             (Sx.cellsAt W26 (Addr.mk k13 0 none) vs16 ∧
             (∃ vs17 : Array Value, (Array.size vs17 = 5 ∧
             (Sx.cellsAt W26 (Addr.mk k11 0 none) vs17 ∧
             Calls Tryd.prog 11 #[Value.pointer p, Value.agg vs16, Value.int IntKind.u32 a1, Value.agg vs17, Value.bool true, Value.int IntKind.u32 a4] W26 (fun e9 =>
              (fun W27 =>
              (e9 = Ending.returned (Value.tuple #[]) ∧
              (∃ vs18 : Array Value, (Array.size vs18 = 5 ∧
              (Sx.cellsAt W27 (Addr.mk k11 0 none) vs18 ∧
              Calls Tryd.prog 9 #[Value.pointer p, Value.int IntKind.u32 a1, Value.agg vs18] W27 (fun e10 =>
               (fun W28 =>
               (∃ z10 : Int, (∃ vs19 : Array Value, (e10 = Ending.returned (Value.tuple #[Value.int IntKind.u32 z10, Value.agg vs19]) ∧
               (∀ k15 : Nat, (∀ W29 : World, (k15 = Array.size (World.heap W28) →
               (W29 = World.alloc W28 (Obj.cells #[Value.int IntKind.i64 0, Value.int IntKind.i64 0, Value.int IntKind.u32 0] 37) →
               (Array.size vs19 = 3 ∧
               ((∀ k16 : Nat, (k16 < 3 →
                ((∃ v14 : Value, World.cell? W29 (Addr.mk k15 (0 + k16) none) = some v14) ∧
                World.frozen? W29 (Addr.mk k15 (0 + k16) none) = false))) ∧
               ((∀ v15 : Value, (v15 ∈ Array.toList vs19 →
                Value.oneCell' v15 = true)) ∧
               (∀ W30 : World, (W30 = World.setCells W29 k15 0 (Array.toList vs19) →
               (∀ z11 : Int, (z11 = IntKind.wrap IntKind.u32 (a1 + 4) →
               Sx.split a3
                ((∀ z12 : Int, (z12 = IntKind.wrap IntKind.u32 (a1 + 64) →
                 Sx.split (z8 == z12)
                  (Q (Ending.returned (Value.bool (z10 == a4))) W30)
                  (Q (Ending.returned (Value.bool false)) W30))))
                (Sx.split (z8 == z11)
                  (Q (Ending.returned (Value.bool (z10 == a4))) W30)
                  (Q (Ending.returned (Value.bool false)) W30))))))))))))))))))))))))))))))))))))))))))))))))))))))))))))))))))))))))))))))))))))))))))))))))))))))))))))))))) :
  Calls Tryd.prog 4 #[Value.int .i64 a0, Value.int .u32 a1, Value.slice a2 a2n a2c, Value.bool a3, Value.int .u32 a4] W Q :=
  Sx.sound Tryd.func4 (.node [] [] 0 .leaf (.node [] [] 0 .leaf (.node [] [] 0 .leaf (.node [] [] 0 .leaf (.node [] [] 0 .leaf (.node [] [12, 1, 14, 3, 4] 1 (.node [] [] 0 .leaf (.node [] [] 0 (.node [(15, .int .i64)] [2, 12, 1, 14, 3, 4] 0 (.node [] [] 0 .leaf (.node [] [] 0 (.node [] [] 0 (.node [] [] 0 .leaf (.node [] [] 9 .leaf .leaf)) .leaf) .leaf)) .leaf) .leaf)) (.node [] [12, 1, 14, 4, 3] 1 (.node [] [] 0 .leaf (.node [] [] 0 (.node [(18, .int .i64)] [12, 1, 14, 3, 4] 0 .leaf .leaf) .leaf)) .leaf))))))) [Value.int .i64 a0, Value.int .u32 a1, Value.slice a2 a2n a2c, Value.bool a3, Value.int .u32 a4] rfl (Eq.mp (by kernel_rfl) h)
end Go.Proofs.YtgcakilmmeopaaaDoor
