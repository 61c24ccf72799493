/- What each function asks, reckoned out of its text; printed by a program of mine (wip/tpl/VcTool.lean). No condition. -/
import Derived.Test.YtbiogceijdcoiaaDoorSxB
import Derived.Test.YtbiogceijdcoiaaDoorChecked
namespace Go.Proofs.YtbiogceijdcoiaaDoor
open Go Go.Proofs
set_option linter.unusedVariables false
set_option maxRecDepth 100000
theorem vc7 {W : World} {Q : Ending → World → Prop} (err : Value) (e : Int)
  (hVC :
    Calls Tryd.prog 26 #[err] W (fun e2 =>
     (fun W2 =>
     (∃ z : Int, (e2 = Ending.returned (Value.int IntKind.i64 z) ∧
     Q (Ending.returned (Value.bool (z == e))) W2))))) :
  Calls Tryd.prog 7 #[err, Value.int .i64 e] W Q :=
  Sx.sound Tryd.func7 .leaf [err, Value.int .i64 e] rfl (Eq.mp (by kernel_rfl) hVC)
theorem vc10 {W : World} {Q : Ending → World → Prop} (arg0 : Option Addr) (arg0n : Nat) (arg0c : Nat) (arg1 : Option Addr) (arg1n : Nat) (arg1c : Nat)
  (hVC :
    Sx.split ((↑arg0n : Int) != (↑arg1n : Int))
     (Q (Ending.returned (Value.bool false)) W)
     ((∃ I : Int → World → Prop, (∃ I2 : Int → World → Nat, (I 0 W ∧
      ((Nat →
      Value) →
      (∀ x : Int, (∀ W2 : World, (I x W2 →
      Sx.split (decide (x < (↑arg1n : Int)))
       ((((0 : Int) ≤ x ∧
         x < (↑arg0n : Int)) ∧
        Sx.adr arg0 (fun k =>
         (fun k2 =>
         (∃ z : Int, (World.cell? W2 (Addr.mk k (k2 + Int.toNat x * 4) none) = some (Value.int IntKind.i64 z) ∧
         (((0 : Int) ≤ x ∧
          x < (↑arg1n : Int)) ∧
         Sx.adr arg1 (fun k3 =>
          (fun k4 =>
          (∃ z2 : Int, (World.cell? W2 (Addr.mk k3 (k4 + Int.toNat x * 4) none) = some (Value.int IntKind.i64 z2) ∧
          Sx.split (z != z2)
           ((∀ W3 : World, (∀ k5 : Nat, (W3 = World.drewN W2 k5 →
            Q (Ending.returned (Value.bool false)) W3))))
           ((((0 : Int) ≤ x ∧
             x < (↑arg0n : Int)) ∧
            Sx.adr arg0 (fun k6 =>
             (fun k7 =>
             (∃ z3 : Int, (World.cell? W2 (Addr.mk k6 (k7 + Int.toNat x * 4 + 1) none) = some (Value.int IntKind.u32 z3) ∧
             (∀ z4 : Int, (z4 = IntKind.wrap IntKind.i64 z3 →
             (((0 : Int) ≤ x ∧
              x < (↑arg1n : Int)) ∧
             Sx.adr arg1 (fun k8 =>
              (fun k9 =>
              (∃ z5 : Int, (World.cell? W2 (Addr.mk k8 (k9 + Int.toNat x * 4 + 1) none) = some (Value.int IntKind.i64 z5) ∧
              Sx.split (z4 != z5)
               ((∀ W4 : World, (∀ k10 : Nat, (W4 = World.drewN W2 k10 →
                Q (Ending.returned (Value.bool false)) W4))))
               ((((0 : Int) ≤ x ∧
                 x < (↑arg0n : Int)) ∧
                Sx.adr arg0 (fun k11 =>
                 (fun k12 =>
                 (∃ z6 : Int, (World.cell? W2 (Addr.mk k11 (k12 + Int.toNat x * 4 + 2) none) = some (Value.int IntKind.i64 z6) ∧
                 (((0 : Int) ≤ x ∧
                  x < (↑arg1n : Int)) ∧
                 Sx.adr arg1 (fun k13 =>
                  (fun k14 =>
                  (∃ z7 : Int, (World.cell? W2 (Addr.mk k13 (k14 + Int.toNat x * 4 + 2) none) = some (Value.int IntKind.i64 z7) ∧
                  Sx.split (z6 != z7)
                   ((∀ W5 : World, (∀ k15 : Nat, (W5 = World.drewN W2 k15 →
                    Q (Ending.returned (Value.bool false)) W5))))
                   ((((0 : Int) ≤ x ∧
                     x < (↑arg0n : Int)) ∧
                    Sx.adr arg0 (fun k16 =>
                     (fun k17 =>
                     (∃ z8 : Int, (World.cell? W2 (Addr.mk k16 (k17 + Int.toNat x * 4 + 3) none) = some (Value.int IntKind.i64 z8) ∧
                     (((0 : Int) ≤ x ∧
                      x < (↑arg1n : Int)) ∧
                     Sx.adr arg1 (fun k18 =>
                      (fun k19 =>
                      (∃ z9 : Int, (World.cell? W2 (Addr.mk k18 (k19 + Int.toNat x * 4 + 3) none) = some (Value.int IntKind.i64 z9) ∧
                      (∀ W6 : World, (∀ k20 : Nat, (W6 = World.drewN W2 k20 →
                      Sx.split (z8 != z9)
                       (Q (Ending.returned (Value.bool false)) W6)
                       ((∀ vs : Array Value, (vs = #[Value.int IntKind.i64 (-1), Value.int IntKind.u32 0, Value.int IntKind.i64 0, Value.int IntKind.i64 0] →
                        (((0 : Int) ≤ x ∧
                         x < (↑arg0n : Int)) ∧
                        Sx.adr arg0 (fun k21 =>
                         (fun k22 =>
                         (Array.size vs = 4 ∧
                         ((∀ k23 : Nat, (k23 < 4 →
                          ((∃ v : Value, World.cell? W6 (Addr.mk k21 (k22 + Int.toNat x * 4 + k23) none) = some v) ∧
                          World.frozen? W6 (Addr.mk k21 (k22 + Int.toNat x * 4 + k23) none) = false))) ∧
                         ((∀ v2 : Value, (v2 ∈ Array.toList vs →
                          Value.oneCell' v2 = true)) ∧
                         (∀ W7 : World, (W7 = World.setCells W6 k21 (k22 + Int.toNat x * 4) (Array.toList vs) →
                         (∀ z10 : Int, (z10 = IntKind.wrap IntKind.i64 (x + 1) →
                         (I z10 W7 ∧
                         I2 z10 W7 < I2 x W2)))))))))))))))))))))))))))))))))))))))))))))))))))))))))))))))
       ((∃ I3 : Int → Option Addr → Nat → Nat → World → Prop, (∃ I4 : Int → Option Addr → Nat → Nat → World → Nat, (I3 0 arg0 arg0n arg0c W2 ∧
        ((Nat →
        Value) →
        (∀ x2 : Int, (∀ x3 : Option Addr, (∀ k24 : Nat, (∀ k25 : Nat, (∀ W8 : World, (I3 x2 x3 k24 k25 W8 →
        Sx.split (decide (x2 < 40))
         ((∀ vs2 : Array Value, (vs2 = #[Value.int IntKind.i64 (-2), Value.int IntKind.u32 0, Value.int IntKind.i64 0, Value.int IntKind.i64 0] →
          (Array.size vs2 = 4 ∧
          (∀ k26 : Nat, (∀ W9 : World, (k26 = Array.size (World.heap W8) →
          (W9 = World.alloc W8 (Obj.cells (List.toArray (Array.toList vs2 ++ [])) 81) →
          (∃ l : List Value, (∃ l2 : List Value, (XHeap.Sl W9 81 4 (Value.slice x3 k24 k25) k24 l ∧
          (((((1 : Nat) = (0 : Nat) ∧
            some (Addr.mk k26 0 none) = none)) ∨
           ((∃ a : Addr, (some (Addr.mk k26 0 none) = some a ∧
           (∀ k27 : Nat, (∀ v3 : Value, (l2[k27]? = some v3 →
           World.cell? W9 (Addr.add a k27) = some v3))))))) ∧
          (List.length l2 = 4 ∧
          ((∀ v4 : Value, (v4 ∈ l2 →
           Value.oneCell' v4 = true)) ∧
          (k24 + 1 ≤ maxLen ∧
          ((k24 + 1) * 32 ≤ 140737488355328 ∧
          (∀ p : Option Addr, (∀ k28 : Nat, (∀ W10 : World, (XHeap.Sl W10 81 4 (Value.slice p (k24 + 1) k28) (k24 + 1) (l ++ l2) →
          (XHeap.XTouch (fun b => Value.ownBlock (Value.slice x3 k24 k25) = some b) W9 W10 →
          ((∀ k29 : Nat, (Value.ownBlock (Value.slice p (k24 + 1) k28) = some k29 →
          ((Value.ownBlock (Value.slice x3 k24 k25) = some k29) ∨
          (Array.size (World.heap W9) ≤ k29)))) →
          (XHeap.Sl W10 81 4 (Value.slice x3 k24 k25) k24 l →
          ((((p = x3 ∧
           k28 = k25)) ∨
          ((((XHeap.NilP x3) ∨
           (k25 < k24 + 1)) ∧
          (∀ k30 : Nat, (Value.ownBlock (Value.slice p (k24 + 1) k28) = some k30 →
          Array.size (World.heap W9) ≤ k30))))) →
          (∀ z11 : Int, (z11 = IntKind.wrap IntKind.i64 (x2 + 1) →
          (I3 z11 p (k24 + 1) k28 W10 ∧
          I4 z11 p (k24 + 1) k28 W10 < I4 x2 x3 k24 k25 W8)))))))))))))))))))))))))))
         ((∀ z12 : Int, (z12 = IntKind.wrap IntKind.i64 ((↑arg0n : Int) + 40) →
          Q (Ending.returned (Value.bool ((↑k24 : Int) == z12))) W8))))))))))))))))))))))) :
  Calls Tryd.prog 10 #[Value.slice arg0 arg0n arg0c, Value.slice arg1 arg1n arg1c] W Q :=
  Sx.sound Tryd.func10 (.node [] [] 0 .leaf (.node [] [] 0 .leaf (.node [] [] 0 (.node [] [] 0 .leaf (.node [] [] 0 (.node [(5, .int .i64)] [1, 0] 0 .leaf .leaf) .leaf)) (.node [] [] 0 .leaf (.node [] [] 0 (.node [] [] 0 .leaf (.node [] [] 0 (.node [(7, .int .i64), (6, .slice)] [0] 0 .leaf .leaf) .leaf)) .leaf))))) [Value.slice arg0 arg0n arg0c, Value.slice arg1 arg1n arg1c] rfl (Eq.mp (by kernel_rfl) hVC)
theorem vc21 {W : World} {Q : Ending → World → Prop} (l : Option Addr) (ln : Nat) (lc : Nat) (m : Option Addr) (mn : Nat) (mc : Nat)
  (hVC :
    Sx.split ((↑ln : Int) != (↑mn : Int))
     (Q (Ending.returned (Value.bool false)) W)
     ((∃ I : Int → World → Prop, (∃ I2 : Int → World → Nat, (I 0 W ∧
      ((Nat →
      Value) →
      (∀ i : Int, (∀ W2 : World, (I i W2 →
      Sx.split (decide (i < (↑mn : Int)))
       ((((0 : Int) ≤ i ∧
         i < (↑ln : Int)) ∧
        Sx.adr l (fun k =>
         (fun k2 =>
         (∃ z : Int, (World.cell? W2 (Addr.mk k (k2 + Int.toNat i * 1) none) = some (Value.int IntKind.u8 z) ∧
         (((0 : Int) ≤ i ∧
          i < (↑mn : Int)) ∧
         Sx.adr m (fun k3 =>
          (fun k4 =>
          (∃ z2 : Int, (World.cell? W2 (Addr.mk k3 (k4 + Int.toNat i * 1) none) = some (Value.int IntKind.u8 z2) ∧
          (∀ W3 : World, (∀ k5 : Nat, (W3 = World.drewN W2 k5 →
          Sx.split (z != z2)
           (Q (Ending.returned (Value.bool false)) W3)
           ((((0 : Int) ≤ i ∧
             i < (↑ln : Int)) ∧
            Sx.adr l (fun k6 =>
             (fun k7 =>
             (∃ z3 : Int, (World.cell? W3 (Addr.mk k6 (k7 + Int.toNat i * 1) none) = some (Value.int IntKind.u8 z3) ∧
             (∀ z4 : Int, (z4 = IntKind.wrap IntKind.u8 (z3 + 101) →
             (((0 : Int) ≤ i ∧
              i < (↑ln : Int)) ∧
             Sx.adr l (fun k8 =>
              (fun k9 =>
              ((∃ v : Value, World.cell? W3 (Addr.mk k8 (k9 + Int.toNat i * 1) none) = some v) ∧
              (World.frozen? W3 (Addr.mk k8 (k9 + Int.toNat i * 1) none) = false ∧
              (∀ W4 : World, (W4 = World.setCell W3 (Addr.mk k8 (k9 + Int.toNat i * 1) none) (Value.int IntKind.u8 z4) →
              (∀ z5 : Int, (z5 = IntKind.wrap IntKind.i64 (i + 1) →
              (I z5 W4 ∧
              I2 z5 W4 < I2 i W2))))))))))))))))))))))))))))))))
       ((∃ I3 : Int → Option Addr → Nat → Nat → World → Prop, (∃ I4 : Int → Option Addr → Nat → Nat → World → Nat, (I3 0 l ln lc W2 ∧
        ((Nat →
        Value) →
        (∀ i2 : Int, (∀ g : Option Addr, (∀ k10 : Nat, (∀ k11 : Nat, (∀ W5 : World, (I3 i2 g k10 k11 W5 →
        Sx.split (decide (i2 < 70))
         ((∀ k12 : Nat, (∀ W6 : World, (k12 = Array.size (World.heap W5) →
          (W6 = World.alloc W5 (Obj.cells #[Value.int IntKind.u8 238] 5) →
          (∃ l2 : List Value, (∃ l3 : List Value, (XHeap.Sl W6 5 1 (Value.slice g k10 k11) k10 l2 ∧
          (((((1 : Nat) = (0 : Nat) ∧
            some (Addr.mk k12 0 none) = none)) ∨
           ((∃ a : Addr, (some (Addr.mk k12 0 none) = some a ∧
           (∀ k13 : Nat, (∀ v2 : Value, (l3[k13]? = some v2 →
           World.cell? W6 (Addr.add a k13) = some v2))))))) ∧
          (List.length l3 = 1 ∧
          ((∀ v3 : Value, (v3 ∈ l3 →
           Value.oneCell' v3 = true)) ∧
          (k10 + 1 ≤ maxLen ∧
          ((k10 + 1) * 1 ≤ 140737488355328 ∧
          (∀ p : Option Addr, (∀ k14 : Nat, (∀ W7 : World, (XHeap.Sl W7 5 1 (Value.slice p (k10 + 1) k14) (k10 + 1) (l2 ++ l3) →
          (XHeap.XTouch (fun b => Value.ownBlock (Value.slice g k10 k11) = some b) W6 W7 →
          ((∀ k15 : Nat, (Value.ownBlock (Value.slice p (k10 + 1) k14) = some k15 →
          ((Value.ownBlock (Value.slice g k10 k11) = some k15) ∨
          (Array.size (World.heap W6) ≤ k15)))) →
          (XHeap.Sl W7 5 1 (Value.slice g k10 k11) k10 l2 →
          ((((p = g ∧
           k14 = k11)) ∨
          ((((XHeap.NilP g) ∨
           (k11 < k10 + 1)) ∧
          (∀ k16 : Nat, (Value.ownBlock (Value.slice p (k10 + 1) k14) = some k16 →
          Array.size (World.heap W6) ≤ k16))))) →
          (∀ z6 : Int, (z6 = IntKind.wrap IntKind.i64 (i2 + 1) →
          (I3 z6 p (k10 + 1) k14 W7 ∧
          I4 z6 p (k10 + 1) k14 W7 < I4 i2 g k10 k11 W5))))))))))))))))))))))))
         ((∀ z7 : Int, (z7 = IntKind.wrap IntKind.i64 ((↑ln : Int) + 70) →
          Q (Ending.returned (Value.bool ((↑k10 : Int) == z7))) W5))))))))))))))))))))))) :
  Calls Tryd.prog 21 #[Value.slice l ln lc, Value.slice m mn mc] W Q :=
  Sx.sound Tryd.func21 (.node [] [] 0 .leaf (.node [] [] 0 .leaf (.node [] [] 0 (.node [] [] 0 .leaf (.node [] [] 0 (.node [(5, .int .i64)] [1, 0] 0 .leaf .leaf) .leaf)) (.node [] [] 0 .leaf (.node [] [] 0 (.node [] [] 0 .leaf (.node [] [] 0 (.node [(7, .int .i64), (6, .slice)] [0] 0 .leaf .leaf) .leaf)) .leaf))))) [Value.slice l ln lc, Value.slice m mn mc] rfl (Eq.mp (by kernel_rfl) hVC)
theorem vc4 {W : World} {Q : Ending → World → Prop} (arg0 : Option Addr) (arg0n : Nat) (arg0c : Nat) (arg1 : Option Addr) (arg1n : Nat) (arg1c : Nat) (arg2 : Int) (arg3 : Option Addr) (arg3n : Nat) (arg3c : Nat)
  (hVC :
    (∃ I : Option Addr → Nat → Nat → World → Prop, ((∃ I2 : Int → Option Addr → Nat → Nat → World → Prop, (∃ I3 : Int → Option Addr → Nat → Nat → World → Nat, (I2 0 none 0 0 W ∧
     ((Nat →
     Value) →
     (∀ x : Int, (∀ x2 : Option Addr, (∀ k : Nat, (∀ k2 : Nat, (∀ W2 : World, (I2 x x2 k k2 W2 →
     Sx.split (decide (x < (↑arg0n : Int)))
      (Sx.split (decide (x < (↑arg1n : Int)))
        ((∀ W3 : World, (W3 = World.drew W2 →
         (((0 : Int) ≤ x ∧
          x < (↑arg0n : Int)) ∧
         Sx.adr arg0 (fun k3 =>
          (fun k4 =>
          (((0 : Int) ≤ x ∧
           x < (↑arg1n : Int)) ∧
          Sx.adr arg1 (fun k5 =>
           (fun k6 =>
           (∃ z : Int, (World.cell? W3 (Addr.mk k3 (k4 + Int.toNat x * 1) none) = some (Value.int IntKind.i64 z) ∧
           (∃ z2 : Int, (World.cell? W3 (Addr.mk k5 (k6 + Int.toNat x * 1) none) = some (Value.int IntKind.i64 z2) ∧
           (∀ vs : Array Value, (vs = #[Value.int IntKind.i64 z, Value.int IntKind.i64 z2] →
           (Array.size vs = 2 ∧
           (∀ k7 : Nat, (∀ W4 : World, (k7 = Array.size (World.heap W3) →
           (W4 = World.alloc W3 (Obj.cells (List.toArray (Array.toList vs ++ [])) 56) →
           (RowKit.Below (Array.size (World.heap W3)) W3 W4 ∧
           (∃ l : List Value, (∃ l2 : List Value, (XHeap.Sl W4 56 2 (Value.slice x2 k k2) k l ∧
           (((((1 : Nat) = (0 : Nat) ∧
             some (Addr.mk k7 0 none) = none)) ∨
            ((∃ a : Addr, (some (Addr.mk k7 0 none) = some a ∧
            (∀ k8 : Nat, (∀ v : Value, (l2[k8]? = some v →
            World.cell? W4 (Addr.add a k8) = some v))))))) ∧
           (List.length l2 = 2 ∧
           ((∀ v2 : Value, (v2 ∈ l2 →
            Value.oneCell' v2 = true)) ∧
           (k + 1 ≤ maxLen ∧
           ((k + 1) * 16 ≤ 140737488355328 ∧
           (∀ p : Option Addr, (∀ k9 : Nat, (∀ W5 : World, (XHeap.Sl W5 56 2 (Value.slice p (k + 1) k9) (k + 1) (l ++ l2) →
           (XHeap.XTouch (fun b => Value.ownBlock (Value.slice x2 k k2) = some b) W4 W5 →
           ((∀ k10 : Nat, (Value.ownBlock (Value.slice p (k + 1) k9) = some k10 →
           ((Value.ownBlock (Value.slice x2 k k2) = some k10) ∨
           (Array.size (World.heap W4) ≤ k10)))) →
           (XHeap.Sl W5 56 2 (Value.slice x2 k k2) k l →
           ((((p = x2 ∧
            k9 = k2)) ∨
           ((((XHeap.NilP x2) ∨
            (k2 < k + 1)) ∧
           (∀ k11 : Nat, (Value.ownBlock (Value.slice p (k + 1) k9) = some k11 →
           Array.size (World.heap W4) ≤ k11))))) →
           (∀ z3 : Int, (z3 = IntKind.wrap IntKind.i64 (x + 1) →
           (I2 z3 p (k + 1) k9 W5 ∧
           I3 z3 p (k + 1) k9 W5 < I3 x x2 k k2 W2))))))))))))))))))))))))))))))))))))))))
        (I x2 k k2 W2))
      (I x2 k k2 W2))))))))))) ∧
    ((Nat →
    Value) →
    (∀ x3 : Option Addr, (∀ k12 : Nat, (∀ k13 : Nat, (∀ W6 : World, (I x3 k12 k13 W6 →
    (∀ z4 : Int, (z4 = IntKind.wrap IntKind.i64 ((↑arg3n : Int) + 70) →
    (((0 : Int) ≤ z4 ∧
     (z4 ≤ z4 ∧
     (z4 ≤ 9223372036854775807 ∧
     (↑1 : Int) * z4 ≤ 281474976710656))) ∧
    (∀ k14 : Nat, (∀ W7 : World, (k14 = Array.size (World.heap W6) →
    (W7 = World.alloc W6 (Obj.cells (madeCells #[Value.int IntKind.u8 0] (Int.toNat z4 * 1)) 5) →
    (∃ l3 : List Value, (List.length l3 = Nat.min arg3n (Int.toNat z4) * 1 ∧
    ((∀ v3 : Value, (v3 ∈ l3 →
     Value.oneCell' v3 = true)) ∧
    (((l3 = []) ∨
     (((∃ a2 : Addr, (arg3 = some a2 ∧
      (∀ k15 : Nat, (∀ v4 : Value, (l3[k15]? = some v4 →
      World.cell? W7 (Addr.add a2 k15) = some v4))))) ∧
     (∃ k16 : Nat, (∃ k17 : Nat, (some (Addr.mk k14 0 none) = some (Addr.mk k16 k17 none) ∧
     (∀ k18 : Nat, (k18 < List.length l3 →
     ((∃ v5 : Value, World.cell? W7 (Addr.mk k16 (k17 + k18) none) = some v5) ∧
     World.frozen? W7 (Addr.mk k16 (k17 + k18) none) = false))))))))) ∧
    (∀ W8 : World, (W8 = Sx.setRow (some (Addr.mk k14 0 none)) W7 l3 →
    (∃ I4 : Value → Option Addr → World → Prop, ((((0 : Int) ≤ (↑arg3n : Int) ∧
      (↑arg3n : Int) ≤ (↑(Int.toNat z4) : Int)) ∧
     Calls Tryd.prog 22 #[Value.slice x3 k12 k13, Value.int IntKind.i64 arg2, Value.slice (some (Addr.mk k14 0 none)) (Int.toNat (↑arg3n : Int)) (Int.toNat z4)] W8 (fun e =>
      (fun W9 =>
      (∃ p2 : Option Addr, (∃ v6 : Value, (e = Ending.returned (Value.tuple #[Value.pointer p2, v6]) ∧
      I4 v6 p2 W9)))))) ∧
    ((Nat →
    Value) →
    (∀ x4 : Value, (∀ x5 : Option Addr, (∀ W10 : World, (I4 x4 x5 W10 →
    (∃ I5 : Int → Option Addr → World → Prop, ((∀ W11 : World, (W11 = World.drew W10 →
     (((0 : Int) ≤ (↑k12 : Int) ∧
      (↑k12 : Int) ≤ (↑arg0c : Int)) ∧
     (((0 : Int) ≤ (↑k12 : Int) ∧
      (↑k12 : Int) ≤ (↑arg1c : Int)) ∧
     Calls Tryd.prog 23 #[Value.slice arg0 (Int.toNat (↑k12 : Int)) arg0c, Value.slice arg1 (Int.toNat (↑k12 : Int)) arg1c, Value.int IntKind.i64 arg2, Value.slice arg3 arg3n arg3c] W11 (fun e2 =>
      (fun W12 =>
      (∃ p3 : Option Addr, (∃ z5 : Int, (e2 = Ending.returned (Value.tuple #[Value.pointer p3, Value.int IntKind.i64 z5]) ∧
      I5 z5 p3 W12))))))))) ∧
    ((Nat →
    Value) →
    (∀ x6 : Int, (∀ x7 : Option Addr, (∀ W13 : World, (I5 x6 x7 W13 →
    Calls Tryd.prog 7 #[x4, Value.int IntKind.i64 x6] W13 (fun e3 =>
     (fun W14 =>
     (∃ t : Bool, (e3 = Ending.returned (Value.bool t) ∧
     (∃ I6 : Bool → World → Prop, ((∃ I7 : Int → Bool → World → Prop, (∃ I8 : Int → Bool → World → Nat, (I7 0 t W14 ∧
      ((Nat →
      Value) →
      (∀ x8 : Int, (∀ x9 : Bool, (∀ W15 : World, (I7 x8 x9 W15 →
      Sx.split (decide (x8 < (↑(Int.toNat z4) : Int)))
       ((∃ I9 : Bool → World → Prop, (Sx.split x9
          (Sx.split (decide (x8 < (↑arg3n : Int)))
            ((((0 : Int) ≤ x8 ∧
              x8 < (↑(Int.toNat z4) : Int)) ∧
             (∃ z6 : Int, (World.cell? W15 (Addr.mk k14 (0 + Int.toNat x8 * 1) none) = some (Value.int IntKind.u8 z6) ∧
             (((0 : Int) ≤ x8 ∧
              x8 < (↑arg3n : Int)) ∧
             Sx.adr arg3 (fun k19 =>
              (fun k20 =>
              (∃ z7 : Int, (World.cell? W15 (Addr.mk k19 (k20 + Int.toNat x8 * 1) none) = some (Value.int IntKind.u8 z7) ∧
              Sx.split (z6 == z7)
               ((∀ W16 : World, (∀ k21 : Nat, (W16 = World.drewN W15 k21 →
                I9 true W16))))
               (Sx.split (decide (x8 ≥ (↑arg3n : Int)))
                 ((((0 : Int) ≤ x8 ∧
                   x8 < (↑(Int.toNat z4) : Int)) ∧
                  (∃ z8 : Int, (World.cell? W15 (Addr.mk k14 (0 + Int.toNat x8 * 1) none) = some (Value.int IntKind.u8 z8) ∧
                  (∀ W17 : World, (∀ k22 : Nat, (W17 = World.drewN W15 k22 →
                  I9 (z8 == 0) W17)))))))
                 ((∀ W18 : World, (∀ k23 : Nat, (W18 = World.drewN W15 k23 →
                  I9 false W18))))))))))))))
            (Sx.split (decide (x8 ≥ (↑arg3n : Int)))
              ((((0 : Int) ≤ x8 ∧
                x8 < (↑(Int.toNat z4) : Int)) ∧
               (∃ z9 : Int, (World.cell? W15 (Addr.mk k14 (0 + Int.toNat x8 * 1) none) = some (Value.int IntKind.u8 z9) ∧
               (∀ W19 : World, (∀ k24 : Nat, (W19 = World.drewN W15 k24 →
               I9 (z9 == 0) W19)))))))
              ((∀ W20 : World, (∀ k25 : Nat, (W20 = World.drewN W15 k25 →
               I9 false W20))))))
          ((∀ W21 : World, (∀ k26 : Nat, (W21 = World.drewN W15 k26 →
           I9 false W21)))) ∧
        ((Nat →
        Value) →
        (∀ x10 : Bool, (∀ W22 : World, (I9 x10 W22 →
        (((0 : Int) ≤ x8 ∧
         x8 < (↑(Int.toNat z4) : Int)) ∧
        ((∃ v7 : Value, World.cell? W22 (Addr.mk k14 (0 + Int.toNat x8 * 1) none) = some v7) ∧
        (World.frozen? W22 (Addr.mk k14 (0 + Int.toNat x8 * 1) none) = false ∧
        (∀ W23 : World, (W23 = World.setCell W22 (Addr.mk k14 (0 + Int.toNat x8 * 1) none) (Value.int IntKind.u8 119) →
        (∀ z10 : Int, (z10 = IntKind.wrap IntKind.i64 (x8 + 1) →
        (I7 z10 x10 W23 ∧
        I8 z10 x10 W23 < I8 x8 x9 W15)))))))))))))))
       (I6 x9 W15))))))))) ∧
     ((Nat →
     Value) →
     (∀ x11 : Bool, (∀ W24 : World, (I6 x11 W24 →
     (∃ I10 : Bool → World → Prop, ((∃ I11 : Int → Bool → World → Prop, (∃ I12 : Int → Bool → World → Nat, (I11 0 x11 W24 ∧
      ((Nat →
      Value) →
      (∀ x12 : Int, (∀ x13 : Bool, (∀ W25 : World, (I11 x12 x13 W25 →
      Sx.split (decide (x12 < (↑k12 : Int)))
       ((∃ I13 : Bool → World → Prop, (Sx.split x13
          ((((0 : Int) ≤ x12 ∧
            x12 < (↑k12 : Int)) ∧
           Sx.adr x3 (fun k27 =>
            (fun k28 =>
            (∃ z11 : Int, (World.cell? W25 (Addr.mk k27 (k28 + Int.toNat x12 * 2) none) = some (Value.int IntKind.i64 z11) ∧
            (((0 : Int) ≤ x12 ∧
             x12 < (↑arg0n : Int)) ∧
            Sx.adr arg0 (fun k29 =>
             (fun k30 =>
             (∃ z12 : Int, (World.cell? W25 (Addr.mk k29 (k30 + Int.toNat x12 * 1) none) = some (Value.int IntKind.i64 z12) ∧
             Sx.split (z11 == z12)
              ((((0 : Int) ≤ x12 ∧
                x12 < (↑k12 : Int)) ∧
               Sx.adr x3 (fun k31 =>
                (fun k32 =>
                (∃ z13 : Int, (World.cell? W25 (Addr.mk k31 (k32 + Int.toNat x12 * 2 + 1) none) = some (Value.int IntKind.i64 z13) ∧
                (((0 : Int) ≤ x12 ∧
                 x12 < (↑arg1n : Int)) ∧
                Sx.adr arg1 (fun k33 =>
                 (fun k34 =>
                 (∃ z14 : Int, (World.cell? W25 (Addr.mk k33 (k34 + Int.toNat x12 * 1) none) = some (Value.int IntKind.i64 z14) ∧
                 (∀ W26 : World, (∀ k35 : Nat, (W26 = World.drewN W25 k35 →
                 I13 (z13 == z14) W26))))))))))))))
              ((∀ W27 : World, (∀ k36 : Nat, (W27 = World.drewN W25 k36 →
               I13 false W27)))))))))))))))
          ((∀ W28 : World, (∀ k37 : Nat, (W28 = World.drewN W25 k37 →
           I13 false W28)))) ∧
        ((Nat →
        Value) →
        (∀ x14 : Bool, (∀ W29 : World, (I13 x14 W29 →
        (∀ vs2 : Array Value, (vs2 = #[Value.int IntKind.i64 1, Value.int IntKind.i64 1] →
        (((0 : Int) ≤ x12 ∧
         x12 < (↑k12 : Int)) ∧
        Sx.adr x3 (fun k38 =>
         (fun k39 =>
         (Array.size vs2 = 2 ∧
         ((∀ k40 : Nat, (k40 < 2 →
          ((∃ v8 : Value, World.cell? W29 (Addr.mk k38 (k39 + Int.toNat x12 * 2 + k40) none) = some v8) ∧
          World.frozen? W29 (Addr.mk k38 (k39 + Int.toNat x12 * 2 + k40) none) = false))) ∧
         ((∀ v9 : Value, (v9 ∈ Array.toList vs2 →
          Value.oneCell' v9 = true)) ∧
         (∀ W30 : World, (W30 = World.setCells W29 k38 (k39 + Int.toNat x12 * 2) (Array.toList vs2) →
         (∀ z15 : Int, (z15 = IntKind.wrap IntKind.i64 (x12 + 1) →
         (I11 z15 x14 W30 ∧
         I12 z15 x14 W30 < I12 x12 x13 W25))))))))))))))))))))
       (I10 x13 W25))))))))) ∧
     ((Nat →
     Value) →
     (∀ x15 : Bool, (∀ W31 : World, (I10 x15 W31 →
     Sx.split x15
      (Q (Ending.returned (Value.tuple #[Value.pointer x5, Value.pointer x7, Value.bool (Option.isNone x5 == Option.isNone x7)])) W31)
      (Q (Ending.returned (Value.tuple #[Value.pointer x5, Value.pointer x7, Value.bool false])) W31))))))))))))))))))))))))))))))))))))))))))))))))))))) :
  Calls Tryd.prog 4 #[Value.slice arg0 arg0n arg0c, Value.slice arg1 arg1n arg1c, Value.int .i64 arg2, Value.slice arg3 arg3n arg3c] W Q :=
  Sx.sound Tryd.func4 (.node [] [] 0 .leaf (.node [] [] 0 .leaf (.node [(11, .slice)] [3, 2, 0, 1] 1 (.node [] [] 0 .leaf (.node [] [] 0 (.node [(12, .int .i64), (11, .slice)] [0, 1, 3, 2] 0 (.node [] [] 0 .leaf (.node [] [] 0 (.node [] [] 0 (.node [] [] 1012 .leaf .leaf) .leaf) .leaf)) .leaf) .leaf)) (.node [] [] 0 .leaf (.node [] [] 0 .leaf (.node [] [] 0 .leaf (.node [(16, .any), (15, .ptr)] [0, 13, 1, 2, 3, 14, 11] 1 .leaf (.node [(18, .int .i64), (17, .ptr)] [16, 14, 3, 13, 11, 0, 1, 15] 1 (.node [] [] 1009 .leaf .leaf) (.node [] [] 0 .leaf (.node [(19, .bool)] [13, 11, 0, 1, 15, 17] 1 (.node [] [] 0 .leaf (.node [] [] 0 (.node [(20, .int .i64), (19, .bool)] [14, 3, 13, 11, 0, 1, 15, 17] 0 (.node [] [] 0 .leaf (.node [] [] 0 (.node [] [] 0 (.node [(19, .bool)] [14, 20, 3, 13, 11, 0, 1, 15, 17] 1 .leaf .leaf) .leaf) .leaf)) .leaf) .leaf)) (.node [(19, .bool)] [15, 17] 1 (.node [] [] 0 .leaf (.node [] [] 0 (.node [(21, .int .i64), (19, .bool)] [13, 11, 0, 1, 15, 17] 0 (.node [] [] 0 .leaf (.node [] [] 0 (.node [] [] 0 (.node [(19, .bool)] [11, 21, 13, 0, 1, 15, 17] 1 .leaf .leaf) .leaf) .leaf)) .leaf) .leaf)) .leaf))))))))))) [Value.slice arg0 arg0n arg0c, Value.slice arg1 arg1n arg1c, Value.int .i64 arg2, Value.slice arg3 arg3n arg3c] rfl (Eq.mp (by kernel_rfl) hVC)
theorem vc3 {W : World} {Q : Ending → World → Prop} (arg0 : Option Addr) (arg0n : Nat) (arg0c : Nat) (arg1 : Option Addr) (arg1n : Nat) (arg1c : Nat) (arg2 : Int) (arg3 : Option Addr) (arg3n : Nat) (arg3c : Nat) (arg4 : Option Addr) (arg4n : Nat) (arg4c : Nat)
  (hVC :
    (∃ I : Bool → Option Addr → Option Addr → World → Prop, (Calls Tryd.prog 4 #[Value.slice arg0 arg0n arg0c, Value.slice arg1 arg1n arg1c, Value.int IntKind.i64 arg2, Value.slice arg3 arg3n arg3c] W (fun e =>
      (fun W2 =>
      (∃ p : Option Addr, (∃ p2 : Option Addr, (∃ t : Bool, (e = Ending.returned (Value.tuple #[Value.pointer p, Value.pointer p2, Value.bool t]) ∧
      I t p p2 W2)))))) ∧
    ((Nat →
    Value) →
    (∀ x : Bool, (∀ x2 : Option Addr, (∀ x3 : Option Addr, (∀ W3 : World, (I x x2 x3 W3 →
    (∃ I2 : Int → Bool → World → Prop, (∃ I3 : Int → Bool → World → Nat, (I2 0 x W3 ∧
    ((Nat →
    Value) →
    (∀ x4 : Int, (∀ x5 : Bool, (∀ W4 : World, (I2 x4 x5 W4 →
    Sx.split (decide (x4 < (↑arg4n : Int)))
     (Sx.split (decide (x4 < 4096))
       (Sx.split x5
         (Sx.split (Option.isSome x2)
           ((∃ I4 : Bool → World → Prop, ((((0 : Int) ≤ x4 ∧
              x4 < (↑arg4n : Int)) ∧
             Sx.adr arg4 (fun k =>
              (fun k2 =>
              (∃ vs : Array Value, (Array.size vs = 5 ∧
              (Sx.cellsAt W4 (Addr.mk k (k2 + Int.toNat x4 * 5) none) vs ∧
              (∀ k3 : Nat, (∀ W5 : World, (k3 = Array.size (World.heap W4) →
              (W5 = World.alloc W4 (Obj.cells #[Value.int IntKind.i64 0, Value.int IntKind.i64 0, Value.int IntKind.i64 0, Value.int IntKind.i64 0, Value.int IntKind.i64 0] 30) →
              (Array.size vs = 5 ∧
              ((∀ k4 : Nat, (k4 < 5 →
               ((∃ v : Value, World.cell? W5 (Addr.mk k3 (0 + k4) none) = some v) ∧
               World.frozen? W5 (Addr.mk k3 (0 + k4) none) = false))) ∧
              ((∀ v2 : Value, (v2 ∈ Array.toList vs →
               Value.oneCell' v2 = true)) ∧
              (∀ W6 : World, (W6 = World.setCells W5 k3 0 (Array.toList vs) →
              (∃ z : Int, (World.cell? W6 (Addr.mk k3 (0 + 2) none) = some (Value.int IntKind.i64 z) ∧
              (∀ z2 : Int, (z2 = IntKind.wrap IntKind.u32 z →
              (∀ z3 : Int, (z3 = IntKind.wrap IntKind.i64 z2 →
              (∃ z4 : Int, (World.cell? W6 (Addr.mk k3 0 none) = some (Value.int IntKind.i64 z4) ∧
              Sx.split (z4 == 0)
               ((∃ z5 : Int, (World.cell? W6 (Addr.mk k3 (0 + 1) none) = some (Value.int IntKind.i64 z5) ∧
                (∃ z6 : Int, (World.cell? W6 (Addr.mk k3 (0 + 3) none) = some (Value.int IntKind.i64 z6) ∧
                Calls Tryd.prog 5 #[Value.pointer x2, Value.int IntKind.i64 z5, Value.int IntKind.u32 z2, Value.bool (z6 == 1)] W6 (fun e2 =>
                 (fun W7 =>
                 (∃ v3 : Value, (e2 = Ending.returned v3 ∧
                 (∃ z7 : Int, (World.cell? W7 (Addr.mk k3 (0 + 1) none) = some (Value.int IntKind.i64 z7) ∧
                 (∃ z8 : Int, (World.cell? W7 (Addr.mk k3 (0 + 3) none) = some (Value.int IntKind.i64 z8) ∧
                 Calls Tryd.prog 6 #[Value.pointer x3, Value.int IntKind.i64 z7, Value.int IntKind.i64 z3, Value.bool (z8 == 1)] W7 (fun e3 =>
                  (fun W8 =>
                  (∃ z9 : Int, (e3 = Ending.returned (Value.int IntKind.i64 z9) ∧
                  Calls Tryd.prog 7 #[v3, Value.int IntKind.i64 z9] W8 (fun e4 =>
                   (fun W9 =>
                   (∃ t2 : Bool, (e4 = Ending.returned (Value.bool t2) ∧
                   I4 t2 W9)))))))))))))))))))))
               (Sx.split (z4 == 1)
                 (Calls Tryd.prog 8 #[Value.pointer x2] W6 (fun e5 =>
                   (fun W10 =>
                   (∃ p3 : Option Addr, (∃ k5 : Nat, (∃ k6 : Nat, (e5 = Ending.returned (Value.slice p3 k5 k6) ∧
                   Calls Tryd.prog 9 #[Value.pointer x3] W10 (fun e6 =>
                    (fun W11 =>
                    (∃ p4 : Option Addr, (∃ k7 : Nat, (∃ k8 : Nat, (e6 = Ending.returned (Value.slice p4 k7 k8) ∧
                    Calls Tryd.prog 10 #[Value.slice p3 k5 k6, Value.slice p4 k7 k8] W11 (fun e7 =>
                     (fun W12 =>
                     (∃ t3 : Bool, (e7 = Ending.returned (Value.bool t3) ∧
                     I4 t3 W12)))))))))))))))))
                 (Sx.split (z4 == 2)
                   ((∃ z10 : Int, (World.cell? W6 (Addr.mk k3 (0 + 1) none) = some (Value.int IntKind.i64 z10) ∧
                    (∃ z11 : Int, (World.cell? W6 (Addr.mk k3 (0 + 3) none) = some (Value.int IntKind.i64 z11) ∧
                    Calls Tryd.prog 11 #[Value.pointer x2, Value.int IntKind.i64 z10, Value.int IntKind.u32 z2, Value.int IntKind.i64 z11] W6 (fun e8 =>
                     (fun W13 =>
                     (∃ z12 : Int, (∃ t4 : Bool, (e8 = Ending.returned (Value.tuple #[Value.int IntKind.u32 z12, Value.bool t4]) ∧
                     (∃ z13 : Int, (World.cell? W13 (Addr.mk k3 (0 + 1) none) = some (Value.int IntKind.i64 z13) ∧
                     (∃ z14 : Int, (World.cell? W13 (Addr.mk k3 (0 + 3) none) = some (Value.int IntKind.i64 z14) ∧
                     Calls Tryd.prog 12 #[Value.pointer x3, Value.int IntKind.i64 z13, Value.int IntKind.i64 z3, Value.int IntKind.i64 z14] W13 (fun e9 =>
                      (fun W14 =>
                      (∃ z15 : Int, (∃ t5 : Bool, (e9 = Ending.returned (Value.tuple #[Value.int IntKind.u32 z15, Value.bool t5]) ∧
                      Sx.split (z12 == z15)
                       (I4 (t4 == t5) W14)
                       (I4 false W14))))))))))))))))))))
                   (Sx.split (z4 == 3)
                     ((∃ z16 : Int, (World.cell? W6 (Addr.mk k3 (0 + 1) none) = some (Value.int IntKind.i64 z16) ∧
                      (∃ z17 : Int, (World.cell? W6 (Addr.mk k3 (0 + 3) none) = some (Value.int IntKind.i64 z17) ∧
                      (∃ z18 : Int, (World.cell? W6 (Addr.mk k3 (0 + 4) none) = some (Value.int IntKind.i64 z18) ∧
                      (∀ z19 : Int, (z19 = IntKind.wrap IntKind.u32 z18 →
                      Calls Tryd.prog 13 #[Value.pointer x2, Value.int IntKind.i64 z16, Value.int IntKind.u32 z2, Value.int IntKind.i64 z17, Value.int IntKind.u32 z19] W6 (fun e10 =>
                       (fun W15 =>
                       (∃ t6 : Bool, (e10 = Ending.returned (Value.bool t6) ∧
                       (∃ z20 : Int, (World.cell? W15 (Addr.mk k3 (0 + 1) none) = some (Value.int IntKind.i64 z20) ∧
                       (∃ z21 : Int, (World.cell? W15 (Addr.mk k3 (0 + 3) none) = some (Value.int IntKind.i64 z21) ∧
                       (∃ z22 : Int, (World.cell? W15 (Addr.mk k3 (0 + 4) none) = some (Value.int IntKind.i64 z22) ∧
                       (∀ z23 : Int, (z23 = IntKind.wrap IntKind.u32 z22 →
                       Calls Tryd.prog 14 #[Value.pointer x3, Value.int IntKind.i64 z20, Value.int IntKind.i64 z3, Value.int IntKind.i64 z21, Value.int IntKind.u32 z23] W15 (fun e11 =>
                        (fun W16 =>
                        (∃ t7 : Bool, (e11 = Ending.returned (Value.bool t7) ∧
                        I4 (t6 == t7) W16)))))))))))))))))))))))))
                     (Sx.split (z4 == 4)
                       ((∃ z24 : Int, (World.cell? W6 (Addr.mk k3 (0 + 1) none) = some (Value.int IntKind.i64 z24) ∧
                        Calls Tryd.prog 15 #[Value.pointer x2, Value.int IntKind.i64 z24, Value.int IntKind.u32 z2] W6 (fun e12 =>
                         (fun W17 =>
                         (∃ z25 : Int, (e12 = Ending.returned (Value.int IntKind.i64 z25) ∧
                         (∃ z26 : Int, (World.cell? W17 (Addr.mk k3 (0 + 1) none) = some (Value.int IntKind.i64 z26) ∧
                         Calls Tryd.prog 16 #[Value.pointer x3, Value.int IntKind.i64 z26, Value.int IntKind.i64 z3] W17 (fun e13 =>
                          (fun W18 =>
                          (∃ z27 : Int, (e13 = Ending.returned (Value.int IntKind.i64 z27) ∧
                          (∃ z28 : Int, (World.cell? W18 (Addr.mk k3 (0 + 1) none) = some (Value.int IntKind.i64 z28) ∧
                          Calls Tryd.prog 17 #[Value.pointer x2, Value.int IntKind.i64 z28] W18 (fun e14 =>
                           (fun W19 =>
                           (∃ t8 : Bool, (e14 = Ending.returned (Value.bool t8) ∧
                           (∃ z29 : Int, (World.cell? W19 (Addr.mk k3 (0 + 1) none) = some (Value.int IntKind.i64 z29) ∧
                           Calls Tryd.prog 18 #[Value.pointer x3, Value.int IntKind.i64 z29] W19 (fun e15 =>
                            (fun W20 =>
                            (∃ t9 : Bool, (e15 = Ending.returned (Value.bool t9) ∧
                            Sx.split (z25 == z27)
                             (I4 (t8 == t9) W20)
                             (I4 false W20))))))))))))))))))))))))))
                       (Sx.split (z4 == 5)
                         (Calls Tryd.prog 19 #[Value.pointer x2] W6 (fun e16 =>
                           (fun W21 =>
                           (∃ p5 : Option Addr, (∃ k9 : Nat, (∃ k10 : Nat, (e16 = Ending.returned (Value.slice p5 k9 k10) ∧
                           Calls Tryd.prog 20 #[Value.pointer x3] W21 (fun e17 =>
                            (fun W22 =>
                            (∃ p6 : Option Addr, (∃ k11 : Nat, (∃ k12 : Nat, (e17 = Ending.returned (Value.slice p6 k11 k12) ∧
                            Calls Tryd.prog 21 #[Value.slice p5 k9 k10, Value.slice p6 k11 k12] W22 (fun e18 =>
                             (fun W23 =>
                             (∃ t10 : Bool, (e18 = Ending.returned (Value.bool t10) ∧
                             I4 t10 W23)))))))))))))))))
                         (I4 x5 W6))))))))))))))))))))))))))))) ∧
            ((Nat →
            Value) →
            (∀ x6 : Bool, (∀ W24 : World, (I4 x6 W24 →
            (∀ z30 : Int, (z30 = IntKind.wrap IntKind.i64 (x4 + 1) →
            (I2 z30 x6 W24 ∧
            I3 z30 x6 W24 < I3 x4 x5 W4))))))))))
           (Q (Ending.returned (Value.bool x5)) W4))
         (Q (Ending.returned (Value.bool x5)) W4))
       (Q (Ending.returned (Value.bool x5)) W4))
     (Q (Ending.returned (Value.bool x5)) W4)))))))))))))))))) :
  Calls Tryd.prog 3 #[Value.slice arg0 arg0n arg0c, Value.slice arg1 arg1n arg1c, Value.int .i64 arg2, Value.slice arg3 arg3n arg3c, Value.slice arg4 arg4n arg4c] W Q :=
  Sx.sound Tryd.func3 (.node [] [] 0 .leaf (.node [(13, .bool), (11, .ptr), (12, .ptr)] [4] 1 .leaf (.node [] [] 0 (.node [] [] 0 .leaf (.node [] [] 0 (.node [(14, .int .i64), (13, .bool)] [4, 11, 12] 0 (.node [] [] 0 .leaf (.node [(13, .bool)] [14, 4, 11, 12] 1 .leaf .leaf)) .leaf) .leaf)) .leaf))) [Value.slice arg0 arg0n arg0c, Value.slice arg1 arg1n arg1c, Value.int .i64 arg2, Value.slice arg3 arg3n arg3c, Value.slice arg4 arg4n arg4c] rfl (Eq.mp (by kernel_rfl) hVC)
end Go.Proofs.YtbiogceijdcoiaaDoor
