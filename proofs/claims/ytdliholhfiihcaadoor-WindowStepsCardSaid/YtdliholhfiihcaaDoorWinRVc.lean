/- What each function asks, reckoned out of its text; printed by a program of mine (wip/tpl/VcTool.lean). No condition. -/
import Derived.Test.YtdliholhfiihcaaDoorSxB
import Derived.Test.YtdliholhfiihcaaDoorChecked
namespace Go.Proofs.YtdliholhfiihcaaDoor
open Go Go.Proofs
set_option linter.unusedVariables false
set_option maxRecDepth 100000
theorem vc15 {W : World} {Q : Ending → World → Prop} (size : Int) (registers : Int)
  (hVC :
    Sx.split (decide (size < 2))
     (Q (Ending.returned (Value.tuple #[Value.pointer none, Value.int IntKind.i64 2])) W)
     (Sx.split (decide (size > 64))
       (Q (Ending.returned (Value.tuple #[Value.pointer none, Value.int IntKind.i64 2])) W)
       (Sx.split (decide (registers < 34))
         (Q (Ending.returned (Value.tuple #[Value.pointer none, Value.int IntKind.i64 2])) W)
         (Sx.split (decide (registers > 128))
           (Q (Ending.returned (Value.tuple #[Value.pointer none, Value.int IntKind.i64 2])) W)
           ((((0 : Int) ≤ registers ∧
             (registers ≤ registers ∧
             (registers ≤ 9223372036854775807 ∧
             (↑1 : Int) * registers ≤ 281474976710656))) ∧
            (∀ k : Nat, (∀ W2 : World, (k = Array.size (World.heap W) →
            (W2 = World.alloc W (Obj.cells (madeCells #[Value.bool false] (Int.toNat registers * 1)) 4) →
            (∀ vs : Array Value, (vs = #[Value.int IntKind.i64 size, Value.int IntKind.i64 0, Value.slice none 0 0, Value.slice (some (Addr.mk k 0 none)) (Int.toNat registers) (Int.toNat registers)] →
            (∀ k2 : Nat, (∀ W3 : World, (k2 = Array.size (World.heap W2) →
            (W3 = World.alloc W2 (Obj.cells (Value.cells (Value.agg vs)) 52) →
            (∃ I : Int → World → Prop, (∃ I2 : Int → World → Nat, (I 0 W3 ∧
            ((Nat →
            Value) →
            (∀ i : Int, (∀ W4 : World, (I i W4 →
            Sx.split (decide (i < registers))
             ((∃ p : Option Addr, (∃ k3 : Nat, (∃ k4 : Nat, (World.cell? W4 (Addr.mk k2 (0 + 3) none) = some (Value.slice p k3 k4) ∧
              (((0 : Int) ≤ i ∧
               i < (↑k3 : Int)) ∧
              Sx.adr p (fun k5 =>
               (fun k6 =>
               ((∃ v : Value, World.cell? W4 (Addr.mk k5 (k6 + Int.toNat i * 1) none) = some v) ∧
               (World.frozen? W4 (Addr.mk k5 (k6 + Int.toNat i * 1) none) = false ∧
               (∀ W5 : World, (W5 = World.setCell W4 (Addr.mk k5 (k6 + Int.toNat i * 1) none) (Value.bool true) →
               (∀ z : Int, (z = IntKind.wrap IntKind.i64 (i + 1) →
               (I z W5 ∧
               I2 z W5 < I2 i W4)))))))))))))))
             (Q (Ending.returned (Value.tuple #[Value.pointer (some (Addr.mk k2 0 none)), Value.int IntKind.i64 0])) W4)))))))))))))))))))))))) :
  Calls Tryd.prog 15 #[Value.int .i64 size, Value.int .i64 registers] W Q :=
  Sx.sound Tryd.func15 (.node [] [] 0 .leaf (.node [] [] 0 .leaf (.node [] [] 0 .leaf (.node [] [] 0 (.node [] [] 0 .leaf (.node [] [] 0 (.node [(7, .int .i64)] [1, 6] 0 .leaf .leaf) .leaf)) .leaf)))) [Value.int .i64 size, Value.int .i64 registers] rfl (Eq.mp (by kernel_rfl) hVC)
theorem vc16 {W : World} {Q : Ending → World → Prop} (err : Value) (e : Int)
  (hVC :
    Calls Tryd.prog 8 #[err] W (fun e2 =>
     (fun W2 =>
     (∃ z : Int, (e2 = Ending.returned (Value.int IntKind.i64 z) ∧
     Q (Ending.returned (Value.bool (z == e))) W2))))) :
  Calls Tryd.prog 16 #[err, Value.int .i64 e] W Q :=
  Sx.sound Tryd.func16 .leaf [err, Value.int .i64 e] rfl (Eq.mp (by kernel_rfl) hVC)
theorem vc17 {W : World} {Q : Ending → World → Prop} (a0 : Nat) (a0o : Nat) (a1 : Int) (a2 : Int) (a3 : Int) (a4 : Int)
  (hVC :
    Calls Tryd.prog 35 #[Value.pointer (some (Addr.mk a0 a0o none)), Value.int IntKind.i64 a2] W (fun e =>
     (fun W2 =>
     (∃ t : Bool, (e = Ending.returned (Value.bool t) ∧
     Calls Tryd.prog 35 #[Value.pointer (some (Addr.mk a0 a0o none)), Value.int IntKind.i64 a3] W2 (fun e2 =>
      (fun W3 =>
      (∃ t2 : Bool, (e2 = Ending.returned (Value.bool t2) ∧
      Calls Tryd.prog 35 #[Value.pointer (some (Addr.mk a0 a0o none)), Value.int IntKind.i64 a4] W3 (fun e3 =>
       (fun W4 =>
       (∃ t3 : Bool, (e3 = Ending.returned (Value.bool t3) ∧
       Sx.split (decide (a1 < 0))
        (Q (Ending.returned (Value.tuple #[Value.int IntKind.i64 0, Value.int IntKind.i64 3])) W4)
        (Sx.split (decide (a1 > 7))
          (Q (Ending.returned (Value.tuple #[Value.int IntKind.i64 0, Value.int IntKind.i64 3])) W4)
          (Sx.split (!t)
            (Q (Ending.returned (Value.tuple #[Value.int IntKind.i64 0, Value.int IntKind.i64 3])) W4)
            (Sx.split (!t2)
              (Q (Ending.returned (Value.tuple #[Value.int IntKind.i64 0, Value.int IntKind.i64 3])) W4)
              (Sx.split (!t3)
                (Q (Ending.returned (Value.tuple #[Value.int IntKind.i64 0, Value.int IntKind.i64 3])) W4)
                ((∃ p : Option Addr, (∃ k : Nat, (∃ k2 : Nat, (World.cell? W4 (Addr.mk a0 (a0o + 2) none) = some (Value.slice p k k2) ∧
                 (∃ z : Int, (World.cell? W4 (Addr.mk a0 a0o none) = some (Value.int IntKind.i64 z) ∧
                 (∀ W5 : World, (∀ k3 : Nat, (W5 = World.drewN W4 k3 →
                 Sx.split ((↑k : Int) == z)
                  (Q (Ending.returned (Value.tuple #[Value.int IntKind.i64 0, Value.int IntKind.i64 4])) W5)
                  ((∃ z2 : Int, (World.cell? W5 (Addr.mk a0 (a0o + 1) none) = some (Value.int IntKind.i64 z2) ∧
                   (∀ z3 : Int, (z3 = IntKind.wrap IntKind.i64 (z2 + 1) →
                   ((∃ v : Value, World.cell? W5 (Addr.mk a0 (a0o + 1) none) = some v) ∧
                   (World.frozen? W5 (Addr.mk a0 (a0o + 1) none) = false ∧
                   (∀ W6 : World, (W6 = World.setCell W5 (Addr.mk a0 (a0o + 1) none) (Value.int IntKind.i64 z3) →
                   (∃ p2 : Option Addr, (∃ k4 : Nat, (∃ k5 : Nat, (World.cell? W6 (Addr.mk a0 (a0o + 2) none) = some (Value.slice p2 k4 k5) ∧
                   (∀ vs : Array Value, (vs = #[Value.int IntKind.i64 z2, Value.int IntKind.i64 a1, Value.int IntKind.i64 a2, Value.int IntKind.i64 a3, Value.int IntKind.i64 0] →
                   (Array.size vs = 5 ∧
                   (∀ k6 : Nat, (∀ W7 : World, (k6 = Array.size (World.heap W6) →
                   (W7 = World.alloc W6 (Obj.cells (List.toArray (Array.toList vs ++ [])) 67) →
                   (∃ l : List Value, (∃ l2 : List Value, (XHeap.Sl W7 67 5 (Value.slice p2 k4 k5) k4 l ∧
                   (((((1 : Nat) = (0 : Nat) ∧
                     some (Addr.mk k6 0 none) = none)) ∨
                    ((∃ a : Addr, (some (Addr.mk k6 0 none) = some a ∧
                    (∀ k7 : Nat, (∀ v2 : Value, (l2[k7]? = some v2 →
                    World.cell? W7 (Addr.add a k7) = some v2))))))) ∧
                   (List.length l2 = 5 ∧
                   ((∀ v3 : Value, (v3 ∈ l2 →
                    Value.oneCell' v3 = true)) ∧
                   (k4 + 1 ≤ maxLen ∧
                   ((k4 + 1) * 40 ≤ 140737488355328 ∧
                   (∀ p3 : Option Addr, (∀ k8 : Nat, (∀ W8 : World, (XHeap.Sl W8 67 5 (Value.slice p3 (k4 + 1) k8) (k4 + 1) (l ++ l2) →
                   (XHeap.XTouch (fun b => Value.ownBlock (Value.slice p2 k4 k5) = some b) W7 W8 →
                   ((∀ k9 : Nat, (Value.ownBlock (Value.slice p3 (k4 + 1) k8) = some k9 →
                   ((Value.ownBlock (Value.slice p2 k4 k5) = some k9) ∨
                   (Array.size (World.heap W7) ≤ k9)))) →
                   (XHeap.Sl W8 67 5 (Value.slice p2 k4 k5) k4 l →
                   (((p3 = p2) ∨
                   ((∀ k10 : Nat, (Value.ownBlock (Value.slice p3 (k4 + 1) k8) = some k10 →
                   Array.size (World.heap W7) ≤ k10)))) →
                   ((∃ v4 : Value, World.cell? W8 (Addr.mk a0 (a0o + 2) none) = some v4) ∧
                   (World.frozen? W8 (Addr.mk a0 (a0o + 2) none) = false ∧
                   (∀ W9 : World, (W9 = World.setCell W8 (Addr.mk a0 (a0o + 2) none) (Value.slice p3 (k4 + 1) k8) →
                   Sx.split (decide (a4 ≥ 0))
                    ((∃ p4 : Option Addr, (∃ k11 : Nat, (∃ k12 : Nat, (World.cell? W9 (Addr.mk a0 (a0o + 3) none) = some (Value.slice p4 k11 k12) ∧
                     (((0 : Int) ≤ a4 ∧
                      a4 < (↑k11 : Int)) ∧
                     Sx.adr p4 (fun k13 =>
                      (fun k14 =>
                      ((∃ v5 : Value, World.cell? W9 (Addr.mk k13 (k14 + Int.toNat a4 * 1) none) = some v5) ∧
                      (World.frozen? W9 (Addr.mk k13 (k14 + Int.toNat a4 * 1) none) = false ∧
                      (∀ W10 : World, (W10 = World.setCell W9 (Addr.mk k13 (k14 + Int.toNat a4 * 1) none) (Value.bool false) →
                      Q (Ending.returned (Value.tuple #[Value.int IntKind.i64 z2, Value.int IntKind.i64 0])) W10))))))))))))
                    (Q (Ending.returned (Value.tuple #[Value.int IntKind.i64 z2, Value.int IntKind.i64 0])) W9)))))))))))))))))))))))))))))))))))))))))))))))))))))))))))))))))))) :
  Calls Tryd.prog 17 #[Value.pointer (some ⟨a0, a0o, none⟩), Value.int .i64 a1, Value.int .i64 a2, Value.int .i64 a3, Value.int .i64 a4] W Q :=
  Sx.sound Tryd.func17 .leaf [Value.pointer (some ⟨a0, a0o, none⟩), Value.int .i64 a1, Value.int .i64 a2, Value.int .i64 a3, Value.int .i64 a4] rfl (Eq.mp (by kernel_rfl) hVC)
theorem vc18 {W : World} {Q : Ending → World → Prop} (w : Nat) (wo : Nat) (p : Int)
  (hVC :
    Sx.split (decide (p < 0))
     (Q (Ending.returned (Value.int IntKind.i64 3)) W)
     ((∃ p2 : Option Addr, (∃ k : Nat, (∃ k2 : Nat, (World.cell? W (Addr.mk w (wo + 3) none) = some (Value.slice p2 k k2) ∧
      Sx.split (decide (p ≥ (↑k : Int)))
       (Q (Ending.returned (Value.int IntKind.i64 3)) W)
       ((∃ p3 : Option Addr, (∃ k3 : Nat, (∃ k4 : Nat, (World.cell? W (Addr.mk w (wo + 3) none) = some (Value.slice p3 k3 k4) ∧
        (((0 : Int) ≤ p ∧
         p < (↑k3 : Int)) ∧
        Sx.adr p3 (fun k5 =>
         (fun k6 =>
         ((∃ v : Value, World.cell? W (Addr.mk k5 (k6 + Int.toNat p * 1) none) = some v) ∧
         (World.frozen? W (Addr.mk k5 (k6 + Int.toNat p * 1) none) = false ∧
         (∀ W2 : World, (W2 = World.setCell W (Addr.mk k5 (k6 + Int.toNat p * 1) none) (Value.bool true) →
         Q (Ending.returned (Value.int IntKind.i64 0)) W2)))))))))))))))))) :
  Calls Tryd.prog 18 #[Value.pointer (some ⟨w, wo, none⟩), Value.int .i64 p] W Q :=
  Sx.sound Tryd.func18 .leaf [Value.pointer (some ⟨w, wo, none⟩), Value.int .i64 p] rfl (Eq.mp (by kernel_rfl) hVC)
theorem vc19 {W : World} {Q : Ending → World → Prop} (w : Nat) (wo : Nat) (a1 : Int) (most : Int)
  (hVC :
    (∃ I : Int → Option Addr → Nat → Nat → World → Prop, (∃ I2 : Int → Option Addr → Nat → Nat → World → Nat, (I 0 none 0 0 W ∧
    ((Nat →
    Value) →
    (∀ i : Int, (∀ out : Option Addr, (∀ k : Nat, (∀ k2 : Nat, (∀ W2 : World, (I i out k k2 W2 →
    (∃ p : Option Addr, (∃ k3 : Nat, (∃ k4 : Nat, (World.cell? W2 (Addr.mk w (wo + 2) none) = some (Value.slice p k3 k4) ∧
    Sx.split (decide (i < (↑k3 : Int)))
     (Sx.split (decide ((↑k : Int) < most))
       ((∃ p2 : Option Addr, (∃ k5 : Nat, (∃ k6 : Nat, (World.cell? W2 (Addr.mk w (wo + 2) none) = some (Value.slice p2 k5 k6) ∧
        (((0 : Int) ≤ i ∧
         i < (↑k5 : Int)) ∧
        Sx.adr p2 (fun k7 =>
         (fun k8 =>
         (∃ vs : Array Value, (Array.size vs = 5 ∧
         (Sx.cellsAt W2 (Addr.mk k7 (k8 + Int.toNat i * 5) none) vs ∧
         Calls Tryd.prog 36 #[Value.pointer (some (Addr.mk w wo none)), Value.agg vs] W2 (fun e =>
          (fun W3 =>
          (∃ t : Bool, (e = Ending.returned (Value.bool t) ∧
          Sx.split t
           ((∃ p3 : Option Addr, (∃ k9 : Nat, (∃ k10 : Nat, (World.cell? W3 (Addr.mk w (wo + 2) none) = some (Value.slice p3 k9 k10) ∧
            (((0 : Int) ≤ i ∧
             i < (↑k9 : Int)) ∧
            Sx.adr p3 (fun k11 =>
             (fun k12 =>
             (∃ z : Int, (World.cell? W3 (Addr.mk k11 (k12 + Int.toNat i * 5 + 1) none) = some (Value.int IntKind.i64 z) ∧
             Sx.split (z == a1)
              ((∃ p4 : Option Addr, (∃ k13 : Nat, (∃ k14 : Nat, (World.cell? W3 (Addr.mk w (wo + 2) none) = some (Value.slice p4 k13 k14) ∧
               (((0 : Int) ≤ i ∧
                i < (↑k13 : Int)) ∧
               Sx.adr p4 (fun k15 =>
                (fun k16 =>
                (∃ z2 : Int, (World.cell? W3 (Addr.mk k15 (k16 + Int.toNat i * 5) none) = some (Value.int IntKind.i64 z2) ∧
                (∀ k17 : Nat, (∀ W4 : World, (k17 = Array.size (World.heap W3) →
                (W4 = World.alloc W3 (Obj.cells #[Value.int IntKind.i64 z2] 3) →
                (∃ l : List Value, (∃ l2 : List Value, (XHeap.Sl W4 3 1 (Value.slice out k k2) k l ∧
                (((((1 : Nat) = (0 : Nat) ∧
                  some (Addr.mk k17 0 none) = none)) ∨
                 ((∃ a : Addr, (some (Addr.mk k17 0 none) = some a ∧
                 (∀ k18 : Nat, (∀ v : Value, (l2[k18]? = some v →
                 World.cell? W4 (Addr.add a k18) = some v))))))) ∧
                (List.length l2 = 1 ∧
                ((∀ v2 : Value, (v2 ∈ l2 →
                 Value.oneCell' v2 = true)) ∧
                (k + 1 ≤ maxLen ∧
                ((k + 1) * 8 ≤ 140737488355328 ∧
                (∀ p5 : Option Addr, (∀ k19 : Nat, (∀ W5 : World, (XHeap.Sl W5 3 1 (Value.slice p5 (k + 1) k19) (k + 1) (l ++ l2) →
                (XHeap.XTouch (fun b => Value.ownBlock (Value.slice out k k2) = some b) W4 W5 →
                ((∀ k20 : Nat, (Value.ownBlock (Value.slice p5 (k + 1) k19) = some k20 →
                ((Value.ownBlock (Value.slice out k k2) = some k20) ∨
                (Array.size (World.heap W4) ≤ k20)))) →
                (XHeap.Sl W5 3 1 (Value.slice out k k2) k l →
                (((p5 = out) ∨
                ((∀ k21 : Nat, (Value.ownBlock (Value.slice p5 (k + 1) k19) = some k21 →
                Array.size (World.heap W4) ≤ k21)))) →
                (∀ z3 : Int, (z3 = IntKind.wrap IntKind.i64 (i + 1) →
                (I z3 p5 (k + 1) k19 W5 ∧
                I2 z3 p5 (k + 1) k19 W5 < I2 i out k k2 W2)))))))))))))))))))))))))))))))))
              ((∀ z4 : Int, (z4 = IntKind.wrap IntKind.i64 (i + 1) →
               (I z4 out k k2 W3 ∧
               I2 z4 out k k2 W3 < I2 i out k k2 W2))))))))))))))
           ((∀ z5 : Int, (z5 = IntKind.wrap IntKind.i64 (i + 1) →
            (I z5 out k k2 W3 ∧
            I2 z5 out k k2 W3 < I2 i out k k2 W2)))))))))))))))))))
       (Q (Ending.returned (Value.slice out k k2)) W2))
     (Q (Ending.returned (Value.slice out k k2)) W2)))))))))))))))) :
  Calls Tryd.prog 19 #[Value.pointer (some ⟨w, wo, none⟩), Value.int .i64 a1, Value.int .i64 most] W Q :=
  Sx.sound Tryd.func19 (.node [] [] 0 .leaf (.node [] [] 0 .leaf (.node [] [] 0 (.node [] [] 0 .leaf (.node [] [] 0 (.node [(8, .int .i64), (7, .slice)] [0, 2, 1] 0 .leaf .leaf) .leaf)) .leaf))) [Value.pointer (some ⟨w, wo, none⟩), Value.int .i64 a1, Value.int .i64 most] rfl (Eq.mp (by kernel_rfl) hVC)
theorem vc20 {W : World} {Q : Ending → World → Prop} (h : Array Value)
  (hVC :
    (∀ k : Nat, (∀ W2 : World, (k = Array.size (World.heap W) →
    (W2 = World.alloc W (Obj.cells (Value.cells (Value.agg h)) 58) →
    (∃ p : Option Addr, (∃ k2 : Nat, (∃ k3 : Nat, (World.cell? W2 (Addr.mk k 0 none) = some (Value.slice p k2 k3) ∧
    (∃ p2 : Option Addr, (∃ k4 : Nat, (∃ k5 : Nat, (World.cell? W2 (Addr.mk k (0 + 1) none) = some (Value.slice p2 k4 k5) ∧
    Sx.split ((↑k2 : Int) != (↑k4 : Int))
     (Q (Ending.returned (Value.bool false)) W2)
     ((∃ I : Int → World → Prop, (∃ I2 : Int → World → Nat, (I 0 W2 ∧
      ((Nat →
      Value) →
      (∀ i : Int, (∀ W3 : World, (I i W3 →
      (∃ p3 : Option Addr, (∃ k6 : Nat, (∃ k7 : Nat, (World.cell? W3 (Addr.mk k 0 none) = some (Value.slice p3 k6 k7) ∧
      Sx.split (decide (i < (↑k6 : Int)))
       ((∃ p4 : Option Addr, (∃ k8 : Nat, (∃ k9 : Nat, (World.cell? W3 (Addr.mk k 0 none) = some (Value.slice p4 k8 k9) ∧
        (((0 : Int) ≤ i ∧
         i < (↑k8 : Int)) ∧
        Sx.adr p4 (fun k10 =>
         (fun k11 =>
         (∃ z : Int, (World.cell? W3 (Addr.mk k10 (k11 + Int.toNat i * 1) none) = some (Value.int IntKind.i64 z) ∧
         (∃ p5 : Option Addr, (∃ k12 : Nat, (∃ k13 : Nat, (World.cell? W3 (Addr.mk k (0 + 1) none) = some (Value.slice p5 k12 k13) ∧
         (((0 : Int) ≤ i ∧
          i < (↑k12 : Int)) ∧
         Sx.adr p5 (fun k14 =>
          (fun k15 =>
          (∃ z2 : Int, (World.cell? W3 (Addr.mk k14 (k15 + Int.toNat i * 1) none) = some (Value.int IntKind.i64 z2) ∧
          (∀ W4 : World, (∀ k16 : Nat, (W4 = World.drewN W3 k16 →
          Sx.split (z != z2)
           (Q (Ending.returned (Value.bool false)) W4)
           ((∀ z3 : Int, (z3 = IntKind.wrap IntKind.i64 (i + 1) →
            (I z3 W4 ∧
            I2 z3 W4 < I2 i W3))))))))))))))))))))))))))
       (Q (Ending.returned (Value.bool true)) W3)))))))))))))))))))))))))) :
  Calls Tryd.prog 20 #[Value.agg h] W Q :=
  Sx.sound Tryd.func20 (.node [] [] 0 .leaf (.node [] [] 0 .leaf (.node [] [] 0 (.node [] [] 0 .leaf (.node [] [] 0 (.node [(3, .int .i64)] [1] 0 .leaf .leaf) .leaf)) .leaf))) [Value.agg h] rfl (Eq.mp (by kernel_rfl) hVC)
theorem vc21 {W : World} {Q : Ending → World → Prop} (hs : Option Addr) (hsn : Nat) (hsc : Nat) (l : Option Addr) (ln : Nat) (lc : Nat)
  (hVC :
    (∃ I : Int → World → Prop, (∃ I2 : Int → World → Nat, (I 0 W ∧
    ((Nat →
    Value) →
    (∀ i : Int, (∀ W2 : World, (I i W2 →
    Sx.split (decide (i < (↑ln : Int)))
     ((∀ z : Int, (z = IntKind.wrap IntKind.i64 (-1000 * (↑hsn : Int)) →
      (∀ z2 : Int, (z2 = IntKind.wrap IntKind.i64 (z - i) →
      (∀ z3 : Int, (z3 = IntKind.wrap IntKind.i64 (z2 - 1) →
      (((0 : Int) ≤ i ∧
       i < (↑ln : Int)) ∧
      Sx.adr l (fun k =>
       (fun k2 =>
       ((∃ v : Value, World.cell? W2 (Addr.mk k (k2 + Int.toNat i * 1) none) = some v) ∧
       (World.frozen? W2 (Addr.mk k (k2 + Int.toNat i * 1) none) = false ∧
       (∀ W3 : World, (W3 = World.setCell W2 (Addr.mk k (k2 + Int.toNat i * 1) none) (Value.int IntKind.i64 z3) →
       (∀ z4 : Int, (z4 = IntKind.wrap IntKind.i64 (i + 1) →
       (I z4 W3 ∧
       I2 z4 W3 < I2 i W2)))))))))))))))))
     ((∃ I3 : Int → Option Addr → Nat → Nat → World → Prop, (∃ I4 : Int → Option Addr → Nat → Nat → World → Nat, (I3 0 l ln lc W2 ∧
      ((Nat →
      Value) →
      (∀ i2 : Int, (∀ g : Option Addr, (∀ k3 : Nat, (∀ k4 : Nat, (∀ W4 : World, (I3 i2 g k3 k4 W4 →
      Sx.split (decide (i2 < 70))
       ((∀ z5 : Int, (z5 = IntKind.wrap IntKind.i64 (-1000 * (↑hsn : Int)) →
        (∀ z6 : Int, (z6 = IntKind.wrap IntKind.i64 (z5 - 900) →
        (∀ z7 : Int, (z7 = IntKind.wrap IntKind.i64 (z6 - i2) →
        (∀ k5 : Nat, (∀ W5 : World, (k5 = Array.size (World.heap W4) →
        (W5 = World.alloc W4 (Obj.cells #[Value.int IntKind.i64 z7] 3) →
        (∃ l2 : List Value, (∃ l3 : List Value, (XHeap.Sl W5 3 1 (Value.slice g k3 k4) k3 l2 ∧
        (((((1 : Nat) = (0 : Nat) ∧
          some (Addr.mk k5 0 none) = none)) ∨
         ((∃ a : Addr, (some (Addr.mk k5 0 none) = some a ∧
         (∀ k6 : Nat, (∀ v2 : Value, (l3[k6]? = some v2 →
         World.cell? W5 (Addr.add a k6) = some v2))))))) ∧
        (List.length l3 = 1 ∧
        ((∀ v3 : Value, (v3 ∈ l3 →
         Value.oneCell' v3 = true)) ∧
        (k3 + 1 ≤ maxLen ∧
        ((k3 + 1) * 8 ≤ 140737488355328 ∧
        (∀ p : Option Addr, (∀ k7 : Nat, (∀ W6 : World, (XHeap.Sl W6 3 1 (Value.slice p (k3 + 1) k7) (k3 + 1) (l2 ++ l3) →
        (XHeap.XTouch (fun b => Value.ownBlock (Value.slice g k3 k4) = some b) W5 W6 →
        ((∀ k8 : Nat, (Value.ownBlock (Value.slice p (k3 + 1) k7) = some k8 →
        ((Value.ownBlock (Value.slice g k3 k4) = some k8) ∨
        (Array.size (World.heap W5) ≤ k8)))) →
        (XHeap.Sl W6 3 1 (Value.slice g k3 k4) k3 l2 →
        (((p = g) ∨
        ((∀ k9 : Nat, (Value.ownBlock (Value.slice p (k3 + 1) k7) = some k9 →
        Array.size (World.heap W5) ≤ k9)))) →
        (∀ z8 : Int, (z8 = IntKind.wrap IntKind.i64 (i2 + 1) →
        (I3 z8 p (k3 + 1) k7 W6 ∧
        I4 z8 p (k3 + 1) k7 W6 < I4 i2 g k3 k4 W4))))))))))))))))))))))))))))))
       ((((0 : Int) ≤ (↑ln : Int) ∧
         ((↑ln : Int) ≤ (↑ln : Int) ∧
         ((↑ln : Int) ≤ 9223372036854775807 ∧
         (↑8 : Int) * (↑ln : Int) ≤ 281474976710656))) ∧
        (∀ k10 : Nat, (∀ W7 : World, (k10 = Array.size (World.heap W4) →
        (W7 = World.alloc W4 (Obj.cells (madeCells #[Value.int IntKind.i64 0] (Int.toNat (↑ln : Int) * 1)) 3) →
        (∃ l4 : List Value, (List.length l4 = Nat.min ln (Int.toNat (↑ln : Int)) * 1 ∧
        ((∀ v4 : Value, (v4 ∈ l4 →
         Value.oneCell' v4 = true)) ∧
        (((l4 = []) ∨
         (((∃ a2 : Addr, (l = some a2 ∧
          (∀ k11 : Nat, (∀ v5 : Value, (l4[k11]? = some v5 →
          World.cell? W7 (Addr.add a2 k11) = some v5))))) ∧
         (∃ k12 : Nat, (∃ k13 : Nat, (some (Addr.mk k10 0 none) = some (Addr.mk k12 k13 none) ∧
         (∀ k14 : Nat, (k14 < List.length l4 →
         ((∃ v6 : Value, World.cell? W7 (Addr.mk k12 (k13 + k14) none) = some v6) ∧
         World.frozen? W7 (Addr.mk k12 (k13 + k14) none) = false))))))))) ∧
        (∀ W8 : World, (W8 = Sx.setRow (some (Addr.mk k10 0 none)) W7 l4 →
        (((0 : Int) ≤ (↑k3 : Int) ∧
         ((↑k3 : Int) ≤ (↑k3 : Int) ∧
         ((↑k3 : Int) ≤ 9223372036854775807 ∧
         (↑8 : Int) * (↑k3 : Int) ≤ 281474976710656))) ∧
        (∀ k15 : Nat, (∀ W9 : World, (k15 = Array.size (World.heap W8) →
        (W9 = World.alloc W8 (Obj.cells (madeCells #[Value.int IntKind.i64 0] (Int.toNat (↑k3 : Int) * 1)) 3) →
        (∃ l5 : List Value, (List.length l5 = Nat.min k3 (Int.toNat (↑k3 : Int)) * 1 ∧
        ((∀ v7 : Value, (v7 ∈ l5 →
         Value.oneCell' v7 = true)) ∧
        (((l5 = []) ∨
         (((∃ a3 : Addr, (g = some a3 ∧
          (∀ k16 : Nat, (∀ v8 : Value, (l5[k16]? = some v8 →
          World.cell? W9 (Addr.add a3 k16) = some v8))))) ∧
         (∃ k17 : Nat, (∃ k18 : Nat, (some (Addr.mk k15 0 none) = some (Addr.mk k17 k18 none) ∧
         (∀ k19 : Nat, (k19 < List.length l5 →
         ((∃ v9 : Value, World.cell? W9 (Addr.mk k17 (k18 + k19) none) = some v9) ∧
         World.frozen? W9 (Addr.mk k17 (k18 + k19) none) = false))))))))) ∧
        (∀ W10 : World, (W10 = Sx.setRow (some (Addr.mk k15 0 none)) W9 l5 →
        (∀ vs : Array Value, (vs = #[Value.slice l ln lc, Value.slice (some (Addr.mk k10 0 none)) (Int.toNat (↑ln : Int)) (Int.toNat (↑ln : Int))] →
        (∀ vs2 : Array Value, (vs2 = #[Value.slice g k3 k4, Value.slice (some (Addr.mk k15 0 none)) (Int.toNat (↑k3 : Int)) (Int.toNat (↑k3 : Int))] →
        (Array.size vs = 2 ∧
        (Array.size vs2 = 2 ∧
        (∀ k20 : Nat, (∀ W11 : World, (k20 = Array.size (World.heap W10) →
        (W11 = World.alloc W10 (Obj.cells (List.toArray (Array.toList vs ++ (Array.toList vs2 ++ []))) 58) →
        (∃ l6 : List Value, (∃ l7 : List Value, (XHeap.Sl W11 58 2 (Value.slice hs hsn hsc) hsn l6 ∧
        (((((2 : Nat) = (0 : Nat) ∧
          some (Addr.mk k20 0 none) = none)) ∨
         ((∃ a4 : Addr, (some (Addr.mk k20 0 none) = some a4 ∧
         (∀ k21 : Nat, (∀ v10 : Value, (l7[k21]? = some v10 →
         World.cell? W11 (Addr.add a4 k21) = some v10))))))) ∧
        (List.length l7 = 4 ∧
        ((∀ v11 : Value, (v11 ∈ l7 →
         Value.oneCell' v11 = true)) ∧
        (hsn + 2 ≤ maxLen ∧
        ((hsn + 2) * 48 ≤ 140737488355328 ∧
        (∀ p2 : Option Addr, (∀ k22 : Nat, (∀ W12 : World, (XHeap.Sl W12 58 2 (Value.slice p2 (hsn + 2) k22) (hsn + 2) (l6 ++ l7) →
        (XHeap.XTouch (fun b => Value.ownBlock (Value.slice hs hsn hsc) = some b) W11 W12 →
        ((∀ k23 : Nat, (Value.ownBlock (Value.slice p2 (hsn + 2) k22) = some k23 →
        ((Value.ownBlock (Value.slice hs hsn hsc) = some k23) ∨
        (Array.size (World.heap W11) ≤ k23)))) →
        (XHeap.Sl W12 58 2 (Value.slice hs hsn hsc) hsn l6 →
        (((p2 = hs) ∨
        ((∀ k24 : Nat, (Value.ownBlock (Value.slice p2 (hsn + 2) k22) = some k24 →
        Array.size (World.heap W11) ≤ k24)))) →
        Q (Ending.returned (Value.slice p2 (hsn + 2) k22)) W12)))))))))))))))))))))))))))))))))))))))))))))))))))))))))))))))))))) :
  Calls Tryd.prog 21 #[Value.slice hs hsn hsc, Value.slice l ln lc] W Q :=
  Sx.sound Tryd.func21 (.node [] [] 0 .leaf (.node [] [] 0 (.node [] [] 0 .leaf (.node [] [] 0 (.node [(5, .int .i64)] [1, 0] 0 .leaf .leaf) .leaf)) (.node [] [] 0 .leaf (.node [] [] 0 (.node [] [] 0 .leaf (.node [] [] 0 (.node [(7, .int .i64), (6, .slice)] [0, 1] 0 .leaf .leaf) .leaf)) .leaf)))) [Value.slice hs hsn hsc, Value.slice l ln lc] rfl (Eq.mp (by kernel_rfl) hVC)
theorem vc22 {W : World} {Q : Ending → World → Prop} (w : Nat) (wo : Nat) (seq : Int) (a2 : Int) (to : Int)
  (hVC :
    Calls Tryd.prog 37 #[Value.pointer (some (Addr.mk w wo none)), Value.int IntKind.i64 seq] W (fun e =>
     (fun W2 =>
     (∃ z : Int, (e = Ending.returned (Value.int IntKind.i64 z) ∧
     Sx.split (decide (z < 0))
      (Q (Ending.returned (Value.int IntKind.i64 7)) W2)
      ((∃ p : Option Addr, (∃ k : Nat, (∃ k2 : Nat, (World.cell? W2 (Addr.mk w (wo + 2) none) = some (Value.slice p k k2) ∧
       (((0 : Int) ≤ z ∧
        z < (↑k : Int)) ∧
       Sx.adr p (fun k3 =>
        (fun k4 =>
        (∃ z2 : Int, (World.cell? W2 (Addr.mk k3 (k4 + Int.toNat z * 5 + 4) none) = some (Value.int IntKind.i64 z2) ∧
        Sx.split (z2 != a2)
         (Q (Ending.returned (Value.int IntKind.i64 7)) W2)
         ((∃ p2 : Option Addr, (∃ k5 : Nat, (∃ k6 : Nat, (World.cell? W2 (Addr.mk w (wo + 2) none) = some (Value.slice p2 k5 k6) ∧
          (((0 : Int) ≤ z ∧
           z < (↑k5 : Int)) ∧
          Sx.adr p2 (fun k7 =>
           (fun k8 =>
           (∃ vs : Array Value, (Array.size vs = 5 ∧
           (Sx.cellsAt W2 (Addr.mk k7 (k8 + Int.toNat z * 5) none) vs ∧
           Calls Tryd.prog 36 #[Value.pointer (some (Addr.mk w wo none)), Value.agg vs] W2 (fun e2 =>
            (fun W3 =>
            (∃ t : Bool, (e2 = Ending.returned (Value.bool t) ∧
            Sx.split (to == 1)
             (Sx.split (!t)
               (Q (Ending.returned (Value.int IntKind.i64 7)) W3)
               ((∃ p3 : Option Addr, (∃ k9 : Nat, (∃ k10 : Nat, (World.cell? W3 (Addr.mk w (wo + 2) none) = some (Value.slice p3 k9 k10) ∧
                (((0 : Int) ≤ z ∧
                 z < (↑k9 : Int)) ∧
                Sx.adr p3 (fun k11 =>
                 (fun k12 =>
                 ((∃ v : Value, World.cell? W3 (Addr.mk k11 (k12 + Int.toNat z * 5 + 4) none) = some v) ∧
                 (World.frozen? W3 (Addr.mk k11 (k12 + Int.toNat z * 5 + 4) none) = false ∧
                 (∀ W4 : World, (W4 = World.setCell W3 (Addr.mk k11 (k12 + Int.toNat z * 5 + 4) none) (Value.int IntKind.i64 to) →
                 Q (Ending.returned (Value.int IntKind.i64 0)) W4)))))))))))))
             ((∃ p4 : Option Addr, (∃ k13 : Nat, (∃ k14 : Nat, (World.cell? W3 (Addr.mk w (wo + 2) none) = some (Value.slice p4 k13 k14) ∧
              (((0 : Int) ≤ z ∧
               z < (↑k13 : Int)) ∧
              Sx.adr p4 (fun k15 =>
               (fun k16 =>
               ((∃ v2 : Value, World.cell? W3 (Addr.mk k15 (k16 + Int.toNat z * 5 + 4) none) = some v2) ∧
               (World.frozen? W3 (Addr.mk k15 (k16 + Int.toNat z * 5 + 4) none) = false ∧
               (∀ W5 : World, (W5 = World.setCell W3 (Addr.mk k15 (k16 + Int.toNat z * 5 + 4) none) (Value.int IntKind.i64 to) →
               Q (Ending.returned (Value.int IntKind.i64 0)) W5)))))))))))))))))))))))))))))))))))))))))) :
  Calls Tryd.prog 22 #[Value.pointer (some ⟨w, wo, none⟩), Value.int .i64 seq, Value.int .i64 a2, Value.int .i64 to] W Q :=
  Sx.sound Tryd.func22 .leaf [Value.pointer (some ⟨w, wo, none⟩), Value.int .i64 seq, Value.int .i64 a2, Value.int .i64 to] rfl (Eq.mp (by kernel_rfl) hVC)
theorem vc24 {W : World} {Q : Ending → World → Prop} (w : Nat) (wo : Nat)
  (hVC :
    (∃ p : Option Addr, (∃ k : Nat, (∃ k2 : Nat, (World.cell? W (Addr.mk w (wo + 2) none) = some (Value.slice p k k2) ∧
    Sx.split ((↑k : Int) == 0)
     (Q (Ending.returned (Value.tuple #[Value.int IntKind.i64 0, Value.int IntKind.i64 7])) W)
     ((∃ p2 : Option Addr, (∃ k3 : Nat, (∃ k4 : Nat, (World.cell? W (Addr.mk w (wo + 2) none) = some (Value.slice p2 k3 k4) ∧
      (((0 : Int) ≤ (0 : Int) ∧
       (0 : Int) < (↑k3 : Int)) ∧
      Sx.adr p2 (fun k5 =>
       (fun k6 =>
       (∃ z : Int, (World.cell? W (Addr.mk k5 (k6 + 0 + 4) none) = some (Value.int IntKind.i64 z) ∧
       Sx.split (z != 2)
        (Q (Ending.returned (Value.tuple #[Value.int IntKind.i64 0, Value.int IntKind.i64 7])) W)
        ((∃ p3 : Option Addr, (∃ k7 : Nat, (∃ k8 : Nat, (World.cell? W (Addr.mk w (wo + 2) none) = some (Value.slice p3 k7 k8) ∧
         (((0 : Int) ≤ (0 : Int) ∧
          (0 : Int) < (↑k7 : Int)) ∧
         Sx.adr p3 (fun k9 =>
          (fun k10 =>
          (∃ z2 : Int, (World.cell? W (Addr.mk k9 (k10 + 0) none) = some (Value.int IntKind.i64 z2) ∧
          (∃ p4 : Option Addr, (∃ k11 : Nat, (∃ k12 : Nat, (World.cell? W (Addr.mk w (wo + 2) none) = some (Value.slice p4 k11 k12) ∧
          (((0 : Int) ≤ (1 : Int) ∧
           (1 : Int) ≤ (↑k11 : Int)) ∧
          (∃ l : List Value, (∃ l2 : List Value, (XHeap.Sl W 67 5 (Value.slice none 0 0) 0 l ∧
          ((((k11 - 1 = 0 ∧
            Sx.sub p4 k12 1 5 = none)) ∨
           ((∃ a : Addr, (Sx.sub p4 k12 1 5 = some a ∧
           (∀ k13 : Nat, (∀ v : Value, (l2[k13]? = some v →
           World.cell? W (Addr.add a k13) = some v))))))) ∧
          (List.length l2 = (k11 - 1) * 5 ∧
          ((∀ v2 : Value, (v2 ∈ l2 →
           Value.oneCell' v2 = true)) ∧
          (0 + (k11 - 1) ≤ maxLen ∧
          ((0 + (k11 - 1)) * 40 ≤ 140737488355328 ∧
          (∀ p5 : Option Addr, (∀ k14 : Nat, (∀ W2 : World, (XHeap.Sl W2 67 5 (Value.slice p5 (0 + (k11 - 1)) k14) (0 + (k11 - 1)) (l ++ l2) →
          (XHeap.XTouch (fun b => Value.ownBlock (Value.slice none 0 0) = some b) W W2 →
          ((∀ k15 : Nat, (Value.ownBlock (Value.slice p5 (0 + (k11 - 1)) k14) = some k15 →
          ((Value.ownBlock (Value.slice none 0 0) = some k15) ∨
          (Array.size (World.heap W) ≤ k15)))) →
          (XHeap.Sl W2 67 5 (Value.slice none 0 0) 0 l →
          (((p5 = none) ∨
          ((∀ k16 : Nat, (Value.ownBlock (Value.slice p5 (0 + (k11 - 1)) k14) = some k16 →
          Array.size (World.heap W) ≤ k16)))) →
          ((∃ v3 : Value, World.cell? W2 (Addr.mk w (wo + 2) none) = some v3) ∧
          (World.frozen? W2 (Addr.mk w (wo + 2) none) = false ∧
          (∀ W3 : World, (W3 = World.setCell W2 (Addr.mk w (wo + 2) none) (Value.slice p5 (0 + (k11 - 1)) k14) →
          Q (Ending.returned (Value.tuple #[Value.int IntKind.i64 z2, Value.int IntKind.i64 0])) W3)))))))))))))))))))))))))))))))))))))))))))))))))) :
  Calls Tryd.prog 24 #[Value.pointer (some ⟨w, wo, none⟩)] W Q :=
  Sx.sound Tryd.func24 .leaf [Value.pointer (some ⟨w, wo, none⟩)] rfl (Eq.mp (by kernel_rfl) hVC)
theorem vc26 {W : World} {Q : Ending → World → Prop} (w : Nat) (wo : Nat) (after : Int)
  (hVC :
    (∃ I : Option Addr → Nat → Nat → World → Prop, (∃ I2 : Option Addr → Nat → Nat → World → Nat, (I none 0 0 W ∧
    ((Nat →
    Value) →
    (∀ out : Option Addr, (∀ k : Nat, (∀ k2 : Nat, (∀ W2 : World, (I out k k2 W2 →
    (∃ p : Option Addr, (∃ k3 : Nat, (∃ k4 : Nat, (World.cell? W2 (Addr.mk w (wo + 2) none) = some (Value.slice p k3 k4) ∧
    Sx.split (decide ((↑k3 : Int) > 0))
     ((∃ p2 : Option Addr, (∃ k5 : Nat, (∃ k6 : Nat, (World.cell? W2 (Addr.mk w (wo + 2) none) = some (Value.slice p2 k5 k6) ∧
      (∃ p3 : Option Addr, (∃ k7 : Nat, (∃ k8 : Nat, (World.cell? W2 (Addr.mk w (wo + 2) none) = some (Value.slice p3 k7 k8) ∧
      (∀ z : Int, (z = IntKind.wrap IntKind.i64 ((↑k7 : Int) - 1) →
      (((0 : Int) ≤ z ∧
       z < (↑k5 : Int)) ∧
      Sx.adr p2 (fun k9 =>
       (fun k10 =>
       (∃ z2 : Int, (World.cell? W2 (Addr.mk k9 (k10 + Int.toNat z * 5) none) = some (Value.int IntKind.i64 z2) ∧
       (∀ W3 : World, (∀ k11 : Nat, (W3 = World.drewN W2 k11 →
       Sx.split (decide (z2 > after))
        ((∀ W4 : World, (W4 = World.drew W3 →
         (∃ p4 : Option Addr, (∃ k12 : Nat, (∃ k13 : Nat, (World.cell? W4 (Addr.mk w (wo + 2) none) = some (Value.slice p4 k12 k13) ∧
         (∃ p5 : Option Addr, (∃ k14 : Nat, (∃ k15 : Nat, (World.cell? W4 (Addr.mk w (wo + 2) none) = some (Value.slice p5 k14 k15) ∧
         (RowKit.Below (Array.size (World.heap W4)) W4 W4 ∧
         (∀ z3 : Int, (z3 = IntKind.wrap IntKind.i64 ((↑k14 : Int) - 1) →
         (((0 : Int) ≤ z3 ∧
          z3 < (↑k12 : Int)) ∧
         Sx.adr p4 (fun k16 =>
          (fun k17 =>
          (∃ z4 : Int, (World.cell? W4 (Addr.mk k16 (k17 + Int.toNat z3 * 5) none) = some (Value.int IntKind.i64 z4) ∧
          (∀ k18 : Nat, (∀ W5 : World, (k18 = Array.size (World.heap W4) →
          (W5 = World.alloc W4 (Obj.cells #[Value.int IntKind.i64 z4] 3) →
          (RowKit.Below (Array.size (World.heap W4)) W4 W5 ∧
          (∃ l : List Value, (∃ l2 : List Value, (XHeap.Sl W5 3 1 (Value.slice out k k2) k l ∧
          (((((1 : Nat) = (0 : Nat) ∧
            some (Addr.mk k18 0 none) = none)) ∨
           ((∃ a : Addr, (some (Addr.mk k18 0 none) = some a ∧
           (∀ k19 : Nat, (∀ v : Value, (l2[k19]? = some v →
           World.cell? W5 (Addr.add a k19) = some v))))))) ∧
          (List.length l2 = 1 ∧
          ((∀ v2 : Value, (v2 ∈ l2 →
           Value.oneCell' v2 = true)) ∧
          (k + 1 ≤ maxLen ∧
          ((k + 1) * 8 ≤ 140737488355328 ∧
          (∀ p6 : Option Addr, (∀ k20 : Nat, (∀ W6 : World, (XHeap.Sl W6 3 1 (Value.slice p6 (k + 1) k20) (k + 1) (l ++ l2) →
          (XHeap.XTouch (fun b => Value.ownBlock (Value.slice out k k2) = some b) W5 W6 →
          ((∀ k21 : Nat, (Value.ownBlock (Value.slice p6 (k + 1) k20) = some k21 →
          ((Value.ownBlock (Value.slice out k k2) = some k21) ∨
          (Array.size (World.heap W5) ≤ k21)))) →
          (XHeap.Sl W6 3 1 (Value.slice out k k2) k l →
          (((p6 = out) ∨
          ((∀ k22 : Nat, (Value.ownBlock (Value.slice p6 (k + 1) k20) = some k22 →
          Array.size (World.heap W5) ≤ k22)))) →
          (∀ W7 : World, (W7 = World.drew W6 →
          (∃ p7 : Option Addr, (∃ k23 : Nat, (∃ k24 : Nat, (World.cell? W7 (Addr.mk w (wo + 2) none) = some (Value.slice p7 k23 k24) ∧
          (∃ p8 : Option Addr, (∃ k25 : Nat, (∃ k26 : Nat, (World.cell? W7 (Addr.mk w (wo + 2) none) = some (Value.slice p8 k25 k26) ∧
          (∀ z5 : Int, (z5 = IntKind.wrap IntKind.i64 ((↑k25 : Int) - 1) →
          (((0 : Int) ≤ z5 ∧
           z5 ≤ (↑k24 : Int)) ∧
          ((∃ v3 : Value, World.cell? W7 (Addr.mk w (wo + 2) none) = some v3) ∧
          (World.frozen? W7 (Addr.mk w (wo + 2) none) = false ∧
          (∀ W8 : World, (W8 = World.setCell W7 (Addr.mk w (wo + 2) none) (Value.slice p7 (Int.toNat z5) k24) →
          (I p6 (k + 1) k20 W8 ∧
          I2 p6 (k + 1) k20 W8 < I2 out k k2 W2))))))))))))))))))))))))))))))))))))))))))))))))))))))))))
        (Q (Ending.returned (Value.slice out k k2)) W3))))))))))))))))))))
     ((∀ W9 : World, (∀ k27 : Nat, (W9 = World.drewN W2 k27 →
      Q (Ending.returned (Value.slice out k k2)) W9)))))))))))))))))) :
  Calls Tryd.prog 26 #[Value.pointer (some ⟨w, wo, none⟩), Value.int .i64 after] W Q :=
  Sx.sound Tryd.func26 (.node [] [] 0 .leaf (.node [] [] 0 .leaf (.node [] [] 0 (.node [] [] 0 (.node [(5, .slice)] [0, 1] 0 (.node [] [] 0 .leaf (.node [] [] 0 (.node [] [] 0 (.node [] [] 1016 .leaf .leaf) (.node [] [] 15 .leaf .leaf)) .leaf)) .leaf) .leaf) .leaf))) [Value.pointer (some ⟨w, wo, none⟩), Value.int .i64 after] rfl (Eq.mp (by kernel_rfl) hVC)
theorem vc35 {W : World} {Q : Ending → World → Prop} (w : Nat) (wo : Nat) (p : Int)
  (hVC :
    Sx.split (decide (p ≥ -1))
     ((∃ p2 : Option Addr, (∃ k : Nat, (∃ k2 : Nat, (World.cell? W (Addr.mk w (wo + 3) none) = some (Value.slice p2 k k2) ∧
      Q (Ending.returned (Value.bool (decide (p < (↑k : Int))))) W)))))
     (Q (Ending.returned (Value.bool false)) W)) :
  Calls Tryd.prog 35 #[Value.pointer (some ⟨w, wo, none⟩), Value.int .i64 p] W Q :=
  Sx.sound Tryd.func35 .leaf [Value.pointer (some ⟨w, wo, none⟩), Value.int .i64 p] rfl (Eq.mp (by kernel_rfl) hVC)
theorem vc36 {W : World} {Q : Ending → World → Prop} (w : Nat) (wo : Nat) (e : Array Value)
  (hVC :
    (∀ k : Nat, (∀ W2 : World, (k = Array.size (World.heap W) →
    (W2 = World.alloc W (Obj.cells (Value.cells (Value.agg e)) 67) →
    (∃ z : Int, (World.cell? W2 (Addr.mk k (0 + 4) none) = some (Value.int IntKind.i64 z) ∧
    Sx.split (z == 0)
     ((∃ z2 : Int, (World.cell? W2 (Addr.mk k (0 + 2) none) = some (Value.int IntKind.i64 z2) ∧
      Sx.split (decide (z2 < 0))
       ((∃ z3 : Int, (World.cell? W2 (Addr.mk k (0 + 3) none) = some (Value.int IntKind.i64 z3) ∧
        Sx.split (decide (z3 < 0))
         ((∀ W3 : World, (∀ k2 : Nat, (W3 = World.drewN W2 k2 →
          Q (Ending.returned (Value.bool true)) W3))))
         ((∃ p : Option Addr, (∃ k3 : Nat, (∃ k4 : Nat, (World.cell? W2 (Addr.mk w (wo + 3) none) = some (Value.slice p k3 k4) ∧
          (∃ z4 : Int, (World.cell? W2 (Addr.mk k (0 + 3) none) = some (Value.int IntKind.i64 z4) ∧
          (((0 : Int) ≤ z4 ∧
           z4 < (↑k3 : Int)) ∧
          Sx.adr p (fun k5 =>
           (fun k6 =>
           (∃ t : Bool, (World.cell? W2 (Addr.mk k5 (k6 + Int.toNat z4 * 1) none) = some (Value.bool t) ∧
           (∀ W4 : World, (∀ k7 : Nat, (W4 = World.drewN W2 k7 →
           Q (Ending.returned (Value.bool t)) W4))))))))))))))))))
       ((∃ p2 : Option Addr, (∃ k8 : Nat, (∃ k9 : Nat, (World.cell? W2 (Addr.mk w (wo + 3) none) = some (Value.slice p2 k8 k9) ∧
        (∃ z5 : Int, (World.cell? W2 (Addr.mk k (0 + 2) none) = some (Value.int IntKind.i64 z5) ∧
        (((0 : Int) ≤ z5 ∧
         z5 < (↑k8 : Int)) ∧
        Sx.adr p2 (fun k10 =>
         (fun k11 =>
         (∃ t2 : Bool, (World.cell? W2 (Addr.mk k10 (k11 + Int.toNat z5 * 1) none) = some (Value.bool t2) ∧
         Sx.split t2
          ((∃ z6 : Int, (World.cell? W2 (Addr.mk k (0 + 3) none) = some (Value.int IntKind.i64 z6) ∧
           Sx.split (decide (z6 < 0))
            ((∀ W5 : World, (∀ k12 : Nat, (W5 = World.drewN W2 k12 →
             Q (Ending.returned (Value.bool true)) W5))))
            ((∃ p3 : Option Addr, (∃ k13 : Nat, (∃ k14 : Nat, (World.cell? W2 (Addr.mk w (wo + 3) none) = some (Value.slice p3 k13 k14) ∧
             (∃ z7 : Int, (World.cell? W2 (Addr.mk k (0 + 3) none) = some (Value.int IntKind.i64 z7) ∧
             (((0 : Int) ≤ z7 ∧
              z7 < (↑k13 : Int)) ∧
             Sx.adr p3 (fun k15 =>
              (fun k16 =>
              (∃ t3 : Bool, (World.cell? W2 (Addr.mk k15 (k16 + Int.toNat z7 * 1) none) = some (Value.bool t3) ∧
              (∀ W6 : World, (∀ k17 : Nat, (W6 = World.drewN W2 k17 →
              Q (Ending.returned (Value.bool t3)) W6))))))))))))))))))
          ((∀ W7 : World, (∀ k18 : Nat, (W7 = World.drewN W2 k18 →
           Q (Ending.returned (Value.bool false)) W7)))))))))))))))))))
     ((∀ W8 : World, (∀ k19 : Nat, (W8 = World.drewN W2 k19 →
      Q (Ending.returned (Value.bool false)) W8))))))))))) :
  Calls Tryd.prog 36 #[Value.pointer (some ⟨w, wo, none⟩), Value.agg e] W Q :=
  Sx.sound Tryd.func36 .leaf [Value.pointer (some ⟨w, wo, none⟩), Value.agg e] rfl (Eq.mp (by kernel_rfl) hVC)
theorem vc37 {W : World} {Q : Ending → World → Prop} (w : Nat) (wo : Nat) (seq : Int)
  (hVC :
    (∃ I : Int → World → Prop, (∃ I2 : Int → World → Nat, (I 0 W ∧
    ((Nat →
    Value) →
    (∀ i : Int, (∀ W2 : World, (I i W2 →
    (∃ p : Option Addr, (∃ k : Nat, (∃ k2 : Nat, (World.cell? W2 (Addr.mk w (wo + 2) none) = some (Value.slice p k k2) ∧
    Sx.split (decide (i < (↑k : Int)))
     ((∃ p2 : Option Addr, (∃ k3 : Nat, (∃ k4 : Nat, (World.cell? W2 (Addr.mk w (wo + 2) none) = some (Value.slice p2 k3 k4) ∧
      (((0 : Int) ≤ i ∧
       i < (↑k3 : Int)) ∧
      Sx.adr p2 (fun k5 =>
       (fun k6 =>
       (∃ z : Int, (World.cell? W2 (Addr.mk k5 (k6 + Int.toNat i * 5) none) = some (Value.int IntKind.i64 z) ∧
       Sx.split (z == seq)
        (Q (Ending.returned (Value.int IntKind.i64 i)) W2)
        ((∀ z2 : Int, (z2 = IntKind.wrap IntKind.i64 (i + 1) →
         (I z2 W2 ∧
         I2 z2 W2 < I2 i W2))))))))))))))
     (Q (Ending.returned (Value.int IntKind.i64 (-1))) W2))))))))))))) :
  Calls Tryd.prog 37 #[Value.pointer (some ⟨w, wo, none⟩), Value.int .i64 seq] W Q :=
  Sx.sound Tryd.func37 (.node [] [] 0 .leaf (.node [] [] 0 (.node [] [] 0 .leaf (.node [] [] 0 (.node [(5, .int .i64)] [0, 1] 0 .leaf .leaf) .leaf)) .leaf)) [Value.pointer (some ⟨w, wo, none⟩), Value.int .i64 seq] rfl (Eq.mp (by kernel_rfl) hVC)
end Go.Proofs.YtdliholhfiihcaaDoor
