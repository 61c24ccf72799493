/- What each function asks, reckoned out of its text; printed by a program of mine (wip/tpl/VcTool.lean). No condition. -/
import Derived.Test.YtngfaiahlblkkaaDoorSxB
import Derived.Test.YtngfaiahlblkkaaDoorChecked
namespace Go.Proofs.YtngfaiahlblkkaaDoor
open Go Go.Proofs
set_option linter.unusedVariables false
set_option maxRecDepth 100000
theorem vc6 {W : World} {Q : Ending → World → Prop} (c : Int) (n : Int)
  (hVC :
    Sx.split (decide (c < 0))
     ((∀ z : Int, (z = IntKind.wrap IntKind.i64 (c + 1) →
      (n ≠ 0 ∧
      (∀ z2 : Int, (z2 = Int.tmod (IntKind.wrap IntKind.i64 (0 - z)) n →
      Q (Ending.returned (Value.int IntKind.i64 z2)) W))))))
     ((n ≠ 0 ∧
      (∀ z3 : Int, (z3 = Int.tmod c n →
      Q (Ending.returned (Value.int IntKind.i64 z3)) W))))) :
  Calls Tryd.prog 6 #[Value.int .i64 c, Value.int .i64 n] W Q :=
  Sx.sound Tryd.func6 .leaf [Value.int .i64 c, Value.int .i64 n] rfl (Eq.mp (by kernel_rfl) hVC)
theorem vc12 {W : World} {Q : Ending → World → Prop} (a : Array Value)
  (hVC :
    (∀ k : Nat, (∀ W2 : World, (k = Array.size (World.heap W) →
    (W2 = World.alloc W (Obj.cells (Value.cells (Value.agg a)) 41) →
    (∀ k2 : Nat, (∀ W3 : World, (k2 = Array.size (World.heap W2) →
    (W3 = World.alloc W2 (Obj.cells #[Value.int IntKind.i64 1, Value.int IntKind.i64 2, Value.int IntKind.i64 4] 3) →
    (∃ z : Int, (World.cell? W3 (Addr.mk k (0 + 2) none) = some (Value.int IntKind.i64 z) ∧
    Calls Tryd.prog 6 #[Value.int IntKind.i64 z, Value.int IntKind.i64 3] W3 (fun e =>
     (fun W4 =>
     (∃ z2 : Int, (e = Ending.returned (Value.int IntKind.i64 z2) ∧
     (((0 : Int) ≤ z2 ∧
      z2 < (↑3 : Int)) ∧
     (∃ z3 : Int, (World.cell? W4 (Addr.mk k2 (0 + Int.toNat z2 * 1) none) = some (Value.int IntKind.i64 z3) ∧
     (∃ z4 : Int, (World.cell? W4 (Addr.mk k (0 + 1) none) = some (Value.int IntKind.i64 z4) ∧
     (z3 ≠ 0 ∧
     (∀ z5 : Int, (z5 = IntKind.wrap IntKind.i64 (Int.tdiv 16 z3) →
     (∃ z6 : Int, ((∀ k3 : Nat, Calls Tryd.prog 6 #[Value.int IntKind.i64 z4, Value.int IntKind.i64 z5] (World.drewN W4 k3) (fun e2 =>
       (fun W5 =>
       (e2 = Ending.returned (Value.int IntKind.i64 z6) ∧
       (∃ k4 : Nat, W5 = World.drewN W4 k4))))) ∧
     (∀ z7 : Int, (z7 = IntKind.wrap IntKind.i64 (z6 * z3) →
     (∀ z8 : Int, (z8 = IntKind.wrap IntKind.i64 (64 + z7) →
     (∀ z9 : Int, (z9 = IntKind.wrap IntKind.u32 z8 →
     (∀ W6 : World, (∀ k5 : Nat, (W6 = World.drewN W4 k5 →
     Q (Ending.returned (Value.tuple #[Value.int IntKind.u32 z9, Value.int IntKind.i64 z3])) W6)))))))))))))))))))))))))))))))))) :
  Calls Tryd.prog 12 #[Value.agg a] W Q :=
  Sx.sound Tryd.func12 .leaf [Value.agg a] rfl (Eq.mp (by kernel_rfl) hVC)
theorem vc13 {W : World} {Q : Ending → World → Prop} (m : Option Addr) (mn : Nat) (mc : Nat) (addr : Int) (size : Int)
  (hVC :
    (∀ z : Int, (z = IntKind.wrap IntKind.i64 (size - 1) →
    (∃ I : Int → Int → World → Prop, (∃ I2 : Int → Int → World → Nat, (I z 0 W ∧
    ((Nat →
    Value) →
    (∀ k : Int, (∀ v : Int, (∀ W2 : World, (I k v W2 →
    Sx.split (decide (k ≥ 0))
     (((0 : Int) ≤ (8 : Int) ∧
      (∀ z2 : Int, (z2 = IntKind.wrap IntKind.u32 (v * 2 ^ min 8 (IntKind.bits IntKind.u32)) →
      (∀ z3 : Int, (z3 = IntKind.wrap IntKind.i64 addr →
      (∀ z4 : Int, (z4 = IntKind.wrap IntKind.i64 (z3 - 64) →
      (∀ z5 : Int, (z5 = IntKind.wrap IntKind.i64 (z4 + k) →
      (((0 : Int) ≤ z5 ∧
       z5 < (↑mn : Int)) ∧
      Sx.adr m (fun k2 =>
       (fun k3 =>
       (∃ z6 : Int, (World.cell? W2 (Addr.mk k2 (k3 + Int.toNat z5 * 1) none) = some (Value.int IntKind.u8 z6) ∧
       (∀ z7 : Int, (z7 = IntKind.wrap IntKind.u32 z6 →
       (∀ z8 : Int, (z8 = IntKind.wrap IntKind.u32 (↑(BitVec.toNat (BitVec.ofInt (IntKind.bits IntKind.u32) z2 ||| BitVec.ofInt (IntKind.bits IntKind.u32) z7)) : Int) →
       (∀ z9 : Int, (z9 = IntKind.wrap IntKind.i64 (k - 1) →
       (I z9 z8 W2 ∧
       I2 z9 z8 W2 < I2 k v W2))))))))))))))))))))))
     (Q (Ending.returned (Value.int IntKind.u32 v)) W2)))))))))))) :
  Calls Tryd.prog 13 #[Value.slice m mn mc, Value.int .u32 addr, Value.int .i64 size] W Q :=
  Sx.sound Tryd.func13 (.node [] [] 0 .leaf (.node [] [] 0 .leaf (.node [] [] 0 (.node [] [] 0 .leaf (.node [] [] 0 (.node [(8, .int .i64), (7, .int .u32)] [0, 1] 0 .leaf .leaf) .leaf)) .leaf))) [Value.slice m mn mc, Value.int .u32 addr, Value.int .i64 size] rfl (Eq.mp (by kernel_rfl) hVC)
theorem vc8 {W : World} {Q : Ending → World → Prop} (x : Nat) (xo : Nat)
  (hVC :
    (∃ I : World → Prop, (∃ I2 : World → Nat, (I W ∧
    ((Nat →
    Value) →
    (∀ W2 : World, (I W2 →
    (∃ z : Int, (World.cell? W2 (Addr.mk x (xo + 2) none) = some (Value.int IntKind.i64 z) ∧
    (∃ p : Option Addr, (∃ k : Nat, (∃ k2 : Nat, (World.cell? W2 (Addr.mk x (xo + 1) none) = some (Value.slice p k k2) ∧
    (∀ W3 : World, (∀ k3 : Nat, (W3 = World.drewN W2 k3 →
    Sx.split (decide (z < (↑k : Int)))
     ((∀ W4 : World, (W4 = World.drew W3 →
      (∃ p2 : Option Addr, (World.cell? W4 (Addr.mk x xo none) = some (Value.pointer p2) ∧
      (∃ z2 : Int, (World.cell? W4 (Addr.mk x (xo + 2) none) = some (Value.int IntKind.i64 z2) ∧
      (∃ p3 : Option Addr, (∃ k4 : Nat, (∃ k5 : Nat, (World.cell? W4 (Addr.mk x (xo + 1) none) = some (Value.slice p3 k4 k5) ∧
      (∃ z3 : Int, (World.cell? W4 (Addr.mk x (xo + 2) none) = some (Value.int IntKind.i64 z3) ∧
      (((0 : Int) ≤ z3 ∧
       z3 < (↑k4 : Int)) ∧
      Sx.adr p3 (fun k6 =>
       (fun k7 =>
       (∃ t : Bool, (World.cell? W4 (Addr.mk k6 (k7 + Int.toNat z3 * 4) none) = some (Value.bool t) ∧
       Calls Tryd.prog 16 #[Value.pointer p2, Value.int IntKind.i64 z2, Value.bool t] W4 (fun e =>
        (fun W5 =>
        (∃ v : Value, (e = Ending.returned v ∧
        Calls Tryd.prog 31 #[v] W5 (fun e2 =>
         (fun W6 =>
         (∃ z4 : Int, (e2 = Ending.returned (Value.int IntKind.i64 z4) ∧
         Sx.split (z4 == 4)
          (Q (Ending.returned (Value.bool true)) W6)
          (Sx.isNil v (fun t2 =>
            Sx.split (!t2)
             (Q (Ending.returned (Value.bool false)) W6)
             ((∃ z5 : Int, (World.cell? W6 (Addr.mk x (xo + 2) none) = some (Value.int IntKind.i64 z5) ∧
              (∀ z6 : Int, (z6 = IntKind.wrap IntKind.i64 (z5 + 1) →
              ((∃ v2 : Value, World.cell? W6 (Addr.mk x (xo + 2) none) = some v2) ∧
              (World.frozen? W6 (Addr.mk x (xo + 2) none) = false ∧
              (∀ W7 : World, (W7 = World.setCell W6 (Addr.mk x (xo + 2) none) (Value.int IntKind.i64 z6) →
              (I W7 ∧
              I2 W7 < I2 W2))))))))))))))))))))))))))))))))))))))
     (Q (Ending.returned (Value.bool true)) W3))))))))))))))))) :
  Calls Tryd.prog 8 #[Value.pointer (some ⟨x, xo, none⟩)] W Q :=
  Sx.sound Tryd.func8 (.node [] [] 0 .leaf (.node [] [] 0 (.node [] [] 0 (.node [] [0] 0 (.node [] [] 0 .leaf (.node [] [] 0 (.node [] [] 0 (.node [] [] 20 .leaf .leaf) .leaf) .leaf)) .leaf) .leaf) .leaf)) [Value.pointer (some ⟨x, xo, none⟩)] rfl (Eq.mp (by kernel_rfl) hVC)
theorem vc9 {W : World} {Q : Ending → World → Prop} (arg0 : Nat) (arg0o : Nat) (arg1 : Int) (arg2 : Bool)
  (hVC :
    (∃ p : Option Addr, (∃ k : Nat, (∃ k2 : Nat, (World.cell? W (Addr.mk arg0 (arg0o + 1) none) = some (Value.slice p k k2) ∧
    (((0 : Int) ≤ arg1 ∧
     arg1 < (↑k : Int)) ∧
    Sx.adr p (fun k3 =>
     (fun k4 =>
     (∃ vs : Array Value, (Array.size vs = 4 ∧
     (Sx.cellsAt W (Addr.mk k3 (k4 + Int.toNat arg1 * 4) none) vs ∧
     (∀ k5 : Nat, (∀ W2 : World, (k5 = Array.size (World.heap W) →
     (W2 = World.alloc W (Obj.cells #[Value.bool false, Value.int IntKind.i64 0, Value.int IntKind.i64 0, Value.int IntKind.u32 0] 41) →
     (Array.size vs = 4 ∧
     ((∀ k6 : Nat, (k6 < 4 →
      ((∃ v : Value, World.cell? W2 (Addr.mk k5 (0 + k6) none) = some v) ∧
      World.frozen? W2 (Addr.mk k5 (0 + k6) none) = false))) ∧
     ((∀ v2 : Value, (v2 ∈ Array.toList vs →
      Value.oneCell' v2 = true)) ∧
     (∀ W3 : World, (W3 = World.setCells W2 k5 0 (Array.toList vs) →
     (∃ vs2 : Array Value, (Array.size vs2 = 4 ∧
     (Sx.cellsAt W3 (Addr.mk k5 0 none) vs2 ∧
     Calls Tryd.prog 12 #[Value.agg vs2] W3 (fun e =>
      (fun W4 =>
      (∃ z : Int, (∃ z2 : Int, (e = Ending.returned (Value.tuple #[Value.int IntKind.u32 z, Value.int IntKind.i64 z2]) ∧
      (∃ p2 : Option Addr, (∃ k7 : Nat, (∃ k8 : Nat, (World.cell? W4 (Addr.mk arg0 (arg0o + 5) none) = some (Value.slice p2 k7 k8) ∧
      (((0 : Int) ≤ arg1 ∧
       arg1 < (↑k7 : Int)) ∧
      Sx.adr p2 (fun k9 =>
       (fun k10 =>
       (∃ t : Bool, (World.cell? W4 (Addr.mk k9 (k10 + Int.toNat arg1 * 1) none) = some (Value.bool t) ∧
       Sx.split (!t)
        ((∃ p3 : Option Addr, (World.cell? W4 (Addr.mk arg0 arg0o none) = some (Value.pointer p3) ∧
         Calls Tryd.prog 18 #[Value.pointer p3, Value.int IntKind.i64 arg1, Value.int IntKind.u32 z, Value.int IntKind.i64 z2] W4 (fun e2 =>
          (fun W5 =>
          (∃ z3 : Int, (∃ v3 : Value, (e2 = Ending.returned (Value.tuple #[Value.int IntKind.i64 z3, v3]) ∧
          (∃ p4 : Option Addr, (∃ k11 : Nat, (∃ k12 : Nat, (World.cell? W5 (Addr.mk arg0 (arg0o + 5) none) = some (Value.slice p4 k11 k12) ∧
          (((0 : Int) ≤ arg1 ∧
           arg1 < (↑k11 : Int)) ∧
          Sx.adr p4 (fun k13 =>
           (fun k14 =>
           ((∃ v4 : Value, World.cell? W5 (Addr.mk k13 (k14 + Int.toNat arg1 * 1) none) = some v4) ∧
           (World.frozen? W5 (Addr.mk k13 (k14 + Int.toNat arg1 * 1) none) = false ∧
           (∀ W6 : World, (W6 = World.setCell W5 (Addr.mk k13 (k14 + Int.toNat arg1 * 1) none) (Value.bool true) →
           Sx.isNil v3 (fun t2 =>
            Sx.split (!t2)
             (Q (Ending.returned (Value.bool false)) W6)
             (Sx.split (decide (z3 ≥ 0))
               (Sx.split (decide (z3 ≤ arg1))
                 (Q (Ending.returned (Value.bool false)) W6)
                 ((∃ p5 : Option Addr, (∃ k15 : Nat, (∃ k16 : Nat, (World.cell? W6 (Addr.mk arg0 (arg0o + 1) none) = some (Value.slice p5 k15 k16) ∧
                  Sx.split (decide (z3 ≥ (↑k15 : Int)))
                   (Q (Ending.returned (Value.bool false)) W6)
                   ((∃ p6 : Option Addr, (∃ k17 : Nat, (∃ k18 : Nat, (World.cell? W6 (Addr.mk arg0 (arg0o + 1) none) = some (Value.slice p6 k17 k18) ∧
                    (((0 : Int) ≤ z3 ∧
                     z3 < (↑k17 : Int)) ∧
                    Sx.adr p6 (fun k19 =>
                     (fun k20 =>
                     (∃ t3 : Bool, (World.cell? W6 (Addr.mk k19 (k20 + Int.toNat z3 * 4) none) = some (Value.bool t3) ∧
                     Sx.split t3
                      (Q (Ending.returned (Value.bool false)) W6)
                      ((∃ p7 : Option Addr, (∃ k21 : Nat, (∃ k22 : Nat, (World.cell? W6 (Addr.mk arg0 (arg0o + 7) none) = some (Value.slice p7 k21 k22) ∧
                       (((0 : Int) ≤ z3 ∧
                        z3 < (↑k21 : Int)) ∧
                       Sx.adr p7 (fun k23 =>
                        (fun k24 =>
                        (∃ t4 : Bool, (World.cell? W6 (Addr.mk k23 (k24 + Int.toNat z3 * 1) none) = some (Value.bool t4) ∧
                        Sx.split (!t4)
                         (Q (Ending.returned (Value.bool false)) W6)
                         (Calls Tryd.prog 37 #[Value.pointer (some (Addr.mk arg0 arg0o none)), Value.int IntKind.i64 z3] W6 (fun e3 =>
                           (fun W7 =>
                           (e3 = Ending.returned (Value.tuple #[]) ∧
                           Q (Ending.returned (Value.bool true)) W7))))))))))))))))))))))))))))))
               (Q (Ending.returned (Value.bool true)) W6))))))))))))))))))))))
        ((∃ I : Bool → World → Prop, ((∃ t5 : Bool, (World.cell? W4 (Addr.mk k5 0 none) = some (Value.bool t5) ∧
          Sx.split t5
           ((∃ p8 : Option Addr, (∃ k25 : Nat, (∃ k26 : Nat, (World.cell? W4 (Addr.mk arg0 (arg0o + 6) none) = some (Value.slice p8 k25 k26) ∧
            (((0 : Int) ≤ arg1 ∧
             arg1 < (↑k25 : Int)) ∧
            Sx.adr p8 (fun k27 =>
             (fun k28 =>
             (∃ t6 : Bool, (World.cell? W4 (Addr.mk k27 (k28 + Int.toNat arg1 * 1) none) = some (Value.bool t6) ∧
             I (!t6) W4))))))))))
           (I false W4))) ∧
         ((Nat →
         Value) →
         (∀ x : Bool, (∀ W8 : World, (I x W8 →
         Sx.split x
          ((∀ W9 : World, (W9 = World.drew W8 →
           (∃ p9 : Option Addr, (World.cell? W9 (Addr.mk arg0 arg0o none) = some (Value.pointer p9) ∧
           (∃ z4 : Int, (World.cell? W9 (Addr.mk k5 (0 + 3) none) = some (Value.int IntKind.u32 z4) ∧
           Calls Tryd.prog 20 #[Value.pointer p9, Value.int IntKind.i64 arg1, Value.int IntKind.u32 z4] W9 (fun e4 =>
            (fun W10 =>
            (∃ v5 : Value, (e4 = Ending.returned v5 ∧
            (∃ p10 : Option Addr, (∃ k29 : Nat, (∃ k30 : Nat, (World.cell? W10 (Addr.mk arg0 (arg0o + 6) none) = some (Value.slice p10 k29 k30) ∧
            (((0 : Int) ≤ arg1 ∧
             arg1 < (↑k29 : Int)) ∧
            Sx.adr p10 (fun k31 =>
             (fun k32 =>
             ((∃ v6 : Value, World.cell? W10 (Addr.mk k31 (k32 + Int.toNat arg1 * 1) none) = some v6) ∧
             (World.frozen? W10 (Addr.mk k31 (k32 + Int.toNat arg1 * 1) none) = false ∧
             (∀ W11 : World, (W11 = World.setCell W10 (Addr.mk k31 (k32 + Int.toNat arg1 * 1) none) (Value.bool true) →
             Sx.isNil v5 (fun t7 =>
              Q (Ending.returned (Value.bool t7)) W11)))))))))))))))))))))))
          ((∃ t8 : Bool, (World.cell? W8 (Addr.mk k5 0 none) = some (Value.bool t8) ∧
           Sx.split (!t8)
            ((∃ p11 : Option Addr, (∃ k33 : Nat, (∃ k34 : Nat, (World.cell? W8 (Addr.mk arg0 (arg0o + 7) none) = some (Value.slice p11 k33 k34) ∧
             (((0 : Int) ≤ arg1 ∧
              arg1 < (↑k33 : Int)) ∧
             Sx.adr p11 (fun k35 =>
              (fun k36 =>
              (∃ t9 : Bool, (World.cell? W8 (Addr.mk k35 (k36 + Int.toNat arg1 * 1) none) = some (Value.bool t9) ∧
              Sx.split (!t9)
               ((∃ p12 : Option Addr, (World.cell? W8 (Addr.mk arg0 arg0o none) = some (Value.pointer p12) ∧
                Calls Tryd.prog 22 #[Value.pointer p12, Value.int IntKind.i64 arg1, Value.bool arg2] W8 (fun e5 =>
                 (fun W12 =>
                 (∃ vs3 : Array Value, (∃ v7 : Value, (e5 = Ending.returned (Value.tuple #[Value.agg vs3, v7]) ∧
                 (∀ k37 : Nat, (∀ W13 : World, (k37 = Array.size (World.heap W12) →
                 (W13 = World.alloc W12 (Obj.cells #[Value.bool false, Value.int IntKind.i64 0, Value.int IntKind.u32 0] 63) →
                 (Array.size vs3 = 3 ∧
                 ((∀ k38 : Nat, (k38 < 3 →
                  ((∃ v8 : Value, World.cell? W13 (Addr.mk k37 (0 + k38) none) = some v8) ∧
                  World.frozen? W13 (Addr.mk k37 (0 + k38) none) = false))) ∧
                 ((∀ v9 : Value, (v9 ∈ Array.toList vs3 →
                  Value.oneCell' v9 = true)) ∧
                 (∀ W14 : World, (W14 = World.setCells W13 k37 0 (Array.toList vs3) →
                 Sx.isNil v7 (fun t10 =>
                  Sx.split (!t10)
                   (Sx.isNil v7 (fun t11 =>
                     Q (Ending.returned (Value.bool t11)) W14))
                   ((∃ t12 : Bool, (World.cell? W14 (Addr.mk k37 0 none) = some (Value.bool t12) ∧
                    Sx.split t12
                     (Sx.isNil v7 (fun t13 =>
                       Q (Ending.returned (Value.bool t13)) W14))
                     ((∃ p13 : Option Addr, (∃ k39 : Nat, (∃ k40 : Nat, (World.cell? W14 (Addr.mk arg0 (arg0o + 8) none) = some (Value.slice p13 k39 k40) ∧
                      Calls Tryd.prog 13 #[Value.slice p13 k39 k40, Value.int IntKind.u32 z, Value.int IntKind.i64 z2] W14 (fun e6 =>
                       (fun W15 =>
                       (∃ z5 : Int, (e6 = Ending.returned (Value.int IntKind.u32 z5) ∧
                       (∃ I2 : Int → Int → World → Prop, (∃ I3 : Int → Int → World → Nat, (I2 0 z5 W15 ∧
                       ((Nat →
                       Value) →
                       (∀ x2 : Int, (∀ x3 : Int, (∀ W16 : World, (I2 x2 x3 W16 →
                       Sx.split (decide (x2 < z2))
                        ((∃ z6 : Int, (World.cell? W16 (Addr.mk k37 (0 + 1) none) = some (Value.int IntKind.i64 z6) ∧
                         ((0 : Int) ≤ x2 ∧
                         (∀ z7 : Int, (z7 = Int.fdiv z6 (2 ^ min (Int.toNat x2) (IntKind.bits IntKind.i64)) →
                         (∀ z8 : Int, (z8 = IntKind.wrap IntKind.i64 (↑(BitVec.toNat (BitVec.ofInt (IntKind.bits IntKind.i64) z7 &&& BitVec.ofInt (IntKind.bits IntKind.i64) 1)) : Int) →
                         Sx.split (z8 == 1)
                          ((∀ z9 : Int, (z9 = IntKind.wrap IntKind.i64 (8 * x2) →
                           ((0 : Int) ≤ z9 ∧
                           (∀ z10 : Int, (z10 = IntKind.wrap IntKind.u32 (255 * 2 ^ min (Int.toNat z9) (IntKind.bits IntKind.u32)) →
                           (∀ z11 : Int, (z11 = IntKind.wrap IntKind.u32 (↑(BitVec.toNat (BitVec.ofInt (IntKind.bits IntKind.u32) x3 &&& ~~~BitVec.ofInt (IntKind.bits IntKind.u32) z10)) : Int) →
                           (∃ z12 : Int, (World.cell? W16 (Addr.mk k37 (0 + 2) none) = some (Value.int IntKind.u32 z12) ∧
                           (∀ z13 : Int, (z13 = IntKind.wrap IntKind.i64 (8 * x2) →
                           ((0 : Int) ≤ z13 ∧
                           (∀ z14 : Int, (z14 = IntKind.wrap IntKind.u32 (255 * 2 ^ min (Int.toNat z13) (IntKind.bits IntKind.u32)) →
                           (∀ z15 : Int, (z15 = IntKind.wrap IntKind.u32 (↑(BitVec.toNat (BitVec.ofInt (IntKind.bits IntKind.u32) z12 &&& BitVec.ofInt (IntKind.bits IntKind.u32) z14)) : Int) →
                           (∀ z16 : Int, (z16 = IntKind.wrap IntKind.u32 (↑(BitVec.toNat (BitVec.ofInt (IntKind.bits IntKind.u32) z11 ||| BitVec.ofInt (IntKind.bits IntKind.u32) z15)) : Int) →
                           (∀ W17 : World, (∀ k41 : Nat, (W17 = World.drewN W16 k41 →
                           (∀ z17 : Int, (z17 = IntKind.wrap IntKind.i64 (x2 + 1) →
                           (I2 z17 z16 W17 ∧
                           I3 z17 z16 W17 < I3 x2 x3 W16)))))))))))))))))))))))))
                          ((∀ z18 : Int, (z18 = IntKind.wrap IntKind.i64 (x2 + 1) →
                           (I2 z18 x3 W16 ∧
                           I3 z18 x3 W16 < I3 x2 x3 W16))))))))))))
                        ((∃ p14 : Option Addr, (∃ k42 : Nat, (∃ k43 : Nat, (World.cell? W16 (Addr.mk arg0 (arg0o + 4) none) = some (Value.slice p14 k42 k43) ∧
                         (((0 : Int) ≤ arg1 ∧
                          arg1 < (↑k42 : Int)) ∧
                         Sx.adr p14 (fun k44 =>
                          (fun k45 =>
                          ((∃ v10 : Value, World.cell? W16 (Addr.mk k44 (k45 + Int.toNat arg1 * 1) none) = some v10) ∧
                          (World.frozen? W16 (Addr.mk k44 (k45 + Int.toNat arg1 * 1) none) = false ∧
                          (∀ W18 : World, (W18 = World.setCell W16 (Addr.mk k44 (k45 + Int.toNat arg1 * 1) none) (Value.int IntKind.u32 x3) →
                          (∃ p15 : Option Addr, (∃ k46 : Nat, (∃ k47 : Nat, (World.cell? W18 (Addr.mk arg0 (arg0o + 7) none) = some (Value.slice p15 k46 k47) ∧
                          (((0 : Int) ≤ arg1 ∧
                           arg1 < (↑k46 : Int)) ∧
                          Sx.adr p15 (fun k48 =>
                           (fun k49 =>
                           ((∃ v11 : Value, World.cell? W18 (Addr.mk k48 (k49 + Int.toNat arg1 * 1) none) = some v11) ∧
                           (World.frozen? W18 (Addr.mk k48 (k49 + Int.toNat arg1 * 1) none) = false ∧
                           (∀ W19 : World, (W19 = World.setCell W18 (Addr.mk k48 (k49 + Int.toNat arg1 * 1) none) (Value.bool true) →
                           (∃ p16 : Option Addr, (World.cell? W19 (Addr.mk arg0 arg0o none) = some (Value.pointer p16) ∧
                           Calls Tryd.prog 25 #[Value.pointer p16, Value.int IntKind.i64 arg1] W19 (fun e7 =>
                            (fun W20 =>
                            (∃ v12 : Value, (e7 = Ending.returned v12 ∧
                            Sx.isNil v12 (fun t14 =>
                             Q (Ending.returned (Value.bool t14)) W20))))))))))))))))))))))))))))))))))))))))))))))))))))))))))))))))))))
               (Q (Ending.returned (Value.bool true)) W8)))))))))))
            (Q (Ending.returned (Value.bool true)) W8)))))))))))))))))))))))))))))))))))))))))))))))) :
  Calls Tryd.prog 9 #[Value.pointer (some ⟨arg0, arg0o, none⟩), Value.int .i64 arg1, Value.bool arg2] W Q :=
  Sx.sound Tryd.func9 (.node [] [] 0 .leaf (.node [] [] 0 .leaf (.node [] [] 0 .leaf (.node [] [] 0 (.node [] [] 0 (.node [] [] 0 .leaf (.node [] [] 0 .leaf (.node [(94, .bool)] [0, 1, 7, 2, 8, 9] 1 .leaf (.node [] [] 0 (.node [] [] 0 (.node [] [] 8 .leaf .leaf) .leaf) (.node [] [] 0 .leaf (.node [] [] 0 (.node [] [] 0 .leaf (.node [] [] 0 .leaf (.node [] [] 0 .leaf (.node [] [] 0 (.node [] [] 0 .leaf (.node [] [] 0 (.node [(16, .int .i64), (15, .int .u32)] [9, 13, 0, 1] 0 .leaf .leaf) .leaf)) .leaf)))) .leaf)))))) .leaf) .leaf)))) [Value.pointer (some ⟨arg0, arg0o, none⟩), Value.int .i64 arg1, Value.bool arg2] rfl (Eq.mp (by kernel_rfl) hVC)
theorem vc10 {W : World} {Q : Ending → World → Prop} (x : Nat) (xo : Nat)
  (hVC :
    (∃ p : Option Addr, (World.cell? W (Addr.mk x xo none) = some (Value.pointer p) ∧
    Calls Tryd.prog 38 #[Value.pointer p] W (fun e =>
     (fun W2 =>
     (∃ vs : Array Value, (∃ t : Bool, (e = Ending.returned (Value.tuple #[Value.agg vs, Value.bool t]) ∧
     (∀ k : Nat, (∀ W3 : World, (k = Array.size (World.heap W2) →
     (W3 = World.alloc W2 (Obj.cells #[Value.int IntKind.u32 0, Value.int IntKind.i64 0, Value.int IntKind.u32 0] 83) →
     (Array.size vs = 3 ∧
     ((∀ k2 : Nat, (k2 < 3 →
      ((∃ v : Value, World.cell? W3 (Addr.mk k (0 + k2) none) = some v) ∧
      World.frozen? W3 (Addr.mk k (0 + k2) none) = false))) ∧
     ((∀ v2 : Value, (v2 ∈ Array.toList vs →
      Value.oneCell' v2 = true)) ∧
     (∀ W4 : World, (W4 = World.setCells W3 k 0 (Array.toList vs) →
     Sx.split (!t)
      (Q (Ending.returned (Value.bool true)) W4)
      ((∃ I : Int → World → Prop, (∃ I2 : Int → World → Nat, (I 0 W4 ∧
       ((Nat →
       Value) →
       (∀ b : Int, (∀ W5 : World, (I b W5 →
       (∃ z : Int, (World.cell? W5 (Addr.mk k (0 + 1) none) = some (Value.int IntKind.i64 z) ∧
       Sx.split (decide (b < z))
        ((∀ W6 : World, (W6 = World.drew W5 →
         (∃ p2 : Option Addr, (∃ k3 : Nat, (∃ k4 : Nat, (World.cell? W6 (Addr.mk x (xo + 8) none) = some (Value.slice p2 k3 k4) ∧
         (∃ z2 : Int, (World.cell? W6 (Addr.mk k 0 none) = some (Value.int IntKind.u32 z2) ∧
         (∀ z3 : Int, (z3 = IntKind.wrap IntKind.i64 z2 →
         (∀ z4 : Int, (z4 = IntKind.wrap IntKind.i64 (z3 - 64) →
         (∀ z5 : Int, (z5 = IntKind.wrap IntKind.i64 (z4 + b) →
         (∃ z6 : Int, (World.cell? W6 (Addr.mk k (0 + 2) none) = some (Value.int IntKind.u32 z6) ∧
         (∀ z7 : Int, (z7 = IntKind.wrap IntKind.i64 (8 * b) →
         ((0 : Int) ≤ z7 ∧
         (∀ z8 : Int, (z8 = Int.fdiv z6 (2 ^ min (Int.toNat z7) (IntKind.bits IntKind.u32)) →
         (∀ z9 : Int, (z9 = IntKind.wrap IntKind.u8 z8 →
         (((0 : Int) ≤ z5 ∧
          z5 < (↑k3 : Int)) ∧
         Sx.adr p2 (fun k5 =>
          (fun k6 =>
          ((∃ v3 : Value, World.cell? W6 (Addr.mk k5 (k6 + Int.toNat z5 * 1) none) = some v3) ∧
          (World.frozen? W6 (Addr.mk k5 (k6 + Int.toNat z5 * 1) none) = false ∧
          (∀ W7 : World, (W7 = World.setCell W6 (Addr.mk k5 (k6 + Int.toNat z5 * 1) none) (Value.int IntKind.u8 z9) →
          (∀ z10 : Int, (z10 = IntKind.wrap IntKind.i64 (b + 1) →
          (I z10 W7 ∧
          I2 z10 W7 < I2 b W5))))))))))))))))))))))))))))))))))
        ((∃ p3 : Option Addr, (World.cell? W5 (Addr.mk x xo none) = some (Value.pointer p3) ∧
         Calls Tryd.prog 29 #[Value.pointer p3] W5 (fun e2 =>
          (fun W8 =>
          (∃ v4 : Value, (e2 = Ending.returned v4 ∧
          Sx.isNil v4 (fun t2 =>
           Q (Ending.returned (Value.bool t2)) W8))))))))))))))))))))))))))))))))))) :
  Calls Tryd.prog 10 #[Value.pointer (some ⟨x, xo, none⟩)] W Q :=
  Sx.sound Tryd.func10 (.node [] [] 0 .leaf (.node [] [] 0 .leaf (.node [] [] 0 .leaf (.node [] [] 0 (.node [] [] 0 .leaf (.node [] [] 0 (.node [(5, .int .i64)] [3, 0] 0 (.node [] [] 0 .leaf (.node [] [] 0 (.node [] [] 0 (.node [] [] 18 .leaf .leaf) .leaf) .leaf)) .leaf) .leaf)) .leaf)))) [Value.pointer (some ⟨x, xo, none⟩)] rfl (Eq.mp (by kernel_rfl) hVC)
theorem vc37 {W : World} {Q : Ending → World → Prop} (x : Nat) (xo : Nat) (seq : Int)
  (hVC :
    (∃ p : Option Addr, (World.cell? W (Addr.mk x xo none) = some (Value.pointer p) ∧
    (∀ z : Int, (z = IntKind.wrap IntKind.i64 (seq - 1) →
    Calls Tryd.prog 34 #[Value.pointer p, Value.int IntKind.i64 z] W (fun e =>
     (fun W2 =>
     (e = Ending.returned (Value.tuple #[]) ∧
     (∃ I : Int → World → Prop, (∃ I2 : Int → World → Nat, (I seq W2 ∧
     ((Nat →
     Value) →
     (∀ k : Int, (∀ W3 : World, (I k W3 →
     (∃ p2 : Option Addr, (∃ k2 : Nat, (∃ k3 : Nat, (World.cell? W3 (Addr.mk x (xo + 1) none) = some (Value.slice p2 k2 k3) ∧
     Sx.split (decide (k < (↑k2 : Int)))
      ((∃ p3 : Option Addr, (∃ k4 : Nat, (∃ k5 : Nat, (World.cell? W3 (Addr.mk x (xo + 5) none) = some (Value.slice p3 k4 k5) ∧
       (((0 : Int) ≤ k ∧
        k < (↑k4 : Int)) ∧
       Sx.adr p3 (fun k6 =>
        (fun k7 =>
        ((∃ v : Value, World.cell? W3 (Addr.mk k6 (k7 + Int.toNat k * 1) none) = some v) ∧
        (World.frozen? W3 (Addr.mk k6 (k7 + Int.toNat k * 1) none) = false ∧
        (∀ W4 : World, (W4 = World.setCell W3 (Addr.mk k6 (k7 + Int.toNat k * 1) none) (Value.bool false) →
        (∃ p4 : Option Addr, (∃ k8 : Nat, (∃ k9 : Nat, (World.cell? W4 (Addr.mk x (xo + 6) none) = some (Value.slice p4 k8 k9) ∧
        (((0 : Int) ≤ k ∧
         k < (↑k8 : Int)) ∧
        Sx.adr p4 (fun k10 =>
         (fun k11 =>
         ((∃ v2 : Value, World.cell? W4 (Addr.mk k10 (k11 + Int.toNat k * 1) none) = some v2) ∧
         (World.frozen? W4 (Addr.mk k10 (k11 + Int.toNat k * 1) none) = false ∧
         (∀ W5 : World, (W5 = World.setCell W4 (Addr.mk k10 (k11 + Int.toNat k * 1) none) (Value.bool false) →
         (∃ p5 : Option Addr, (∃ k12 : Nat, (∃ k13 : Nat, (World.cell? W5 (Addr.mk x (xo + 7) none) = some (Value.slice p5 k12 k13) ∧
         (((0 : Int) ≤ k ∧
          k < (↑k12 : Int)) ∧
         Sx.adr p5 (fun k14 =>
          (fun k15 =>
          ((∃ v3 : Value, World.cell? W5 (Addr.mk k14 (k15 + Int.toNat k * 1) none) = some v3) ∧
          (World.frozen? W5 (Addr.mk k14 (k15 + Int.toNat k * 1) none) = false ∧
          (∀ W6 : World, (W6 = World.setCell W5 (Addr.mk k14 (k15 + Int.toNat k * 1) none) (Value.bool false) →
          (∀ z2 : Int, (z2 = IntKind.wrap IntKind.i64 (k + 1) →
          (I z2 W6 ∧
          I2 z2 W6 < I2 k W3)))))))))))))))))))))))))))))))))))))
      (((∃ v4 : Value, World.cell? W3 (Addr.mk x (xo + 2) none) = some v4) ∧
       (World.frozen? W3 (Addr.mk x (xo + 2) none) = false ∧
       (∀ W7 : World, (W7 = World.setCell W3 (Addr.mk x (xo + 2) none) (Value.int IntKind.i64 seq) →
       Q (Ending.returned (Value.tuple #[])) W7)))))))))))))))))))))))) :
  Calls Tryd.prog 37 #[Value.pointer (some ⟨x, xo, none⟩), Value.int .i64 seq] W Q :=
  Sx.sound Tryd.func37 (.node [] [] 0 .leaf (.node [] [] 0 (.node [] [] 0 .leaf (.node [] [] 0 (.node [(4, .int .i64)] [0, 1] 0 .leaf .leaf) .leaf)) .leaf)) [Value.pointer (some ⟨x, xo, none⟩), Value.int .i64 seq] rfl (Eq.mp (by kernel_rfl) hVC)
end Go.Proofs.YtngfaiahlblkkaaDoor
