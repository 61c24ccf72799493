/- What each function asks, reckoned out of its text; printed by a program of mine (wip/tpl/VcTool.lean). No condition. -/
import Derived.Test.YtbiogceijdcoiaaSxB
import Derived.Test.YtbiogceijdcoiaaChecked
namespace Go.Proofs.Ytbiogceijdcoiaa
open Go Go.Proofs
set_option linter.unusedVariables false
set_option maxRecDepth 100000
theorem vc4 {W : World} {Q : Ending → World → Prop} (c : Int) (n : Int)
  (hVC :
    Sx.split (decide (c < 0))
     ((∀ z : Int, (z = IntKind.wrap IntKind.i64 (c + 1) →
      (n ≠ 0 ∧
      (∀ z2 : Int, (z2 = Int.tmod (IntKind.wrap IntKind.i64 (0 - z)) n →
      Q (Ending.returned (Value.int IntKind.i64 z2)) W))))))
     ((n ≠ 0 ∧
      (∀ z3 : Int, (z3 = Int.tmod c n →
      Q (Ending.returned (Value.int IntKind.i64 z3)) W))))) :
  Calls Try.prog 4 #[Value.int .i64 c, Value.int .i64 n] W Q :=
  Sx.sound Try.func4 .leaf [Value.int .i64 c, Value.int .i64 n] rfl (Eq.mp (by kernel_rfl) hVC)
theorem vc13 {W : World} {Q : Ending → World → Prop} (l : Option Addr) (ln : Nat) (lc : Nat) (m : Option Addr) (mn : Nat) (mc : Nat)
  (hVC :
    Sx.split ((↑ln : Int) != (↑mn : Int))
     (Q (Ending.returned (Value.bool false)) W)
     ((∃ I : Int → World → Prop, (∃ I2 : Int → World → Nat, (I 0 W ∧
      ((Nat →
      Value) →
      (∀ i : Int, (∀ W2 : World, (I i W2 →
      Sx.split (decide (i < (↑mn : Int)))
       ((((0 : Int) ≤ i ∧
         i < (↑ln : Int)) ∧
        Sx.adr l (fun k =>
         (fun k2 =>
         (∃ z : Int, (World.cell? W2 (Addr.mk k (k2 + Int.toNat i * 1) none) = some (Value.int IntKind.u8 z) ∧
         (((0 : Int) ≤ i ∧
          i < (↑mn : Int)) ∧
         Sx.adr m (fun k3 =>
          (fun k4 =>
          (∃ z2 : Int, (World.cell? W2 (Addr.mk k3 (k4 + Int.toNat i * 1) none) = some (Value.int IntKind.u8 z2) ∧
          (∀ W3 : World, (∀ k5 : Nat, (W3 = World.drewN W2 k5 →
          Sx.split (z != z2)
           (Q (Ending.returned (Value.bool false)) W3)
           ((((0 : Int) ≤ i ∧
             i < (↑ln : Int)) ∧
            Sx.adr l (fun k6 =>
             (fun k7 =>
             (∃ z3 : Int, (World.cell? W3 (Addr.mk k6 (k7 + Int.toNat i * 1) none) = some (Value.int IntKind.u8 z3) ∧
             (∀ z4 : Int, (z4 = IntKind.wrap IntKind.u8 (z3 + 101) →
             (((0 : Int) ≤ i ∧
              i < (↑ln : Int)) ∧
             Sx.adr l (fun k8 =>
              (fun k9 =>
              ((∃ v : Value, World.cell? W3 (Addr.mk k8 (k9 + Int.toNat i * 1) none) = some v) ∧
              (World.frozen? W3 (Addr.mk k8 (k9 + Int.toNat i * 1) none) = false ∧
              (∀ W4 : World, (W4 = World.setCell W3 (Addr.mk k8 (k9 + Int.toNat i * 1) none) (Value.int IntKind.u8 z4) →
              (∀ z5 : Int, (z5 = IntKind.wrap IntKind.i64 (i + 1) →
              (I z5 W4 ∧
              I2 z5 W4 < I2 i W2))))))))))))))))))))))))))))))))
       ((∃ I3 : Int → Option Addr → Nat → Nat → World → Prop, (∃ I4 : Int → Option Addr → Nat → Nat → World → Nat, (I3 0 l ln lc W2 ∧
        ((Nat →
        Value) →
        (∀ i2 : Int, (∀ g : Option Addr, (∀ k10 : Nat, (∀ k11 : Nat, (∀ W5 : World, (I3 i2 g k10 k11 W5 →
        Sx.split (decide (i2 < 70))
         ((∀ k12 : Nat, (∀ W6 : World, (k12 = Array.size (World.heap W5) →
          (W6 = World.alloc W5 (Obj.cells #[Value.int IntKind.u8 238] 5) →
          (∃ l2 : List Value, (∃ l3 : List Value, (XHeap.Sl W6 5 1 (Value.slice g k10 k11) k10 l2 ∧
          (((((1 : Nat) = (0 : Nat) ∧
            some (Addr.mk k12 0 none) = none)) ∨
           ((∃ a : Addr, (some (Addr.mk k12 0 none) = some a ∧
           (∀ k13 : Nat, (∀ v2 : Value, (l3[k13]? = some v2 →
           World.cell? W6 (Addr.add a k13) = some v2))))))) ∧
          (List.length l3 = 1 ∧
          ((∀ v3 : Value, (v3 ∈ l3 →
           Value.oneCell' v3 = true)) ∧
          (k10 + 1 ≤ maxLen ∧
          ((k10 + 1) * 1 ≤ 140737488355328 ∧
          (∀ p : Option Addr, (∀ k14 : Nat, (∀ W7 : World, (XHeap.Sl W7 5 1 (Value.slice p (k10 + 1) k14) (k10 + 1) (l2 ++ l3) →
          (XHeap.XTouch (fun b => Value.ownBlock (Value.slice g k10 k11) = some b) W6 W7 →
          ((∀ k15 : Nat, (Value.ownBlock (Value.slice p (k10 + 1) k14) = some k15 →
          ((Value.ownBlock (Value.slice g k10 k11) = some k15) ∨
          (Array.size (World.heap W6) ≤ k15)))) →
          (XHeap.Sl W7 5 1 (Value.slice g k10 k11) k10 l2 →
          ((((p = g ∧
           k14 = k11)) ∨
          ((((XHeap.NilP g) ∨
           (k11 < k10 + 1)) ∧
          (∀ k16 : Nat, (Value.ownBlock (Value.slice p (k10 + 1) k14) = some k16 →
          Array.size (World.heap W6) ≤ k16))))) →
          (∀ z6 : Int, (z6 = IntKind.wrap IntKind.i64 (i2 + 1) →
          (I3 z6 p (k10 + 1) k14 W7 ∧
          I4 z6 p (k10 + 1) k14 W7 < I4 i2 g k10 k11 W5))))))))))))))))))))))))
         ((∀ z7 : Int, (z7 = IntKind.wrap IntKind.i64 ((↑ln : Int) + 70) →
          Q (Ending.returned (Value.bool ((↑k10 : Int) == z7))) W5))))))))))))))))))))))) :
  Calls Try.prog 13 #[Value.slice l ln lc, Value.slice m mn mc] W Q :=
  Sx.sound Try.func13 (.node [] [] 0 .leaf (.node [] [] 0 .leaf (.node [] [] 0 (.node [] [] 0 .leaf (.node [] [] 0 (.node [(5, .int .i64)] [1, 0] 0 .leaf .leaf) .leaf)) (.node [] [] 0 .leaf (.node [] [] 0 (.node [] [] 0 .leaf (.node [] [] 0 (.node [(7, .int .i64), (6, .slice)] [0] 0 .leaf .leaf) .leaf)) .leaf))))) [Value.slice l ln lc, Value.slice m mn mc] rfl (Eq.mp (by kernel_rfl) hVC)
theorem vc3 {W : World} {Q : Ending → World → Prop} (arg0 : Int) (arg1 : Int) (arg2 : Int) (arg3 : Option Addr) (arg3n : Nat) (arg3c : Nat)
  (hVC :
    (∀ W2 : World, (W2 = World.drew W →
    (∃ z : Int, (Calls Try.prog 4 #[Value.int IntKind.i64 arg0, Value.int IntKind.i64 3] W2 (fun e =>
      (fun W3 =>
      (e = Ending.returned (Value.int IntKind.i64 z) ∧
      W3 = W2))) ∧
    ((0 : Int) ≤ z ∧
    (∀ z2 : Int, (z2 = IntKind.wrap IntKind.i64 (1 * 2 ^ min (Int.toNat z) (IntKind.bits IntKind.i64)) →
    (∃ z3 : Int, (Calls Try.prog 4 #[Value.int IntKind.i64 arg1, Value.int IntKind.i64 2] W2 (fun e2 =>
      (fun W4 =>
      (e2 = Ending.returned (Value.int IntKind.i64 z3) ∧
      W4 = W2))) ∧
    (∀ z4 : Int, (z4 = IntKind.wrap IntKind.i64 (1 + z3) →
    (∀ vs : Array Value, (vs = #[Value.int IntKind.i64 z2, Value.int IntKind.i64 z4] →
    ((8 : Int) ≠ (0 : Int) ∧
    (∀ z5 : Int, (z5 = IntKind.wrap IntKind.i64 (Int.tdiv arg0 8) →
    (∃ z6 : Int, (Calls Try.prog 4 #[Value.int IntKind.i64 z5, Value.int IntKind.i64 3] W2 (fun e3 =>
      (fun W5 =>
      (e3 = Ending.returned (Value.int IntKind.i64 z6) ∧
      W5 = W2))) ∧
    ((0 : Int) ≤ z6 ∧
    (∀ z7 : Int, (z7 = IntKind.wrap IntKind.i64 (1 * 2 ^ min (Int.toNat z6) (IntKind.bits IntKind.i64)) →
    ((4 : Int) ≠ (0 : Int) ∧
    (∀ z8 : Int, (z8 = IntKind.wrap IntKind.i64 (Int.tdiv arg1 4) →
    (∃ z9 : Int, (Calls Try.prog 4 #[Value.int IntKind.i64 z8, Value.int IntKind.i64 2] W2 (fun e4 =>
      (fun W6 =>
      (e4 = Ending.returned (Value.int IntKind.i64 z9) ∧
      W6 = W2))) ∧
    (∀ z10 : Int, (z10 = IntKind.wrap IntKind.i64 (1 + z9) →
    (∀ vs2 : Array Value, (vs2 = #[Value.int IntKind.i64 z7, Value.int IntKind.i64 z10] →
    (Array.size vs = 2 ∧
    (Array.size vs2 = 2 ∧
    (∀ k : Nat, (∀ W7 : World, (k = Array.size (World.heap W2) →
    (W7 = World.alloc W2 (Obj.cells (List.toArray (Array.toList vs ++ (Array.toList vs2 ++ []))) 25) →
    (∃ I : Value → Option Addr → World → Prop, ((∀ W8 : World, (W8 = World.drew W7 →
     (Calls Try.prog 4 #[Value.int IntKind.i64 arg2, Value.int IntKind.i64 11] W8 (fun e5 =>
       (fun W9 =>
       (∃ z11 : Int, (e5 = Ending.returned (Value.int IntKind.i64 z11) ∧
       (((0 : Int) ≤ (256 : Int) ∧
        ((256 : Int) ≤ (256 : Int) ∧
        ((256 : Int) ≤ (9223372036854775807 : Int) ∧
        (↑1 : Int) * 256 ≤ 281474976710656))) ∧
       (∀ k2 : Nat, (∀ W10 : World, (k2 = Array.size (World.heap W9) →
       (W10 = World.alloc W9 (Obj.cells (madeCells #[Value.int IntKind.u8 0] 256) 5) →
       Calls Try.prog 5 #[Value.slice (some (Addr.mk k 0 none)) 2 2, Value.int IntKind.i64 z11, Value.slice (some (Addr.mk k2 0 none)) 256 256] W10 (fun e6 =>
        (fun W11 =>
        (∃ p : Option Addr, (∃ v : Value, (e6 = Ending.returned (Value.tuple #[Value.pointer p, v]) ∧
        I v p W11)))))))))))))) ∧
     (((0 : Int) ≤ (256 : Int) ∧
      ((256 : Int) ≤ (256 : Int) ∧
      ((256 : Int) ≤ (9223372036854775807 : Int) ∧
      (↑1 : Int) * 256 ≤ 281474976710656))) ∧
     (∀ k3 : Nat, (∀ W12 : World, (k3 = Array.size (World.heap W8) →
     (W12 = World.alloc W8 (Obj.cells (madeCells #[Value.int IntKind.u8 0] 256) 5) →
     (RowKit.Below (Array.size (World.heap W8)) W8 W12 ∧
     Calls Try.prog 4 #[Value.int IntKind.i64 arg2, Value.int IntKind.i64 11] W12 (fun e7 =>
      (fun W13 =>
      (∃ z12 : Int, (e7 = Ending.returned (Value.int IntKind.i64 z12) ∧
      Calls Try.prog 5 #[Value.slice (some (Addr.mk k 0 none)) 2 2, Value.int IntKind.i64 z12, Value.slice (some (Addr.mk k3 0 none)) 256 256] W13 (fun e8 =>
       (fun W14 =>
       (∃ p2 : Option Addr, (∃ v2 : Value, (e8 = Ending.returned (Value.tuple #[Value.pointer p2, v2]) ∧
       I v2 p2 W14)))))))))))))))))) ∧
    ((Nat →
    Value) →
    (∀ x : Value, (∀ x2 : Option Addr, (∀ W15 : World, (I x x2 W15 →
    (∃ I2 : Bool → World → Prop, (Sx.isNil x (fun t =>
      Sx.split (!t)
       (I2 true W15)
       (I2 (Option.isNone x2) W15)) ∧
    ((Nat →
    Value) →
    (∀ x3 : Bool, (∀ W16 : World, (I2 x3 W16 →
    Sx.split x3
     (Q (Ending.returned (Value.bool false)) W16)
     ((((0 : Int) ≤ (256 : Int) ∧
       ((256 : Int) ≤ (256 : Int) ∧
       ((256 : Int) ≤ (9223372036854775807 : Int) ∧
       (↑1 : Int) * 256 ≤ 281474976710656))) ∧
      (∀ k4 : Nat, (∀ W17 : World, (k4 = Array.size (World.heap W16) →
      (W17 = World.alloc W16 (Obj.cells (madeCells #[Value.int IntKind.u8 0] 256) 5) →
      (∃ I3 : Int → World → Prop, (∃ I4 : Int → World → Nat, (I3 0 W17 ∧
      ((Nat →
      Value) →
      (∀ x4 : Int, (∀ W18 : World, (I3 x4 W18 →
      Sx.split (decide (x4 < (↑arg3n : Int)))
       (Sx.split (decide (x4 < 400))
         ((∃ I5 : World → Prop, ((((0 : Int) ≤ x4 ∧
            x4 < (↑arg3n : Int)) ∧
           Sx.adr arg3 (fun k5 =>
            (fun k6 =>
            (∃ z13 : Int, (World.cell? W18 (Addr.mk k5 (k6 + Int.toNat x4 * 5) none) = some (Value.int IntKind.i64 z13) ∧
            Calls Try.prog 4 #[Value.int IntKind.i64 z13, Value.int IntKind.i64 2] W18 (fun e9 =>
             (fun W19 =>
             (∃ z14 : Int, (e9 = Ending.returned (Value.int IntKind.i64 z14) ∧
             (∀ k7 : Nat, (∀ W20 : World, (k7 = Array.size (World.heap W19) →
             (W20 = World.alloc W19 (Obj.cells #[Value.int IntKind.i64 1, Value.int IntKind.i64 2, Value.int IntKind.i64 4] 3) →
             (((0 : Int) ≤ x4 ∧
              x4 < (↑arg3n : Int)) ∧
             Sx.adr arg3 (fun k8 =>
              (fun k9 =>
              (∃ z15 : Int, (World.cell? W20 (Addr.mk k8 (k9 + Int.toNat x4 * 5 + 2) none) = some (Value.int IntKind.i64 z15) ∧
              Calls Try.prog 4 #[Value.int IntKind.i64 z15, Value.int IntKind.i64 3] W20 (fun e10 =>
               (fun W21 =>
               (∃ z16 : Int, (e10 = Ending.returned (Value.int IntKind.i64 z16) ∧
               (((0 : Int) ≤ z16 ∧
                z16 < (↑3 : Int)) ∧
               (∃ z17 : Int, (World.cell? W21 (Addr.mk k7 (0 + Int.toNat z16 * 1) none) = some (Value.int IntKind.i64 z17) ∧
               (((0 : Int) ≤ x4 ∧
                x4 < (↑arg3n : Int)) ∧
               Sx.adr arg3 (fun k10 =>
                (fun k11 =>
                (∃ z18 : Int, (World.cell? W21 (Addr.mk k10 (k11 + Int.toNat x4 * 5 + 1) none) = some (Value.int IntKind.i64 z18) ∧
                (z17 ≠ 0 ∧
                (∀ z19 : Int, (z19 = IntKind.wrap IntKind.i64 (Int.tdiv 256 z17) →
                (∃ z20 : Int, ((∀ k12 : Nat, Calls Try.prog 4 #[Value.int IntKind.i64 z18, Value.int IntKind.i64 z19] (World.drewN W21 k12) (fun e11 =>
                  (fun W22 =>
                  (e11 = Ending.returned (Value.int IntKind.i64 z20) ∧
                  (∃ k13 : Nat, W22 = World.drewN W21 k13))))) ∧
                (∀ z21 : Int, (z21 = IntKind.wrap IntKind.i64 (z20 * z17) →
                (∀ W23 : World, (∀ k14 : Nat, (W23 = World.drewN W21 k14 →
                (∀ z22 : Int, (z22 = IntKind.wrap IntKind.i64 (65536 + z21) →
                (∀ z23 : Int, (z23 = IntKind.wrap IntKind.u32 z22 →
                (∃ I6 : Int → World → Prop, (∃ I7 : Int → World → Nat, (I6 0 W23 ∧
                ((Nat →
                Value) →
                (∀ x5 : Int, (∀ W24 : World, (I6 x5 W24 →
                Sx.split (decide (x5 > 60))
                 (Q (Ending.returned (Value.bool false)) W24)
                 (Calls Try.prog 6 #[Value.pointer x2, Value.int IntKind.i64 z14, Value.int IntKind.u32 z23] W24 (fun e12 =>
                   (fun W25 =>
                   (∃ z24 : Int, (e12 = Ending.returned (Value.int IntKind.i64 z24) ∧
                   (∃ I8 : Bool → World → Prop, (Sx.split (decide (z24 ≥ 2))
                     (I8 true W25)
                     ((((0 : Int) ≤ x4 ∧
                       x4 < (↑arg3n : Int)) ∧
                      Sx.adr arg3 (fun k15 =>
                       (fun k16 =>
                       (∃ t2 : Bool, (World.cell? W25 (Addr.mk k15 (k16 + Int.toNat x4 * 5 + 3) none) = some (Value.bool t2) ∧
                       Sx.split (!t2)
                        (I8 (z24 == 1) W25)
                        (I8 false W25))))))) ∧
                   ((Nat →
                   Value) →
                   (∀ x6 : Bool, (∀ W26 : World, (I8 x6 W26 →
                   Sx.split x6
                    ((((0 : Int) ≤ x4 ∧
                      x4 < (↑arg3n : Int)) ∧
                     Sx.adr arg3 (fun k17 =>
                      (fun k18 =>
                      (∃ t3 : Bool, (World.cell? W26 (Addr.mk k17 (k18 + Int.toNat x4 * 5 + 3) none) = some (Value.bool t3) ∧
                      Sx.split t3
                       ((((0 : Int) ≤ x4 ∧
                         x4 < (↑arg3n : Int)) ∧
                        Sx.adr arg3 (fun k19 =>
                         (fun k20 =>
                         (∃ z25 : Int, (World.cell? W26 (Addr.mk k19 (k20 + Int.toNat x4 * 5 + 4) none) = some (Value.int IntKind.u32 z25) ∧
                         Calls Try.prog 10 #[Value.pointer x2, Value.int IntKind.i64 z14, Value.int IntKind.u32 z23, Value.int IntKind.i64 z17, Value.int IntKind.u32 z25] W26 (fun e13 =>
                          (fun W27 =>
                          (∃ t4 : Bool, (e13 = Ending.returned (Value.bool t4) ∧
                          Sx.split (!t4)
                           (Q (Ending.returned (Value.bool false)) W27)
                           ((∃ I9 : Int → World → Prop, (∃ I10 : Int → World → Nat, (I9 0 W27 ∧
                            ((Nat →
                            Value) →
                            (∀ x7 : Int, (∀ W28 : World, (I9 x7 W28 →
                            Sx.split (decide (x7 < z17))
                             ((∀ z26 : Int, (z26 = IntKind.wrap IntKind.i64 (z21 + x7) →
                              (((0 : Int) ≤ x4 ∧
                               x4 < (↑arg3n : Int)) ∧
                              Sx.adr arg3 (fun k21 =>
                               (fun k22 =>
                               (∃ z27 : Int, (World.cell? W28 (Addr.mk k21 (k22 + Int.toNat x4 * 5 + 4) none) = some (Value.int IntKind.u32 z27) ∧
                               (∀ z28 : Int, (z28 = IntKind.wrap IntKind.i64 (8 * x7) →
                               ((0 : Int) ≤ z28 ∧
                               (∀ z29 : Int, (z29 = Int.fdiv z27 (2 ^ min (Int.toNat z28) (IntKind.bits IntKind.u32)) →
                               (∀ z30 : Int, (z30 = IntKind.wrap IntKind.u8 z29 →
                               (((0 : Int) ≤ z26 ∧
                                z26 < (↑256 : Int)) ∧
                               ((∃ v3 : Value, World.cell? W28 (Addr.mk k4 (0 + Int.toNat z26 * 1) none) = some v3) ∧
                               (World.frozen? W28 (Addr.mk k4 (0 + Int.toNat z26 * 1) none) = false ∧
                               (∀ W29 : World, (W29 = World.setCell W28 (Addr.mk k4 (0 + Int.toNat z26 * 1) none) (Value.int IntKind.u8 z30) →
                               (∀ z31 : Int, (z31 = IntKind.wrap IntKind.i64 (x7 + 1) →
                               (I9 z31 W29 ∧
                               I10 z31 W29 < I10 x7 W28)))))))))))))))))))))))
                             (I5 W28)))))))))))))))))))
                       (Calls Try.prog 11 #[Value.pointer x2, Value.int IntKind.i64 z14, Value.int IntKind.u32 z23, Value.int IntKind.i64 z17] W26 (fun e14 =>
                         (fun W30 =>
                         (∃ z32 : Int, (∃ t5 : Bool, (e14 = Ending.returned (Value.tuple #[Value.int IntKind.u32 z32, Value.bool t5]) ∧
                         (∀ z33 : Int, (z33 = IntKind.wrap IntKind.i64 (z17 - 1) →
                         (∃ I11 : Int → Int → World → Prop, (∃ I12 : Int → Int → World → Nat, (I11 z33 0 W30 ∧
                         ((Nat →
                         Value) →
                         (∀ x8 : Int, (∀ x9 : Int, (∀ W31 : World, (I11 x8 x9 W31 →
                         Sx.split (decide (x8 ≥ 0))
                          (((0 : Int) ≤ (8 : Int) ∧
                           (∀ z34 : Int, (z34 = IntKind.wrap IntKind.u32 (x9 * 2 ^ min 8 (IntKind.bits IntKind.u32)) →
                           (∀ z35 : Int, (z35 = IntKind.wrap IntKind.i64 (z21 + x8) →
                           (((0 : Int) ≤ z35 ∧
                            z35 < (↑256 : Int)) ∧
                           (∃ z36 : Int, (World.cell? W31 (Addr.mk k4 (0 + Int.toNat z35 * 1) none) = some (Value.int IntKind.u8 z36) ∧
                           (∀ z37 : Int, (z37 = IntKind.wrap IntKind.u32 z36 →
                           (∀ z38 : Int, (z38 = IntKind.wrap IntKind.u32 (↑(BitVec.toNat (BitVec.ofInt (IntKind.bits IntKind.u32) z34 ||| BitVec.ofInt (IntKind.bits IntKind.u32) z37)) : Int) →
                           (∀ z39 : Int, (z39 = IntKind.wrap IntKind.i64 (x8 - 1) →
                           (I11 z39 z38 W31 ∧
                           I12 z39 z38 W31 < I12 x8 x9 W31))))))))))))))))
                          ((∃ I13 : Bool → World → Prop, (Sx.split (!t5)
                             (I13 true W31)
                             (I13 (z32 != x9) W31) ∧
                           ((Nat →
                           Value) →
                           (∀ x10 : Bool, (∀ W32 : World, (I13 x10 W32 →
                           Sx.split x10
                            (Q (Ending.returned (Value.bool false)) W32)
                            (I5 W32))))))))))))))))))))))))))))))
                    (Calls Try.prog 7 #[Value.pointer x2, Value.int IntKind.i64 z14] W26 (fun e15 =>
                      (fun W33 =>
                      (∃ t6 : Bool, (e15 = Ending.returned (Value.bool t6) ∧
                      (∃ I14 : World → Prop, (Sx.split (!t6)
                        ((((0 : Int) ≤ x4 ∧
                          x4 < (↑arg3n : Int)) ∧
                         Sx.adr arg3 (fun k23 =>
                          (fun k24 =>
                          (∃ t7 : Bool, (World.cell? W33 (Addr.mk k23 (k24 + Int.toNat x4 * 5 + 3) none) = some (Value.bool t7) ∧
                          Calls Try.prog 8 #[Value.pointer x2, Value.int IntKind.i64 z14, Value.int IntKind.u32 z23, Value.bool t7] W33 (fun e16 =>
                           (fun W34 =>
                           (∃ v4 : Value, (e16 = Ending.returned v4 ∧
                           Sx.isNil v4 (fun t8 =>
                            Sx.split (!t8)
                             (Q (Ending.returned (Value.bool false)) W34)
                             (I14 W34))))))))))))
                        (I14 W33) ∧
                      ((Nat →
                      Value) →
                      (∀ W35 : World, (I14 W35 →
                      Calls Try.prog 9 #[Value.pointer x2] W35 (fun e17 =>
                       (fun W36 =>
                       (∃ p3 : Option Addr, (∃ k25 : Nat, (∃ k26 : Nat, (e17 = Ending.returned (Value.slice p3 k25 k26) ∧
                       (∃ I15 : Int → World → Prop, (∃ I16 : Int → World → Nat, (I15 0 W36 ∧
                       ((Nat →
                       Value) →
                       (∀ x11 : Int, (∀ W37 : World, (I15 x11 W37 →
                       Sx.split (decide (x11 < 256))
                        ((∀ z40 : Int, (z40 = IntKind.wrap IntKind.i64 (65536 + x11) →
                         (∀ z41 : Int, (z41 = IntKind.wrap IntKind.u32 z40 →
                         Calls Try.prog 6 #[Value.pointer x2, Value.int IntKind.i64 0, Value.int IntKind.u32 z41] W37 (fun e18 =>
                          (fun W38 =>
                          (∃ z42 : Int, (e18 = Ending.returned (Value.int IntKind.i64 z42) ∧
                          (∀ z43 : Int, (z43 = IntKind.wrap IntKind.i64 (65536 + x11) →
                          (∀ z44 : Int, (z44 = IntKind.wrap IntKind.u32 z43 →
                          Calls Try.prog 6 #[Value.pointer x2, Value.int IntKind.i64 1, Value.int IntKind.u32 z44] W38 (fun e19 =>
                           (fun W39 =>
                           (∃ z45 : Int, (e19 = Ending.returned (Value.int IntKind.i64 z45) ∧
                           (∃ I17 : Bool → World → Prop, (Sx.split (decide (z42 ≥ 2))
                             (Sx.split (z45 != 0)
                               (I17 true W39)
                               (Sx.split (decide (z45 ≥ 2))
                                 (I17 (z42 != 0) W39)
                                 (I17 false W39)))
                             (Sx.split (decide (z45 ≥ 2))
                               (I17 (z42 != 0) W39)
                               (I17 false W39)) ∧
                           ((Nat →
                           Value) →
                           (∀ x12 : Bool, (∀ W40 : World, (I17 x12 W40 →
                           Sx.split x12
                            (Q (Ending.returned (Value.bool false)) W40)
                            ((∀ z46 : Int, (z46 = IntKind.wrap IntKind.i64 (x11 + 16) →
                             (I15 z46 W40 ∧
                             I16 z46 W40 < I16 x11 W37)))))))))))))))))))))))))))
                        ((∀ z47 : Int, (z47 = IntKind.wrap IntKind.i64 (x5 + 1) →
                         (I6 z47 W37 ∧
                         I7 z47 W37 < I7 x5 W24))))))))))))))))))))))))))))))))))))))))))))))))))))))))))))))))))))))))))))))))))))))))) ∧
          ((Nat →
          Value) →
          (∀ W41 : World, (I5 W41 →
          (∀ z48 : Int, (z48 = IntKind.wrap IntKind.i64 (x4 + 1) →
          (I3 z48 W41 ∧
          I4 z48 W41 < I4 x4 W18)))))))))
         (Calls Try.prog 12 #[Value.pointer x2] W18 (fun e20 =>
           (fun W42 =>
           (∃ p4 : Option Addr, (∃ k27 : Nat, (∃ k28 : Nat, (e20 = Ending.returned (Value.slice p4 k27 k28) ∧
           Calls Try.prog 13 #[Value.slice p4 k27 k28, Value.slice (some (Addr.mk k4 0 none)) 256 256] W42 (fun e21 =>
            (fun W43 =>
            (∃ t9 : Bool, (e21 = Ending.returned (Value.bool t9) ∧
            Q (Ending.returned (Value.bool t9)) W43))))))))))))
       (Calls Try.prog 12 #[Value.pointer x2] W18 (fun e22 =>
         (fun W44 =>
         (∃ p5 : Option Addr, (∃ k29 : Nat, (∃ k30 : Nat, (e22 = Ending.returned (Value.slice p5 k29 k30) ∧
         Calls Try.prog 13 #[Value.slice p5 k29 k30, Value.slice (some (Addr.mk k4 0 none)) 256 256] W44 (fun e23 =>
          (fun W45 =>
          (∃ t10 : Bool, (e23 = Ending.returned (Value.bool t10) ∧
          Q (Ending.returned (Value.bool t10)) W45)))))))))))))))))))))))))))))))))))))))))))))))))))))))))))))))))))))))))) :
  Calls Try.prog 3 #[Value.int .i64 arg0, Value.int .i64 arg1, Value.int .i64 arg2, Value.slice arg3 arg3n arg3c] W Q :=
  Sx.sound Try.func3 (.node [] [] 0 .leaf (.node [] [] 0 (.node [] [] 17 .leaf .leaf) (.node [(11, .any), (10, .ptr)] [3] 1 (.node [] [] 1003 .leaf .leaf) (.node [] [] 0 (.node [(62, .bool)] [3, 10] 1 .leaf .leaf) (.node [] [] 0 .leaf (.node [] [] 0 (.node [] [] 0 .leaf (.node [] [] 0 (.node [(13, .int .i64)] [3, 10, 12] 0 (.node [] [] 0 .leaf (.node [] [13, 3, 10, 12] 1 (.node [] [] 0 (.node [] [] 0 .leaf (.node [] [] 0 .leaf (.node [] [] 0 .leaf (.node [] [] 0 .leaf (.node [] [] 0 (.node [] [] 0 .leaf (.node [] [] 0 (.node [(18, .int .i64)] [10, 14, 17, 3, 13, 15, 12, 16] 0 (.node [] [] 0 (.node [] [] 0 (.node [] [] 0 .leaf (.node [] [] 0 .leaf (.node [] [] 0 (.node [(123, .bool)] [3, 13, 10, 14, 17, 15, 12, 16, 18] 1 .leaf .leaf) (.node [] [] 0 .leaf (.node [] [10, 18, 14, 17, 3, 13, 15, 12, 16] 1 .leaf (.node [] [] 0 .leaf (.node [] [] 0 .leaf (.node [] [] 0 (.node [(22, .int .i64)] [10, 18, 14, 17, 3, 13, 15, 12, 16] 0 (.node [] [] 0 .leaf (.node [] [] 0 (.node [] [] 0 (.node [] [] 0 .leaf (.node [] [] 0 .leaf (.node [(169, .bool)] [22, 10, 18, 14, 17, 3, 13, 15, 12, 16] 1 .leaf .leaf))) .leaf) .leaf)) .leaf) .leaf)))))))) .leaf) .leaf) .leaf) .leaf)) (.node [] [] 0 (.node [] [] 0 .leaf (.node [] [] 0 (.node [] [] 0 .leaf (.node [] [] 0 .leaf (.node [] [] 0 (.node [] [] 0 .leaf (.node [] [] 0 (.node [(26, .int .i64)] [15, 12, 16, 3, 13, 10] 0 .leaf .leaf) .leaf)) .leaf))) .leaf)) (.node [] [] 0 .leaf (.node [] [] 0 .leaf (.node [] [] 0 (.node [] [] 0 .leaf (.node [] [] 0 (.node [(30, .int .i64), (29, .int .u32)] [12, 16, 28, 27, 13, 3, 10] 0 .leaf .leaf) .leaf)) (.node [(236, .bool)] [13, 3, 10, 12] 1 .leaf .leaf)))))))))) .leaf) .leaf)) .leaf) .leaf)) .leaf)))))) [Value.int .i64 arg0, Value.int .i64 arg1, Value.int .i64 arg2, Value.slice arg3 arg3n arg3c] rfl (Eq.mp (by kernel_rfl) hVC)
end Go.Proofs.Ytbiogceijdcoiaa
