/- What each function asks, reckoned out of its text; printed by a program of mine (wip/tpl/VcTool.lean). No condition. -/
import Derived.Test.YtgcakilmmeopaaaDoorSxB
import Derived.Test.YtgcakilmmeopaaaDoorChecked
namespace Go.Proofs.YtgcakilmmeopaaaDoor
open Go Go.Proofs
set_option linter.unusedVariables false
set_option maxRecDepth 100000
theorem vc6 {W : World} {Q : Ending → World → Prop} (c : Int) (n : Int)
  (h :
    Sx.split (decide (c < 0))
     ((∀ z : Int, (z = IntKind.wrap IntKind.i64 (c + 1) →
      (n ≠ 0 ∧
      (∀ z2 : Int, (z2 = Int.tmod (IntKind.wrap IntKind.i64 (0 - z)) n →
      Q (Ending.returned (Value.int IntKind.i64 z2)) W))))))
     ((n ≠ 0 ∧
      (∀ z3 : Int, (z3 = Int.tmod c n →
      Q (Ending.returned (Value.int IntKind.i64 z3)) W))))) :
  Calls Tryd.prog 6 #[Value.int .i64 c, Value.int .i64 n] W Q :=
  Sx.sound Tryd.func6 .leaf [Value.int .i64 c, Value.int .i64 n] rfl (Eq.mp (by kernel_rfl) h)
theorem vc7 {W : World} {Q : Ending → World → Prop} (a0 : Array Value)
  (h :
    (∀ k : Nat, (∀ W2 : World, (k = Array.size (World.heap W) →
    (W2 = World.alloc W (Obj.cells (Value.cells (Value.agg a0)) 30) →
    (∃ z : Int, (World.cell? W2 (Addr.mk k 0 none) = some (Value.int IntKind.i64 z) ∧
    Calls Tryd.prog 20 #[Value.int IntKind.i64 z, Value.int IntKind.i64 0, Value.int IntKind.i64 3] W2 (fun e =>
     (fun W3 =>
     (∃ t : Bool, (e = Ending.returned (Value.bool t) ∧
     Sx.split (!t)
      (Q (Ending.returned (Value.tuple #[Value.pointer none, Value.iface 51 (Value.int IntKind.i64 2)])) W3)
      ((∃ z2 : Int, (World.cell? W3 (Addr.mk k (0 + 1) none) = some (Value.int IntKind.i64 z2) ∧
       Calls Tryd.prog 20 #[Value.int IntKind.i64 z2, Value.int IntKind.i64 1, Value.int IntKind.i64 10] W3 (fun e2 =>
        (fun W4 =>
        (∃ t2 : Bool, (e2 = Ending.returned (Value.bool t2) ∧
        Sx.split (!t2)
         (Q (Ending.returned (Value.tuple #[Value.pointer none, Value.iface 51 (Value.int IntKind.i64 2)])) W4)
         ((∃ z3 : Int, (World.cell? W4 (Addr.mk k (0 + 2) none) = some (Value.int IntKind.i64 z3) ∧
          (∃ z4 : Int, (World.cell? W4 (Addr.mk k (0 + 1) none) = some (Value.int IntKind.i64 z4) ∧
          Calls Tryd.prog 20 #[Value.int IntKind.i64 z3, Value.int IntKind.i64 0, Value.int IntKind.i64 (if z4 < 10 then z4 else 10)] W4 (fun e3 =>
           (fun W5 =>
           (∃ t3 : Bool, (e3 = Ending.returned (Value.bool t3) ∧
           Sx.split (!t3)
            (Q (Ending.returned (Value.tuple #[Value.pointer none, Value.iface 51 (Value.int IntKind.i64 2)])) W5)
            ((∃ z5 : Int, (World.cell? W5 (Addr.mk k (0 + 3) none) = some (Value.int IntKind.i64 z5) ∧
             Calls Tryd.prog 20 #[Value.int IntKind.i64 z5, Value.int IntKind.i64 0, Value.int IntKind.i64 8] W5 (fun e4 =>
              (fun W6 =>
              (∃ t4 : Bool, (e4 = Ending.returned (Value.bool t4) ∧
              Sx.split (!t4)
               (Q (Ending.returned (Value.tuple #[Value.pointer none, Value.iface 51 (Value.int IntKind.i64 2)])) W6)
               ((∃ z6 : Int, (World.cell? W6 (Addr.mk k (0 + 4) none) = some (Value.int IntKind.i64 z6) ∧
                Calls Tryd.prog 20 #[Value.int IntKind.i64 z6, Value.int IntKind.i64 1, Value.int IntKind.i64 16] W6 (fun e5 =>
                 (fun W7 =>
                 (∃ t5 : Bool, (e5 = Ending.returned (Value.bool t5) ∧
                 Sx.split (!t5)
                  (Q (Ending.returned (Value.tuple #[Value.pointer none, Value.iface 51 (Value.int IntKind.i64 2)])) W7)
                  ((∀ W8 : World, (W8 = World.drew W7 →
                   (∃ z7 : Int, (World.cell? W8 (Addr.mk k (0 + 2) none) = some (Value.int IntKind.i64 z7) ∧
                   ((0 : Int) ≤ z7 ∧
                   (∀ z8 : Int, (z8 = IntKind.wrap IntKind.i64 (1 * 2 ^ min (Int.toNat z7) (IntKind.bits IntKind.i64)) →
                   (∀ z9 : Int, (z9 = IntKind.wrap IntKind.i64 (z8 - 1) →
                   (∃ z10 : Int, (World.cell? W8 (Addr.mk k (0 + 3) none) = some (Value.int IntKind.i64 z10) ∧
                   ((0 : Int) ≤ z10 ∧
                   (∀ z11 : Int, (z11 = IntKind.wrap IntKind.i64 (1 * 2 ^ min (Int.toNat z10) (IntKind.bits IntKind.i64)) →
                   (∃ z12 : Int, (World.cell? W8 (Addr.mk k (0 + 4) none) = some (Value.int IntKind.i64 z12) ∧
                   ((((0 : Int) ≤ z11 ∧
                     (z11 ≤ z11 ∧
                     (z11 ≤ 9223372036854775807 ∧
                     (↑12 : Int) * z11 ≤ 281474976710656))) ∧
                    (∀ k2 : Nat, (∀ W9 : World, (k2 = Array.size (World.heap W8) →
                    (W9 = World.alloc W8 (Obj.cells (madeCells #[Value.int IntKind.u32 0, Value.int IntKind.u32 0, Value.bool false] (Int.toNat z11 * 3)) 87) →
                    (RowKit.Below (Array.size (World.heap W8)) W8 W9 ∧
                    (((0 : Int) ≤ z12 ∧
                     (z12 ≤ z12 ∧
                     (z12 ≤ 9223372036854775807 ∧
                     (↑4 : Int) * z12 ≤ 281474976710656))) ∧
                    (∀ k3 : Nat, (∀ W10 : World, (k3 = Array.size (World.heap W9) →
                    (W10 = World.alloc W9 (Obj.cells (madeCells #[Value.int IntKind.u32 0] (Int.toNat z12 * 1)) 35) →
                    (RowKit.Below (Array.size (World.heap W8)) W8 W10 ∧
                    (∀ vs : Array Value, (vs = #[Value.nilIface, Value.int IntKind.i64 0, Value.int IntKind.i64 z9, Value.slice (some (Addr.mk k2 0 none)) (Int.toNat z11) (Int.toNat z11), Value.slice (some (Addr.mk k3 0 none)) (Int.toNat z12) (Int.toNat z12), Value.int IntKind.i64 0] →
                    (∀ k4 : Nat, (∀ W11 : World, (k4 = Array.size (World.heap W10) →
                    (W11 = World.alloc W10 (Obj.cells (Value.cells (Value.agg vs)) 72) →
                    (RowKit.Below (Array.size (World.heap W8)) W8 W11 ∧
                    (∃ z13 : Int, (World.cell? W11 (Addr.mk k 0 none) = some (Value.int IntKind.i64 z13) ∧
                    Sx.split (z13 == 2)
                     ((∃ z14 : Int, (World.cell? W11 (Addr.mk k (0 + 1) none) = some (Value.int IntKind.i64 z14) ∧
                      Calls Tryd.prog 21 #[Value.int IntKind.i64 z14] W11 (fun e6 =>
                       (fun W12 =>
                       (∃ p : Option Addr, (∃ k5 : Nat, (∃ k6 : Nat, (e6 = Ending.returned (Value.slice p k5 k6) ∧
                       ((∃ v : Value, World.cell? W12 (Addr.mk k4 0 none) = some v) ∧
                       (World.frozen? W12 (Addr.mk k4 0 none) = false ∧
                       (∀ W13 : World, (W13 = World.setCell W12 (Addr.mk k4 0 none) (Value.iface 74 (Value.slice p k5 k6)) →
                       Q (Ending.returned (Value.tuple #[Value.pointer (some (Addr.mk k4 0 none)), Value.nilIface])) W13)))))))))))))
                     (Sx.split (z13 == 3)
                       ((∃ z15 : Int, (World.cell? W11 (Addr.mk k (0 + 1) none) = some (Value.int IntKind.i64 z15) ∧
                        Calls Tryd.prog 21 #[Value.int IntKind.i64 z15] W11 (fun e7 =>
                         (fun W14 =>
                         (∃ p2 : Option Addr, (∃ k7 : Nat, (∃ k8 : Nat, (e7 = Ending.returned (Value.slice p2 k7 k8) ∧
                         (∀ vs2 : Array Value, (vs2 = #[Value.slice p2 k7 k8] →
                         ((∃ v2 : Value, World.cell? W14 (Addr.mk k4 0 none) = some v2) ∧
                         (World.frozen? W14 (Addr.mk k4 0 none) = false ∧
                         (∀ W15 : World, (W15 = World.setCell W14 (Addr.mk k4 0 none) (Value.iface 77 (Value.agg vs2)) →
                         Q (Ending.returned (Value.tuple #[Value.pointer (some (Addr.mk k4 0 none)), Value.nilIface])) W15)))))))))))))))
                       ((∃ z16 : Int, (World.cell? W11 (Addr.mk k 0 none) = some (Value.int IntKind.i64 z16) ∧
                        (∀ vs3 : Array Value, (vs3 = #[Value.bool (z16 == 1)] →
                        ((∃ v3 : Value, World.cell? W11 (Addr.mk k4 0 none) = some v3) ∧
                        (World.frozen? W11 (Addr.mk k4 0 none) = false ∧
                        (∀ W16 : World, (W16 = World.setCell W11 (Addr.mk k4 0 none) (Value.iface 79 (Value.agg vs3)) →
                        Q (Ending.returned (Value.tuple #[Value.pointer (some (Addr.mk k4 0 none)), Value.nilIface])) W16))))))))))))))))))))))))))))))) ∧
                   (((0 : Int) ≤ z12 ∧
                    (z12 ≤ z12 ∧
                    (z12 ≤ 9223372036854775807 ∧
                    (↑4 : Int) * z12 ≤ 281474976710656))) ∧
                   (∀ k9 : Nat, (∀ W17 : World, (k9 = Array.size (World.heap W8) →
                   (W17 = World.alloc W8 (Obj.cells (madeCells #[Value.int IntKind.u32 0] (Int.toNat z12 * 1)) 35) →
                   (RowKit.Below (Array.size (World.heap W8)) W8 W17 ∧
                   (((0 : Int) ≤ z11 ∧
                    (z11 ≤ z11 ∧
                    (z11 ≤ 9223372036854775807 ∧
                    (↑12 : Int) * z11 ≤ 281474976710656))) ∧
                   (∀ k10 : Nat, (∀ W18 : World, (k10 = Array.size (World.heap W17) →
                   (W18 = World.alloc W17 (Obj.cells (madeCells #[Value.int IntKind.u32 0, Value.int IntKind.u32 0, Value.bool false] (Int.toNat z11 * 3)) 87) →
                   (RowKit.Below (Array.size (World.heap W8)) W8 W18 ∧
                   (∀ vs4 : Array Value, (vs4 = #[Value.nilIface, Value.int IntKind.i64 0, Value.int IntKind.i64 z9, Value.slice (some (Addr.mk k10 0 none)) (Int.toNat z11) (Int.toNat z11), Value.slice (some (Addr.mk k9 0 none)) (Int.toNat z12) (Int.toNat z12), Value.int IntKind.i64 0] →
                   (∀ k11 : Nat, (∀ W19 : World, (k11 = Array.size (World.heap W18) →
                   (W19 = World.alloc W18 (Obj.cells (Value.cells (Value.agg vs4)) 72) →
                   (RowKit.Below (Array.size (World.heap W8)) W8 W19 ∧
                   (∃ z17 : Int, (World.cell? W19 (Addr.mk k 0 none) = some (Value.int IntKind.i64 z17) ∧
                   Sx.split (z17 == 2)
                    ((∃ z18 : Int, (World.cell? W19 (Addr.mk k (0 + 1) none) = some (Value.int IntKind.i64 z18) ∧
                     Calls Tryd.prog 21 #[Value.int IntKind.i64 z18] W19 (fun e8 =>
                      (fun W20 =>
                      (∃ p3 : Option Addr, (∃ k12 : Nat, (∃ k13 : Nat, (e8 = Ending.returned (Value.slice p3 k12 k13) ∧
                      ((∃ v4 : Value, World.cell? W20 (Addr.mk k11 0 none) = some v4) ∧
                      (World.frozen? W20 (Addr.mk k11 0 none) = false ∧
                      (∀ W21 : World, (W21 = World.setCell W20 (Addr.mk k11 0 none) (Value.iface 74 (Value.slice p3 k12 k13)) →
                      Q (Ending.returned (Value.tuple #[Value.pointer (some (Addr.mk k11 0 none)), Value.nilIface])) W21)))))))))))))
                    (Sx.split (z17 == 3)
                      ((∃ z19 : Int, (World.cell? W19 (Addr.mk k (0 + 1) none) = some (Value.int IntKind.i64 z19) ∧
                       Calls Tryd.prog 21 #[Value.int IntKind.i64 z19] W19 (fun e9 =>
                        (fun W22 =>
                        (∃ p4 : Option Addr, (∃ k14 : Nat, (∃ k15 : Nat, (e9 = Ending.returned (Value.slice p4 k14 k15) ∧
                        (∀ vs5 : Array Value, (vs5 = #[Value.slice p4 k14 k15] →
                        ((∃ v5 : Value, World.cell? W22 (Addr.mk k11 0 none) = some v5) ∧
                        (World.frozen? W22 (Addr.mk k11 0 none) = false ∧
                        (∀ W23 : World, (W23 = World.setCell W22 (Addr.mk k11 0 none) (Value.iface 77 (Value.agg vs5)) →
                        Q (Ending.returned (Value.tuple #[Value.pointer (some (Addr.mk k11 0 none)), Value.nilIface])) W23)))))))))))))))
                      ((∃ z20 : Int, (World.cell? W19 (Addr.mk k 0 none) = some (Value.int IntKind.i64 z20) ∧
                       (∀ vs6 : Array Value, (vs6 = #[Value.bool (z20 == 1)] →
                       ((∃ v6 : Value, World.cell? W19 (Addr.mk k11 0 none) = some v6) ∧
                       (World.frozen? W19 (Addr.mk k11 0 none) = false ∧
                       (∀ W24 : World, (W24 = World.setCell W19 (Addr.mk k11 0 none) (Value.iface 79 (Value.agg vs6)) →
                       Q (Ending.returned (Value.tuple #[Value.pointer (some (Addr.mk k11 0 none)), Value.nilIface])) W24)))))))))))))))))))))))))))))))))))))))))))))))))))))))))))))))))))))))))))))))))))))))))) :
  Calls Tryd.prog 7 #[Value.agg a0] W Q :=
  Sx.sound Tryd.func7 (.node [] [] 0 .leaf (.node [] [] 0 .leaf (.node [] [] 0 (.node [] [] 1015 .leaf .leaf) .leaf))) [Value.agg a0] rfl (Eq.mp (by kernel_rfl) h)
theorem vc8 {W : World} {Q : Ending → World → Prop} (pcs : Option Addr) (pcsn : Nat) (pcsc : Nat)
  (h :
    (((0 : Int) ≤ (16 : Int) ∧
     ((16 : Int) ≤ (16 : Int) ∧
     ((16 : Int) ≤ (9223372036854775807 : Int) ∧
     (↑4 : Int) * 16 ≤ 281474976710656))) ∧
    (∀ k : Nat, (∀ W2 : World, (k = Array.size (World.heap W) →
    (W2 = World.alloc W (Obj.cells (madeCells #[Value.int IntKind.u32 0] 16) 35) →
    (∃ I : Int → World → Prop, (∃ I2 : Int → World → Nat, (I 0 W2 ∧
    ((Nat →
    Value) →
    (∀ k2 : Int, (∀ W3 : World, (I k2 W3 →
    Sx.split (decide (k2 < 16))
     ((∀ z : Int, (z = IntKind.wrap IntKind.i64 (8 * k2) →
      (∀ z2 : Int, (z2 = IntKind.wrap IntKind.u32 z →
      (((0 : Int) ≤ k2 ∧
       k2 < (↑16 : Int)) ∧
      ((∃ v : Value, World.cell? W3 (Addr.mk k (0 + Int.toNat k2 * 1) none) = some v) ∧
      (World.frozen? W3 (Addr.mk k (0 + Int.toNat k2 * 1) none) = false ∧
      (∀ W4 : World, (W4 = World.setCell W3 (Addr.mk k (0 + Int.toNat k2 * 1) none) (Value.int IntKind.u32 z2) →
      Sx.split (decide (k2 < (↑pcsn : Int)))
       ((((0 : Int) ≤ k2 ∧
         k2 < (↑pcsn : Int)) ∧
        Sx.adr pcs (fun k3 =>
         (fun k4 =>
         (∃ z3 : Int, (World.cell? W4 (Addr.mk k3 (k4 + Int.toNat k2 * 1) none) = some (Value.int IntKind.u32 z3) ∧
         ((4 : Int) ≠ (0 : Int) ∧
         (∀ z4 : Int, (z4 = IntKind.wrap IntKind.u32 (Int.tdiv z3 4) →
         (∀ z5 : Int, (z5 = IntKind.wrap IntKind.u32 (z4 * 4) →
         (((0 : Int) ≤ k2 ∧
          k2 < (↑16 : Int)) ∧
         ((∃ v2 : Value, World.cell? W4 (Addr.mk k (0 + Int.toNat k2 * 1) none) = some v2) ∧
         (World.frozen? W4 (Addr.mk k (0 + Int.toNat k2 * 1) none) = false ∧
         (∀ W5 : World, (W5 = World.setCell W4 (Addr.mk k (0 + Int.toNat k2 * 1) none) (Value.int IntKind.u32 z5) →
         (∀ z6 : Int, (z6 = IntKind.wrap IntKind.i64 (k2 + 1) →
         (I z6 W5 ∧
         I2 z6 W5 < I2 k2 W3)))))))))))))))))))
       ((∀ z7 : Int, (z7 = IntKind.wrap IntKind.i64 (k2 + 1) →
        (I z7 W4 ∧
        I2 z7 W4 < I2 k2 W3))))))))))))))
     (Q (Ending.returned (Value.slice (some (Addr.mk k 0 none)) 16 16)) W3)))))))))))))) :
  Calls Tryd.prog 8 #[Value.slice pcs pcsn pcsc] W Q :=
  Sx.sound Tryd.func8 (.node [] [] 0 .leaf (.node [] [] 0 .leaf (.node [] [] 0 (.node [] [] 0 .leaf (.node [] [] 0 (.node [(4, .int .i64)] [3, 0] 0 .leaf .leaf) .leaf)) .leaf))) [Value.slice pcs pcsn pcsc] rfl (Eq.mp (by kernel_rfl) h)
theorem vc9 {W : World} {Q : Ending → World → Prop} (a0 : Nat) (a0o : Nat) (a1 : Int) (a2 : Array Value)
  (h :
    (∀ k : Nat, (∀ W2 : World, (k = Array.size (World.heap W) →
    (W2 = World.alloc W (Obj.cells (Value.cells (Value.agg a2)) 33) →
    (∀ k2 : Nat, (∀ W3 : World, (k2 = Array.size (World.heap W2) →
    (W3 = World.alloc W2 (Obj.cells #[Value.int IntKind.i64 0, Value.int IntKind.i64 0, Value.int IntKind.u32 0] 37) →
    (∀ W4 : World, (W4 = World.drew W3 →
    (∃ z : Int, (World.cell? W4 (Addr.mk a0 (a0o + 1) none) = some (Value.int IntKind.i64 z) ∧
    (∃ z2 : Int, (World.cell? W4 (Addr.mk a0 (a0o + 5) none) = some (Value.int IntKind.i64 z2) ∧
    (∃ p : Option Addr, (∃ k3 : Nat, (∃ k4 : Nat, (World.cell? W4 (Addr.mk a0 (a0o + 4) none) = some (Value.slice p k3 k4) ∧
    (∃ z3 : Int, (World.cell? W4 (Addr.mk a0 (a0o + 5) none) = some (Value.int IntKind.i64 z3) ∧
    (((0 : Int) ≤ z3 ∧
     z3 < (↑k3 : Int)) ∧
    Sx.adr p (fun k5 =>
     (fun k6 =>
     (∃ z4 : Int, (World.cell? W4 (Addr.mk k5 (k6 + Int.toNat z3 * 1) none) = some (Value.int IntKind.u32 z4) ∧
     (∀ vs : Array Value, (vs = #[Value.int IntKind.i64 z, Value.int IntKind.i64 z2, Value.int IntKind.u32 z4] →
     (∀ k7 : Nat, (∀ W5 : World, (k7 = Array.size (World.heap W4) →
     (W5 = World.alloc W4 (Obj.cells #[Value.int IntKind.i64 0, Value.int IntKind.i64 0, Value.int IntKind.u32 0] 37) →
     (RowKit.Below (Array.size (World.heap W4)) W4 W5 ∧
     (Array.size vs = 3 ∧
     ((∀ k8 : Nat, (k8 < 3 →
      ((∃ v : Value, World.cell? W5 (Addr.mk k7 (0 + k8) none) = some v) ∧
      World.frozen? W5 (Addr.mk k7 (0 + k8) none) = false))) ∧
     ((∀ v2 : Value, (v2 ∈ Array.toList vs →
      Value.oneCell' v2 = true)) ∧
     (∀ W6 : World, (W6 = World.setCells W5 k7 0 (Array.toList vs) →
     (∀ z5 : Int, (z5 = IntKind.wrap IntKind.u32 (a1 + 4) →
     (∃ I : Bool → Int → World → Prop, ((∃ z6 : Int, (World.cell? W6 (Addr.mk k 0 none) = some (Value.int IntKind.i64 z6) ∧
      Calls Tryd.prog 22 #[Value.int IntKind.i64 z6] W6 (fun e =>
       (fun W7 =>
       (∃ z7 : Int, (e = Ending.returned (Value.int IntKind.i64 z7) ∧
       Sx.split (z7 == 2)
        ((∀ W8 : World, (W8 = World.drew W7 →
         (∃ v3 : Value, (World.cell? W8 (Addr.mk a0 a0o none) = some v3 ∧
         (∃ vs2 : Array Value, (Array.size vs2 = 5 ∧
         (Sx.cellsAt W8 (Addr.mk k 0 none) vs2 ∧
         (∃ z8 : Int, (World.cell? W8 (Addr.mk a0 (a0o + 1) none) = some (Value.int IntKind.i64 z8) ∧
         Sx.notNil v3 (fun v4 =>
          (∃ u : FuncId, (∃ vs3 : Array Value, (Sx.meth Tryd.prog v3 "oocore/predict.guess" #[Value.int IntKind.u32 a1, Value.agg vs2, Value.int IntKind.i64 z8] W8 u vs3 ∧
          Calls Tryd.prog u vs3 W8 (fun e2 =>
           (fun W9 =>
           (∃ t : Bool, (e2 = Ending.returned (Value.bool t) ∧
           Sx.split t
            ((∃ z9 : Int, (World.cell? W9 (Addr.mk k (0 + 4) none) = some (Value.int IntKind.i64 z9) ∧
             (∀ z10 : Int, (z10 = IntKind.wrap IntKind.u32 z9 →
             (∀ z11 : Int, (z11 = IntKind.wrap IntKind.u32 (a1 + z10) →
             I t z11 W9)))))))
            (I t z5 W9)))))))))))))))))))
        ((∃ z12 : Int, (World.cell? W7 (Addr.mk k 0 none) = some (Value.int IntKind.i64 z12) ∧
         Sx.split (z12 == 3)
          ((∃ z13 : Int, (World.cell? W7 (Addr.mk k (0 + 4) none) = some (Value.int IntKind.i64 z13) ∧
           (∀ z14 : Int, (z14 = IntKind.wrap IntKind.u32 z13 →
           (∀ z15 : Int, (z15 = IntKind.wrap IntKind.u32 (a1 + z14) →
           I false z15 W7)))))))
          ((∃ vs4 : Array Value, (Array.size vs4 = 5 ∧
           (Sx.cellsAt W7 (Addr.mk k 0 none) vs4 ∧
           Calls Tryd.prog 23 #[Value.agg vs4] W7 (fun e3 =>
            (fun W10 =>
            (∃ t2 : Bool, (e3 = Ending.returned (Value.bool t2) ∧
            Sx.split t2
             ((∃ z16 : Int, (World.cell? W10 (Addr.mk k7 (0 + 2) none) = some (Value.int IntKind.u32 z16) ∧
              I false z16 W10)))
             ((∃ z17 : Int, (World.cell? W10 (Addr.mk k 0 none) = some (Value.int IntKind.i64 z17) ∧
              Sx.split (z17 == 4)
               (Calls Tryd.prog 24 #[Value.pointer (some (Addr.mk a0 a0o none)), Value.int IntKind.u32 a1] W10 (fun e4 =>
                 (fun W11 =>
                 (∃ p2 : Option Addr, (e4 = Ending.returned (Value.pointer p2) ∧
                 Sx.ptr p2 (fun a =>
                  (∃ t3 : Bool, (World.cell? W11 (Addr.add a 2) = some (Value.bool t3) ∧
                  Sx.split t3
                   (Sx.ptr p2 (fun a2 =>
                     (∃ z18 : Int, (World.cell? W11 (Addr.add a2 0) = some (Value.int IntKind.u32 z18) ∧
                     Sx.split (z18 == a1)
                      (Sx.ptr p2 (fun a3 =>
                        (∃ z19 : Int, (World.cell? W11 (Addr.add a3 1) = some (Value.int IntKind.u32 z19) ∧
                        I false z19 W11))))
                      (I false z5 W11)))))
                   (I false z5 W11)))))))))
               (I false z5 W10))))))))))))))))))))) ∧
     ((Nat →
     Value) →
     (∀ x : Bool, (∀ x2 : Int, (∀ W12 : World, (I x x2 W12 →
     (∃ vs5 : Array Value, (Array.size vs5 = 5 ∧
     (Sx.cellsAt W12 (Addr.mk k 0 none) vs5 ∧
     Calls Tryd.prog 25 #[Value.pointer (some (Addr.mk a0 a0o none)), Value.int IntKind.u32 a1, Value.agg vs5, Value.bool x] W12 (fun e5 =>
      (fun W13 =>
      (e5 = Ending.returned (Value.tuple #[]) ∧
      (∀ W14 : World, (W14 = World.drew W13 →
      (∃ vs6 : Array Value, (Array.size vs6 = 3 ∧
      (Sx.cellsAt W14 (Addr.mk k7 0 none) vs6 ∧
      (Array.size vs6 = 3 ∧
      ((∀ k9 : Nat, (k9 < 3 →
       ((∃ v5 : Value, World.cell? W14 (Addr.mk k2 (0 + k9) none) = some v5) ∧
       World.frozen? W14 (Addr.mk k2 (0 + k9) none) = false))) ∧
      ((∀ v6 : Value, (v6 ∈ Array.toList vs6 →
       Value.oneCell' v6 = true)) ∧
      (∀ W15 : World, (W15 = World.setCells W14 k2 0 (Array.toList vs6) →
      (∃ vs7 : Array Value, (Array.size vs7 = 3 ∧
      (Sx.cellsAt W15 (Addr.mk k2 0 none) vs7 ∧
      Q (Ending.returned (Value.tuple #[Value.int IntKind.u32 x2, Value.agg vs7])) W15)))))))))))))))))))))))))))))))))))))))))))))))))))))))))))))))))) :
  Calls Tryd.prog 9 #[Value.pointer (some ⟨a0, a0o, none⟩), Value.int .u32 a1, Value.agg a2] W Q :=
  Sx.sound Tryd.func9 (.node [] [] 0 .leaf (.node [] [] 0 (.node [] [] 1021 .leaf .leaf) (.node [] [] 0 .leaf (.node [(10, .bool), (9, .int .u32)] [0, 1, 5, 8, 7] 1 (.node [] [] 0 .leaf (.node [] [] 0 (.node [] [] 0 .leaf (.node [] [] 0 (.node [] [] 0 (.node [] [] 13 .leaf .leaf) .leaf) .leaf)) .leaf)) (.node [] [] 0 .leaf (.node [] [] 0 (.node [] [] 4 .leaf .leaf) .leaf)))))) [Value.pointer (some ⟨a0, a0o, none⟩), Value.int .u32 a1, Value.agg a2] rfl (Eq.mp (by kernel_rfl) h)
theorem vc10 {W : World} {Q : Ending → World → Prop} (p : Nat) (po : Nat) (m : Array Value) (pc : Int) (i : Array Value) (taken : Bool)
  (h :
    (∀ k : Nat, (∀ W2 : World, (k = Array.size (World.heap W) →
    (W2 = World.alloc W (Obj.cells (Value.cells (Value.agg m)) 37) →
    (∀ k2 : Nat, (∀ W3 : World, (k2 = Array.size (World.heap W2) →
    (W3 = World.alloc W2 (Obj.cells (Value.cells (Value.agg i)) 33) →
    (∃ vs : Array Value, (Array.size vs = 3 ∧
    (Sx.cellsAt W3 (Addr.mk k 0 none) vs ∧
    Calls Tryd.prog 26 #[Value.pointer (some (Addr.mk p po none)), Value.agg vs] W3 (fun e =>
     (fun W4 =>
     (∃ t : Bool, (e = Ending.returned (Value.bool t) ∧
     Sx.split (!t)
      (Q (Ending.returned (Value.tuple #[])) W4)
      ((∀ W5 : World, (W5 = World.drew W4 →
       (∃ z : Int, (World.cell? W5 (Addr.mk k 0 none) = some (Value.int IntKind.i64 z) ∧
       ((∃ z2 : Int, (World.cell? W5 (Addr.mk k (0 + 1) none) = some (Value.int IntKind.i64 z2) ∧
        (RowKit.Below (Array.size (World.heap W5)) W5 W5 ∧
        ((∃ v : Value, World.cell? W5 (Addr.mk p (po + 1) none) = some v) ∧
        (World.frozen? W5 (Addr.mk p (po + 1) none) = false ∧
        (∀ W6 : World, (W6 = World.setCell W5 (Addr.mk p (po + 1) none) (Value.int IntKind.i64 z) →
        ((∃ v2 : Value, World.cell? W6 (Addr.mk p (po + 5) none) = some v2) ∧
        (World.frozen? W6 (Addr.mk p (po + 5) none) = false ∧
        (∀ W7 : World, (W7 = World.setCell W6 (Addr.mk p (po + 5) none) (Value.int IntKind.i64 z2) →
        (∀ W8 : World, (W8 = World.drew W7 →
        (∃ p2 : Option Addr, (∃ k3 : Nat, (∃ k4 : Nat, (World.cell? W8 (Addr.mk p (po + 4) none) = some (Value.slice p2 k3 k4) ∧
        (∃ z3 : Int, (World.cell? W8 (Addr.mk p (po + 5) none) = some (Value.int IntKind.i64 z3) ∧
        (∃ z4 : Int, (World.cell? W8 (Addr.mk k (0 + 2) none) = some (Value.int IntKind.u32 z4) ∧
        (((0 : Int) ≤ z3 ∧
         z3 < (↑k3 : Int)) ∧
        Sx.adr p2 (fun k5 =>
         (fun k6 =>
         ((∃ v3 : Value, World.cell? W8 (Addr.mk k5 (k6 + Int.toNat z3 * 1) none) = some v3) ∧
         (World.frozen? W8 (Addr.mk k5 (k6 + Int.toNat z3 * 1) none) = false ∧
         (∀ W9 : World, (W9 = World.setCell W8 (Addr.mk k5 (k6 + Int.toNat z3 * 1) none) (Value.int IntKind.u32 z4) →
         (∃ vs2 : Array Value, (Array.size vs2 = 5 ∧
         (Sx.cellsAt W9 (Addr.mk k2 0 none) vs2 ∧
         Calls Tryd.prog 25 #[Value.pointer (some (Addr.mk p po none)), Value.int IntKind.u32 pc, Value.agg vs2, Value.bool taken] W9 (fun e2 =>
          (fun W10 =>
          (e2 = Ending.returned (Value.tuple #[]) ∧
          Q (Ending.returned (Value.tuple #[])) W10)))))))))))))))))))))))))))))))))) ∧
       ((∃ v4 : Value, World.cell? W5 (Addr.mk p (po + 1) none) = some v4) ∧
       (World.frozen? W5 (Addr.mk p (po + 1) none) = false ∧
       (∀ W11 : World, (W11 = World.setCell W5 (Addr.mk p (po + 1) none) (Value.int IntKind.i64 z) →
       (∃ z5 : Int, (World.cell? W11 (Addr.mk k (0 + 1) none) = some (Value.int IntKind.i64 z5) ∧
       ((∃ v5 : Value, World.cell? W11 (Addr.mk p (po + 5) none) = some v5) ∧
       (World.frozen? W11 (Addr.mk p (po + 5) none) = false ∧
       (∀ W12 : World, (W12 = World.setCell W11 (Addr.mk p (po + 5) none) (Value.int IntKind.i64 z5) →
       (∀ W13 : World, (W13 = World.drew W12 →
       (∃ p3 : Option Addr, (∃ k7 : Nat, (∃ k8 : Nat, (World.cell? W13 (Addr.mk p (po + 4) none) = some (Value.slice p3 k7 k8) ∧
       (∃ z6 : Int, (World.cell? W13 (Addr.mk p (po + 5) none) = some (Value.int IntKind.i64 z6) ∧
       (∃ z7 : Int, (World.cell? W13 (Addr.mk k (0 + 2) none) = some (Value.int IntKind.u32 z7) ∧
       (((0 : Int) ≤ z6 ∧
        z6 < (↑k7 : Int)) ∧
       Sx.adr p3 (fun k9 =>
        (fun k10 =>
        ((∃ v6 : Value, World.cell? W13 (Addr.mk k9 (k10 + Int.toNat z6 * 1) none) = some v6) ∧
        (World.frozen? W13 (Addr.mk k9 (k10 + Int.toNat z6 * 1) none) = false ∧
        (∀ W14 : World, (W14 = World.setCell W13 (Addr.mk k9 (k10 + Int.toNat z6 * 1) none) (Value.int IntKind.u32 z7) →
        (∃ vs3 : Array Value, (Array.size vs3 = 5 ∧
        (Sx.cellsAt W14 (Addr.mk k2 0 none) vs3 ∧
        Calls Tryd.prog 25 #[Value.pointer (some (Addr.mk p po none)), Value.int IntKind.u32 pc, Value.agg vs3, Value.bool taken] W14 (fun e3 =>
         (fun W15 =>
         (e3 = Ending.returned (Value.tuple #[]) ∧
         Q (Ending.returned (Value.tuple #[])) W15))))))))))))))))))))))))))))))))))))))))))))))))))))))) :
  Calls Tryd.prog 10 #[Value.pointer (some ⟨p, po, none⟩), Value.agg m, Value.int .u32 pc, Value.agg i, Value.bool taken] W Q :=
  Sx.sound Tryd.func10 (.node [] [] 0 .leaf (.node [] [] 0 .leaf (.node [] [] 0 (.node [] [] 1009 .leaf .leaf) (.node [] [] 0 (.node [] [] 12 .leaf .leaf) .leaf)))) [Value.pointer (some ⟨p, po, none⟩), Value.agg m, Value.int .u32 pc, Value.agg i, Value.bool taken] rfl (Eq.mp (by kernel_rfl) h)
theorem vc11 {W : World} {Q : Ending → World → Prop} (p : Nat) (po : Nat) (m : Array Value) (pc : Int) (i : Array Value) (taken : Bool) (target : Int)
  (h :
    (∀ k : Nat, (∀ W2 : World, (k = Array.size (World.heap W) →
    (W2 = World.alloc W (Obj.cells (Value.cells (Value.agg m)) 37) →
    (∀ k2 : Nat, (∀ W3 : World, (k2 = Array.size (World.heap W2) →
    (W3 = World.alloc W2 (Obj.cells (Value.cells (Value.agg i)) 33) →
    (∃ vs : Array Value, (Array.size vs = 3 ∧
    (Sx.cellsAt W3 (Addr.mk k 0 none) vs ∧
    Calls Tryd.prog 26 #[Value.pointer (some (Addr.mk p po none)), Value.agg vs] W3 (fun e =>
     (fun W4 =>
     (∃ t : Bool, (e = Ending.returned (Value.bool t) ∧
     Sx.split (!t)
      (Q (Ending.returned (Value.tuple #[])) W4)
      ((∃ z : Int, (World.cell? W4 (Addr.mk k2 0 none) = some (Value.int IntKind.i64 z) ∧
       Calls Tryd.prog 22 #[Value.int IntKind.i64 z] W4 (fun e2 =>
        (fun W5 =>
        (∃ z2 : Int, (e2 = Ending.returned (Value.int IntKind.i64 z2) ∧
        Sx.split (z2 == 2)
         ((∀ W6 : World, (W6 = World.drew W5 →
          (∃ v : Value, (World.cell? W6 (Addr.mk p po none) = some v ∧
          (∃ z3 : Int, (World.cell? W6 (Addr.mk k 0 none) = some (Value.int IntKind.i64 z3) ∧
          (∃ u : FuncId, (∃ vs2 : Array Value, (Sx.meth Tryd.prog v "oocore/predict.learn" #[Value.int IntKind.u32 pc, Value.int IntKind.i64 z3, Value.bool taken] W6 u vs2 ∧
          Calls Tryd.prog u vs2 W6 (fun e3 =>
           (fun W7 =>
           (∃ v2 : Value, (e3 = Ending.returned v2 ∧
           Q (Ending.returned (Value.tuple #[])) W7))))))))))))))
         ((∃ z4 : Int, (World.cell? W5 (Addr.mk k2 0 none) = some (Value.int IntKind.i64 z4) ∧
          Sx.split (z4 == 4)
           ((∃ vs3 : Array Value, (Array.size vs3 = 5 ∧
            (Sx.cellsAt W5 (Addr.mk k2 0 none) vs3 ∧
            Calls Tryd.prog 23 #[Value.agg vs3] W5 (fun e4 =>
             (fun W8 =>
             (∃ t2 : Bool, (e4 = Ending.returned (Value.bool t2) ∧
             Sx.split (!t2)
              (Calls Tryd.prog 24 #[Value.pointer (some (Addr.mk p po none)), Value.int IntKind.u32 pc] W8 (fun e5 =>
                (fun W9 =>
                (∃ p2 : Option Addr, (e5 = Ending.returned (Value.pointer p2) ∧
                (∀ vs4 : Array Value, (vs4 = #[Value.int IntKind.u32 pc, Value.int IntKind.u32 target, Value.bool true] →
                Sx.ptr p2 (fun a =>
                 Sx.adr (some a) (fun k3 =>
                  (fun k4 =>
                  (Array.size vs4 = 3 ∧
                  ((∀ k5 : Nat, (k5 < 3 →
                   ((∃ v3 : Value, World.cell? W9 (Addr.mk k3 (k4 + k5) none) = some v3) ∧
                   World.frozen? W9 (Addr.mk k3 (k4 + k5) none) = false))) ∧
                  ((∀ v4 : Value, (v4 ∈ Array.toList vs4 →
                   Value.oneCell' v4 = true)) ∧
                  (∀ W10 : World, (W10 = World.setCells W9 k3 k4 (Array.toList vs4) →
                  Q (Ending.returned (Value.tuple #[])) W10)))))))))))))))
              (Q (Ending.returned (Value.tuple #[])) W8)))))))))
           (Q (Ending.returned (Value.tuple #[])) W5))))))))))))))))))))))))))) :
  Calls Tryd.prog 11 #[Value.pointer (some ⟨p, po, none⟩), Value.agg m, Value.int .u32 pc, Value.agg i, Value.bool taken, Value.int .u32 target] W Q :=
  Sx.sound Tryd.func11 (.node [] [] 0 .leaf (.node [] [] 0 (.node [] [] 0 .leaf (.node [] [] 0 .leaf (.node [] [] 0 .leaf (.node [] [] 0 (.node [] [] 9 .leaf .leaf) .leaf)))) .leaf)) [Value.pointer (some ⟨p, po, none⟩), Value.agg m, Value.int .u32 pc, Value.agg i, Value.bool taken, Value.int .u32 target] rfl (Eq.mp (by kernel_rfl) h)
theorem vc20 {W : World} {Q : Ending → World → Prop} (n : Int) (lo : Int) (hi : Int)
  (h :
    Sx.split (decide (n ≥ lo))
     (Q (Ending.returned (Value.bool (decide (n ≤ hi)))) W)
     (Q (Ending.returned (Value.bool false)) W)) :
  Calls Tryd.prog 20 #[Value.int .i64 n, Value.int .i64 lo, Value.int .i64 hi] W Q :=
  Sx.sound Tryd.func20 .leaf [Value.int .i64 n, Value.int .i64 lo, Value.int .i64 hi] rfl (Eq.mp (by kernel_rfl) h)
theorem vc21 {W : World} {Q : Ending → World → Prop} (bits : Int)
  (h :
    ((0 : Int) ≤ bits ∧
    (∀ z : Int, (z = IntKind.wrap IntKind.i64 (1 * 2 ^ min (Int.toNat bits) (IntKind.bits IntKind.i64)) →
    (((0 : Int) ≤ z ∧
     (z ≤ z ∧
     (z ≤ 9223372036854775807 ∧
     (↑1 : Int) * z ≤ 281474976710656))) ∧
    (∀ k : Nat, (∀ W2 : World, (k = Array.size (World.heap W) →
    (W2 = World.alloc W (Obj.cells (madeCells #[Value.int IntKind.u8 0] (Int.toNat z * 1)) 102) →
    (∃ I : Int → World → Prop, (∃ I2 : Int → World → Nat, (I 0 W2 ∧
    ((Nat →
    Value) →
    (∀ x : Int, (∀ W3 : World, (I x W3 →
    Sx.split (decide (x < (↑(Int.toNat z) : Int)))
     ((((0 : Int) ≤ x ∧
       x < (↑(Int.toNat z) : Int)) ∧
      ((∃ v : Value, World.cell? W3 (Addr.mk k (0 + Int.toNat x * 1) none) = some v) ∧
      (World.frozen? W3 (Addr.mk k (0 + Int.toNat x * 1) none) = false ∧
      (∀ W4 : World, (W4 = World.setCell W3 (Addr.mk k (0 + Int.toNat x * 1) none) (Value.int IntKind.u8 1) →
      (∀ z2 : Int, (z2 = IntKind.wrap IntKind.i64 (x + 1) →
      (I z2 W4 ∧
      I2 z2 W4 < I2 x W3)))))))))
     (Q (Ending.returned (Value.slice (some (Addr.mk k 0 none)) (Int.toNat z) (Int.toNat z))) W3))))))))))))))))) :
  Calls Tryd.prog 21 #[Value.int .i64 bits] W Q :=
  Sx.sound Tryd.func21 (.node [] [] 0 .leaf (.node [] [] 0 .leaf (.node [] [] 0 (.node [] [] 0 .leaf (.node [] [] 0 (.node [(10, .int .i64)] [9, 3] 0 .leaf .leaf) .leaf)) .leaf))) [Value.int .i64 bits] rfl (Eq.mp (by kernel_rfl) h)
theorem vc22 {W : World} {Q : Ending → World → Prop} (op : Int)
  (h :
    Sx.split (decide (op ≥ 38))
     (Sx.split (decide (op ≤ 45))
       (Q (Ending.returned (Value.int IntKind.i64 1)) W)
       (Sx.split (op == 4)
         (Q (Ending.returned (Value.int IntKind.i64 3)) W)
         (Calls Tryd.prog 31 #[Value.int IntKind.i64 op] W (fun e =>
           (fun W2 =>
           (∃ vs : Array Value, (e = Ending.returned (Value.agg vs) ∧
           (∃ z : Int, (vs[0]? = some (Value.int IntKind.i64 z) ∧
           Sx.split (z == 1)
            (Q (Ending.returned (Value.int IntKind.i64 0)) W2)
            (Sx.split (z == 6)
              (Q (Ending.returned (Value.int IntKind.i64 0)) W2)
              (Sx.split (z == 7)
                (Q (Ending.returned (Value.int IntKind.i64 0)) W2)
                (Sx.split (z == 8)
                  (Q (Ending.returned (Value.int IntKind.i64 0)) W2)
                  (Sx.split (z == 2)
                    (Q (Ending.returned (Value.int IntKind.i64 3)) W2)
                    (Sx.split (z == 3)
                      (Q (Ending.returned (Value.int IntKind.i64 2)) W2)
                      (Sx.split (z == 4)
                        (Q (Ending.returned (Value.int IntKind.i64 4)) W2)
                        (Sx.split (z == 5)
                          (Q (Ending.returned (Value.int IntKind.i64 5)) W2)
                          (Sx.split (z == 9)
                            (Q (Ending.returned (Value.int IntKind.i64 6)) W2)
                            (Sx.split (z == 10)
                              (Q (Ending.returned (Value.int IntKind.i64 6)) W2)
                              (Q (Ending.returned (Value.int IntKind.i64 7)) W2)))))))))))))))))))
     (Sx.split (op == 4)
       (Q (Ending.returned (Value.int IntKind.i64 3)) W)
       (Calls Tryd.prog 31 #[Value.int IntKind.i64 op] W (fun e2 =>
         (fun W3 =>
         (∃ vs2 : Array Value, (e2 = Ending.returned (Value.agg vs2) ∧
         (∃ z2 : Int, (vs2[0]? = some (Value.int IntKind.i64 z2) ∧
         Sx.split (z2 == 1)
          (Q (Ending.returned (Value.int IntKind.i64 0)) W3)
          (Sx.split (z2 == 6)
            (Q (Ending.returned (Value.int IntKind.i64 0)) W3)
            (Sx.split (z2 == 7)
              (Q (Ending.returned (Value.int IntKind.i64 0)) W3)
              (Sx.split (z2 == 8)
                (Q (Ending.returned (Value.int IntKind.i64 0)) W3)
                (Sx.split (z2 == 2)
                  (Q (Ending.returned (Value.int IntKind.i64 3)) W3)
                  (Sx.split (z2 == 3)
                    (Q (Ending.returned (Value.int IntKind.i64 2)) W3)
                    (Sx.split (z2 == 4)
                      (Q (Ending.returned (Value.int IntKind.i64 4)) W3)
                      (Sx.split (z2 == 5)
                        (Q (Ending.returned (Value.int IntKind.i64 5)) W3)
                        (Sx.split (z2 == 9)
                          (Q (Ending.returned (Value.int IntKind.i64 6)) W3)
                          (Sx.split (z2 == 10)
                            (Q (Ending.returned (Value.int IntKind.i64 6)) W3)
                            (Q (Ending.returned (Value.int IntKind.i64 7)) W3))))))))))))))))))) :
  Calls Tryd.prog 22 #[Value.int .i64 op] W Q :=
  Sx.sound Tryd.func22 .leaf [Value.int .i64 op] rfl (Eq.mp (by kernel_rfl) h)
theorem vc23 {W : World} {Q : Ending → World → Prop} (i : Array Value)
  (h :
    (∀ k : Nat, (∀ W2 : World, (k = Array.size (World.heap W) →
    (W2 = World.alloc W (Obj.cells (Value.cells (Value.agg i)) 33) →
    (∃ z : Int, (World.cell? W2 (Addr.mk k 0 none) = some (Value.int IntKind.i64 z) ∧
    Sx.split (z == 4)
     ((∃ z2 : Int, (World.cell? W2 (Addr.mk k (0 + 2) none) = some (Value.int IntKind.i64 z2) ∧
      Sx.split (z2 == 1)
       ((∃ z3 : Int, (World.cell? W2 (Addr.mk k (0 + 1) none) = some (Value.int IntKind.i64 z3) ∧
        Q (Ending.returned (Value.bool (z3 == 0))) W2)))
       (Q (Ending.returned (Value.bool false)) W2))))
     (Q (Ending.returned (Value.bool false)) W2)))))))) :
  Calls Tryd.prog 23 #[Value.agg i] W Q :=
  Sx.sound Tryd.func23 .leaf [Value.agg i] rfl (Eq.mp (by kernel_rfl) h)
theorem vc24 {W : World} {Q : Ending → World → Prop} (p : Nat) (po : Nat) (pc : Int)
  (h :
    (∃ p2 : Option Addr, (∃ k : Nat, (∃ k2 : Nat, (World.cell? W (Addr.mk p (po + 3) none) = some (Value.slice p2 k k2) ∧
    ((0 : Int) ≤ (2 : Int) ∧
    (∀ z : Int, (z = Int.fdiv pc (2 ^ min 2 (IntKind.bits IntKind.u32)) →
    (∀ z2 : Int, (z2 = IntKind.wrap IntKind.i64 z →
    (∃ p3 : Option Addr, (∃ k3 : Nat, (∃ k4 : Nat, (World.cell? W (Addr.mk p (po + 3) none) = some (Value.slice p3 k3 k4) ∧
    (∀ z3 : Int, (z3 = IntKind.wrap IntKind.i64 ((↑k3 : Int) - 1) →
    (∀ z4 : Int, (z4 = IntKind.wrap IntKind.i64 (↑(BitVec.toNat (BitVec.ofInt (IntKind.bits IntKind.i64) z2 &&& BitVec.ofInt (IntKind.bits IntKind.i64) z3)) : Int) →
    (((0 : Int) ≤ z4 ∧
     z4 < (↑k : Int)) ∧
    Sx.adr p2 (fun k5 =>
     (fun k6 =>
     (∀ W2 : World, (∀ k7 : Nat, (W2 = World.drewN W k7 →
     Q (Ending.returned (Value.pointer (some (Addr.mk k5 (k6 + Int.toNat z4 * 3) none)))) W2)))))))))))))))))))))))) :
  Calls Tryd.prog 24 #[Value.pointer (some ⟨p, po, none⟩), Value.int .u32 pc] W Q :=
  Sx.sound Tryd.func24 .leaf [Value.pointer (some ⟨p, po, none⟩), Value.int .u32 pc] rfl (Eq.mp (by kernel_rfl) h)
theorem vc25 {W : World} {Q : Ending → World → Prop} (a0 : Nat) (a0o : Nat) (a1 : Int) (a2 : Array Value) (a3 : Bool)
  (h :
    (∀ k : Nat, (∀ W2 : World, (k = Array.size (World.heap W) →
    (W2 = World.alloc W (Obj.cells (Value.cells (Value.agg a2)) 33) →
    (∃ p : Option Addr, (∃ k2 : Nat, (∃ k3 : Nat, (World.cell? W2 (Addr.mk a0 (a0o + 4) none) = some (Value.slice p k2 k3) ∧
    (∃ z : Int, (World.cell? W2 (Addr.mk k 0 none) = some (Value.int IntKind.i64 z) ∧
    Calls Tryd.prog 22 #[Value.int IntKind.i64 z] W2 (fun e =>
     (fun W3 =>
     (∃ z2 : Int, (e = Ending.returned (Value.int IntKind.i64 z2) ∧
     Sx.split (z2 == 2)
      ((∃ z3 : Int, (World.cell? W3 (Addr.mk a0 (a0o + 1) none) = some (Value.int IntKind.i64 z3) ∧
       ((0 : Int) ≤ (1 : Int) ∧
       (∀ z4 : Int, (z4 = IntKind.wrap IntKind.i64 (z3 * 2 ^ min 1 (IntKind.bits IntKind.i64)) →
       ((∃ v : Value, World.cell? W3 (Addr.mk a0 (a0o + 1) none) = some v) ∧
       (World.frozen? W3 (Addr.mk a0 (a0o + 1) none) = false ∧
       (∀ W4 : World, (W4 = World.setCell W3 (Addr.mk a0 (a0o + 1) none) (Value.int IntKind.i64 z4) →
       Sx.split a3
        ((∃ z5 : Int, (World.cell? W4 (Addr.mk a0 (a0o + 1) none) = some (Value.int IntKind.i64 z5) ∧
         (∀ z6 : Int, (z6 = IntKind.wrap IntKind.i64 (↑(BitVec.toNat (BitVec.ofInt (IntKind.bits IntKind.i64) z5 ||| BitVec.ofInt (IntKind.bits IntKind.i64) 1)) : Int) →
         ((∃ v2 : Value, World.cell? W4 (Addr.mk a0 (a0o + 1) none) = some v2) ∧
         (World.frozen? W4 (Addr.mk a0 (a0o + 1) none) = false ∧
         (∀ W5 : World, (W5 = World.setCell W4 (Addr.mk a0 (a0o + 1) none) (Value.int IntKind.i64 z6) →
         (∀ W6 : World, (W6 = World.drew W5 →
         (∃ z7 : Int, (World.cell? W6 (Addr.mk a0 (a0o + 1) none) = some (Value.int IntKind.i64 z7) ∧
         (∃ z8 : Int, (World.cell? W6 (Addr.mk a0 (a0o + 2) none) = some (Value.int IntKind.i64 z8) ∧
         (∀ z9 : Int, (z9 = IntKind.wrap IntKind.i64 (↑(BitVec.toNat (BitVec.ofInt (IntKind.bits IntKind.i64) z7 &&& BitVec.ofInt (IntKind.bits IntKind.i64) z8)) : Int) →
         ((∃ v3 : Value, World.cell? W6 (Addr.mk a0 (a0o + 1) none) = some v3) ∧
         (World.frozen? W6 (Addr.mk a0 (a0o + 1) none) = false ∧
         (∀ W7 : World, (W7 = World.setCell W6 (Addr.mk a0 (a0o + 1) none) (Value.int IntKind.i64 z9) →
         Q (Ending.returned (Value.tuple #[])) W7)))))))))))))))))))))
        ((∀ W8 : World, (W8 = World.drew W4 →
         (∃ z10 : Int, (World.cell? W8 (Addr.mk a0 (a0o + 1) none) = some (Value.int IntKind.i64 z10) ∧
         (∃ z11 : Int, (World.cell? W8 (Addr.mk a0 (a0o + 2) none) = some (Value.int IntKind.i64 z11) ∧
         (∀ z12 : Int, (z12 = IntKind.wrap IntKind.i64 (↑(BitVec.toNat (BitVec.ofInt (IntKind.bits IntKind.i64) z10 &&& BitVec.ofInt (IntKind.bits IntKind.i64) z11)) : Int) →
         ((∃ v4 : Value, World.cell? W8 (Addr.mk a0 (a0o + 1) none) = some v4) ∧
         (World.frozen? W8 (Addr.mk a0 (a0o + 1) none) = false ∧
         (∀ W9 : World, (W9 = World.setCell W8 (Addr.mk a0 (a0o + 1) none) (Value.int IntKind.i64 z12) →
         Q (Ending.returned (Value.tuple #[])) W9)))))))))))))))))))))))
      ((∃ vs : Array Value, (Array.size vs = 5 ∧
       (Sx.cellsAt W3 (Addr.mk k 0 none) vs ∧
       Calls Tryd.prog 23 #[Value.agg vs] W3 (fun e2 =>
        (fun W10 =>
        (∃ t : Bool, (e2 = Ending.returned (Value.bool t) ∧
        Sx.split t
         ((∃ z13 : Int, (World.cell? W10 (Addr.mk a0 (a0o + 5) none) = some (Value.int IntKind.i64 z13) ∧
          (∀ z14 : Int, (z14 = IntKind.wrap IntKind.i64 (z13 + (↑k2 : Int)) →
          (∀ z15 : Int, (z15 = IntKind.wrap IntKind.i64 (z14 - 1) →
          ((↑k2 : Int) ≠ 0 ∧
          (∀ z16 : Int, (z16 = Int.tmod z15 (↑k2 : Int) →
          ((∃ v5 : Value, World.cell? W10 (Addr.mk a0 (a0o + 5) none) = some v5) ∧
          (World.frozen? W10 (Addr.mk a0 (a0o + 5) none) = false ∧
          (∀ W11 : World, (W11 = World.setCell W10 (Addr.mk a0 (a0o + 5) none) (Value.int IntKind.i64 z16) →
          Q (Ending.returned (Value.tuple #[])) W11))))))))))))))
         ((∃ vs2 : Array Value, (Array.size vs2 = 5 ∧
          (Sx.cellsAt W10 (Addr.mk k 0 none) vs2 ∧
          Calls Tryd.prog 32 #[Value.agg vs2] W10 (fun e3 =>
           (fun W12 =>
           (∃ t2 : Bool, (e3 = Ending.returned (Value.bool t2) ∧
           Sx.split t2
            ((∃ z17 : Int, (World.cell? W12 (Addr.mk a0 (a0o + 5) none) = some (Value.int IntKind.i64 z17) ∧
             (∀ z18 : Int, (z18 = IntKind.wrap IntKind.i64 (z17 + 1) →
             ((↑k2 : Int) ≠ 0 ∧
             (∀ z19 : Int, (z19 = Int.tmod z18 (↑k2 : Int) →
             ((∃ v6 : Value, World.cell? W12 (Addr.mk a0 (a0o + 5) none) = some v6) ∧
             (World.frozen? W12 (Addr.mk a0 (a0o + 5) none) = false ∧
             (∀ W13 : World, (W13 = World.setCell W12 (Addr.mk a0 (a0o + 5) none) (Value.int IntKind.i64 z19) →
             (∀ W14 : World, (W14 = World.drew W13 →
             (∃ p2 : Option Addr, (∃ k4 : Nat, (∃ k5 : Nat, (World.cell? W14 (Addr.mk a0 (a0o + 4) none) = some (Value.slice p2 k4 k5) ∧
             (∃ z20 : Int, (World.cell? W14 (Addr.mk a0 (a0o + 5) none) = some (Value.int IntKind.i64 z20) ∧
             (∀ z21 : Int, (z21 = IntKind.wrap IntKind.u32 (a1 + 4) →
             (((0 : Int) ≤ z20 ∧
              z20 < (↑k4 : Int)) ∧
             Sx.adr p2 (fun k6 =>
              (fun k7 =>
              ((∃ v7 : Value, World.cell? W14 (Addr.mk k6 (k7 + Int.toNat z20 * 1) none) = some v7) ∧
              (World.frozen? W14 (Addr.mk k6 (k7 + Int.toNat z20 * 1) none) = false ∧
              (∀ W15 : World, (W15 = World.setCell W14 (Addr.mk k6 (k7 + Int.toNat z20 * 1) none) (Value.int IntKind.u32 z21) →
              Q (Ending.returned (Value.tuple #[])) W15)))))))))))))))))))))))))))))
            (Q (Ending.returned (Value.tuple #[])) W12)))))))))))))))))))))))))))))))) :
  Calls Tryd.prog 25 #[Value.pointer (some ⟨a0, a0o, none⟩), Value.int .u32 a1, Value.agg a2, Value.bool a3] W Q :=
  Sx.sound Tryd.func25 (.node [] [] 0 .leaf (.node [] [] 0 .leaf (.node [] [] 0 (.node [] [] 0 .leaf (.node [] [] 0 (.node [] [] 0 .leaf (.node [] [] 0 .leaf (.node [] [] 12 .leaf .leaf))) (.node [] [] 0 .leaf (.node [] [] 0 .leaf (.node [] [] 0 .leaf (.node [] [] 0 (.node [] [] 0 .leaf (.node [] [] 12 .leaf .leaf)) .leaf)))))) .leaf))) [Value.pointer (some ⟨a0, a0o, none⟩), Value.int .u32 a1, Value.agg a2, Value.bool a3] rfl (Eq.mp (by kernel_rfl) h)
theorem vc26 {W : World} {Q : Ending → World → Prop} (p : Nat) (po : Nat) (m : Array Value)
  (h :
    (∀ k : Nat, (∀ W2 : World, (k = Array.size (World.heap W) →
    (W2 = World.alloc W (Obj.cells (Value.cells (Value.agg m)) 37) →
    (∃ z : Int, (World.cell? W2 (Addr.mk k 0 none) = some (Value.int IntKind.i64 z) ∧
    (∃ z2 : Int, (World.cell? W2 (Addr.mk p (po + 2) none) = some (Value.int IntKind.i64 z2) ∧
    (∃ t : Bool, ((∀ k2 : Nat, Calls Tryd.prog 20 #[Value.int IntKind.i64 z, Value.int IntKind.i64 0, Value.int IntKind.i64 z2] (World.drewN W2 k2) (fun e =>
      (fun W3 =>
      (e = Ending.returned (Value.bool t) ∧
      (∃ k3 : Nat, W3 = World.drewN W2 k3))))) ∧
    Sx.split t
     ((∃ z3 : Int, (World.cell? W2 (Addr.mk k (0 + 1) none) = some (Value.int IntKind.i64 z3) ∧
      (∃ p2 : Option Addr, (∃ k4 : Nat, (∃ k5 : Nat, (World.cell? W2 (Addr.mk p (po + 4) none) = some (Value.slice p2 k4 k5) ∧
      (∀ z4 : Int, (z4 = IntKind.wrap IntKind.i64 ((↑k4 : Int) - 1) →
      (∃ t2 : Bool, ((∀ k6 : Nat, Calls Tryd.prog 20 #[Value.int IntKind.i64 z3, Value.int IntKind.i64 0, Value.int IntKind.i64 z4] (World.drewN W2 k6) (fun e2 =>
        (fun W4 =>
        (e2 = Ending.returned (Value.bool t2) ∧
        (∃ k7 : Nat, W4 = World.drewN W2 k7))))) ∧
      (∀ W5 : World, (∀ k8 : Nat, (W5 = World.drewN W2 k8 →
      Q (Ending.returned (Value.bool t2)) W5))))))))))))))
     ((∀ W6 : World, (∀ k9 : Nat, (W6 = World.drewN W2 k9 →
      Q (Ending.returned (Value.bool false)) W6))))))))))))))) :
  Calls Tryd.prog 26 #[Value.pointer (some ⟨p, po, none⟩), Value.agg m] W Q :=
  Sx.sound Tryd.func26 .leaf [Value.pointer (some ⟨p, po, none⟩), Value.agg m] rfl (Eq.mp (by kernel_rfl) h)
theorem vc31 {W : World} {Q : Ending → World → Prop} (op : Int)
  (h :
    (∀ k : Nat, (∀ W2 : World, (k = Array.size (World.heap W) →
    (W2 = World.alloc W (Obj.cells #[Value.int IntKind.i64 0, Value.int IntKind.u32 0, Value.int IntKind.u32 0] 105) →
    Sx.split (decide (op ≤ 0))
     ((∀ vs : Array Value, (vs = #[Value.int IntKind.i64 0, Value.int IntKind.u32 0, Value.int IntKind.u32 0] →
      (Array.size vs = 3 ∧
      ((∀ k2 : Nat, (k2 < 3 →
       ((∃ v : Value, World.cell? W2 (Addr.mk k (0 + k2) none) = some v) ∧
       World.frozen? W2 (Addr.mk k (0 + k2) none) = false))) ∧
      ((∀ v2 : Value, (v2 ∈ Array.toList vs →
       Value.oneCell' v2 = true)) ∧
      (∀ W3 : World, (W3 = World.setCells W2 k 0 (Array.toList vs) →
      (∃ vs2 : Array Value, (Array.size vs2 = 3 ∧
      (Sx.cellsAt W3 (Addr.mk k 0 none) vs2 ∧
      Q (Ending.returned (Value.agg vs2)) W3)))))))))))
     (Sx.split (decide (op ≥ 68))
       ((∀ vs3 : Array Value, (vs3 = #[Value.int IntKind.i64 0, Value.int IntKind.u32 0, Value.int IntKind.u32 0] →
        (Array.size vs3 = 3 ∧
        ((∀ k3 : Nat, (k3 < 3 →
         ((∃ v3 : Value, World.cell? W2 (Addr.mk k (0 + k3) none) = some v3) ∧
         World.frozen? W2 (Addr.mk k (0 + k3) none) = false))) ∧
        ((∀ v4 : Value, (v4 ∈ Array.toList vs3 →
         Value.oneCell' v4 = true)) ∧
        (∀ W4 : World, (W4 = World.setCells W2 k 0 (Array.toList vs3) →
        (∃ vs4 : Array Value, (Array.size vs4 = 3 ∧
        (Sx.cellsAt W4 (Addr.mk k 0 none) vs4 ∧
        Q (Ending.returned (Value.agg vs4)) W4)))))))))))
       (Calls Tryd.prog 37 #[Value.int IntKind.i64 op] W2 (fun e =>
         (fun W5 =>
         (∃ vs5 : Array Value, (e = Ending.returned (Value.agg vs5) ∧
         (Array.size vs5 = 3 ∧
         ((∀ k4 : Nat, (k4 < 3 →
          ((∃ v5 : Value, World.cell? W5 (Addr.mk k (0 + k4) none) = some v5) ∧
          World.frozen? W5 (Addr.mk k (0 + k4) none) = false))) ∧
         ((∀ v6 : Value, (v6 ∈ Array.toList vs5 →
          Value.oneCell' v6 = true)) ∧
         (∀ W6 : World, (W6 = World.setCells W5 k 0 (Array.toList vs5) →
         (∃ vs6 : Array Value, (Array.size vs6 = 3 ∧
         (Sx.cellsAt W6 (Addr.mk k 0 none) vs6 ∧
         Q (Ending.returned (Value.agg vs6)) W6))))))))))))))))))) :
  Calls Tryd.prog 31 #[Value.int .i64 op] W Q :=
  Sx.sound Tryd.func31 .leaf [Value.int .i64 op] rfl (Eq.mp (by kernel_rfl) h)
theorem vc32 {W : World} {Q : Ending → World → Prop} (i : Array Value)
  (h :
    (∀ k : Nat, (∀ W2 : World, (k = Array.size (World.heap W) →
    (W2 = World.alloc W (Obj.cells (Value.cells (Value.agg i)) 33) →
    (∃ z : Int, (World.cell? W2 (Addr.mk k 0 none) = some (Value.int IntKind.i64 z) ∧
    Calls Tryd.prog 22 #[Value.int IntKind.i64 z] W2 (fun e =>
     (fun W3 =>
     (∃ z2 : Int, (e = Ending.returned (Value.int IntKind.i64 z2) ∧
     Sx.split (z2 == 3)
      ((∃ z3 : Int, (World.cell? W3 (Addr.mk k (0 + 1) none) = some (Value.int IntKind.i64 z3) ∧
       Q (Ending.returned (Value.bool (z3 == 1))) W3)))
      (Q (Ending.returned (Value.bool false)) W3)))))))))))) :
  Calls Tryd.prog 32 #[Value.agg i] W Q :=
  Sx.sound Tryd.func32 .leaf [Value.agg i] rfl (Eq.mp (by kernel_rfl) h)
theorem vc37 {W : World} {Q : Ending → World → Prop} (op : Int)
  (h :
    (∀ k : Nat, (∀ W2 : World, (k = Array.size (World.heap W) →
    (W2 = World.alloc W (Obj.cells #[Value.int IntKind.i64 0, Value.int IntKind.u32 0, Value.int IntKind.u32 0] 105) →
    Sx.split (decide (op < 28))
     ((((0 : Int) ≤ op ∧
       op < (↑28 : Int)) ∧
      (∃ vs : Array Value, (Array.size vs = 3 ∧
      (Sx.cellsAt W2 (Addr.mk 1 (0 + Int.toNat op * 3) none) vs ∧
      (Array.size vs = 3 ∧
      ((∀ k2 : Nat, (k2 < 3 →
       ((∃ v : Value, World.cell? W2 (Addr.mk k (0 + k2) none) = some v) ∧
       World.frozen? W2 (Addr.mk k (0 + k2) none) = false))) ∧
      ((∀ v2 : Value, (v2 ∈ Array.toList vs →
       Value.oneCell' v2 = true)) ∧
      (∀ W3 : World, (W3 = World.setCells W2 k 0 (Array.toList vs) →
      (∃ vs2 : Array Value, (Array.size vs2 = 3 ∧
      (Sx.cellsAt W3 (Addr.mk k 0 none) vs2 ∧
      Q (Ending.returned (Value.agg vs2)) W3)))))))))))))
     ((∀ z : Int, (z = IntKind.wrap IntKind.i64 (op - 28) →
      (((0 : Int) ≤ z ∧
       z < (↑40 : Int)) ∧
      (∃ vs3 : Array Value, (Array.size vs3 = 3 ∧
      (Sx.cellsAt W2 (Addr.mk 2 (0 + Int.toNat z * 3) none) vs3 ∧
      (Array.size vs3 = 3 ∧
      ((∀ k3 : Nat, (k3 < 3 →
       ((∃ v3 : Value, World.cell? W2 (Addr.mk k (0 + k3) none) = some v3) ∧
       World.frozen? W2 (Addr.mk k (0 + k3) none) = false))) ∧
      ((∀ v4 : Value, (v4 ∈ Array.toList vs3 →
       Value.oneCell' v4 = true)) ∧
      (∀ W4 : World, (W4 = World.setCells W2 k 0 (Array.toList vs3) →
      (∃ vs4 : Array Value, (Array.size vs4 = 3 ∧
      (Sx.cellsAt W4 (Addr.mk k 0 none) vs4 ∧
      Q (Ending.returned (Value.agg vs4)) W4)))))))))))))))))))) :
  Calls Tryd.prog 37 #[Value.int .i64 op] W Q :=
  Sx.sound Tryd.func37 .leaf [Value.int .i64 op] rfl (Eq.mp (by kernel_rfl) h)
theorem vc59 {W : World} {Q : Ending → World → Prop} (t : Option Addr) (tn : Nat) (tc : Nat) (pc : Int) (a2 : Array Value) (a3 : Int)
  (h :
    (∀ k : Nat, (∀ W2 : World, (k = Array.size (World.heap W) →
    (W2 = World.alloc W (Obj.cells (Value.cells (Value.agg a2)) 33) →
    Calls Tryd.prog 61 #[Value.slice t tn tc, Value.int IntKind.u32 pc] W2 (fun e =>
     (fun W3 =>
     (∃ p : Option Addr, (e = Ending.returned (Value.pointer p) ∧
     Sx.ptr p (fun a =>
      (∃ z : Int, (World.cell? W3 a = some (Value.int IntKind.u8 z) ∧
      Calls Tryd.prog 62 #[Value.int IntKind.u8 z] W3 (fun e2 =>
       (fun W4 =>
       (∃ t2 : Bool, (e2 = Ending.returned (Value.bool t2) ∧
       Q (Ending.returned (Value.bool t2)) W4)))))))))))))))) :
  Calls Tryd.prog 59 #[Value.slice t tn tc, Value.int .u32 pc, Value.agg a2, Value.int .i64 a3] W Q :=
  Sx.sound Tryd.func59 .leaf [Value.slice t tn tc, Value.int .u32 pc, Value.agg a2, Value.int .i64 a3] rfl (Eq.mp (by kernel_rfl) h)
theorem vc60 {W : World} {Q : Ending → World → Prop} (t : Option Addr) (tn : Nat) (tc : Nat) (pc : Int) (a2 : Int) (taken : Bool)
  (h :
    Calls Tryd.prog 61 #[Value.slice t tn tc, Value.int IntKind.u32 pc] W (fun e =>
     (fun W2 =>
     (∃ p : Option Addr, (e = Ending.returned (Value.pointer p) ∧
     Calls Tryd.prog 63 #[Value.pointer p, Value.bool taken] W2 (fun e2 =>
      (fun W3 =>
      (e2 = Ending.returned (Value.tuple #[]) ∧
      Q (Ending.returned (Value.tuple #[])) W3)))))))) :
  Calls Tryd.prog 60 #[Value.slice t tn tc, Value.int .u32 pc, Value.int .i64 a2, Value.bool taken] W Q :=
  Sx.sound Tryd.func60 .leaf [Value.slice t tn tc, Value.int .u32 pc, Value.int .i64 a2, Value.bool taken] rfl (Eq.mp (by kernel_rfl) h)
theorem vc61 {W : World} {Q : Ending → World → Prop} (t : Option Addr) (tn : Nat) (tc : Nat) (pc : Int)
  (h :
    ((0 : Int) ≤ (2 : Int) ∧
    (∀ z : Int, (z = Int.fdiv pc (2 ^ min 2 (IntKind.bits IntKind.u32)) →
    (∀ z2 : Int, (z2 = IntKind.wrap IntKind.i64 z →
    (∀ z3 : Int, (z3 = IntKind.wrap IntKind.i64 ((↑tn : Int) - 1) →
    (∀ z4 : Int, (z4 = IntKind.wrap IntKind.i64 (↑(BitVec.toNat (BitVec.ofInt (IntKind.bits IntKind.i64) z2 &&& BitVec.ofInt (IntKind.bits IntKind.i64) z3)) : Int) →
    (((0 : Int) ≤ z4 ∧
     z4 < (↑tn : Int)) ∧
    Sx.adr t (fun k =>
     (fun k2 =>
     Q (Ending.returned (Value.pointer (some (Addr.mk k (k2 + Int.toNat z4 * 1) none)))) W))))))))))))) :
  Calls Tryd.prog 61 #[Value.slice t tn tc, Value.int .u32 pc] W Q :=
  Sx.sound Tryd.func61 .leaf [Value.slice t tn tc, Value.int .u32 pc] rfl (Eq.mp (by kernel_rfl) h)
theorem vc62 {W : World} {Q : Ending → World → Prop} (c : Int)
  (h :
    Q (Ending.returned (Value.bool (decide (c > 1)))) W) :
  Calls Tryd.prog 62 #[Value.int .u8 c] W Q :=
  Sx.sound Tryd.func62 .leaf [Value.int .u8 c] rfl (Eq.mp (by kernel_rfl) h)
theorem vc63 {W : World} {Q : Ending → World → Prop} (c : Nat) (co : Nat) (taken : Bool)
  (h :
    Sx.split taken
     ((∃ z : Int, (World.cell? W (Addr.mk c co none) = some (Value.int IntKind.u8 z) ∧
      Sx.split (decide (z < 3))
       ((∃ z2 : Int, (World.cell? W (Addr.mk c co none) = some (Value.int IntKind.u8 z2) ∧
        (∀ z3 : Int, (z3 = IntKind.wrap IntKind.u8 (z2 + 1) →
        ((∃ v : Value, World.cell? W (Addr.mk c co none) = some v) ∧
        (World.frozen? W (Addr.mk c co none) = false ∧
        (∀ W2 : World, (W2 = World.setCell W (Addr.mk c co none) (Value.int IntKind.u8 z3) →
        Q (Ending.returned (Value.tuple #[])) W2)))))))))
       (Sx.split (!taken)
         ((∃ z4 : Int, (World.cell? W (Addr.mk c co none) = some (Value.int IntKind.u8 z4) ∧
          Sx.split (decide (z4 > 0))
           ((∃ z5 : Int, (World.cell? W (Addr.mk c co none) = some (Value.int IntKind.u8 z5) ∧
            (∀ z6 : Int, (z6 = IntKind.wrap IntKind.u8 (z5 - 1) →
            ((∃ v2 : Value, World.cell? W (Addr.mk c co none) = some v2) ∧
            (World.frozen? W (Addr.mk c co none) = false ∧
            (∀ W3 : World, (W3 = World.setCell W (Addr.mk c co none) (Value.int IntKind.u8 z6) →
            Q (Ending.returned (Value.tuple #[])) W3)))))))))
           (Q (Ending.returned (Value.tuple #[])) W))))
         (Q (Ending.returned (Value.tuple #[])) W)))))
     (Sx.split (!taken)
       ((∃ z7 : Int, (World.cell? W (Addr.mk c co none) = some (Value.int IntKind.u8 z7) ∧
        Sx.split (decide (z7 > 0))
         ((∃ z8 : Int, (World.cell? W (Addr.mk c co none) = some (Value.int IntKind.u8 z8) ∧
          (∀ z9 : Int, (z9 = IntKind.wrap IntKind.u8 (z8 - 1) →
          ((∃ v3 : Value, World.cell? W (Addr.mk c co none) = some v3) ∧
          (World.frozen? W (Addr.mk c co none) = false ∧
          (∀ W4 : World, (W4 = World.setCell W (Addr.mk c co none) (Value.int IntKind.u8 z9) →
          Q (Ending.returned (Value.tuple #[])) W4)))))))))
         (Q (Ending.returned (Value.tuple #[])) W))))
       (Q (Ending.returned (Value.tuple #[])) W))) :
  Calls Tryd.prog 63 #[Value.pointer (some ⟨c, co, none⟩), Value.bool taken] W Q :=
  Sx.sound Tryd.func63 .leaf [Value.pointer (some ⟨c, co, none⟩), Value.bool taken] rfl (Eq.mp (by kernel_rfl) h)
theorem vc64 {W : World} {Q : Ending → World → Prop} (m : Array Value) (pc : Int) (i : Array Value) (history : Int)
  (h :
    (∀ k : Nat, (∀ W2 : World, (k = Array.size (World.heap W) →
    (W2 = World.alloc W (Obj.cells (Value.cells (Value.agg m)) 77) →
    (∀ k2 : Nat, (∀ W3 : World, (k2 = Array.size (World.heap W2) →
    (W3 = World.alloc W2 (Obj.cells (Value.cells (Value.agg i)) 33) →
    (∃ p : Option Addr, (∃ k3 : Nat, (∃ k4 : Nat, (World.cell? W3 (Addr.mk k 0 none) = some (Value.slice p k3 k4) ∧
    (∀ z : Int, (z = IntKind.wrap IntKind.u32 history →
    ((0 : Int) ≤ (2 : Int) ∧
    (∀ z2 : Int, (z2 = IntKind.wrap IntKind.u32 (z * 2 ^ min 2 (IntKind.bits IntKind.u32)) →
    (∀ z3 : Int, (z3 = IntKind.wrap IntKind.u32 (↑(BitVec.toNat (BitVec.ofInt (IntKind.bits IntKind.u32) pc ^^^ BitVec.ofInt (IntKind.bits IntKind.u32) z2)) : Int) →
    (∃ vs : Array Value, (Array.size vs = 5 ∧
    (Sx.cellsAt W3 (Addr.mk k2 0 none) vs ∧
    Calls Tryd.prog 59 #[Value.slice p k3 k4, Value.int IntKind.u32 z3, Value.agg vs, Value.int IntKind.i64 0] W3 (fun e =>
     (fun W4 =>
     (∃ t : Bool, (e = Ending.returned (Value.bool t) ∧
     Q (Ending.returned (Value.bool t)) W4))))))))))))))))))))))))))) :
  Calls Tryd.prog 64 #[Value.agg m, Value.int .u32 pc, Value.agg i, Value.int .i64 history] W Q :=
  Sx.sound Tryd.func64 .leaf [Value.agg m, Value.int .u32 pc, Value.agg i, Value.int .i64 history] rfl (Eq.mp (by kernel_rfl) h)
theorem vc65 {W : World} {Q : Ending → World → Prop} (m : Array Value) (pc : Int) (history : Int) (taken : Bool)
  (h :
    (∀ k : Nat, (∀ W2 : World, (k = Array.size (World.heap W) →
    (W2 = World.alloc W (Obj.cells (Value.cells (Value.agg m)) 77) →
    (∃ p : Option Addr, (∃ k2 : Nat, (∃ k3 : Nat, (World.cell? W2 (Addr.mk k 0 none) = some (Value.slice p k2 k3) ∧
    (∀ z : Int, (z = IntKind.wrap IntKind.u32 history →
    ((0 : Int) ≤ (2 : Int) ∧
    (∀ z2 : Int, (z2 = IntKind.wrap IntKind.u32 (z * 2 ^ min 2 (IntKind.bits IntKind.u32)) →
    (∀ z3 : Int, (z3 = IntKind.wrap IntKind.u32 (↑(BitVec.toNat (BitVec.ofInt (IntKind.bits IntKind.u32) pc ^^^ BitVec.ofInt (IntKind.bits IntKind.u32) z2)) : Int) →
    Calls Tryd.prog 60 #[Value.slice p k2 k3, Value.int IntKind.u32 z3, Value.int IntKind.i64 0, Value.bool taken] W2 (fun e =>
     (fun W3 =>
     (e = Ending.returned (Value.tuple #[]) ∧
     Q (Ending.returned (Value.tuple #[])) W3))))))))))))))))))) :
  Calls Tryd.prog 65 #[Value.agg m, Value.int .u32 pc, Value.int .i64 history, Value.bool taken] W Q :=
  Sx.sound Tryd.func65 .leaf [Value.agg m, Value.int .u32 pc, Value.int .i64 history, Value.bool taken] rfl (Eq.mp (by kernel_rfl) h)
theorem vc66 {W : World} {Q : Ending → World → Prop} (f : Array Value) (a1 : Int) (i : Array Value) (a3 : Int)
  (h :
    (∀ k : Nat, (∀ W2 : World, (k = Array.size (World.heap W) →
    (W2 = World.alloc W (Obj.cells (Value.cells (Value.agg f)) 79) →
    (∀ k2 : Nat, (∀ W3 : World, (k2 = Array.size (World.heap W2) →
    (W3 = World.alloc W2 (Obj.cells (Value.cells (Value.agg i)) 33) →
    (∃ t : Bool, (World.cell? W3 (Addr.mk k 0 none) = some (Value.bool t) ∧
    Sx.split t
     ((∃ z : Int, (World.cell? W3 (Addr.mk k2 (0 + 4) none) = some (Value.int IntKind.i64 z) ∧
      Q (Ending.returned (Value.bool (decide (z < 0)))) W3)))
     (Q (Ending.returned (Value.bool false)) W3)))))))))))) :
  Calls Tryd.prog 66 #[Value.agg f, Value.int .u32 a1, Value.agg i, Value.int .i64 a3] W Q :=
  Sx.sound Tryd.func66 .leaf [Value.agg f, Value.int .u32 a1, Value.agg i, Value.int .i64 a3] rfl (Eq.mp (by kernel_rfl) h)
theorem vc67 {W : World} {Q : Ending → World → Prop} (f : Array Value) (a1 : Int) (a2 : Int) (a3 : Bool)
  (h :
    (∀ k : Nat, (∀ W2 : World, (k = Array.size (World.heap W) →
    (W2 = World.alloc W (Obj.cells (Value.cells (Value.agg f)) 79) →
    Q (Ending.returned (Value.tuple #[])) W2))))) :
  Calls Tryd.prog 67 #[Value.agg f, Value.int .u32 a1, Value.int .i64 a2, Value.bool a3] W Q :=
  Sx.sound Tryd.func67 .leaf [Value.agg f, Value.int .u32 a1, Value.int .i64 a2, Value.bool a3] rfl (Eq.mp (by kernel_rfl) h)
end Go.Proofs.YtgcakilmmeopaaaDoor
