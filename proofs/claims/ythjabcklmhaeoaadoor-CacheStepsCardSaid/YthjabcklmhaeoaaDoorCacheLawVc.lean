/- What each function asks, reckoned out of its text; printed by a program of mine (wip/tpl/VcTool.lean). No condition. -/
import Derived.Test.YthjabcklmhaeoaaDoorSxB
import Derived.Test.YthjabcklmhaeoaaDoorChecked
namespace Go.Proofs.YthjabcklmhaeoaaDoor
open Go Go.Proofs
set_option linter.unusedVariables false
set_option maxRecDepth 100000
theorem vc3 {W : World} {Q : Ending → World → Prop} (a0 : Int) (a1 : Int) (a2 : Option Addr) (a2n : Nat) (a2c : Nat)
  (h :
    (∀ vs : Array Value, (vs = #[Value.int IntKind.i64 a0, Value.int IntKind.i64 a1] →
    Calls Tryd.prog 4 #[Value.agg vs] W (fun e =>
     (fun W2 =>
     (∃ p : Option Addr, (∃ v : Value, (e = Ending.returned (Value.tuple #[Value.pointer p, v]) ∧
     Calls Tryd.prog 5 #[Value.int IntKind.i64 a0, Value.int IntKind.i64 a1] W2 (fun e2 =>
      (fun W3 =>
      (∃ p2 : Option Addr, (∃ z : Int, (e2 = Ending.returned (Value.tuple #[Value.pointer p2, Value.int IntKind.i64 z]) ∧
      Calls Tryd.prog 6 #[v, Value.int IntKind.i64 z] W3 (fun e3 =>
       (fun W4 =>
       (∃ t : Bool, (e3 = Ending.returned (Value.bool t) ∧
       Sx.split (!t)
        (Q (Ending.returned (Value.bool false)) W4)
        (Sx.split (!Option.isNone p == Option.isNone p2)
          (Q (Ending.returned (Value.bool false)) W4)
          ((∃ I : Int → Bool → World → Prop, (∃ I2 : Int → Bool → World → Nat, (I 0 t W4 ∧
           ((Nat →
           Value) →
           (∀ x : Int, (∀ x2 : Bool, (∀ W5 : World, (I x x2 W5 →
           Sx.split (decide (x < (↑a2n : Int)))
            (Sx.split (decide (x < 4096))
              (Sx.split (Option.isSome p)
                ((((0 : Int) ≤ x ∧
                  x < (↑a2n : Int)) ∧
                 Sx.adr a2 (fun k =>
                  (fun k2 =>
                  (∃ vs2 : Array Value, (Array.size vs2 = 4 ∧
                  (Sx.cellsAt W5 (Addr.mk k (k2 + Int.toNat x * 4) none) vs2 ∧
                  (∀ k3 : Nat, (∀ W6 : World, (k3 = Array.size (World.heap W5) →
                  (W6 = World.alloc W5 (Obj.cells #[Value.int IntKind.i64 0, Value.int IntKind.i64 0, Value.int IntKind.i64 0, Value.int IntKind.i64 0] 35) →
                  (Array.size vs2 = 4 ∧
                  ((∀ k4 : Nat, (k4 < 4 →
                   ((∃ v2 : Value, World.cell? W6 (Addr.mk k3 (0 + k4) none) = some v2) ∧
                   World.frozen? W6 (Addr.mk k3 (0 + k4) none) = false))) ∧
                  ((∀ v3 : Value, (v3 ∈ Array.toList vs2 →
                   Value.oneCell' v3 = true)) ∧
                  (∀ W7 : World, (W7 = World.setCells W6 k3 0 (Array.toList vs2) →
                  (∃ z2 : Int, (World.cell? W7 (Addr.mk k3 (0 + 1) none) = some (Value.int IntKind.i64 z2) ∧
                  (∀ z3 : Int, (z3 = IntKind.wrap IntKind.u32 z2 →
                  (∀ z4 : Int, (z4 = IntKind.wrap IntKind.i64 z3 →
                  (∃ I3 : Bool → World → Prop, ((∃ z5 : Int, (World.cell? W7 (Addr.mk k3 0 none) = some (Value.int IntKind.i64 z5) ∧
                   Sx.split (z5 == 0)
                    (Calls Tryd.prog 7 #[Value.pointer p, Value.int IntKind.u32 z3] W7 (fun e4 =>
                      (fun W8 =>
                      (∃ z6 : Int, (e4 = Ending.returned (Value.int IntKind.i64 z6) ∧
                      Calls Tryd.prog 8 #[Value.pointer p2, Value.int IntKind.i64 z4] W8 (fun e5 =>
                       (fun W9 =>
                       (∃ z7 : Int, (e5 = Ending.returned (Value.int IntKind.i64 z7) ∧
                       I3 (z6 == z7) W9)))))))))
                    (Sx.split (z5 == 1)
                      ((∃ z8 : Int, (World.cell? W7 (Addr.mk k3 (0 + 2) none) = some (Value.int IntKind.i64 z8) ∧
                       Calls Tryd.prog 9 #[Value.pointer p, Value.int IntKind.u32 z3, Value.int IntKind.i64 z8] W7 (fun e6 =>
                        (fun W10 =>
                        (∃ z9 : Int, (∃ t2 : Bool, (e6 = Ending.returned (Value.tuple #[Value.int IntKind.u32 z9, Value.bool t2]) ∧
                        (∃ z10 : Int, (World.cell? W10 (Addr.mk k3 (0 + 2) none) = some (Value.int IntKind.i64 z10) ∧
                        Calls Tryd.prog 10 #[Value.pointer p2, Value.int IntKind.i64 z4, Value.int IntKind.i64 z10] W10 (fun e7 =>
                         (fun W11 =>
                         (∃ z11 : Int, (∃ t3 : Bool, (e7 = Ending.returned (Value.tuple #[Value.int IntKind.u32 z11, Value.bool t3]) ∧
                         Sx.split (z9 == z11)
                          (I3 (t2 == t3) W11)
                          (I3 false W11))))))))))))))))
                      (Sx.split (z5 == 2)
                        ((∃ z12 : Int, (World.cell? W7 (Addr.mk k3 (0 + 2) none) = some (Value.int IntKind.i64 z12) ∧
                         (∃ z13 : Int, (World.cell? W7 (Addr.mk k3 (0 + 3) none) = some (Value.int IntKind.i64 z13) ∧
                         (∀ z14 : Int, (z14 = IntKind.wrap IntKind.u32 z13 →
                         Calls Tryd.prog 11 #[Value.pointer p, Value.int IntKind.u32 z3, Value.int IntKind.i64 z12, Value.int IntKind.u32 z14] W7 (fun e8 =>
                          (fun W12 =>
                          (∃ t4 : Bool, (e8 = Ending.returned (Value.bool t4) ∧
                          (∃ z15 : Int, (World.cell? W12 (Addr.mk k3 (0 + 2) none) = some (Value.int IntKind.i64 z15) ∧
                          (∃ z16 : Int, (World.cell? W12 (Addr.mk k3 (0 + 3) none) = some (Value.int IntKind.i64 z16) ∧
                          (∀ z17 : Int, (z17 = IntKind.wrap IntKind.u32 z16 →
                          Calls Tryd.prog 12 #[Value.pointer p2, Value.int IntKind.i64 z4, Value.int IntKind.i64 z15, Value.int IntKind.u32 z17] W12 (fun e9 =>
                           (fun W13 =>
                           (∃ t5 : Bool, (e9 = Ending.returned (Value.bool t5) ∧
                           I3 (t4 == t5) W13)))))))))))))))))))))
                        (Sx.split (z5 == 3)
                          ((∃ I4 : Value → Option Addr → Bool → World → Prop, ((∀ W14 : World, (W14 = World.drew W7 →
                            (∃ z18 : Int, (World.cell? W14 (Addr.mk k3 (0 + 2) none) = some (Value.int IntKind.i64 z18) ∧
                            (∃ z19 : Int, (World.cell? W14 (Addr.mk k3 (0 + 3) none) = some (Value.int IntKind.i64 z19) ∧
                            (Calls Tryd.prog 14 #[Value.int IntKind.i64 z18] W14 (fun e10 =>
                              (fun W15 =>
                              (∃ vs3 : Array Value, (e10 = Ending.returned (Value.agg vs3) ∧
                              (RowKit.Below (Array.size (World.heap W14)) W14 W15 ∧
                              (Calls Tryd.prog 13 #[Value.pointer p, Value.int IntKind.u32 z3, Value.agg vs3, Value.int IntKind.i64 z19] W15 (fun e11 =>
                                (fun W16 =>
                                (∃ vs4 : Array Value, (∃ t6 : Bool, (∃ v4 : Value, (e11 = Ending.returned (Value.tuple #[Value.agg vs4, Value.bool t6, v4]) ∧
                                (∀ k5 : Nat, (∀ W17 : World, (k5 = Array.size (World.heap W16) →
                                (W17 = World.alloc W16 (Obj.cells #[Value.int IntKind.u32 0, Value.int IntKind.i64 0, Value.int IntKind.u8 0, Value.int IntKind.u8 0, Value.int IntKind.u8 0, Value.int IntKind.u8 0, Value.int IntKind.u8 0, Value.int IntKind.u8 0, Value.int IntKind.u8 0, Value.int IntKind.u8 0, Value.int IntKind.u8 0, Value.int IntKind.u8 0, Value.int IntKind.u8 0, Value.int IntKind.u8 0, Value.int IntKind.u8 0, Value.int IntKind.u8 0, Value.int IntKind.u8 0, Value.int IntKind.u8 0] 47) →
                                (Array.size vs4 = 18 ∧
                                ((∀ k6 : Nat, (k6 < 18 →
                                 ((∃ v5 : Value, World.cell? W17 (Addr.mk k5 (0 + k6) none) = some v5) ∧
                                 World.frozen? W17 (Addr.mk k5 (0 + k6) none) = false))) ∧
                                ((∀ v6 : Value, (v6 ∈ Array.toList vs4 →
                                 Value.oneCell' v6 = true)) ∧
                                (∀ W18 : World, (W18 = World.setCells W17 k5 0 (Array.toList vs4) →
                                I4 v4 (some (Addr.mk k5 0 none)) t6 W18))))))))))))))) ∧
                              (∀ k7 : Nat, (∀ W19 : World, (k7 = Array.size (World.heap W15) →
                              (W19 = World.alloc W15 (Obj.cells #[Value.int IntKind.u32 0, Value.int IntKind.i64 0, Value.int IntKind.u8 0, Value.int IntKind.u8 0, Value.int IntKind.u8 0, Value.int IntKind.u8 0, Value.int IntKind.u8 0, Value.int IntKind.u8 0, Value.int IntKind.u8 0, Value.int IntKind.u8 0, Value.int IntKind.u8 0, Value.int IntKind.u8 0, Value.int IntKind.u8 0, Value.int IntKind.u8 0, Value.int IntKind.u8 0, Value.int IntKind.u8 0, Value.int IntKind.u8 0, Value.int IntKind.u8 0] 47) →
                              (RowKit.Below (Array.size (World.heap W14)) W14 W19 ∧
                              Calls Tryd.prog 13 #[Value.pointer p, Value.int IntKind.u32 z3, Value.agg vs3, Value.int IntKind.i64 z19] W19 (fun e12 =>
                               (fun W20 =>
                               (∃ vs5 : Array Value, (∃ t7 : Bool, (∃ v7 : Value, (e12 = Ending.returned (Value.tuple #[Value.agg vs5, Value.bool t7, v7]) ∧
                               (Array.size vs5 = 18 ∧
                               ((∀ k8 : Nat, (k8 < 18 →
                                ((∃ v8 : Value, World.cell? W20 (Addr.mk k7 (0 + k8) none) = some v8) ∧
                                World.frozen? W20 (Addr.mk k7 (0 + k8) none) = false))) ∧
                               ((∀ v9 : Value, (v9 ∈ Array.toList vs5 →
                                Value.oneCell' v9 = true)) ∧
                               (∀ W21 : World, (W21 = World.setCells W20 k7 0 (Array.toList vs5) →
                               I4 v7 (some (Addr.mk k7 0 none)) t7 W21)))))))))))))))))))))) ∧
                            (∀ k9 : Nat, (∀ W22 : World, (k9 = Array.size (World.heap W14) →
                            (W22 = World.alloc W14 (Obj.cells #[Value.int IntKind.u32 0, Value.int IntKind.i64 0, Value.int IntKind.u8 0, Value.int IntKind.u8 0, Value.int IntKind.u8 0, Value.int IntKind.u8 0, Value.int IntKind.u8 0, Value.int IntKind.u8 0, Value.int IntKind.u8 0, Value.int IntKind.u8 0, Value.int IntKind.u8 0, Value.int IntKind.u8 0, Value.int IntKind.u8 0, Value.int IntKind.u8 0, Value.int IntKind.u8 0, Value.int IntKind.u8 0, Value.int IntKind.u8 0, Value.int IntKind.u8 0] 47) →
                            (RowKit.Below (Array.size (World.heap W14)) W14 W22 ∧
                            Calls Tryd.prog 14 #[Value.int IntKind.i64 z18] W22 (fun e13 =>
                             (fun W23 =>
                             (∃ vs6 : Array Value, (e13 = Ending.returned (Value.agg vs6) ∧
                             (RowKit.Below (Array.size (World.heap W14)) W14 W23 ∧
                             Calls Tryd.prog 13 #[Value.pointer p, Value.int IntKind.u32 z3, Value.agg vs6, Value.int IntKind.i64 z19] W23 (fun e14 =>
                              (fun W24 =>
                              (∃ vs7 : Array Value, (∃ t8 : Bool, (∃ v10 : Value, (e14 = Ending.returned (Value.tuple #[Value.agg vs7, Value.bool t8, v10]) ∧
                              (Array.size vs7 = 18 ∧
                              ((∀ k10 : Nat, (k10 < 18 →
                               ((∃ v11 : Value, World.cell? W24 (Addr.mk k9 (0 + k10) none) = some v11) ∧
                               World.frozen? W24 (Addr.mk k9 (0 + k10) none) = false))) ∧
                              ((∀ v12 : Value, (v12 ∈ Array.toList vs7 →
                               Value.oneCell' v12 = true)) ∧
                              (∀ W25 : World, (W25 = World.setCells W24 k9 0 (Array.toList vs7) →
                              I4 v10 (some (Addr.mk k9 0 none)) t8 W25)))))))))))))))))))))))))))) ∧
                           ((Nat →
                           Value) →
                           (∀ x3 : Value, (∀ x4 : Option Addr, (∀ x5 : Bool, (∀ W26 : World, (I4 x3 x4 x5 W26 →
                           (∃ I5 : Int → Option Addr → World → Prop, ((∀ W27 : World, (W27 = World.drew W26 →
                            (∃ z20 : Int, (World.cell? W27 (Addr.mk k3 (0 + 2) none) = some (Value.int IntKind.i64 z20) ∧
                            (∃ z21 : Int, (World.cell? W27 (Addr.mk k3 (0 + 3) none) = some (Value.int IntKind.i64 z21) ∧
                            (Calls Tryd.prog 14 #[Value.int IntKind.i64 z20] W27 (fun e15 =>
                              (fun W28 =>
                              (∃ vs8 : Array Value, (e15 = Ending.returned (Value.agg vs8) ∧
                              (RowKit.Below (Array.size (World.heap W27)) W27 W28 ∧
                              (Calls Tryd.prog 15 #[Value.pointer p2, Value.int IntKind.i64 z4, Value.agg vs8, Value.int IntKind.i64 z21] W28 (fun e16 =>
                                (fun W29 =>
                                (∃ vs9 : Array Value, (∃ z22 : Int, (e16 = Ending.returned (Value.tuple #[Value.agg vs9, Value.int IntKind.i64 z22]) ∧
                                (∀ k11 : Nat, (∀ W30 : World, (k11 = Array.size (World.heap W29) →
                                (W30 = World.alloc W29 (Obj.cells #[Value.int IntKind.i64 0, Value.int IntKind.i64 0, Value.int IntKind.u8 0, Value.int IntKind.u8 0, Value.int IntKind.u8 0, Value.int IntKind.u8 0, Value.int IntKind.u8 0, Value.int IntKind.u8 0, Value.int IntKind.u8 0, Value.int IntKind.u8 0, Value.int IntKind.u8 0, Value.int IntKind.u8 0, Value.int IntKind.u8 0, Value.int IntKind.u8 0, Value.int IntKind.u8 0, Value.int IntKind.u8 0, Value.int IntKind.u8 0, Value.int IntKind.u8 0] 52) →
                                (Array.size vs9 = 18 ∧
                                ((∀ k12 : Nat, (k12 < 18 →
                                 ((∃ v13 : Value, World.cell? W30 (Addr.mk k11 (0 + k12) none) = some v13) ∧
                                 World.frozen? W30 (Addr.mk k11 (0 + k12) none) = false))) ∧
                                ((∀ v14 : Value, (v14 ∈ Array.toList vs9 →
                                 Value.oneCell' v14 = true)) ∧
                                (∀ W31 : World, (W31 = World.setCells W30 k11 0 (Array.toList vs9) →
                                I5 z22 (some (Addr.mk k11 0 none)) W31)))))))))))))) ∧
                              (∀ k13 : Nat, (∀ W32 : World, (k13 = Array.size (World.heap W28) →
                              (W32 = World.alloc W28 (Obj.cells #[Value.int IntKind.i64 0, Value.int IntKind.i64 0, Value.int IntKind.u8 0, Value.int IntKind.u8 0, Value.int IntKind.u8 0, Value.int IntKind.u8 0, Value.int IntKind.u8 0, Value.int IntKind.u8 0, Value.int IntKind.u8 0, Value.int IntKind.u8 0, Value.int IntKind.u8 0, Value.int IntKind.u8 0, Value.int IntKind.u8 0, Value.int IntKind.u8 0, Value.int IntKind.u8 0, Value.int IntKind.u8 0, Value.int IntKind.u8 0, Value.int IntKind.u8 0] 52) →
                              (RowKit.Below (Array.size (World.heap W27)) W27 W32 ∧
                              Calls Tryd.prog 15 #[Value.pointer p2, Value.int IntKind.i64 z4, Value.agg vs8, Value.int IntKind.i64 z21] W32 (fun e17 =>
                               (fun W33 =>
                               (∃ vs10 : Array Value, (∃ z23 : Int, (e17 = Ending.returned (Value.tuple #[Value.agg vs10, Value.int IntKind.i64 z23]) ∧
                               (Array.size vs10 = 18 ∧
                               ((∀ k14 : Nat, (k14 < 18 →
                                ((∃ v15 : Value, World.cell? W33 (Addr.mk k13 (0 + k14) none) = some v15) ∧
                                World.frozen? W33 (Addr.mk k13 (0 + k14) none) = false))) ∧
                               ((∀ v16 : Value, (v16 ∈ Array.toList vs10 →
                                Value.oneCell' v16 = true)) ∧
                               (∀ W34 : World, (W34 = World.setCells W33 k13 0 (Array.toList vs10) →
                               I5 z23 (some (Addr.mk k13 0 none)) W34))))))))))))))))))))) ∧
                            (∀ k15 : Nat, (∀ W35 : World, (k15 = Array.size (World.heap W27) →
                            (W35 = World.alloc W27 (Obj.cells #[Value.int IntKind.i64 0, Value.int IntKind.i64 0, Value.int IntKind.u8 0, Value.int IntKind.u8 0, Value.int IntKind.u8 0, Value.int IntKind.u8 0, Value.int IntKind.u8 0, Value.int IntKind.u8 0, Value.int IntKind.u8 0, Value.int IntKind.u8 0, Value.int IntKind.u8 0, Value.int IntKind.u8 0, Value.int IntKind.u8 0, Value.int IntKind.u8 0, Value.int IntKind.u8 0, Value.int IntKind.u8 0, Value.int IntKind.u8 0, Value.int IntKind.u8 0] 52) →
                            (RowKit.Below (Array.size (World.heap W27)) W27 W35 ∧
                            Calls Tryd.prog 14 #[Value.int IntKind.i64 z20] W35 (fun e18 =>
                             (fun W36 =>
                             (∃ vs11 : Array Value, (e18 = Ending.returned (Value.agg vs11) ∧
                             (RowKit.Below (Array.size (World.heap W27)) W27 W36 ∧
                             Calls Tryd.prog 15 #[Value.pointer p2, Value.int IntKind.i64 z4, Value.agg vs11, Value.int IntKind.i64 z21] W36 (fun e19 =>
                              (fun W37 =>
                              (∃ vs12 : Array Value, (∃ z24 : Int, (e19 = Ending.returned (Value.tuple #[Value.agg vs12, Value.int IntKind.i64 z24]) ∧
                              (Array.size vs12 = 18 ∧
                              ((∀ k16 : Nat, (k16 < 18 →
                               ((∃ v17 : Value, World.cell? W37 (Addr.mk k15 (0 + k16) none) = some v17) ∧
                               World.frozen? W37 (Addr.mk k15 (0 + k16) none) = false))) ∧
                              ((∀ v18 : Value, (v18 ∈ Array.toList vs12 →
                               Value.oneCell' v18 = true)) ∧
                              (∀ W38 : World, (W38 = World.setCells W37 k15 0 (Array.toList vs12) →
                              I5 z24 (some (Addr.mk k15 0 none)) W38))))))))))))))))))))))))))) ∧
                           ((Nat →
                           Value) →
                           (∀ x6 : Int, (∀ x7 : Option Addr, (∀ W39 : World, (I5 x6 x7 W39 →
                           Calls Tryd.prog 6 #[x3, Value.int IntKind.i64 x6] W39 (fun e20 =>
                            (fun W40 =>
                            (∃ t9 : Bool, (e20 = Ending.returned (Value.bool t9) ∧
                            Sx.ptr x4 (fun a =>
                             (∃ vs13 : Array Value, (Array.size vs13 = 18 ∧
                             (Sx.cellsAt W40 a vs13 ∧
                             Sx.ptr x7 (fun a2 =>
                              (∃ vs14 : Array Value, (Array.size vs14 = 18 ∧
                              (Sx.cellsAt W40 a2 vs14 ∧
                              Calls Tryd.prog 16 #[Value.agg vs13, Value.agg vs14] W40 (fun e21 =>
                               (fun W41 =>
                               (∃ t10 : Bool, (e21 = Ending.returned (Value.bool t10) ∧
                               Sx.split t9
                                (Sx.split t10
                                  (Sx.ptr x7 (fun a3 =>
                                    (∃ z25 : Int, (World.cell? W41 (Addr.add a3 1) = some (Value.int IntKind.i64 z25) ∧
                                    I3 (x5 == (z25 != 0)) W41))))
                                  (I3 false W41))
                                (I3 false W41)))))))))))))))))))))))))))))))))
                          (Sx.split (z5 == 4)
                            ((∃ z26 : Int, (World.cell? W7 (Addr.mk k3 (0 + 3) none) = some (Value.int IntKind.i64 z26) ∧
                             Calls Tryd.prog 17 #[Value.pointer p, Value.int IntKind.u32 z3, Value.int IntKind.i64 z26] W7 (fun e22 =>
                              (fun W42 =>
                              (∃ vs15 : Array Value, (∃ v19 : Value, (e22 = Ending.returned (Value.tuple #[Value.agg vs15, v19]) ∧
                              (∀ k17 : Nat, (∀ W43 : World, (k17 = Array.size (World.heap W42) →
                              (W43 = World.alloc W42 (Obj.cells #[Value.int IntKind.u32 0, Value.int IntKind.i64 0, Value.int IntKind.u8 0, Value.int IntKind.u8 0, Value.int IntKind.u8 0, Value.int IntKind.u8 0, Value.int IntKind.u8 0, Value.int IntKind.u8 0, Value.int IntKind.u8 0, Value.int IntKind.u8 0, Value.int IntKind.u8 0, Value.int IntKind.u8 0, Value.int IntKind.u8 0, Value.int IntKind.u8 0, Value.int IntKind.u8 0, Value.int IntKind.u8 0, Value.int IntKind.u8 0, Value.int IntKind.u8 0] 47) →
                              (Array.size vs15 = 18 ∧
                              ((∀ k18 : Nat, (k18 < 18 →
                               ((∃ v20 : Value, World.cell? W43 (Addr.mk k17 (0 + k18) none) = some v20) ∧
                               World.frozen? W43 (Addr.mk k17 (0 + k18) none) = false))) ∧
                              ((∀ v21 : Value, (v21 ∈ Array.toList vs15 →
                               Value.oneCell' v21 = true)) ∧
                              (∀ W44 : World, (W44 = World.setCells W43 k17 0 (Array.toList vs15) →
                              (∃ z27 : Int, (World.cell? W44 (Addr.mk k3 (0 + 3) none) = some (Value.int IntKind.i64 z27) ∧
                              Calls Tryd.prog 18 #[Value.pointer p2, Value.int IntKind.i64 z4, Value.int IntKind.i64 z27] W44 (fun e23 =>
                               (fun W45 =>
                               (∃ vs16 : Array Value, (∃ z28 : Int, (e23 = Ending.returned (Value.tuple #[Value.agg vs16, Value.int IntKind.i64 z28]) ∧
                               (∀ k19 : Nat, (∀ W46 : World, (k19 = Array.size (World.heap W45) →
                               (W46 = World.alloc W45 (Obj.cells #[Value.int IntKind.i64 0, Value.int IntKind.i64 0, Value.int IntKind.u8 0, Value.int IntKind.u8 0, Value.int IntKind.u8 0, Value.int IntKind.u8 0, Value.int IntKind.u8 0, Value.int IntKind.u8 0, Value.int IntKind.u8 0, Value.int IntKind.u8 0, Value.int IntKind.u8 0, Value.int IntKind.u8 0, Value.int IntKind.u8 0, Value.int IntKind.u8 0, Value.int IntKind.u8 0, Value.int IntKind.u8 0, Value.int IntKind.u8 0, Value.int IntKind.u8 0] 52) →
                               (Array.size vs16 = 18 ∧
                               ((∀ k20 : Nat, (k20 < 18 →
                                ((∃ v22 : Value, World.cell? W46 (Addr.mk k19 (0 + k20) none) = some v22) ∧
                                World.frozen? W46 (Addr.mk k19 (0 + k20) none) = false))) ∧
                               ((∀ v23 : Value, (v23 ∈ Array.toList vs16 →
                                Value.oneCell' v23 = true)) ∧
                               (∀ W47 : World, (W47 = World.setCells W46 k19 0 (Array.toList vs16) →
                               Calls Tryd.prog 6 #[v19, Value.int IntKind.i64 z28] W47 (fun e24 =>
                                (fun W48 =>
                                (∃ t11 : Bool, (e24 = Ending.returned (Value.bool t11) ∧
                                (∃ vs17 : Array Value, (Array.size vs17 = 18 ∧
                                (Sx.cellsAt W48 (Addr.mk k17 0 none) vs17 ∧
                                (∃ vs18 : Array Value, (Array.size vs18 = 18 ∧
                                (Sx.cellsAt W48 (Addr.mk k19 0 none) vs18 ∧
                                Calls Tryd.prog 16 #[Value.agg vs17, Value.agg vs18] W48 (fun e25 =>
                                 (fun W49 =>
                                 (∃ t12 : Bool, (e25 = Ending.returned (Value.bool t12) ∧
                                 Sx.split t11
                                  (I3 t12 W49)
                                  (I3 false W49))))))))))))))))))))))))))))))))))))))))))))))))
                            (I3 x2 W7))))))) ∧
                  ((Nat →
                  Value) →
                  (∀ x8 : Bool, (∀ W50 : World, (I3 x8 W50 →
                  Sx.split (!x8)
                   (Q (Ending.returned (Value.bool false)) W50)
                   ((∀ z29 : Int, (z29 = IntKind.wrap IntKind.i64 (x + 1) →
                    (I z29 x8 W50 ∧
                    I2 z29 x8 W50 < I2 x x2 W5))))))))))))))))))))))))))))))))
                (Q (Ending.returned (Value.bool true)) W5))
              (Q (Ending.returned (Value.bool true)) W5))
            (Q (Ending.returned (Value.bool true)) W5)))))))))))))))))))))))))))) :
  Calls Tryd.prog 3 #[Value.int .i64 a0, Value.int .i64 a1, Value.slice a2 a2n a2c] W Q :=
  Sx.sound Tryd.func3 (.node [] [] 0 .leaf (.node [] [] 0 .leaf (.node [] [] 0 .leaf (.node [] [] 0 .leaf (.node [] [] 0 .leaf (.node [] [] 0 (.node [] [] 0 .leaf (.node [] [] 0 (.node [(12, .int .i64), (11, .bool)] [2, 7, 9] 0 (.node [] [] 0 .leaf (.node [] [] 0 (.node [] [] 0 (.node [] [] 0 .leaf (.node [] [] 0 .leaf (.node [] [] 0 .leaf (.node [(11, .bool)] [12, 2, 7, 9] 1 (.node [] [] 0 .leaf (.node [] [] 0 (.node [] [] 0 .leaf (.node [] [] 0 .leaf (.node [] [] 0 .leaf (.node [] [] 0 .leaf (.node [] [] 0 .leaf (.node [] [] 0 .leaf (.node [] [] 0 .leaf (.node [] [] 0 (.node [(26, .any), (24, .ptr), (25, .bool)] [9, 15, 13, 12, 2, 7] 1 (.node [] [] 1008 .leaf .leaf) (.node [(28, .int .i64), (27, .ptr)] [26, 24, 25, 12, 2, 7, 9] 1 (.node [] [] 1008 .leaf .leaf) .leaf)) .leaf)))))))) .leaf)) .leaf)))) .leaf) .leaf)) .leaf) .leaf)) .leaf)))))) [Value.int .i64 a0, Value.int .i64 a1, Value.slice a2 a2n a2c] rfl (Eq.mp (by kernel_rfl) h)
theorem vc6 {W : World} {Q : Ending → World → Prop} (err : Value) (e : Int)
  (h :
    Calls Tryd.prog 19 #[err] W (fun e2 =>
     (fun W2 =>
     (∃ z : Int, (e2 = Ending.returned (Value.int IntKind.i64 z) ∧
     Q (Ending.returned (Value.bool (z == e))) W2))))) :
  Calls Tryd.prog 6 #[err, Value.int .i64 e] W Q :=
  Sx.sound Tryd.func6 .leaf [err, Value.int .i64 e] rfl (Eq.mp (by kernel_rfl) h)
theorem vc14 {W : World} {Q : Ending → World → Prop} (n : Int)
  (h :
    (∀ k : Nat, (∀ W2 : World, (k = Array.size (World.heap W) →
    (W2 = World.alloc W (Obj.cells #[Value.int IntKind.u8 0, Value.int IntKind.u8 0, Value.int IntKind.u8 0, Value.int IntKind.u8 0, Value.int IntKind.u8 0, Value.int IntKind.u8 0, Value.int IntKind.u8 0, Value.int IntKind.u8 0, Value.int IntKind.u8 0, Value.int IntKind.u8 0, Value.int IntKind.u8 0, Value.int IntKind.u8 0, Value.int IntKind.u8 0, Value.int IntKind.u8 0, Value.int IntKind.u8 0, Value.int IntKind.u8 0] 45) →
    (∀ k2 : Nat, (∀ W3 : World, (k2 = Array.size (World.heap W2) →
    (W3 = World.alloc W2 (Obj.cells #[Value.int IntKind.u8 0, Value.int IntKind.u8 0, Value.int IntKind.u8 0, Value.int IntKind.u8 0, Value.int IntKind.u8 0, Value.int IntKind.u8 0, Value.int IntKind.u8 0, Value.int IntKind.u8 0, Value.int IntKind.u8 0, Value.int IntKind.u8 0, Value.int IntKind.u8 0, Value.int IntKind.u8 0, Value.int IntKind.u8 0, Value.int IntKind.u8 0, Value.int IntKind.u8 0, Value.int IntKind.u8 0] 45) →
    (∃ I : Int → World → Prop, (∃ I2 : Int → World → Nat, (I 0 W3 ∧
    ((Nat →
    Value) →
    (∀ k3 : Int, (∀ W4 : World, (I k3 W4 →
    Sx.split (decide (k3 < 16))
     (((8 : Int) ≠ (0 : Int) ∧
      (∀ z : Int, (z = Int.tmod k3 8 →
      ((0 : Int) ≤ z ∧
      (∀ z2 : Int, (z2 = Int.fdiv n (2 ^ min (Int.toNat z) (IntKind.bits IntKind.i64)) →
      (∀ z3 : Int, (z3 = IntKind.wrap IntKind.i64 (17 * k3) →
      (∀ z4 : Int, (z4 = IntKind.wrap IntKind.i64 (z2 + z3) →
      (∀ z5 : Int, (z5 = IntKind.wrap IntKind.u8 z4 →
      (((0 : Int) ≤ k3 ∧
       k3 < (↑16 : Int)) ∧
      ((∃ v : Value, World.cell? W4 (Addr.mk k2 (0 + Int.toNat k3 * 1) none) = some v) ∧
      (World.frozen? W4 (Addr.mk k2 (0 + Int.toNat k3 * 1) none) = false ∧
      (∀ W5 : World, (W5 = World.setCell W4 (Addr.mk k2 (0 + Int.toNat k3 * 1) none) (Value.int IntKind.u8 z5) →
      (∀ z6 : Int, (z6 = IntKind.wrap IntKind.i64 (k3 + 1) →
      (I z6 W5 ∧
      I2 z6 W5 < I2 k3 W4)))))))))))))))))))))
     ((∃ vs : Array Value, (Array.size vs = 16 ∧
      (Sx.cellsAt W4 (Addr.mk k2 0 none) vs ∧
      (Array.size vs = 16 ∧
      ((∀ k4 : Nat, (k4 < 16 →
       ((∃ v2 : Value, World.cell? W4 (Addr.mk k (0 + k4) none) = some v2) ∧
       World.frozen? W4 (Addr.mk k (0 + k4) none) = false))) ∧
      ((∀ v3 : Value, (v3 ∈ Array.toList vs →
       Value.oneCell' v3 = true)) ∧
      (∀ W6 : World, (W6 = World.setCells W4 k 0 (Array.toList vs) →
      (∃ vs2 : Array Value, (Array.size vs2 = 16 ∧
      (Sx.cellsAt W6 (Addr.mk k 0 none) vs2 ∧
      Q (Ending.returned (Value.agg vs2)) W6)))))))))))))))))))))))))))) :
  Calls Tryd.prog 14 #[Value.int .i64 n] W Q :=
  Sx.sound Tryd.func14 (.node [] [] 0 .leaf (.node [] [] 0 .leaf (.node [] [] 0 (.node [] [] 0 .leaf (.node [] [] 0 (.node [(4, .int .i64)] [0, 3, 2] 0 .leaf .leaf) .leaf)) .leaf))) [Value.int .i64 n] rfl (Eq.mp (by kernel_rfl) h)
theorem vc16 {W : World} {Q : Ending → World → Prop} (l : Array Value) (r : Array Value)
  (h :
    (∀ k : Nat, (∀ W2 : World, (k = Array.size (World.heap W) →
    (W2 = World.alloc W (Obj.cells (Value.cells (Value.agg l)) 47) →
    (∀ k2 : Nat, (∀ W3 : World, (k2 = Array.size (World.heap W2) →
    (W3 = World.alloc W2 (Obj.cells (Value.cells (Value.agg r)) 52) →
    (∃ z : Int, (World.cell? W3 (Addr.mk k 0 none) = some (Value.int IntKind.u32 z) ∧
    (∀ z2 : Int, (z2 = IntKind.wrap IntKind.i64 z →
    (∃ z3 : Int, (World.cell? W3 (Addr.mk k2 0 none) = some (Value.int IntKind.i64 z3) ∧
    Sx.split (z2 == z3)
     ((∃ z4 : Int, (World.cell? W3 (Addr.mk k (0 + 1) none) = some (Value.int IntKind.i64 z4) ∧
      (∃ z5 : Int, (World.cell? W3 (Addr.mk k2 (0 + 1) none) = some (Value.int IntKind.i64 z5) ∧
      Sx.split (z4 == z5)
       ((∃ vs : Array Value, (Array.size vs = 16 ∧
        (Sx.cellsAt W3 (Addr.mk k (0 + 2) none) vs ∧
        (∃ vs2 : Array Value, (Array.size vs2 = 16 ∧
        (Sx.cellsAt W3 (Addr.mk k2 (0 + 2) none) vs2 ∧
        (∃ t : Bool, ((∀ W4 : World, Sem.run Tryd.prog
    (do
      eqGuard BinOp.eql 45 (Operand.tmp 20) (Operand.tmp 22) (Value.agg vs) (Value.agg vs2)
      binOp BinOp.eql 45 (Value.agg vs) (Value.agg vs2))
    W4 =
  Result.ok (Value.bool t) W4) ∧
        Q (Ending.returned (Value.bool t)) W3)))))))))
       (Q (Ending.returned (Value.bool false)) W3))))))
     (Q (Ending.returned (Value.bool false)) W3)))))))))))))))) :
  Calls Tryd.prog 16 #[Value.agg l, Value.agg r] W Q :=
  Sx.sound Tryd.func16 .leaf [Value.agg l, Value.agg r] rfl (Eq.mp (by kernel_rfl) h)
end Go.Proofs.YthjabcklmhaeoaaDoor
