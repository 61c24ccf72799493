/- What each function asks, reckoned out of its text; printed by a program of mine (wip/tpl/VcTool.lean). No condition. -/
import Derived.Test.YtdliholhfiihcaaDoorSxB
import Derived.Test.YtdliholhfiihcaaDoorChecked
namespace Go.Proofs.YtdliholhfiihcaaDoor
open Go Go.Proofs
set_option linter.unusedVariables false
set_option maxRecDepth 100000
theorem vc6 {W : World} {Q : Ending → World → Prop} (size : Int) (registers : Int)
  (hVC :
    Sx.split (decide (size < 2))
     (Q (Ending.returned (Value.tuple #[Value.pointer none, Value.iface 35 (Value.int IntKind.i64 2)])) W)
     (Sx.split (decide (size > 64))
       (Q (Ending.returned (Value.tuple #[Value.pointer none, Value.iface 35 (Value.int IntKind.i64 2)])) W)
       (Sx.split (decide (registers < 34))
         (Q (Ending.returned (Value.tuple #[Value.pointer none, Value.iface 35 (Value.int IntKind.i64 2)])) W)
         (Sx.split (decide (registers > 128))
           (Q (Ending.returned (Value.tuple #[Value.pointer none, Value.iface 35 (Value.int IntKind.i64 2)])) W)
           ((∀ W2 : World, (W2 = World.drew W →
            ((((0 : Int) ≤ size ∧
              (size ≤ size ∧
              (size ≤ 9223372036854775807 ∧
              (↑48 : Int) * size ≤ 281474976710656))) ∧
             (∀ k : Nat, (∀ W3 : World, (k = Array.size (World.heap W2) →
             (W3 = World.alloc W2 (Obj.cells (madeCells #[Value.int IntKind.i64 0, Value.int IntKind.i64 0, Value.int IntKind.i64 0, Value.int IntKind.i64 0, Value.int IntKind.u8 0, Value.int IntKind.i64 0] (Int.toNat size * 6)) 76) →
             (RowKit.Below (Array.size (World.heap W2)) W2 W3 ∧
             (∀ k2 : Nat, (∀ W4 : World, (k2 = Array.size (World.heap W3) →
             (W4 = World.alloc W3 (Obj.cells #[Value.bool true] 4) →
             (RowKit.Below (Array.size (World.heap W2)) W2 W4 ∧
             Calls Tryd.prog 28 #[Value.slice (some (Addr.mk k2 0 none)) 1 1, Value.int IntKind.i64 registers] W4 (fun e =>
              (fun W5 =>
              (∃ p : Option Addr, (∃ k3 : Nat, (∃ k4 : Nat, (e = Ending.returned (Value.slice p k3 k4) ∧
              (∀ vs : Array Value, (vs = #[Value.slice (some (Addr.mk k 0 none)) (Int.toNat size) (Int.toNat size), Value.int IntKind.i64 0, Value.int IntKind.i64 0, Value.int IntKind.i64 0, Value.slice p k3 k4] →
              (∀ k5 : Nat, (∀ W6 : World, (k5 = Array.size (World.heap W5) →
              (W6 = World.alloc W5 (Obj.cells (Value.cells (Value.agg vs)) 72) →
              Q (Ending.returned (Value.tuple #[Value.pointer (some (Addr.mk k5 0 none)), Value.nilIface])) W6))))))))))))))))))))))) ∧
            (∀ k6 : Nat, (∀ W7 : World, (k6 = Array.size (World.heap W2) →
            (W7 = World.alloc W2 (Obj.cells #[Value.bool true] 4) →
            (RowKit.Below (Array.size (World.heap W2)) W2 W7 ∧
            ((((0 : Int) ≤ size ∧
              (size ≤ size ∧
              (size ≤ 9223372036854775807 ∧
              (↑48 : Int) * size ≤ 281474976710656))) ∧
             (∀ k7 : Nat, (∀ W8 : World, (k7 = Array.size (World.heap W7) →
             (W8 = World.alloc W7 (Obj.cells (madeCells #[Value.int IntKind.i64 0, Value.int IntKind.i64 0, Value.int IntKind.i64 0, Value.int IntKind.i64 0, Value.int IntKind.u8 0, Value.int IntKind.i64 0] (Int.toNat size * 6)) 76) →
             (RowKit.Below (Array.size (World.heap W2)) W2 W8 ∧
             Calls Tryd.prog 28 #[Value.slice (some (Addr.mk k6 0 none)) 1 1, Value.int IntKind.i64 registers] W8 (fun e2 =>
              (fun W9 =>
              (∃ p2 : Option Addr, (∃ k8 : Nat, (∃ k9 : Nat, (e2 = Ending.returned (Value.slice p2 k8 k9) ∧
              (∀ vs2 : Array Value, (vs2 = #[Value.slice (some (Addr.mk k7 0 none)) (Int.toNat size) (Int.toNat size), Value.int IntKind.i64 0, Value.int IntKind.i64 0, Value.int IntKind.i64 0, Value.slice p2 k8 k9] →
              (∀ k10 : Nat, (∀ W10 : World, (k10 = Array.size (World.heap W9) →
              (W10 = World.alloc W9 (Obj.cells (Value.cells (Value.agg vs2)) 72) →
              Q (Ending.returned (Value.tuple #[Value.pointer (some (Addr.mk k10 0 none)), Value.nilIface])) W10)))))))))))))))))) ∧
            Calls Tryd.prog 28 #[Value.slice (some (Addr.mk k6 0 none)) 1 1, Value.int IntKind.i64 registers] W7 (fun e3 =>
             (fun W11 =>
             (∃ p3 : Option Addr, (∃ k11 : Nat, (∃ k12 : Nat, (e3 = Ending.returned (Value.slice p3 k11 k12) ∧
             (((0 : Int) ≤ size ∧
              (size ≤ size ∧
              (size ≤ 9223372036854775807 ∧
              (↑48 : Int) * size ≤ 281474976710656))) ∧
             (∀ k13 : Nat, (∀ W12 : World, (k13 = Array.size (World.heap W11) →
             (W12 = World.alloc W11 (Obj.cells (madeCells #[Value.int IntKind.i64 0, Value.int IntKind.i64 0, Value.int IntKind.i64 0, Value.int IntKind.i64 0, Value.int IntKind.u8 0, Value.int IntKind.i64 0] (Int.toNat size * 6)) 76) →
             (∀ vs3 : Array Value, (vs3 = #[Value.slice (some (Addr.mk k13 0 none)) (Int.toNat size) (Int.toNat size), Value.int IntKind.i64 0, Value.int IntKind.i64 0, Value.int IntKind.i64 0, Value.slice p3 k11 k12] →
             (∀ k14 : Nat, (∀ W13 : World, (k14 = Array.size (World.heap W12) →
             (W13 = World.alloc W12 (Obj.cells (Value.cells (Value.agg vs3)) 72) →
             Q (Ending.returned (Value.tuple #[Value.pointer (some (Addr.mk k14 0 none)), Value.nilIface])) W13))))))))))))))))))))))))))))))) :
  Calls Tryd.prog 6 #[Value.int .i64 size, Value.int .i64 registers] W Q :=
  Sx.sound Tryd.func6 (.node [] [] 0 .leaf (.node [] [] 0 .leaf (.node [] [] 0 (.node [] [] 1005 .leaf .leaf) .leaf))) [Value.int .i64 size, Value.int .i64 registers] rfl (Eq.mp (by kernel_rfl) hVC)
theorem vc7 {W : World} {Q : Ending → World → Prop} (a0 : Nat) (a0o : Nat) (a1 : Array Value)
  (hVC :
    (∀ k : Nat, (∀ W2 : World, (k = Array.size (World.heap W) →
    (W2 = World.alloc W (Obj.cells (Value.cells (Value.agg a1)) 32) →
    (∃ z : Int, (World.cell? W2 (Addr.mk k 0 none) = some (Value.int IntKind.i64 z) ∧
    Sx.split (decide (z < 0))
     (Q (Ending.returned (Value.tuple #[Value.int IntKind.i64 0, Value.iface 35 (Value.int IntKind.i64 3)])) W2)
     ((∃ z2 : Int, (World.cell? W2 (Addr.mk k 0 none) = some (Value.int IntKind.i64 z2) ∧
      Sx.split (decide (z2 > 7))
       (Q (Ending.returned (Value.tuple #[Value.int IntKind.i64 0, Value.iface 35 (Value.int IntKind.i64 3)])) W2)
       ((∃ z3 : Int, (World.cell? W2 (Addr.mk k (0 + 1) none) = some (Value.int IntKind.i64 z3) ∧
        (∃ z4 : Int, (World.cell? W2 (Addr.mk k (0 + 2) none) = some (Value.int IntKind.i64 z4) ∧
        (∃ z5 : Int, (World.cell? W2 (Addr.mk k (0 + 3) none) = some (Value.int IntKind.i64 z5) ∧
        (∀ k2 : Nat, (∀ W3 : World, (k2 = Array.size (World.heap W2) →
        (W3 = World.alloc W2 (Obj.cells #[Value.int IntKind.i64 z3, Value.int IntKind.i64 z4, Value.int IntKind.i64 z5] 3) →
        Calls Tryd.prog 29 #[Value.pointer (some (Addr.mk a0 a0o none)), Value.slice (some (Addr.mk k2 0 none)) 3 3] W3 (fun e =>
         (fun W4 =>
         (∃ t : Bool, (e = Ending.returned (Value.bool t) ∧
         Sx.split (!t)
          (Q (Ending.returned (Value.tuple #[Value.int IntKind.i64 0, Value.iface 35 (Value.int IntKind.i64 3)])) W4)
          ((∃ z6 : Int, (World.cell? W4 (Addr.mk a0 (a0o + 2) none) = some (Value.int IntKind.i64 z6) ∧
           (∃ p : Option Addr, (∃ k3 : Nat, (∃ k4 : Nat, (World.cell? W4 (Addr.mk a0 a0o none) = some (Value.slice p k3 k4) ∧
           (∀ W5 : World, (∀ k5 : Nat, (W5 = World.drewN W4 k5 →
           Sx.split (z6 == (↑k3 : Int))
            (Q (Ending.returned (Value.tuple #[Value.int IntKind.i64 0, Value.iface 35 (Value.int IntKind.i64 4)])) W5)
            ((∀ W6 : World, (W6 = World.drew W5 →
             (∃ z7 : Int, (World.cell? W6 (Addr.mk a0 (a0o + 2) none) = some (Value.int IntKind.i64 z7) ∧
             (∃ vs : Array Value, (Array.size vs = 4 ∧
             (Sx.cellsAt W6 (Addr.mk k 0 none) vs ∧
             (∃ z8 : Int, (World.cell? W6 (Addr.mk a0 (a0o + 3) none) = some (Value.int IntKind.i64 z8) ∧
             (Array.size vs = 4 ∧
             (∀ vs2 : Array Value, (vs2 = List.toArray (Array.toList vs ++ [Value.int IntKind.u8 0, Value.int IntKind.i64 z8]) →
             Calls Tryd.prog 30 #[Value.pointer (some (Addr.mk a0 a0o none)), Value.int IntKind.i64 z7] W6 (fun e2 =>
              (fun W7 =>
              (∃ p2 : Option Addr, (e2 = Ending.returned (Value.pointer p2) ∧
              (RowKit.Below (Array.size (World.heap W6)) W6 W7 ∧
              Sx.ptr p2 (fun a =>
               Sx.adr (some a) (fun k6 =>
                (fun k7 =>
                (Array.size vs2 = 6 ∧
                ((∀ k8 : Nat, (k8 < 6 →
                 ((∃ v : Value, World.cell? W7 (Addr.mk k6 (k7 + k8) none) = some v) ∧
                 World.frozen? W7 (Addr.mk k6 (k7 + k8) none) = false))) ∧
                ((∀ v2 : Value, (v2 ∈ Array.toList vs2 →
                 Value.oneCell' v2 = true)) ∧
                (∀ W8 : World, (W8 = World.setCells W7 k6 k7 (Array.toList vs2) →
                (∃ z9 : Int, (World.cell? W8 (Addr.mk a0 (a0o + 2) none) = some (Value.int IntKind.i64 z9) ∧
                (∀ z10 : Int, (z10 = IntKind.wrap IntKind.i64 (z9 + 1) →
                ((∃ v3 : Value, World.cell? W8 (Addr.mk a0 (a0o + 2) none) = some v3) ∧
                (World.frozen? W8 (Addr.mk a0 (a0o + 2) none) = false ∧
                (∀ W9 : World, (W9 = World.setCell W8 (Addr.mk a0 (a0o + 2) none) (Value.int IntKind.i64 z10) →
                (∃ z11 : Int, (World.cell? W9 (Addr.mk a0 (a0o + 3) none) = some (Value.int IntKind.i64 z11) ∧
                (∀ z12 : Int, (z12 = IntKind.wrap IntKind.i64 (z11 + 1) →
                ((∃ v4 : Value, World.cell? W9 (Addr.mk a0 (a0o + 3) none) = some v4) ∧
                (World.frozen? W9 (Addr.mk a0 (a0o + 3) none) = false ∧
                (∀ W10 : World, (W10 = World.setCell W9 (Addr.mk a0 (a0o + 3) none) (Value.int IntKind.i64 z12) →
                (∃ z13 : Int, (World.cell? W10 (Addr.mk k (0 + 3) none) = some (Value.int IntKind.i64 z13) ∧
                Sx.split (decide (z13 ≥ 0))
                 ((∀ W11 : World, (W11 = World.drew W10 →
                  (∃ p3 : Option Addr, (∃ k9 : Nat, (∃ k10 : Nat, (World.cell? W11 (Addr.mk a0 (a0o + 4) none) = some (Value.slice p3 k9 k10) ∧
                  (∃ z14 : Int, (World.cell? W11 (Addr.mk k (0 + 3) none) = some (Value.int IntKind.i64 z14) ∧
                  (((0 : Int) ≤ z14 ∧
                   z14 < (↑k9 : Int)) ∧
                  Sx.adr p3 (fun k11 =>
                   (fun k12 =>
                   ((∃ v5 : Value, World.cell? W11 (Addr.mk k11 (k12 + Int.toNat z14 * 1) none) = some v5) ∧
                   (World.frozen? W11 (Addr.mk k11 (k12 + Int.toNat z14 * 1) none) = false ∧
                   (∀ W12 : World, (W12 = World.setCell W11 (Addr.mk k11 (k12 + Int.toNat z14 * 1) none) (Value.bool false) →
                   (∃ z15 : Int, (World.cell? W12 (Addr.mk a0 (a0o + 3) none) = some (Value.int IntKind.i64 z15) ∧
                   (∀ z16 : Int, (z16 = IntKind.wrap IntKind.i64 (z15 - 1) →
                   Q (Ending.returned (Value.tuple #[Value.int IntKind.i64 z16, Value.nilIface])) W12))))))))))))))))))))
                 ((∃ z17 : Int, (World.cell? W10 (Addr.mk a0 (a0o + 3) none) = some (Value.int IntKind.i64 z17) ∧
                  (∀ z18 : Int, (z18 = IntKind.wrap IntKind.i64 (z17 - 1) →
                  Q (Ending.returned (Value.tuple #[Value.int IntKind.i64 z18, Value.nilIface])) W10)))))))))))))))))))))))))))))))))))))))))))))))))))))))))))))))))))))))))))))))))))) :
  Calls Tryd.prog 7 #[Value.pointer (some ⟨a0, a0o, none⟩), Value.agg a1] W Q :=
  Sx.sound Tryd.func7 (.node [] [] 0 .leaf (.node [] [] 0 .leaf (.node [] [] 0 .leaf (.node [] [] 0 (.node [] [] 1014 .leaf .leaf) (.node [] [] 0 .leaf (.node [] [] 0 .leaf (.node [] [] 0 (.node [] [] 0 .leaf (.node [] [] 0 (.node [] [] 8 .leaf .leaf) .leaf)) .leaf))))))) [Value.pointer (some ⟨a0, a0o, none⟩), Value.agg a1] rfl (Eq.mp (by kernel_rfl) hVC)
theorem vc10 {W : World} {Q : Ending → World → Prop} (w : Nat) (wo : Nat) (seq : Int)
  (hVC :
    Calls Tryd.prog 34 #[Value.pointer (some (Addr.mk w wo none)), Value.int IntKind.i64 seq, Value.int IntKind.u8 0, Value.int IntKind.u8 1] W (fun e =>
     (fun W2 =>
     (∃ v : Value, (e = Ending.returned v ∧
     Q (Ending.returned v) W2))))) :
  Calls Tryd.prog 10 #[Value.pointer (some ⟨w, wo, none⟩), Value.int .i64 seq] W Q :=
  Sx.sound Tryd.func10 .leaf [Value.pointer (some ⟨w, wo, none⟩), Value.int .i64 seq] rfl (Eq.mp (by kernel_rfl) hVC)
theorem vc11 {W : World} {Q : Ending → World → Prop} (w : Nat) (wo : Nat) (seq : Int)
  (hVC :
    Calls Tryd.prog 34 #[Value.pointer (some (Addr.mk w wo none)), Value.int IntKind.i64 seq, Value.int IntKind.u8 1, Value.int IntKind.u8 2] W (fun e =>
     (fun W2 =>
     (∃ v : Value, (e = Ending.returned v ∧
     Q (Ending.returned v) W2))))) :
  Calls Tryd.prog 11 #[Value.pointer (some ⟨w, wo, none⟩), Value.int .i64 seq] W Q :=
  Sx.sound Tryd.func11 .leaf [Value.pointer (some ⟨w, wo, none⟩), Value.int .i64 seq] rfl (Eq.mp (by kernel_rfl) hVC)
theorem vc12 {W : World} {Q : Ending → World → Prop} (w : Nat) (wo : Nat) (p : Int)
  (hVC :
    Sx.split (decide (p < 0))
     (Q (Ending.returned (Value.iface 35 (Value.int IntKind.i64 3))) W)
     ((∀ k : Nat, (∀ W2 : World, (k = Array.size (World.heap W) →
      (W2 = World.alloc W (Obj.cells #[Value.int IntKind.i64 p] 3) →
      Calls Tryd.prog 29 #[Value.pointer (some (Addr.mk w wo none)), Value.slice (some (Addr.mk k 0 none)) 1 1] W2 (fun e =>
       (fun W3 =>
       (∃ t : Bool, (e = Ending.returned (Value.bool t) ∧
       Sx.split (!t)
        (Q (Ending.returned (Value.iface 35 (Value.int IntKind.i64 3))) W3)
        ((∃ p2 : Option Addr, (∃ k2 : Nat, (∃ k3 : Nat, (World.cell? W3 (Addr.mk w (wo + 4) none) = some (Value.slice p2 k2 k3) ∧
         (((0 : Int) ≤ p ∧
          p < (↑k2 : Int)) ∧
         Sx.adr p2 (fun k4 =>
          (fun k5 =>
          ((∃ v : Value, World.cell? W3 (Addr.mk k4 (k5 + Int.toNat p * 1) none) = some v) ∧
          (World.frozen? W3 (Addr.mk k4 (k5 + Int.toNat p * 1) none) = false ∧
          (∀ W4 : World, (W4 = World.setCell W3 (Addr.mk k4 (k5 + Int.toNat p * 1) none) (Value.bool true) →
          Q (Ending.returned Value.nilIface) W4)))))))))))))))))))))) :
  Calls Tryd.prog 12 #[Value.pointer (some ⟨w, wo, none⟩), Value.int .i64 p] W Q :=
  Sx.sound Tryd.func12 .leaf [Value.pointer (some ⟨w, wo, none⟩), Value.int .i64 p] rfl (Eq.mp (by kernel_rfl) hVC)
theorem vc13 {W : World} {Q : Ending → World → Prop} (w : Nat) (wo : Nat)
  (hVC :
    Calls Tryd.prog 27 #[Value.pointer (some (Addr.mk w wo none))] W (fun e =>
     (fun W2 =>
     (∃ z : Int, (∃ t : Bool, (∃ t2 : Bool, (e = Ending.returned (Value.tuple #[Value.int IntKind.i64 z, Value.bool t, Value.bool t2]) ∧
     Sx.split (!t2)
      (Q (Ending.returned (Value.tuple #[Value.int IntKind.i64 0, Value.iface 35 (Value.int IntKind.i64 7)])) W2)
      (Sx.split (!t)
        (Q (Ending.returned (Value.tuple #[Value.int IntKind.i64 0, Value.iface 35 (Value.int IntKind.i64 7)])) W2)
        ((∀ W3 : World, (W3 = World.drew W2 →
         (∃ z2 : Int, (World.cell? W3 (Addr.mk w (wo + 1) none) = some (Value.int IntKind.i64 z2) ∧
         (∀ z3 : Int, (z3 = IntKind.wrap IntKind.i64 (z2 + 1) →
         (∃ p : Option Addr, (∃ k : Nat, (∃ k2 : Nat, (World.cell? W3 (Addr.mk w wo none) = some (Value.slice p k k2) ∧
         ((↑k : Int) ≠ 0 ∧
         (∀ z4 : Int, (z4 = Int.tmod z3 (↑k : Int) →
         ((∃ v : Value, World.cell? W3 (Addr.mk w (wo + 1) none) = some v) ∧
         (World.frozen? W3 (Addr.mk w (wo + 1) none) = false ∧
         (∀ W4 : World, (W4 = World.setCell W3 (Addr.mk w (wo + 1) none) (Value.int IntKind.i64 z4) →
         (∃ z5 : Int, (World.cell? W4 (Addr.mk w (wo + 2) none) = some (Value.int IntKind.i64 z5) ∧
         (∀ z6 : Int, (z6 = IntKind.wrap IntKind.i64 (z5 - 1) →
         ((∃ v2 : Value, World.cell? W4 (Addr.mk w (wo + 2) none) = some v2) ∧
         (World.frozen? W4 (Addr.mk w (wo + 2) none) = false ∧
         (∀ W5 : World, (W5 = World.setCell W4 (Addr.mk w (wo + 2) none) (Value.int IntKind.i64 z6) →
         Q (Ending.returned (Value.tuple #[Value.int IntKind.i64 z, Value.nilIface])) W5)))))))))))))))))))))))))))))))))) :
  Calls Tryd.prog 13 #[Value.pointer (some ⟨w, wo, none⟩)] W Q :=
  Sx.sound Tryd.func13 (.node [] [] 0 .leaf (.node [] [] 0 .leaf (.node [] [] 0 .leaf (.node [] [] 0 (.node [] [] 15 .leaf .leaf) .leaf)))) [Value.pointer (some ⟨w, wo, none⟩)] rfl (Eq.mp (by kernel_rfl) hVC)
theorem vc14 {W : World} {Q : Ending → World → Prop} (w : Nat) (wo : Nat)
  (hVC :
    (∃ z : Int, (World.cell? W (Addr.mk w (wo + 2) none) = some (Value.int IntKind.i64 z) ∧
    Q (Ending.returned (Value.int IntKind.i64 z)) W))) :
  Calls Tryd.prog 14 #[Value.pointer (some ⟨w, wo, none⟩)] W Q :=
  Sx.sound Tryd.func14 .leaf [Value.pointer (some ⟨w, wo, none⟩)] rfl (Eq.mp (by kernel_rfl) hVC)
theorem vc23 {W : World} {Q : Ending → World → Prop} (w : Nat) (wo : Nat) (seq : Int)
  (hVC :
    Calls Tryd.prog 34 #[Value.pointer (some (Addr.mk w wo none)), Value.int IntKind.i64 seq, Value.int IntKind.u8 1, Value.int IntKind.u8 0] W (fun e =>
     (fun W2 =>
     (∃ v : Value, (e = Ending.returned v ∧
     Q (Ending.returned v) W2))))) :
  Calls Tryd.prog 23 #[Value.pointer (some ⟨w, wo, none⟩), Value.int .i64 seq] W Q :=
  Sx.sound Tryd.func23 .leaf [Value.pointer (some ⟨w, wo, none⟩), Value.int .i64 seq] rfl (Eq.mp (by kernel_rfl) hVC)
theorem vc25 {W : World} {Q : Ending → World → Prop} (w : Nat) (wo : Nat) (after : Int)
  (hVC :
    (∃ I : Option Addr → Nat → Nat → World → Prop, (∃ I2 : Option Addr → Nat → Nat → World → Nat, (I none 0 0 W ∧
    ((Nat →
    Value) →
    (∀ out : Option Addr, (∀ k : Nat, (∀ k2 : Nat, (∀ W2 : World, (I out k k2 W2 →
    (∃ z : Int, (World.cell? W2 (Addr.mk w (wo + 2) none) = some (Value.int IntKind.i64 z) ∧
    Sx.split (decide (z > 0))
     ((∃ z2 : Int, (World.cell? W2 (Addr.mk w (wo + 2) none) = some (Value.int IntKind.i64 z2) ∧
      (∀ z3 : Int, (z3 = IntKind.wrap IntKind.i64 (z2 - 1) →
      Calls Tryd.prog 30 #[Value.pointer (some (Addr.mk w wo none)), Value.int IntKind.i64 z3] W2 (fun e =>
       (fun W3 =>
       (∃ p : Option Addr, (e = Ending.returned (Value.pointer p) ∧
       Sx.ptr p (fun a =>
        (∃ z4 : Int, (World.cell? W3 (Addr.add a 5) = some (Value.int IntKind.i64 z4) ∧
        Sx.split (decide (z4 > after))
         ((∃ z5 : Int, (World.cell? W3 (Addr.mk w (wo + 2) none) = some (Value.int IntKind.i64 z5) ∧
          (∀ z6 : Int, (z6 = IntKind.wrap IntKind.i64 (z5 - 1) →
          ((∃ v : Value, World.cell? W3 (Addr.mk w (wo + 2) none) = some v) ∧
          (World.frozen? W3 (Addr.mk w (wo + 2) none) = false ∧
          (∀ W4 : World, (W4 = World.setCell W3 (Addr.mk w (wo + 2) none) (Value.int IntKind.i64 z6) →
          (∃ z7 : Int, (World.cell? W4 (Addr.mk w (wo + 2) none) = some (Value.int IntKind.i64 z7) ∧
          Calls Tryd.prog 30 #[Value.pointer (some (Addr.mk w wo none)), Value.int IntKind.i64 z7] W4 (fun e2 =>
           (fun W5 =>
           (∃ p2 : Option Addr, (e2 = Ending.returned (Value.pointer p2) ∧
           Sx.ptr p2 (fun a2 =>
            (∃ z8 : Int, (World.cell? W5 (Addr.add a2 5) = some (Value.int IntKind.i64 z8) ∧
            (∀ k3 : Nat, (∀ W6 : World, (k3 = Array.size (World.heap W5) →
            (W6 = World.alloc W5 (Obj.cells #[Value.int IntKind.i64 z8] 3) →
            (∃ l : List Value, (∃ l2 : List Value, (XHeap.Sl W6 3 1 (Value.slice out k k2) k l ∧
            (((((1 : Nat) = (0 : Nat) ∧
              some (Addr.mk k3 0 none) = none)) ∨
             ((∃ a3 : Addr, (some (Addr.mk k3 0 none) = some a3 ∧
             (∀ k4 : Nat, (∀ v2 : Value, (l2[k4]? = some v2 →
             World.cell? W6 (Addr.add a3 k4) = some v2))))))) ∧
            (List.length l2 = 1 ∧
            ((∀ v3 : Value, (v3 ∈ l2 →
             Value.oneCell' v3 = true)) ∧
            (k + 1 ≤ maxLen ∧
            ((k + 1) * 8 ≤ 140737488355328 ∧
            (∀ p3 : Option Addr, (∀ k5 : Nat, (∀ W7 : World, (XHeap.Sl W7 3 1 (Value.slice p3 (k + 1) k5) (k + 1) (l ++ l2) →
            (XHeap.XTouch (fun b => Value.ownBlock (Value.slice out k k2) = some b) W6 W7 →
            ((∀ k6 : Nat, (Value.ownBlock (Value.slice p3 (k + 1) k5) = some k6 →
            ((Value.ownBlock (Value.slice out k k2) = some k6) ∨
            (Array.size (World.heap W6) ≤ k6)))) →
            (XHeap.Sl W7 3 1 (Value.slice out k k2) k l →
            (((p3 = out) ∨
            ((∀ k7 : Nat, (Value.ownBlock (Value.slice p3 (k + 1) k5) = some k7 →
            Array.size (World.heap W6) ≤ k7)))) →
            (I p3 (k + 1) k5 W7 ∧
            I2 p3 (k + 1) k5 W7 < I2 out k k2 W2)))))))))))))))))))))))))))))))))))))))
         (Q (Ending.returned (Value.slice out k k2)) W3)))))))))))))
     (Q (Ending.returned (Value.slice out k k2)) W2))))))))))))) :
  Calls Tryd.prog 25 #[Value.pointer (some ⟨w, wo, none⟩), Value.int .i64 after] W Q :=
  Sx.sound Tryd.func25 (.node [] [] 0 .leaf (.node [] [] 0 (.node [] [] 0 (.node [(4, .slice)] [0, 1] 0 .leaf .leaf) .leaf) .leaf)) [Value.pointer (some ⟨w, wo, none⟩), Value.int .i64 after] rfl (Eq.mp (by kernel_rfl) hVC)
theorem vc27 {W : World} {Q : Ending → World → Prop} (w : Nat) (wo : Nat)
  (hVC :
    (∃ z : Int, (World.cell? W (Addr.mk w (wo + 2) none) = some (Value.int IntKind.i64 z) ∧
    Sx.split (z == 0)
     (Q (Ending.returned (Value.tuple #[Value.int IntKind.i64 0, Value.bool false, Value.bool false])) W)
     (Calls Tryd.prog 30 #[Value.pointer (some (Addr.mk w wo none)), Value.int IntKind.i64 0] W (fun e =>
       (fun W2 =>
       (∃ p : Option Addr, (e = Ending.returned (Value.pointer p) ∧
       Sx.ptr p (fun a =>
        (∃ z2 : Int, (World.cell? W2 (Addr.add a 5) = some (Value.int IntKind.i64 z2) ∧
        Sx.ptr p (fun a2 =>
         (∃ z3 : Int, (World.cell? W2 (Addr.add a2 4) = some (Value.int IntKind.u8 z3) ∧
         (∀ W3 : World, (∀ k : Nat, (W3 = World.drewN W2 k →
         Q (Ending.returned (Value.tuple #[Value.int IntKind.i64 z2, Value.bool (z3 == 2), Value.bool true])) W3))))))))))))))))) :
  Calls Tryd.prog 27 #[Value.pointer (some ⟨w, wo, none⟩)] W Q :=
  Sx.sound Tryd.func27 .leaf [Value.pointer (some ⟨w, wo, none⟩)] rfl (Eq.mp (by kernel_rfl) hVC)
theorem vc28 {W : World} {Q : Ending → World → Prop} (x : Option Addr) (xn : Nat) (xc : Nat) (count : Int)
  (hVC :
    Sx.split (decide (count < 0))
     (False)
     ((∀ z : Int, (z = IntKind.wrap IntKind.u64 (↑xn : Int) →
      (∀ z2 : Int, (z2 = IntKind.wrap IntKind.u64 count →
      Calls Tryd.prog 38 #[Value.int IntKind.u64 z, Value.int IntKind.u64 z2] W (fun e =>
       (fun W2 =>
       (∃ z3 : Int, (∃ z4 : Int, (e = Ending.returned (Value.tuple #[Value.int IntKind.u64 z3, Value.int IntKind.u64 z4]) ∧
       Sx.split (decide (z3 > 0))
        (False)
        (Sx.split (decide (z4 > 9223372036854775807))
          (False)
          ((∀ z5 : Int, (z5 = IntKind.wrap IntKind.i64 z4 →
           (((0 : Int) ≤ z5 ∧
            (z5 ≤ z5 ∧
            (z5 ≤ 9223372036854775807 ∧
            (↑1 : Int) * z5 ≤ 281474976710656))) ∧
           (∀ k : Nat, (∀ W3 : World, (k = Array.size (World.heap W2) →
           (W3 = World.alloc W2 (Obj.cells (madeCells #[Value.bool false] (Int.toNat z5 * 1)) 4) →
           (∃ l : List Value, (List.length l = Nat.min xn (Int.toNat z5) * 1 ∧
           ((∀ v : Value, (v ∈ l →
            Value.oneCell' v = true)) ∧
           (((l = []) ∨
            (((∃ a : Addr, (x = some a ∧
             (∀ k2 : Nat, (∀ v2 : Value, (l[k2]? = some v2 →
             World.cell? W3 (Addr.add a k2) = some v2))))) ∧
            (∃ k3 : Nat, (∃ k4 : Nat, (some (Addr.mk k 0 none) = some (Addr.mk k3 k4 none) ∧
            (∀ k5 : Nat, (k5 < List.length l →
            ((∃ v3 : Value, World.cell? W3 (Addr.mk k3 (k4 + k5) none) = some v3) ∧
            World.frozen? W3 (Addr.mk k3 (k4 + k5) none) = false))))))))) ∧
           (∀ W4 : World, (W4 = Sx.setRow (some (Addr.mk k 0 none)) W3 l →
           (∃ I : Int → World → Prop, (∃ I2 : Int → World → Nat, (I (↑(Nat.min xn (Int.toNat z5)) : Int) W4 ∧
           ((Nat →
           Value) →
           (∀ n : Int, (∀ W5 : World, (I n W5 →
           Sx.split (decide (n < (↑(Int.toNat z5) : Int)))
            ((∀ W6 : World, (W6 = World.drew W5 →
             (((0 : Int) ≤ n ∧
              n ≤ (↑(Int.toNat z5) : Int)) ∧
             (((0 : Int) ≤ n ∧
              n ≤ (↑(Int.toNat z5) : Int)) ∧
             (∃ l2 : List Value, (List.length l2 = Nat.min (Int.toNat n) (Int.toNat z5 - Int.toNat n) * 1 ∧
             ((∀ v4 : Value, (v4 ∈ l2 →
              Value.oneCell' v4 = true)) ∧
             (((l2 = []) ∨
              (((∃ a2 : Addr, (some (Addr.mk k 0 none) = some a2 ∧
               (∀ k6 : Nat, (∀ v5 : Value, (l2[k6]? = some v5 →
               World.cell? W6 (Addr.add a2 k6) = some v5))))) ∧
              (∃ k7 : Nat, (∃ k8 : Nat, (Sx.sub (some (Addr.mk k 0 none)) (Int.toNat z5) (Int.toNat n) 1 = some (Addr.mk k7 k8 none) ∧
              (∀ k9 : Nat, (k9 < List.length l2 →
              ((∃ v6 : Value, World.cell? W6 (Addr.mk k7 (k8 + k9) none) = some v6) ∧
              World.frozen? W6 (Addr.mk k7 (k8 + k9) none) = false))))))))) ∧
             (∀ W7 : World, (W7 = Sx.setRow (Sx.sub (some (Addr.mk k 0 none)) (Int.toNat z5) (Int.toNat n) 1) W6 l2 →
             (∀ z6 : Int, (z6 = IntKind.wrap IntKind.i64 (n + (↑(Nat.min (Int.toNat n) (Int.toNat z5 - Int.toNat n)) : Int)) →
             (I z6 W7 ∧
             I2 z6 W7 < I2 n W5))))))))))))))
            (Q (Ending.returned (Value.slice (some (Addr.mk k 0 none)) (Int.toNat z5) (Int.toNat z5))) W5)))))))))))))))))))))))))))))))))) :
  Calls Tryd.prog 28 #[Value.slice x xn xc, Value.int .i64 count] W Q :=
  Sx.sound Tryd.func28 (.node [] [] 0 .leaf (.node [] [] 0 .leaf (.node [] [] 0 .leaf (.node [] [] 0 .leaf (.node [] [] 0 .leaf (.node [] [] 0 .leaf (.node [] [] 0 (.node [] [] 0 (.node [(8, .int .i64)] [7] 0 (.node [] [] 0 .leaf (.node [] [] 0 (.node [] [] 1008 .leaf .leaf) .leaf)) .leaf) .leaf) .leaf))))))) [Value.slice x xn xc, Value.int .i64 count] rfl (Eq.mp (by kernel_rfl) hVC)
theorem vc29 {W : World} {Q : Ending → World → Prop} (w : Nat) (wo : Nat) (l : Option Addr) (ln : Nat) (lc : Nat)
  (hVC :
    (∃ I : Int → World → Prop, (∃ I2 : Int → World → Nat, (I 0 W ∧
    ((Nat →
    Value) →
    (∀ x : Int, (∀ W2 : World, (I x W2 →
    Sx.split (decide (x < (↑ln : Int)))
     ((((0 : Int) ≤ x ∧
       x < (↑ln : Int)) ∧
      Sx.adr l (fun k =>
       (fun k2 =>
       (∃ z : Int, (World.cell? W2 (Addr.mk k (k2 + Int.toNat x * 1) none) = some (Value.int IntKind.i64 z) ∧
       Sx.split (decide (z < -1))
        (Q (Ending.returned (Value.bool false)) W2)
        ((∃ p : Option Addr, (∃ k3 : Nat, (∃ k4 : Nat, (World.cell? W2 (Addr.mk w (wo + 4) none) = some (Value.slice p k3 k4) ∧
         Sx.split (decide (z ≥ (↑k3 : Int)))
          (Q (Ending.returned (Value.bool false)) W2)
          ((∀ z2 : Int, (z2 = IntKind.wrap IntKind.i64 (x + 1) →
           (I z2 W2 ∧
           I2 z2 W2 < I2 x W2)))))))))))))))
     (Q (Ending.returned (Value.bool true)) W2))))))))) :
  Calls Tryd.prog 29 #[Value.pointer (some ⟨w, wo, none⟩), Value.slice l ln lc] W Q :=
  Sx.sound Tryd.func29 (.node [] [] 0 .leaf (.node [] [] 0 (.node [] [] 0 .leaf (.node [] [] 0 (.node [(9, .int .i64)] [8, 7, 0] 0 .leaf .leaf) .leaf)) .leaf)) [Value.pointer (some ⟨w, wo, none⟩), Value.slice l ln lc] rfl (Eq.mp (by kernel_rfl) hVC)
theorem vc30 {W : World} {Q : Ending → World → Prop} (w : Nat) (wo : Nat) (k : Int)
  (hVC :
    (∃ p : Option Addr, (∃ k2 : Nat, (∃ k3 : Nat, (World.cell? W (Addr.mk w wo none) = some (Value.slice p k2 k3) ∧
    (∃ z : Int, (World.cell? W (Addr.mk w (wo + 1) none) = some (Value.int IntKind.i64 z) ∧
    (∀ z2 : Int, (z2 = IntKind.wrap IntKind.i64 (z + k) →
    (∃ p2 : Option Addr, (∃ k4 : Nat, (∃ k5 : Nat, (World.cell? W (Addr.mk w wo none) = some (Value.slice p2 k4 k5) ∧
    ((↑k4 : Int) ≠ 0 ∧
    (∀ z3 : Int, (z3 = Int.tmod z2 (↑k4 : Int) →
    (((0 : Int) ≤ z3 ∧
     z3 < (↑k2 : Int)) ∧
    Sx.adr p (fun k6 =>
     (fun k7 =>
     (∀ W2 : World, (∀ k8 : Nat, (W2 = World.drewN W k8 →
     Q (Ending.returned (Value.pointer (some (Addr.mk k6 (k7 + Int.toNat z3 * 6) none)))) W2)))))))))))))))))))))) :
  Calls Tryd.prog 30 #[Value.pointer (some ⟨w, wo, none⟩), Value.int .i64 k] W Q :=
  Sx.sound Tryd.func30 .leaf [Value.pointer (some ⟨w, wo, none⟩), Value.int .i64 k] rfl (Eq.mp (by kernel_rfl) hVC)
theorem vc33 {W : World} {Q : Ending → World → Prop} (w : Nat) (wo : Nat) (s : Nat) (so : Nat)
  (hVC :
    (∃ z : Int, (World.cell? W (Addr.mk s (so + 4) none) = some (Value.int IntKind.u8 z) ∧
    Sx.split (z == 0)
     ((∃ z2 : Int, (World.cell? W (Addr.mk s (so + 1) none) = some (Value.int IntKind.i64 z2) ∧
      Calls Tryd.prog 43 #[Value.pointer (some (Addr.mk w wo none)), Value.int IntKind.i64 z2] W (fun e =>
       (fun W2 =>
       (∃ t : Bool, (e = Ending.returned (Value.bool t) ∧
       Sx.split t
        ((∃ z3 : Int, (World.cell? W2 (Addr.mk s (so + 2) none) = some (Value.int IntKind.i64 z3) ∧
         Calls Tryd.prog 43 #[Value.pointer (some (Addr.mk w wo none)), Value.int IntKind.i64 z3] W2 (fun e2 =>
          (fun W3 =>
          (∃ t2 : Bool, (e2 = Ending.returned (Value.bool t2) ∧
          Q (Ending.returned (Value.bool t2)) W3)))))))
        (Q (Ending.returned (Value.bool false)) W2))))))))
     (Q (Ending.returned (Value.bool false)) W)))) :
  Calls Tryd.prog 33 #[Value.pointer (some ⟨w, wo, none⟩), Value.pointer (some ⟨s, so, none⟩)] W Q :=
  Sx.sound Tryd.func33 .leaf [Value.pointer (some ⟨w, wo, none⟩), Value.pointer (some ⟨s, so, none⟩)] rfl (Eq.mp (by kernel_rfl) hVC)
theorem vc34 {W : World} {Q : Ending → World → Prop} (w : Nat) (wo : Nat) (seq : Int) (a2 : Int) (to : Int)
  (hVC :
    Calls Tryd.prog 44 #[Value.pointer (some (Addr.mk w wo none)), Value.int IntKind.i64 seq] W (fun e =>
     (fun W2 =>
     (∃ p : Option Addr, (e = Ending.returned (Value.pointer p) ∧
     Sx.split (Option.isNone p)
      (Q (Ending.returned (Value.iface 35 (Value.int IntKind.i64 7))) W2)
      (Sx.ptr p (fun a =>
        (∃ z : Int, (World.cell? W2 (Addr.add a 4) = some (Value.int IntKind.u8 z) ∧
        Sx.split (z != a2)
         (Q (Ending.returned (Value.iface 35 (Value.int IntKind.i64 7))) W2)
         (Sx.split (to == 1)
           (Calls Tryd.prog 33 #[Value.pointer (some (Addr.mk w wo none)), Value.pointer p] W2 (fun e2 =>
             (fun W3 =>
             (∃ t : Bool, (e2 = Ending.returned (Value.bool t) ∧
             Sx.split (!t)
              (Q (Ending.returned (Value.iface 35 (Value.int IntKind.i64 7))) W3)
              (Sx.ptr p (fun a2 =>
                ((∃ v : Value, World.cell? W3 (Addr.add a2 4) = some v) ∧
                (World.frozen? W3 (Addr.add a2 4) = false ∧
                (∀ W4 : World, (W4 = World.setCell W3 (Addr.add a2 4) (Value.int IntKind.u8 to) →
                Q (Ending.returned Value.nilIface) W4)))))))))))
           (Sx.ptr p (fun a3 =>
             ((∃ v2 : Value, World.cell? W2 (Addr.add a3 4) = some v2) ∧
             (World.frozen? W2 (Addr.add a3 4) = false ∧
             (∀ W5 : World, (W5 = World.setCell W2 (Addr.add a3 4) (Value.int IntKind.u8 to) →
             Q (Ending.returned Value.nilIface) W5)))))))))))))))) :
  Calls Tryd.prog 34 #[Value.pointer (some ⟨w, wo, none⟩), Value.int .i64 seq, Value.int .u8 a2, Value.int .u8 to] W Q :=
  Sx.sound Tryd.func34 .leaf [Value.pointer (some ⟨w, wo, none⟩), Value.int .i64 seq, Value.int .u8 a2, Value.int .u8 to] rfl (Eq.mp (by kernel_rfl) hVC)
theorem vc43 {W : World} {Q : Ending → World → Prop} (w : Nat) (wo : Nat) (p : Int)
  (hVC :
    Sx.split (decide (p < 0))
     (Q (Ending.returned (Value.bool true)) W)
     ((∃ p2 : Option Addr, (∃ k : Nat, (∃ k2 : Nat, (World.cell? W (Addr.mk w (wo + 4) none) = some (Value.slice p2 k k2) ∧
      (((0 : Int) ≤ p ∧
       p < (↑k : Int)) ∧
      Sx.adr p2 (fun k3 =>
       (fun k4 =>
       (∃ t : Bool, (World.cell? W (Addr.mk k3 (k4 + Int.toNat p * 1) none) = some (Value.bool t) ∧
       Q (Ending.returned (Value.bool t)) W))))))))))) :
  Calls Tryd.prog 43 #[Value.pointer (some ⟨w, wo, none⟩), Value.int .i64 p] W Q :=
  Sx.sound Tryd.func43 .leaf [Value.pointer (some ⟨w, wo, none⟩), Value.int .i64 p] rfl (Eq.mp (by kernel_rfl) hVC)
theorem vc38 {W : World} {Q : Ending → World → Prop} (x : Int) (y : Int)
  (hVC :
    Calls Tryd.prog 46 #[Value.int IntKind.u64 x, Value.int IntKind.u64 y] W (fun e =>
     (fun W2 =>
     (∃ z : Int, (∃ z2 : Int, (e = Ending.returned (Value.tuple #[Value.int IntKind.u64 z, Value.int IntKind.u64 z2]) ∧
     Q (Ending.returned (Value.tuple #[Value.int IntKind.u64 z, Value.int IntKind.u64 z2])) W2)))))) :
  Calls Tryd.prog 38 #[Value.int .u64 x, Value.int .u64 y] W Q :=
  Sx.sound Tryd.func38 .leaf [Value.int .u64 x, Value.int .u64 y] rfl (Eq.mp (by kernel_rfl) hVC)
theorem vc46 {W : World} {Q : Ending → World → Prop} (x : Int) (y : Int)
  (hVC :
    (∀ z : Int, (z = IntKind.wrap IntKind.u64 (↑(BitVec.toNat (BitVec.ofInt (IntKind.bits IntKind.u64) x &&& BitVec.ofInt (IntKind.bits IntKind.u64) 4294967295)) : Int) →
    ((0 : Int) ≤ (32 : Int) ∧
    (∀ z2 : Int, (z2 = Int.fdiv x (2 ^ min 32 (IntKind.bits IntKind.u64)) →
    (∀ z3 : Int, (z3 = IntKind.wrap IntKind.u64 (↑(BitVec.toNat (BitVec.ofInt (IntKind.bits IntKind.u64) y &&& BitVec.ofInt (IntKind.bits IntKind.u64) 4294967295)) : Int) →
    ((0 : Int) ≤ (32 : Int) ∧
    (∀ z4 : Int, (z4 = Int.fdiv y (2 ^ min 32 (IntKind.bits IntKind.u64)) →
    (∀ z5 : Int, (z5 = IntKind.wrap IntKind.u64 (z * z3) →
    (∀ z6 : Int, (z6 = IntKind.wrap IntKind.u64 (z2 * z3) →
    ((0 : Int) ≤ (32 : Int) ∧
    (∀ z7 : Int, (z7 = Int.fdiv z5 (2 ^ min 32 (IntKind.bits IntKind.u64)) →
    (∀ z8 : Int, (z8 = IntKind.wrap IntKind.u64 (z6 + z7) →
    (∀ z9 : Int, (z9 = IntKind.wrap IntKind.u64 (↑(BitVec.toNat (BitVec.ofInt (IntKind.bits IntKind.u64) z8 &&& BitVec.ofInt (IntKind.bits IntKind.u64) 4294967295)) : Int) →
    ((0 : Int) ≤ (32 : Int) ∧
    (∀ z10 : Int, (z10 = Int.fdiv z8 (2 ^ min 32 (IntKind.bits IntKind.u64)) →
    (∀ z11 : Int, (z11 = IntKind.wrap IntKind.u64 (z * z4) →
    (∀ z12 : Int, (z12 = IntKind.wrap IntKind.u64 (z9 + z11) →
    (∀ z13 : Int, (z13 = IntKind.wrap IntKind.u64 (z2 * z4) →
    (∀ z14 : Int, (z14 = IntKind.wrap IntKind.u64 (z13 + z10) →
    ((0 : Int) ≤ (32 : Int) ∧
    (∀ z15 : Int, (z15 = Int.fdiv z12 (2 ^ min 32 (IntKind.bits IntKind.u64)) →
    (∀ z16 : Int, (z16 = IntKind.wrap IntKind.u64 (z14 + z15) →
    (∀ z17 : Int, (z17 = IntKind.wrap IntKind.u64 (x * y) →
    Q (Ending.returned (Value.tuple #[Value.int IntKind.u64 z16, Value.int IntKind.u64 z17])) W)))))))))))))))))))))))))))))))))))))))) :
  Calls Tryd.prog 46 #[Value.int .u64 x, Value.int .u64 y] W Q :=
  Sx.sound Tryd.func46 .leaf [Value.int .u64 x, Value.int .u64 y] rfl (Eq.mp (by kernel_rfl) hVC)
end Go.Proofs.YtdliholhfiihcaaDoor
