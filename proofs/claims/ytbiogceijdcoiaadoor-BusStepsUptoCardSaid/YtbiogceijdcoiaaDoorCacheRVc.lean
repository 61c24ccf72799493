/- What each function asks, reckoned out of its text; printed by a program of mine (wip/tpl/VcTool.lean). No condition. -/
import Derived.Test.YtbiogceijdcoiaaDoorSxB
import Derived.Test.YtbiogceijdcoiaaDoorChecked
namespace Go.Proofs.YtbiogceijdcoiaaDoor
open Go Go.Proofs
set_option linter.unusedVariables false
set_option maxRecDepth 100000
theorem vc40 {W : World} {Q : Ending → World → Prop} (sets : Int) (ways : Int)
  (hVC :
    Sx.split (sets != 1)
     (Sx.split (sets != 2)
       (Sx.split (sets != 4)
         (Sx.split (sets != 8)
           (Sx.split (sets != 16)
             (Q (Ending.returned (Value.tuple #[Value.pointer none, Value.int IntKind.i64 2])) W)
             (Sx.split (decide (ways < 1))
               (Q (Ending.returned (Value.tuple #[Value.pointer none, Value.int IntKind.i64 2])) W)
               (Sx.split (decide (ways > 4))
                 (Q (Ending.returned (Value.tuple #[Value.pointer none, Value.int IntKind.i64 2])) W)
                 ((∀ vs : Array Value, (vs = #[Value.int IntKind.i64 sets, Value.int IntKind.i64 ways, Value.slice none 0 0] →
                  (∀ k : Nat, (∀ W2 : World, (k = Array.size (World.heap W) →
                  (W2 = World.alloc W (Obj.cells (Value.cells (Value.agg vs)) 102) →
                  Q (Ending.returned (Value.tuple #[Value.pointer (some (Addr.mk k 0 none)), Value.int IntKind.i64 0])) W2))))))))))
           (Sx.split (decide (ways < 1))
             (Q (Ending.returned (Value.tuple #[Value.pointer none, Value.int IntKind.i64 2])) W)
             (Sx.split (decide (ways > 4))
               (Q (Ending.returned (Value.tuple #[Value.pointer none, Value.int IntKind.i64 2])) W)
               ((∀ vs2 : Array Value, (vs2 = #[Value.int IntKind.i64 sets, Value.int IntKind.i64 ways, Value.slice none 0 0] →
                (∀ k2 : Nat, (∀ W3 : World, (k2 = Array.size (World.heap W) →
                (W3 = World.alloc W (Obj.cells (Value.cells (Value.agg vs2)) 102) →
                Q (Ending.returned (Value.tuple #[Value.pointer (some (Addr.mk k2 0 none)), Value.int IntKind.i64 0])) W3))))))))))
         (Sx.split (decide (ways < 1))
           (Q (Ending.returned (Value.tuple #[Value.pointer none, Value.int IntKind.i64 2])) W)
           (Sx.split (decide (ways > 4))
             (Q (Ending.returned (Value.tuple #[Value.pointer none, Value.int IntKind.i64 2])) W)
             ((∀ vs3 : Array Value, (vs3 = #[Value.int IntKind.i64 sets, Value.int IntKind.i64 ways, Value.slice none 0 0] →
              (∀ k3 : Nat, (∀ W4 : World, (k3 = Array.size (World.heap W) →
              (W4 = World.alloc W (Obj.cells (Value.cells (Value.agg vs3)) 102) →
              Q (Ending.returned (Value.tuple #[Value.pointer (some (Addr.mk k3 0 none)), Value.int IntKind.i64 0])) W4))))))))))
       (Sx.split (decide (ways < 1))
         (Q (Ending.returned (Value.tuple #[Value.pointer none, Value.int IntKind.i64 2])) W)
         (Sx.split (decide (ways > 4))
           (Q (Ending.returned (Value.tuple #[Value.pointer none, Value.int IntKind.i64 2])) W)
           ((∀ vs4 : Array Value, (vs4 = #[Value.int IntKind.i64 sets, Value.int IntKind.i64 ways, Value.slice none 0 0] →
            (∀ k4 : Nat, (∀ W5 : World, (k4 = Array.size (World.heap W) →
            (W5 = World.alloc W (Obj.cells (Value.cells (Value.agg vs4)) 102) →
            Q (Ending.returned (Value.tuple #[Value.pointer (some (Addr.mk k4 0 none)), Value.int IntKind.i64 0])) W5))))))))))
     (Sx.split (decide (ways < 1))
       (Q (Ending.returned (Value.tuple #[Value.pointer none, Value.int IntKind.i64 2])) W)
       (Sx.split (decide (ways > 4))
         (Q (Ending.returned (Value.tuple #[Value.pointer none, Value.int IntKind.i64 2])) W)
         ((∀ vs5 : Array Value, (vs5 = #[Value.int IntKind.i64 sets, Value.int IntKind.i64 ways, Value.slice none 0 0] →
          (∀ k5 : Nat, (∀ W6 : World, (k5 = Array.size (World.heap W) →
          (W6 = World.alloc W (Obj.cells (Value.cells (Value.agg vs5)) 102) →
          Q (Ending.returned (Value.tuple #[Value.pointer (some (Addr.mk k5 0 none)), Value.int IntKind.i64 0])) W6)))))))))) :
  Calls Tryd.prog 40 #[Value.int .i64 sets, Value.int .i64 ways] W Q :=
  Sx.sound Tryd.func40 .leaf [Value.int .i64 sets, Value.int .i64 ways] rfl (Eq.mp (by kernel_rfl) hVC)
theorem vc35 {W : World} {Q : Ending → World → Prop} (c : Nat) (co : Nat) (addr : Int)
  (hVC :
    Calls Tryd.prog 49 #[Value.pointer (some (Addr.mk c co none)), Value.int IntKind.i64 addr] W (fun e =>
     (fun W2 =>
     (∃ z : Int, (e = Ending.returned (Value.int IntKind.i64 z) ∧
     Sx.split (decide (z < 0))
      (Q (Ending.returned (Value.int IntKind.i64 0)) W2)
      ((∃ p : Option Addr, (∃ k : Nat, (∃ k2 : Nat, (World.cell? W2 (Addr.mk c (co + 2) none) = some (Value.slice p k k2) ∧
       (((0 : Int) ≤ z ∧
        z < (↑k : Int)) ∧
       Sx.adr p (fun k3 =>
        (fun k4 =>
        (∃ z2 : Int, (World.cell? W2 (Addr.mk k3 (k4 + Int.toNat z * 18 + 1) none) = some (Value.int IntKind.i64 z2) ∧
        Q (Ending.returned (Value.int IntKind.i64 z2)) W2))))))))))))))) :
  Calls Tryd.prog 35 #[Value.pointer (some ⟨c, co, none⟩), Value.int .i64 addr] W Q :=
  Sx.sound Tryd.func35 .leaf [Value.pointer (some ⟨c, co, none⟩), Value.int .i64 addr] rfl (Eq.mp (by kernel_rfl) hVC)
theorem vc31 {W : World} {Q : Ending → World → Prop} (c : Nat) (co : Nat) (addr : Int) (size : Int)
  (hVC :
    Calls Tryd.prog 49 #[Value.pointer (some (Addr.mk c co none)), Value.int IntKind.i64 addr] W (fun e =>
     (fun W2 =>
     (∃ z : Int, (e = Ending.returned (Value.int IntKind.i64 z) ∧
     Calls Tryd.prog 50 #[Value.int IntKind.i64 addr, Value.int IntKind.i64 size] W2 (fun e2 =>
      (fun W3 =>
      (∃ t : Bool, (e2 = Ending.returned (Value.bool t) ∧
      (∃ I : Bool → World → Prop, (Sx.split (decide (z < 0))
        (I true W3)
        (I (!t) W3) ∧
      ((Nat →
      Value) →
      (∀ x : Bool, (∀ W4 : World, (I x W4 →
      Sx.split x
       (Q (Ending.returned (Value.tuple #[Value.int IntKind.u32 0, Value.bool false])) W4)
       (Calls Tryd.prog 51 #[Value.pointer (some (Addr.mk c co none)), Value.int IntKind.i64 z] W4 (fun e3 =>
         (fun W5 =>
         (∃ vs : Array Value, (e3 = Ending.returned (Value.agg vs) ∧
         (∀ k : Nat, (∀ W6 : World, (k = Array.size (World.heap W5) →
         (W6 = World.alloc W5 (Obj.cells #[Value.int IntKind.i64 0, Value.int IntKind.i64 0, Value.int IntKind.u8 0, Value.int IntKind.u8 0, Value.int IntKind.u8 0, Value.int IntKind.u8 0, Value.int IntKind.u8 0, Value.int IntKind.u8 0, Value.int IntKind.u8 0, Value.int IntKind.u8 0, Value.int IntKind.u8 0, Value.int IntKind.u8 0, Value.int IntKind.u8 0, Value.int IntKind.u8 0, Value.int IntKind.u8 0, Value.int IntKind.u8 0, Value.int IntKind.u8 0, Value.int IntKind.u8 0] 104) →
         (Array.size vs = 18 ∧
         ((∀ k2 : Nat, (k2 < 18 →
          ((∃ v : Value, World.cell? W6 (Addr.mk k (0 + k2) none) = some v) ∧
          World.frozen? W6 (Addr.mk k (0 + k2) none) = false))) ∧
         ((∀ v2 : Value, (v2 ∈ Array.toList vs →
          Value.oneCell' v2 = true)) ∧
         (∀ W7 : World, (W7 = World.setCells W6 k 0 (Array.toList vs) →
         (∀ W8 : World, (W8 = World.drew W7 →
         (∃ p : Option Addr, (∃ k3 : Nat, (∃ k4 : Nat, (World.cell? W8 (Addr.mk c (co + 2) none) = some (Value.slice p k3 k4) ∧
         (∃ vs2 : Array Value, (Array.size vs2 = 18 ∧
         (Sx.cellsAt W8 (Addr.mk k 0 none) vs2 ∧
         (Array.size vs2 = 18 ∧
         (∀ k5 : Nat, (∀ W9 : World, (k5 = Array.size (World.heap W8) →
         (W9 = World.alloc W8 (Obj.cells (List.toArray (Array.toList vs2 ++ [])) 104) →
         (RowKit.Below (Array.size (World.heap W8)) W8 W9 ∧
         (∃ l : List Value, (∃ l2 : List Value, (XHeap.Sl W9 104 18 (Value.slice p k3 k4) k3 l ∧
         (((((1 : Nat) = (0 : Nat) ∧
           some (Addr.mk k5 0 none) = none)) ∨
          ((∃ a : Addr, (some (Addr.mk k5 0 none) = some a ∧
          (∀ k6 : Nat, (∀ v3 : Value, (l2[k6]? = some v3 →
          World.cell? W9 (Addr.add a k6) = some v3))))))) ∧
         (List.length l2 = 18 ∧
         ((∀ v4 : Value, (v4 ∈ l2 →
          Value.oneCell' v4 = true)) ∧
         (k3 + 1 ≤ maxLen ∧
         ((k3 + 1) * 32 ≤ 140737488355328 ∧
         (∀ p2 : Option Addr, (∀ k7 : Nat, (∀ W10 : World, (XHeap.Sl W10 104 18 (Value.slice p2 (k3 + 1) k7) (k3 + 1) (l ++ l2) →
         (XHeap.XTouch (fun b => Value.ownBlock (Value.slice p k3 k4) = some b) W9 W10 →
         ((∀ k8 : Nat, (Value.ownBlock (Value.slice p2 (k3 + 1) k7) = some k8 →
         ((Value.ownBlock (Value.slice p k3 k4) = some k8) ∨
         (Array.size (World.heap W9) ≤ k8)))) →
         (XHeap.Sl W10 104 18 (Value.slice p k3 k4) k3 l →
         ((((p2 = p ∧
          k7 = k4)) ∨
         ((((XHeap.NilP p) ∨
          (k4 < k3 + 1)) ∧
         (∀ k9 : Nat, (Value.ownBlock (Value.slice p2 (k3 + 1) k7) = some k9 →
         Array.size (World.heap W9) ≤ k9))))) →
         ((∃ v5 : Value, World.cell? W10 (Addr.mk c (co + 2) none) = some v5) ∧
         (World.frozen? W10 (Addr.mk c (co + 2) none) = false ∧
         (∀ W11 : World, (W11 = World.setCell W10 (Addr.mk c (co + 2) none) (Value.slice p2 (k3 + 1) k7) →
         (∀ z2 : Int, (z2 = IntKind.wrap IntKind.i64 (size - 1) →
         (∃ I2 : Int → Int → World → Prop, (∃ I3 : Int → Int → World → Nat, (I2 z2 0 W11 ∧
         ((Nat →
         Value) →
         (∀ k10 : Int, (∀ v6 : Int, (∀ W12 : World, (I2 k10 v6 W12 →
         Sx.split (decide (k10 ≥ 0))
          (((0 : Int) ≤ (8 : Int) ∧
           (∀ z3 : Int, (z3 = IntKind.wrap IntKind.u32 (v6 * 2 ^ min 8 (IntKind.bits IntKind.u32)) →
           ((16 : Int) ≠ (0 : Int) ∧
           (∀ z4 : Int, (z4 = Int.tmod addr 16 →
           (∀ z5 : Int, (z5 = IntKind.wrap IntKind.i64 (z4 + k10) →
           (((0 : Int) ≤ z5 ∧
            z5 < (↑16 : Int)) ∧
           (∃ z6 : Int, (World.cell? W12 (Addr.mk k (0 + 2 + Int.toNat z5 * 1) none) = some (Value.int IntKind.u8 z6) ∧
           (∀ z7 : Int, (z7 = IntKind.wrap IntKind.u32 z6 →
           (∀ z8 : Int, (z8 = IntKind.wrap IntKind.u32 (↑(BitVec.toNat (BitVec.ofInt (IntKind.bits IntKind.u32) z3 ||| BitVec.ofInt (IntKind.bits IntKind.u32) z7)) : Int) →
           (∀ z9 : Int, (z9 = IntKind.wrap IntKind.i64 (k10 - 1) →
           (I2 z9 z8 W12 ∧
           I3 z9 z8 W12 < I3 k10 v6 W12)))))))))))))))))))
          (Q (Ending.returned (Value.tuple #[Value.int IntKind.u32 v6, Value.bool true])) W12))))))))))))))))))))))))))))))))))))))))))))))))))))))))))))))))))))))))))) :
  Calls Tryd.prog 31 #[Value.pointer (some ⟨c, co, none⟩), Value.int .i64 addr, Value.int .i64 size] W Q :=
  Sx.sound Tryd.func31 (.node [] [] 0 .leaf (.node [] [] 0 .leaf (.node [] [] 0 .leaf (.node [] [] 0 (.node [(24, .bool)] [0, 8, 2, 1] 1 .leaf .leaf) (.node [] [] 0 .leaf (.node [] [] 0 (.node [] [] 1008 .leaf .leaf) (.node [] [] 0 .leaf (.node [] [] 0 (.node [] [] 0 .leaf (.node [] [] 0 (.node [(12, .int .i64), (11, .int .u32)] [1, 10] 0 .leaf .leaf) .leaf)) .leaf)))))))) [Value.pointer (some ⟨c, co, none⟩), Value.int .i64 addr, Value.int .i64 size] rfl (Eq.mp (by kernel_rfl) hVC)
theorem vc33 {W : World} {Q : Ending → World → Prop} (arg0 : Nat) (arg0o : Nat) (arg1 : Int) (arg2 : Int) (arg3 : Int)
  (hVC :
    Calls Tryd.prog 49 #[Value.pointer (some (Addr.mk arg0 arg0o none)), Value.int IntKind.i64 arg1] W (fun e =>
     (fun W2 =>
     (∃ z : Int, (e = Ending.returned (Value.int IntKind.i64 z) ∧
     Calls Tryd.prog 50 #[Value.int IntKind.i64 arg1, Value.int IntKind.i64 arg2] W2 (fun e2 =>
      (fun W3 =>
      (∃ t : Bool, (e2 = Ending.returned (Value.bool t) ∧
      (∃ I : Bool → World → Prop, (Sx.split (decide (z < 0))
        (I true W3)
        (Sx.split (!t)
          (I true W3)
          ((∃ p : Option Addr, (∃ k : Nat, (∃ k2 : Nat, (World.cell? W3 (Addr.mk arg0 (arg0o + 2) none) = some (Value.slice p k k2) ∧
           (((0 : Int) ≤ z ∧
            z < (↑k : Int)) ∧
           Sx.adr p (fun k3 =>
            (fun k4 =>
            (∃ z2 : Int, (World.cell? W3 (Addr.mk k3 (k4 + Int.toNat z * 18 + 1) none) = some (Value.int IntKind.i64 z2) ∧
            I (decide (z2 < 2)) W3))))))))))) ∧
      ((Nat →
      Value) →
      (∀ x : Bool, (∀ W4 : World, (I x W4 →
      Sx.split x
       (Q (Ending.returned (Value.bool false)) W4)
       (Calls Tryd.prog 51 #[Value.pointer (some (Addr.mk arg0 arg0o none)), Value.int IntKind.i64 z] W4 (fun e3 =>
         (fun W5 =>
         (∃ vs : Array Value, (e3 = Ending.returned (Value.agg vs) ∧
         (∀ k5 : Nat, (∀ W6 : World, (k5 = Array.size (World.heap W5) →
         (W6 = World.alloc W5 (Obj.cells #[Value.int IntKind.i64 0, Value.int IntKind.i64 0, Value.int IntKind.u8 0, Value.int IntKind.u8 0, Value.int IntKind.u8 0, Value.int IntKind.u8 0, Value.int IntKind.u8 0, Value.int IntKind.u8 0, Value.int IntKind.u8 0, Value.int IntKind.u8 0, Value.int IntKind.u8 0, Value.int IntKind.u8 0, Value.int IntKind.u8 0, Value.int IntKind.u8 0, Value.int IntKind.u8 0, Value.int IntKind.u8 0, Value.int IntKind.u8 0, Value.int IntKind.u8 0] 104) →
         (Array.size vs = 18 ∧
         ((∀ k6 : Nat, (k6 < 18 →
          ((∃ v : Value, World.cell? W6 (Addr.mk k5 (0 + k6) none) = some v) ∧
          World.frozen? W6 (Addr.mk k5 (0 + k6) none) = false))) ∧
         ((∀ v2 : Value, (v2 ∈ Array.toList vs →
          Value.oneCell' v2 = true)) ∧
         (∀ W7 : World, (W7 = World.setCells W6 k5 0 (Array.toList vs) →
         ((∃ v3 : Value, World.cell? W7 (Addr.mk k5 (0 + 1) none) = some v3) ∧
         (World.frozen? W7 (Addr.mk k5 (0 + 1) none) = false ∧
         (∀ W8 : World, (W8 = World.setCell W7 (Addr.mk k5 (0 + 1) none) (Value.int IntKind.i64 3) →
         (∃ I2 : Int → World → Prop, (∃ I3 : Int → World → Nat, (I2 0 W8 ∧
         ((Nat →
         Value) →
         (∀ x2 : Int, (∀ W9 : World, (I2 x2 W9 →
         Sx.split (decide (x2 < arg2))
          (((16 : Int) ≠ (0 : Int) ∧
           (∀ z3 : Int, (z3 = Int.tmod arg1 16 →
           (∀ z4 : Int, (z4 = IntKind.wrap IntKind.i64 (z3 + x2) →
           (∀ z5 : Int, (z5 = IntKind.wrap IntKind.i64 (8 * x2) →
           ((0 : Int) ≤ z5 ∧
           (∀ z6 : Int, (z6 = Int.fdiv arg3 (2 ^ min (Int.toNat z5) (IntKind.bits IntKind.u32)) →
           (∀ z7 : Int, (z7 = IntKind.wrap IntKind.u8 z6 →
           (((0 : Int) ≤ z4 ∧
            z4 < (↑16 : Int)) ∧
           ((∃ v4 : Value, World.cell? W9 (Addr.mk k5 (0 + 2 + Int.toNat z4 * 1) none) = some v4) ∧
           (World.frozen? W9 (Addr.mk k5 (0 + 2 + Int.toNat z4 * 1) none) = false ∧
           (∀ W10 : World, (W10 = World.setCell W9 (Addr.mk k5 (0 + 2 + Int.toNat z4 * 1) none) (Value.int IntKind.u8 z7) →
           (∀ z8 : Int, (z8 = IntKind.wrap IntKind.i64 (x2 + 1) →
           (I2 z8 W10 ∧
           I3 z8 W10 < I3 x2 W9)))))))))))))))))))))
          ((∀ W11 : World, (W11 = World.drew W9 →
           (∃ p2 : Option Addr, (∃ k7 : Nat, (∃ k8 : Nat, (World.cell? W11 (Addr.mk arg0 (arg0o + 2) none) = some (Value.slice p2 k7 k8) ∧
           (∃ vs2 : Array Value, (Array.size vs2 = 18 ∧
           (Sx.cellsAt W11 (Addr.mk k5 0 none) vs2 ∧
           (Array.size vs2 = 18 ∧
           (∀ k9 : Nat, (∀ W12 : World, (k9 = Array.size (World.heap W11) →
           (W12 = World.alloc W11 (Obj.cells (List.toArray (Array.toList vs2 ++ [])) 104) →
           (RowKit.Below (Array.size (World.heap W11)) W11 W12 ∧
           (∃ l : List Value, (∃ l2 : List Value, (XHeap.Sl W12 104 18 (Value.slice p2 k7 k8) k7 l ∧
           (((((1 : Nat) = (0 : Nat) ∧
             some (Addr.mk k9 0 none) = none)) ∨
            ((∃ a : Addr, (some (Addr.mk k9 0 none) = some a ∧
            (∀ k10 : Nat, (∀ v5 : Value, (l2[k10]? = some v5 →
            World.cell? W12 (Addr.add a k10) = some v5))))))) ∧
           (List.length l2 = 18 ∧
           ((∀ v6 : Value, (v6 ∈ l2 →
            Value.oneCell' v6 = true)) ∧
           (k7 + 1 ≤ maxLen ∧
           ((k7 + 1) * 32 ≤ 140737488355328 ∧
           (∀ p3 : Option Addr, (∀ k11 : Nat, (∀ W13 : World, (XHeap.Sl W13 104 18 (Value.slice p3 (k7 + 1) k11) (k7 + 1) (l ++ l2) →
           (XHeap.XTouch (fun b => Value.ownBlock (Value.slice p2 k7 k8) = some b) W12 W13 →
           ((∀ k12 : Nat, (Value.ownBlock (Value.slice p3 (k7 + 1) k11) = some k12 →
           ((Value.ownBlock (Value.slice p2 k7 k8) = some k12) ∨
           (Array.size (World.heap W12) ≤ k12)))) →
           (XHeap.Sl W13 104 18 (Value.slice p2 k7 k8) k7 l →
           ((((p3 = p2 ∧
            k11 = k8)) ∨
           ((((XHeap.NilP p2) ∨
            (k8 < k7 + 1)) ∧
           (∀ k13 : Nat, (Value.ownBlock (Value.slice p3 (k7 + 1) k11) = some k13 →
           Array.size (World.heap W12) ≤ k13))))) →
           ((∃ v7 : Value, World.cell? W13 (Addr.mk arg0 (arg0o + 2) none) = some v7) ∧
           (World.frozen? W13 (Addr.mk arg0 (arg0o + 2) none) = false ∧
           (∀ W14 : World, (W14 = World.setCell W13 (Addr.mk arg0 (arg0o + 2) none) (Value.slice p3 (k7 + 1) k11) →
           Q (Ending.returned (Value.bool true)) W14)))))))))))))))))))))))))))))))))))))))))))))))))))))))))))))))))))))))))))) :
  Calls Tryd.prog 33 #[Value.pointer (some ⟨arg0, arg0o, none⟩), Value.int .i64 arg1, Value.int .i64 arg2, Value.int .u32 arg3] W Q :=
  Sx.sound Tryd.func33 (.node [] [] 0 .leaf (.node [] [] 0 .leaf (.node [] [] 0 .leaf (.node [] [] 0 (.node [(35, .bool)] [0, 9, 2, 1, 3] 1 .leaf .leaf) (.node [] [] 0 .leaf (.node [] [] 0 .leaf (.node [] [] 0 (.node [] [] 0 .leaf (.node [] [] 0 (.node [(12, .int .i64)] [2, 1, 3, 11, 0] 0 .leaf .leaf) .leaf)) (.node [] [] 0 (.node [] [] 1008 .leaf .leaf) .leaf)))))))) [Value.pointer (some ⟨arg0, arg0o, none⟩), Value.int .i64 arg1, Value.int .i64 arg2, Value.int .u32 arg3] rfl (Eq.mp (by kernel_rfl) hVC)
theorem vc47 {W : World} {Q : Ending → World → Prop} (arg0 : Nat) (arg0o : Nat) (arg1 : Int) (arg2 : Array Value) (arg3 : Int)
  (hVC :
    (∀ k : Nat, (∀ W2 : World, (k = Array.size (World.heap W) →
    (W2 = World.alloc W (Obj.cells (Value.cells (Value.agg arg2)) 96) →
    (∀ k2 : Nat, (∀ W3 : World, (k2 = Array.size (World.heap W2) →
    (W3 = World.alloc W2 (Obj.cells #[Value.int IntKind.i64 0, Value.int IntKind.i64 0, Value.int IntKind.u8 0, Value.int IntKind.u8 0, Value.int IntKind.u8 0, Value.int IntKind.u8 0, Value.int IntKind.u8 0, Value.int IntKind.u8 0, Value.int IntKind.u8 0, Value.int IntKind.u8 0, Value.int IntKind.u8 0, Value.int IntKind.u8 0, Value.int IntKind.u8 0, Value.int IntKind.u8 0, Value.int IntKind.u8 0, Value.int IntKind.u8 0, Value.int IntKind.u8 0, Value.int IntKind.u8 0] 104) →
    (∃ I : Bool → World → Prop, (((16 : Int) ≠ (0 : Int) ∧
     (∀ z : Int, (z = Int.tmod arg1 16 →
     Sx.split (z != 0)
      (I true W3)
      (Sx.split (decide (arg3 < 1))
        (I true W3)
        (I (decide (arg3 > 3)) W3))))) ∧
    ((Nat →
    Value) →
    (∀ x : Bool, (∀ W4 : World, (I x W4 →
    Sx.split x
     ((∀ vs : Array Value, (vs = #[Value.int IntKind.i64 0, Value.int IntKind.i64 0, Value.int IntKind.u8 0, Value.int IntKind.u8 0, Value.int IntKind.u8 0, Value.int IntKind.u8 0, Value.int IntKind.u8 0, Value.int IntKind.u8 0, Value.int IntKind.u8 0, Value.int IntKind.u8 0, Value.int IntKind.u8 0, Value.int IntKind.u8 0, Value.int IntKind.u8 0, Value.int IntKind.u8 0, Value.int IntKind.u8 0, Value.int IntKind.u8 0, Value.int IntKind.u8 0, Value.int IntKind.u8 0] →
      (Array.size vs = 18 ∧
      ((∀ k3 : Nat, (k3 < 18 →
       ((∃ v : Value, World.cell? W4 (Addr.mk k2 (0 + k3) none) = some v) ∧
       World.frozen? W4 (Addr.mk k2 (0 + k3) none) = false))) ∧
      ((∀ v2 : Value, (v2 ∈ Array.toList vs →
       Value.oneCell' v2 = true)) ∧
      (∀ W5 : World, (W5 = World.setCells W4 k2 0 (Array.toList vs) →
      (∃ vs2 : Array Value, (Array.size vs2 = 18 ∧
      (Sx.cellsAt W5 (Addr.mk k2 0 none) vs2 ∧
      Q (Ending.returned (Value.tuple #[Value.agg vs2, Value.int IntKind.i64 3])) W5)))))))))))
     (Calls Tryd.prog 49 #[Value.pointer (some (Addr.mk arg0 arg0o none)), Value.int IntKind.i64 arg1] W4 (fun e =>
       (fun W6 =>
       (∃ z2 : Int, (e = Ending.returned (Value.int IntKind.i64 z2) ∧
       Sx.split (decide (z2 ≥ 0))
        ((∀ vs3 : Array Value, (vs3 = #[Value.int IntKind.i64 0, Value.int IntKind.i64 0, Value.int IntKind.u8 0, Value.int IntKind.u8 0, Value.int IntKind.u8 0, Value.int IntKind.u8 0, Value.int IntKind.u8 0, Value.int IntKind.u8 0, Value.int IntKind.u8 0, Value.int IntKind.u8 0, Value.int IntKind.u8 0, Value.int IntKind.u8 0, Value.int IntKind.u8 0, Value.int IntKind.u8 0, Value.int IntKind.u8 0, Value.int IntKind.u8 0, Value.int IntKind.u8 0, Value.int IntKind.u8 0] →
         (Array.size vs3 = 18 ∧
         ((∀ k4 : Nat, (k4 < 18 →
          ((∃ v3 : Value, World.cell? W6 (Addr.mk k2 (0 + k4) none) = some v3) ∧
          World.frozen? W6 (Addr.mk k2 (0 + k4) none) = false))) ∧
         ((∀ v4 : Value, (v4 ∈ Array.toList vs3 →
          Value.oneCell' v4 = true)) ∧
         (∀ W7 : World, (W7 = World.setCells W6 k2 0 (Array.toList vs3) →
         (∃ vs4 : Array Value, (Array.size vs4 = 18 ∧
         (Sx.cellsAt W7 (Addr.mk k2 0 none) vs4 ∧
         Q (Ending.returned (Value.tuple #[Value.agg vs4, Value.int IntKind.i64 7])) W7)))))))))))
        ((∃ I2 : Int → Int → Int → World → Prop, (∃ I3 : Int → Int → Int → World → Nat, (I2 0 0 (-1) W6 ∧
         ((Nat →
         Value) →
         (∀ x2 : Int, (∀ x3 : Int, (∀ x4 : Int, (∀ W8 : World, (I2 x2 x3 x4 W8 →
         (∃ p : Option Addr, (∃ k5 : Nat, (∃ k6 : Nat, (World.cell? W8 (Addr.mk arg0 (arg0o + 2) none) = some (Value.slice p k5 k6) ∧
         Sx.split (decide (x2 < (↑k5 : Int)))
          ((∃ I4 : Int → Int → World → Prop, ((∃ I5 : Bool → World → Prop, ((∃ p2 : Option Addr, (∃ k7 : Nat, (∃ k8 : Nat, (World.cell? W8 (Addr.mk arg0 (arg0o + 2) none) = some (Value.slice p2 k7 k8) ∧
             (((0 : Int) ≤ x2 ∧
              x2 < (↑k7 : Int)) ∧
             Sx.adr p2 (fun k9 =>
              (fun k10 =>
              (∃ z3 : Int, (World.cell? W8 (Addr.mk k9 (k10 + Int.toNat x2 * 18) none) = some (Value.int IntKind.i64 z3) ∧
              ((16 : Int) ≠ (0 : Int) ∧
              (∀ z4 : Int, (z4 = IntKind.wrap IntKind.i64 (Int.tdiv z3 16) →
              (∃ z5 : Int, (World.cell? W8 (Addr.mk arg0 arg0o none) = some (Value.int IntKind.i64 z5) ∧
              (z5 ≠ 0 ∧
              (∀ z6 : Int, (z6 = Int.tmod z4 z5 →
              ((16 : Int) ≠ (0 : Int) ∧
              (∀ z7 : Int, (z7 = IntKind.wrap IntKind.i64 (Int.tdiv arg1 16) →
              (∃ z8 : Int, (World.cell? W8 (Addr.mk arg0 arg0o none) = some (Value.int IntKind.i64 z8) ∧
              (z8 ≠ 0 ∧
              (∀ z9 : Int, (z9 = Int.tmod z7 z8 →
              (∀ W9 : World, (∀ k11 : Nat, (W9 = World.drewN W8 k11 →
              I5 (z6 == z9) W9)))))))))))))))))))))))))))) ∧
            ((Nat →
            Value) →
            (∀ x5 : Bool, (∀ W10 : World, (I5 x5 W10 →
            Sx.split x5
             ((∀ z10 : Int, (z10 = IntKind.wrap IntKind.i64 (x3 + 1) →
              Sx.split (decide (x4 < 0))
               (I4 z10 x2 W10)
               (I4 z10 x4 W10))))
             (I4 x3 x4 W10))))))) ∧
           ((Nat →
           Value) →
           (∀ x6 : Int, (∀ x7 : Int, (∀ W11 : World, (I4 x6 x7 W11 →
           (∀ z11 : Int, (z11 = IntKind.wrap IntKind.i64 (x2 + 1) →
           (I2 z11 x6 x7 W11 ∧
           I3 z11 x6 x7 W11 < I3 x2 x3 x4 W8)))))))))))
          ((∀ k12 : Nat, (∀ W12 : World, (k12 = Array.size (World.heap W8) →
           (W12 = World.alloc W8 (Obj.cells #[Value.int IntKind.i64 0, Value.int IntKind.i64 0, Value.int IntKind.u8 0, Value.int IntKind.u8 0, Value.int IntKind.u8 0, Value.int IntKind.u8 0, Value.int IntKind.u8 0, Value.int IntKind.u8 0, Value.int IntKind.u8 0, Value.int IntKind.u8 0, Value.int IntKind.u8 0, Value.int IntKind.u8 0, Value.int IntKind.u8 0, Value.int IntKind.u8 0, Value.int IntKind.u8 0, Value.int IntKind.u8 0, Value.int IntKind.u8 0, Value.int IntKind.u8 0] 104) →
           (∃ I6 : World → Prop, ((∃ z12 : Int, (World.cell? W12 (Addr.mk arg0 (arg0o + 1) none) = some (Value.int IntKind.i64 z12) ∧
            Sx.split (x3 == z12)
             (Calls Tryd.prog 51 #[Value.pointer (some (Addr.mk arg0 arg0o none)), Value.int IntKind.i64 x4] W12 (fun e2 =>
               (fun W13 =>
               (∃ vs5 : Array Value, (e2 = Ending.returned (Value.agg vs5) ∧
               (Array.size vs5 = 18 ∧
               ((∀ k13 : Nat, (k13 < 18 →
                ((∃ v5 : Value, World.cell? W13 (Addr.mk k12 (0 + k13) none) = some v5) ∧
                World.frozen? W13 (Addr.mk k12 (0 + k13) none) = false))) ∧
               ((∀ v6 : Value, (v6 ∈ Array.toList vs5 →
                Value.oneCell' v6 = true)) ∧
               (∀ W14 : World, (W14 = World.setCells W13 k12 0 (Array.toList vs5) →
               I6 W14))))))))))
             (I6 W12))) ∧
           ((Nat →
           Value) →
           (∀ W15 : World, (I6 W15 →
           (∀ W16 : World, (W16 = World.drew W15 →
           (∃ p3 : Option Addr, (∃ k14 : Nat, (∃ k15 : Nat, (World.cell? W16 (Addr.mk arg0 (arg0o + 2) none) = some (Value.slice p3 k14 k15) ∧
           (∃ vs6 : Array Value, (Array.size vs6 = 16 ∧
           (Sx.cellsAt W16 (Addr.mk k 0 none) vs6 ∧
           (Array.size vs6 = 16 ∧
           (∀ vs7 : Array Value, (vs7 = List.toArray (Value.int IntKind.i64 arg1 :: Value.int IntKind.i64 arg3 :: (Array.toList vs6 ++ [])) →
           (Array.size vs7 = 18 ∧
           (∀ k16 : Nat, (∀ W17 : World, (k16 = Array.size (World.heap W16) →
           (W17 = World.alloc W16 (Obj.cells (List.toArray (Array.toList vs7 ++ [])) 104) →
           (RowKit.Below (Array.size (World.heap W16)) W16 W17 ∧
           (∃ l : List Value, (∃ l2 : List Value, (XHeap.Sl W17 104 18 (Value.slice p3 k14 k15) k14 l ∧
           (((((1 : Nat) = (0 : Nat) ∧
             some (Addr.mk k16 0 none) = none)) ∨
            ((∃ a : Addr, (some (Addr.mk k16 0 none) = some a ∧
            (∀ k17 : Nat, (∀ v7 : Value, (l2[k17]? = some v7 →
            World.cell? W17 (Addr.add a k17) = some v7))))))) ∧
           (List.length l2 = 18 ∧
           ((∀ v8 : Value, (v8 ∈ l2 →
            Value.oneCell' v8 = true)) ∧
           (k14 + 1 ≤ maxLen ∧
           ((k14 + 1) * 32 ≤ 140737488355328 ∧
           (∀ p4 : Option Addr, (∀ k18 : Nat, (∀ W18 : World, (XHeap.Sl W18 104 18 (Value.slice p4 (k14 + 1) k18) (k14 + 1) (l ++ l2) →
           (XHeap.XTouch (fun b => Value.ownBlock (Value.slice p3 k14 k15) = some b) W17 W18 →
           ((∀ k19 : Nat, (Value.ownBlock (Value.slice p4 (k14 + 1) k18) = some k19 →
           ((Value.ownBlock (Value.slice p3 k14 k15) = some k19) ∨
           (Array.size (World.heap W17) ≤ k19)))) →
           (XHeap.Sl W18 104 18 (Value.slice p3 k14 k15) k14 l →
           ((((p4 = p3 ∧
            k18 = k15)) ∨
           ((((XHeap.NilP p3) ∨
            (k15 < k14 + 1)) ∧
           (∀ k20 : Nat, (Value.ownBlock (Value.slice p4 (k14 + 1) k18) = some k20 →
           Array.size (World.heap W17) ≤ k20))))) →
           ((∃ v9 : Value, World.cell? W18 (Addr.mk arg0 (arg0o + 2) none) = some v9) ∧
           (World.frozen? W18 (Addr.mk arg0 (arg0o + 2) none) = false ∧
           (∀ W19 : World, (W19 = World.setCell W18 (Addr.mk arg0 (arg0o + 2) none) (Value.slice p4 (k14 + 1) k18) →
           (∃ vs8 : Array Value, (Array.size vs8 = 18 ∧
           (Sx.cellsAt W19 (Addr.mk k12 0 none) vs8 ∧
           (Array.size vs8 = 18 ∧
           ((∀ k21 : Nat, (k21 < 18 →
            ((∃ v10 : Value, World.cell? W19 (Addr.mk k2 (0 + k21) none) = some v10) ∧
            World.frozen? W19 (Addr.mk k2 (0 + k21) none) = false))) ∧
           ((∀ v11 : Value, (v11 ∈ Array.toList vs8 →
            Value.oneCell' v11 = true)) ∧
           (∀ W20 : World, (W20 = World.setCells W19 k2 0 (Array.toList vs8) →
           (∃ vs9 : Array Value, (Array.size vs9 = 18 ∧
           (Sx.cellsAt W20 (Addr.mk k2 0 none) vs9 ∧
           Q (Ending.returned (Value.tuple #[Value.agg vs9, Value.int IntKind.i64 0])) W20))))))))))))))))))))))))))))))))))))))))))))))))))))))))))))))))))))))))))))))))))))))))))))) :
  Calls Tryd.prog 47 #[Value.pointer (some ⟨arg0, arg0o, none⟩), Value.int .i64 arg1, Value.agg arg2, Value.int .i64 arg3] W Q :=
  Sx.sound Tryd.func47 (.node [] [] 0 .leaf (.node [] [] 0 (.node [(26, .bool)] [8, 0, 1, 3, 6] 1 .leaf .leaf) (.node [] [] 0 .leaf (.node [] [] 0 .leaf (.node [] [] 0 .leaf (.node [] [] 0 .leaf (.node [] [] 0 (.node [] [] 0 .leaf (.node [] [] 0 (.node [(13, .int .i64), (11, .int .i64), (12, .int .i64)] [0, 1, 3, 6, 8] 0 (.node [] [] 0 .leaf (.node [(11, .int .i64), (12, .int .i64)] [13, 0, 1, 3, 6, 8] 1 (.node [] [] 0 (.node [(64, .bool)] [11, 12, 13, 0, 1, 3, 6, 8] 1 .leaf .leaf) .leaf) .leaf)) .leaf) .leaf)) (.node [] [] 0 .leaf (.node [] [0, 1, 3, 6, 14, 8] 1 .leaf (.node [] [] 0 (.node [] [] 1010 .leaf .leaf) .leaf)))))))))) [Value.pointer (some ⟨arg0, arg0o, none⟩), Value.int .i64 arg1, Value.agg arg2, Value.int .i64 arg3] rfl (Eq.mp (by kernel_rfl) hVC)
theorem vc45 {W : World} {Q : Ending → World → Prop} (c : Nat) (co : Nat) (addr : Int) (state : Int)
  (hVC :
    (∀ k : Nat, (∀ W2 : World, (k = Array.size (World.heap W) →
    (W2 = World.alloc W (Obj.cells #[Value.int IntKind.i64 0, Value.int IntKind.i64 0, Value.int IntKind.u8 0, Value.int IntKind.u8 0, Value.int IntKind.u8 0, Value.int IntKind.u8 0, Value.int IntKind.u8 0, Value.int IntKind.u8 0, Value.int IntKind.u8 0, Value.int IntKind.u8 0, Value.int IntKind.u8 0, Value.int IntKind.u8 0, Value.int IntKind.u8 0, Value.int IntKind.u8 0, Value.int IntKind.u8 0, Value.int IntKind.u8 0, Value.int IntKind.u8 0, Value.int IntKind.u8 0] 104) →
    (∃ I : Bool → World → Prop, (((16 : Int) ≠ (0 : Int) ∧
     (∀ z : Int, (z = Int.tmod addr 16 →
     Sx.split (z != 0)
      (I true W2)
      (Sx.split (decide (state < 0))
        (I true W2)
        (I (decide (state > 2)) W2))))) ∧
    ((Nat →
    Value) →
    (∀ x : Bool, (∀ W3 : World, (I x W3 →
    Sx.split x
     ((∀ vs : Array Value, (vs = #[Value.int IntKind.i64 0, Value.int IntKind.i64 0, Value.int IntKind.u8 0, Value.int IntKind.u8 0, Value.int IntKind.u8 0, Value.int IntKind.u8 0, Value.int IntKind.u8 0, Value.int IntKind.u8 0, Value.int IntKind.u8 0, Value.int IntKind.u8 0, Value.int IntKind.u8 0, Value.int IntKind.u8 0, Value.int IntKind.u8 0, Value.int IntKind.u8 0, Value.int IntKind.u8 0, Value.int IntKind.u8 0, Value.int IntKind.u8 0, Value.int IntKind.u8 0] →
      (Array.size vs = 18 ∧
      ((∀ k2 : Nat, (k2 < 18 →
       ((∃ v : Value, World.cell? W3 (Addr.mk k (0 + k2) none) = some v) ∧
       World.frozen? W3 (Addr.mk k (0 + k2) none) = false))) ∧
      ((∀ v2 : Value, (v2 ∈ Array.toList vs →
       Value.oneCell' v2 = true)) ∧
      (∀ W4 : World, (W4 = World.setCells W3 k 0 (Array.toList vs) →
      (∃ vs2 : Array Value, (Array.size vs2 = 18 ∧
      (Sx.cellsAt W4 (Addr.mk k 0 none) vs2 ∧
      Q (Ending.returned (Value.tuple #[Value.agg vs2, Value.int IntKind.i64 3])) W4)))))))))))
     (Calls Tryd.prog 49 #[Value.pointer (some (Addr.mk c co none)), Value.int IntKind.i64 addr] W3 (fun e =>
       (fun W5 =>
       (∃ z2 : Int, (e = Ending.returned (Value.int IntKind.i64 z2) ∧
       (∃ I2 : Bool → World → Prop, (Sx.split (decide (z2 < 0))
         (I2 true W5)
         ((∃ p : Option Addr, (∃ k3 : Nat, (∃ k4 : Nat, (World.cell? W5 (Addr.mk c (co + 2) none) = some (Value.slice p k3 k4) ∧
          (((0 : Int) ≤ z2 ∧
           z2 < (↑k3 : Int)) ∧
          Sx.adr p (fun k5 =>
           (fun k6 =>
           (∃ z3 : Int, (World.cell? W5 (Addr.mk k5 (k6 + Int.toNat z2 * 18 + 1) none) = some (Value.int IntKind.i64 z3) ∧
           I2 (decide (z3 ≤ state)) W5)))))))))) ∧
       ((Nat →
       Value) →
       (∀ x2 : Bool, (∀ W6 : World, (I2 x2 W6 →
       Sx.split x2
        ((∀ vs3 : Array Value, (vs3 = #[Value.int IntKind.i64 0, Value.int IntKind.i64 0, Value.int IntKind.u8 0, Value.int IntKind.u8 0, Value.int IntKind.u8 0, Value.int IntKind.u8 0, Value.int IntKind.u8 0, Value.int IntKind.u8 0, Value.int IntKind.u8 0, Value.int IntKind.u8 0, Value.int IntKind.u8 0, Value.int IntKind.u8 0, Value.int IntKind.u8 0, Value.int IntKind.u8 0, Value.int IntKind.u8 0, Value.int IntKind.u8 0, Value.int IntKind.u8 0, Value.int IntKind.u8 0] →
         (Array.size vs3 = 18 ∧
         ((∀ k7 : Nat, (k7 < 18 →
          ((∃ v3 : Value, World.cell? W6 (Addr.mk k (0 + k7) none) = some v3) ∧
          World.frozen? W6 (Addr.mk k (0 + k7) none) = false))) ∧
         ((∀ v4 : Value, (v4 ∈ Array.toList vs3 →
          Value.oneCell' v4 = true)) ∧
         (∀ W7 : World, (W7 = World.setCells W6 k 0 (Array.toList vs3) →
         (∃ vs4 : Array Value, (Array.size vs4 = 18 ∧
         (Sx.cellsAt W7 (Addr.mk k 0 none) vs4 ∧
         Q (Ending.returned (Value.tuple #[Value.agg vs4, Value.int IntKind.i64 7])) W7)))))))))))
        ((∃ p2 : Option Addr, (∃ k8 : Nat, (∃ k9 : Nat, (World.cell? W6 (Addr.mk c (co + 2) none) = some (Value.slice p2 k8 k9) ∧
         (((0 : Int) ≤ z2 ∧
          z2 < (↑k8 : Int)) ∧
         Sx.adr p2 (fun k10 =>
          (fun k11 =>
          (∃ vs5 : Array Value, (Array.size vs5 = 18 ∧
          (Sx.cellsAt W6 (Addr.mk k10 (k11 + Int.toNat z2 * 18) none) vs5 ∧
          (∀ k12 : Nat, (∀ W8 : World, (k12 = Array.size (World.heap W6) →
          (W8 = World.alloc W6 (Obj.cells #[Value.int IntKind.i64 0, Value.int IntKind.i64 0, Value.int IntKind.u8 0, Value.int IntKind.u8 0, Value.int IntKind.u8 0, Value.int IntKind.u8 0, Value.int IntKind.u8 0, Value.int IntKind.u8 0, Value.int IntKind.u8 0, Value.int IntKind.u8 0, Value.int IntKind.u8 0, Value.int IntKind.u8 0, Value.int IntKind.u8 0, Value.int IntKind.u8 0, Value.int IntKind.u8 0, Value.int IntKind.u8 0, Value.int IntKind.u8 0, Value.int IntKind.u8 0] 104) →
          (Array.size vs5 = 18 ∧
          ((∀ k13 : Nat, (k13 < 18 →
           ((∃ v5 : Value, World.cell? W8 (Addr.mk k12 (0 + k13) none) = some v5) ∧
           World.frozen? W8 (Addr.mk k12 (0 + k13) none) = false))) ∧
          ((∀ v6 : Value, (v6 ∈ Array.toList vs5 →
           Value.oneCell' v6 = true)) ∧
          (∀ W9 : World, (W9 = World.setCells W8 k12 0 (Array.toList vs5) →
          Sx.split (state == 0)
           (Calls Tryd.prog 51 #[Value.pointer (some (Addr.mk c co none)), Value.int IntKind.i64 z2] W9 (fun e2 =>
             (fun W10 =>
             (∃ vs6 : Array Value, (e2 = Ending.returned (Value.agg vs6) ∧
             (∃ vs7 : Array Value, (Array.size vs7 = 18 ∧
             (Sx.cellsAt W10 (Addr.mk k12 0 none) vs7 ∧
             (Array.size vs7 = 18 ∧
             ((∀ k14 : Nat, (k14 < 18 →
              ((∃ v7 : Value, World.cell? W10 (Addr.mk k (0 + k14) none) = some v7) ∧
              World.frozen? W10 (Addr.mk k (0 + k14) none) = false))) ∧
             ((∀ v8 : Value, (v8 ∈ Array.toList vs7 →
              Value.oneCell' v8 = true)) ∧
             (∀ W11 : World, (W11 = World.setCells W10 k 0 (Array.toList vs7) →
             (∃ vs8 : Array Value, (Array.size vs8 = 18 ∧
             (Sx.cellsAt W11 (Addr.mk k 0 none) vs8 ∧
             Q (Ending.returned (Value.tuple #[Value.agg vs8, Value.int IntKind.i64 0])) W11))))))))))))))))
           ((∃ p3 : Option Addr, (∃ k15 : Nat, (∃ k16 : Nat, (World.cell? W9 (Addr.mk c (co + 2) none) = some (Value.slice p3 k15 k16) ∧
            (((0 : Int) ≤ z2 ∧
             z2 < (↑k15 : Int)) ∧
            Sx.adr p3 (fun k17 =>
             (fun k18 =>
             ((∃ v9 : Value, World.cell? W9 (Addr.mk k17 (k18 + Int.toNat z2 * 18 + 1) none) = some v9) ∧
             (World.frozen? W9 (Addr.mk k17 (k18 + Int.toNat z2 * 18 + 1) none) = false ∧
             (∀ W12 : World, (W12 = World.setCell W9 (Addr.mk k17 (k18 + Int.toNat z2 * 18 + 1) none) (Value.int IntKind.i64 state) →
             (∃ vs9 : Array Value, (Array.size vs9 = 18 ∧
             (Sx.cellsAt W12 (Addr.mk k12 0 none) vs9 ∧
             (Array.size vs9 = 18 ∧
             ((∀ k19 : Nat, (k19 < 18 →
              ((∃ v10 : Value, World.cell? W12 (Addr.mk k (0 + k19) none) = some v10) ∧
              World.frozen? W12 (Addr.mk k (0 + k19) none) = false))) ∧
             ((∀ v11 : Value, (v11 ∈ Array.toList vs9 →
              Value.oneCell' v11 = true)) ∧
             (∀ W13 : World, (W13 = World.setCells W12 k 0 (Array.toList vs9) →
             (∃ vs10 : Array Value, (Array.size vs10 = 18 ∧
             (Sx.cellsAt W13 (Addr.mk k 0 none) vs10 ∧
             Q (Ending.returned (Value.tuple #[Value.agg vs10, Value.int IntKind.i64 0])) W13))))))))))))))))))))))))))))))))))))))))))))))))))))))))))))))))) :
  Calls Tryd.prog 45 #[Value.pointer (some ⟨c, co, none⟩), Value.int .i64 addr, Value.int .i64 state] W Q :=
  Sx.sound Tryd.func45 (.node [] [] 0 .leaf (.node [] [] 0 (.node [(20, .bool)] [6, 0, 1, 2] 1 .leaf .leaf) (.node [] [] 0 .leaf (.node [] [] 0 (.node [(38, .bool)] [6, 0, 8, 2] 1 .leaf .leaf) .leaf)))) [Value.pointer (some ⟨c, co, none⟩), Value.int .i64 addr, Value.int .i64 state] rfl (Eq.mp (by kernel_rfl) hVC)
theorem vc49 {W : World} {Q : Ending → World → Prop} (c : Nat) (co : Nat) (addr : Int)
  (hVC :
    (∃ I : Int → World → Prop, (∃ I2 : Int → World → Nat, (I 0 W ∧
    ((Nat →
    Value) →
    (∀ i : Int, (∀ W2 : World, (I i W2 →
    (∃ p : Option Addr, (∃ k : Nat, (∃ k2 : Nat, (World.cell? W2 (Addr.mk c (co + 2) none) = some (Value.slice p k k2) ∧
    Sx.split (decide (i < (↑k : Int)))
     ((∃ p2 : Option Addr, (∃ k3 : Nat, (∃ k4 : Nat, (World.cell? W2 (Addr.mk c (co + 2) none) = some (Value.slice p2 k3 k4) ∧
      (((0 : Int) ≤ i ∧
       i < (↑k3 : Int)) ∧
      Sx.adr p2 (fun k5 =>
       (fun k6 =>
       (∃ z : Int, (World.cell? W2 (Addr.mk k5 (k6 + Int.toNat i * 18) none) = some (Value.int IntKind.i64 z) ∧
       ((16 : Int) ≠ (0 : Int) ∧
       (∀ z2 : Int, (z2 = Int.tmod addr 16 →
       (∀ z3 : Int, (z3 = IntKind.wrap IntKind.i64 (addr - z2) →
       Sx.split (z == z3)
        (Q (Ending.returned (Value.int IntKind.i64 i)) W2)
        ((∀ z4 : Int, (z4 = IntKind.wrap IntKind.i64 (i + 1) →
         (I z4 W2 ∧
         I2 z4 W2 < I2 i W2)))))))))))))))))))
     (Q (Ending.returned (Value.int IntKind.i64 (-1))) W2))))))))))))) :
  Calls Tryd.prog 49 #[Value.pointer (some ⟨c, co, none⟩), Value.int .i64 addr] W Q :=
  Sx.sound Tryd.func49 (.node [] [] 0 .leaf (.node [] [] 0 (.node [] [] 0 .leaf (.node [] [] 0 (.node [(5, .int .i64)] [0, 1] 0 .leaf .leaf) .leaf)) .leaf)) [Value.pointer (some ⟨c, co, none⟩), Value.int .i64 addr] rfl (Eq.mp (by kernel_rfl) hVC)
theorem vc51 {W : World} {Q : Ending → World → Prop} (c : Nat) (co : Nat) (i : Int)
  (hVC :
    (∀ k : Nat, (∀ W2 : World, (k = Array.size (World.heap W) →
    (W2 = World.alloc W (Obj.cells #[Value.int IntKind.i64 0, Value.int IntKind.i64 0, Value.int IntKind.u8 0, Value.int IntKind.u8 0, Value.int IntKind.u8 0, Value.int IntKind.u8 0, Value.int IntKind.u8 0, Value.int IntKind.u8 0, Value.int IntKind.u8 0, Value.int IntKind.u8 0, Value.int IntKind.u8 0, Value.int IntKind.u8 0, Value.int IntKind.u8 0, Value.int IntKind.u8 0, Value.int IntKind.u8 0, Value.int IntKind.u8 0, Value.int IntKind.u8 0, Value.int IntKind.u8 0] 104) →
    (∃ p : Option Addr, (∃ k2 : Nat, (∃ k3 : Nat, (World.cell? W2 (Addr.mk c (co + 2) none) = some (Value.slice p k2 k3) ∧
    (((0 : Int) ≤ i ∧
     i < (↑k2 : Int)) ∧
    Sx.adr p (fun k4 =>
     (fun k5 =>
     (∃ vs : Array Value, (Array.size vs = 18 ∧
     (Sx.cellsAt W2 (Addr.mk k4 (k5 + Int.toNat i * 18) none) vs ∧
     (∀ k6 : Nat, (∀ W3 : World, (k6 = Array.size (World.heap W2) →
     (W3 = World.alloc W2 (Obj.cells #[Value.int IntKind.i64 0, Value.int IntKind.i64 0, Value.int IntKind.u8 0, Value.int IntKind.u8 0, Value.int IntKind.u8 0, Value.int IntKind.u8 0, Value.int IntKind.u8 0, Value.int IntKind.u8 0, Value.int IntKind.u8 0, Value.int IntKind.u8 0, Value.int IntKind.u8 0, Value.int IntKind.u8 0, Value.int IntKind.u8 0, Value.int IntKind.u8 0, Value.int IntKind.u8 0, Value.int IntKind.u8 0, Value.int IntKind.u8 0, Value.int IntKind.u8 0] 104) →
     (Array.size vs = 18 ∧
     ((∀ k7 : Nat, (k7 < 18 →
      ((∃ v : Value, World.cell? W3 (Addr.mk k6 (0 + k7) none) = some v) ∧
      World.frozen? W3 (Addr.mk k6 (0 + k7) none) = false))) ∧
     ((∀ v2 : Value, (v2 ∈ Array.toList vs →
      Value.oneCell' v2 = true)) ∧
     (∀ W4 : World, (W4 = World.setCells W3 k6 0 (Array.toList vs) →
     (∃ p2 : Option Addr, (∃ k8 : Nat, (∃ k9 : Nat, (World.cell? W4 (Addr.mk c (co + 2) none) = some (Value.slice p2 k8 k9) ∧
     (((0 : Int) ≤ i ∧
      i ≤ (↑k9 : Int)) ∧
     (∃ l : List Value, (∃ l2 : List Value, (XHeap.Sl W4 104 18 (Value.slice none 0 0) 0 l ∧
     ((((Int.toNat i = 0 ∧
       p2 = none)) ∨
      ((∃ a : Addr, (p2 = some a ∧
      (∀ k10 : Nat, (∀ v3 : Value, (l2[k10]? = some v3 →
      World.cell? W4 (Addr.add a k10) = some v3))))))) ∧
     (List.length l2 = Int.toNat i * 18 ∧
     ((∀ v4 : Value, (v4 ∈ l2 →
      Value.oneCell' v4 = true)) ∧
     (0 + Int.toNat i ≤ maxLen ∧
     ((0 + Int.toNat i) * 32 ≤ 140737488355328 ∧
     (∀ p3 : Option Addr, (∀ k11 : Nat, (∀ W5 : World, (XHeap.Sl W5 104 18 (Value.slice p3 (0 + Int.toNat i) k11) (0 + Int.toNat i) (l ++ l2) →
     (XHeap.XTouch (fun b => Value.ownBlock (Value.slice none 0 0) = some b) W4 W5 →
     ((∀ k12 : Nat, (Value.ownBlock (Value.slice p3 (0 + Int.toNat i) k11) = some k12 →
     ((Value.ownBlock (Value.slice none 0 0) = some k12) ∨
     (Array.size (World.heap W4) ≤ k12)))) →
     (XHeap.Sl W5 104 18 (Value.slice none 0 0) 0 l →
     ((((p3 = none ∧
      k11 = 0)) ∨
     ((((XHeap.NilP none) ∨
      ((0 : Nat) < (0 : Nat) + Int.toNat i)) ∧
     (∀ k13 : Nat, (Value.ownBlock (Value.slice p3 (0 + Int.toNat i) k11) = some k13 →
     Array.size (World.heap W4) ≤ k13))))) →
     (∃ p4 : Option Addr, (∃ k14 : Nat, (∃ k15 : Nat, (World.cell? W5 (Addr.mk c (co + 2) none) = some (Value.slice p4 k14 k15) ∧
     (∀ z : Int, (z = IntKind.wrap IntKind.i64 (i + 1) →
     (((0 : Int) ≤ z ∧
      z ≤ (↑k14 : Int)) ∧
     (∃ l3 : List Value, (∃ l4 : List Value, (XHeap.Sl W5 104 18 (Value.slice p3 (0 + Int.toNat i) k11) (0 + Int.toNat i) l3 ∧
     ((((k14 - Int.toNat z = 0 ∧
       Sx.sub p4 k15 (Int.toNat z) 18 = none)) ∨
      ((∃ a2 : Addr, (Sx.sub p4 k15 (Int.toNat z) 18 = some a2 ∧
      (∀ k16 : Nat, (∀ v5 : Value, (l4[k16]? = some v5 →
      World.cell? W5 (Addr.add a2 k16) = some v5))))))) ∧
     (List.length l4 = (k14 - Int.toNat z) * 18 ∧
     ((∀ v6 : Value, (v6 ∈ l4 →
      Value.oneCell' v6 = true)) ∧
     (0 + Int.toNat i + (k14 - Int.toNat z) ≤ maxLen ∧
     ((0 + Int.toNat i + (k14 - Int.toNat z)) * 32 ≤ 140737488355328 ∧
     (∀ p5 : Option Addr, (∀ k17 : Nat, (∀ W6 : World, (XHeap.Sl W6 104 18 (Value.slice p5 (0 + Int.toNat i + (k14 - Int.toNat z)) k17) (0 + Int.toNat i + (k14 - Int.toNat z)) (l3 ++ l4) →
     (XHeap.XTouch (fun b => Value.ownBlock (Value.slice p3 (0 + Int.toNat i) k11) = some b) W5 W6 →
     ((∀ k18 : Nat, (Value.ownBlock (Value.slice p5 (0 + Int.toNat i + (k14 - Int.toNat z)) k17) = some k18 →
     ((Value.ownBlock (Value.slice p3 (0 + Int.toNat i) k11) = some k18) ∨
     (Array.size (World.heap W5) ≤ k18)))) →
     (XHeap.Sl W6 104 18 (Value.slice p3 (0 + Int.toNat i) k11) (0 + Int.toNat i) l3 →
     ((((p5 = p3 ∧
      k17 = k11)) ∨
     ((((XHeap.NilP p3) ∨
      (k11 < 0 + Int.toNat i + (k14 - Int.toNat z))) ∧
     (∀ k19 : Nat, (Value.ownBlock (Value.slice p5 (0 + Int.toNat i + (k14 - Int.toNat z)) k17) = some k19 →
     Array.size (World.heap W5) ≤ k19))))) →
     ((∃ v7 : Value, World.cell? W6 (Addr.mk c (co + 2) none) = some v7) ∧
     (World.frozen? W6 (Addr.mk c (co + 2) none) = false ∧
     (∀ W7 : World, (W7 = World.setCell W6 (Addr.mk c (co + 2) none) (Value.slice p5 (0 + Int.toNat i + (k14 - Int.toNat z)) k17) →
     (∃ vs2 : Array Value, (Array.size vs2 = 18 ∧
     (Sx.cellsAt W7 (Addr.mk k6 0 none) vs2 ∧
     (Array.size vs2 = 18 ∧
     ((∀ k20 : Nat, (k20 < 18 →
      ((∃ v8 : Value, World.cell? W7 (Addr.mk k (0 + k20) none) = some v8) ∧
      World.frozen? W7 (Addr.mk k (0 + k20) none) = false))) ∧
     ((∀ v9 : Value, (v9 ∈ Array.toList vs2 →
      Value.oneCell' v9 = true)) ∧
     (∀ W8 : World, (W8 = World.setCells W7 k 0 (Array.toList vs2) →
     (∃ vs3 : Array Value, (Array.size vs3 = 18 ∧
     (Sx.cellsAt W8 (Addr.mk k 0 none) vs3 ∧
     Q (Ending.returned (Value.agg vs3)) W8))))))))))))))))))))))))))))))))))))))))))))))))))))))))))))))))))))))))))))))))))) :
  Calls Tryd.prog 51 #[Value.pointer (some ⟨c, co, none⟩), Value.int .i64 i] W Q :=
  Sx.sound Tryd.func51 .leaf [Value.pointer (some ⟨c, co, none⟩), Value.int .i64 i] rfl (Eq.mp (by kernel_rfl) hVC)
theorem vc50 {W : World} {Q : Ending → World → Prop} (addr : Int) (size : Int)
  (hVC :
    Sx.split (size == 1)
     ((size ≠ 0 ∧
      (∀ z : Int, (z = Int.tmod addr size →
      Q (Ending.returned (Value.bool (z == 0))) W))))
     (Sx.split (size == 2)
       ((size ≠ 0 ∧
        (∀ z2 : Int, (z2 = Int.tmod addr size →
        Q (Ending.returned (Value.bool (z2 == 0))) W))))
       (Sx.split (size == 4)
         ((size ≠ 0 ∧
          (∀ z3 : Int, (z3 = Int.tmod addr size →
          Q (Ending.returned (Value.bool (z3 == 0))) W))))
         (Q (Ending.returned (Value.bool false)) W)))) :
  Calls Tryd.prog 50 #[Value.int .i64 addr, Value.int .i64 size] W Q :=
  Sx.sound Tryd.func50 .leaf [Value.int .i64 addr, Value.int .i64 size] rfl (Eq.mp (by kernel_rfl) hVC)
end Go.Proofs.YtbiogceijdcoiaaDoor
