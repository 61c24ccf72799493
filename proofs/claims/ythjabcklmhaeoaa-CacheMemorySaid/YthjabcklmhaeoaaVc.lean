/- What each function asks, reckoned out of its text; printed by a program of mine (wip/tpl/VcTool.lean). No condition. -/
import Derived.Test.YthjabcklmhaeoaaSxB
import Derived.Test.YthjabcklmhaeoaaChecked
namespace Go.Proofs.Ythjabcklmhaeoaa
open Go Go.Proofs
set_option linter.unusedVariables false
set_option maxRecDepth 100000
theorem vc4 {W : World} {Q : Ending → World → Prop} (s : Array Value)
  (h :
    (∀ k : Nat, (∀ W2 : World, (k = Array.size (World.heap W) →
    (W2 = World.alloc W (Obj.cells (Value.cells (Value.agg s)) 30) →
    (∃ z : Int, (World.cell? W2 (Addr.mk k 0 none) = some (Value.int IntKind.i64 z) ∧
    Sx.split (decide (z < 1))
     (Q (Ending.returned (Value.tuple #[Value.pointer none, Value.iface 48 (Value.int IntKind.i64 2)])) W2)
     ((∃ z2 : Int, (World.cell? W2 (Addr.mk k 0 none) = some (Value.int IntKind.i64 z2) ∧
      Sx.split (decide (z2 > 16))
       (Q (Ending.returned (Value.tuple #[Value.pointer none, Value.iface 48 (Value.int IntKind.i64 2)])) W2)
       ((∃ z3 : Int, (World.cell? W2 (Addr.mk k 0 none) = some (Value.int IntKind.i64 z3) ∧
        (∃ z4 : Int, (World.cell? W2 (Addr.mk k 0 none) = some (Value.int IntKind.i64 z4) ∧
        (∀ z5 : Int, (z5 = IntKind.wrap IntKind.i64 (z4 - 1) →
        (∀ z6 : Int, (z6 = IntKind.wrap IntKind.i64 (↑(BitVec.toNat (BitVec.ofInt (IntKind.bits IntKind.i64) z3 &&& BitVec.ofInt (IntKind.bits IntKind.i64) z5)) : Int) →
        Sx.split (z6 != 0)
         (Q (Ending.returned (Value.tuple #[Value.pointer none, Value.iface 48 (Value.int IntKind.i64 2)])) W2)
         ((∃ z7 : Int, (World.cell? W2 (Addr.mk k (0 + 1) none) = some (Value.int IntKind.i64 z7) ∧
          Sx.split (decide (z7 < 1))
           (Q (Ending.returned (Value.tuple #[Value.pointer none, Value.iface 48 (Value.int IntKind.i64 2)])) W2)
           ((∃ z8 : Int, (World.cell? W2 (Addr.mk k (0 + 1) none) = some (Value.int IntKind.i64 z8) ∧
            Sx.split (decide (z8 > 4))
             (Q (Ending.returned (Value.tuple #[Value.pointer none, Value.iface 48 (Value.int IntKind.i64 2)])) W2)
             ((∀ vs : Array Value, (vs = #[Value.slice none 0 0, Value.int IntKind.i64 0] →
              (∀ k2 : Nat, (∀ W3 : World, (k2 = Array.size (World.heap W2) →
              (W3 = World.alloc W2 (Obj.cells (Value.cells (Value.agg vs)) 51) →
              (∃ z9 : Int, (World.cell? W3 (Addr.mk k 0 none) = some (Value.int IntKind.i64 z9) ∧
              (∃ I : Int → World → Prop, (∃ I2 : Int → World → Nat, (I 0 W3 ∧
              ((Nat →
              Value) →
              (∀ x : Int, (∀ W4 : World, (I x W4 →
              Sx.split (decide (x < z9))
               ((∀ W5 : World, (W5 = World.drew W4 →
                (∃ p : Option Addr, (∃ k3 : Nat, (∃ k4 : Nat, (World.cell? W5 (Addr.mk k2 0 none) = some (Value.slice p k3 k4) ∧
                (∃ z10 : Int, (World.cell? W5 (Addr.mk k (0 + 1) none) = some (Value.int IntKind.i64 z10) ∧
                (((0 : Int) ≤ z10 ∧
                 (z10 ≤ z10 ∧
                 (z10 ≤ 9223372036854775807 ∧
                 (↑40 : Int) * z10 ≤ 281474976710656))) ∧
                (∀ k5 : Nat, (∀ W6 : World, (k5 = Array.size (World.heap W5) →
                (W6 = World.alloc W5 (Obj.cells (madeCells #[Value.int IntKind.u32 0, Value.int IntKind.i64 0, Value.int IntKind.i64 0, Value.int IntKind.u8 0, Value.int IntKind.u8 0, Value.int IntKind.u8 0, Value.int IntKind.u8 0, Value.int IntKind.u8 0, Value.int IntKind.u8 0, Value.int IntKind.u8 0, Value.int IntKind.u8 0, Value.int IntKind.u8 0, Value.int IntKind.u8 0, Value.int IntKind.u8 0, Value.int IntKind.u8 0, Value.int IntKind.u8 0, Value.int IntKind.u8 0, Value.int IntKind.u8 0, Value.int IntKind.u8 0] (Int.toNat z10 * 19)) 56) →
                (RowKit.Below (Array.size (World.heap W5)) W5 W6 ∧
                (∀ k6 : Nat, (∀ W7 : World, (k6 = Array.size (World.heap W6) →
                (W7 = World.alloc W6 (Obj.cells #[Value.slice (some (Addr.mk k5 0 none)) (Int.toNat z10) (Int.toNat z10)] 52) →
                (RowKit.Below (Array.size (World.heap W5)) W5 W7 ∧
                (∃ l : List Value, (∃ l2 : List Value, (XHeap.Sl W7 52 1 (Value.slice p k3 k4) k3 l ∧
                (((((1 : Nat) = (0 : Nat) ∧
                  some (Addr.mk k6 0 none) = none)) ∨
                 ((∃ a : Addr, (some (Addr.mk k6 0 none) = some a ∧
                 (∀ k7 : Nat, (∀ v : Value, (l2[k7]? = some v →
                 World.cell? W7 (Addr.add a k7) = some v))))))) ∧
                (List.length l2 = 1 ∧
                ((∀ v2 : Value, (v2 ∈ l2 →
                 Value.oneCell' v2 = true)) ∧
                (k3 + 1 ≤ maxLen ∧
                ((k3 + 1) * 24 ≤ 140737488355328 ∧
                (∀ p2 : Option Addr, (∀ k8 : Nat, (∀ W8 : World, (XHeap.Sl W8 52 1 (Value.slice p2 (k3 + 1) k8) (k3 + 1) (l ++ l2) →
                (XHeap.XTouch (fun b => Value.ownBlock (Value.slice p k3 k4) = some b) W7 W8 →
                ((∀ k9 : Nat, (Value.ownBlock (Value.slice p2 (k3 + 1) k8) = some k9 →
                ((Value.ownBlock (Value.slice p k3 k4) = some k9) ∨
                (Array.size (World.heap W7) ≤ k9)))) →
                ((∃ v3 : Value, World.cell? W8 (Addr.mk k2 0 none) = some v3) ∧
                (World.frozen? W8 (Addr.mk k2 0 none) = false ∧
                (∀ W9 : World, (W9 = World.setCell W8 (Addr.mk k2 0 none) (Value.slice p2 (k3 + 1) k8) →
                (∀ z11 : Int, (z11 = IntKind.wrap IntKind.i64 (x + 1) →
                (I z11 W9 ∧
                I2 z11 W9 < I2 x W4)))))))))))))))))))))))))))))))))))))))))
               (Q (Ending.returned (Value.tuple #[Value.pointer (some (Addr.mk k2 0 none)), Value.nilIface])) W4)))))))))))))))))))))))))))))))))))))))))) :
  Calls Try.prog 4 #[Value.agg s] W Q :=
  Sx.sound Try.func4 (.node [] [] 0 .leaf (.node [] [] 0 .leaf (.node [] [] 0 .leaf (.node [] [] 0 (.node [] [] 0 .leaf (.node [] [] 0 (.node [(37, .int .i64)] [36, 4, 1] 0 (.node [] [] 0 .leaf (.node [] [] 0 .leaf (.node [] [] 0 (.node [] [] 0 (.node [] [] 1010 .leaf .leaf) .leaf) .leaf))) .leaf) .leaf)) .leaf)))) [Value.agg s] rfl (Eq.mp (by kernel_rfl) h)
theorem vc5 {W : World} {Q : Ending → World → Prop} (c : Int) (n : Int)
  (h :
    Sx.split (decide (c < 0))
     ((∀ z : Int, (z = IntKind.wrap IntKind.i64 (c + 1) →
      (n ≠ 0 ∧
      (∀ z2 : Int, (z2 = Int.tmod (IntKind.wrap IntKind.i64 (0 - z)) n →
      Q (Ending.returned (Value.int IntKind.i64 z2)) W))))))
     ((n ≠ 0 ∧
      (∀ z3 : Int, (z3 = Int.tmod c n →
      Q (Ending.returned (Value.int IntKind.i64 z3)) W))))) :
  Calls Try.prog 5 #[Value.int .i64 c, Value.int .i64 n] W Q :=
  Sx.sound Try.func5 .leaf [Value.int .i64 c, Value.int .i64 n] rfl (Eq.mp (by kernel_rfl) h)
theorem vc6 {W : World} {Q : Ending → World → Prop} (c : Nat) (co : Nat) (addr : Int)
  (h :
    Calls Try.prog 10 #[Value.pointer (some (Addr.mk c co none)), Value.int IntKind.u32 addr] W (fun e =>
     (fun W2 =>
     (∃ p : Option Addr, (e = Ending.returned (Value.pointer p) ∧
     Sx.split (Option.isSome p)
      (Sx.ptr p (fun a =>
        (∃ z : Int, (World.cell? W2 (Addr.add a 1) = some (Value.int IntKind.i64 z) ∧
        Q (Ending.returned (Value.int IntKind.i64 z)) W2))))
      (Q (Ending.returned (Value.int IntKind.i64 0)) W2)))))) :
  Calls Try.prog 6 #[Value.pointer (some ⟨c, co, none⟩), Value.int .u32 addr] W Q :=
  Sx.sound Try.func6 .leaf [Value.pointer (some ⟨c, co, none⟩), Value.int .u32 addr] rfl (Eq.mp (by kernel_rfl) h)
theorem vc7 {W : World} {Q : Ending → World → Prop} (a0 : Nat) (a0o : Nat) (a1 : Int) (a2 : Array Value) (a3 : Int)
  (h :
    (∀ k : Nat, (∀ W2 : World, (k = Array.size (World.heap W) →
    (W2 = World.alloc W (Obj.cells (Value.cells (Value.agg a2)) 38) →
    (∀ k2 : Nat, (∀ W3 : World, (k2 = Array.size (World.heap W2) →
    (W3 = World.alloc W2 (Obj.cells #[Value.int IntKind.u32 0, Value.int IntKind.i64 0, Value.int IntKind.u8 0, Value.int IntKind.u8 0, Value.int IntKind.u8 0, Value.int IntKind.u8 0, Value.int IntKind.u8 0, Value.int IntKind.u8 0, Value.int IntKind.u8 0, Value.int IntKind.u8 0, Value.int IntKind.u8 0, Value.int IntKind.u8 0, Value.int IntKind.u8 0, Value.int IntKind.u8 0, Value.int IntKind.u8 0, Value.int IntKind.u8 0, Value.int IntKind.u8 0, Value.int IntKind.u8 0] 40) →
    (∀ z : Int, (z = IntKind.wrap IntKind.u32 (↑(BitVec.toNat (BitVec.ofInt (IntKind.bits IntKind.u32) a1 &&& BitVec.ofInt (IntKind.bits IntKind.u32) 15)) : Int) →
    Sx.split (z != 0)
     ((∃ vs : Array Value, (Array.size vs = 18 ∧
      (Sx.cellsAt W3 (Addr.mk k2 0 none) vs ∧
      (Array.size vs = 18 ∧
      ((∀ k3 : Nat, (k3 < 18 →
       ((∃ v : Value, World.cell? W3 (Addr.mk k2 (0 + k3) none) = some v) ∧
       World.frozen? W3 (Addr.mk k2 (0 + k3) none) = false))) ∧
      ((∀ v2 : Value, (v2 ∈ Array.toList vs →
       Value.oneCell' v2 = true)) ∧
      (∀ W4 : World, (W4 = World.setCells W3 k2 0 (Array.toList vs) →
      (∃ vs2 : Array Value, (Array.size vs2 = 18 ∧
      (Sx.cellsAt W4 (Addr.mk k2 0 none) vs2 ∧
      Q (Ending.returned (Value.tuple #[Value.agg vs2, Value.bool false, Value.iface 48 (Value.int IntKind.i64 3)])) W4))))))))))))
     (Sx.split (decide (a3 < 1))
       ((∃ vs3 : Array Value, (Array.size vs3 = 18 ∧
        (Sx.cellsAt W3 (Addr.mk k2 0 none) vs3 ∧
        (Array.size vs3 = 18 ∧
        ((∀ k4 : Nat, (k4 < 18 →
         ((∃ v3 : Value, World.cell? W3 (Addr.mk k2 (0 + k4) none) = some v3) ∧
         World.frozen? W3 (Addr.mk k2 (0 + k4) none) = false))) ∧
        ((∀ v4 : Value, (v4 ∈ Array.toList vs3 →
         Value.oneCell' v4 = true)) ∧
        (∀ W5 : World, (W5 = World.setCells W3 k2 0 (Array.toList vs3) →
        (∃ vs4 : Array Value, (Array.size vs4 = 18 ∧
        (Sx.cellsAt W5 (Addr.mk k2 0 none) vs4 ∧
        Q (Ending.returned (Value.tuple #[Value.agg vs4, Value.bool false, Value.iface 48 (Value.int IntKind.i64 3)])) W5))))))))))))
       (Sx.split (decide (a3 > 3))
         ((∃ vs5 : Array Value, (Array.size vs5 = 18 ∧
          (Sx.cellsAt W3 (Addr.mk k2 0 none) vs5 ∧
          (Array.size vs5 = 18 ∧
          ((∀ k5 : Nat, (k5 < 18 →
           ((∃ v5 : Value, World.cell? W3 (Addr.mk k2 (0 + k5) none) = some v5) ∧
           World.frozen? W3 (Addr.mk k2 (0 + k5) none) = false))) ∧
          ((∀ v6 : Value, (v6 ∈ Array.toList vs5 →
           Value.oneCell' v6 = true)) ∧
          (∀ W6 : World, (W6 = World.setCells W3 k2 0 (Array.toList vs5) →
          (∃ vs6 : Array Value, (Array.size vs6 = 18 ∧
          (Sx.cellsAt W6 (Addr.mk k2 0 none) vs6 ∧
          Q (Ending.returned (Value.tuple #[Value.agg vs6, Value.bool false, Value.iface 48 (Value.int IntKind.i64 3)])) W6))))))))))))
         (Calls Try.prog 10 #[Value.pointer (some (Addr.mk a0 a0o none)), Value.int IntKind.u32 a1] W3 (fun e =>
           (fun W7 =>
           (∃ p : Option Addr, (e = Ending.returned (Value.pointer p) ∧
           Sx.split (Option.isSome p)
            ((∃ vs7 : Array Value, (Array.size vs7 = 18 ∧
             (Sx.cellsAt W7 (Addr.mk k2 0 none) vs7 ∧
             (Array.size vs7 = 18 ∧
             ((∀ k6 : Nat, (k6 < 18 →
              ((∃ v7 : Value, World.cell? W7 (Addr.mk k2 (0 + k6) none) = some v7) ∧
              World.frozen? W7 (Addr.mk k2 (0 + k6) none) = false))) ∧
             ((∀ v8 : Value, (v8 ∈ Array.toList vs7 →
              Value.oneCell' v8 = true)) ∧
             (∀ W8 : World, (W8 = World.setCells W7 k2 0 (Array.toList vs7) →
             (∃ vs8 : Array Value, (Array.size vs8 = 18 ∧
             (Sx.cellsAt W8 (Addr.mk k2 0 none) vs8 ∧
             Q (Ending.returned (Value.tuple #[Value.agg vs8, Value.bool false, Value.iface 48 (Value.int IntKind.i64 7)])) W8))))))))))))
            (Calls Try.prog 11 #[Value.pointer (some (Addr.mk a0 a0o none)), Value.int IntKind.u32 a1] W7 (fun e2 =>
              (fun W9 =>
              (∃ p2 : Option Addr, (∃ k7 : Nat, (∃ k8 : Nat, (e2 = Ending.returned (Value.slice p2 k7 k8) ∧
              (((0 : Int) ≤ (0 : Int) ∧
               (0 : Int) < (↑k7 : Int)) ∧
              Sx.adr p2 (fun k9 =>
               (fun k10 =>
               (∃ I : Int → Option Addr → World → Prop, (∃ I2 : Int → Option Addr → World → Nat, (I 0 (some (Addr.mk k9 (k10 + 0) none)) W9 ∧
               ((Nat →
               Value) →
               (∀ x : Int, (∀ x2 : Option Addr, (∀ W10 : World, (I x x2 W10 →
               Sx.split (decide (x < (↑k7 : Int)))
                ((((0 : Int) ≤ x ∧
                  x < (↑k7 : Int)) ∧
                 Sx.adr p2 (fun k11 =>
                  (fun k12 =>
                  (∃ z2 : Int, (World.cell? W10 (Addr.mk k11 (k12 + Int.toNat x * 19 + 2) none) = some (Value.int IntKind.i64 z2) ∧
                  Sx.ptr x2 (fun a =>
                   (∃ z3 : Int, (World.cell? W10 (Addr.add a 2) = some (Value.int IntKind.i64 z3) ∧
                   (∀ W11 : World, (∀ k13 : Nat, (W11 = World.drewN W10 k13 →
                   Sx.split (decide (z2 < z3))
                    ((((0 : Int) ≤ x ∧
                      x < (↑k7 : Int)) ∧
                     Sx.adr p2 (fun k14 =>
                      (fun k15 =>
                      (∀ z4 : Int, (z4 = IntKind.wrap IntKind.i64 (x + 1) →
                      (I z4 (some (Addr.mk k14 (k15 + Int.toNat x * 19) none)) W11 ∧
                      I2 z4 (some (Addr.mk k14 (k15 + Int.toNat x * 19) none)) W11 < I2 x x2 W10)))))))
                    ((∀ z5 : Int, (z5 = IntKind.wrap IntKind.i64 (x + 1) →
                     (I z5 x2 W11 ∧
                     I2 z5 x2 W11 < I2 x x2 W10))))))))))))))))
                ((∃ I3 : Bool → World → Prop, (Sx.ptr x2 (fun a2 =>
                   (∃ z6 : Int, (World.cell? W10 (Addr.add a2 1) = some (Value.int IntKind.i64 z6) ∧
                   Sx.split (z6 != 0)
                    (Calls Try.prog 12 #[Value.pointer x2] W10 (fun e3 =>
                      (fun W12 =>
                      (∃ vs9 : Array Value, (e3 = Ending.returned (Value.agg vs9) ∧
                      (Array.size vs9 = 18 ∧
                      ((∀ k16 : Nat, (k16 < 18 →
                       ((∃ v9 : Value, World.cell? W12 (Addr.mk k2 (0 + k16) none) = some v9) ∧
                       World.frozen? W12 (Addr.mk k2 (0 + k16) none) = false))) ∧
                      ((∀ v10 : Value, (v10 ∈ Array.toList vs9 →
                       Value.oneCell' v10 = true)) ∧
                      (∀ W13 : World, (W13 = World.setCells W12 k2 0 (Array.toList vs9) →
                      I3 (z6 != 0) W13))))))))))
                    (I3 (z6 != 0) W10)))) ∧
                 ((Nat →
                 Value) →
                 (∀ x3 : Bool, (∀ W14 : World, (I3 x3 W14 →
                 (∃ vs10 : Array Value, (Array.size vs10 = 16 ∧
                 (Sx.cellsAt W14 (Addr.mk k 0 none) vs10 ∧
                 (Array.size vs10 = 16 ∧
                 (∀ vs11 : Array Value, (vs11 = List.toArray (Value.int IntKind.u32 a1 :: Value.int IntKind.i64 a3 :: Value.int IntKind.i64 0 :: (Array.toList vs10 ++ [])) →
                 Sx.ptr x2 (fun a3 =>
                  Sx.adr (some a3) (fun k17 =>
                   (fun k18 =>
                   (Array.size vs11 = 19 ∧
                   ((∀ k19 : Nat, (k19 < 19 →
                    ((∃ v11 : Value, World.cell? W14 (Addr.mk k17 (k18 + k19) none) = some v11) ∧
                    World.frozen? W14 (Addr.mk k17 (k18 + k19) none) = false))) ∧
                   ((∀ v12 : Value, (v12 ∈ Array.toList vs11 →
                    Value.oneCell' v12 = true)) ∧
                   (∀ W15 : World, (W15 = World.setCells W14 k17 k18 (Array.toList vs11) →
                   Calls Try.prog 13 #[Value.pointer (some (Addr.mk a0 a0o none)), Value.pointer x2] W15 (fun e4 =>
                    (fun W16 =>
                    (e4 = Ending.returned (Value.tuple #[]) ∧
                    (∃ vs12 : Array Value, (Array.size vs12 = 18 ∧
                    (Sx.cellsAt W16 (Addr.mk k2 0 none) vs12 ∧
                    (Array.size vs12 = 18 ∧
                    ((∀ k20 : Nat, (k20 < 18 →
                     ((∃ v13 : Value, World.cell? W16 (Addr.mk k2 (0 + k20) none) = some v13) ∧
                     World.frozen? W16 (Addr.mk k2 (0 + k20) none) = false))) ∧
                    ((∀ v14 : Value, (v14 ∈ Array.toList vs12 →
                     Value.oneCell' v14 = true)) ∧
                    (∀ W17 : World, (W17 = World.setCells W16 k2 0 (Array.toList vs12) →
                    (∃ vs13 : Array Value, (Array.size vs13 = 18 ∧
                    (Sx.cellsAt W17 (Addr.mk k2 0 none) vs13 ∧
                    Q (Ending.returned (Value.tuple #[Value.agg vs13, Value.bool x3, Value.nilIface])) W17))))))))))))))))))))))))))))))))))))))))))))))))))))))))))))))))))))))) :
  Calls Try.prog 7 #[Value.pointer (some ⟨a0, a0o, none⟩), Value.int .u32 a1, Value.agg a2, Value.int .i64 a3] W Q :=
  Sx.sound Try.func7 (.node [] [] 0 .leaf (.node [] [] 0 .leaf (.node [] [] 0 .leaf (.node [] [] 0 .leaf (.node [] [] 0 .leaf (.node [] [] 0 (.node [] [] 0 .leaf (.node [] [] 0 (.node [(40, .int .i64), (12, .ptr)] [39, 11, 8, 1, 3, 6, 0] 0 .leaf .leaf) .leaf)) (.node [(9, .bool)] [12, 1, 3, 6, 0, 8] 1 .leaf .leaf))))))) [Value.pointer (some ⟨a0, a0o, none⟩), Value.int .u32 a1, Value.agg a2, Value.int .i64 a3] rfl (Eq.mp (by kernel_rfl) h)
theorem vc8 {W : World} {Q : Ending → World → Prop} (c : Nat) (co : Nat) (addr : Int) (size : Int) (data : Int)
  (h :
    Calls Try.prog 14 #[Value.pointer (some (Addr.mk c co none)), Value.int IntKind.u32 addr, Value.int IntKind.i64 size, Value.int IntKind.i64 2] W (fun e =>
     (fun W2 =>
     (∃ p : Option Addr, (∃ p2 : Option Addr, (∃ k : Nat, (∃ k2 : Nat, (e = Ending.returned (Value.tuple #[Value.pointer p, Value.slice p2 k k2]) ∧
     Sx.split (Option.isNone p)
      (Q (Ending.returned (Value.bool false)) W2)
      ((∃ I : Int → World → Prop, (∃ I2 : Int → World → Nat, (I 0 W2 ∧
       ((Nat →
       Value) →
       (∀ x : Int, (∀ W3 : World, (I x W3 →
       Sx.split (decide (x < (↑k : Int)))
        ((∀ z : Int, (z = IntKind.wrap IntKind.i64 (8 * x) →
         ((0 : Int) ≤ z ∧
         (∀ z2 : Int, (z2 = Int.fdiv data (2 ^ min (Int.toNat z) (IntKind.bits IntKind.u32)) →
         (∀ z3 : Int, (z3 = IntKind.wrap IntKind.u8 z2 →
         (((0 : Int) ≤ x ∧
          x < (↑k : Int)) ∧
         Sx.adr p2 (fun k3 =>
          (fun k4 =>
          ((∃ v : Value, World.cell? W3 (Addr.mk k3 (k4 + Int.toNat x * 1) none) = some v) ∧
          (World.frozen? W3 (Addr.mk k3 (k4 + Int.toNat x * 1) none) = false ∧
          (∀ W4 : World, (W4 = World.setCell W3 (Addr.mk k3 (k4 + Int.toNat x * 1) none) (Value.int IntKind.u8 z3) →
          (∀ z4 : Int, (z4 = IntKind.wrap IntKind.i64 (x + 1) →
          (I z4 W4 ∧
          I2 z4 W4 < I2 x W3))))))))))))))))))
        (Sx.ptr p (fun a =>
          ((∃ v2 : Value, World.cell? W3 (Addr.add a 1) = some v2) ∧
          (World.frozen? W3 (Addr.add a 1) = false ∧
          (∀ W5 : World, (W5 = World.setCell W3 (Addr.add a 1) (Value.int IntKind.i64 3) →
          Q (Ending.returned (Value.bool true)) W5)))))))))))))))))))))) :
  Calls Try.prog 8 #[Value.pointer (some ⟨c, co, none⟩), Value.int .u32 addr, Value.int .i64 size, Value.int .u32 data] W Q :=
  Sx.sound Try.func8 (.node [] [] 0 .leaf (.node [] [] 0 .leaf (.node [] [] 0 .leaf (.node [] [] 0 (.node [] [] 0 .leaf (.node [] [] 0 (.node [(23, .int .i64)] [22, 10, 3, 9] 0 .leaf .leaf) .leaf)) .leaf)))) [Value.pointer (some ⟨c, co, none⟩), Value.int .u32 addr, Value.int .i64 size, Value.int .u32 data] rfl (Eq.mp (by kernel_rfl) h)
theorem vc9 {W : World} {Q : Ending → World → Prop} (c : Nat) (co : Nat) (addr : Int) (size : Int)
  (h :
    Calls Try.prog 14 #[Value.pointer (some (Addr.mk c co none)), Value.int IntKind.u32 addr, Value.int IntKind.i64 size, Value.int IntKind.i64 1] W (fun e =>
     (fun W2 =>
     (∃ p : Option Addr, (∃ p2 : Option Addr, (∃ k : Nat, (∃ k2 : Nat, (e = Ending.returned (Value.tuple #[Value.pointer p, Value.slice p2 k k2]) ∧
     (∃ I : Int → Int → World → Prop, (∃ I2 : Int → Int → World → Nat, (I 0 0 W2 ∧
     ((Nat →
     Value) →
     (∀ x : Int, (∀ v : Int, (∀ W3 : World, (I x v W3 →
     Sx.split (decide (x < (↑k : Int)))
      ((((0 : Int) ≤ x ∧
        x < (↑k : Int)) ∧
       Sx.adr p2 (fun k3 =>
        (fun k4 =>
        (∃ z : Int, (World.cell? W3 (Addr.mk k3 (k4 + Int.toNat x * 1) none) = some (Value.int IntKind.u8 z) ∧
        (∀ z2 : Int, (z2 = IntKind.wrap IntKind.u32 z →
        (∀ z3 : Int, (z3 = IntKind.wrap IntKind.i64 (8 * x) →
        ((0 : Int) ≤ z3 ∧
        (∀ z4 : Int, (z4 = IntKind.wrap IntKind.u32 (z2 * 2 ^ min (Int.toNat z3) (IntKind.bits IntKind.u32)) →
        (∀ z5 : Int, (z5 = IntKind.wrap IntKind.u32 (↑(BitVec.toNat (BitVec.ofInt (IntKind.bits IntKind.u32) v ||| BitVec.ofInt (IntKind.bits IntKind.u32) z4)) : Int) →
        (∀ z6 : Int, (z6 = IntKind.wrap IntKind.i64 (x + 1) →
        (I z6 z5 W3 ∧
        I2 z6 z5 W3 < I2 x v W3))))))))))))))))))
      (Q (Ending.returned (Value.tuple #[Value.int IntKind.u32 v, Value.bool (Option.isSome p)])) W3))))))))))))))))) :
  Calls Try.prog 9 #[Value.pointer (some ⟨c, co, none⟩), Value.int .u32 addr, Value.int .i64 size] W Q :=
  Sx.sound Try.func9 (.node [] [] 0 .leaf (.node [] [] 0 .leaf (.node [] [] 0 (.node [] [] 0 .leaf (.node [] [] 0 (.node [(21, .int .i64), (6, .int .u32)] [20, 19, 8] 0 .leaf .leaf) .leaf)) .leaf))) [Value.pointer (some ⟨c, co, none⟩), Value.int .u32 addr, Value.int .i64 size] rfl (Eq.mp (by kernel_rfl) h)
theorem vc10 {W : World} {Q : Ending → World → Prop} (c : Nat) (co : Nat) (addr : Int)
  (h :
    Calls Try.prog 11 #[Value.pointer (some (Addr.mk c co none)), Value.int IntKind.u32 addr] W (fun e =>
     (fun W2 =>
     (∃ p : Option Addr, (∃ k : Nat, (∃ k2 : Nat, (e = Ending.returned (Value.slice p k k2) ∧
     (∃ I : Int → World → Prop, (∃ I2 : Int → World → Nat, (I 0 W2 ∧
     ((Nat →
     Value) →
     (∀ x : Int, (∀ W3 : World, (I x W3 →
     Sx.split (decide (x < (↑k : Int)))
      ((((0 : Int) ≤ x ∧
        x < (↑k : Int)) ∧
       Sx.adr p (fun k3 =>
        (fun k4 =>
        (∃ z : Int, (World.cell? W3 (Addr.mk k3 (k4 + Int.toNat x * 19 + 1) none) = some (Value.int IntKind.i64 z) ∧
        Sx.split (z != 0)
         ((((0 : Int) ≤ x ∧
           x < (↑k : Int)) ∧
          Sx.adr p (fun k5 =>
           (fun k6 =>
           (∃ z2 : Int, (World.cell? W3 (Addr.mk k5 (k6 + Int.toNat x * 19) none) = some (Value.int IntKind.u32 z2) ∧
           (∀ z3 : Int, (z3 = IntKind.wrap IntKind.u32 (↑(BitVec.toNat (BitVec.ofInt (IntKind.bits IntKind.u32) addr &&& ~~~BitVec.ofInt (IntKind.bits IntKind.u32) 15)) : Int) →
           Sx.split (z2 == z3)
            ((((0 : Int) ≤ x ∧
              x < (↑k : Int)) ∧
             Sx.adr p (fun k7 =>
              (fun k8 =>
              Q (Ending.returned (Value.pointer (some (Addr.mk k7 (k8 + Int.toNat x * 19) none)))) W3))))
            ((∀ z4 : Int, (z4 = IntKind.wrap IntKind.i64 (x + 1) →
             (I z4 W3 ∧
             I2 z4 W3 < I2 x W3))))))))))))
         ((∀ z5 : Int, (z5 = IntKind.wrap IntKind.i64 (x + 1) →
          (I z5 W3 ∧
          I2 z5 W3 < I2 x W3))))))))))
      (Q (Ending.returned (Value.pointer none)) W3))))))))))))))) :
  Calls Try.prog 10 #[Value.pointer (some ⟨c, co, none⟩), Value.int .u32 addr] W Q :=
  Sx.sound Try.func10 (.node [] [] 0 .leaf (.node [] [] 0 .leaf (.node [] [] 0 (.node [] [] 0 .leaf (.node [] [] 0 (.node [(12, .int .i64)] [11, 5, 1] 0 .leaf .leaf) .leaf)) .leaf))) [Value.pointer (some ⟨c, co, none⟩), Value.int .u32 addr] rfl (Eq.mp (by kernel_rfl) h)
theorem vc11 {W : World} {Q : Ending → World → Prop} (c : Nat) (co : Nat) (addr : Int)
  (h :
    (∃ p : Option Addr, (∃ k : Nat, (∃ k2 : Nat, (World.cell? W (Addr.mk c co none) = some (Value.slice p k k2) ∧
    ((16 : Int) ≠ (0 : Int) ∧
    (∀ z : Int, (z = IntKind.wrap IntKind.u32 (Int.tdiv addr 16) →
    (∀ z2 : Int, (z2 = IntKind.wrap IntKind.i64 z →
    (∃ p2 : Option Addr, (∃ k3 : Nat, (∃ k4 : Nat, (World.cell? W (Addr.mk c co none) = some (Value.slice p2 k3 k4) ∧
    (∀ z3 : Int, (z3 = IntKind.wrap IntKind.i64 ((↑k3 : Int) - 1) →
    (∀ z4 : Int, (z4 = IntKind.wrap IntKind.i64 (↑(BitVec.toNat (BitVec.ofInt (IntKind.bits IntKind.i64) z2 &&& BitVec.ofInt (IntKind.bits IntKind.i64) z3)) : Int) →
    (((0 : Int) ≤ z4 ∧
     z4 < (↑k : Int)) ∧
    Sx.adr p (fun k5 =>
     (fun k6 =>
     (∃ p3 : Option Addr, (∃ k7 : Nat, (∃ k8 : Nat, (World.cell? W (Addr.mk k5 (k6 + Int.toNat z4 * 1) none) = some (Value.slice p3 k7 k8) ∧
     (∀ W2 : World, (∀ k9 : Nat, (W2 = World.drewN W k9 →
     Q (Ending.returned (Value.slice p3 k7 k8)) W2)))))))))))))))))))))))))))) :
  Calls Try.prog 11 #[Value.pointer (some ⟨c, co, none⟩), Value.int .u32 addr] W Q :=
  Sx.sound Try.func11 .leaf [Value.pointer (some ⟨c, co, none⟩), Value.int .u32 addr] rfl (Eq.mp (by kernel_rfl) h)
theorem vc12 {W : World} {Q : Ending → World → Prop} (w : Nat) (wo : Nat)
  (h :
    (∀ k : Nat, (∀ W2 : World, (k = Array.size (World.heap W) →
    (W2 = World.alloc W (Obj.cells #[Value.int IntKind.u32 0, Value.int IntKind.i64 0, Value.int IntKind.u8 0, Value.int IntKind.u8 0, Value.int IntKind.u8 0, Value.int IntKind.u8 0, Value.int IntKind.u8 0, Value.int IntKind.u8 0, Value.int IntKind.u8 0, Value.int IntKind.u8 0, Value.int IntKind.u8 0, Value.int IntKind.u8 0, Value.int IntKind.u8 0, Value.int IntKind.u8 0, Value.int IntKind.u8 0, Value.int IntKind.u8 0, Value.int IntKind.u8 0, Value.int IntKind.u8 0] 40) →
    (∀ W3 : World, (W3 = World.drew W2 →
    (∃ z : Int, (World.cell? W3 (Addr.mk w wo none) = some (Value.int IntKind.u32 z) ∧
    (∃ z2 : Int, (World.cell? W3 (Addr.mk w (wo + 1) none) = some (Value.int IntKind.i64 z2) ∧
    (∃ vs : Array Value, (Array.size vs = 16 ∧
    (Sx.cellsAt W3 (Addr.mk w (wo + 3) none) vs ∧
    (Array.size vs = 16 ∧
    (∀ vs2 : Array Value, (vs2 = List.toArray (Value.int IntKind.u32 z :: Value.int IntKind.i64 z2 :: (Array.toList vs ++ [])) →
    (Array.size vs2 = 18 ∧
    ((∀ k2 : Nat, (k2 < 18 →
     ((∃ v : Value, World.cell? W3 (Addr.mk k (0 + k2) none) = some v) ∧
     World.frozen? W3 (Addr.mk k (0 + k2) none) = false))) ∧
    ((∀ v2 : Value, (v2 ∈ Array.toList vs2 →
     Value.oneCell' v2 = true)) ∧
    (∀ W4 : World, (W4 = World.setCells W3 k 0 (Array.toList vs2) →
    (∃ vs3 : Array Value, (Array.size vs3 = 18 ∧
    (Sx.cellsAt W4 (Addr.mk k 0 none) vs3 ∧
    Q (Ending.returned (Value.agg vs3)) W4))))))))))))))))))))))))) :
  Calls Try.prog 12 #[Value.pointer (some ⟨w, wo, none⟩)] W Q :=
  Sx.sound Try.func12 (.node [] [] 0 .leaf (.node [] [] 0 (.node [] [] 14 .leaf .leaf) .leaf)) [Value.pointer (some ⟨w, wo, none⟩)] rfl (Eq.mp (by kernel_rfl) h)
theorem vc13 {W : World} {Q : Ending → World → Prop} (c : Nat) (co : Nat) (w : Nat) (wo : Nat)
  (h :
    (∃ z : Int, (World.cell? W (Addr.mk c (co + 1) none) = some (Value.int IntKind.i64 z) ∧
    (∀ z2 : Int, (z2 = IntKind.wrap IntKind.i64 (z + 1) →
    ((∃ v : Value, World.cell? W (Addr.mk c (co + 1) none) = some v) ∧
    (World.frozen? W (Addr.mk c (co + 1) none) = false ∧
    (∀ W2 : World, (W2 = World.setCell W (Addr.mk c (co + 1) none) (Value.int IntKind.i64 z2) →
    (∃ z3 : Int, (World.cell? W2 (Addr.mk c (co + 1) none) = some (Value.int IntKind.i64 z3) ∧
    ((∃ v2 : Value, World.cell? W2 (Addr.mk w (wo + 2) none) = some v2) ∧
    (World.frozen? W2 (Addr.mk w (wo + 2) none) = false ∧
    (∀ W3 : World, (W3 = World.setCell W2 (Addr.mk w (wo + 2) none) (Value.int IntKind.i64 z3) →
    Q (Ending.returned (Value.tuple #[])) W3))))))))))))))) :
  Calls Try.prog 13 #[Value.pointer (some ⟨c, co, none⟩), Value.pointer (some ⟨w, wo, none⟩)] W Q :=
  Sx.sound Try.func13 .leaf [Value.pointer (some ⟨c, co, none⟩), Value.pointer (some ⟨w, wo, none⟩)] rfl (Eq.mp (by kernel_rfl) h)
theorem vc14 {W : World} {Q : Ending → World → Prop} (c : Nat) (co : Nat) (addr : Int) (size : Int) (least : Int)
  (h :
    Calls Try.prog 10 #[Value.pointer (some (Addr.mk c co none)), Value.int IntKind.u32 addr] W (fun e =>
     (fun W2 =>
     (∃ p : Option Addr, (e = Ending.returned (Value.pointer p) ∧
     (∃ I : Bool → World → Prop, (Sx.split (Option.isNone p)
       (I true W2)
       (Sx.ptr p (fun a =>
         (∃ z : Int, (World.cell? W2 (Addr.add a 1) = some (Value.int IntKind.i64 z) ∧
         Sx.split (decide (z < least))
          (I true W2)
          (Sx.split (size != 1)
            (Sx.split (size != 2)
              (Sx.split (size != 4)
                (I true W2)
                ((∀ z2 : Int, (z2 = IntKind.wrap IntKind.u32 size →
                 (z2 ≠ 0 ∧
                 (∀ z3 : Int, (z3 = Int.tmod addr z2 →
                 I (z3 != 0) W2)))))))
              ((∀ z4 : Int, (z4 = IntKind.wrap IntKind.u32 size →
               (z4 ≠ 0 ∧
               (∀ z5 : Int, (z5 = Int.tmod addr z4 →
               I (z5 != 0) W2)))))))
            ((∀ z6 : Int, (z6 = IntKind.wrap IntKind.u32 size →
             (z6 ≠ 0 ∧
             (∀ z7 : Int, (z7 = Int.tmod addr z6 →
             I (z7 != 0) W2))))))))))) ∧
     ((Nat →
     Value) →
     (∀ x : Bool, (∀ W3 : World, (I x W3 →
     Sx.split x
      (Q (Ending.returned (Value.tuple #[Value.pointer none, Value.slice none 0 0])) W3)
      (Calls Try.prog 13 #[Value.pointer (some (Addr.mk c co none)), Value.pointer p] W3 (fun e2 =>
        (fun W4 =>
        (e2 = Ending.returned (Value.tuple #[]) ∧
        (∀ z8 : Int, (z8 = IntKind.wrap IntKind.u32 (↑(BitVec.toNat (BitVec.ofInt (IntKind.bits IntKind.u32) addr &&& BitVec.ofInt (IntKind.bits IntKind.u32) 15)) : Int) →
        (∀ z9 : Int, (z9 = IntKind.wrap IntKind.i64 z8 →
        Sx.ptr p (fun a2 =>
         (∀ z10 : Int, (z10 = IntKind.wrap IntKind.i64 (z9 + size) →
         (∀ z11 : Int, (z11 = IntKind.wrap IntKind.i64 (z9 + size) →
         (((0 : Int) ≤ z9 ∧
          (z9 ≤ z10 ∧
          (z10 ≤ z11 ∧
          z11 ≤ (↑16 : Int)))) ∧
         (∀ W5 : World, (∀ k : Nat, (W5 = World.drewN W4 k →
         Q (Ending.returned (Value.tuple #[Value.pointer p, Value.slice (Sx.sub (some (Addr.add a2 3)) (Int.toNat z11) (Int.toNat z9) 1) (Int.toNat z10 - Int.toNat z9) (Int.toNat z11 - Int.toNat z9)])) W5)))))))))))))))))))))))))))) :
  Calls Try.prog 14 #[Value.pointer (some ⟨c, co, none⟩), Value.int .u32 addr, Value.int .i64 size, Value.int .i64 least] W Q :=
  Sx.sound Try.func14 (.node [] [] 0 .leaf (.node [] [] 0 .leaf (.node [] [] 0 (.node [(43, .bool)] [0, 10, 1, 2] 1 .leaf .leaf) .leaf))) [Value.pointer (some ⟨c, co, none⟩), Value.int .u32 addr, Value.int .i64 size, Value.int .i64 least] rfl (Eq.mp (by kernel_rfl) h)
theorem vc3 {W : World} {Q : Ending → World → Prop} (a0 : Int) (a1 : Int) (a2 : Option Addr) (a2n : Nat) (a2c : Nat)
  (h :
    (∀ W2 : World, (W2 = World.drew W →
    Calls Try.prog 5 #[Value.int IntKind.i64 a0, Value.int IntKind.i64 5] W2 (fun e =>
     (fun W3 =>
     (∃ z : Int, (e = Ending.returned (Value.int IntKind.i64 z) ∧
     (RowKit.Below (Array.size (World.heap W2)) W2 W3 ∧
     ((0 : Int) ≤ z ∧
     (∀ z2 : Int, (z2 = IntKind.wrap IntKind.i64 (1 * 2 ^ min (Int.toNat z) (IntKind.bits IntKind.i64)) →
     Calls Try.prog 5 #[Value.int IntKind.i64 a1, Value.int IntKind.i64 4] W3 (fun e2 =>
      (fun W4 =>
      (∃ z3 : Int, (e2 = Ending.returned (Value.int IntKind.i64 z3) ∧
      (RowKit.Below (Array.size (World.heap W2)) W2 W4 ∧
      (∀ z4 : Int, (z4 = IntKind.wrap IntKind.i64 (1 + z3) →
      (∀ vs : Array Value, (vs = #[Value.int IntKind.i64 z2, Value.int IntKind.i64 z4] →
      Calls Try.prog 4 #[Value.agg vs] W4 (fun e3 =>
       (fun W5 =>
       (∃ p : Option Addr, (∃ v : Value, (e3 = Ending.returned (Value.tuple #[Value.pointer p, v]) ∧
       (RowKit.Below (Array.size (World.heap W2)) W2 W5 ∧
       Sx.isNil v (fun t =>
        Sx.split (!t)
         (Q (Ending.returned (Value.bool false)) W5)
         (Sx.split (Option.isNone p)
           (Q (Ending.returned (Value.bool false)) W5)
           ((((0 : Int) ≤ (1024 : Int) ∧
             ((1024 : Int) ≤ (1024 : Int) ∧
             ((1024 : Int) ≤ (9223372036854775807 : Int) ∧
             (↑1 : Int) * 1024 ≤ 281474976710656))) ∧
            (∀ k : Nat, (∀ W6 : World, (k = Array.size (World.heap W5) →
            (W6 = World.alloc W5 (Obj.cells (madeCells #[Value.int IntKind.u8 0] 1024) 5) →
            (((0 : Int) ≤ (1024 : Int) ∧
             ((1024 : Int) ≤ (1024 : Int) ∧
             ((1024 : Int) ≤ (9223372036854775807 : Int) ∧
             (↑1 : Int) * 1024 ≤ 281474976710656))) ∧
            (∀ k2 : Nat, (∀ W7 : World, (k2 = Array.size (World.heap W6) →
            (W7 = World.alloc W6 (Obj.cells (madeCells #[Value.int IntKind.u8 0] 1024) 5) →
            (∃ I : Int → World → Prop, (∃ I2 : Int → World → Nat, (I 0 W7 ∧
            ((Nat →
            Value) →
            (∀ x : Int, (∀ W8 : World, (I x W8 →
            Sx.split (decide (x < (↑a2n : Int)))
             (Sx.split (decide (x < 2000))
               ((∃ I3 : Int → World → Prop, ((∀ k3 : Nat, (∀ W9 : World, (k3 = Array.size (World.heap W8) →
                 (W9 = World.alloc W8 (Obj.cells #[Value.int IntKind.i64 1, Value.int IntKind.i64 2, Value.int IntKind.i64 4] 3) →
                 (((0 : Int) ≤ x ∧
                  x < (↑a2n : Int)) ∧
                 Sx.adr a2 (fun k4 =>
                  (fun k5 =>
                  (∃ z5 : Int, (World.cell? W9 (Addr.mk k4 (k5 + Int.toNat x * 4 + 2) none) = some (Value.int IntKind.i64 z5) ∧
                  Calls Try.prog 5 #[Value.int IntKind.i64 z5, Value.int IntKind.i64 3] W9 (fun e4 =>
                   (fun W10 =>
                   (∃ z6 : Int, (e4 = Ending.returned (Value.int IntKind.i64 z6) ∧
                   (((0 : Int) ≤ z6 ∧
                    z6 < (↑3 : Int)) ∧
                   (∃ z7 : Int, (World.cell? W10 (Addr.mk k3 (0 + Int.toNat z6 * 1) none) = some (Value.int IntKind.i64 z7) ∧
                   I3 z7 W10)))))))))))))))) ∧
                ((Nat →
                Value) →
                (∀ x2 : Int, (∀ W11 : World, (I3 x2 W11 →
                (((0 : Int) ≤ x ∧
                 x < (↑a2n : Int)) ∧
                Sx.adr a2 (fun k6 =>
                 (fun k7 =>
                 (∃ z8 : Int, (World.cell? W11 (Addr.mk k6 (k7 + Int.toNat x * 4 + 1) none) = some (Value.int IntKind.i64 z8) ∧
                 (x2 ≠ 0 ∧
                 (∀ z9 : Int, (z9 = IntKind.wrap IntKind.i64 (Int.tdiv 1024 x2) →
                 (∃ z10 : Int, ((∀ k8 : Nat, Calls Try.prog 5 #[Value.int IntKind.i64 z8, Value.int IntKind.i64 z9] (World.drewN W11 k8) (fun e5 =>
                   (fun W12 =>
                   (e5 = Ending.returned (Value.int IntKind.i64 z10) ∧
                   (∃ k9 : Nat, W12 = World.drewN W11 k9))))) ∧
                 (∀ z11 : Int, (z11 = IntKind.wrap IntKind.i64 (z10 * x2) →
                 (∀ W13 : World, (∀ k10 : Nat, (W13 = World.drewN W11 k10 →
                 (∀ z12 : Int, (z12 = IntKind.wrap IntKind.u32 z11 →
                 Calls Try.prog 6 #[Value.pointer p, Value.int IntKind.u32 z12] W13 (fun e6 =>
                  (fun W14 =>
                  (∃ z13 : Int, (e6 = Ending.returned (Value.int IntKind.i64 z13) ∧
                  (∃ I4 : World → Prop, (Sx.split (z13 == 0)
                    ((∀ k11 : Nat, (∀ W15 : World, (k11 = Array.size (World.heap W14) →
                     (W15 = World.alloc W14 (Obj.cells #[Value.int IntKind.u8 0, Value.int IntKind.u8 0, Value.int IntKind.u8 0, Value.int IntKind.u8 0, Value.int IntKind.u8 0, Value.int IntKind.u8 0, Value.int IntKind.u8 0, Value.int IntKind.u8 0, Value.int IntKind.u8 0, Value.int IntKind.u8 0, Value.int IntKind.u8 0, Value.int IntKind.u8 0, Value.int IntKind.u8 0, Value.int IntKind.u8 0, Value.int IntKind.u8 0, Value.int IntKind.u8 0] 38) →
                     (∀ W16 : World, (W16 = World.drew W15 →
                     ((16 : Int) ≠ (0 : Int) ∧
                     (∀ z14 : Int, (z14 = IntKind.wrap IntKind.i64 (Int.tdiv z11 16) →
                     (∀ z15 : Int, (z15 = IntKind.wrap IntKind.i64 (z14 * 16) →
                     (((0 : Int) ≤ z15 ∧
                      z15 ≤ (↑1024 : Int)) ∧
                     (∃ l : List Value, (List.length l = Nat.min (1024 - Int.toNat z15) 16 * 1 ∧
                     ((∀ v2 : Value, (v2 ∈ l →
                      Value.oneCell' v2 = true)) ∧
                     (((l = []) ∨
                      (((∃ a : Addr, (Sx.sub (some (Addr.mk k2 0 none)) 1024 (Int.toNat z15) 1 = some a ∧
                       (∀ k12 : Nat, (∀ v3 : Value, (l[k12]? = some v3 →
                       World.cell? W16 (Addr.add a k12) = some v3))))) ∧
                      (∃ k13 : Nat, (∃ k14 : Nat, (some (Addr.mk k11 0 none) = some (Addr.mk k13 k14 none) ∧
                      (∀ k15 : Nat, (k15 < List.length l →
                      ((∃ v4 : Value, World.cell? W16 (Addr.mk k13 (k14 + k15) none) = some v4) ∧
                      World.frozen? W16 (Addr.mk k13 (k14 + k15) none) = false))))))))) ∧
                     (∀ W17 : World, (W17 = Sx.setRow (some (Addr.mk k11 0 none)) W16 l →
                     ((16 : Int) ≠ (0 : Int) ∧
                     (∀ z16 : Int, (z16 = IntKind.wrap IntKind.i64 (Int.tdiv z11 16) →
                     (∀ z17 : Int, (z17 = IntKind.wrap IntKind.i64 (z16 * 16) →
                     (∀ z18 : Int, (z18 = IntKind.wrap IntKind.u32 z17 →
                     (∃ vs2 : Array Value, (Array.size vs2 = 16 ∧
                     (Sx.cellsAt W17 (Addr.mk k11 0 none) vs2 ∧
                     Calls Try.prog 7 #[Value.pointer p, Value.int IntKind.u32 z18, Value.agg vs2, Value.int IntKind.i64 2] W17 (fun e7 =>
                      (fun W18 =>
                      (∃ vs3 : Array Value, (∃ t2 : Bool, (∃ v5 : Value, (e7 = Ending.returned (Value.tuple #[Value.agg vs3, Value.bool t2, v5]) ∧
                      (∀ k16 : Nat, (∀ W19 : World, (k16 = Array.size (World.heap W18) →
                      (W19 = World.alloc W18 (Obj.cells #[Value.int IntKind.u32 0, Value.int IntKind.i64 0, Value.int IntKind.u8 0, Value.int IntKind.u8 0, Value.int IntKind.u8 0, Value.int IntKind.u8 0, Value.int IntKind.u8 0, Value.int IntKind.u8 0, Value.int IntKind.u8 0, Value.int IntKind.u8 0, Value.int IntKind.u8 0, Value.int IntKind.u8 0, Value.int IntKind.u8 0, Value.int IntKind.u8 0, Value.int IntKind.u8 0, Value.int IntKind.u8 0, Value.int IntKind.u8 0, Value.int IntKind.u8 0] 40) →
                      (Array.size vs3 = 18 ∧
                      ((∀ k17 : Nat, (k17 < 18 →
                       ((∃ v6 : Value, World.cell? W19 (Addr.mk k16 (0 + k17) none) = some v6) ∧
                       World.frozen? W19 (Addr.mk k16 (0 + k17) none) = false))) ∧
                      ((∀ v7 : Value, (v7 ∈ Array.toList vs3 →
                       Value.oneCell' v7 = true)) ∧
                      (∀ W20 : World, (W20 = World.setCells W19 k16 0 (Array.toList vs3) →
                      (∃ I5 : Bool → World → Prop, (Sx.isNil v5 (fun t3 =>
                        Sx.split (!t3)
                         (I5 true W20)
                         ((∃ z19 : Int, (World.cell? W20 (Addr.mk k16 (0 + 1) none) = some (Value.int IntKind.i64 z19) ∧
                          Sx.split (!t2 == (z19 != 0))
                           (I5 true W20)
                           (Sx.split t2
                             ((∃ z20 : Int, (World.cell? W20 (Addr.mk k16 0 none) = some (Value.int IntKind.u32 z20) ∧
                              (∀ z21 : Int, (z21 = IntKind.wrap IntKind.i64 z20 →
                              ((16 : Int) ≠ (0 : Int) ∧
                              (∀ z22 : Int, (z22 = IntKind.wrap IntKind.i64 (Int.tdiv z11 16) →
                              (∀ z23 : Int, (z23 = IntKind.wrap IntKind.i64 (z22 * 16) →
                              I5 (z21 == z23) W20))))))))))
                             (I5 false W20)))))) ∧
                      ((Nat →
                      Value) →
                      (∀ x3 : Bool, (∀ W21 : World, (I5 x3 W21 →
                      Sx.split x3
                       (Q (Ending.returned (Value.bool false)) W21)
                       ((∃ z24 : Int, (World.cell? W21 (Addr.mk k16 (0 + 1) none) = some (Value.int IntKind.i64 z24) ∧
                        Sx.split (z24 == 3)
                         ((∀ W22 : World, (W22 = World.drew W21 →
                          (∃ z25 : Int, (World.cell? W22 (Addr.mk k16 0 none) = some (Value.int IntKind.u32 z25) ∧
                          (∃ z26 : Int, (World.cell? W22 (Addr.mk k16 0 none) = some (Value.int IntKind.u32 z26) ∧
                          (∀ z27 : Int, (z27 = IntKind.wrap IntKind.u32 (z26 + 16) →
                          (((0 : Int) ≤ z25 ∧
                           (z25 ≤ z27 ∧
                           z27 ≤ (↑1024 : Int))) ∧
                          (∃ l2 : List Value, (List.length l2 = Nat.min 16 (Int.toNat z27 - Int.toNat z25) * 1 ∧
                          ((∀ v8 : Value, (v8 ∈ l2 →
                           Value.oneCell' v8 = true)) ∧
                          (((l2 = []) ∨
                           (((∃ a2 : Addr, (some (Addr.mk k16 (0 + 2) none) = some a2 ∧
                            (∀ k18 : Nat, (∀ v9 : Value, (l2[k18]? = some v9 →
                            World.cell? W22 (Addr.add a2 k18) = some v9))))) ∧
                           (∃ k19 : Nat, (∃ k20 : Nat, (Sx.sub (some (Addr.mk k2 0 none)) 1024 (Int.toNat z25) 1 = some (Addr.mk k19 k20 none) ∧
                           (∀ k21 : Nat, (k21 < List.length l2 →
                           ((∃ v10 : Value, World.cell? W22 (Addr.mk k19 (k20 + k21) none) = some v10) ∧
                           World.frozen? W22 (Addr.mk k19 (k20 + k21) none) = false))))))))) ∧
                          (∀ W23 : World, (W23 = Sx.setRow (Sx.sub (some (Addr.mk k2 0 none)) 1024 (Int.toNat z25) 1) W22 l2 →
                          I4 W23))))))))))))))))
                         (I4 W21))))))))))))))))))))))))))))))))))))))))))))))))))))))
                    (I4 W14) ∧
                  ((Nat →
                  Value) →
                  (∀ W24 : World, (I4 W24 →
                  (((0 : Int) ≤ x ∧
                   x < (↑a2n : Int)) ∧
                  Sx.adr a2 (fun k22 =>
                   (fun k23 =>
                   (∃ t4 : Bool, (World.cell? W24 (Addr.mk k22 (k23 + Int.toNat x * 4) none) = some (Value.bool t4) ∧
                   Sx.split t4
                    ((∀ z28 : Int, (z28 = IntKind.wrap IntKind.u32 z11 →
                     (((0 : Int) ≤ x ∧
                      x < (↑a2n : Int)) ∧
                     Sx.adr a2 (fun k24 =>
                      (fun k25 =>
                      (∃ z29 : Int, (World.cell? W24 (Addr.mk k24 (k25 + Int.toNat x * 4 + 3) none) = some (Value.int IntKind.u32 z29) ∧
                      Calls Try.prog 8 #[Value.pointer p, Value.int IntKind.u32 z28, Value.int IntKind.i64 x2, Value.int IntKind.u32 z29] W24 (fun e8 =>
                       (fun W25 =>
                       (∃ t5 : Bool, (e8 = Ending.returned (Value.bool t5) ∧
                       Sx.split (!t5)
                        (Q (Ending.returned (Value.bool false)) W25)
                        ((∃ I6 : Int → World → Prop, (∃ I7 : Int → World → Nat, (I6 0 W25 ∧
                         ((Nat →
                         Value) →
                         (∀ x4 : Int, (∀ W26 : World, (I6 x4 W26 →
                         Sx.split (decide (x4 < x2))
                          ((∀ z30 : Int, (z30 = IntKind.wrap IntKind.i64 (z11 + x4) →
                           (((0 : Int) ≤ x ∧
                            x < (↑a2n : Int)) ∧
                           Sx.adr a2 (fun k26 =>
                            (fun k27 =>
                            (∃ z31 : Int, (World.cell? W26 (Addr.mk k26 (k27 + Int.toNat x * 4 + 3) none) = some (Value.int IntKind.u32 z31) ∧
                            (∀ z32 : Int, (z32 = IntKind.wrap IntKind.i64 (8 * x4) →
                            ((0 : Int) ≤ z32 ∧
                            (∀ z33 : Int, (z33 = Int.fdiv z31 (2 ^ min (Int.toNat z32) (IntKind.bits IntKind.u32)) →
                            (∀ z34 : Int, (z34 = IntKind.wrap IntKind.u8 z33 →
                            (((0 : Int) ≤ z30 ∧
                             z30 < (↑1024 : Int)) ∧
                            ((∃ v11 : Value, World.cell? W26 (Addr.mk k (0 + Int.toNat z30 * 1) none) = some v11) ∧
                            (World.frozen? W26 (Addr.mk k (0 + Int.toNat z30 * 1) none) = false ∧
                            (∀ W27 : World, (W27 = World.setCell W26 (Addr.mk k (0 + Int.toNat z30 * 1) none) (Value.int IntKind.u8 z34) →
                            (∀ z35 : Int, (z35 = IntKind.wrap IntKind.i64 (x4 + 1) →
                            (I6 z35 W27 ∧
                            I7 z35 W27 < I7 x4 W26)))))))))))))))))))))))
                          ((∀ z36 : Int, (z36 = IntKind.wrap IntKind.i64 (x + 1) →
                           (I z36 W26 ∧
                           I2 z36 W26 < I2 x W8))))))))))))))))))))))))
                    ((∀ z37 : Int, (z37 = IntKind.wrap IntKind.u32 z11 →
                     Calls Try.prog 9 #[Value.pointer p, Value.int IntKind.u32 z37, Value.int IntKind.i64 x2] W24 (fun e9 =>
                      (fun W28 =>
                      (∃ z38 : Int, (∃ t6 : Bool, (e9 = Ending.returned (Value.tuple #[Value.int IntKind.u32 z38, Value.bool t6]) ∧
                      (∃ I8 : Int → World → Prop, ((∀ z39 : Int, (z39 = IntKind.wrap IntKind.i64 (x2 - 1) →
                       (∃ I9 : Int → Int → World → Prop, (∃ I10 : Int → Int → World → Nat, (I9 z39 0 W28 ∧
                       ((Nat →
                       Value) →
                       (∀ x5 : Int, (∀ x6 : Int, (∀ W29 : World, (I9 x5 x6 W29 →
                       Sx.split (decide (x5 ≥ 0))
                        (((0 : Int) ≤ (8 : Int) ∧
                         (∀ z40 : Int, (z40 = IntKind.wrap IntKind.u32 (x6 * 2 ^ min 8 (IntKind.bits IntKind.u32)) →
                         (∀ z41 : Int, (z41 = IntKind.wrap IntKind.i64 (z11 + x5) →
                         (((0 : Int) ≤ z41 ∧
                          z41 < (↑1024 : Int)) ∧
                         (∃ z42 : Int, (World.cell? W29 (Addr.mk k (0 + Int.toNat z41 * 1) none) = some (Value.int IntKind.u8 z42) ∧
                         (∀ z43 : Int, (z43 = IntKind.wrap IntKind.u32 z42 →
                         (∀ z44 : Int, (z44 = IntKind.wrap IntKind.u32 (↑(BitVec.toNat (BitVec.ofInt (IntKind.bits IntKind.u32) z40 ||| BitVec.ofInt (IntKind.bits IntKind.u32) z43)) : Int) →
                         (∀ z45 : Int, (z45 = IntKind.wrap IntKind.i64 (x5 - 1) →
                         (I9 z45 z44 W29 ∧
                         I10 z45 z44 W29 < I10 x5 x6 W29))))))))))))))))
                        (I8 x6 W29))))))))))) ∧
                      ((Nat →
                      Value) →
                      (∀ x7 : Int, (∀ W30 : World, (I8 x7 W30 →
                      (∃ I11 : Bool → World → Prop, (Sx.split (!t6)
                        (I11 true W30)
                        (I11 (z38 != x7) W30) ∧
                      ((Nat →
                      Value) →
                      (∀ x8 : Bool, (∀ W31 : World, (I11 x8 W31 →
                      Sx.split x8
                       (Q (Ending.returned (Value.bool false)) W31)
                       ((∀ z46 : Int, (z46 = IntKind.wrap IntKind.i64 (x + 1) →
                        (I z46 W31 ∧
                        I2 z46 W31 < I2 x W8))))))))))))))))))))))))))))))))))))))))))))))))))))))))))))))
               (Q (Ending.returned (Value.bool true)) W8))
             (Q (Ending.returned (Value.bool true)) W8))))))))))))))))))))))))))))))))))))))))))))))) :
  Calls Try.prog 3 #[Value.int .i64 a0, Value.int .i64 a1, Value.slice a2 a2n a2c] W Q :=
  Sx.sound Try.func3 (.node [] [] 0 .leaf (.node [] [] 0 (.node [] [] 1014 .leaf .leaf) (.node [] [] 0 .leaf (.node [] [] 0 .leaf (.node [] [] 0 .leaf (.node [] [] 0 (.node [] [] 0 .leaf (.node [] [] 0 (.node [(11, .int .i64)] [2, 7, 10, 9] 0 (.node [] [] 0 .leaf (.node [] [] 0 (.node [] [] 0 (.node [(12, .int .i64)] [2, 11, 7, 10, 9] 1 .leaf (.node [] [] 0 .leaf (.node [] [] 0 .leaf (.node [] [2, 11, 7, 13, 12, 9, 10] 1 (.node [] [] 0 .leaf (.node [] [] 0 (.node [] [] 0 .leaf (.node [] [] 0 (.node [] [] 7 .leaf .leaf) (.node [] [] 0 .leaf (.node [] [] 0 (.node [(117, .bool)] [16, 10, 2, 11, 7, 13, 12, 9] 1 .leaf .leaf) (.node [] [] 0 .leaf (.node [] [] 0 (.node [] [] 10 .leaf .leaf) .leaf)))))) .leaf)) (.node [] [] 0 (.node [] [] 0 .leaf (.node [] [] 0 (.node [] [] 0 .leaf (.node [] [] 0 .leaf (.node [] [] 0 (.node [] [] 0 .leaf (.node [] [] 0 (.node [(20, .int .i64)] [12, 9, 13, 2, 11, 7, 10] 0 .leaf .leaf) .leaf)) .leaf))) .leaf)) (.node [] [] 0 .leaf (.node [] [] 0 .leaf (.node [(23, .int .u32)] [22, 21, 11, 2, 7, 10, 9] 1 (.node [] [] 0 .leaf (.node [] [] 0 (.node [(24, .int .i64), (23, .int .u32)] [9, 13, 22, 21, 11, 2, 7, 10] 0 .leaf .leaf) .leaf)) (.node [(197, .bool)] [11, 2, 7, 10, 9] 1 .leaf .leaf))))))))) .leaf) .leaf)) .leaf) .leaf)) .leaf)))))) [Value.int .i64 a0, Value.int .i64 a1, Value.slice a2 a2n a2c] rfl (Eq.mp (by kernel_rfl) h)
end Go.Proofs.Ythjabcklmhaeoaa
