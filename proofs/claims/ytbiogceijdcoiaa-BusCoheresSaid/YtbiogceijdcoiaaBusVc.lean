/- What each function asks, reckoned out of its text; printed by a program of mine (wip/tpl/VcTool.lean). No condition. -/
import Derived.Test.YtbiogceijdcoiaaSxB
import Derived.Test.YtbiogceijdcoiaaChecked
namespace Go.Proofs.Ytbiogceijdcoiaa
open Go Go.Proofs
set_option linter.unusedVariables false
set_option maxRecDepth 100000
theorem vc5 {W : World} {Q : Ending → World → Prop} (arg0 : Option Addr) (arg0n : Nat) (arg0c : Nat) (arg1 : Int) (arg2 : Option Addr) (arg2n : Nat) (arg2c : Nat)
  (hVC :
    Sx.split (decide ((↑arg0n : Int) < 1))
     (Q (Ending.returned (Value.tuple #[Value.pointer none, Value.iface 50 (Value.int IntKind.i64 2)])) W)
     (Sx.split (decide ((↑arg0n : Int) > 2))
       (Q (Ending.returned (Value.tuple #[Value.pointer none, Value.iface 50 (Value.int IntKind.i64 2)])) W)
       (Sx.split (decide (arg1 < 0))
         (Q (Ending.returned (Value.tuple #[Value.pointer none, Value.iface 50 (Value.int IntKind.i64 2)])) W)
         (Sx.split (decide (arg1 > 10))
           (Q (Ending.returned (Value.tuple #[Value.pointer none, Value.iface 50 (Value.int IntKind.i64 2)])) W)
           ((∀ k : Nat, (∀ W2 : World, (k = Array.size (World.heap W) →
            (W2 = World.alloc W (Obj.map #[] 0) →
            (∀ z : Int, (z = IntKind.wrap IntKind.i64 ((↑arg0n : Int) - 1) →
            (∀ vs : Array Value, (vs = #[Value.slice none 0 0, Value.int IntKind.i64 arg1, Value.slice none 0 0, Value.map (some k), Value.int IntKind.i64 z, Value.int IntKind.i64 (-1), Value.int IntKind.i64 0] →
            (∀ k2 : Nat, (∀ W3 : World, (k2 = Array.size (World.heap W2) →
            (W3 = World.alloc W2 (Obj.cells (Value.cells (Value.agg vs)) 54) →
            (∃ I : Int → World → Prop, (∃ I2 : Int → World → Nat, (I 0 W3 ∧
            ((Nat →
            Value) →
            (∀ x : Int, (∀ W4 : World, (I x W4 →
            Sx.split (decide (x < (↑arg0n : Int)))
             ((((0 : Int) ≤ x ∧
               x < (↑arg0n : Int)) ∧
              Sx.adr arg0 (fun k3 =>
               (fun k4 =>
               (∃ vs2 : Array Value, (Array.size vs2 = 2 ∧
               (Sx.cellsAt W4 (Addr.mk k3 (k4 + Int.toNat x * 2) none) vs2 ∧
               (∀ k5 : Nat, (∀ W5 : World, (k5 = Array.size (World.heap W4) →
               (W5 = World.alloc W4 (Obj.cells #[Value.int IntKind.i64 0, Value.int IntKind.i64 0] 25) →
               (Array.size vs2 = 2 ∧
               ((∀ k6 : Nat, (k6 < 2 →
                ((∃ v : Value, World.cell? W5 (Addr.mk k5 (0 + k6) none) = some v) ∧
                World.frozen? W5 (Addr.mk k5 (0 + k6) none) = false))) ∧
               ((∀ v2 : Value, (v2 ∈ Array.toList vs2 →
                Value.oneCell' v2 = true)) ∧
               (∀ W6 : World, (W6 = World.setCells W5 k5 0 (Array.toList vs2) →
               (∃ vs3 : Array Value, (Array.size vs3 = 2 ∧
               (Sx.cellsAt W6 (Addr.mk k5 0 none) vs3 ∧
               Calls Try.prog 14 #[Value.agg vs3] W6 (fun e =>
                (fun W7 =>
                (∃ p : Option Addr, (∃ v3 : Value, (e = Ending.returned (Value.tuple #[Value.pointer p, v3]) ∧
                Sx.isNil v3 (fun t =>
                 Sx.split (!t)
                  (Q (Ending.returned (Value.tuple #[Value.pointer none, v3])) W7)
                  ((∃ p2 : Option Addr, (∃ k7 : Nat, (∃ k8 : Nat, (World.cell? W7 (Addr.mk k2 0 none) = some (Value.slice p2 k7 k8) ∧
                   (∀ k9 : Nat, (∀ W8 : World, (k9 = Array.size (World.heap W7) →
                   (W8 = World.alloc W7 (Obj.cells #[Value.pointer p] 55) →
                   (∃ l : List Value, (∃ l2 : List Value, (XHeap.Sl W8 55 1 (Value.slice p2 k7 k8) k7 l ∧
                   (((((1 : Nat) = (0 : Nat) ∧
                     some (Addr.mk k9 0 none) = none)) ∨
                    ((∃ a : Addr, (some (Addr.mk k9 0 none) = some a ∧
                    (∀ k10 : Nat, (∀ v4 : Value, (l2[k10]? = some v4 →
                    World.cell? W8 (Addr.add a k10) = some v4))))))) ∧
                   (List.length l2 = 1 ∧
                   ((∀ v5 : Value, (v5 ∈ l2 →
                    Value.oneCell' v5 = true)) ∧
                   (k7 + 1 ≤ maxLen ∧
                   ((k7 + 1) * 8 ≤ 140737488355328 ∧
                   (∀ p3 : Option Addr, (∀ k11 : Nat, (∀ W9 : World, (XHeap.Sl W9 55 1 (Value.slice p3 (k7 + 1) k11) (k7 + 1) (l ++ l2) →
                   (XHeap.XTouch (fun b => Value.ownBlock (Value.slice p2 k7 k8) = some b) W8 W9 →
                   ((∀ k12 : Nat, (Value.ownBlock (Value.slice p3 (k7 + 1) k11) = some k12 →
                   ((Value.ownBlock (Value.slice p2 k7 k8) = some k12) ∨
                   (Array.size (World.heap W8) ≤ k12)))) →
                   (XHeap.Sl W9 55 1 (Value.slice p2 k7 k8) k7 l →
                   ((((p3 = p2 ∧
                    k11 = k8)) ∨
                   ((((XHeap.NilP p2) ∨
                    (k8 < k7 + 1)) ∧
                   (∀ k13 : Nat, (Value.ownBlock (Value.slice p3 (k7 + 1) k11) = some k13 →
                   Array.size (World.heap W8) ≤ k13))))) →
                   ((∃ v6 : Value, World.cell? W9 (Addr.mk k2 0 none) = some v6) ∧
                   (World.frozen? W9 (Addr.mk k2 0 none) = false ∧
                   (∀ W10 : World, (W10 = World.setCell W9 (Addr.mk k2 0 none) (Value.slice p3 (k7 + 1) k11) →
                   (∀ z2 : Int, (z2 = IntKind.wrap IntKind.i64 (x + 1) →
                   (I z2 W10 ∧
                   I2 z2 W10 < I2 x W4)))))))))))))))))))))))))))))))))))))))))))))))))))))))))
             (((16 : Int) ≠ (0 : Int) ∧
              (∀ z3 : Int, (z3 = Int.tmod (↑arg2n : Int) 16 →
              Sx.split (z3 != 0)
               (Q (Ending.returned (Value.tuple #[Value.pointer none, Value.iface 50 (Value.int IntKind.i64 1)])) W4)
               (Sx.split (decide ((↑arg2n : Int) > 4096))
                 (Q (Ending.returned (Value.tuple #[Value.pointer none, Value.iface 50 (Value.int IntKind.i64 1)])) W4)
                 (Calls Try.prog 15 #[Value.slice arg2 arg2n arg2c] W4 (fun e2 =>
                   (fun W11 =>
                   (∃ p4 : Option Addr, (∃ k14 : Nat, (∃ k15 : Nat, (e2 = Ending.returned (Value.slice p4 k14 k15) ∧
                   ((∃ v7 : Value, World.cell? W11 (Addr.mk k2 (0 + 2) none) = some v7) ∧
                   (World.frozen? W11 (Addr.mk k2 (0 + 2) none) = false ∧
                   (∀ W12 : World, (W12 = World.setCell W11 (Addr.mk k2 (0 + 2) none) (Value.slice p4 k14 k15) →
                   Q (Ending.returned (Value.tuple #[Value.pointer (some (Addr.mk k2 0 none)), Value.nilIface])) W12)))))))))))))))))))))))))))))))))))))))) :
  Calls Try.prog 5 #[Value.slice arg0 arg0n arg0c, Value.int .i64 arg1, Value.slice arg2 arg2n arg2c] W Q :=
  Sx.sound Try.func5 (.node [] [] 0 .leaf (.node [] [] 0 .leaf (.node [] [] 0 .leaf (.node [] [] 0 (.node [] [] 0 .leaf (.node [] [] 0 (.node [(39, .int .i64)] [38, 37, 8, 2] 0 .leaf .leaf) .leaf)) .leaf)))) [Value.slice arg0 arg0n arg0c, Value.int .i64 arg1, Value.slice arg2 arg2n arg2c] rfl (Eq.mp (by kernel_rfl) hVC)
theorem vc16 {W : World} {Q : Ending → World → Prop} (b : Nat) (bo : Nat) (core : Int) (addr : Int)
  (hVC :
    Sx.split (decide (core ≥ 0))
     ((∃ p : Option Addr, (∃ k : Nat, (∃ k2 : Nat, (World.cell? W (Addr.mk b bo none) = some (Value.slice p k k2) ∧
      Sx.split (decide (core < (↑k : Int)))
       ((∀ z : Int, (z = IntKind.wrap IntKind.u32 (addr - 65536) →
        (∃ p2 : Option Addr, (∃ k3 : Nat, (∃ k4 : Nat, (World.cell? W (Addr.mk b (bo + 2) none) = some (Value.slice p2 k3 k4) ∧
        (∀ z2 : Int, (z2 = IntKind.wrap IntKind.u32 (↑k3 : Int) →
        Q (Ending.returned (Value.bool (decide (z < z2)))) W)))))))))
       (Q (Ending.returned (Value.bool false)) W))))))
     (Q (Ending.returned (Value.bool false)) W)) :
  Calls Try.prog 16 #[Value.pointer (some ⟨b, bo, none⟩), Value.int .i64 core, Value.int .u32 addr] W Q :=
  Sx.sound Try.func16 .leaf [Value.pointer (some ⟨b, bo, none⟩), Value.int .i64 core, Value.int .u32 addr] rfl (Eq.mp (by kernel_rfl) hVC)
theorem vc7 {W : World} {Q : Ending → World → Prop} (b : Nat) (bo : Nat) (core : Int)
  (hVC :
    (∃ p : Option Nat, (World.cell? W (Addr.mk b (bo + 3) none) = some (Value.map p) ∧
    Sx.mapp p (fun k =>
     (∃ I : Int → Option Value, (Sx.Mp W IntKind.i64 k I ∧
     (∃ vs : Array Value, (Option.getD (I core) (Value.agg #[Value.int IntKind.u32 0, Value.bool false]) = Value.agg vs ∧
     (∀ k2 : Nat, (∀ W2 : World, (k2 = Array.size (World.heap W) →
     (W2 = World.alloc W (Obj.cells #[Value.int IntKind.u32 0, Value.bool false] 62) →
     (Array.size vs = 2 ∧
     ((∀ k3 : Nat, (k3 < 2 →
      ((∃ v : Value, World.cell? W2 (Addr.mk k2 (0 + k3) none) = some v) ∧
      World.frozen? W2 (Addr.mk k2 (0 + k3) none) = false))) ∧
     ((∀ v2 : Value, (v2 ∈ Array.toList vs →
      Value.oneCell' v2 = true)) ∧
     (∀ W3 : World, (W3 = World.setCells W2 k2 0 (Array.toList vs) →
     Q (Ending.returned (Value.bool (Option.isSome (I core)))) W3))))))))))))))))) :
  Calls Try.prog 7 #[Value.pointer (some ⟨b, bo, none⟩), Value.int .i64 core] W Q :=
  Sx.sound Try.func7 .leaf [Value.pointer (some ⟨b, bo, none⟩), Value.int .i64 core] rfl (Eq.mp (by kernel_rfl) hVC)
theorem vc6 {W : World} {Q : Ending → World → Prop} (b : Nat) (bo : Nat) (core : Int) (addr : Int)
  (hVC :
    Calls Try.prog 16 #[Value.pointer (some (Addr.mk b bo none)), Value.int IntKind.i64 core, Value.int IntKind.u32 addr] W (fun e =>
     (fun W2 =>
     (∃ t : Bool, (e = Ending.returned (Value.bool t) ∧
     Sx.split (!t)
      (Q (Ending.returned (Value.int IntKind.i64 0)) W2)
      ((∃ p : Option Addr, (∃ k : Nat, (∃ k2 : Nat, (World.cell? W2 (Addr.mk b bo none) = some (Value.slice p k k2) ∧
       (((0 : Int) ≤ core ∧
        core < (↑k : Int)) ∧
       Sx.adr p (fun k3 =>
        (fun k4 =>
        (∃ p2 : Option Addr, (World.cell? W2 (Addr.mk k3 (k4 + Int.toNat core * 1) none) = some (Value.pointer p2) ∧
        Calls Try.prog 17 #[Value.pointer p2, Value.int IntKind.u32 addr] W2 (fun e2 =>
         (fun W3 =>
         (∃ z : Int, (e2 = Ending.returned (Value.int IntKind.i64 z) ∧
         Q (Ending.returned (Value.int IntKind.i64 z)) W3))))))))))))))))))) :
  Calls Try.prog 6 #[Value.pointer (some ⟨b, bo, none⟩), Value.int .i64 core, Value.int .u32 addr] W Q :=
  Sx.sound Try.func6 .leaf [Value.pointer (some ⟨b, bo, none⟩), Value.int .i64 core, Value.int .u32 addr] rfl (Eq.mp (by kernel_rfl) hVC)
theorem vc8 {W : World} {Q : Ending → World → Prop} (b : Nat) (bo : Nat) (core : Int) (addr : Int) (write : Bool)
  (hVC :
    Calls Try.prog 16 #[Value.pointer (some (Addr.mk b bo none)), Value.int IntKind.i64 core, Value.int IntKind.u32 addr] W (fun e =>
     (fun W2 =>
     (∃ t : Bool, (e = Ending.returned (Value.bool t) ∧
     Sx.split (!t)
      (Q (Ending.returned (Value.iface 50 (Value.int IntKind.i64 3))) W2)
      (Sx.split write
        (Calls Try.prog 7 #[Value.pointer (some (Addr.mk b bo none)), Value.int IntKind.i64 core] W2 (fun e2 =>
          (fun W3 =>
          (∃ t2 : Bool, (e2 = Ending.returned (Value.bool t2) ∧
          Sx.split t2
           (Q (Ending.returned (Value.iface 50 (Value.int IntKind.i64 7))) W3)
           (Calls Try.prog 6 #[Value.pointer (some (Addr.mk b bo none)), Value.int IntKind.i64 core, Value.int IntKind.u32 addr] W3 (fun e3 =>
             (fun W4 =>
             (∃ z : Int, (e3 = Ending.returned (Value.int IntKind.i64 z) ∧
             Sx.split (decide (z ≥ 2))
              (Q (Ending.returned (Value.iface 50 (Value.int IntKind.i64 7))) W4)
              ((∃ p : Option Nat, (World.cell? W4 (Addr.mk b (bo + 3) none) = some (Value.map p) ∧
               (∀ z2 : Int, (z2 = IntKind.wrap IntKind.u32 (↑(BitVec.toNat (BitVec.ofInt (IntKind.bits IntKind.u32) addr &&& ~~~BitVec.ofInt (IntKind.bits IntKind.u32) 15)) : Int) →
               (∀ vs : Array Value, (vs = #[Value.int IntKind.u32 z2, Value.bool write] →
               Sx.mapp p (fun k =>
                (∃ I : Int → Option Value, (Sx.Mp W4 IntKind.i64 k I ∧
                (∀ W5 : World, (Sx.Mp W5 IntKind.i64 k (Sx.upd I core (some (Value.agg vs))) →
                (XHeap.XTouch (fun q => q = k) W4 W5 →
                Q (Ending.returned Value.nilIface) W5)))))))))))))))))))))))
        (Calls Try.prog 7 #[Value.pointer (some (Addr.mk b bo none)), Value.int IntKind.i64 core] W2 (fun e4 =>
          (fun W6 =>
          (∃ t3 : Bool, (e4 = Ending.returned (Value.bool t3) ∧
          Sx.split t3
           (Q (Ending.returned (Value.iface 50 (Value.int IntKind.i64 7))) W6)
           (Calls Try.prog 6 #[Value.pointer (some (Addr.mk b bo none)), Value.int IntKind.i64 core, Value.int IntKind.u32 addr] W6 (fun e5 =>
             (fun W7 =>
             (∃ z3 : Int, (e5 = Ending.returned (Value.int IntKind.i64 z3) ∧
             Sx.split (decide (z3 ≥ 1))
              (Q (Ending.returned (Value.iface 50 (Value.int IntKind.i64 7))) W7)
              ((∃ p2 : Option Nat, (World.cell? W7 (Addr.mk b (bo + 3) none) = some (Value.map p2) ∧
               (∀ z4 : Int, (z4 = IntKind.wrap IntKind.u32 (↑(BitVec.toNat (BitVec.ofInt (IntKind.bits IntKind.u32) addr &&& ~~~BitVec.ofInt (IntKind.bits IntKind.u32) 15)) : Int) →
               (∀ vs2 : Array Value, (vs2 = #[Value.int IntKind.u32 z4, Value.bool write] →
               Sx.mapp p2 (fun k2 =>
                (∃ I2 : Int → Option Value, (Sx.Mp W7 IntKind.i64 k2 I2 ∧
                (∀ W8 : World, (Sx.Mp W8 IntKind.i64 k2 (Sx.upd I2 core (some (Value.agg vs2))) →
                (XHeap.XTouch (fun q => q = k2) W7 W8 →
                Q (Ending.returned Value.nilIface) W8))))))))))))))))))))))))))))) :
  Calls Try.prog 8 #[Value.pointer (some ⟨b, bo, none⟩), Value.int .i64 core, Value.int .u32 addr, Value.bool write] W Q :=
  Sx.sound Try.func8 .leaf [Value.pointer (some ⟨b, bo, none⟩), Value.int .i64 core, Value.int .u32 addr, Value.bool write] rfl (Eq.mp (by kernel_rfl) hVC)
theorem vc18 {W : World} {Q : Ending → World → Prop} (b : Nat) (bo : Nat)
  (hVC :
    (∃ p : Option Addr, (∃ k : Nat, (∃ k2 : Nat, (World.cell? W (Addr.mk b bo none) = some (Value.slice p k k2) ∧
    (∃ I : Int → World → Prop, (∃ I2 : Int → World → Nat, (I 0 W ∧
    ((Nat →
    Value) →
    (∀ x : Int, (∀ W2 : World, (I x W2 →
    Sx.split (decide (x < (↑k : Int)))
     ((∃ z : Int, (World.cell? W2 (Addr.mk b (bo + 4) none) = some (Value.int IntKind.i64 z) ∧
      (∀ z2 : Int, (z2 = IntKind.wrap IntKind.i64 (z + 1) →
      (∀ z3 : Int, (z3 = IntKind.wrap IntKind.i64 (z2 + x) →
      (∃ p2 : Option Addr, (∃ k3 : Nat, (∃ k4 : Nat, (World.cell? W2 (Addr.mk b bo none) = some (Value.slice p2 k3 k4) ∧
      ((↑k3 : Int) ≠ 0 ∧
      (∀ z4 : Int, (z4 = Int.tmod z3 (↑k3 : Int) →
      (∀ W3 : World, (∀ k5 : Nat, (W3 = World.drewN W2 k5 →
      Calls Try.prog 7 #[Value.pointer (some (Addr.mk b bo none)), Value.int IntKind.i64 z4] W3 (fun e =>
       (fun W4 =>
       (∃ t : Bool, (e = Ending.returned (Value.bool t) ∧
       Sx.split t
        (Q (Ending.returned (Value.int IntKind.i64 z4)) W4)
        ((∀ z5 : Int, (z5 = IntKind.wrap IntKind.i64 (x + 1) →
         (I z5 W4 ∧
         I2 z5 W4 < I2 x W2)))))))))))))))))))))))))
     (Q (Ending.returned (Value.int IntKind.i64 (-1))) W2))))))))))))) :
  Calls Try.prog 18 #[Value.pointer (some ⟨b, bo, none⟩)] W Q :=
  Sx.sound Try.func18 (.node [] [] 0 .leaf (.node [] [] 0 (.node [] [] 0 .leaf (.node [] [] 0 (.node [(10, .int .i64)] [9, 0] 0 .leaf .leaf) .leaf)) .leaf)) [Value.pointer (some ⟨b, bo, none⟩)] rfl (Eq.mp (by kernel_rfl) hVC)
theorem vc9 {W : World} {Q : Ending → World → Prop} (arg0 : Nat) (arg0o : Nat)
  (hVC :
    (∃ I : World → Prop, ((∃ z : Int, (World.cell? W (Addr.mk arg0 (arg0o + 5) none) = some (Value.int IntKind.i64 z) ∧
     Sx.split (z == -1)
      ((∀ W2 : World, (W2 = World.drew W →
       (Calls Try.prog 18 #[Value.pointer (some (Addr.mk arg0 arg0o none))] W2 (fun e =>
         (fun W3 =>
         (∃ z2 : Int, (e = Ending.returned (Value.int IntKind.i64 z2) ∧
         (∃ z3 : Int, (World.cell? W3 (Addr.mk arg0 (arg0o + 1) none) = some (Value.int IntKind.i64 z3) ∧
         ((∃ v : Value, World.cell? W3 (Addr.mk arg0 (arg0o + 5) none) = some v) ∧
         (World.frozen? W3 (Addr.mk arg0 (arg0o + 5) none) = false ∧
         (∀ W4 : World, (W4 = World.setCell W3 (Addr.mk arg0 (arg0o + 5) none) (Value.int IntKind.i64 z2) →
         ((∃ v2 : Value, World.cell? W4 (Addr.mk arg0 (arg0o + 6) none) = some v2) ∧
         (World.frozen? W4 (Addr.mk arg0 (arg0o + 6) none) = false ∧
         (∀ W5 : World, (W5 = World.setCell W4 (Addr.mk arg0 (arg0o + 6) none) (Value.int IntKind.i64 z3) →
         I W5)))))))))))))) ∧
       (∃ z4 : Int, (World.cell? W2 (Addr.mk arg0 (arg0o + 1) none) = some (Value.int IntKind.i64 z4) ∧
       (RowKit.Below (Array.size (World.heap W2)) W2 W2 ∧
       Calls Try.prog 18 #[Value.pointer (some (Addr.mk arg0 arg0o none))] W2 (fun e2 =>
        (fun W6 =>
        (∃ z5 : Int, (e2 = Ending.returned (Value.int IntKind.i64 z5) ∧
        ((∃ v3 : Value, World.cell? W6 (Addr.mk arg0 (arg0o + 5) none) = some v3) ∧
        (World.frozen? W6 (Addr.mk arg0 (arg0o + 5) none) = false ∧
        (∀ W7 : World, (W7 = World.setCell W6 (Addr.mk arg0 (arg0o + 5) none) (Value.int IntKind.i64 z5) →
        ((∃ v4 : Value, World.cell? W7 (Addr.mk arg0 (arg0o + 6) none) = some v4) ∧
        (World.frozen? W7 (Addr.mk arg0 (arg0o + 6) none) = false ∧
        (∀ W8 : World, (W8 = World.setCell W7 (Addr.mk arg0 (arg0o + 6) none) (Value.int IntKind.i64 z4) →
        I W8)))))))))))))))))))
      (I W))) ∧
    ((Nat →
    Value) →
    (∀ W9 : World, (I W9 →
    (∃ z6 : Int, (World.cell? W9 (Addr.mk arg0 (arg0o + 5) none) = some (Value.int IntKind.i64 z6) ∧
    Sx.split (z6 == -1)
     (Q (Ending.returned (Value.slice none 0 0)) W9)
     ((∃ z7 : Int, (World.cell? W9 (Addr.mk arg0 (arg0o + 6) none) = some (Value.int IntKind.i64 z7) ∧
      Sx.split (decide (z7 > 0))
       ((∃ z8 : Int, (World.cell? W9 (Addr.mk arg0 (arg0o + 6) none) = some (Value.int IntKind.i64 z8) ∧
        (∀ z9 : Int, (z9 = IntKind.wrap IntKind.i64 (z8 - 1) →
        ((∃ v5 : Value, World.cell? W9 (Addr.mk arg0 (arg0o + 6) none) = some v5) ∧
        (World.frozen? W9 (Addr.mk arg0 (arg0o + 6) none) = false ∧
        (∀ W10 : World, (W10 = World.setCell W9 (Addr.mk arg0 (arg0o + 6) none) (Value.int IntKind.i64 z9) →
        Q (Ending.returned (Value.slice none 0 0)) W10)))))))))
       ((∃ z10 : Int, (World.cell? W9 (Addr.mk arg0 (arg0o + 5) none) = some (Value.int IntKind.i64 z10) ∧
        (∃ p : Option Nat, (World.cell? W9 (Addr.mk arg0 (arg0o + 3) none) = some (Value.map p) ∧
        Sx.mapp p (fun k =>
         (∃ I2 : Int → Option Value, (Sx.Mp W9 IntKind.i64 k I2 ∧
         (∃ vs : Array Value, (Option.getD (I2 z10) (Value.agg #[Value.int IntKind.u32 0, Value.bool false]) = Value.agg vs ∧
         (∀ k2 : Nat, (∀ W11 : World, (k2 = Array.size (World.heap W9) →
         (W11 = World.alloc W9 (Obj.cells #[Value.int IntKind.u32 0, Value.bool false] 62) →
         (Array.size vs = 2 ∧
         ((∀ k3 : Nat, (k3 < 2 →
          ((∃ v6 : Value, World.cell? W11 (Addr.mk k2 (0 + k3) none) = some v6) ∧
          World.frozen? W11 (Addr.mk k2 (0 + k3) none) = false))) ∧
         ((∀ v7 : Value, (v7 ∈ Array.toList vs →
          Value.oneCell' v7 = true)) ∧
         (∀ W12 : World, (W12 = World.setCells W11 k2 0 (Array.toList vs) →
         (∃ p2 : Option Nat, (World.cell? W12 (Addr.mk arg0 (arg0o + 3) none) = some (Value.map p2) ∧
         Sx.mapp p2 (fun k4 =>
          (∃ I3 : Int → Option Value, (Sx.Mp W12 IntKind.i64 k4 I3 ∧
          (∀ W13 : World, (Sx.Mp W13 IntKind.i64 k4 (Sx.upd I3 z10 none) →
          (XHeap.XTouch (fun q => q = k4) W12 W13 →
          ((∃ v8 : Value, World.cell? W13 (Addr.mk arg0 (arg0o + 4) none) = some v8) ∧
          (World.frozen? W13 (Addr.mk arg0 (arg0o + 4) none) = false ∧
          (∀ W14 : World, (W14 = World.setCell W13 (Addr.mk arg0 (arg0o + 4) none) (Value.int IntKind.i64 z10) →
          ((∃ v9 : Value, World.cell? W14 (Addr.mk arg0 (arg0o + 5) none) = some v9) ∧
          (World.frozen? W14 (Addr.mk arg0 (arg0o + 5) none) = false ∧
          (∀ W15 : World, (W15 = World.setCell W14 (Addr.mk arg0 (arg0o + 5) none) (Value.int IntKind.i64 (-1)) →
          (∃ vs2 : Array Value, (Array.size vs2 = 2 ∧
          (Sx.cellsAt W15 (Addr.mk k2 0 none) vs2 ∧
          Calls Try.prog 19 #[Value.pointer (some (Addr.mk arg0 arg0o none)), Value.int IntKind.i64 z10, Value.agg vs2] W15 (fun e3 =>
           (fun W16 =>
           (∃ p3 : Option Addr, (∃ k5 : Nat, (∃ k6 : Nat, (e3 = Ending.returned (Value.slice p3 k5 k6) ∧
           Q (Ending.returned (Value.slice p3 k5 k6)) W16))))))))))))))))))))))))))))))))))))))))))))))))))))))) :
  Calls Try.prog 9 #[Value.pointer (some ⟨arg0, arg0o, none⟩)] W Q :=
  Sx.sound Try.func9 (.node [] [] 0 .leaf (.node [] [0] 1 (.node [] [] 0 .leaf (.node [] [] 0 (.node [] [] 1004 .leaf .leaf) .leaf)) .leaf)) [Value.pointer (some ⟨arg0, arg0o, none⟩)] rfl (Eq.mp (by kernel_rfl) hVC)
theorem vc27 {W : World} {Q : Ending → World → Prop} (b : Nat) (bo : Nat) (line : Int)
  (hVC :
    (∀ z : Int, (z = IntKind.wrap IntKind.u32 (line - 65536) →
    (∀ z2 : Int, (z2 = IntKind.wrap IntKind.i64 z →
    (∃ p : Option Addr, (∃ k : Nat, (∃ k2 : Nat, (World.cell? W (Addr.mk b (bo + 2) none) = some (Value.slice p k k2) ∧
    (∀ z3 : Int, (z3 = IntKind.wrap IntKind.i64 (z2 + 16) →
    (((0 : Int) ≤ z2 ∧
     (z2 ≤ z3 ∧
     z3 ≤ (↑k2 : Int))) ∧
    Q (Ending.returned (Value.slice (Sx.sub p k2 (Int.toNat z2) 1) (Int.toNat z3 - Int.toNat z2) (k2 - Int.toNat z2))) W)))))))))))) :
  Calls Try.prog 27 #[Value.pointer (some ⟨b, bo, none⟩), Value.int .u32 line] W Q :=
  Sx.sound Try.func27 .leaf [Value.pointer (some ⟨b, bo, none⟩), Value.int .u32 line] rfl (Eq.mp (by kernel_rfl) hVC)
theorem vc23 {W : World} {Q : Ending → World → Prop} (b : Nat) (bo : Nat) (l : Array Value)
  (hVC :
    (∀ k : Nat, (∀ W2 : World, (k = Array.size (World.heap W) →
    (W2 = World.alloc W (Obj.cells (Value.cells (Value.agg l)) 72) →
    (∃ z : Int, (World.cell? W2 (Addr.mk k (0 + 1) none) = some (Value.int IntKind.i64 z) ∧
    Sx.split (z == 3)
     ((∀ W3 : World, (W3 = World.drew W2 →
      (∃ z2 : Int, (World.cell? W3 (Addr.mk k 0 none) = some (Value.int IntKind.u32 z2) ∧
      (∃ p : Option Addr, (∃ k2 : Nat, (∃ k3 : Nat, (Calls Try.prog 27 #[Value.pointer (some (Addr.mk b bo none)), Value.int IntKind.u32 z2] W3 (fun e =>
        (fun W4 =>
        (e = Ending.returned (Value.slice p k2 k3) ∧
        W4 = W3))) ∧
      (∃ l2 : List Value, (List.length l2 = Nat.min 16 k2 * 1 ∧
      ((∀ v : Value, (v ∈ l2 →
       Value.oneCell' v = true)) ∧
      (((l2 = []) ∨
       (((∃ a : Addr, (some (Addr.mk k (0 + 2) none) = some a ∧
        (∀ k4 : Nat, (∀ v2 : Value, (l2[k4]? = some v2 →
        World.cell? W3 (Addr.add a k4) = some v2))))) ∧
       (∃ k5 : Nat, (∃ k6 : Nat, (p = some (Addr.mk k5 k6 none) ∧
       (∀ k7 : Nat, (k7 < List.length l2 →
       ((∃ v3 : Value, World.cell? W3 (Addr.mk k5 (k6 + k7) none) = some v3) ∧
       World.frozen? W3 (Addr.mk k5 (k6 + k7) none) = false))))))))) ∧
      (∀ W5 : World, (W5 = Sx.setRow p W3 l2 →
      Q (Ending.returned (Value.tuple #[])) W5)))))))))))))))
     (Q (Ending.returned (Value.tuple #[])) W2)))))))) :
  Calls Try.prog 23 #[Value.pointer (some ⟨b, bo, none⟩), Value.agg l] W Q :=
  Sx.sound Try.func23 (.node [] [] 0 .leaf (.node [] [] 0 .leaf (.node [] [] 0 (.node [] [] 7 .leaf .leaf) .leaf))) [Value.pointer (some ⟨b, bo, none⟩), Value.agg l] rfl (Eq.mp (by kernel_rfl) hVC)
theorem vc19 {W : World} {Q : Ending → World → Prop} (arg0 : Nat) (arg0o : Nat) (arg1 : Int) (arg2 : Array Value)
  (hVC :
    (∀ k : Nat, (∀ W2 : World, (k = Array.size (World.heap W) →
    (W2 = World.alloc W (Obj.cells (Value.cells (Value.agg arg2)) 62) →
    (∃ I : Int → World → Prop, ((∃ t : Bool, (World.cell? W2 (Addr.mk k (0 + 1) none) = some (Value.bool t) ∧
     Sx.split (!t)
      (I 1 W2)
      (I 0 W2))) ∧
    ((Nat →
    Value) →
    (∀ x : Int, (∀ W3 : World, (I x W3 →
    (∃ I2 : Int → Option Addr → Nat → Nat → World → Prop, ((∃ p : Option Addr, (∃ k2 : Nat, (∃ k3 : Nat, (World.cell? W3 (Addr.mk arg0 arg0o none) = some (Value.slice p k2 k3) ∧
     (∃ I3 : Int → Option Addr → Nat → Nat → Int → World → Prop, (∃ I4 : Int → Option Addr → Nat → Nat → Int → World → Nat, (I3 0 none 0 0 2 W3 ∧
     ((Nat →
     Value) →
     (∀ x2 : Int, (∀ x3 : Option Addr, (∀ k4 : Nat, (∀ k5 : Nat, (∀ x4 : Int, (∀ W4 : World, (I3 x2 x3 k4 k5 x4 W4 →
     Sx.split (decide (x2 < (↑k2 : Int)))
      ((∃ I5 : Option Addr → Nat → Nat → Int → World → Prop, ((((0 : Int) ≤ x2 ∧
         x2 < (↑k2 : Int)) ∧
        Sx.adr p (fun k6 =>
         (fun k7 =>
         (∃ p2 : Option Addr, (World.cell? W4 (Addr.mk k6 (k7 + Int.toNat x2 * 1) none) = some (Value.pointer p2) ∧
         (∃ z : Int, (World.cell? W4 (Addr.mk k 0 none) = some (Value.int IntKind.u32 z) ∧
         Calls Try.prog 17 #[Value.pointer p2, Value.int IntKind.u32 z] W4 (fun e =>
          (fun W5 =>
          (∃ z2 : Int, (e = Ending.returned (Value.int IntKind.i64 z2) ∧
          Sx.split (x2 == arg1)
           (I5 x3 k4 k5 x4 W5)
           (Sx.split (z2 == 0)
             (I5 x3 k4 k5 x4 W5)
             ((∃ I6 : Int → World → Prop, ((∃ t2 : Bool, (World.cell? W5 (Addr.mk k (0 + 1) none) = some (Value.bool t2) ∧
               Sx.split (!t2)
                (I6 1 W5)
                (I6 x4 W5))) ∧
              ((Nat →
              Value) →
              (∀ x5 : Int, (∀ W6 : World, (I6 x5 W6 →
              (∃ z3 : Int, (World.cell? W6 (Addr.mk k 0 none) = some (Value.int IntKind.u32 z3) ∧
              Calls Try.prog 25 #[Value.pointer p2, Value.int IntKind.u32 z3, Value.int IntKind.i64 x] W6 (fun e2 =>
               (fun W7 =>
               (∃ vs : Array Value, (∃ v : Value, (e2 = Ending.returned (Value.tuple #[Value.agg vs, v]) ∧
               (∀ k8 : Nat, (∀ W8 : World, (k8 = Array.size (World.heap W7) →
               (W8 = World.alloc W7 (Obj.cells #[Value.int IntKind.u32 0, Value.int IntKind.i64 0, Value.int IntKind.u8 0, Value.int IntKind.u8 0, Value.int IntKind.u8 0, Value.int IntKind.u8 0, Value.int IntKind.u8 0, Value.int IntKind.u8 0, Value.int IntKind.u8 0, Value.int IntKind.u8 0, Value.int IntKind.u8 0, Value.int IntKind.u8 0, Value.int IntKind.u8 0, Value.int IntKind.u8 0, Value.int IntKind.u8 0, Value.int IntKind.u8 0, Value.int IntKind.u8 0, Value.int IntKind.u8 0] 72) →
               (Array.size vs = 18 ∧
               ((∀ k9 : Nat, (k9 < 18 →
                ((∃ v2 : Value, World.cell? W8 (Addr.mk k8 (0 + k9) none) = some v2) ∧
                World.frozen? W8 (Addr.mk k8 (0 + k9) none) = false))) ∧
               ((∀ v3 : Value, (v3 ∈ Array.toList vs →
                Value.oneCell' v3 = true)) ∧
               (∀ W9 : World, (W9 = World.setCells W8 k8 0 (Array.toList vs) →
               Sx.isNil v (fun t3 =>
                Sx.split t3
                 ((∃ vs2 : Array Value, (Array.size vs2 = 18 ∧
                  (Sx.cellsAt W9 (Addr.mk k8 0 none) vs2 ∧
                  Calls Try.prog 23 #[Value.pointer (some (Addr.mk arg0 arg0o none)), Value.agg vs2] W9 (fun e3 =>
                   (fun W10 =>
                   (e3 = Ending.returned (Value.tuple #[]) ∧
                   (∃ z4 : Int, (World.cell? W10 (Addr.mk k 0 none) = some (Value.int IntKind.u32 z4) ∧
                   (∀ vs3 : Array Value, (vs3 = #[Value.int IntKind.i64 x2, Value.int IntKind.u32 z4, Value.int IntKind.i64 z2, Value.int IntKind.i64 x] →
                   (Array.size vs3 = 4 ∧
                   (∀ k10 : Nat, (∀ W11 : World, (k10 = Array.size (World.heap W10) →
                   (W11 = World.alloc W10 (Obj.cells (List.toArray (Array.toList vs3 ++ [])) 85) →
                   (∃ l : List Value, (∃ l2 : List Value, (XHeap.Sl W11 85 4 (Value.slice x3 k4 k5) k4 l ∧
                   (((((1 : Nat) = (0 : Nat) ∧
                     some (Addr.mk k10 0 none) = none)) ∨
                    ((∃ a : Addr, (some (Addr.mk k10 0 none) = some a ∧
                    (∀ k11 : Nat, (∀ v4 : Value, (l2[k11]? = some v4 →
                    World.cell? W11 (Addr.add a k11) = some v4))))))) ∧
                   (List.length l2 = 4 ∧
                   ((∀ v5 : Value, (v5 ∈ l2 →
                    Value.oneCell' v5 = true)) ∧
                   (k4 + 1 ≤ maxLen ∧
                   ((k4 + 1) * 32 ≤ 140737488355328 ∧
                   (∀ p3 : Option Addr, (∀ k12 : Nat, (∀ W12 : World, (XHeap.Sl W12 85 4 (Value.slice p3 (k4 + 1) k12) (k4 + 1) (l ++ l2) →
                   (XHeap.XTouch (fun b => Value.ownBlock (Value.slice x3 k4 k5) = some b) W11 W12 →
                   ((∀ k13 : Nat, (Value.ownBlock (Value.slice p3 (k4 + 1) k12) = some k13 →
                   ((Value.ownBlock (Value.slice x3 k4 k5) = some k13) ∨
                   (Array.size (World.heap W11) ≤ k13)))) →
                   (XHeap.Sl W12 85 4 (Value.slice x3 k4 k5) k4 l →
                   ((((p3 = x3 ∧
                    k12 = k5)) ∨
                   ((((XHeap.NilP x3) ∨
                    (k5 < k4 + 1)) ∧
                   (∀ k14 : Nat, (Value.ownBlock (Value.slice p3 (k4 + 1) k12) = some k14 →
                   Array.size (World.heap W11) ≤ k14))))) →
                   I5 p3 (k4 + 1) k12 x5 W12))))))))))))))))))))))))))))))))
                 (I5 x3 k4 k5 x5 W9))))))))))))))))))))))))))))))))))))) ∧
       ((Nat →
       Value) →
       (∀ x6 : Option Addr, (∀ k15 : Nat, (∀ k16 : Nat, (∀ x7 : Int, (∀ W13 : World, (I5 x6 k15 k16 x7 W13 →
       (∀ z5 : Int, (z5 = IntKind.wrap IntKind.i64 (x2 + 1) →
       (I3 z5 x6 k15 k16 x7 W13 ∧
       I4 z5 x6 k15 k16 x7 W13 < I4 x2 x3 k4 k5 x4 W4)))))))))))))
      (I2 x4 x3 k4 k5 W4)))))))))))))))) ∧
    ((Nat →
    Value) →
    (∀ x8 : Int, (∀ x9 : Option Addr, (∀ k17 : Nat, (∀ k18 : Nat, (∀ W14 : World, (I2 x8 x9 k17 k18 W14 →
    (∃ p4 : Option Addr, (∃ k19 : Nat, (∃ k20 : Nat, (World.cell? W14 (Addr.mk arg0 arg0o none) = some (Value.slice p4 k19 k20) ∧
    (((0 : Int) ≤ arg1 ∧
     arg1 < (↑k19 : Int)) ∧
    Sx.adr p4 (fun k21 =>
     (fun k22 =>
     (∃ p5 : Option Addr, (World.cell? W14 (Addr.mk k21 (k22 + Int.toNat arg1 * 1) none) = some (Value.pointer p5) ∧
     (∃ z6 : Int, (World.cell? W14 (Addr.mk k 0 none) = some (Value.int IntKind.u32 z6) ∧
     Calls Try.prog 17 #[Value.pointer p5, Value.int IntKind.u32 z6] W14 (fun e4 =>
      (fun W15 =>
      (∃ z7 : Int, (e4 = Ending.returned (Value.int IntKind.i64 z7) ∧
      (∃ I7 : World → Prop, (Sx.split (z7 != 0)
        ((∃ z8 : Int, (World.cell? W15 (Addr.mk k 0 none) = some (Value.int IntKind.u32 z8) ∧
         Calls Try.prog 25 #[Value.pointer p5, Value.int IntKind.u32 z8, Value.int IntKind.i64 0] W15 (fun e5 =>
          (fun W16 =>
          (∃ vs4 : Array Value, (∃ v6 : Value, (e5 = Ending.returned (Value.tuple #[Value.agg vs4, v6]) ∧
          I7 W16))))))))
        (I7 W15) ∧
      ((Nat →
      Value) →
      (∀ W17 : World, (I7 W17 →
      (∃ I8 : Bool → Option Addr → World → Prop, ((∀ W18 : World, (W18 = World.drew W17 →
       (∃ z9 : Int, (World.cell? W18 (Addr.mk k 0 none) = some (Value.int IntKind.u32 z9) ∧
       (∃ z10 : Int, (World.cell? W18 (Addr.mk k 0 none) = some (Value.int IntKind.u32 z10) ∧
       (Calls Try.prog 27 #[Value.pointer (some (Addr.mk arg0 arg0o none)), Value.int IntKind.u32 z10] W18 (fun e6 =>
         (fun W19 =>
         (∃ p6 : Option Addr, (∃ k23 : Nat, (∃ k24 : Nat, (e6 = Ending.returned (Value.slice p6 k23 k24) ∧
         (RowKit.Below (Array.size (World.heap W18)) W18 W19 ∧
         ((16 : Nat) ≤ k23 ∧
         Sx.ptr p6 (fun a2 =>
          (∃ vs5 : Array Value, (Array.size vs5 = 16 ∧
          (Sx.cellsAt W18 a2 vs5 ∧
          (Calls Try.prog 26 #[Value.pointer p5, Value.int IntKind.u32 z9, Value.agg vs5, Value.int IntKind.i64 x8] W19 (fun e7 =>
            (fun W20 =>
            (∃ vs6 : Array Value, (∃ t4 : Bool, (∃ v7 : Value, (e7 = Ending.returned (Value.tuple #[Value.agg vs6, Value.bool t4, v7]) ∧
            (∀ k25 : Nat, (∀ W21 : World, (k25 = Array.size (World.heap W20) →
            (W21 = World.alloc W20 (Obj.cells #[Value.int IntKind.u32 0, Value.int IntKind.i64 0, Value.int IntKind.u8 0, Value.int IntKind.u8 0, Value.int IntKind.u8 0, Value.int IntKind.u8 0, Value.int IntKind.u8 0, Value.int IntKind.u8 0, Value.int IntKind.u8 0, Value.int IntKind.u8 0, Value.int IntKind.u8 0, Value.int IntKind.u8 0, Value.int IntKind.u8 0, Value.int IntKind.u8 0, Value.int IntKind.u8 0, Value.int IntKind.u8 0, Value.int IntKind.u8 0, Value.int IntKind.u8 0] 72) →
            (Array.size vs6 = 18 ∧
            ((∀ k26 : Nat, (k26 < 18 →
             ((∃ v8 : Value, World.cell? W21 (Addr.mk k25 (0 + k26) none) = some v8) ∧
             World.frozen? W21 (Addr.mk k25 (0 + k26) none) = false))) ∧
            ((∀ v9 : Value, (v9 ∈ Array.toList vs6 →
             Value.oneCell' v9 = true)) ∧
            (∀ W22 : World, (W22 = World.setCells W21 k25 0 (Array.toList vs6) →
            I8 t4 (some (Addr.mk k25 0 none)) W22))))))))))))))) ∧
          (∀ k27 : Nat, (∀ W23 : World, (k27 = Array.size (World.heap W19) →
          (W23 = World.alloc W19 (Obj.cells #[Value.int IntKind.u32 0, Value.int IntKind.i64 0, Value.int IntKind.u8 0, Value.int IntKind.u8 0, Value.int IntKind.u8 0, Value.int IntKind.u8 0, Value.int IntKind.u8 0, Value.int IntKind.u8 0, Value.int IntKind.u8 0, Value.int IntKind.u8 0, Value.int IntKind.u8 0, Value.int IntKind.u8 0, Value.int IntKind.u8 0, Value.int IntKind.u8 0, Value.int IntKind.u8 0, Value.int IntKind.u8 0, Value.int IntKind.u8 0, Value.int IntKind.u8 0] 72) →
          (RowKit.Below (Array.size (World.heap W18)) W18 W23 ∧
          Calls Try.prog 26 #[Value.pointer p5, Value.int IntKind.u32 z9, Value.agg vs5, Value.int IntKind.i64 x8] W23 (fun e8 =>
           (fun W24 =>
           (∃ vs7 : Array Value, (∃ t5 : Bool, (∃ v10 : Value, (e8 = Ending.returned (Value.tuple #[Value.agg vs7, Value.bool t5, v10]) ∧
           (Array.size vs7 = 18 ∧
           ((∀ k28 : Nat, (k28 < 18 →
            ((∃ v11 : Value, World.cell? W24 (Addr.mk k27 (0 + k28) none) = some v11) ∧
            World.frozen? W24 (Addr.mk k27 (0 + k28) none) = false))) ∧
           ((∀ v12 : Value, (v12 ∈ Array.toList vs7 →
            Value.oneCell' v12 = true)) ∧
           (∀ W25 : World, (W25 = World.setCells W24 k27 0 (Array.toList vs7) →
           I8 t5 (some (Addr.mk k27 0 none)) W25))))))))))))))))))))))))))))) ∧
       (∀ k29 : Nat, (∀ W26 : World, (k29 = Array.size (World.heap W18) →
       (W26 = World.alloc W18 (Obj.cells #[Value.int IntKind.u32 0, Value.int IntKind.i64 0, Value.int IntKind.u8 0, Value.int IntKind.u8 0, Value.int IntKind.u8 0, Value.int IntKind.u8 0, Value.int IntKind.u8 0, Value.int IntKind.u8 0, Value.int IntKind.u8 0, Value.int IntKind.u8 0, Value.int IntKind.u8 0, Value.int IntKind.u8 0, Value.int IntKind.u8 0, Value.int IntKind.u8 0, Value.int IntKind.u8 0, Value.int IntKind.u8 0, Value.int IntKind.u8 0, Value.int IntKind.u8 0] 72) →
       (RowKit.Below (Array.size (World.heap W18)) W18 W26 ∧
       Calls Try.prog 27 #[Value.pointer (some (Addr.mk arg0 arg0o none)), Value.int IntKind.u32 z10] W26 (fun e9 =>
        (fun W27 =>
        (∃ p7 : Option Addr, (∃ k30 : Nat, (∃ k31 : Nat, (e9 = Ending.returned (Value.slice p7 k30 k31) ∧
        (RowKit.Below (Array.size (World.heap W18)) W18 W27 ∧
        ((16 : Nat) ≤ k30 ∧
        Sx.ptr p7 (fun a3 =>
         (∃ vs8 : Array Value, (Array.size vs8 = 16 ∧
         (Sx.cellsAt W18 a3 vs8 ∧
         Calls Try.prog 26 #[Value.pointer p5, Value.int IntKind.u32 z9, Value.agg vs8, Value.int IntKind.i64 x8] W27 (fun e10 =>
          (fun W28 =>
          (∃ vs9 : Array Value, (∃ t6 : Bool, (∃ v13 : Value, (e10 = Ending.returned (Value.tuple #[Value.agg vs9, Value.bool t6, v13]) ∧
          (Array.size vs9 = 18 ∧
          ((∀ k32 : Nat, (k32 < 18 →
           ((∃ v14 : Value, World.cell? W28 (Addr.mk k29 (0 + k32) none) = some v14) ∧
           World.frozen? W28 (Addr.mk k29 (0 + k32) none) = false))) ∧
          ((∀ v15 : Value, (v15 ∈ Array.toList vs9 →
           Value.oneCell' v15 = true)) ∧
          (∀ W29 : World, (W29 = World.setCells W28 k29 0 (Array.toList vs9) →
          I8 t6 (some (Addr.mk k29 0 none)) W29))))))))))))))))))))))))))))))))))) ∧
      ((Nat →
      Value) →
      (∀ x10 : Bool, (∀ x11 : Option Addr, (∀ W30 : World, (I8 x10 x11 W30 →
      (∃ I9 : Option Addr → Nat → Nat → World → Prop, (Sx.split x10
        (Sx.ptr x11 (fun a4 =>
          (∃ vs10 : Array Value, (Array.size vs10 = 18 ∧
          (Sx.cellsAt W30 a4 vs10 ∧
          Calls Try.prog 23 #[Value.pointer (some (Addr.mk arg0 arg0o none)), Value.agg vs10] W30 (fun e11 =>
           (fun W31 =>
           (e11 = Ending.returned (Value.tuple #[]) ∧
           Sx.ptr x11 (fun a5 =>
            (∃ z11 : Int, (World.cell? W31 (Addr.add a5 0) = some (Value.int IntKind.u32 z11) ∧
            Sx.ptr x11 (fun a6 =>
             (∃ z12 : Int, (World.cell? W31 (Addr.add a6 1) = some (Value.int IntKind.i64 z12) ∧
             (∀ vs11 : Array Value, (vs11 = #[Value.int IntKind.i64 arg1, Value.int IntKind.u32 z11, Value.int IntKind.i64 z12, Value.int IntKind.i64 0] →
             (Array.size vs11 = 4 ∧
             (∀ k33 : Nat, (∀ W32 : World, (k33 = Array.size (World.heap W31) →
             (W32 = World.alloc W31 (Obj.cells (List.toArray (Array.toList vs11 ++ [])) 85) →
             (∃ l3 : List Value, (∃ l4 : List Value, (XHeap.Sl W32 85 4 (Value.slice x9 k17 k18) k17 l3 ∧
             (((((1 : Nat) = (0 : Nat) ∧
               some (Addr.mk k33 0 none) = none)) ∨
              ((∃ a7 : Addr, (some (Addr.mk k33 0 none) = some a7 ∧
              (∀ k34 : Nat, (∀ v16 : Value, (l4[k34]? = some v16 →
              World.cell? W32 (Addr.add a7 k34) = some v16))))))) ∧
             (List.length l4 = 4 ∧
             ((∀ v17 : Value, (v17 ∈ l4 →
              Value.oneCell' v17 = true)) ∧
             (k17 + 1 ≤ maxLen ∧
             ((k17 + 1) * 32 ≤ 140737488355328 ∧
             (∀ p8 : Option Addr, (∀ k35 : Nat, (∀ W33 : World, (XHeap.Sl W33 85 4 (Value.slice p8 (k17 + 1) k35) (k17 + 1) (l3 ++ l4) →
             (XHeap.XTouch (fun b => Value.ownBlock (Value.slice x9 k17 k18) = some b) W32 W33 →
             ((∀ k36 : Nat, (Value.ownBlock (Value.slice p8 (k17 + 1) k35) = some k36 →
             ((Value.ownBlock (Value.slice x9 k17 k18) = some k36) ∨
             (Array.size (World.heap W32) ≤ k36)))) →
             (XHeap.Sl W33 85 4 (Value.slice x9 k17 k18) k17 l3 →
             ((((p8 = x9 ∧
              k35 = k18)) ∨
             ((((XHeap.NilP x9) ∨
              (k18 < k17 + 1)) ∧
             (∀ k37 : Nat, (Value.ownBlock (Value.slice p8 (k17 + 1) k35) = some k37 →
             Array.size (World.heap W32) ≤ k37))))) →
             I9 p8 (k17 + 1) k35 W33)))))))))))))))))))))))))))))))))))))
        (I9 x9 k17 k18 W30) ∧
      ((Nat →
      Value) →
      (∀ x12 : Option Addr, (∀ k38 : Nat, (∀ k39 : Nat, (∀ W34 : World, (I9 x12 k38 k39 W34 →
      (∃ z13 : Int, (World.cell? W34 (Addr.mk k 0 none) = some (Value.int IntKind.u32 z13) ∧
      (∀ vs12 : Array Value, (vs12 = #[Value.int IntKind.i64 arg1, Value.int IntKind.u32 z13, Value.int IntKind.i64 z7, Value.int IntKind.i64 x8] →
      (Array.size vs12 = 4 ∧
      (∀ k40 : Nat, (∀ W35 : World, (k40 = Array.size (World.heap W34) →
      (W35 = World.alloc W34 (Obj.cells (List.toArray (Array.toList vs12 ++ [])) 85) →
      (∃ l5 : List Value, (∃ l6 : List Value, (XHeap.Sl W35 85 4 (Value.slice x12 k38 k39) k38 l5 ∧
      (((((1 : Nat) = (0 : Nat) ∧
        some (Addr.mk k40 0 none) = none)) ∨
       ((∃ a8 : Addr, (some (Addr.mk k40 0 none) = some a8 ∧
       (∀ k41 : Nat, (∀ v18 : Value, (l6[k41]? = some v18 →
       World.cell? W35 (Addr.add a8 k41) = some v18))))))) ∧
      (List.length l6 = 4 ∧
      ((∀ v19 : Value, (v19 ∈ l6 →
       Value.oneCell' v19 = true)) ∧
      (k38 + 1 ≤ maxLen ∧
      ((k38 + 1) * 32 ≤ 140737488355328 ∧
      (∀ p9 : Option Addr, (∀ k42 : Nat, (∀ W36 : World, (XHeap.Sl W36 85 4 (Value.slice p9 (k38 + 1) k42) (k38 + 1) (l5 ++ l6) →
      (XHeap.XTouch (fun b => Value.ownBlock (Value.slice x12 k38 k39) = some b) W35 W36 →
      ((∀ k43 : Nat, (Value.ownBlock (Value.slice p9 (k38 + 1) k42) = some k43 →
      ((Value.ownBlock (Value.slice x12 k38 k39) = some k43) ∨
      (Array.size (World.heap W35) ≤ k43)))) →
      (XHeap.Sl W36 85 4 (Value.slice x12 k38 k39) k38 l5 →
      ((((p9 = x12 ∧
       k42 = k39)) ∨
      ((((XHeap.NilP x12) ∨
       (k39 < k38 + 1)) ∧
      (∀ k44 : Nat, (Value.ownBlock (Value.slice p9 (k38 + 1) k42) = some k44 →
      Array.size (World.heap W35) ≤ k44))))) →
      Q (Ending.returned (Value.slice p9 (k38 + 1) k42)) W36)))))))))))))))))))))))))))))))))))))))))))))))))))))))))))))))))))))))))))))))) :
  Calls Try.prog 19 #[Value.pointer (some ⟨arg0, arg0o, none⟩), Value.int .i64 arg1, Value.agg arg2] W Q :=
  Sx.sound Try.func19 (.node [] [] 0 .leaf (.node [] [] 0 .leaf (.node [(8, .int .i64)] [0, 5, 1, 6, 7] 1 .leaf (.node [(7, .int .i64), (6, .slice)] [0, 1, 5] 1 (.node [] [] 0 .leaf (.node [] [] 0 (.node [(27, .int .i64), (6, .slice), (7, .int .i64)] [26, 25, 5, 1, 8, 0] 0 (.node [] [] 0 .leaf (.node [] [] 0 .leaf (.node [(6, .slice), (7, .int .i64)] [27, 26, 25, 5, 1, 8, 0] 1 (.node [] [] 0 (.node [] [] 0 .leaf (.node [] [] 0 .leaf (.node [] [] 0 .leaf (.node [(7, .int .i64)] [10, 5, 8, 0, 6, 9, 11, 27, 26, 25, 1] 1 .leaf .leaf)))) .leaf) .leaf))) .leaf) .leaf)) (.node [] [] 0 .leaf (.node [] [] 0 .leaf (.node [] [14, 5, 0, 7, 6, 1, 15] 1 .leaf (.node [(17, .bool), (16, .ptr)] [0, 6, 1, 5, 15, 7] 1 (.node [] [] 1011 .leaf .leaf) (.node [(6, .slice)] [1, 5, 15, 7] 1 .leaf .leaf))))))))) [Value.pointer (some ⟨arg0, arg0o, none⟩), Value.int .i64 arg1, Value.agg arg2] rfl (Eq.mp (by kernel_rfl) hVC)
theorem vc11 {W : World} {Q : Ending → World → Prop} (b : Nat) (bo : Nat) (core : Int) (addr : Int) (size : Int)
  (hVC :
    Calls Try.prog 16 #[Value.pointer (some (Addr.mk b bo none)), Value.int IntKind.i64 core, Value.int IntKind.u32 addr] W (fun e =>
     (fun W2 =>
     (∃ t : Bool, (e = Ending.returned (Value.bool t) ∧
     Sx.split (!t)
      (Q (Ending.returned (Value.tuple #[Value.int IntKind.u32 0, Value.bool false])) W2)
      ((∃ p : Option Addr, (∃ k : Nat, (∃ k2 : Nat, (World.cell? W2 (Addr.mk b bo none) = some (Value.slice p k k2) ∧
       (((0 : Int) ≤ core ∧
        core < (↑k : Int)) ∧
       Sx.adr p (fun k3 =>
        (fun k4 =>
        (∃ p2 : Option Addr, (World.cell? W2 (Addr.mk k3 (k4 + Int.toNat core * 1) none) = some (Value.pointer p2) ∧
        Calls Try.prog 21 #[Value.pointer p2, Value.int IntKind.u32 addr, Value.int IntKind.i64 size] W2 (fun e2 =>
         (fun W3 =>
         (∃ z : Int, (∃ t2 : Bool, (e2 = Ending.returned (Value.tuple #[Value.int IntKind.u32 z, Value.bool t2]) ∧
         Q (Ending.returned (Value.tuple #[Value.int IntKind.u32 z, Value.bool t2])) W3)))))))))))))))))))) :
  Calls Try.prog 11 #[Value.pointer (some ⟨b, bo, none⟩), Value.int .i64 core, Value.int .u32 addr, Value.int .i64 size] W Q :=
  Sx.sound Try.func11 .leaf [Value.pointer (some ⟨b, bo, none⟩), Value.int .i64 core, Value.int .u32 addr, Value.int .i64 size] rfl (Eq.mp (by kernel_rfl) hVC)
theorem vc10 {W : World} {Q : Ending → World → Prop} (b : Nat) (bo : Nat) (core : Int) (addr : Int) (size : Int) (data : Int)
  (hVC :
    Calls Try.prog 16 #[Value.pointer (some (Addr.mk b bo none)), Value.int IntKind.i64 core, Value.int IntKind.u32 addr] W (fun e =>
     (fun W2 =>
     (∃ t : Bool, (e = Ending.returned (Value.bool t) ∧
     Sx.split t
      ((∃ p : Option Addr, (∃ k : Nat, (∃ k2 : Nat, (World.cell? W2 (Addr.mk b bo none) = some (Value.slice p k k2) ∧
       (((0 : Int) ≤ core ∧
        core < (↑k : Int)) ∧
       Sx.adr p (fun k3 =>
        (fun k4 =>
        (∃ p2 : Option Addr, (World.cell? W2 (Addr.mk k3 (k4 + Int.toNat core * 1) none) = some (Value.pointer p2) ∧
        Calls Try.prog 20 #[Value.pointer p2, Value.int IntKind.u32 addr, Value.int IntKind.i64 size, Value.int IntKind.u32 data] W2 (fun e2 =>
         (fun W3 =>
         (∃ t2 : Bool, (e2 = Ending.returned (Value.bool t2) ∧
         Q (Ending.returned (Value.bool t2)) W3))))))))))))))
      (Q (Ending.returned (Value.bool false)) W2)))))) :
  Calls Try.prog 10 #[Value.pointer (some ⟨b, bo, none⟩), Value.int .i64 core, Value.int .u32 addr, Value.int .i64 size, Value.int .u32 data] W Q :=
  Sx.sound Try.func10 .leaf [Value.pointer (some ⟨b, bo, none⟩), Value.int .i64 core, Value.int .u32 addr, Value.int .i64 size, Value.int .u32 data] rfl (Eq.mp (by kernel_rfl) hVC)
theorem vc15 {W : World} {Q : Ending → World → Prop} (s : Option Addr) (sn : Nat) (sc : Nat)
  (hVC :
    Sx.split (Option.isNone s)
     (Q (Ending.returned (Value.slice none 0 0)) W)
     ((∀ k : Nat, (∀ W2 : World, (k = Array.size (World.heap W) →
      (W2 = World.alloc W (Obj.cells #[] 5) →
      (∃ l : List Value, (∃ l2 : List Value, (XHeap.Sl W2 5 1 (Value.slice (some (Addr.mk k 0 none)) 0 0) 0 l ∧
      ((((sn = 0 ∧
        s = none)) ∨
       ((∃ a : Addr, (s = some a ∧
       (∀ k2 : Nat, (∀ v : Value, (l2[k2]? = some v →
       World.cell? W2 (Addr.add a k2) = some v))))))) ∧
      (List.length l2 = sn * 1 ∧
      ((∀ v2 : Value, (v2 ∈ l2 →
       Value.oneCell' v2 = true)) ∧
      (0 + sn ≤ maxLen ∧
      ((0 + sn) * 1 ≤ 140737488355328 ∧
      (∀ p : Option Addr, (∀ k3 : Nat, (∀ W3 : World, (XHeap.Sl W3 5 1 (Value.slice p (0 + sn) k3) (0 + sn) (l ++ l2) →
      (XHeap.XTouch (fun b => Value.ownBlock (Value.slice (some (Addr.mk k 0 none)) 0 0) = some b) W2 W3 →
      ((∀ k4 : Nat, (Value.ownBlock (Value.slice p (0 + sn) k3) = some k4 →
      ((Value.ownBlock (Value.slice (some (Addr.mk k 0 none)) 0 0) = some k4) ∨
      (Array.size (World.heap W2) ≤ k4)))) →
      (XHeap.Sl W3 5 1 (Value.slice (some (Addr.mk k 0 none)) 0 0) 0 l →
      ((((p = some (Addr.mk k 0 none) ∧
       k3 = 0)) ∨
      ((((XHeap.NilP (some (Addr.mk k 0 none))) ∨
       ((0 : Nat) < (0 : Nat) + sn)) ∧
      (∀ k5 : Nat, (Value.ownBlock (Value.slice p (0 + sn) k3) = some k5 →
      Array.size (World.heap W2) ≤ k5))))) →
      Q (Ending.returned (Value.slice p (0 + sn) k3)) W3)))))))))))))))))))))) :
  Calls Try.prog 15 #[Value.slice s sn sc] W Q :=
  Sx.sound Try.func15 .leaf [Value.slice s sn sc] rfl (Eq.mp (by kernel_rfl) hVC)
theorem vc22 {W : World} {Q : Ending → World → Prop} (c : Nat) (co : Nat)
  (hVC :
    (∀ k : Nat, (∀ W2 : World, (k = Array.size (World.heap W) →
    (W2 = World.alloc W (Obj.cells #[Value.pointer (some (Addr.mk c co none))] 55) →
    Q (Ending.returned (Value.func (Fn.func 29) #[] #[Value.pointer (some (Addr.mk k 0 none))])) W2))))) :
  Calls Try.prog 22 #[Value.pointer (some ⟨c, co, none⟩)] W Q :=
  Sx.sound Try.func22 .leaf [Value.pointer (some ⟨c, co, none⟩)] rfl (Eq.mp (by kernel_rfl) hVC)
end Go.Proofs.Ytbiogceijdcoiaa
