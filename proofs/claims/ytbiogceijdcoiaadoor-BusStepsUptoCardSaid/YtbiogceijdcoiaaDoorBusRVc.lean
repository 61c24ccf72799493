/- What each function asks, reckoned out of its text; printed by a program of mine (wip/tpl/VcTool.lean). No condition. -/
import Derived.Test.YtbiogceijdcoiaaDoorSxB
import Derived.Test.YtbiogceijdcoiaaDoorChecked
namespace Go.Proofs.YtbiogceijdcoiaaDoor
open Go Go.Proofs
set_option linter.unusedVariables false
set_option maxRecDepth 100000
theorem vc25 {W : World} {Q : Ending → World → Prop} (b : Nat) (bo : Nat) (core : Int) (addr : Int)
  (hVC :
    Sx.split (decide (core ≥ 0))
     ((∃ p : Option Addr, (∃ k : Nat, (∃ k2 : Nat, (World.cell? W (Addr.mk b bo none) = some (Value.slice p k k2) ∧
      Sx.split (decide (core < (↑k : Int)))
       (Sx.split (decide (addr ≥ 65536))
         ((∃ p2 : Option Addr, (∃ k3 : Nat, (∃ k4 : Nat, (World.cell? W (Addr.mk b (bo + 2) none) = some (Value.slice p2 k3 k4) ∧
          (∀ z : Int, (z = IntKind.wrap IntKind.i64 (65536 + (↑k3 : Int)) →
          Q (Ending.returned (Value.bool (decide (addr < z)))) W)))))))
         (Q (Ending.returned (Value.bool false)) W))
       (Q (Ending.returned (Value.bool false)) W))))))
     (Q (Ending.returned (Value.bool false)) W)) :
  Calls Tryd.prog 25 #[Value.pointer (some ⟨b, bo, none⟩), Value.int .i64 core, Value.int .i64 addr] W Q :=
  Sx.sound Tryd.func25 .leaf [Value.pointer (some ⟨b, bo, none⟩), Value.int .i64 core, Value.int .i64 addr] rfl (Eq.mp (by kernel_rfl) hVC)
theorem vc18 {W : World} {Q : Ending → World → Prop} (b : Nat) (bo : Nat) (core : Int)
  (hVC :
    Sx.split (decide (core ≥ 0))
     ((∃ p : Option Addr, (∃ k : Nat, (∃ k2 : Nat, (World.cell? W (Addr.mk b (bo + 3) none) = some (Value.slice p k k2) ∧
      Sx.split (decide (core < (↑k : Int)))
       ((∃ p2 : Option Addr, (∃ k3 : Nat, (∃ k4 : Nat, (World.cell? W (Addr.mk b (bo + 3) none) = some (Value.slice p2 k3 k4) ∧
        (((0 : Int) ≤ core ∧
         core < (↑k3 : Int)) ∧
        Sx.adr p2 (fun k5 =>
         (fun k6 =>
         (∃ t : Bool, (World.cell? W (Addr.mk k5 (k6 + Int.toNat core * 3) none) = some (Value.bool t) ∧
         Q (Ending.returned (Value.bool t)) W))))))))))
       (Q (Ending.returned (Value.bool false)) W))))))
     (Q (Ending.returned (Value.bool false)) W)) :
  Calls Tryd.prog 18 #[Value.pointer (some ⟨b, bo, none⟩), Value.int .i64 core] W Q :=
  Sx.sound Tryd.func18 .leaf [Value.pointer (some ⟨b, bo, none⟩), Value.int .i64 core] rfl (Eq.mp (by kernel_rfl) hVC)
theorem vc16 {W : World} {Q : Ending → World → Prop} (b : Nat) (bo : Nat) (core : Int) (addr : Int)
  (hVC :
    Calls Tryd.prog 25 #[Value.pointer (some (Addr.mk b bo none)), Value.int IntKind.i64 core, Value.int IntKind.i64 addr] W (fun e =>
     (fun W2 =>
     (∃ t : Bool, (e = Ending.returned (Value.bool t) ∧
     Sx.split (!t)
      (Q (Ending.returned (Value.int IntKind.i64 0)) W2)
      ((∃ p : Option Addr, (∃ k : Nat, (∃ k2 : Nat, (World.cell? W2 (Addr.mk b bo none) = some (Value.slice p k k2) ∧
       (((0 : Int) ≤ core ∧
        core < (↑k : Int)) ∧
       Sx.adr p (fun k3 =>
        (fun k4 =>
        (∃ p2 : Option Addr, (World.cell? W2 (Addr.mk k3 (k4 + Int.toNat core * 1) none) = some (Value.pointer p2) ∧
        Calls Tryd.prog 35 #[Value.pointer p2, Value.int IntKind.i64 addr] W2 (fun e2 =>
         (fun W3 =>
         (∃ z : Int, (e2 = Ending.returned (Value.int IntKind.i64 z) ∧
         Q (Ending.returned (Value.int IntKind.i64 z)) W3))))))))))))))))))) :
  Calls Tryd.prog 16 #[Value.pointer (some ⟨b, bo, none⟩), Value.int .i64 core, Value.int .i64 addr] W Q :=
  Sx.sound Tryd.func16 .leaf [Value.pointer (some ⟨b, bo, none⟩), Value.int .i64 core, Value.int .i64 addr] rfl (Eq.mp (by kernel_rfl) hVC)
theorem vc6 {W : World} {Q : Ending → World → Prop} (b : Nat) (bo : Nat) (core : Int) (addr : Int) (write : Bool)
  (hVC :
    Calls Tryd.prog 25 #[Value.pointer (some (Addr.mk b bo none)), Value.int IntKind.i64 core, Value.int IntKind.i64 addr] W (fun e =>
     (fun W2 =>
     (∃ t : Bool, (e = Ending.returned (Value.bool t) ∧
     Sx.split (!t)
      (Q (Ending.returned (Value.int IntKind.i64 3)) W2)
      (Calls Tryd.prog 16 #[Value.pointer (some (Addr.mk b bo none)), Value.int IntKind.i64 core, Value.int IntKind.i64 addr] W2 (fun e2 =>
        (fun W3 =>
        (∃ z : Int, (e2 = Ending.returned (Value.int IntKind.i64 z) ∧
        (∃ p : Option Addr, (∃ k : Nat, (∃ k2 : Nat, (World.cell? W3 (Addr.mk b (bo + 3) none) = some (Value.slice p k k2) ∧
        (((0 : Int) ≤ core ∧
         core < (↑k : Int)) ∧
        Sx.adr p (fun k3 =>
         (fun k4 =>
         (∃ t2 : Bool, (World.cell? W3 (Addr.mk k3 (k4 + Int.toNat core * 3) none) = some (Value.bool t2) ∧
         Sx.split t2
          (Q (Ending.returned (Value.int IntKind.i64 7)) W3)
          (Sx.split write
            (Sx.split (decide (z ≥ 2))
              (Q (Ending.returned (Value.int IntKind.i64 7)) W3)
              (Sx.split (!write)
                (Sx.split (decide (z > 0))
                  (Q (Ending.returned (Value.int IntKind.i64 7)) W3)
                  ((∃ p2 : Option Addr, (∃ k5 : Nat, (∃ k6 : Nat, (World.cell? W3 (Addr.mk b (bo + 3) none) = some (Value.slice p2 k5 k6) ∧
                   ((16 : Int) ≠ (0 : Int) ∧
                   (∀ z2 : Int, (z2 = Int.tmod addr 16 →
                   (∀ z3 : Int, (z3 = IntKind.wrap IntKind.i64 (addr - z2) →
                   (∀ vs : Array Value, (vs = #[Value.bool true, Value.int IntKind.i64 z3, Value.bool write] →
                   (((0 : Int) ≤ core ∧
                    core < (↑k5 : Int)) ∧
                   Sx.adr p2 (fun k7 =>
                    (fun k8 =>
                    (Array.size vs = 3 ∧
                    ((∀ k9 : Nat, (k9 < 3 →
                     ((∃ v : Value, World.cell? W3 (Addr.mk k7 (k8 + Int.toNat core * 3 + k9) none) = some v) ∧
                     World.frozen? W3 (Addr.mk k7 (k8 + Int.toNat core * 3 + k9) none) = false))) ∧
                    ((∀ v2 : Value, (v2 ∈ Array.toList vs →
                     Value.oneCell' v2 = true)) ∧
                    (∀ W4 : World, (W4 = World.setCells W3 k7 (k8 + Int.toNat core * 3) (Array.toList vs) →
                    Q (Ending.returned (Value.int IntKind.i64 0)) W4)))))))))))))))))))))
                ((∃ p3 : Option Addr, (∃ k10 : Nat, (∃ k11 : Nat, (World.cell? W3 (Addr.mk b (bo + 3) none) = some (Value.slice p3 k10 k11) ∧
                 ((16 : Int) ≠ (0 : Int) ∧
                 (∀ z4 : Int, (z4 = Int.tmod addr 16 →
                 (∀ z5 : Int, (z5 = IntKind.wrap IntKind.i64 (addr - z4) →
                 (∀ vs2 : Array Value, (vs2 = #[Value.bool true, Value.int IntKind.i64 z5, Value.bool write] →
                 (((0 : Int) ≤ core ∧
                  core < (↑k10 : Int)) ∧
                 Sx.adr p3 (fun k12 =>
                  (fun k13 =>
                  (Array.size vs2 = 3 ∧
                  ((∀ k14 : Nat, (k14 < 3 →
                   ((∃ v3 : Value, World.cell? W3 (Addr.mk k12 (k13 + Int.toNat core * 3 + k14) none) = some v3) ∧
                   World.frozen? W3 (Addr.mk k12 (k13 + Int.toNat core * 3 + k14) none) = false))) ∧
                  ((∀ v4 : Value, (v4 ∈ Array.toList vs2 →
                   Value.oneCell' v4 = true)) ∧
                  (∀ W5 : World, (W5 = World.setCells W3 k12 (k13 + Int.toNat core * 3) (Array.toList vs2) →
                  Q (Ending.returned (Value.int IntKind.i64 0)) W5))))))))))))))))))))))
            (Sx.split (!write)
              (Sx.split (decide (z > 0))
                (Q (Ending.returned (Value.int IntKind.i64 7)) W3)
                ((∃ p4 : Option Addr, (∃ k15 : Nat, (∃ k16 : Nat, (World.cell? W3 (Addr.mk b (bo + 3) none) = some (Value.slice p4 k15 k16) ∧
                 ((16 : Int) ≠ (0 : Int) ∧
                 (∀ z6 : Int, (z6 = Int.tmod addr 16 →
                 (∀ z7 : Int, (z7 = IntKind.wrap IntKind.i64 (addr - z6) →
                 (∀ vs3 : Array Value, (vs3 = #[Value.bool true, Value.int IntKind.i64 z7, Value.bool write] →
                 (((0 : Int) ≤ core ∧
                  core < (↑k15 : Int)) ∧
                 Sx.adr p4 (fun k17 =>
                  (fun k18 =>
                  (Array.size vs3 = 3 ∧
                  ((∀ k19 : Nat, (k19 < 3 →
                   ((∃ v5 : Value, World.cell? W3 (Addr.mk k17 (k18 + Int.toNat core * 3 + k19) none) = some v5) ∧
                   World.frozen? W3 (Addr.mk k17 (k18 + Int.toNat core * 3 + k19) none) = false))) ∧
                  ((∀ v6 : Value, (v6 ∈ Array.toList vs3 →
                   Value.oneCell' v6 = true)) ∧
                  (∀ W6 : World, (W6 = World.setCells W3 k17 (k18 + Int.toNat core * 3) (Array.toList vs3) →
                  Q (Ending.returned (Value.int IntKind.i64 0)) W6)))))))))))))))))))))
              ((∃ p5 : Option Addr, (∃ k20 : Nat, (∃ k21 : Nat, (World.cell? W3 (Addr.mk b (bo + 3) none) = some (Value.slice p5 k20 k21) ∧
               ((16 : Int) ≠ (0 : Int) ∧
               (∀ z8 : Int, (z8 = Int.tmod addr 16 →
               (∀ z9 : Int, (z9 = IntKind.wrap IntKind.i64 (addr - z8) →
               (∀ vs4 : Array Value, (vs4 = #[Value.bool true, Value.int IntKind.i64 z9, Value.bool write] →
               (((0 : Int) ≤ core ∧
                core < (↑k20 : Int)) ∧
               Sx.adr p5 (fun k22 =>
                (fun k23 =>
                (Array.size vs4 = 3 ∧
                ((∀ k24 : Nat, (k24 < 3 →
                 ((∃ v7 : Value, World.cell? W3 (Addr.mk k22 (k23 + Int.toNat core * 3 + k24) none) = some v7) ∧
                 World.frozen? W3 (Addr.mk k22 (k23 + Int.toNat core * 3 + k24) none) = false))) ∧
                ((∀ v8 : Value, (v8 ∈ Array.toList vs4 →
                 Value.oneCell' v8 = true)) ∧
                (∀ W7 : World, (W7 = World.setCells W3 k22 (k23 + Int.toNat core * 3) (Array.toList vs4) →
                Q (Ending.returned (Value.int IntKind.i64 0)) W7))))))))))))))))))))))))))))))))))))))))) :
  Calls Tryd.prog 6 #[Value.pointer (some ⟨b, bo, none⟩), Value.int .i64 core, Value.int .i64 addr, Value.bool write] W Q :=
  Sx.sound Tryd.func6 .leaf [Value.pointer (some ⟨b, bo, none⟩), Value.int .i64 core, Value.int .i64 addr, Value.bool write] rfl (Eq.mp (by kernel_rfl) hVC)
theorem vc46 {W : World} {Q : Ending → World → Prop} (b : Nat) (bo : Nat) (x : Array Value)
  (hVC :
    (∀ k : Nat, (∀ W2 : World, (k = Array.size (World.heap W) →
    (W2 = World.alloc W (Obj.cells (Value.cells (Value.agg x)) 104) →
    (∃ I : Int → World → Prop, (∃ I2 : Int → World → Nat, (I 0 W2 ∧
    ((Nat →
    Value) →
    (∀ k2 : Int, (∀ W3 : World, (I k2 W3 →
    Sx.split (decide (k2 < 16))
     ((∃ z : Int, (World.cell? W3 (Addr.mk k (0 + 1) none) = some (Value.int IntKind.i64 z) ∧
      Sx.split (z == 3)
       ((∀ W4 : World, (W4 = World.drew W3 →
        (∃ p : Option Addr, (∃ k3 : Nat, (∃ k4 : Nat, (World.cell? W4 (Addr.mk b (bo + 2) none) = some (Value.slice p k3 k4) ∧
        (∃ z2 : Int, (World.cell? W4 (Addr.mk k 0 none) = some (Value.int IntKind.i64 z2) ∧
        (∀ z3 : Int, (z3 = IntKind.wrap IntKind.i64 (z2 - 65536) →
        (∀ z4 : Int, (z4 = IntKind.wrap IntKind.i64 (z3 + k2) →
        (((0 : Int) ≤ k2 ∧
         k2 < (↑16 : Int)) ∧
        (∃ z5 : Int, (World.cell? W4 (Addr.mk k (0 + 2 + Int.toNat k2 * 1) none) = some (Value.int IntKind.u8 z5) ∧
        (((0 : Int) ≤ z4 ∧
         z4 < (↑k3 : Int)) ∧
        Sx.adr p (fun k5 =>
         (fun k6 =>
         ((∃ v : Value, World.cell? W4 (Addr.mk k5 (k6 + Int.toNat z4 * 1) none) = some v) ∧
         (World.frozen? W4 (Addr.mk k5 (k6 + Int.toNat z4 * 1) none) = false ∧
         (∀ W5 : World, (W5 = World.setCell W4 (Addr.mk k5 (k6 + Int.toNat z4 * 1) none) (Value.int IntKind.u8 z5) →
         (∀ z6 : Int, (z6 = IntKind.wrap IntKind.i64 (k2 + 1) →
         (I z6 W5 ∧
         I2 z6 W5 < I2 k2 W3))))))))))))))))))))))))))
       (Q (Ending.returned (Value.tuple #[])) W3))))
     (Q (Ending.returned (Value.tuple #[])) W3))))))))))))) :
  Calls Tryd.prog 46 #[Value.pointer (some ⟨b, bo, none⟩), Value.agg x] W Q :=
  Sx.sound Tryd.func46 (.node [] [] 0 .leaf (.node [] [] 0 .leaf (.node [] [] 0 (.node [(4, .int .i64)] [3, 0] 0 (.node [] [] 0 .leaf (.node [] [] 0 (.node [] [] 0 (.node [] [] 15 .leaf .leaf) .leaf) .leaf)) .leaf) .leaf))) [Value.pointer (some ⟨b, bo, none⟩), Value.agg x] rfl (Eq.mp (by kernel_rfl) hVC)
theorem vc12 {W : World} {Q : Ending → World → Prop} (b : Nat) (bo : Nat) (core : Int) (addr : Int) (size : Int)
  (hVC :
    Calls Tryd.prog 25 #[Value.pointer (some (Addr.mk b bo none)), Value.int IntKind.i64 core, Value.int IntKind.i64 addr] W (fun e =>
     (fun W2 =>
     (∃ t : Bool, (e = Ending.returned (Value.bool t) ∧
     Sx.split (!t)
      (Q (Ending.returned (Value.tuple #[Value.int IntKind.u32 0, Value.bool false])) W2)
      ((∃ p : Option Addr, (∃ k : Nat, (∃ k2 : Nat, (World.cell? W2 (Addr.mk b bo none) = some (Value.slice p k k2) ∧
       (((0 : Int) ≤ core ∧
        core < (↑k : Int)) ∧
       Sx.adr p (fun k3 =>
        (fun k4 =>
        (∃ p2 : Option Addr, (World.cell? W2 (Addr.mk k3 (k4 + Int.toNat core * 1) none) = some (Value.pointer p2) ∧
        Calls Tryd.prog 31 #[Value.pointer p2, Value.int IntKind.i64 addr, Value.int IntKind.i64 size] W2 (fun e2 =>
         (fun W3 =>
         (∃ z : Int, (∃ t2 : Bool, (e2 = Ending.returned (Value.tuple #[Value.int IntKind.u32 z, Value.bool t2]) ∧
         Q (Ending.returned (Value.tuple #[Value.int IntKind.u32 z, Value.bool t2])) W3)))))))))))))))))))) :
  Calls Tryd.prog 12 #[Value.pointer (some ⟨b, bo, none⟩), Value.int .i64 core, Value.int .i64 addr, Value.int .i64 size] W Q :=
  Sx.sound Tryd.func12 .leaf [Value.pointer (some ⟨b, bo, none⟩), Value.int .i64 core, Value.int .i64 addr, Value.int .i64 size] rfl (Eq.mp (by kernel_rfl) hVC)
theorem vc14 {W : World} {Q : Ending → World → Prop} (b : Nat) (bo : Nat) (core : Int) (addr : Int) (size : Int) (data : Int)
  (hVC :
    Calls Tryd.prog 25 #[Value.pointer (some (Addr.mk b bo none)), Value.int IntKind.i64 core, Value.int IntKind.i64 addr] W (fun e =>
     (fun W2 =>
     (∃ t : Bool, (e = Ending.returned (Value.bool t) ∧
     Sx.split (!t)
      (Q (Ending.returned (Value.bool false)) W2)
      ((∃ p : Option Addr, (∃ k : Nat, (∃ k2 : Nat, (World.cell? W2 (Addr.mk b bo none) = some (Value.slice p k k2) ∧
       (((0 : Int) ≤ core ∧
        core < (↑k : Int)) ∧
       Sx.adr p (fun k3 =>
        (fun k4 =>
        (∃ p2 : Option Addr, (World.cell? W2 (Addr.mk k3 (k4 + Int.toNat core * 1) none) = some (Value.pointer p2) ∧
        Calls Tryd.prog 33 #[Value.pointer p2, Value.int IntKind.i64 addr, Value.int IntKind.i64 size, Value.int IntKind.u32 data] W2 (fun e2 =>
         (fun W3 =>
         (∃ t2 : Bool, (e2 = Ending.returned (Value.bool t2) ∧
         Q (Ending.returned (Value.bool t2)) W3))))))))))))))))))) :
  Calls Tryd.prog 14 #[Value.pointer (some ⟨b, bo, none⟩), Value.int .i64 core, Value.int .i64 addr, Value.int .i64 size, Value.int .u32 data] W Q :=
  Sx.sound Tryd.func14 .leaf [Value.pointer (some ⟨b, bo, none⟩), Value.int .i64 core, Value.int .i64 addr, Value.int .i64 size, Value.int .u32 data] rfl (Eq.mp (by kernel_rfl) hVC)
theorem vc23 {W : World} {Q : Ending → World → Prop} (arg0 : Option Addr) (arg0n : Nat) (arg0c : Nat) (arg1 : Option Addr) (arg1n : Nat) (arg1c : Nat) (arg2 : Int) (arg3 : Option Addr) (arg3n : Nat) (arg3c : Nat)
  (hVC :
    Sx.split (decide ((↑arg0n : Int) < 1))
     (Q (Ending.returned (Value.tuple #[Value.pointer none, Value.int IntKind.i64 2])) W)
     (Sx.split (decide ((↑arg0n : Int) > 2))
       (Q (Ending.returned (Value.tuple #[Value.pointer none, Value.int IntKind.i64 2])) W)
       (Sx.split (decide (arg2 < 0))
         (Q (Ending.returned (Value.tuple #[Value.pointer none, Value.int IntKind.i64 2])) W)
         (Sx.split (decide (arg2 > 10))
           (Q (Ending.returned (Value.tuple #[Value.pointer none, Value.int IntKind.i64 2])) W)
           ((((0 : Int) ≤ (↑arg0n : Int) ∧
             ((↑arg0n : Int) ≤ (↑arg0n : Int) ∧
             ((↑arg0n : Int) ≤ 9223372036854775807 ∧
             (↑24 : Int) * (↑arg0n : Int) ≤ 281474976710656))) ∧
            (∀ k : Nat, (∀ W2 : World, (k = Array.size (World.heap W) →
            (W2 = World.alloc W (Obj.cells (madeCells #[Value.bool false, Value.int IntKind.i64 0, Value.bool false] (Int.toNat (↑arg0n : Int) * 3)) 71) →
            (∀ z : Int, (z = IntKind.wrap IntKind.i64 ((↑arg0n : Int) - 1) →
            (∀ vs : Array Value, (vs = #[Value.slice none 0 0, Value.int IntKind.i64 arg2, Value.slice none 0 0, Value.slice (some (Addr.mk k 0 none)) (Int.toNat (↑arg0n : Int)) (Int.toNat (↑arg0n : Int)), Value.int IntKind.i64 z, Value.int IntKind.i64 (-1), Value.int IntKind.i64 0] →
            (∀ k2 : Nat, (∀ W3 : World, (k2 = Array.size (World.heap W2) →
            (W3 = World.alloc W2 (Obj.cells (Value.cells (Value.agg vs)) 75) →
            (∃ I : Int → World → Prop, (∃ I2 : Int → World → Nat, (I 0 W3 ∧
            ((Nat →
            Value) →
            (∀ x : Int, (∀ W4 : World, (I x W4 →
            Sx.split (decide (x < (↑arg0n : Int)))
             ((∃ I3 : Int → Option Addr → World → Prop, ((∀ W5 : World, (W5 = World.drew W4 →
               (((0 : Int) ≤ x ∧
                x < (↑arg0n : Int)) ∧
               Sx.adr arg0 (fun k3 =>
                (fun k4 =>
                (((0 : Int) ≤ x ∧
                 x < (↑arg1n : Int)) ∧
                Sx.adr arg1 (fun k5 =>
                 (fun k6 =>
                 (∃ z2 : Int, (World.cell? W5 (Addr.mk k3 (k4 + Int.toNat x * 1) none) = some (Value.int IntKind.i64 z2) ∧
                 (∃ z3 : Int, (World.cell? W5 (Addr.mk k5 (k6 + Int.toNat x * 1) none) = some (Value.int IntKind.i64 z3) ∧
                 Calls Tryd.prog 40 #[Value.int IntKind.i64 z2, Value.int IntKind.i64 z3] W5 (fun e =>
                  (fun W6 =>
                  (∃ p : Option Addr, (∃ z4 : Int, (e = Ending.returned (Value.tuple #[Value.pointer p, Value.int IntKind.i64 z4]) ∧
                  I3 z4 p W6))))))))))))))))) ∧
              ((Nat →
              Value) →
              (∀ x2 : Int, (∀ x3 : Option Addr, (∀ W7 : World, (I3 x2 x3 W7 →
              Sx.split (x2 != 0)
               (Q (Ending.returned (Value.tuple #[Value.pointer none, Value.int IntKind.i64 2])) W7)
               ((∃ p2 : Option Addr, (∃ k7 : Nat, (∃ k8 : Nat, (World.cell? W7 (Addr.mk k2 0 none) = some (Value.slice p2 k7 k8) ∧
                (∀ k9 : Nat, (∀ W8 : World, (k9 = Array.size (World.heap W7) →
                (W8 = World.alloc W7 (Obj.cells #[Value.pointer x3] 86) →
                (∃ l : List Value, (∃ l2 : List Value, (XHeap.Sl W8 86 1 (Value.slice p2 k7 k8) k7 l ∧
                (((((1 : Nat) = (0 : Nat) ∧
                  some (Addr.mk k9 0 none) = none)) ∨
                 ((∃ a : Addr, (some (Addr.mk k9 0 none) = some a ∧
                 (∀ k10 : Nat, (∀ v : Value, (l2[k10]? = some v →
                 World.cell? W8 (Addr.add a k10) = some v))))))) ∧
                (List.length l2 = 1 ∧
                ((∀ v2 : Value, (v2 ∈ l2 →
                 Value.oneCell' v2 = true)) ∧
                (k7 + 1 ≤ maxLen ∧
                ((k7 + 1) * 8 ≤ 140737488355328 ∧
                (∀ p3 : Option Addr, (∀ k11 : Nat, (∀ W9 : World, (XHeap.Sl W9 86 1 (Value.slice p3 (k7 + 1) k11) (k7 + 1) (l ++ l2) →
                (XHeap.XTouch (fun b => Value.ownBlock (Value.slice p2 k7 k8) = some b) W8 W9 →
                ((∀ k12 : Nat, (Value.ownBlock (Value.slice p3 (k7 + 1) k11) = some k12 →
                ((Value.ownBlock (Value.slice p2 k7 k8) = some k12) ∨
                (Array.size (World.heap W8) ≤ k12)))) →
                (XHeap.Sl W9 86 1 (Value.slice p2 k7 k8) k7 l →
                ((((p3 = p2 ∧
                 k11 = k8)) ∨
                ((((XHeap.NilP p2) ∨
                 (k8 < k7 + 1)) ∧
                (∀ k13 : Nat, (Value.ownBlock (Value.slice p3 (k7 + 1) k11) = some k13 →
                Array.size (World.heap W8) ≤ k13))))) →
                ((∃ v3 : Value, World.cell? W9 (Addr.mk k2 0 none) = some v3) ∧
                (World.frozen? W9 (Addr.mk k2 0 none) = false ∧
                (∀ W10 : World, (W10 = World.setCell W9 (Addr.mk k2 0 none) (Value.slice p3 (k7 + 1) k11) →
                (∀ z5 : Int, (z5 = IntKind.wrap IntKind.i64 (x + 1) →
                (I z5 W10 ∧
                I2 z5 W10 < I2 x W4))))))))))))))))))))))))))))))))))))))))
             (((16 : Int) ≠ (0 : Int) ∧
              (∀ z6 : Int, (z6 = Int.tmod (↑arg3n : Int) 16 →
              Sx.split (z6 != 0)
               (Q (Ending.returned (Value.tuple #[Value.pointer none, Value.int IntKind.i64 1])) W4)
               (Sx.split (decide ((↑arg3n : Int) > 4096))
                 (Q (Ending.returned (Value.tuple #[Value.pointer none, Value.int IntKind.i64 1])) W4)
                 ((∃ p4 : Option Addr, (∃ k14 : Nat, (∃ k15 : Nat, (World.cell? W4 (Addr.mk k2 (0 + 2) none) = some (Value.slice p4 k14 k15) ∧
                  (∃ l3 : List Value, (∃ l4 : List Value, (XHeap.Sl W4 5 1 (Value.slice p4 k14 k15) k14 l3 ∧
                  ((((arg3n = 0 ∧
                    arg3 = none)) ∨
                   ((∃ a2 : Addr, (arg3 = some a2 ∧
                   (∀ k16 : Nat, (∀ v4 : Value, (l4[k16]? = some v4 →
                   World.cell? W4 (Addr.add a2 k16) = some v4))))))) ∧
                  (List.length l4 = arg3n * 1 ∧
                  ((∀ v5 : Value, (v5 ∈ l4 →
                   Value.oneCell' v5 = true)) ∧
                  (k14 + arg3n ≤ maxLen ∧
                  ((k14 + arg3n) * 1 ≤ 140737488355328 ∧
                  (∀ p5 : Option Addr, (∀ k17 : Nat, (∀ W11 : World, (XHeap.Sl W11 5 1 (Value.slice p5 (k14 + arg3n) k17) (k14 + arg3n) (l3 ++ l4) →
                  (XHeap.XTouch (fun b => Value.ownBlock (Value.slice p4 k14 k15) = some b) W4 W11 →
                  ((∀ k18 : Nat, (Value.ownBlock (Value.slice p5 (k14 + arg3n) k17) = some k18 →
                  ((Value.ownBlock (Value.slice p4 k14 k15) = some k18) ∨
                  (Array.size (World.heap W4) ≤ k18)))) →
                  (XHeap.Sl W11 5 1 (Value.slice p4 k14 k15) k14 l3 →
                  ((((p5 = p4 ∧
                   k17 = k15)) ∨
                  ((((XHeap.NilP p4) ∨
                   (k15 < k14 + arg3n)) ∧
                  (∀ k19 : Nat, (Value.ownBlock (Value.slice p5 (k14 + arg3n) k17) = some k19 →
                  Array.size (World.heap W4) ≤ k19))))) →
                  ((∃ v6 : Value, World.cell? W11 (Addr.mk k2 (0 + 2) none) = some v6) ∧
                  (World.frozen? W11 (Addr.mk k2 (0 + 2) none) = false ∧
                  (∀ W12 : World, (W12 = World.setCell W11 (Addr.mk k2 (0 + 2) none) (Value.slice p5 (k14 + arg3n) k17) →
                  Q (Ending.returned (Value.tuple #[Value.pointer (some (Addr.mk k2 0 none)), Value.int IntKind.i64 0])) W12))))))))))))))))))))))))))))))))))))))))))))))))))))))) :
  Calls Tryd.prog 23 #[Value.slice arg0 arg0n arg0c, Value.slice arg1 arg1n arg1c, Value.int .i64 arg2, Value.slice arg3 arg3n arg3c] W Q :=
  Sx.sound Tryd.func23 (.node [] [] 0 .leaf (.node [] [] 0 .leaf (.node [] [] 0 .leaf (.node [] [] 0 (.node [] [] 0 .leaf (.node [] [] 0 (.node [(11, .int .i64)] [0, 1, 10, 3] 0 (.node [] [] 0 .leaf (.node [] [] 0 (.node [] [] 0 (.node [(13, .int .i64), (12, .ptr)] [10, 11, 0, 1, 3] 1 (.node [] [] 1009 .leaf .leaf) .leaf) .leaf) .leaf)) .leaf) .leaf)) .leaf)))) [Value.slice arg0 arg0n arg0c, Value.slice arg1 arg1n arg1c, Value.int .i64 arg2, Value.slice arg3 arg3n arg3c] rfl (Eq.mp (by kernel_rfl) hVC)
theorem vc9 {W : World} {Q : Ending → World → Prop} (arg0 : Nat) (arg0o : Nat)
  (hVC :
    (∃ p : Option Addr, (∃ k : Nat, (∃ k2 : Nat, (World.cell? W (Addr.mk arg0 (arg0o + 3) none) = some (Value.slice p k k2) ∧
    (∃ I : World → Prop, ((∃ z : Int, (World.cell? W (Addr.mk arg0 (arg0o + 5) none) = some (Value.int IntKind.i64 z) ∧
     Sx.split (decide (z < 0))
      ((∃ I2 : World → Prop, ((∃ I3 : Int → World → Prop, (∃ I4 : Int → World → Nat, (I3 1 W ∧
        ((Nat →
        Value) →
        (∀ x : Int, (∀ W2 : World, (I3 x W2 →
        Sx.split (decide (x ≤ (↑k : Int)))
         ((∃ z2 : Int, (World.cell? W2 (Addr.mk arg0 (arg0o + 4) none) = some (Value.int IntKind.i64 z2) ∧
          (∀ z3 : Int, (z3 = IntKind.wrap IntKind.i64 (z2 + x) →
          ((↑k : Int) ≠ 0 ∧
          (∀ z4 : Int, (z4 = Int.tmod z3 (↑k : Int) →
          (∃ p2 : Option Addr, (∃ k3 : Nat, (∃ k4 : Nat, (World.cell? W2 (Addr.mk arg0 (arg0o + 3) none) = some (Value.slice p2 k3 k4) ∧
          (((0 : Int) ≤ z4 ∧
           z4 < (↑k3 : Int)) ∧
          Sx.adr p2 (fun k5 =>
           (fun k6 =>
           (∃ t : Bool, (World.cell? W2 (Addr.mk k5 (k6 + Int.toNat z4 * 3) none) = some (Value.bool t) ∧
           Sx.split t
            (((∃ v : Value, World.cell? W2 (Addr.mk arg0 (arg0o + 5) none) = some v) ∧
             (World.frozen? W2 (Addr.mk arg0 (arg0o + 5) none) = false ∧
             (∀ W3 : World, (W3 = World.setCell W2 (Addr.mk arg0 (arg0o + 5) none) (Value.int IntKind.i64 z4) →
             (∃ z5 : Int, (World.cell? W3 (Addr.mk arg0 (arg0o + 1) none) = some (Value.int IntKind.i64 z5) ∧
             ((∃ v2 : Value, World.cell? W3 (Addr.mk arg0 (arg0o + 6) none) = some v2) ∧
             (World.frozen? W3 (Addr.mk arg0 (arg0o + 6) none) = false ∧
             (∀ W4 : World, (W4 = World.setCell W3 (Addr.mk arg0 (arg0o + 6) none) (Value.int IntKind.i64 z5) →
             I2 W4)))))))))))
            ((∀ z6 : Int, (z6 = IntKind.wrap IntKind.i64 (x + 1) →
             (I3 z6 W2 ∧
             I4 z6 W2 < I4 x W2)))))))))))))))))))))
         (I2 W2)))))))) ∧
       ((Nat →
       Value) →
       (∀ W5 : World, (I2 W5 →
       (∃ z7 : Int, (World.cell? W5 (Addr.mk arg0 (arg0o + 5) none) = some (Value.int IntKind.i64 z7) ∧
       Sx.split (decide (z7 < 0))
        (Q (Ending.returned (Value.slice none 0 0)) W5)
        (I W5)))))))))
      (I W))) ∧
    ((Nat →
    Value) →
    (∀ W6 : World, (I W6 →
    (∃ I5 : World → Prop, ((∃ z8 : Int, (World.cell? W6 (Addr.mk arg0 (arg0o + 6) none) = some (Value.int IntKind.i64 z8) ∧
     Sx.split (decide (z8 > 0))
      ((∃ z9 : Int, (World.cell? W6 (Addr.mk arg0 (arg0o + 6) none) = some (Value.int IntKind.i64 z9) ∧
       (∀ z10 : Int, (z10 = IntKind.wrap IntKind.i64 (z9 - 1) →
       ((∃ v3 : Value, World.cell? W6 (Addr.mk arg0 (arg0o + 6) none) = some v3) ∧
       (World.frozen? W6 (Addr.mk arg0 (arg0o + 6) none) = false ∧
       (∀ W7 : World, (W7 = World.setCell W6 (Addr.mk arg0 (arg0o + 6) none) (Value.int IntKind.i64 z10) →
       Q (Ending.returned (Value.slice none 0 0)) W7)))))))))
      (I5 W6))) ∧
    ((Nat →
    Value) →
    (∀ W8 : World, (I5 W8 →
    (∃ z11 : Int, (World.cell? W8 (Addr.mk arg0 (arg0o + 5) none) = some (Value.int IntKind.i64 z11) ∧
    ((∃ v4 : Value, World.cell? W8 (Addr.mk arg0 (arg0o + 5) none) = some v4) ∧
    (World.frozen? W8 (Addr.mk arg0 (arg0o + 5) none) = false ∧
    (∀ W9 : World, (W9 = World.setCell W8 (Addr.mk arg0 (arg0o + 5) none) (Value.int IntKind.i64 (-1)) →
    ((∃ v5 : Value, World.cell? W9 (Addr.mk arg0 (arg0o + 4) none) = some v5) ∧
    (World.frozen? W9 (Addr.mk arg0 (arg0o + 4) none) = false ∧
    (∀ W10 : World, (W10 = World.setCell W9 (Addr.mk arg0 (arg0o + 4) none) (Value.int IntKind.i64 z11) →
    (∃ p3 : Option Addr, (∃ k7 : Nat, (∃ k8 : Nat, (World.cell? W10 (Addr.mk arg0 (arg0o + 3) none) = some (Value.slice p3 k7 k8) ∧
    (((0 : Int) ≤ z11 ∧
     z11 < (↑k7 : Int)) ∧
    Sx.adr p3 (fun k9 =>
     (fun k10 =>
     (∃ vs : Array Value, (Array.size vs = 3 ∧
     (Sx.cellsAt W10 (Addr.mk k9 (k10 + Int.toNat z11 * 3) none) vs ∧
     (∀ k11 : Nat, (∀ W11 : World, (k11 = Array.size (World.heap W10) →
     (W11 = World.alloc W10 (Obj.cells #[Value.bool false, Value.int IntKind.i64 0, Value.bool false] 71) →
     (Array.size vs = 3 ∧
     ((∀ k12 : Nat, (k12 < 3 →
      ((∃ v6 : Value, World.cell? W11 (Addr.mk k11 (0 + k12) none) = some v6) ∧
      World.frozen? W11 (Addr.mk k11 (0 + k12) none) = false))) ∧
     ((∀ v7 : Value, (v7 ∈ Array.toList vs →
      Value.oneCell' v7 = true)) ∧
     (∀ W12 : World, (W12 = World.setCells W11 k11 0 (Array.toList vs) →
     (∃ p4 : Option Addr, (∃ k13 : Nat, (∃ k14 : Nat, (World.cell? W12 (Addr.mk arg0 (arg0o + 3) none) = some (Value.slice p4 k13 k14) ∧
     (∀ vs2 : Array Value, (vs2 = #[Value.bool false, Value.int IntKind.i64 0, Value.bool false] →
     (((0 : Int) ≤ z11 ∧
      z11 < (↑k13 : Int)) ∧
     Sx.adr p4 (fun k15 =>
      (fun k16 =>
      (Array.size vs2 = 3 ∧
      ((∀ k17 : Nat, (k17 < 3 →
       ((∃ v8 : Value, World.cell? W12 (Addr.mk k15 (k16 + Int.toNat z11 * 3 + k17) none) = some v8) ∧
       World.frozen? W12 (Addr.mk k15 (k16 + Int.toNat z11 * 3 + k17) none) = false))) ∧
      ((∀ v9 : Value, (v9 ∈ Array.toList vs2 →
       Value.oneCell' v9 = true)) ∧
      (∀ W13 : World, (W13 = World.setCells W12 k15 (k16 + Int.toNat z11 * 3) (Array.toList vs2) →
      (∃ z12 : Int, (World.cell? W13 (Addr.mk k11 (0 + 1) none) = some (Value.int IntKind.i64 z12) ∧
      (∃ t2 : Bool, (World.cell? W13 (Addr.mk k11 (0 + 2) none) = some (Value.bool t2) ∧
      Calls Tryd.prog 29 #[Value.pointer (some (Addr.mk arg0 arg0o none)), Value.int IntKind.i64 z11, Value.int IntKind.i64 z12, Value.bool t2] W13 (fun e =>
       (fun W14 =>
       (∃ p5 : Option Addr, (∃ k18 : Nat, (∃ k19 : Nat, (e = Ending.returned (Value.slice p5 k18 k19) ∧
       Q (Ending.returned (Value.slice p5 k18 k19)) W14)))))))))))))))))))))))))))))))))))))))))))))))))))))))))))))))))))) :
  Calls Tryd.prog 9 #[Value.pointer (some ⟨arg0, arg0o, none⟩)] W Q :=
  Sx.sound Tryd.func9 (.node [] [] 0 .leaf (.node [] [] 0 .leaf (.node [] [0] 1 (.node [] [] 0 .leaf (.node [] [] 0 (.node [] [0] 1 (.node [] [] 0 .leaf (.node [] [] 0 (.node [(4, .int .i64)] [3, 0] 0 .leaf .leaf) .leaf)) .leaf) .leaf)) (.node [] [0] 1 .leaf .leaf)))) [Value.pointer (some ⟨arg0, arg0o, none⟩)] rfl (Eq.mp (by kernel_rfl) hVC)
theorem vc29 {W : World} {Q : Ending → World → Prop} (arg0 : Nat) (arg0o : Nat) (arg1 : Int) (arg2 : Int) (arg3 : Bool)
  (hVC :
    (∃ I : Int → Option Addr → Nat → Nat → Int → World → Prop, (∃ I2 : Int → Option Addr → Nat → Nat → Int → World → Nat, (I 0 none 0 0 2 W ∧
    ((Nat →
    Value) →
    (∀ x : Int, (∀ x2 : Option Addr, (∀ k : Nat, (∀ k2 : Nat, (∀ x3 : Int, (∀ W2 : World, (I x x2 k k2 x3 W2 →
    (∃ p : Option Addr, (∃ k3 : Nat, (∃ k4 : Nat, (World.cell? W2 (Addr.mk arg0 arg0o none) = some (Value.slice p k3 k4) ∧
    Sx.split (decide (x < (↑k3 : Int)))
     ((∃ I3 : Option Addr → Nat → Nat → Int → World → Prop, ((∃ p2 : Option Addr, (∃ k5 : Nat, (∃ k6 : Nat, (World.cell? W2 (Addr.mk arg0 arg0o none) = some (Value.slice p2 k5 k6) ∧
       (((0 : Int) ≤ x ∧
        x < (↑k5 : Int)) ∧
       Sx.adr p2 (fun k7 =>
        (fun k8 =>
        (∃ p3 : Option Addr, (World.cell? W2 (Addr.mk k7 (k8 + Int.toNat x * 1) none) = some (Value.pointer p3) ∧
        Calls Tryd.prog 35 #[Value.pointer p3, Value.int IntKind.i64 arg2] W2 (fun e =>
         (fun W3 =>
         (∃ z : Int, (e = Ending.returned (Value.int IntKind.i64 z) ∧
         (∃ I4 : World → Prop, (Sx.split (x == arg1)
           (I3 x2 k k2 x3 W3)
           (Sx.split (z == 0)
             (I3 x2 k k2 x3 W3)
             (I4 W3)) ∧
         ((Nat →
         Value) →
         (∀ W4 : World, (I4 W4 →
         (∃ I5 : Int → Int → World → Prop, (Sx.split (!arg3)
           (I5 1 1 W4)
           (I5 0 x3 W4) ∧
         ((Nat →
         Value) →
         (∀ x4 : Int, (∀ x5 : Int, (∀ W5 : World, (I5 x4 x5 W5 →
         (∃ p4 : Option Addr, (∃ k9 : Nat, (∃ k10 : Nat, (World.cell? W5 (Addr.mk arg0 arg0o none) = some (Value.slice p4 k9 k10) ∧
         (((0 : Int) ≤ x ∧
          x < (↑k9 : Int)) ∧
         Sx.adr p4 (fun k11 =>
          (fun k12 =>
          (∃ p5 : Option Addr, (World.cell? W5 (Addr.mk k11 (k12 + Int.toNat x * 1) none) = some (Value.pointer p5) ∧
          Calls Tryd.prog 45 #[Value.pointer p5, Value.int IntKind.i64 arg2, Value.int IntKind.i64 x4] W5 (fun e2 =>
           (fun W6 =>
           (∃ vs : Array Value, (∃ z2 : Int, (e2 = Ending.returned (Value.tuple #[Value.agg vs, Value.int IntKind.i64 z2]) ∧
           (∀ k13 : Nat, (∀ W7 : World, (k13 = Array.size (World.heap W6) →
           (W7 = World.alloc W6 (Obj.cells #[Value.int IntKind.i64 0, Value.int IntKind.i64 0, Value.int IntKind.u8 0, Value.int IntKind.u8 0, Value.int IntKind.u8 0, Value.int IntKind.u8 0, Value.int IntKind.u8 0, Value.int IntKind.u8 0, Value.int IntKind.u8 0, Value.int IntKind.u8 0, Value.int IntKind.u8 0, Value.int IntKind.u8 0, Value.int IntKind.u8 0, Value.int IntKind.u8 0, Value.int IntKind.u8 0, Value.int IntKind.u8 0, Value.int IntKind.u8 0, Value.int IntKind.u8 0] 104) →
           (Array.size vs = 18 ∧
           ((∀ k14 : Nat, (k14 < 18 →
            ((∃ v : Value, World.cell? W7 (Addr.mk k13 (0 + k14) none) = some v) ∧
            World.frozen? W7 (Addr.mk k13 (0 + k14) none) = false))) ∧
           ((∀ v2 : Value, (v2 ∈ Array.toList vs →
            Value.oneCell' v2 = true)) ∧
           (∀ W8 : World, (W8 = World.setCells W7 k13 0 (Array.toList vs) →
           Sx.split (z2 != 0)
            (I3 x2 k k2 x5 W8)
            ((∃ vs2 : Array Value, (Array.size vs2 = 18 ∧
             (Sx.cellsAt W8 (Addr.mk k13 0 none) vs2 ∧
             Calls Tryd.prog 46 #[Value.pointer (some (Addr.mk arg0 arg0o none)), Value.agg vs2] W8 (fun e3 =>
              (fun W9 =>
              (e3 = Ending.returned (Value.tuple #[]) ∧
              (∀ vs3 : Array Value, (vs3 = #[Value.int IntKind.i64 x, Value.int IntKind.i64 arg2, Value.int IntKind.i64 z, Value.int IntKind.i64 x4] →
              (Array.size vs3 = 4 ∧
              (∀ k15 : Nat, (∀ W10 : World, (k15 = Array.size (World.heap W9) →
              (W10 = World.alloc W9 (Obj.cells (List.toArray (Array.toList vs3 ++ [])) 83) →
              (∃ l : List Value, (∃ l2 : List Value, (XHeap.Sl W10 83 4 (Value.slice x2 k k2) k l ∧
              (((((1 : Nat) = (0 : Nat) ∧
                some (Addr.mk k15 0 none) = none)) ∨
               ((∃ a : Addr, (some (Addr.mk k15 0 none) = some a ∧
               (∀ k16 : Nat, (∀ v3 : Value, (l2[k16]? = some v3 →
               World.cell? W10 (Addr.add a k16) = some v3))))))) ∧
              (List.length l2 = 4 ∧
              ((∀ v4 : Value, (v4 ∈ l2 →
               Value.oneCell' v4 = true)) ∧
              (k + 1 ≤ maxLen ∧
              ((k + 1) * 32 ≤ 140737488355328 ∧
              (∀ p6 : Option Addr, (∀ k17 : Nat, (∀ W11 : World, (XHeap.Sl W11 83 4 (Value.slice p6 (k + 1) k17) (k + 1) (l ++ l2) →
              (XHeap.XTouch (fun b => Value.ownBlock (Value.slice x2 k k2) = some b) W10 W11 →
              ((∀ k18 : Nat, (Value.ownBlock (Value.slice p6 (k + 1) k17) = some k18 →
              ((Value.ownBlock (Value.slice x2 k k2) = some k18) ∨
              (Array.size (World.heap W10) ≤ k18)))) →
              (XHeap.Sl W11 83 4 (Value.slice x2 k k2) k l →
              ((((p6 = x2 ∧
               k17 = k2)) ∨
              ((((XHeap.NilP x2) ∨
               (k2 < k + 1)) ∧
              (∀ k19 : Nat, (Value.ownBlock (Value.slice p6 (k + 1) k17) = some k19 →
              Array.size (World.heap W10) ≤ k19))))) →
              I3 p6 (k + 1) k17 x5 W11)))))))))))))))))))))))))))))))))))))))))))))))))))))))))))))))))))))))))))))) ∧
      ((Nat →
      Value) →
      (∀ x6 : Option Addr, (∀ k20 : Nat, (∀ k21 : Nat, (∀ x7 : Int, (∀ W12 : World, (I3 x6 k20 k21 x7 W12 →
      (∀ z3 : Int, (z3 = IntKind.wrap IntKind.i64 (x + 1) →
      (I z3 x6 k20 k21 x7 W12 ∧
      I2 z3 x6 k20 k21 x7 W12 < I2 x x2 k k2 x3 W2)))))))))))))
     ((∃ p7 : Option Addr, (∃ k22 : Nat, (∃ k23 : Nat, (World.cell? W2 (Addr.mk arg0 arg0o none) = some (Value.slice p7 k22 k23) ∧
      (((0 : Int) ≤ arg1 ∧
       arg1 < (↑k22 : Int)) ∧
      Sx.adr p7 (fun k24 =>
       (fun k25 =>
       (∃ p8 : Option Addr, (World.cell? W2 (Addr.mk k24 (k25 + Int.toNat arg1 * 1) none) = some (Value.pointer p8) ∧
       Calls Tryd.prog 35 #[Value.pointer p8, Value.int IntKind.i64 arg2] W2 (fun e4 =>
        (fun W13 =>
        (∃ z4 : Int, (e4 = Ending.returned (Value.int IntKind.i64 z4) ∧
        (∃ I6 : World → Prop, (Sx.split (z4 != 0)
          ((∃ p9 : Option Addr, (∃ k26 : Nat, (∃ k27 : Nat, (World.cell? W13 (Addr.mk arg0 arg0o none) = some (Value.slice p9 k26 k27) ∧
           (((0 : Int) ≤ arg1 ∧
            arg1 < (↑k26 : Int)) ∧
           Sx.adr p9 (fun k28 =>
            (fun k29 =>
            (∃ p10 : Option Addr, (World.cell? W13 (Addr.mk k28 (k29 + Int.toNat arg1 * 1) none) = some (Value.pointer p10) ∧
            Calls Tryd.prog 45 #[Value.pointer p10, Value.int IntKind.i64 arg2, Value.int IntKind.i64 0] W13 (fun e5 =>
             (fun W14 =>
             (∃ vs4 : Array Value, (∃ z5 : Int, (e5 = Ending.returned (Value.tuple #[Value.agg vs4, Value.int IntKind.i64 z5]) ∧
             I6 W14)))))))))))))))
          (I6 W13) ∧
        ((Nat →
        Value) →
        (∀ W15 : World, (I6 W15 →
        (∀ k30 : Nat, (∀ W16 : World, (k30 = Array.size (World.heap W15) →
        (W16 = World.alloc W15 (Obj.cells #[Value.int IntKind.u8 0, Value.int IntKind.u8 0, Value.int IntKind.u8 0, Value.int IntKind.u8 0, Value.int IntKind.u8 0, Value.int IntKind.u8 0, Value.int IntKind.u8 0, Value.int IntKind.u8 0, Value.int IntKind.u8 0, Value.int IntKind.u8 0, Value.int IntKind.u8 0, Value.int IntKind.u8 0, Value.int IntKind.u8 0, Value.int IntKind.u8 0, Value.int IntKind.u8 0, Value.int IntKind.u8 0] 96) →
        (∃ I7 : World → Prop, ((∃ I8 : Int → World → Prop, (∃ I9 : Int → World → Nat, (I8 0 W16 ∧
         ((Nat →
         Value) →
         (∀ x8 : Int, (∀ W17 : World, (I8 x8 W17 →
         Sx.split (decide (x8 < 16))
          ((∃ p11 : Option Addr, (∃ k31 : Nat, (∃ k32 : Nat, (World.cell? W17 (Addr.mk arg0 (arg0o + 2) none) = some (Value.slice p11 k31 k32) ∧
           (∀ z6 : Int, (z6 = IntKind.wrap IntKind.i64 (arg2 - 65536) →
           (∀ z7 : Int, (z7 = IntKind.wrap IntKind.i64 (z6 + x8) →
           (((0 : Int) ≤ z7 ∧
            z7 < (↑k31 : Int)) ∧
           Sx.adr p11 (fun k33 =>
            (fun k34 =>
            (∃ z8 : Int, (World.cell? W17 (Addr.mk k33 (k34 + Int.toNat z7 * 1) none) = some (Value.int IntKind.u8 z8) ∧
            (((0 : Int) ≤ x8 ∧
             x8 < (↑16 : Int)) ∧
            ((∃ v5 : Value, World.cell? W17 (Addr.mk k30 (0 + Int.toNat x8 * 1) none) = some v5) ∧
            (World.frozen? W17 (Addr.mk k30 (0 + Int.toNat x8 * 1) none) = false ∧
            (∀ W18 : World, (W18 = World.setCell W17 (Addr.mk k30 (0 + Int.toNat x8 * 1) none) (Value.int IntKind.u8 z8) →
            (∀ z9 : Int, (z9 = IntKind.wrap IntKind.i64 (x8 + 1) →
            (I8 z9 W18 ∧
            I9 z9 W18 < I9 x8 W17))))))))))))))))))))))
          (I7 W17)))))))) ∧
        ((Nat →
        Value) →
        (∀ W19 : World, (I7 W19 →
        (∃ I10 : Option Addr → World → Prop, ((∀ W20 : World, (W20 = World.drew W19 →
         (∃ p12 : Option Addr, (∃ k35 : Nat, (∃ k36 : Nat, (World.cell? W20 (Addr.mk arg0 arg0o none) = some (Value.slice p12 k35 k36) ∧
         (((0 : Int) ≤ arg1 ∧
          arg1 < (↑k35 : Int)) ∧
         Sx.adr p12 (fun k37 =>
          (fun k38 =>
          (∃ p13 : Option Addr, (World.cell? W20 (Addr.mk k37 (k38 + Int.toNat arg1 * 1) none) = some (Value.pointer p13) ∧
          (∃ vs5 : Array Value, (Array.size vs5 = 16 ∧
          (Sx.cellsAt W20 (Addr.mk k30 0 none) vs5 ∧
          (Calls Tryd.prog 47 #[Value.pointer p13, Value.int IntKind.i64 arg2, Value.agg vs5, Value.int IntKind.i64 x3] W20 (fun e6 =>
            (fun W21 =>
            (∃ vs6 : Array Value, (∃ z10 : Int, (e6 = Ending.returned (Value.tuple #[Value.agg vs6, Value.int IntKind.i64 z10]) ∧
            (∀ k39 : Nat, (∀ W22 : World, (k39 = Array.size (World.heap W21) →
            (W22 = World.alloc W21 (Obj.cells #[Value.int IntKind.i64 0, Value.int IntKind.i64 0, Value.int IntKind.u8 0, Value.int IntKind.u8 0, Value.int IntKind.u8 0, Value.int IntKind.u8 0, Value.int IntKind.u8 0, Value.int IntKind.u8 0, Value.int IntKind.u8 0, Value.int IntKind.u8 0, Value.int IntKind.u8 0, Value.int IntKind.u8 0, Value.int IntKind.u8 0, Value.int IntKind.u8 0, Value.int IntKind.u8 0, Value.int IntKind.u8 0, Value.int IntKind.u8 0, Value.int IntKind.u8 0] 104) →
            (Array.size vs6 = 18 ∧
            ((∀ k40 : Nat, (k40 < 18 →
             ((∃ v6 : Value, World.cell? W22 (Addr.mk k39 (0 + k40) none) = some v6) ∧
             World.frozen? W22 (Addr.mk k39 (0 + k40) none) = false))) ∧
            ((∀ v7 : Value, (v7 ∈ Array.toList vs6 →
             Value.oneCell' v7 = true)) ∧
            (∀ W23 : World, (W23 = World.setCells W22 k39 0 (Array.toList vs6) →
            I10 (some (Addr.mk k39 0 none)) W23)))))))))))))) ∧
          (∀ k41 : Nat, (∀ W24 : World, (k41 = Array.size (World.heap W20) →
          (W24 = World.alloc W20 (Obj.cells #[Value.int IntKind.i64 0, Value.int IntKind.i64 0, Value.int IntKind.u8 0, Value.int IntKind.u8 0, Value.int IntKind.u8 0, Value.int IntKind.u8 0, Value.int IntKind.u8 0, Value.int IntKind.u8 0, Value.int IntKind.u8 0, Value.int IntKind.u8 0, Value.int IntKind.u8 0, Value.int IntKind.u8 0, Value.int IntKind.u8 0, Value.int IntKind.u8 0, Value.int IntKind.u8 0, Value.int IntKind.u8 0, Value.int IntKind.u8 0, Value.int IntKind.u8 0] 104) →
          (RowKit.Below (Array.size (World.heap W20)) W20 W24 ∧
          Calls Tryd.prog 47 #[Value.pointer p13, Value.int IntKind.i64 arg2, Value.agg vs5, Value.int IntKind.i64 x3] W24 (fun e7 =>
           (fun W25 =>
           (∃ vs7 : Array Value, (∃ z11 : Int, (e7 = Ending.returned (Value.tuple #[Value.agg vs7, Value.int IntKind.i64 z11]) ∧
           (Array.size vs7 = 18 ∧
           ((∀ k42 : Nat, (k42 < 18 →
            ((∃ v8 : Value, World.cell? W25 (Addr.mk k41 (0 + k42) none) = some v8) ∧
            World.frozen? W25 (Addr.mk k41 (0 + k42) none) = false))) ∧
           ((∀ v9 : Value, (v9 ∈ Array.toList vs7 →
            Value.oneCell' v9 = true)) ∧
           (∀ W26 : World, (W26 = World.setCells W25 k41 0 (Array.toList vs7) →
           I10 (some (Addr.mk k41 0 none)) W26)))))))))))))))))))))))))))))) ∧
        ((Nat →
        Value) →
        (∀ x9 : Option Addr, (∀ W27 : World, (I10 x9 W27 →
        (∃ I11 : Option Addr → Nat → Nat → World → Prop, (Sx.ptr x9 (fun a2 =>
          (∃ z12 : Int, (World.cell? W27 (Addr.add a2 1) = some (Value.int IntKind.i64 z12) ∧
          Sx.split (z12 != 0)
           (Sx.ptr x9 (fun a3 =>
             (∃ vs8 : Array Value, (Array.size vs8 = 18 ∧
             (Sx.cellsAt W27 a3 vs8 ∧
             Calls Tryd.prog 46 #[Value.pointer (some (Addr.mk arg0 arg0o none)), Value.agg vs8] W27 (fun e8 =>
              (fun W28 =>
              (e8 = Ending.returned (Value.tuple #[]) ∧
              Sx.ptr x9 (fun a4 =>
               (∃ z13 : Int, (World.cell? W28 (Addr.add a4 0) = some (Value.int IntKind.i64 z13) ∧
               Sx.ptr x9 (fun a5 =>
                (∃ z14 : Int, (World.cell? W28 (Addr.add a5 1) = some (Value.int IntKind.i64 z14) ∧
                (∀ vs9 : Array Value, (vs9 = #[Value.int IntKind.i64 arg1, Value.int IntKind.i64 z13, Value.int IntKind.i64 z14, Value.int IntKind.i64 0] →
                (Array.size vs9 = 4 ∧
                (∀ k43 : Nat, (∀ W29 : World, (k43 = Array.size (World.heap W28) →
                (W29 = World.alloc W28 (Obj.cells (List.toArray (Array.toList vs9 ++ [])) 83) →
                (∃ l3 : List Value, (∃ l4 : List Value, (XHeap.Sl W29 83 4 (Value.slice x2 k k2) k l3 ∧
                (((((1 : Nat) = (0 : Nat) ∧
                  some (Addr.mk k43 0 none) = none)) ∨
                 ((∃ a6 : Addr, (some (Addr.mk k43 0 none) = some a6 ∧
                 (∀ k44 : Nat, (∀ v10 : Value, (l4[k44]? = some v10 →
                 World.cell? W29 (Addr.add a6 k44) = some v10))))))) ∧
                (List.length l4 = 4 ∧
                ((∀ v11 : Value, (v11 ∈ l4 →
                 Value.oneCell' v11 = true)) ∧
                (k + 1 ≤ maxLen ∧
                ((k + 1) * 32 ≤ 140737488355328 ∧
                (∀ p14 : Option Addr, (∀ k45 : Nat, (∀ W30 : World, (XHeap.Sl W30 83 4 (Value.slice p14 (k + 1) k45) (k + 1) (l3 ++ l4) →
                (XHeap.XTouch (fun b => Value.ownBlock (Value.slice x2 k k2) = some b) W29 W30 →
                ((∀ k46 : Nat, (Value.ownBlock (Value.slice p14 (k + 1) k45) = some k46 →
                ((Value.ownBlock (Value.slice x2 k k2) = some k46) ∨
                (Array.size (World.heap W29) ≤ k46)))) →
                (XHeap.Sl W30 83 4 (Value.slice x2 k k2) k l3 →
                ((((p14 = x2 ∧
                 k45 = k2)) ∨
                ((((XHeap.NilP x2) ∨
                 (k2 < k + 1)) ∧
                (∀ k47 : Nat, (Value.ownBlock (Value.slice p14 (k + 1) k45) = some k47 →
                Array.size (World.heap W29) ≤ k47))))) →
                I11 p14 (k + 1) k45 W30)))))))))))))))))))))))))))))))))))))
           (I11 x2 k k2 W27)))) ∧
        ((Nat →
        Value) →
        (∀ x10 : Option Addr, (∀ k48 : Nat, (∀ k49 : Nat, (∀ W31 : World, (I11 x10 k48 k49 W31 →
        (∀ vs10 : Array Value, (vs10 = #[Value.int IntKind.i64 arg1, Value.int IntKind.i64 arg2, Value.int IntKind.i64 z4, Value.int IntKind.i64 x3] →
        (Array.size vs10 = 4 ∧
        (∀ k50 : Nat, (∀ W32 : World, (k50 = Array.size (World.heap W31) →
        (W32 = World.alloc W31 (Obj.cells (List.toArray (Array.toList vs10 ++ [])) 83) →
        (∃ l5 : List Value, (∃ l6 : List Value, (XHeap.Sl W32 83 4 (Value.slice x10 k48 k49) k48 l5 ∧
        (((((1 : Nat) = (0 : Nat) ∧
          some (Addr.mk k50 0 none) = none)) ∨
         ((∃ a7 : Addr, (some (Addr.mk k50 0 none) = some a7 ∧
         (∀ k51 : Nat, (∀ v12 : Value, (l6[k51]? = some v12 →
         World.cell? W32 (Addr.add a7 k51) = some v12))))))) ∧
        (List.length l6 = 4 ∧
        ((∀ v13 : Value, (v13 ∈ l6 →
         Value.oneCell' v13 = true)) ∧
        (k48 + 1 ≤ maxLen ∧
        ((k48 + 1) * 32 ≤ 140737488355328 ∧
        (∀ p15 : Option Addr, (∀ k52 : Nat, (∀ W33 : World, (XHeap.Sl W33 83 4 (Value.slice p15 (k48 + 1) k52) (k48 + 1) (l5 ++ l6) →
        (XHeap.XTouch (fun b => Value.ownBlock (Value.slice x10 k48 k49) = some b) W32 W33 →
        ((∀ k53 : Nat, (Value.ownBlock (Value.slice p15 (k48 + 1) k52) = some k53 →
        ((Value.ownBlock (Value.slice x10 k48 k49) = some k53) ∨
        (Array.size (World.heap W32) ≤ k53)))) →
        (XHeap.Sl W33 83 4 (Value.slice x10 k48 k49) k48 l5 →
        ((((p15 = x10 ∧
         k52 = k49)) ∨
        ((((XHeap.NilP x10) ∨
         (k49 < k48 + 1)) ∧
        (∀ k54 : Nat, (Value.ownBlock (Value.slice p15 (k48 + 1) k52) = some k54 →
        Array.size (World.heap W32) ≤ k54))))) →
        Q (Ending.returned (Value.slice p15 (k48 + 1) k52)) W33))))))))))))))))))))))))))))))))))))))))))))))))))))))))))))))))))))))))))))))))) :
  Calls Tryd.prog 29 #[Value.pointer (some ⟨arg0, arg0o, none⟩), Value.int .i64 arg1, Value.int .i64 arg2, Value.bool arg3] W Q :=
  Sx.sound Tryd.func29 (.node [] [] 0 .leaf (.node [] [] 0 .leaf (.node [] [] 0 .leaf (.node [] [] 0 (.node [] [] 0 .leaf (.node [] [] 0 (.node [(11, .int .i64), (9, .slice), (10, .int .i64)] [0, 2, 1, 3] 0 (.node [] [] 0 .leaf (.node [(9, .slice), (10, .int .i64)] [11, 0, 2, 1, 3] 1 (.node [] [] 0 (.node [] [] 0 .leaf (.node [] [3, 0, 11, 2, 1, 9, 12, 10] 1 .leaf (.node [] [] 0 .leaf (.node [(13, .int .i64), (10, .int .i64)] [0, 11, 2, 1, 3, 9, 12] 1 .leaf .leaf)))) .leaf) .leaf)) .leaf) .leaf)) (.node [] [] 0 .leaf (.node [] [0, 2, 1, 10, 9, 16] 1 .leaf (.node [] [] 0 .leaf (.node [] [0, 1, 2, 17, 10, 9, 16] 1 (.node [] [] 0 .leaf (.node [] [] 0 (.node [(18, .int .i64)] [0, 2, 17, 1, 10, 9, 16] 0 .leaf .leaf) .leaf)) (.node [(19, .ptr)] [0, 9, 1, 2, 16, 10] 1 (.node [] [] 1011 .leaf .leaf) (.node [(9, .slice)] [1, 2, 16, 10] 1 .leaf .leaf)))))))))) [Value.pointer (some ⟨arg0, arg0o, none⟩), Value.int .i64 arg1, Value.int .i64 arg2, Value.bool arg3] rfl (Eq.mp (by kernel_rfl) hVC)
theorem vc20 {W : World} {Q : Ending → World → Prop} (arg0 : Nat) (arg0o : Nat)
  (hVC :
    (∃ p : Option Addr, (∃ k : Nat, (∃ k2 : Nat, (World.cell? W (Addr.mk arg0 (arg0o + 2) none) = some (Value.slice p k k2) ∧
    (∃ l : List Value, (∃ l2 : List Value, (XHeap.Sl W 5 1 (Value.slice none 0 0) 0 l ∧
    ((((k = 0 ∧
      p = none)) ∨
     ((∃ a : Addr, (p = some a ∧
     (∀ k3 : Nat, (∀ v : Value, (l2[k3]? = some v →
     World.cell? W (Addr.add a k3) = some v))))))) ∧
    (List.length l2 = k * 1 ∧
    ((∀ v2 : Value, (v2 ∈ l2 →
     Value.oneCell' v2 = true)) ∧
    (0 + k ≤ maxLen ∧
    ((0 + k) * 1 ≤ 140737488355328 ∧
    (∀ p2 : Option Addr, (∀ k4 : Nat, (∀ W2 : World, (XHeap.Sl W2 5 1 (Value.slice p2 (0 + k) k4) (0 + k) (l ++ l2) →
    (XHeap.XTouch (fun b => Value.ownBlock (Value.slice none 0 0) = some b) W W2 →
    ((∀ k5 : Nat, (Value.ownBlock (Value.slice p2 (0 + k) k4) = some k5 →
    ((Value.ownBlock (Value.slice none 0 0) = some k5) ∨
    (Array.size (World.heap W) ≤ k5)))) →
    (XHeap.Sl W2 5 1 (Value.slice none 0 0) 0 l →
    ((((p2 = none ∧
     k4 = 0)) ∨
    ((((XHeap.NilP none) ∨
     ((0 : Nat) < (0 : Nat) + k)) ∧
    (∀ k6 : Nat, (Value.ownBlock (Value.slice p2 (0 + k) k4) = some k6 →
    Array.size (World.heap W) ≤ k6))))) →
    (∃ I : Int → World → Prop, (∃ I2 : Int → World → Nat, (I 0 W2 ∧
    ((Nat →
    Value) →
    (∀ x : Int, (∀ W3 : World, (I x W3 →
    (∃ p3 : Option Addr, (∃ k7 : Nat, (∃ k8 : Nat, (World.cell? W3 (Addr.mk arg0 arg0o none) = some (Value.slice p3 k7 k8) ∧
    Sx.split (decide (x < (↑k7 : Int)))
     ((∃ I3 : World → Prop, ((∃ I4 : Int → World → Prop, (∃ I5 : Int → World → Nat, (I4 0 W3 ∧
       ((Nat →
       Value) →
       (∀ x2 : Int, (∀ W4 : World, (I4 x2 W4 →
       (∃ p4 : Option Addr, (∃ k9 : Nat, (∃ k10 : Nat, (World.cell? W4 (Addr.mk arg0 arg0o none) = some (Value.slice p4 k9 k10) ∧
       (((0 : Int) ≤ x ∧
        x < (↑k9 : Int)) ∧
       Sx.adr p4 (fun k11 =>
        (fun k12 =>
        (∃ p5 : Option Addr, (World.cell? W4 (Addr.mk k11 (k12 + Int.toNat x * 1) none) = some (Value.pointer p5) ∧
        Sx.ptr p5 (fun a2 =>
         (∃ p6 : Option Addr, (∃ k13 : Nat, (∃ k14 : Nat, (World.cell? W4 (Addr.add a2 2) = some (Value.slice p6 k13 k14) ∧
         Sx.split (decide (x2 < (↑k13 : Int)))
          ((∃ I6 : World → Prop, ((∃ p7 : Option Addr, (∃ k15 : Nat, (∃ k16 : Nat, (World.cell? W4 (Addr.mk arg0 arg0o none) = some (Value.slice p7 k15 k16) ∧
            (((0 : Int) ≤ x ∧
             x < (↑k15 : Int)) ∧
            Sx.adr p7 (fun k17 =>
             (fun k18 =>
             (∃ p8 : Option Addr, (World.cell? W4 (Addr.mk k17 (k18 + Int.toNat x * 1) none) = some (Value.pointer p8) ∧
             Sx.ptr p8 (fun a3 =>
              (∃ p9 : Option Addr, (∃ k19 : Nat, (∃ k20 : Nat, (World.cell? W4 (Addr.add a3 2) = some (Value.slice p9 k19 k20) ∧
              (((0 : Int) ≤ x2 ∧
               x2 < (↑k19 : Int)) ∧
              Sx.adr p9 (fun k21 =>
               (fun k22 =>
               (∃ vs : Array Value, (Array.size vs = 18 ∧
               (Sx.cellsAt W4 (Addr.mk k21 (k22 + Int.toNat x2 * 18) none) vs ∧
               (∀ k23 : Nat, (∀ W5 : World, (k23 = Array.size (World.heap W4) →
               (W5 = World.alloc W4 (Obj.cells #[Value.int IntKind.i64 0, Value.int IntKind.i64 0, Value.int IntKind.u8 0, Value.int IntKind.u8 0, Value.int IntKind.u8 0, Value.int IntKind.u8 0, Value.int IntKind.u8 0, Value.int IntKind.u8 0, Value.int IntKind.u8 0, Value.int IntKind.u8 0, Value.int IntKind.u8 0, Value.int IntKind.u8 0, Value.int IntKind.u8 0, Value.int IntKind.u8 0, Value.int IntKind.u8 0, Value.int IntKind.u8 0, Value.int IntKind.u8 0, Value.int IntKind.u8 0] 104) →
               (Array.size vs = 18 ∧
               ((∀ k24 : Nat, (k24 < 18 →
                ((∃ v3 : Value, World.cell? W5 (Addr.mk k23 (0 + k24) none) = some v3) ∧
                World.frozen? W5 (Addr.mk k23 (0 + k24) none) = false))) ∧
               ((∀ v4 : Value, (v4 ∈ Array.toList vs →
                Value.oneCell' v4 = true)) ∧
               (∀ W6 : World, (W6 = World.setCells W5 k23 0 (Array.toList vs) →
               (∃ I7 : Int → World → Prop, (∃ I8 : Int → World → Nat, (I7 0 W6 ∧
               ((Nat →
               Value) →
               (∀ x3 : Int, (∀ W7 : World, (I7 x3 W7 →
               Sx.split (decide (x3 < 16))
                ((∃ z : Int, (World.cell? W7 (Addr.mk k23 (0 + 1) none) = some (Value.int IntKind.i64 z) ∧
                 Sx.split (z == 3)
                  ((∀ W8 : World, (W8 = World.drew W7 →
                   (∃ z2 : Int, (World.cell? W8 (Addr.mk k23 0 none) = some (Value.int IntKind.i64 z2) ∧
                   (∀ z3 : Int, (z3 = IntKind.wrap IntKind.i64 (z2 - 65536) →
                   (∀ z4 : Int, (z4 = IntKind.wrap IntKind.i64 (z3 + x3) →
                   (((0 : Int) ≤ x3 ∧
                    x3 < (↑16 : Int)) ∧
                   (∃ z5 : Int, (World.cell? W8 (Addr.mk k23 (0 + 2 + Int.toNat x3 * 1) none) = some (Value.int IntKind.u8 z5) ∧
                   (((0 : Int) ≤ z4 ∧
                    z4 < (↑(0 + k) : Int)) ∧
                   Sx.adr p2 (fun k25 =>
                    (fun k26 =>
                    ((∃ v5 : Value, World.cell? W8 (Addr.mk k25 (k26 + Int.toNat z4 * 1) none) = some v5) ∧
                    (World.frozen? W8 (Addr.mk k25 (k26 + Int.toNat z4 * 1) none) = false ∧
                    (∀ W9 : World, (W9 = World.setCell W8 (Addr.mk k25 (k26 + Int.toNat z4 * 1) none) (Value.int IntKind.u8 z5) →
                    (∀ z6 : Int, (z6 = IntKind.wrap IntKind.i64 (x3 + 1) →
                    (I7 z6 W9 ∧
                    I8 z6 W9 < I8 x3 W7))))))))))))))))))))))
                  (I6 W7))))
                (I6 W7))))))))))))))))))))))))))))))))))))) ∧
           ((Nat →
           Value) →
           (∀ W10 : World, (I6 W10 →
           (∀ z7 : Int, (z7 = IntKind.wrap IntKind.i64 (x2 + 1) →
           (I4 z7 W10 ∧
           I5 z7 W10 < I5 x2 W4)))))))))
          (I3 W4)))))))))))))))))))))) ∧
      ((Nat →
      Value) →
      (∀ W11 : World, (I3 W11 →
      (∀ z8 : Int, (z8 = IntKind.wrap IntKind.i64 (x + 1) →
      (I z8 W11 ∧
      I2 z8 W11 < I2 x W3)))))))))
     (Q (Ending.returned (Value.slice p2 (0 + k) k4)) W3))))))))))))))))))))))))))))))))) :
  Calls Tryd.prog 20 #[Value.pointer (some ⟨arg0, arg0o, none⟩)] W Q :=
  Sx.sound Tryd.func20 (.node [] [] 0 .leaf (.node [] [] 0 .leaf (.node [] [] 0 .leaf (.node [] [] 0 (.node [] [] 0 .leaf (.node [] [] 0 (.node [(4, .int .i64)] [0, 3] 0 (.node [] [] 0 .leaf (.node [] [4, 0, 3] 1 (.node [] [] 0 (.node [] [] 0 .leaf (.node [] [] 0 (.node [(5, .int .i64)] [0, 4, 3] 0 (.node [] [] 0 .leaf (.node [] [5, 0, 4, 3] 1 (.node [] [] 0 (.node [] [] 0 .leaf (.node [] [] 0 .leaf (.node [] [] 0 (.node [(7, .int .i64)] [6, 3, 5, 0, 4] 0 (.node [] [] 0 .leaf (.node [] [] 0 (.node [] [] 0 (.node [] [] 12 .leaf .leaf) .leaf) .leaf)) .leaf) .leaf))) .leaf) .leaf)) .leaf) .leaf)) .leaf) .leaf)) .leaf) .leaf)) .leaf)))) [Value.pointer (some ⟨arg0, arg0o, none⟩)] rfl (Eq.mp (by kernel_rfl) hVC)
end Go.Proofs.YtbiogceijdcoiaaDoor
