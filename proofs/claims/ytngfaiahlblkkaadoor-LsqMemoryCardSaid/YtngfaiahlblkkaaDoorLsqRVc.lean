/- What each function asks, reckoned out of its text; printed by a program of mine (wip/tpl/VcTool.lean). No condition. -/
import Derived.Test.YtngfaiahlblkkaaDoorSxB
import Derived.Test.YtngfaiahlblkkaaDoorChecked
namespace Go.Proofs.YtngfaiahlblkkaaDoor
open Go Go.Proofs
set_option linter.unusedVariables false
set_option maxRecDepth 100000
theorem vc15 {W : World} {Q : Ending → World → Prop} (err : Value) (e : Int)
  (hVC :
    Calls Tryd.prog 31 #[err] W (fun e2 =>
     (fun W2 =>
     (∃ z : Int, (e2 = Ending.returned (Value.int IntKind.i64 z) ∧
     Q (Ending.returned (Value.bool (z == e))) W2))))) :
  Calls Tryd.prog 15 #[err, Value.int .i64 e] W Q :=
  Sx.sound Tryd.func15 .leaf [err, Value.int .i64 e] rfl (Eq.mp (by kernel_rfl) hVC)
theorem vc14 {W : World} {Q : Ending → World → Prop} (size : Int)
  (hVC :
    Sx.split (decide (size < 1))
     (Q (Ending.returned (Value.tuple #[Value.pointer none, Value.int IntKind.i64 2])) W)
     (Sx.split (decide (size > 32))
       (Q (Ending.returned (Value.tuple #[Value.pointer none, Value.int IntKind.i64 2])) W)
       ((∀ vs : Array Value, (vs = #[Value.int IntKind.i64 size, Value.slice none 0 0] →
        (∀ k : Nat, (∀ W2 : World, (k = Array.size (World.heap W) →
        (W2 = World.alloc W (Obj.cells (Value.cells (Value.agg vs)) 96) →
        Q (Ending.returned (Value.tuple #[Value.pointer (some (Addr.mk k 0 none)), Value.int IntKind.i64 0])) W2))))))))) :
  Calls Tryd.prog 14 #[Value.int .i64 size] W Q :=
  Sx.sound Tryd.func14 .leaf [Value.int .i64 size] rfl (Eq.mp (by kernel_rfl) hVC)
theorem vc17 {W : World} {Q : Ending → World → Prop} (q : Nat) (qo : Nat) (seq : Int) (store : Bool)
  (hVC :
    Sx.split (decide (seq < 0))
     ((∀ W2 : World, (∀ k : Nat, (W2 = World.drewN W k →
      Q (Ending.returned (Value.int IntKind.i64 5)) W2))))
     ((∃ p : Option Addr, (∃ k2 : Nat, (∃ k3 : Nat, (World.cell? W (Addr.mk q (qo + 1) none) = some (Value.slice p k2 k3) ∧
      Sx.split (decide ((↑k2 : Int) > 0))
       ((∃ p2 : Option Addr, (∃ k4 : Nat, (∃ k5 : Nat, (World.cell? W (Addr.mk q (qo + 1) none) = some (Value.slice p2 k4 k5) ∧
        (∃ p3 : Option Addr, (∃ k6 : Nat, (∃ k7 : Nat, (World.cell? W (Addr.mk q (qo + 1) none) = some (Value.slice p3 k6 k7) ∧
        (∀ z : Int, (z = IntKind.wrap IntKind.i64 ((↑k6 : Int) - 1) →
        (((0 : Int) ≤ z ∧
         z < (↑k4 : Int)) ∧
        Sx.adr p2 (fun k8 =>
         (fun k9 =>
         (∃ z2 : Int, (World.cell? W (Addr.mk k8 (k9 + Int.toNat z * 13) none) = some (Value.int IntKind.i64 z2) ∧
         (∀ W3 : World, (∀ k10 : Nat, (W3 = World.drewN W k10 →
         Sx.split (decide (z2 ≥ seq))
          (Q (Ending.returned (Value.int IntKind.i64 5)) W3)
          ((∃ p4 : Option Addr, (∃ k11 : Nat, (∃ k12 : Nat, (World.cell? W3 (Addr.mk q (qo + 1) none) = some (Value.slice p4 k11 k12) ∧
           (∃ z3 : Int, (World.cell? W3 (Addr.mk q qo none) = some (Value.int IntKind.i64 z3) ∧
           (∀ W4 : World, (∀ k13 : Nat, (W4 = World.drewN W3 k13 →
           Sx.split ((↑k11 : Int) == z3)
            (Q (Ending.returned (Value.int IntKind.i64 4)) W4)
            ((∃ p5 : Option Addr, (∃ k14 : Nat, (∃ k15 : Nat, (World.cell? W4 (Addr.mk q (qo + 1) none) = some (Value.slice p5 k14 k15) ∧
             (∀ vs : Array Value, (vs = #[Value.int IntKind.i64 seq, Value.bool store, Value.bool false, Value.int IntKind.i64 0, Value.int IntKind.i64 0, Value.bool false, Value.int IntKind.u32 0, Value.bool false, Value.int IntKind.i64 0, Value.int IntKind.i64 0, Value.int IntKind.i64 0, Value.int IntKind.i64 0, Value.bool false] →
             (Array.size vs = 13 ∧
             (∀ k16 : Nat, (∀ W5 : World, (k16 = Array.size (World.heap W4) →
             (W5 = World.alloc W4 (Obj.cells (List.toArray (Array.toList vs ++ [])) 98) →
             (∃ l : List Value, (∃ l2 : List Value, (XHeap.Sl W5 98 13 (Value.slice p5 k14 k15) k14 l ∧
             (((((1 : Nat) = (0 : Nat) ∧
               some (Addr.mk k16 0 none) = none)) ∨
              ((∃ a : Addr, (some (Addr.mk k16 0 none) = some a ∧
              (∀ k17 : Nat, (∀ v : Value, (l2[k17]? = some v →
              World.cell? W5 (Addr.add a k17) = some v))))))) ∧
             (List.length l2 = 13 ∧
             ((∀ v2 : Value, (v2 ∈ l2 →
              Value.oneCell' v2 = true)) ∧
             (k14 + 1 ≤ maxLen ∧
             ((k14 + 1) * 88 ≤ 140737488355328 ∧
             (∀ p6 : Option Addr, (∀ k18 : Nat, (∀ W6 : World, (XHeap.Sl W6 98 13 (Value.slice p6 (k14 + 1) k18) (k14 + 1) (l ++ l2) →
             (XHeap.XTouch (fun b => Value.ownBlock (Value.slice p5 k14 k15) = some b) W5 W6 →
             ((∀ k19 : Nat, (Value.ownBlock (Value.slice p6 (k14 + 1) k18) = some k19 →
             ((Value.ownBlock (Value.slice p5 k14 k15) = some k19) ∨
             (Array.size (World.heap W5) ≤ k19)))) →
             (XHeap.Sl W6 98 13 (Value.slice p5 k14 k15) k14 l →
             ((((p6 = p5 ∧
              k18 = k15)) ∨
             ((((XHeap.NilP p5) ∨
              (k15 < k14 + 1)) ∧
             (∀ k20 : Nat, (Value.ownBlock (Value.slice p6 (k14 + 1) k18) = some k20 →
             Array.size (World.heap W5) ≤ k20))))) →
             ((∃ v3 : Value, World.cell? W6 (Addr.mk q (qo + 1) none) = some v3) ∧
             (World.frozen? W6 (Addr.mk q (qo + 1) none) = false ∧
             (∀ W7 : World, (W7 = World.setCell W6 (Addr.mk q (qo + 1) none) (Value.slice p6 (k14 + 1) k18) →
             Q (Ending.returned (Value.int IntKind.i64 0)) W7)))))))))))))))))))))))))))))))))))))))))))))))))))))))))))))
       ((∀ W8 : World, (∀ k21 : Nat, (W8 = World.drewN W k21 →
        (∃ p7 : Option Addr, (∃ k22 : Nat, (∃ k23 : Nat, (World.cell? W8 (Addr.mk q (qo + 1) none) = some (Value.slice p7 k22 k23) ∧
        (∃ z4 : Int, (World.cell? W8 (Addr.mk q qo none) = some (Value.int IntKind.i64 z4) ∧
        (∀ W9 : World, (∀ k24 : Nat, (W9 = World.drewN W8 k24 →
        Sx.split ((↑k22 : Int) == z4)
         (Q (Ending.returned (Value.int IntKind.i64 4)) W9)
         ((∃ p8 : Option Addr, (∃ k25 : Nat, (∃ k26 : Nat, (World.cell? W9 (Addr.mk q (qo + 1) none) = some (Value.slice p8 k25 k26) ∧
          (∀ vs2 : Array Value, (vs2 = #[Value.int IntKind.i64 seq, Value.bool store, Value.bool false, Value.int IntKind.i64 0, Value.int IntKind.i64 0, Value.bool false, Value.int IntKind.u32 0, Value.bool false, Value.int IntKind.i64 0, Value.int IntKind.i64 0, Value.int IntKind.i64 0, Value.int IntKind.i64 0, Value.bool false] →
          (Array.size vs2 = 13 ∧
          (∀ k27 : Nat, (∀ W10 : World, (k27 = Array.size (World.heap W9) →
          (W10 = World.alloc W9 (Obj.cells (List.toArray (Array.toList vs2 ++ [])) 98) →
          (∃ l3 : List Value, (∃ l4 : List Value, (XHeap.Sl W10 98 13 (Value.slice p8 k25 k26) k25 l3 ∧
          (((((1 : Nat) = (0 : Nat) ∧
            some (Addr.mk k27 0 none) = none)) ∨
           ((∃ a2 : Addr, (some (Addr.mk k27 0 none) = some a2 ∧
           (∀ k28 : Nat, (∀ v4 : Value, (l4[k28]? = some v4 →
           World.cell? W10 (Addr.add a2 k28) = some v4))))))) ∧
          (List.length l4 = 13 ∧
          ((∀ v5 : Value, (v5 ∈ l4 →
           Value.oneCell' v5 = true)) ∧
          (k25 + 1 ≤ maxLen ∧
          ((k25 + 1) * 88 ≤ 140737488355328 ∧
          (∀ p9 : Option Addr, (∀ k29 : Nat, (∀ W11 : World, (XHeap.Sl W11 98 13 (Value.slice p9 (k25 + 1) k29) (k25 + 1) (l3 ++ l4) →
          (XHeap.XTouch (fun b => Value.ownBlock (Value.slice p8 k25 k26) = some b) W10 W11 →
          ((∀ k30 : Nat, (Value.ownBlock (Value.slice p9 (k25 + 1) k29) = some k30 →
          ((Value.ownBlock (Value.slice p8 k25 k26) = some k30) ∨
          (Array.size (World.heap W10) ≤ k30)))) →
          (XHeap.Sl W11 98 13 (Value.slice p8 k25 k26) k25 l3 →
          ((((p9 = p8 ∧
           k29 = k26)) ∨
          ((((XHeap.NilP p8) ∨
           (k26 < k25 + 1)) ∧
          (∀ k31 : Nat, (Value.ownBlock (Value.slice p9 (k25 + 1) k29) = some k31 →
          Array.size (World.heap W10) ≤ k31))))) →
          ((∃ v6 : Value, World.cell? W11 (Addr.mk q (qo + 1) none) = some v6) ∧
          (World.frozen? W11 (Addr.mk q (qo + 1) none) = false ∧
          (∀ W12 : World, (W12 = World.setCell W11 (Addr.mk q (qo + 1) none) (Value.slice p9 (k25 + 1) k29) →
          Q (Ending.returned (Value.int IntKind.i64 0)) W12))))))))))))))))))))))))))))))))))))))))))))))))))) :
  Calls Tryd.prog 17 #[Value.pointer (some ⟨q, qo, none⟩), Value.int .i64 seq, Value.bool store] W Q :=
  Sx.sound Tryd.func17 .leaf [Value.pointer (some ⟨q, qo, none⟩), Value.int .i64 seq, Value.bool store] rfl (Eq.mp (by kernel_rfl) hVC)
theorem vc21 {W : World} {Q : Ending → World → Prop} (q : Nat) (qo : Nat) (seq : Int) (data : Int)
  (hVC :
    Calls Tryd.prog 44 #[Value.pointer (some (Addr.mk q qo none)), Value.int IntKind.i64 seq] W (fun e =>
     (fun W2 =>
     (∃ z : Int, (e = Ending.returned (Value.int IntKind.i64 z) ∧
     Sx.split (decide (z < 0))
      (Q (Ending.returned (Value.int IntKind.i64 7)) W2)
      ((∃ p : Option Addr, (∃ k : Nat, (∃ k2 : Nat, (World.cell? W2 (Addr.mk q (qo + 1) none) = some (Value.slice p k k2) ∧
       (((0 : Int) ≤ z ∧
        z < (↑k : Int)) ∧
       Sx.adr p (fun k3 =>
        (fun k4 =>
        (∃ t : Bool, (World.cell? W2 (Addr.mk k3 (k4 + Int.toNat z * 13 + 1) none) = some (Value.bool t) ∧
        Sx.split (!t)
         (Q (Ending.returned (Value.int IntKind.i64 7)) W2)
         ((∃ p2 : Option Addr, (∃ k5 : Nat, (∃ k6 : Nat, (World.cell? W2 (Addr.mk q (qo + 1) none) = some (Value.slice p2 k5 k6) ∧
          (((0 : Int) ≤ z ∧
           z < (↑k5 : Int)) ∧
          Sx.adr p2 (fun k7 =>
           (fun k8 =>
           (∃ t2 : Bool, (World.cell? W2 (Addr.mk k7 (k8 + Int.toNat z * 13 + 5) none) = some (Value.bool t2) ∧
           Sx.split t2
            (Q (Ending.returned (Value.int IntKind.i64 7)) W2)
            ((∃ p3 : Option Addr, (∃ k9 : Nat, (∃ k10 : Nat, (World.cell? W2 (Addr.mk q (qo + 1) none) = some (Value.slice p3 k9 k10) ∧
             (((0 : Int) ≤ z ∧
              z < (↑k9 : Int)) ∧
             Sx.adr p3 (fun k11 =>
              (fun k12 =>
              (∃ t3 : Bool, (World.cell? W2 (Addr.mk k11 (k12 + Int.toNat z * 13 + 12) none) = some (Value.bool t3) ∧
              Sx.split t3
               (Q (Ending.returned (Value.int IntKind.i64 7)) W2)
               ((∃ p4 : Option Addr, (∃ k13 : Nat, (∃ k14 : Nat, (World.cell? W2 (Addr.mk q (qo + 1) none) = some (Value.slice p4 k13 k14) ∧
                (((0 : Int) ≤ z ∧
                 z < (↑k13 : Int)) ∧
                Sx.adr p4 (fun k15 =>
                 (fun k16 =>
                 ((∃ v : Value, World.cell? W2 (Addr.mk k15 (k16 + Int.toNat z * 13 + 5) none) = some v) ∧
                 (World.frozen? W2 (Addr.mk k15 (k16 + Int.toNat z * 13 + 5) none) = false ∧
                 (∀ W3 : World, (W3 = World.setCell W2 (Addr.mk k15 (k16 + Int.toNat z * 13 + 5) none) (Value.bool true) →
                 (∃ p5 : Option Addr, (∃ k17 : Nat, (∃ k18 : Nat, (World.cell? W3 (Addr.mk q (qo + 1) none) = some (Value.slice p5 k17 k18) ∧
                 (((0 : Int) ≤ z ∧
                  z < (↑k17 : Int)) ∧
                 Sx.adr p5 (fun k19 =>
                  (fun k20 =>
                  ((∃ v2 : Value, World.cell? W3 (Addr.mk k19 (k20 + Int.toNat z * 13 + 6) none) = some v2) ∧
                  (World.frozen? W3 (Addr.mk k19 (k20 + Int.toNat z * 13 + 6) none) = false ∧
                  (∀ W4 : World, (W4 = World.setCell W3 (Addr.mk k19 (k20 + Int.toNat z * 13 + 6) none) (Value.int IntKind.u32 data) →
                  Q (Ending.returned (Value.int IntKind.i64 0)) W4)))))))))))))))))))))))))))))))))))))))))))))))))))))))))) :
  Calls Tryd.prog 21 #[Value.pointer (some ⟨q, qo, none⟩), Value.int .i64 seq, Value.int .u32 data] W Q :=
  Sx.sound Tryd.func21 .leaf [Value.pointer (some ⟨q, qo, none⟩), Value.int .i64 seq, Value.int .u32 data] rfl (Eq.mp (by kernel_rfl) hVC)
theorem vc44 {W : World} {Q : Ending → World → Prop} (q : Nat) (qo : Nat) (seq : Int)
  (hVC :
    (∃ I : Int → World → Prop, (∃ I2 : Int → World → Nat, (I 0 W ∧
    ((Nat →
    Value) →
    (∀ i : Int, (∀ W2 : World, (I i W2 →
    (∃ p : Option Addr, (∃ k : Nat, (∃ k2 : Nat, (World.cell? W2 (Addr.mk q (qo + 1) none) = some (Value.slice p k k2) ∧
    Sx.split (decide (i < (↑k : Int)))
     ((∃ p2 : Option Addr, (∃ k3 : Nat, (∃ k4 : Nat, (World.cell? W2 (Addr.mk q (qo + 1) none) = some (Value.slice p2 k3 k4) ∧
      (((0 : Int) ≤ i ∧
       i < (↑k3 : Int)) ∧
      Sx.adr p2 (fun k5 =>
       (fun k6 =>
       (∃ z : Int, (World.cell? W2 (Addr.mk k5 (k6 + Int.toNat i * 13) none) = some (Value.int IntKind.i64 z) ∧
       Sx.split (z == seq)
        (Q (Ending.returned (Value.int IntKind.i64 i)) W2)
        ((∀ z2 : Int, (z2 = IntKind.wrap IntKind.i64 (i + 1) →
         (I z2 W2 ∧
         I2 z2 W2 < I2 i W2))))))))))))))
     (Q (Ending.returned (Value.int IntKind.i64 (-1))) W2))))))))))))) :
  Calls Tryd.prog 44 #[Value.pointer (some ⟨q, qo, none⟩), Value.int .i64 seq] W Q :=
  Sx.sound Tryd.func44 (.node [] [] 0 .leaf (.node [] [] 0 (.node [] [] 0 .leaf (.node [] [] 0 (.node [(5, .int .i64)] [0, 1] 0 .leaf .leaf) .leaf)) .leaf)) [Value.pointer (some ⟨q, qo, none⟩), Value.int .i64 seq] rfl (Eq.mp (by kernel_rfl) hVC)
theorem vc49 {W : World} {Q : Ending → World → Prop} (q : Nat) (qo : Nat) (i : Int) (addr : Int)
  (hVC :
    (∀ z : Int, (z = IntKind.wrap IntKind.i64 (i - 1) →
    (∃ I : Int → World → Prop, (∃ I2 : Int → World → Nat, (I z W ∧
    ((Nat →
    Value) →
    (∀ k : Int, (∀ W2 : World, (I k W2 →
    Sx.split (decide (k ≥ 0))
     ((∃ p : Option Addr, (∃ k2 : Nat, (∃ k3 : Nat, (World.cell? W2 (Addr.mk q (qo + 1) none) = some (Value.slice p k2 k3) ∧
      (((0 : Int) ≤ k ∧
       k < (↑k2 : Int)) ∧
      Sx.adr p (fun k4 =>
       (fun k5 =>
       (∃ vs : Array Value, (Array.size vs = 13 ∧
       (Sx.cellsAt W2 (Addr.mk k4 (k5 + Int.toNat k * 13) none) vs ∧
       (∀ k6 : Nat, (∀ W3 : World, (k6 = Array.size (World.heap W2) →
       (W3 = World.alloc W2 (Obj.cells #[Value.int IntKind.i64 0, Value.bool false, Value.bool false, Value.int IntKind.i64 0, Value.int IntKind.i64 0, Value.bool false, Value.int IntKind.u32 0, Value.bool false, Value.int IntKind.i64 0, Value.int IntKind.i64 0, Value.int IntKind.i64 0, Value.int IntKind.i64 0, Value.bool false] 98) →
       (Array.size vs = 13 ∧
       ((∀ k7 : Nat, (k7 < 13 →
        ((∃ v : Value, World.cell? W3 (Addr.mk k6 (0 + k7) none) = some v) ∧
        World.frozen? W3 (Addr.mk k6 (0 + k7) none) = false))) ∧
       ((∀ v2 : Value, (v2 ∈ Array.toList vs →
        Value.oneCell' v2 = true)) ∧
       (∀ W4 : World, (W4 = World.setCells W3 k6 0 (Array.toList vs) →
       (∃ t : Bool, (World.cell? W4 (Addr.mk k6 (0 + 1) none) = some (Value.bool t) ∧
       Sx.split t
        ((∃ t2 : Bool, (World.cell? W4 (Addr.mk k6 (0 + 2) none) = some (Value.bool t2) ∧
         Sx.split t2
          ((∃ z2 : Int, (World.cell? W4 (Addr.mk k6 (0 + 3) none) = some (Value.int IntKind.i64 z2) ∧
           Sx.split (decide (addr ≥ z2))
            ((∃ z3 : Int, (World.cell? W4 (Addr.mk k6 (0 + 3) none) = some (Value.int IntKind.i64 z3) ∧
             (∃ z4 : Int, (World.cell? W4 (Addr.mk k6 (0 + 4) none) = some (Value.int IntKind.i64 z4) ∧
             (∀ z5 : Int, (z5 = IntKind.wrap IntKind.i64 (z3 + z4) →
             Sx.split (decide (addr < z5))
              (Q (Ending.returned (Value.int IntKind.i64 k)) W4)
              ((∀ z6 : Int, (z6 = IntKind.wrap IntKind.i64 (k - 1) →
               (I z6 W4 ∧
               I2 z6 W4 < I2 k W2)))))))))))
            ((∀ z7 : Int, (z7 = IntKind.wrap IntKind.i64 (k - 1) →
             (I z7 W4 ∧
             I2 z7 W4 < I2 k W2)))))))
          ((∀ z8 : Int, (z8 = IntKind.wrap IntKind.i64 (k - 1) →
           (I z8 W4 ∧
           I2 z8 W4 < I2 k W2)))))))
        ((∀ z9 : Int, (z9 = IntKind.wrap IntKind.i64 (k - 1) →
         (I z9 W4 ∧
         I2 z9 W4 < I2 k W2))))))))))))))))))))))))))
     (Q (Ending.returned (Value.int IntKind.i64 (-1))) W2))))))))))) :
  Calls Tryd.prog 49 #[Value.pointer (some ⟨q, qo, none⟩), Value.int .i64 i, Value.int .i64 addr] W Q :=
  Sx.sound Tryd.func49 (.node [] [] 0 .leaf (.node [] [] 0 (.node [] [] 0 .leaf (.node [] [] 0 (.node [(7, .int .i64)] [0, 2] 0 .leaf .leaf) .leaf)) .leaf)) [Value.pointer (some ⟨q, qo, none⟩), Value.int .i64 i, Value.int .i64 addr] rfl (Eq.mp (by kernel_rfl) hVC)
theorem vc50 {W : World} {Q : Ending → World → Prop} (q : Nat) (qo : Nat)
  (hVC :
    (∃ I : Int → World → Prop, (∃ I2 : Int → World → Nat, (I 0 W ∧
    ((Nat →
    Value) →
    (∀ i : Int, (∀ W2 : World, (I i W2 →
    (∃ p : Option Addr, (∃ k : Nat, (∃ k2 : Nat, (World.cell? W2 (Addr.mk q (qo + 1) none) = some (Value.slice p k k2) ∧
    Sx.split (decide (i < (↑k : Int)))
     ((∃ p2 : Option Addr, (∃ k3 : Nat, (∃ k4 : Nat, (World.cell? W2 (Addr.mk q (qo + 1) none) = some (Value.slice p2 k3 k4) ∧
      (((0 : Int) ≤ i ∧
       i < (↑k3 : Int)) ∧
      Sx.adr p2 (fun k5 =>
       (fun k6 =>
       (∃ t : Bool, (World.cell? W2 (Addr.mk k5 (k6 + Int.toNat i * 13 + 12) none) = some (Value.bool t) ∧
       Sx.split (!t)
        (Q (Ending.returned (Value.int IntKind.i64 i)) W2)
        ((∀ z : Int, (z = IntKind.wrap IntKind.i64 (i + 1) →
         (I z W2 ∧
         I2 z W2 < I2 i W2))))))))))))))
     (Q (Ending.returned (Value.int IntKind.i64 (-1))) W2))))))))))))) :
  Calls Tryd.prog 50 #[Value.pointer (some ⟨q, qo, none⟩)] W Q :=
  Sx.sound Tryd.func50 (.node [] [] 0 .leaf (.node [] [] 0 (.node [] [] 0 .leaf (.node [] [] 0 (.node [(3, .int .i64)] [0] 0 .leaf .leaf) .leaf)) .leaf)) [Value.pointer (some ⟨q, qo, none⟩)] rfl (Eq.mp (by kernel_rfl) hVC)
theorem vc51 {W : World} {Q : Ending → World → Prop} (q : Nat) (qo : Nat) (i : Int)
  (hVC :
    (∃ p : Option Addr, (∃ k : Nat, (∃ k2 : Nat, (World.cell? W (Addr.mk q (qo + 1) none) = some (Value.slice p k k2) ∧
    (((0 : Int) ≤ i ∧
     i ≤ (↑k2 : Int)) ∧
    (∃ l : List Value, (∃ l2 : List Value, (XHeap.Sl W 98 13 (Value.slice none 0 0) 0 l ∧
    ((((Int.toNat i = 0 ∧
      p = none)) ∨
     ((∃ a : Addr, (p = some a ∧
     (∀ k3 : Nat, (∀ v : Value, (l2[k3]? = some v →
     World.cell? W (Addr.add a k3) = some v))))))) ∧
    (List.length l2 = Int.toNat i * 13 ∧
    ((∀ v2 : Value, (v2 ∈ l2 →
     Value.oneCell' v2 = true)) ∧
    (0 + Int.toNat i ≤ maxLen ∧
    ((0 + Int.toNat i) * 88 ≤ 140737488355328 ∧
    (∀ p2 : Option Addr, (∀ k4 : Nat, (∀ W2 : World, (XHeap.Sl W2 98 13 (Value.slice p2 (0 + Int.toNat i) k4) (0 + Int.toNat i) (l ++ l2) →
    (XHeap.XTouch (fun b => Value.ownBlock (Value.slice none 0 0) = some b) W W2 →
    ((∀ k5 : Nat, (Value.ownBlock (Value.slice p2 (0 + Int.toNat i) k4) = some k5 →
    ((Value.ownBlock (Value.slice none 0 0) = some k5) ∨
    (Array.size (World.heap W) ≤ k5)))) →
    (XHeap.Sl W2 98 13 (Value.slice none 0 0) 0 l →
    ((((p2 = none ∧
     k4 = 0)) ∨
    ((((XHeap.NilP none) ∨
     ((0 : Nat) < (0 : Nat) + Int.toNat i)) ∧
    (∀ k6 : Nat, (Value.ownBlock (Value.slice p2 (0 + Int.toNat i) k4) = some k6 →
    Array.size (World.heap W) ≤ k6))))) →
    (∃ p3 : Option Addr, (∃ k7 : Nat, (∃ k8 : Nat, (World.cell? W2 (Addr.mk q (qo + 1) none) = some (Value.slice p3 k7 k8) ∧
    (∀ z : Int, (z = IntKind.wrap IntKind.i64 (i + 1) →
    (((0 : Int) ≤ z ∧
     z ≤ (↑k7 : Int)) ∧
    (∃ l3 : List Value, (∃ l4 : List Value, (XHeap.Sl W2 98 13 (Value.slice p2 (0 + Int.toNat i) k4) (0 + Int.toNat i) l3 ∧
    ((((k7 - Int.toNat z = 0 ∧
      Sx.sub p3 k8 (Int.toNat z) 13 = none)) ∨
     ((∃ a2 : Addr, (Sx.sub p3 k8 (Int.toNat z) 13 = some a2 ∧
     (∀ k9 : Nat, (∀ v3 : Value, (l4[k9]? = some v3 →
     World.cell? W2 (Addr.add a2 k9) = some v3))))))) ∧
    (List.length l4 = (k7 - Int.toNat z) * 13 ∧
    ((∀ v4 : Value, (v4 ∈ l4 →
     Value.oneCell' v4 = true)) ∧
    (0 + Int.toNat i + (k7 - Int.toNat z) ≤ maxLen ∧
    ((0 + Int.toNat i + (k7 - Int.toNat z)) * 88 ≤ 140737488355328 ∧
    (∀ p4 : Option Addr, (∀ k10 : Nat, (∀ W3 : World, (XHeap.Sl W3 98 13 (Value.slice p4 (0 + Int.toNat i + (k7 - Int.toNat z)) k10) (0 + Int.toNat i + (k7 - Int.toNat z)) (l3 ++ l4) →
    (XHeap.XTouch (fun b => Value.ownBlock (Value.slice p2 (0 + Int.toNat i) k4) = some b) W2 W3 →
    ((∀ k11 : Nat, (Value.ownBlock (Value.slice p4 (0 + Int.toNat i + (k7 - Int.toNat z)) k10) = some k11 →
    ((Value.ownBlock (Value.slice p2 (0 + Int.toNat i) k4) = some k11) ∨
    (Array.size (World.heap W2) ≤ k11)))) →
    (XHeap.Sl W3 98 13 (Value.slice p2 (0 + Int.toNat i) k4) (0 + Int.toNat i) l3 →
    ((((p4 = p2 ∧
     k10 = k4)) ∨
    ((((XHeap.NilP p2) ∨
     (k4 < 0 + Int.toNat i + (k7 - Int.toNat z))) ∧
    (∀ k12 : Nat, (Value.ownBlock (Value.slice p4 (0 + Int.toNat i + (k7 - Int.toNat z)) k10) = some k12 →
    Array.size (World.heap W2) ≤ k12))))) →
    ((∃ v5 : Value, World.cell? W3 (Addr.mk q (qo + 1) none) = some v5) ∧
    (World.frozen? W3 (Addr.mk q (qo + 1) none) = false ∧
    (∀ W4 : World, (W4 = World.setCell W3 (Addr.mk q (qo + 1) none) (Value.slice p4 (0 + Int.toNat i + (k7 - Int.toNat z)) k10) →
    Q (Ending.returned (Value.tuple #[])) W4))))))))))))))))))))))))))))))))))))))))))))))))) :
  Calls Tryd.prog 51 #[Value.pointer (some ⟨q, qo, none⟩), Value.int .i64 i] W Q :=
  Sx.sound Tryd.func51 .leaf [Value.pointer (some ⟨q, qo, none⟩), Value.int .i64 i] rfl (Eq.mp (by kernel_rfl) hVC)
theorem vc27 {W : World} {Q : Ending → World → Prop} (r : Nat) (ro : Nat)
  (hVC :
    (∃ I : Int → World → Prop, (∃ I2 : Int → World → Nat, (I 0 W ∧
    ((Nat →
    Value) →
    (∀ i : Int, (∀ W2 : World, (I i W2 →
    (∃ p : Option Addr, (∃ k : Nat, (∃ k2 : Nat, (World.cell? W2 (Addr.mk r (ro + 1) none) = some (Value.slice p k k2) ∧
    Sx.split (decide (i < (↑k : Int)))
     ((∃ p2 : Option Addr, (∃ k3 : Nat, (∃ k4 : Nat, (World.cell? W2 (Addr.mk r (ro + 1) none) = some (Value.slice p2 k3 k4) ∧
      (((0 : Int) ≤ i ∧
       i < (↑k3 : Int)) ∧
      Sx.adr p2 (fun k5 =>
       (fun k6 =>
       (∃ t : Bool, (World.cell? W2 (Addr.mk k5 (k6 + Int.toNat i * 13 + 12) none) = some (Value.bool t) ∧
       Sx.split (!t)
        ((∃ p3 : Option Addr, (∃ k7 : Nat, (∃ k8 : Nat, (World.cell? W2 (Addr.mk r (ro + 1) none) = some (Value.slice p3 k7 k8) ∧
         (((0 : Int) ≤ i ∧
          i < (↑k7 : Int)) ∧
         Sx.adr p3 (fun k9 =>
          (fun k10 =>
          (∃ z : Int, (World.cell? W2 (Addr.mk k9 (k10 + Int.toNat i * 13) none) = some (Value.int IntKind.i64 z) ∧
          Q (Ending.returned (Value.int IntKind.i64 z)) W2))))))))))
        ((∀ z2 : Int, (z2 = IntKind.wrap IntKind.i64 (i + 1) →
         (I z2 W2 ∧
         I2 z2 W2 < I2 i W2))))))))))))))
     (Q (Ending.returned (Value.int IntKind.i64 (-1))) W2))))))))))))) :
  Calls Tryd.prog 27 #[Value.pointer (some ⟨r, ro, none⟩)] W Q :=
  Sx.sound Tryd.func27 (.node [] [] 0 .leaf (.node [] [] 0 (.node [] [] 0 .leaf (.node [] [] 0 (.node [(3, .int .i64)] [0] 0 .leaf .leaf) .leaf)) .leaf)) [Value.pointer (some ⟨r, ro, none⟩)] rfl (Eq.mp (by kernel_rfl) hVC)
theorem vc24 {W : World} {Q : Ending → World → Prop} (f : Array Value) (r : Array Value)
  (hVC :
    (∀ k : Nat, (∀ W2 : World, (k = Array.size (World.heap W) →
    (W2 = World.alloc W (Obj.cells (Value.cells (Value.agg f)) 63) →
    (∀ k2 : Nat, (∀ W3 : World, (k2 = Array.size (World.heap W2) →
    (W3 = World.alloc W2 (Obj.cells (Value.cells (Value.agg r)) 66) →
    (∃ t : Bool, (World.cell? W3 (Addr.mk k 0 none) = some (Value.bool t) ∧
    (∃ t2 : Bool, (World.cell? W3 (Addr.mk k2 0 none) = some (Value.bool t2) ∧
    Sx.split (t == t2)
     ((∃ z : Int, (World.cell? W3 (Addr.mk k (0 + 1) none) = some (Value.int IntKind.i64 z) ∧
      (∃ z2 : Int, (World.cell? W3 (Addr.mk k2 (0 + 1) none) = some (Value.int IntKind.i64 z2) ∧
      Sx.split (z == z2)
       ((∃ z3 : Int, (World.cell? W3 (Addr.mk k (0 + 2) none) = some (Value.int IntKind.u32 z3) ∧
        (∃ z4 : Int, (World.cell? W3 (Addr.mk k2 (0 + 2) none) = some (Value.int IntKind.u32 z4) ∧
        Q (Ending.returned (Value.bool (z3 == z4))) W3)))))
       (Q (Ending.returned (Value.bool false)) W3))))))
     (Q (Ending.returned (Value.bool false)) W3)))))))))))))) :
  Calls Tryd.prog 24 #[Value.agg f, Value.agg r] W Q :=
  Sx.sound Tryd.func24 .leaf [Value.agg f, Value.agg r] rfl (Eq.mp (by kernel_rfl) hVC)
theorem vc35 {W : World} {Q : Ending → World → Prop} (q : Nat) (qo : Nat) (after : Int)
  (hVC :
    (∃ I : World → Prop, (∃ I2 : World → Nat, (I W ∧
    ((Nat →
    Value) →
    (∀ W2 : World, (I W2 →
    (∃ p : Option Addr, (∃ k : Nat, (∃ k2 : Nat, (World.cell? W2 (Addr.mk q (qo + 1) none) = some (Value.slice p k k2) ∧
    Sx.split (decide ((↑k : Int) > 0))
     ((∃ p2 : Option Addr, (∃ k3 : Nat, (∃ k4 : Nat, (World.cell? W2 (Addr.mk q (qo + 1) none) = some (Value.slice p2 k3 k4) ∧
      (∃ p3 : Option Addr, (∃ k5 : Nat, (∃ k6 : Nat, (World.cell? W2 (Addr.mk q (qo + 1) none) = some (Value.slice p3 k5 k6) ∧
      (∀ z : Int, (z = IntKind.wrap IntKind.i64 ((↑k5 : Int) - 1) →
      (((0 : Int) ≤ z ∧
       z < (↑k3 : Int)) ∧
      Sx.adr p2 (fun k7 =>
       (fun k8 =>
       (∃ z2 : Int, (World.cell? W2 (Addr.mk k7 (k8 + Int.toNat z * 13) none) = some (Value.int IntKind.i64 z2) ∧
       Sx.split (decide (z2 > after))
        ((∃ p4 : Option Addr, (∃ k9 : Nat, (∃ k10 : Nat, (World.cell? W2 (Addr.mk q (qo + 1) none) = some (Value.slice p4 k9 k10) ∧
         (∃ p5 : Option Addr, (∃ k11 : Nat, (∃ k12 : Nat, (World.cell? W2 (Addr.mk q (qo + 1) none) = some (Value.slice p5 k11 k12) ∧
         (∀ z3 : Int, (z3 = IntKind.wrap IntKind.i64 ((↑k11 : Int) - 1) →
         (((0 : Int) ≤ z3 ∧
          z3 < (↑k9 : Int)) ∧
         Sx.adr p4 (fun k13 =>
          (fun k14 =>
          (∃ t : Bool, (World.cell? W2 (Addr.mk k13 (k14 + Int.toNat z3 * 13 + 12) none) = some (Value.bool t) ∧
          (∀ W3 : World, (∀ k15 : Nat, (W3 = World.drewN W2 k15 →
          Sx.split (!t)
           ((∀ W4 : World, (W4 = World.drew W3 →
            (∃ p6 : Option Addr, (∃ k16 : Nat, (∃ k17 : Nat, (World.cell? W4 (Addr.mk q (qo + 1) none) = some (Value.slice p6 k16 k17) ∧
            (∃ p7 : Option Addr, (∃ k18 : Nat, (∃ k19 : Nat, (World.cell? W4 (Addr.mk q (qo + 1) none) = some (Value.slice p7 k18 k19) ∧
            (∀ z4 : Int, (z4 = IntKind.wrap IntKind.i64 ((↑k18 : Int) - 1) →
            (((0 : Int) ≤ z4 ∧
             z4 ≤ (↑k17 : Int)) ∧
            ((∃ v : Value, World.cell? W4 (Addr.mk q (qo + 1) none) = some v) ∧
            (World.frozen? W4 (Addr.mk q (qo + 1) none) = false ∧
            (∀ W5 : World, (W5 = World.setCell W4 (Addr.mk q (qo + 1) none) (Value.slice p6 (Int.toNat z4) k17) →
            (I W5 ∧
            I2 W5 < I2 W2)))))))))))))))))))
           (Q (Ending.returned (Value.tuple #[])) W3))))))))))))))))))))
        ((∀ W6 : World, (∀ k20 : Nat, (W6 = World.drewN W2 k20 →
         Q (Ending.returned (Value.tuple #[])) W6))))))))))))))))))))
     ((∀ W7 : World, (∀ k21 : Nat, (W7 = World.drewN W2 k21 →
      Q (Ending.returned (Value.tuple #[])) W7))))))))))))))) :
  Calls Tryd.prog 35 #[Value.pointer (some ⟨q, qo, none⟩), Value.int .i64 after] W Q :=
  Sx.sound Tryd.func35 (.node [] [] 0 (.node [] [0, 1] 0 (.node [] [] 0 .leaf (.node [] [] 0 (.node [] [] 15 .leaf .leaf) .leaf)) .leaf) .leaf) [Value.pointer (some ⟨q, qo, none⟩), Value.int .i64 after] rfl (Eq.mp (by kernel_rfl) hVC)
theorem vc33 {W : World} {Q : Ending → World → Prop} (q : Nat) (qo : Nat) (line : Int)
  (hVC :
    ((16 : Int) ≠ (0 : Int) ∧
    (∀ z : Int, (z = Int.tmod line 16 →
    (∀ z2 : Int, (z2 = IntKind.wrap IntKind.i64 (line - z) →
    (∃ I : Int → World → Prop, (∃ I2 : Int → World → Nat, (I 0 W ∧
    ((Nat →
    Value) →
    (∀ i : Int, (∀ W2 : World, (I i W2 →
    (∃ p : Option Addr, (∃ k : Nat, (∃ k2 : Nat, (World.cell? W2 (Addr.mk q (qo + 1) none) = some (Value.slice p k k2) ∧
    Sx.split (decide (i < (↑k : Int)))
     ((∃ p2 : Option Addr, (∃ k3 : Nat, (∃ k4 : Nat, (World.cell? W2 (Addr.mk q (qo + 1) none) = some (Value.slice p2 k3 k4) ∧
      (((0 : Int) ≤ i ∧
       i < (↑k3 : Int)) ∧
      Sx.adr p2 (fun k5 =>
       (fun k6 =>
       (∃ vs : Array Value, (Array.size vs = 13 ∧
       (Sx.cellsAt W2 (Addr.mk k5 (k6 + Int.toNat i * 13) none) vs ∧
       (∀ k7 : Nat, (∀ W3 : World, (k7 = Array.size (World.heap W2) →
       (W3 = World.alloc W2 (Obj.cells #[Value.int IntKind.i64 0, Value.bool false, Value.bool false, Value.int IntKind.i64 0, Value.int IntKind.i64 0, Value.bool false, Value.int IntKind.u32 0, Value.bool false, Value.int IntKind.i64 0, Value.int IntKind.i64 0, Value.int IntKind.i64 0, Value.int IntKind.i64 0, Value.bool false] 98) →
       (Array.size vs = 13 ∧
       ((∀ k8 : Nat, (k8 < 13 →
        ((∃ v : Value, World.cell? W3 (Addr.mk k7 (0 + k8) none) = some v) ∧
        World.frozen? W3 (Addr.mk k7 (0 + k8) none) = false))) ∧
       ((∀ v2 : Value, (v2 ∈ Array.toList vs →
        Value.oneCell' v2 = true)) ∧
       (∀ W4 : World, (W4 = World.setCells W3 k7 0 (Array.toList vs) →
       (∃ I3 : Int → World → Prop, (∃ I4 : Int → World → Nat, (I3 0 W4 ∧
       ((Nat →
       Value) →
       (∀ b : Int, (∀ W5 : World, (I3 b W5 →
       (∃ z3 : Int, (World.cell? W5 (Addr.mk k7 (0 + 4) none) = some (Value.int IntKind.i64 z3) ∧
       Sx.split (decide (b < z3))
        ((∃ t : Bool, (World.cell? W5 (Addr.mk k7 (0 + 7) none) = some (Value.bool t) ∧
         Sx.split t
          ((((0 : Int) ≤ b ∧
            b < (↑4 : Int)) ∧
           (∃ z4 : Int, (World.cell? W5 (Addr.mk k7 (0 + 8 + Int.toNat b * 1) none) = some (Value.int IntKind.i64 z4) ∧
           Sx.split (z4 == -1)
            ((∃ z5 : Int, (World.cell? W5 (Addr.mk k7 (0 + 3) none) = some (Value.int IntKind.i64 z5) ∧
             (∃ z6 : Int, (World.cell? W5 (Addr.mk k7 (0 + 3) none) = some (Value.int IntKind.i64 z6) ∧
             ((16 : Int) ≠ (0 : Int) ∧
             (∀ z7 : Int, (z7 = Int.tmod z6 16 →
             (∀ z8 : Int, (z8 = IntKind.wrap IntKind.i64 (z5 - z7) →
             Sx.split (z8 == z2)
              ((∃ z9 : Int, (World.cell? W5 (Addr.mk k7 0 none) = some (Value.int IntKind.i64 z9) ∧
               Q (Ending.returned (Value.int IntKind.i64 z9)) W5)))
              ((∀ z10 : Int, (z10 = IntKind.wrap IntKind.i64 (b + 1) →
               (I3 z10 W5 ∧
               I4 z10 W5 < I4 b W5))))))))))))))
            ((∀ z11 : Int, (z11 = IntKind.wrap IntKind.i64 (b + 1) →
             (I3 z11 W5 ∧
             I4 z11 W5 < I4 b W5))))))))
          ((∀ z12 : Int, (z12 = IntKind.wrap IntKind.i64 (i + 1) →
           (I z12 W5 ∧
           I2 z12 W5 < I2 i W2)))))))
        ((∀ z13 : Int, (z13 = IntKind.wrap IntKind.i64 (i + 1) →
         (I z13 W5 ∧
         I2 z13 W5 < I2 i W2)))))))))))))))))))))))))))))))))
     (Q (Ending.returned (Value.int IntKind.i64 (-1))) W2)))))))))))))))))) :
  Calls Tryd.prog 33 #[Value.pointer (some ⟨q, qo, none⟩), Value.int .i64 line] W Q :=
  Sx.sound Tryd.func33 (.node [] [] 0 .leaf (.node [] [] 0 .leaf (.node [] [] 0 (.node [] [] 0 .leaf (.node [] [] 0 (.node [(5, .int .i64)] [0, 1] 0 (.node [] [] 0 .leaf (.node [] [] 0 (.node [] [] 0 (.node [] [] 0 .leaf (.node [] [] 0 .leaf (.node [] [] 0 (.node [(7, .int .i64)] [6, 1, 5, 0] 0 .leaf .leaf) .leaf))) .leaf) .leaf)) .leaf) .leaf)) .leaf))) [Value.pointer (some ⟨q, qo, none⟩), Value.int .i64 line] rfl (Eq.mp (by kernel_rfl) hVC)
theorem vc30 {W : World} {Q : Ending → World → Prop} (arg0 : Nat) (arg0o : Nat)
  (hVC :
    (∃ p : Option Addr, (∃ k : Nat, (∃ k2 : Nat, (World.cell? W (Addr.mk arg0 (arg0o + 1) none) = some (Value.slice p k k2) ∧
    Sx.split ((↑k : Int) == 0)
     (Q (Ending.returned (Value.bool false)) W)
     ((∃ p2 : Option Addr, (∃ k3 : Nat, (∃ k4 : Nat, (World.cell? W (Addr.mk arg0 (arg0o + 1) none) = some (Value.slice p2 k3 k4) ∧
      (((0 : Int) ≤ (0 : Int) ∧
       (0 : Int) < (↑k3 : Int)) ∧
      Sx.adr p2 (fun k5 =>
       (fun k6 =>
       (∃ t : Bool, (World.cell? W (Addr.mk k5 (k6 + 0 + 12) none) = some (Value.bool t) ∧
       Sx.split (!t)
        (Q (Ending.returned (Value.bool false)) W)
        ((∃ p3 : Option Addr, (∃ k7 : Nat, (∃ k8 : Nat, (World.cell? W (Addr.mk arg0 (arg0o + 1) none) = some (Value.slice p3 k7 k8) ∧
         (((0 : Int) ≤ (0 : Int) ∧
          (0 : Int) < (↑k7 : Int)) ∧
         Sx.adr p3 (fun k9 =>
          (fun k10 =>
          (∃ z : Int, (World.cell? W (Addr.mk k9 (k10 + 0) none) = some (Value.int IntKind.i64 z) ∧
          Calls Tryd.prog 51 #[Value.pointer (some (Addr.mk arg0 arg0o none)), Value.int IntKind.i64 0] W (fun e =>
           (fun W2 =>
           (e = Ending.returned (Value.tuple #[]) ∧
           (∃ I : Int → World → Prop, (∃ I2 : Int → World → Nat, (I 0 W2 ∧
           ((Nat →
           Value) →
           (∀ x : Int, (∀ W3 : World, (I x W3 →
           (∃ p4 : Option Addr, (∃ k11 : Nat, (∃ k12 : Nat, (World.cell? W3 (Addr.mk arg0 (arg0o + 1) none) = some (Value.slice p4 k11 k12) ∧
           Sx.split (decide (x < (↑k11 : Int)))
            ((∃ I3 : Int → World → Prop, (∃ I4 : Int → World → Nat, (I3 0 W3 ∧
             ((Nat →
             Value) →
             (∀ x2 : Int, (∀ W4 : World, (I3 x2 W4 →
             Sx.split (decide (x2 < 4))
              ((∃ p5 : Option Addr, (∃ k13 : Nat, (∃ k14 : Nat, (World.cell? W4 (Addr.mk arg0 (arg0o + 1) none) = some (Value.slice p5 k13 k14) ∧
               (((0 : Int) ≤ x ∧
                x < (↑k13 : Int)) ∧
               Sx.adr p5 (fun k15 =>
                (fun k16 =>
                (((0 : Int) ≤ x2 ∧
                 x2 < (↑4 : Int)) ∧
                (∃ z2 : Int, (World.cell? W4 (Addr.mk k15 (k16 + Int.toNat x * 13 + 8 + Int.toNat x2 * 1) none) = some (Value.int IntKind.i64 z2) ∧
                Sx.split (z2 == z)
                 ((∃ p6 : Option Addr, (∃ k17 : Nat, (∃ k18 : Nat, (World.cell? W4 (Addr.mk arg0 (arg0o + 1) none) = some (Value.slice p6 k17 k18) ∧
                  (((0 : Int) ≤ x ∧
                   x < (↑k17 : Int)) ∧
                  Sx.adr p6 (fun k19 =>
                   (fun k20 =>
                   (∃ t2 : Bool, (World.cell? W4 (Addr.mk k19 (k20 + Int.toNat x * 13 + 7) none) = some (Value.bool t2) ∧
                   Sx.split t2
                    ((∃ p7 : Option Addr, (∃ k21 : Nat, (∃ k22 : Nat, (World.cell? W4 (Addr.mk arg0 (arg0o + 1) none) = some (Value.slice p7 k21 k22) ∧
                     (((0 : Int) ≤ x ∧
                      x < (↑k21 : Int)) ∧
                     Sx.adr p7 (fun k23 =>
                      (fun k24 =>
                      (((0 : Int) ≤ x2 ∧
                       x2 < (↑4 : Int)) ∧
                      ((∃ v : Value, World.cell? W4 (Addr.mk k23 (k24 + Int.toNat x * 13 + 8 + Int.toNat x2 * 1) none) = some v) ∧
                      (World.frozen? W4 (Addr.mk k23 (k24 + Int.toNat x * 13 + 8 + Int.toNat x2 * 1) none) = false ∧
                      (∀ W5 : World, (W5 = World.setCell W4 (Addr.mk k23 (k24 + Int.toNat x * 13 + 8 + Int.toNat x2 * 1) none) (Value.int IntKind.i64 (-1)) →
                      (∀ z3 : Int, (z3 = IntKind.wrap IntKind.i64 (x2 + 1) →
                      (I3 z3 W5 ∧
                      I4 z3 W5 < I4 x2 W4))))))))))))))))
                    ((∀ z4 : Int, (z4 = IntKind.wrap IntKind.i64 (x2 + 1) →
                     (I3 z4 W4 ∧
                     I4 z4 W4 < I4 x2 W4))))))))))))))
                 ((∀ z5 : Int, (z5 = IntKind.wrap IntKind.i64 (x2 + 1) →
                  (I3 z5 W4 ∧
                  I4 z5 W4 < I4 x2 W4)))))))))))))))
              ((∀ z6 : Int, (z6 = IntKind.wrap IntKind.i64 (x + 1) →
               (I z6 W4 ∧
               I2 z6 W4 < I2 x W3))))))))))))
            (Q (Ending.returned (Value.bool true)) W3)))))))))))))))))))))))))))))))))))))))) :
  Calls Tryd.prog 30 #[Value.pointer (some ⟨arg0, arg0o, none⟩)] W Q :=
  Sx.sound Tryd.func30 (.node [] [] 0 .leaf (.node [] [] 0 .leaf (.node [] [] 0 .leaf (.node [] [] 0 .leaf (.node [] [] 0 (.node [] [] 0 .leaf (.node [] [] 0 (.node [(4, .int .i64)] [0, 3] 0 (.node [] [] 0 .leaf (.node [] [] 0 (.node [] [] 0 (.node [] [] 0 .leaf (.node [] [] 0 (.node [(5, .int .i64)] [0, 4, 3] 0 .leaf .leaf) .leaf)) .leaf) .leaf)) .leaf) .leaf)) .leaf))))) [Value.pointer (some ⟨arg0, arg0o, none⟩)] rfl (Eq.mp (by kernel_rfl) hVC)
theorem vc28 {W : World} {Q : Ending → World → Prop} (q : Nat) (qo : Nat) (seq : Int)
  (hVC :
    Calls Tryd.prog 50 #[Value.pointer (some (Addr.mk q qo none))] W (fun e =>
     (fun W2 =>
     (∃ z : Int, (e = Ending.returned (Value.int IntKind.i64 z) ∧
     Sx.split (decide (z < 0))
      (Q (Ending.returned (Value.int IntKind.i64 5)) W2)
      ((∃ p : Option Addr, (∃ k : Nat, (∃ k2 : Nat, (World.cell? W2 (Addr.mk q (qo + 1) none) = some (Value.slice p k k2) ∧
       (((0 : Int) ≤ z ∧
        z < (↑k : Int)) ∧
       Sx.adr p (fun k3 =>
        (fun k4 =>
        (∃ z2 : Int, (World.cell? W2 (Addr.mk k3 (k4 + Int.toNat z * 13) none) = some (Value.int IntKind.i64 z2) ∧
        Sx.split (z2 != seq)
         (Q (Ending.returned (Value.int IntKind.i64 5)) W2)
         ((∃ p2 : Option Addr, (∃ k5 : Nat, (∃ k6 : Nat, (World.cell? W2 (Addr.mk q (qo + 1) none) = some (Value.slice p2 k5 k6) ∧
          (((0 : Int) ≤ z ∧
           z < (↑k5 : Int)) ∧
          Sx.adr p2 (fun k7 =>
           (fun k8 =>
           (∃ vs : Array Value, (Array.size vs = 13 ∧
           (Sx.cellsAt W2 (Addr.mk k7 (k8 + Int.toNat z * 13) none) vs ∧
           (∀ k9 : Nat, (∀ W3 : World, (k9 = Array.size (World.heap W2) →
           (W3 = World.alloc W2 (Obj.cells #[Value.int IntKind.i64 0, Value.bool false, Value.bool false, Value.int IntKind.i64 0, Value.int IntKind.i64 0, Value.bool false, Value.int IntKind.u32 0, Value.bool false, Value.int IntKind.i64 0, Value.int IntKind.i64 0, Value.int IntKind.i64 0, Value.int IntKind.i64 0, Value.bool false] 98) →
           (Array.size vs = 13 ∧
           ((∀ k10 : Nat, (k10 < 13 →
            ((∃ v : Value, World.cell? W3 (Addr.mk k9 (0 + k10) none) = some v) ∧
            World.frozen? W3 (Addr.mk k9 (0 + k10) none) = false))) ∧
           ((∀ v2 : Value, (v2 ∈ Array.toList vs →
            Value.oneCell' v2 = true)) ∧
           (∀ W4 : World, (W4 = World.setCells W3 k9 0 (Array.toList vs) →
           (∃ t : Bool, (World.cell? W4 (Addr.mk k9 (0 + 1) none) = some (Value.bool t) ∧
           Sx.split t
            ((∃ t2 : Bool, (World.cell? W4 (Addr.mk k9 (0 + 2) none) = some (Value.bool t2) ∧
             Sx.split t2
              ((∃ t3 : Bool, (World.cell? W4 (Addr.mk k9 (0 + 5) none) = some (Value.bool t3) ∧
               Sx.split t3
                ((∃ p3 : Option Addr, (∃ k11 : Nat, (∃ k12 : Nat, (World.cell? W4 (Addr.mk q (qo + 1) none) = some (Value.slice p3 k11 k12) ∧
                 (((0 : Int) ≤ z ∧
                  z < (↑k11 : Int)) ∧
                 Sx.adr p3 (fun k13 =>
                  (fun k14 =>
                  ((∃ v3 : Value, World.cell? W4 (Addr.mk k13 (k14 + Int.toNat z * 13 + 12) none) = some v3) ∧
                  (World.frozen? W4 (Addr.mk k13 (k14 + Int.toNat z * 13 + 12) none) = false ∧
                  (∀ W5 : World, (W5 = World.setCell W4 (Addr.mk k13 (k14 + Int.toNat z * 13 + 12) none) (Value.bool true) →
                  Q (Ending.returned (Value.int IntKind.i64 0)) W5))))))))))))
                ((∃ t4 : Bool, (World.cell? W4 (Addr.mk k9 (0 + 1) none) = some (Value.bool t4) ∧
                 Sx.split (!t4)
                  ((∃ t5 : Bool, (World.cell? W4 (Addr.mk k9 (0 + 7) none) = some (Value.bool t5) ∧
                   Sx.split t5
                    (Calls Tryd.prog 51 #[Value.pointer (some (Addr.mk q qo none)), Value.int IntKind.i64 z] W4 (fun e2 =>
                      (fun W6 =>
                      (e2 = Ending.returned (Value.tuple #[]) ∧
                      Q (Ending.returned (Value.int IntKind.i64 0)) W6))))
                    (Q (Ending.returned (Value.int IntKind.i64 7)) W4))))
                  (Q (Ending.returned (Value.int IntKind.i64 7)) W4)))))))
              ((∃ t6 : Bool, (World.cell? W4 (Addr.mk k9 (0 + 1) none) = some (Value.bool t6) ∧
               Sx.split (!t6)
                ((∃ t7 : Bool, (World.cell? W4 (Addr.mk k9 (0 + 7) none) = some (Value.bool t7) ∧
                 Sx.split t7
                  (Calls Tryd.prog 51 #[Value.pointer (some (Addr.mk q qo none)), Value.int IntKind.i64 z] W4 (fun e3 =>
                    (fun W7 =>
                    (e3 = Ending.returned (Value.tuple #[]) ∧
                    Q (Ending.returned (Value.int IntKind.i64 0)) W7))))
                  (Q (Ending.returned (Value.int IntKind.i64 7)) W4))))
                (Q (Ending.returned (Value.int IntKind.i64 7)) W4)))))))
            ((∃ t8 : Bool, (World.cell? W4 (Addr.mk k9 (0 + 1) none) = some (Value.bool t8) ∧
             Sx.split (!t8)
              ((∃ t9 : Bool, (World.cell? W4 (Addr.mk k9 (0 + 7) none) = some (Value.bool t9) ∧
               Sx.split t9
                (Calls Tryd.prog 51 #[Value.pointer (some (Addr.mk q qo none)), Value.int IntKind.i64 z] W4 (fun e4 =>
                  (fun W8 =>
                  (e4 = Ending.returned (Value.tuple #[]) ∧
                  Q (Ending.returned (Value.int IntKind.i64 0)) W8))))
                (Q (Ending.returned (Value.int IntKind.i64 7)) W4))))
              (Q (Ending.returned (Value.int IntKind.i64 7)) W4))))))))))))))))))))))))))))))))))))))))) :
  Calls Tryd.prog 28 #[Value.pointer (some ⟨q, qo, none⟩), Value.int .i64 seq] W Q :=
  Sx.sound Tryd.func28 .leaf [Value.pointer (some ⟨q, qo, none⟩), Value.int .i64 seq] rfl (Eq.mp (by kernel_rfl) hVC)
theorem vc19 {W : World} {Q : Ending → World → Prop} (arg0 : Nat) (arg0o : Nat) (arg1 : Int) (arg2 : Int) (arg3 : Int)
  (hVC :
    Calls Tryd.prog 44 #[Value.pointer (some (Addr.mk arg0 arg0o none)), Value.int IntKind.i64 arg1] W (fun e =>
     (fun W2 =>
     (∃ z : Int, (e = Ending.returned (Value.int IntKind.i64 z) ∧
     (∃ I : World → Prop, (Sx.split (decide (z < 0))
       (Q (Ending.returned (Value.tuple #[Value.int IntKind.i64 (-1), Value.int IntKind.i64 7])) W2)
       ((∃ p : Option Addr, (∃ k : Nat, (∃ k2 : Nat, (World.cell? W2 (Addr.mk arg0 (arg0o + 1) none) = some (Value.slice p k k2) ∧
        (((0 : Int) ≤ z ∧
         z < (↑k : Int)) ∧
        Sx.adr p (fun k3 =>
         (fun k4 =>
         (∃ t : Bool, (World.cell? W2 (Addr.mk k3 (k4 + Int.toNat z * 13 + 2) none) = some (Value.bool t) ∧
         Sx.split t
          (Q (Ending.returned (Value.tuple #[Value.int IntKind.i64 (-1), Value.int IntKind.i64 7])) W2)
          ((∃ p2 : Option Addr, (∃ k5 : Nat, (∃ k6 : Nat, (World.cell? W2 (Addr.mk arg0 (arg0o + 1) none) = some (Value.slice p2 k5 k6) ∧
           (((0 : Int) ≤ z ∧
            z < (↑k5 : Int)) ∧
           Sx.adr p2 (fun k7 =>
            (fun k8 =>
            (∃ t2 : Bool, (World.cell? W2 (Addr.mk k7 (k8 + Int.toNat z * 13 + 12) none) = some (Value.bool t2) ∧
            Sx.split t2
             (Q (Ending.returned (Value.tuple #[Value.int IntKind.i64 (-1), Value.int IntKind.i64 7])) W2)
             (I W2))))))))))))))))))))) ∧
     ((Nat →
     Value) →
     (∀ W3 : World, (I W3 →
     (∃ I2 : World → Prop, (Sx.split (arg3 != 1)
       (Sx.split (arg3 != 2)
         (Sx.split (arg3 != 4)
           (Q (Ending.returned (Value.tuple #[Value.int IntKind.i64 (-1), Value.int IntKind.i64 3])) W3)
           ((arg3 ≠ 0 ∧
            (∀ z2 : Int, (z2 = Int.tmod arg2 arg3 →
            Sx.split (z2 != 0)
             (Q (Ending.returned (Value.tuple #[Value.int IntKind.i64 (-1), Value.int IntKind.i64 3])) W3)
             (I2 W3))))))
         ((arg3 ≠ 0 ∧
          (∀ z3 : Int, (z3 = Int.tmod arg2 arg3 →
          Sx.split (z3 != 0)
           (Q (Ending.returned (Value.tuple #[Value.int IntKind.i64 (-1), Value.int IntKind.i64 3])) W3)
           (I2 W3))))))
       ((arg3 ≠ 0 ∧
        (∀ z4 : Int, (z4 = Int.tmod arg2 arg3 →
        Sx.split (z4 != 0)
         (Q (Ending.returned (Value.tuple #[Value.int IntKind.i64 (-1), Value.int IntKind.i64 3])) W3)
         (I2 W3))))) ∧
     ((Nat →
     Value) →
     (∀ W4 : World, (I2 W4 →
     (∃ p3 : Option Addr, (∃ k9 : Nat, (∃ k10 : Nat, (World.cell? W4 (Addr.mk arg0 (arg0o + 1) none) = some (Value.slice p3 k9 k10) ∧
     (((0 : Int) ≤ z ∧
      z < (↑k9 : Int)) ∧
     Sx.adr p3 (fun k11 =>
      (fun k12 =>
      ((∃ v : Value, World.cell? W4 (Addr.mk k11 (k12 + Int.toNat z * 13 + 2) none) = some v) ∧
      (World.frozen? W4 (Addr.mk k11 (k12 + Int.toNat z * 13 + 2) none) = false ∧
      (∀ W5 : World, (W5 = World.setCell W4 (Addr.mk k11 (k12 + Int.toNat z * 13 + 2) none) (Value.bool true) →
      (∃ p4 : Option Addr, (∃ k13 : Nat, (∃ k14 : Nat, (World.cell? W5 (Addr.mk arg0 (arg0o + 1) none) = some (Value.slice p4 k13 k14) ∧
      (((0 : Int) ≤ z ∧
       z < (↑k13 : Int)) ∧
      Sx.adr p4 (fun k15 =>
       (fun k16 =>
       ((∃ v2 : Value, World.cell? W5 (Addr.mk k15 (k16 + Int.toNat z * 13 + 3) none) = some v2) ∧
       (World.frozen? W5 (Addr.mk k15 (k16 + Int.toNat z * 13 + 3) none) = false ∧
       (∀ W6 : World, (W6 = World.setCell W5 (Addr.mk k15 (k16 + Int.toNat z * 13 + 3) none) (Value.int IntKind.i64 arg2) →
       (∃ p5 : Option Addr, (∃ k17 : Nat, (∃ k18 : Nat, (World.cell? W6 (Addr.mk arg0 (arg0o + 1) none) = some (Value.slice p5 k17 k18) ∧
       (((0 : Int) ≤ z ∧
        z < (↑k17 : Int)) ∧
       Sx.adr p5 (fun k19 =>
        (fun k20 =>
        ((∃ v3 : Value, World.cell? W6 (Addr.mk k19 (k20 + Int.toNat z * 13 + 4) none) = some v3) ∧
        (World.frozen? W6 (Addr.mk k19 (k20 + Int.toNat z * 13 + 4) none) = false ∧
        (∀ W7 : World, (W7 = World.setCell W6 (Addr.mk k19 (k20 + Int.toNat z * 13 + 4) none) (Value.int IntKind.i64 arg3) →
        (∃ p6 : Option Addr, (∃ k21 : Nat, (∃ k22 : Nat, (World.cell? W7 (Addr.mk arg0 (arg0o + 1) none) = some (Value.slice p6 k21 k22) ∧
        (((0 : Int) ≤ z ∧
         z < (↑k21 : Int)) ∧
        Sx.adr p6 (fun k23 =>
         (fun k24 =>
         (∃ t3 : Bool, (World.cell? W7 (Addr.mk k23 (k24 + Int.toNat z * 13 + 1) none) = some (Value.bool t3) ∧
         Sx.split (!t3)
          (Q (Ending.returned (Value.tuple #[Value.int IntKind.i64 (-1), Value.int IntKind.i64 0])) W7)
          ((∀ z5 : Int, (z5 = IntKind.wrap IntKind.i64 (z + 1) →
           (∃ I3 : Int → World → Prop, (∃ I4 : Int → World → Nat, (I3 z5 W7 ∧
           ((Nat →
           Value) →
           (∀ x : Int, (∀ W8 : World, (I3 x W8 →
           (∃ p7 : Option Addr, (∃ k25 : Nat, (∃ k26 : Nat, (World.cell? W8 (Addr.mk arg0 (arg0o + 1) none) = some (Value.slice p7 k25 k26) ∧
           Sx.split (decide (x < (↑k25 : Int)))
            ((∃ p8 : Option Addr, (∃ k27 : Nat, (∃ k28 : Nat, (World.cell? W8 (Addr.mk arg0 (arg0o + 1) none) = some (Value.slice p8 k27 k28) ∧
             (((0 : Int) ≤ x ∧
              x < (↑k27 : Int)) ∧
             Sx.adr p8 (fun k29 =>
              (fun k30 =>
              (∃ vs : Array Value, (Array.size vs = 13 ∧
              (Sx.cellsAt W8 (Addr.mk k29 (k30 + Int.toNat x * 13) none) vs ∧
              (∀ k31 : Nat, (∀ W9 : World, (k31 = Array.size (World.heap W8) →
              (W9 = World.alloc W8 (Obj.cells #[Value.int IntKind.i64 0, Value.bool false, Value.bool false, Value.int IntKind.i64 0, Value.int IntKind.i64 0, Value.bool false, Value.int IntKind.u32 0, Value.bool false, Value.int IntKind.i64 0, Value.int IntKind.i64 0, Value.int IntKind.i64 0, Value.int IntKind.i64 0, Value.bool false] 98) →
              (Array.size vs = 13 ∧
              ((∀ k32 : Nat, (k32 < 13 →
               ((∃ v4 : Value, World.cell? W9 (Addr.mk k31 (0 + k32) none) = some v4) ∧
               World.frozen? W9 (Addr.mk k31 (0 + k32) none) = false))) ∧
              ((∀ v5 : Value, (v5 ∈ Array.toList vs →
               Value.oneCell' v5 = true)) ∧
              (∀ W10 : World, (W10 = World.setCells W9 k31 0 (Array.toList vs) →
              (∃ I5 : Int → World → Prop, (∃ I6 : Int → World → Nat, (I5 0 W10 ∧
              ((Nat →
              Value) →
              (∀ x2 : Int, (∀ W11 : World, (I5 x2 W11 →
              (∃ z6 : Int, (World.cell? W11 (Addr.mk k31 (0 + 4) none) = some (Value.int IntKind.i64 z6) ∧
              Sx.split (decide (x2 < z6))
               ((∃ t4 : Bool, (World.cell? W11 (Addr.mk k31 (0 + 7) none) = some (Value.bool t4) ∧
                Sx.split t4
                 ((∃ z7 : Int, (World.cell? W11 (Addr.mk k31 (0 + 3) none) = some (Value.int IntKind.i64 z7) ∧
                  (∀ z8 : Int, (z8 = IntKind.wrap IntKind.i64 (z7 + x2) →
                  Sx.split (decide (z8 ≥ arg2))
                   ((∀ z9 : Int, (z9 = IntKind.wrap IntKind.i64 (arg2 + arg3) →
                    Sx.split (decide (z8 < z9))
                     ((((0 : Int) ≤ x2 ∧
                       x2 < (↑4 : Int)) ∧
                      (∃ z10 : Int, (World.cell? W11 (Addr.mk k31 (0 + 8 + Int.toNat x2 * 1) none) = some (Value.int IntKind.i64 z10) ∧
                      Sx.split (decide (z10 < arg1))
                       ((∃ z11 : Int, (World.cell? W11 (Addr.mk k31 0 none) = some (Value.int IntKind.i64 z11) ∧
                        Q (Ending.returned (Value.tuple #[Value.int IntKind.i64 z11, Value.int IntKind.i64 0])) W11)))
                       ((∀ z12 : Int, (z12 = IntKind.wrap IntKind.i64 (x2 + 1) →
                        (I5 z12 W11 ∧
                        I6 z12 W11 < I6 x2 W11))))))))
                     ((∀ z13 : Int, (z13 = IntKind.wrap IntKind.i64 (x2 + 1) →
                      (I5 z13 W11 ∧
                      I6 z13 W11 < I6 x2 W11)))))))
                   ((∀ z14 : Int, (z14 = IntKind.wrap IntKind.i64 (x2 + 1) →
                    (I5 z14 W11 ∧
                    I6 z14 W11 < I6 x2 W11)))))))))
                 ((∀ z15 : Int, (z15 = IntKind.wrap IntKind.i64 (x + 1) →
                  (I3 z15 W11 ∧
                  I4 z15 W11 < I4 x W8)))))))
               ((∀ z16 : Int, (z16 = IntKind.wrap IntKind.i64 (x + 1) →
                (I3 z16 W11 ∧
                I4 z16 W11 < I4 x W8)))))))))))))))))))))))))))))))))
            (Q (Ending.returned (Value.tuple #[Value.int IntKind.i64 (-1), Value.int IntKind.i64 0])) W8)))))))))))))))))))))))))))))))))))))))))))))))))))))))))))))))))))))))) :
  Calls Tryd.prog 19 #[Value.pointer (some ⟨arg0, arg0o, none⟩), Value.int .i64 arg1, Value.int .i64 arg2, Value.int .i64 arg3] W Q :=
  Sx.sound Tryd.func19 (.node [] [] 0 .leaf (.node [] [] 0 .leaf (.node [] [3, 2, 0, 10, 1] 1 .leaf (.node [] [0, 10, 2, 3, 1] 1 .leaf (.node [] [] 0 .leaf (.node [] [] 0 .leaf (.node [] [] 0 .leaf (.node [] [] 0 .leaf (.node [] [] 0 (.node [] [] 0 .leaf (.node [] [] 0 (.node [(11, .int .i64)] [0, 2, 3, 1] 0 (.node [] [] 0 .leaf (.node [] [] 0 (.node [] [] 0 (.node [] [] 0 .leaf (.node [] [] 0 .leaf (.node [] [] 0 (.node [(13, .int .i64)] [12, 2, 3, 1, 11, 0] 0 .leaf .leaf) .leaf))) .leaf) .leaf)) .leaf) .leaf)) .leaf))))))))) [Value.pointer (some ⟨arg0, arg0o, none⟩), Value.int .i64 arg1, Value.int .i64 arg2, Value.int .i64 arg3] rfl (Eq.mp (by kernel_rfl) hVC)
theorem vc26 {W : World} {Q : Ending → World → Prop} (arg0 : Nat) (arg0o : Nat) (arg1 : Int)
  (hVC :
    Calls Tryd.prog 44 #[Value.pointer (some (Addr.mk arg0 arg0o none)), Value.int IntKind.i64 arg1] W (fun e =>
     (fun W2 =>
     (∃ z : Int, (e = Ending.returned (Value.int IntKind.i64 z) ∧
     Calls Tryd.prog 23 #[Value.pointer (some (Addr.mk arg0 arg0o none)), Value.int IntKind.i64 arg1, Value.bool true] W2 (fun e2 =>
      (fun W3 =>
      (∃ vs : Array Value, (∃ z2 : Int, (e2 = Ending.returned (Value.tuple #[Value.agg vs, Value.int IntKind.i64 z2]) ∧
      (∀ k : Nat, (∀ W4 : World, (k = Array.size (World.heap W3) →
      (W4 = World.alloc W3 (Obj.cells #[Value.bool false, Value.int IntKind.i64 0, Value.int IntKind.u32 0] 66) →
      (Array.size vs = 3 ∧
      ((∀ k2 : Nat, (k2 < 3 →
       ((∃ v : Value, World.cell? W4 (Addr.mk k (0 + k2) none) = some v) ∧
       World.frozen? W4 (Addr.mk k (0 + k2) none) = false))) ∧
      ((∀ v2 : Value, (v2 ∈ Array.toList vs →
       Value.oneCell' v2 = true)) ∧
      (∀ W5 : World, (W5 = World.setCells W4 k 0 (Array.toList vs) →
      Sx.split (z2 != 0)
       (Q (Ending.returned (Value.int IntKind.i64 7)) W5)
       ((∃ t : Bool, (World.cell? W5 (Addr.mk k 0 none) = some (Value.bool t) ∧
        Sx.split t
         (Q (Ending.returned (Value.int IntKind.i64 7)) W5)
         ((∃ p : Option Addr, (∃ k3 : Nat, (∃ k4 : Nat, (World.cell? W5 (Addr.mk arg0 (arg0o + 1) none) = some (Value.slice p k3 k4) ∧
          (((0 : Int) ≤ z ∧
           z < (↑k3 : Int)) ∧
          Sx.adr p (fun k5 =>
           (fun k6 =>
           (∃ t2 : Bool, (World.cell? W5 (Addr.mk k5 (k6 + Int.toNat z * 13 + 7) none) = some (Value.bool t2) ∧
           Sx.split t2
            (Q (Ending.returned (Value.int IntKind.i64 7)) W5)
            ((∃ I : Int → World → Prop, (∃ I2 : Int → World → Nat, (I 0 W5 ∧
             ((Nat →
             Value) →
             (∀ x : Int, (∀ W6 : World, (I x W6 →
             Sx.split (decide (x < 4))
              ((∃ p2 : Option Addr, (∃ k7 : Nat, (∃ k8 : Nat, (World.cell? W6 (Addr.mk arg0 (arg0o + 1) none) = some (Value.slice p2 k7 k8) ∧
               (((0 : Int) ≤ z ∧
                z < (↑k7 : Int)) ∧
               Sx.adr p2 (fun k9 =>
                (fun k10 =>
                (((0 : Int) ≤ x ∧
                 x < (↑4 : Int)) ∧
                ((∃ v3 : Value, World.cell? W6 (Addr.mk k9 (k10 + Int.toNat z * 13 + 8 + Int.toNat x * 1) none) = some v3) ∧
                (World.frozen? W6 (Addr.mk k9 (k10 + Int.toNat z * 13 + 8 + Int.toNat x * 1) none) = false ∧
                (∀ W7 : World, (W7 = World.setCell W6 (Addr.mk k9 (k10 + Int.toNat z * 13 + 8 + Int.toNat x * 1) none) (Value.int IntKind.i64 (-1)) →
                (∃ p3 : Option Addr, (∃ k11 : Nat, (∃ k12 : Nat, (World.cell? W7 (Addr.mk arg0 (arg0o + 1) none) = some (Value.slice p3 k11 k12) ∧
                (((0 : Int) ≤ z ∧
                 z < (↑k11 : Int)) ∧
                Sx.adr p3 (fun k13 =>
                 (fun k14 =>
                 (∃ z3 : Int, (World.cell? W7 (Addr.mk k13 (k14 + Int.toNat z * 13 + 3) none) = some (Value.int IntKind.i64 z3) ∧
                 (∀ z4 : Int, (z4 = IntKind.wrap IntKind.i64 (z3 + x) →
                 Calls Tryd.prog 49 #[Value.pointer (some (Addr.mk arg0 arg0o none)), Value.int IntKind.i64 z, Value.int IntKind.i64 z4] W7 (fun e3 =>
                  (fun W8 =>
                  (∃ z5 : Int, (e3 = Ending.returned (Value.int IntKind.i64 z5) ∧
                  Sx.split (decide (z5 ≥ 0))
                   ((∀ W9 : World, (W9 = World.drew W8 →
                    (∃ p4 : Option Addr, (∃ k15 : Nat, (∃ k16 : Nat, (World.cell? W9 (Addr.mk arg0 (arg0o + 1) none) = some (Value.slice p4 k15 k16) ∧
                    (∃ p5 : Option Addr, (∃ k17 : Nat, (∃ k18 : Nat, (World.cell? W9 (Addr.mk arg0 (arg0o + 1) none) = some (Value.slice p5 k17 k18) ∧
                    (((0 : Int) ≤ z5 ∧
                     z5 < (↑k17 : Int)) ∧
                    Sx.adr p5 (fun k19 =>
                     (fun k20 =>
                     (∃ z6 : Int, (World.cell? W9 (Addr.mk k19 (k20 + Int.toNat z5 * 13) none) = some (Value.int IntKind.i64 z6) ∧
                     (((0 : Int) ≤ z ∧
                      z < (↑k15 : Int)) ∧
                     Sx.adr p4 (fun k21 =>
                      (fun k22 =>
                      (((0 : Int) ≤ x ∧
                       x < (↑4 : Int)) ∧
                      ((∃ v4 : Value, World.cell? W9 (Addr.mk k21 (k22 + Int.toNat z * 13 + 8 + Int.toNat x * 1) none) = some v4) ∧
                      (World.frozen? W9 (Addr.mk k21 (k22 + Int.toNat z * 13 + 8 + Int.toNat x * 1) none) = false ∧
                      (∀ W10 : World, (W10 = World.setCell W9 (Addr.mk k21 (k22 + Int.toNat z * 13 + 8 + Int.toNat x * 1) none) (Value.int IntKind.i64 z6) →
                      (∀ z7 : Int, (z7 = IntKind.wrap IntKind.i64 (x + 1) →
                      (I z7 W10 ∧
                      I2 z7 W10 < I2 x W6)))))))))))))))))))))))))))
                   ((∀ z8 : Int, (z8 = IntKind.wrap IntKind.i64 (x + 1) →
                    (I z8 W8 ∧
                    I2 z8 W8 < I2 x W6))))))))))))))))))))))))))))))))
              ((∃ p6 : Option Addr, (∃ k23 : Nat, (∃ k24 : Nat, (World.cell? W6 (Addr.mk arg0 (arg0o + 1) none) = some (Value.slice p6 k23 k24) ∧
               (((0 : Int) ≤ z ∧
                z < (↑k23 : Int)) ∧
               Sx.adr p6 (fun k25 =>
                (fun k26 =>
                ((∃ v5 : Value, World.cell? W6 (Addr.mk k25 (k26 + Int.toNat z * 13 + 7) none) = some v5) ∧
                (World.frozen? W6 (Addr.mk k25 (k26 + Int.toNat z * 13 + 7) none) = false ∧
                (∀ W11 : World, (W11 = World.setCell W6 (Addr.mk k25 (k26 + Int.toNat z * 13 + 7) none) (Value.bool true) →
                Q (Ending.returned (Value.int IntKind.i64 0)) W11)))))))))))))))))))))))))))))))))))))))))))))))))))) :
  Calls Tryd.prog 26 #[Value.pointer (some ⟨arg0, arg0o, none⟩), Value.int .i64 arg1] W Q :=
  Sx.sound Tryd.func26 (.node [] [] 0 .leaf (.node [] [] 0 .leaf (.node [] [] 0 .leaf (.node [] [] 0 .leaf (.node [] [] 0 (.node [] [] 0 .leaf (.node [] [] 0 (.node [(8, .int .i64)] [0, 5] 0 (.node [] [] 0 .leaf (.node [] [] 0 (.node [] [] 0 (.node [] [] 0 .leaf (.node [] [] 0 .leaf (.node [] [] 0 .leaf (.node [] [] 0 (.node [] [] 18 .leaf .leaf) .leaf)))) .leaf) .leaf)) .leaf) .leaf)) .leaf))))) [Value.pointer (some ⟨arg0, arg0o, none⟩), Value.int .i64 arg1] rfl (Eq.mp (by kernel_rfl) hVC)
theorem vc23 {W : World} {Q : Ending → World → Prop} (arg0 : Nat) (arg0o : Nat) (arg1 : Int) (arg2 : Bool)
  (hVC :
    (∀ k : Nat, (∀ W2 : World, (k = Array.size (World.heap W) →
    (W2 = World.alloc W (Obj.cells #[Value.bool false, Value.int IntKind.i64 0, Value.int IntKind.u32 0] 66) →
    Calls Tryd.prog 44 #[Value.pointer (some (Addr.mk arg0 arg0o none)), Value.int IntKind.i64 arg1] W2 (fun e =>
     (fun W3 =>
     (∃ z : Int, (e = Ending.returned (Value.int IntKind.i64 z) ∧
     (∃ I : World → Prop, (Sx.split (decide (z < 0))
       ((∀ vs : Array Value, (vs = #[Value.bool false, Value.int IntKind.i64 0, Value.int IntKind.u32 0] →
        (Array.size vs = 3 ∧
        ((∀ k2 : Nat, (k2 < 3 →
         ((∃ v : Value, World.cell? W3 (Addr.mk k (0 + k2) none) = some v) ∧
         World.frozen? W3 (Addr.mk k (0 + k2) none) = false))) ∧
        ((∀ v2 : Value, (v2 ∈ Array.toList vs →
         Value.oneCell' v2 = true)) ∧
        (∀ W4 : World, (W4 = World.setCells W3 k 0 (Array.toList vs) →
        (∃ vs2 : Array Value, (Array.size vs2 = 3 ∧
        (Sx.cellsAt W4 (Addr.mk k 0 none) vs2 ∧
        Q (Ending.returned (Value.tuple #[Value.agg vs2, Value.int IntKind.i64 7])) W4)))))))))))
       ((∃ p : Option Addr, (∃ k3 : Nat, (∃ k4 : Nat, (World.cell? W3 (Addr.mk arg0 (arg0o + 1) none) = some (Value.slice p k3 k4) ∧
        (((0 : Int) ≤ z ∧
         z < (↑k3 : Int)) ∧
        Sx.adr p (fun k5 =>
         (fun k6 =>
         (∃ t : Bool, (World.cell? W3 (Addr.mk k5 (k6 + Int.toNat z * 13 + 1) none) = some (Value.bool t) ∧
         Sx.split t
          ((∀ vs3 : Array Value, (vs3 = #[Value.bool false, Value.int IntKind.i64 0, Value.int IntKind.u32 0] →
           (Array.size vs3 = 3 ∧
           ((∀ k7 : Nat, (k7 < 3 →
            ((∃ v3 : Value, World.cell? W3 (Addr.mk k (0 + k7) none) = some v3) ∧
            World.frozen? W3 (Addr.mk k (0 + k7) none) = false))) ∧
           ((∀ v4 : Value, (v4 ∈ Array.toList vs3 →
            Value.oneCell' v4 = true)) ∧
           (∀ W5 : World, (W5 = World.setCells W3 k 0 (Array.toList vs3) →
           (∃ vs4 : Array Value, (Array.size vs4 = 3 ∧
           (Sx.cellsAt W5 (Addr.mk k 0 none) vs4 ∧
           Q (Ending.returned (Value.tuple #[Value.agg vs4, Value.int IntKind.i64 7])) W5)))))))))))
          ((∃ p2 : Option Addr, (∃ k8 : Nat, (∃ k9 : Nat, (World.cell? W3 (Addr.mk arg0 (arg0o + 1) none) = some (Value.slice p2 k8 k9) ∧
           (((0 : Int) ≤ z ∧
            z < (↑k8 : Int)) ∧
           Sx.adr p2 (fun k10 =>
            (fun k11 =>
            (∃ t2 : Bool, (World.cell? W3 (Addr.mk k10 (k11 + Int.toNat z * 13 + 2) none) = some (Value.bool t2) ∧
            Sx.split (!t2)
             ((∀ vs5 : Array Value, (vs5 = #[Value.bool false, Value.int IntKind.i64 0, Value.int IntKind.u32 0] →
              (Array.size vs5 = 3 ∧
              ((∀ k12 : Nat, (k12 < 3 →
               ((∃ v5 : Value, World.cell? W3 (Addr.mk k (0 + k12) none) = some v5) ∧
               World.frozen? W3 (Addr.mk k (0 + k12) none) = false))) ∧
              ((∀ v6 : Value, (v6 ∈ Array.toList vs5 →
               Value.oneCell' v6 = true)) ∧
              (∀ W6 : World, (W6 = World.setCells W3 k 0 (Array.toList vs5) →
              (∃ vs6 : Array Value, (Array.size vs6 = 3 ∧
              (Sx.cellsAt W6 (Addr.mk k 0 none) vs6 ∧
              Q (Ending.returned (Value.tuple #[Value.agg vs6, Value.int IntKind.i64 7])) W6)))))))))))
             (I W3))))))))))))))))))))) ∧
     ((Nat →
     Value) →
     (∀ W7 : World, (I W7 →
     (∀ k13 : Nat, (∀ W8 : World, (k13 = Array.size (World.heap W7) →
     (W8 = World.alloc W7 (Obj.cells #[Value.bool false, Value.int IntKind.i64 0, Value.int IntKind.u32 0] 66) →
     (∃ I2 : Int → World → Prop, (∃ I3 : Int → World → Nat, (I2 0 W8 ∧
     ((Nat →
     Value) →
     (∀ x : Int, (∀ W9 : World, (I2 x W9 →
     Sx.split (decide (x < z))
      ((∃ I4 : World → Prop, ((∃ p3 : Option Addr, (∃ k14 : Nat, (∃ k15 : Nat, (World.cell? W9 (Addr.mk arg0 (arg0o + 1) none) = some (Value.slice p3 k14 k15) ∧
        (((0 : Int) ≤ x ∧
         x < (↑k14 : Int)) ∧
        Sx.adr p3 (fun k16 =>
         (fun k17 =>
         (∃ t3 : Bool, (World.cell? W9 (Addr.mk k16 (k17 + Int.toNat x * 13 + 1) none) = some (Value.bool t3) ∧
         Sx.split t3
          ((∃ p4 : Option Addr, (∃ k18 : Nat, (∃ k19 : Nat, (World.cell? W9 (Addr.mk arg0 (arg0o + 1) none) = some (Value.slice p4 k18 k19) ∧
           (((0 : Int) ≤ x ∧
            x < (↑k18 : Int)) ∧
           Sx.adr p4 (fun k20 =>
            (fun k21 =>
            (∃ t4 : Bool, (World.cell? W9 (Addr.mk k20 (k21 + Int.toNat x * 13 + 2) none) = some (Value.bool t4) ∧
            Sx.split (!t4)
             (Sx.split (!arg2)
               ((∀ vs7 : Array Value, (vs7 = #[Value.bool true, Value.int IntKind.i64 0, Value.int IntKind.u32 0] →
                (Array.size vs7 = 3 ∧
                ((∀ k22 : Nat, (k22 < 3 →
                 ((∃ v7 : Value, World.cell? W9 (Addr.mk k (0 + k22) none) = some v7) ∧
                 World.frozen? W9 (Addr.mk k (0 + k22) none) = false))) ∧
                ((∀ v8 : Value, (v8 ∈ Array.toList vs7 →
                 Value.oneCell' v8 = true)) ∧
                (∀ W10 : World, (W10 = World.setCells W9 k 0 (Array.toList vs7) →
                (∃ vs8 : Array Value, (Array.size vs8 = 3 ∧
                (Sx.cellsAt W10 (Addr.mk k 0 none) vs8 ∧
                Q (Ending.returned (Value.tuple #[Value.agg vs8, Value.int IntKind.i64 0])) W10)))))))))))
               (I4 W9))
             (I4 W9)))))))))))
          (I4 W9)))))))))) ∧
       ((Nat →
       Value) →
       (∀ W11 : World, (I4 W11 →
       (∀ z2 : Int, (z2 = IntKind.wrap IntKind.i64 (x + 1) →
       (I2 z2 W11 ∧
       I3 z2 W11 < I3 x W9)))))))))
      ((∃ I5 : Int → World → Prop, (∃ I6 : Int → World → Nat, (I5 0 W9 ∧
       ((Nat →
       Value) →
       (∀ x2 : Int, (∀ W12 : World, (I5 x2 W12 →
       (∃ p5 : Option Addr, (∃ k23 : Nat, (∃ k24 : Nat, (World.cell? W12 (Addr.mk arg0 (arg0o + 1) none) = some (Value.slice p5 k23 k24) ∧
       (((0 : Int) ≤ z ∧
        z < (↑k23 : Int)) ∧
       Sx.adr p5 (fun k25 =>
        (fun k26 =>
        (∃ z3 : Int, (World.cell? W12 (Addr.mk k25 (k26 + Int.toNat z * 13 + 4) none) = some (Value.int IntKind.i64 z3) ∧
        Sx.split (decide (x2 < z3))
         ((∃ p6 : Option Addr, (∃ k27 : Nat, (∃ k28 : Nat, (World.cell? W12 (Addr.mk arg0 (arg0o + 1) none) = some (Value.slice p6 k27 k28) ∧
          (((0 : Int) ≤ z ∧
           z < (↑k27 : Int)) ∧
          Sx.adr p6 (fun k29 =>
           (fun k30 =>
           (∃ z4 : Int, (World.cell? W12 (Addr.mk k29 (k30 + Int.toNat z * 13 + 3) none) = some (Value.int IntKind.i64 z4) ∧
           (∀ z5 : Int, (z5 = IntKind.wrap IntKind.i64 (z4 + x2) →
           Calls Tryd.prog 49 #[Value.pointer (some (Addr.mk arg0 arg0o none)), Value.int IntKind.i64 z, Value.int IntKind.i64 z5] W12 (fun e2 =>
            (fun W13 =>
            (∃ z6 : Int, (e2 = Ending.returned (Value.int IntKind.i64 z6) ∧
            Sx.split (decide (z6 < 0))
             ((∀ z7 : Int, (z7 = IntKind.wrap IntKind.i64 (x2 + 1) →
              (I5 z7 W13 ∧
              I6 z7 W13 < I6 x2 W12))))
             ((∃ p7 : Option Addr, (∃ k31 : Nat, (∃ k32 : Nat, (World.cell? W13 (Addr.mk arg0 (arg0o + 1) none) = some (Value.slice p7 k31 k32) ∧
              (((0 : Int) ≤ z6 ∧
               z6 < (↑k31 : Int)) ∧
              Sx.adr p7 (fun k33 =>
               (fun k34 =>
               (∃ vs9 : Array Value, (Array.size vs9 = 13 ∧
               (Sx.cellsAt W13 (Addr.mk k33 (k34 + Int.toNat z6 * 13) none) vs9 ∧
               (∀ k35 : Nat, (∀ W14 : World, (k35 = Array.size (World.heap W13) →
               (W14 = World.alloc W13 (Obj.cells #[Value.int IntKind.i64 0, Value.bool false, Value.bool false, Value.int IntKind.i64 0, Value.int IntKind.i64 0, Value.bool false, Value.int IntKind.u32 0, Value.bool false, Value.int IntKind.i64 0, Value.int IntKind.i64 0, Value.int IntKind.i64 0, Value.int IntKind.i64 0, Value.bool false] 98) →
               (Array.size vs9 = 13 ∧
               ((∀ k36 : Nat, (k36 < 13 →
                ((∃ v9 : Value, World.cell? W14 (Addr.mk k35 (0 + k36) none) = some v9) ∧
                World.frozen? W14 (Addr.mk k35 (0 + k36) none) = false))) ∧
               ((∀ v10 : Value, (v10 ∈ Array.toList vs9 →
                Value.oneCell' v10 = true)) ∧
               (∀ W15 : World, (W15 = World.setCells W14 k35 0 (Array.toList vs9) →
               (∃ t5 : Bool, (World.cell? W15 (Addr.mk k35 (0 + 5) none) = some (Value.bool t5) ∧
               Sx.split (!t5)
                ((∀ vs10 : Array Value, (vs10 = #[Value.bool true, Value.int IntKind.i64 0, Value.int IntKind.u32 0] →
                 (Array.size vs10 = 3 ∧
                 ((∀ k37 : Nat, (k37 < 3 →
                  ((∃ v11 : Value, World.cell? W15 (Addr.mk k (0 + k37) none) = some v11) ∧
                  World.frozen? W15 (Addr.mk k (0 + k37) none) = false))) ∧
                 ((∀ v12 : Value, (v12 ∈ Array.toList vs10 →
                  Value.oneCell' v12 = true)) ∧
                 (∀ W16 : World, (W16 = World.setCells W15 k 0 (Array.toList vs10) →
                 (∃ vs11 : Array Value, (Array.size vs11 = 3 ∧
                 (Sx.cellsAt W16 (Addr.mk k 0 none) vs11 ∧
                 Q (Ending.returned (Value.tuple #[Value.agg vs11, Value.int IntKind.i64 0])) W16)))))))))))
                ((∀ W17 : World, (W17 = World.drew W15 →
                 (∃ z8 : Int, (World.cell? W17 (Addr.mk k13 (0 + 1) none) = some (Value.int IntKind.i64 z8) ∧
                 ((0 : Int) ≤ x2 ∧
                 (∀ z9 : Int, (z9 = IntKind.wrap IntKind.i64 (1 * 2 ^ min (Int.toNat x2) (IntKind.bits IntKind.i64)) →
                 (∀ z10 : Int, (z10 = IntKind.wrap IntKind.i64 (↑(BitVec.toNat (BitVec.ofInt (IntKind.bits IntKind.i64) z8 ||| BitVec.ofInt (IntKind.bits IntKind.i64) z9)) : Int) →
                 ((∃ v13 : Value, World.cell? W17 (Addr.mk k13 (0 + 1) none) = some v13) ∧
                 (World.frozen? W17 (Addr.mk k13 (0 + 1) none) = false ∧
                 (∀ W18 : World, (W18 = World.setCell W17 (Addr.mk k13 (0 + 1) none) (Value.int IntKind.i64 z10) →
                 (∀ W19 : World, (W19 = World.drew W18 →
                 (∃ z11 : Int, (World.cell? W19 (Addr.mk k13 (0 + 2) none) = some (Value.int IntKind.u32 z11) ∧
                 (∃ z12 : Int, (World.cell? W19 (Addr.mk k35 (0 + 6) none) = some (Value.int IntKind.u32 z12) ∧
                 (∃ z13 : Int, (World.cell? W19 (Addr.mk k35 (0 + 3) none) = some (Value.int IntKind.i64 z13) ∧
                 (∀ z14 : Int, (z14 = IntKind.wrap IntKind.i64 (z5 - z13) →
                 (∀ z15 : Int, (z15 = IntKind.wrap IntKind.i64 (8 * z14) →
                 ((0 : Int) ≤ z15 ∧
                 (∀ z16 : Int, (z16 = Int.fdiv z12 (2 ^ min (Int.toNat z15) (IntKind.bits IntKind.u32)) →
                 (∀ z17 : Int, (z17 = IntKind.wrap IntKind.u32 (↑(BitVec.toNat (BitVec.ofInt (IntKind.bits IntKind.u32) z16 &&& BitVec.ofInt (IntKind.bits IntKind.u32) 255)) : Int) →
                 (∀ z18 : Int, (z18 = IntKind.wrap IntKind.i64 (8 * x2) →
                 ((0 : Int) ≤ z18 ∧
                 (∀ z19 : Int, (z19 = IntKind.wrap IntKind.u32 (z17 * 2 ^ min (Int.toNat z18) (IntKind.bits IntKind.u32)) →
                 (∀ z20 : Int, (z20 = IntKind.wrap IntKind.u32 (↑(BitVec.toNat (BitVec.ofInt (IntKind.bits IntKind.u32) z11 ||| BitVec.ofInt (IntKind.bits IntKind.u32) z19)) : Int) →
                 ((∃ v14 : Value, World.cell? W19 (Addr.mk k13 (0 + 2) none) = some v14) ∧
                 (World.frozen? W19 (Addr.mk k13 (0 + 2) none) = false ∧
                 (∀ W20 : World, (W20 = World.setCell W19 (Addr.mk k13 (0 + 2) none) (Value.int IntKind.u32 z20) →
                 (∀ z21 : Int, (z21 = IntKind.wrap IntKind.i64 (x2 + 1) →
                 (I5 z21 W20 ∧
                 I6 z21 W20 < I6 x2 W12)))))))))))))))))))))))))))))))))))))))))))))))))))))))))))))))))))))))))))))))))))
         ((∃ vs12 : Array Value, (Array.size vs12 = 3 ∧
          (Sx.cellsAt W12 (Addr.mk k13 0 none) vs12 ∧
          (Array.size vs12 = 3 ∧
          ((∀ k38 : Nat, (k38 < 3 →
           ((∃ v15 : Value, World.cell? W12 (Addr.mk k (0 + k38) none) = some v15) ∧
           World.frozen? W12 (Addr.mk k (0 + k38) none) = false))) ∧
          ((∀ v16 : Value, (v16 ∈ Array.toList vs12 →
           Value.oneCell' v16 = true)) ∧
          (∀ W21 : World, (W21 = World.setCells W12 k 0 (Array.toList vs12) →
          (∃ vs13 : Array Value, (Array.size vs13 = 3 ∧
          (Sx.cellsAt W21 (Addr.mk k 0 none) vs13 ∧
          Q (Ending.returned (Value.tuple #[Value.agg vs13, Value.int IntKind.i64 0])) W21)))))))))))))))))))))))))))))))))))))))))))))))))))))) :
  Calls Tryd.prog 23 #[Value.pointer (some ⟨arg0, arg0o, none⟩), Value.int .i64 arg1, Value.bool arg2] W Q :=
  Sx.sound Tryd.func23 (.node [] [] 0 .leaf (.node [] [] 0 .leaf (.node [] [8, 0, 2, 6] 1 .leaf (.node [] [] 0 .leaf (.node [] [] 0 (.node [] [] 0 .leaf (.node [] [] 0 (.node [(10, .int .i64)] [8, 0, 2, 6, 9] 0 (.node [] [] 0 .leaf (.node [] [10, 8, 0, 2, 6, 9] 1 .leaf .leaf)) .leaf) .leaf)) (.node [] [] 0 (.node [] [] 0 .leaf (.node [] [] 0 (.node [(11, .int .i64)] [0, 8, 6, 9] 0 (.node [] [] 0 .leaf (.node [] [] 0 (.node [] [] 0 (.node [] [] 0 .leaf (.node [] [] 0 .leaf (.node [] [] 0 .leaf (.node [] [] 0 .leaf (.node [] [] 0 .leaf (.node [] [] 0 (.node [] [] 7 .leaf .leaf) (.node [] [] 17 .leaf .leaf))))))) .leaf) .leaf)) .leaf) .leaf)) .leaf)))))) [Value.pointer (some ⟨arg0, arg0o, none⟩), Value.int .i64 arg1, Value.bool arg2] rfl (Eq.mp (by kernel_rfl) hVC)
theorem vc36 {W : World} {Q : Ending → World → Prop} (arg0 : Nat) (arg0o : Nat) (arg1 : Nat) (arg1o : Nat)
  (hVC :
    Calls Tryd.prog 38 #[Value.pointer (some (Addr.mk arg0 arg0o none))] W (fun e =>
     (fun W2 =>
     (∃ vs : Array Value, (∃ t : Bool, (e = Ending.returned (Value.tuple #[Value.agg vs, Value.bool t]) ∧
     (∀ k : Nat, (∀ W3 : World, (k = Array.size (World.heap W2) →
     (W3 = World.alloc W2 (Obj.cells #[Value.int IntKind.u32 0, Value.int IntKind.i64 0, Value.int IntKind.u32 0] 83) →
     (Array.size vs = 3 ∧
     ((∀ k2 : Nat, (k2 < 3 →
      ((∃ v : Value, World.cell? W3 (Addr.mk k (0 + k2) none) = some v) ∧
      World.frozen? W3 (Addr.mk k (0 + k2) none) = false))) ∧
     ((∀ v2 : Value, (v2 ∈ Array.toList vs →
      Value.oneCell' v2 = true)) ∧
     (∀ W4 : World, (W4 = World.setCells W3 k 0 (Array.toList vs) →
     Calls Tryd.prog 7 #[Value.pointer (some (Addr.mk arg0 arg0o none))] W4 (fun e2 =>
      (fun W5 =>
      (∃ z : Int, (e2 = Ending.returned (Value.int IntKind.i64 z) ∧
      (∃ p : Option Addr, (∃ k3 : Nat, (∃ k4 : Nat, (World.cell? W5 (Addr.mk arg1 (arg1o + 1) none) = some (Value.slice p k3 k4) ∧
      Sx.split (z != (↑k3 : Int))
       (Q (Ending.returned (Value.bool false)) W5)
       (Sx.split (decide (z > 0))
         ((∃ p2 : Option Addr, (∃ k5 : Nat, (∃ k6 : Nat, (World.cell? W5 (Addr.mk arg1 (arg1o + 1) none) = some (Value.slice p2 k5 k6) ∧
          (((0 : Int) ≤ (0 : Int) ∧
           (0 : Int) < (↑k5 : Int)) ∧
          Sx.adr p2 (fun k7 =>
           (fun k8 =>
           (∃ t2 : Bool, (World.cell? W5 (Addr.mk k7 (k8 + 0 + 12) none) = some (Value.bool t2) ∧
           Sx.split (!t == t2)
            (Q (Ending.returned (Value.bool false)) W5)
            (Sx.split (!t)
              ((∃ vs2 : Array Value, (Array.size vs2 = 3 ∧
               (Sx.cellsAt W5 (Addr.mk k 0 none) vs2 ∧
               (∀ vs3 : Array Value, (vs3 = #[Value.int IntKind.u32 0, Value.int IntKind.i64 0, Value.int IntKind.u32 0] →
               (∃ t3 : Bool, ((∀ W6 : World, Sem.run Tryd.prog
    (do
      eqGuard BinOp.eql 83 (Operand.tmp 41) (Operand.tmp 42) (Value.agg vs2) (Value.agg vs3)
      binOp BinOp.eql 83 (Value.agg vs2) (Value.agg vs3))
    W6 =
  Result.ok (Value.bool t3) W6) ∧
               Q (Ending.returned (Value.bool t3)) W5))))))))
              ((∃ p3 : Option Addr, (∃ k9 : Nat, (∃ k10 : Nat, (World.cell? W5 (Addr.mk arg1 (arg1o + 1) none) = some (Value.slice p3 k9 k10) ∧
               (((0 : Int) ≤ (0 : Int) ∧
                (0 : Int) < (↑k9 : Int)) ∧
               Sx.adr p3 (fun k11 =>
                (fun k12 =>
                (∃ vs4 : Array Value, (Array.size vs4 = 13 ∧
                (Sx.cellsAt W5 (Addr.mk k11 (k12 + 0) none) vs4 ∧
                (∀ k13 : Nat, (∀ W7 : World, (k13 = Array.size (World.heap W5) →
                (W7 = World.alloc W5 (Obj.cells #[Value.int IntKind.i64 0, Value.bool false, Value.bool false, Value.int IntKind.i64 0, Value.int IntKind.i64 0, Value.bool false, Value.int IntKind.u32 0, Value.bool false, Value.int IntKind.i64 0, Value.int IntKind.i64 0, Value.int IntKind.i64 0, Value.int IntKind.i64 0, Value.bool false] 98) →
                (Array.size vs4 = 13 ∧
                ((∀ k14 : Nat, (k14 < 13 →
                 ((∃ v3 : Value, World.cell? W7 (Addr.mk k13 (0 + k14) none) = some v3) ∧
                 World.frozen? W7 (Addr.mk k13 (0 + k14) none) = false))) ∧
                ((∀ v4 : Value, (v4 ∈ Array.toList vs4 →
                 Value.oneCell' v4 = true)) ∧
                (∀ W8 : World, (W8 = World.setCells W7 k13 0 (Array.toList vs4) →
                (∃ z2 : Int, (World.cell? W8 (Addr.mk k13 (0 + 6) none) = some (Value.int IntKind.u32 z2) ∧
                (∃ z3 : Int, (World.cell? W8 (Addr.mk k13 (0 + 4) none) = some (Value.int IntKind.i64 z3) ∧
                Sx.split (decide (z3 < 4))
                 ((∃ z4 : Int, (World.cell? W8 (Addr.mk k13 (0 + 4) none) = some (Value.int IntKind.i64 z4) ∧
                  (∀ z5 : Int, (z5 = IntKind.wrap IntKind.i64 (8 * z4) →
                  ((0 : Int) ≤ z5 ∧
                  (∀ z6 : Int, (z6 = IntKind.wrap IntKind.u32 (1 * 2 ^ min (Int.toNat z5) (IntKind.bits IntKind.u32)) →
                  (z6 ≠ 0 ∧
                  (∀ z7 : Int, (z7 = Int.tmod z2 z6 →
                  (∃ z8 : Int, (World.cell? W8 (Addr.mk k 0 none) = some (Value.int IntKind.u32 z8) ∧
                  (∀ z9 : Int, (z9 = IntKind.wrap IntKind.i64 z8 →
                  (∃ z10 : Int, (World.cell? W8 (Addr.mk k13 (0 + 3) none) = some (Value.int IntKind.i64 z10) ∧
                  Sx.split (z9 == z10)
                   ((∃ z11 : Int, (World.cell? W8 (Addr.mk k (0 + 1) none) = some (Value.int IntKind.i64 z11) ∧
                    (∃ z12 : Int, (World.cell? W8 (Addr.mk k13 (0 + 4) none) = some (Value.int IntKind.i64 z12) ∧
                    Sx.split (z11 == z12)
                     ((∃ z13 : Int, (World.cell? W8 (Addr.mk k (0 + 2) none) = some (Value.int IntKind.u32 z13) ∧
                      Q (Ending.returned (Value.bool (z13 == z7))) W8)))
                     (Q (Ending.returned (Value.bool false)) W8))))))
                   (Q (Ending.returned (Value.bool false)) W8))))))))))))))))))
                 ((∃ z14 : Int, (World.cell? W8 (Addr.mk k 0 none) = some (Value.int IntKind.u32 z14) ∧
                  (∀ z15 : Int, (z15 = IntKind.wrap IntKind.i64 z14 →
                  (∃ z16 : Int, (World.cell? W8 (Addr.mk k13 (0 + 3) none) = some (Value.int IntKind.i64 z16) ∧
                  Sx.split (z15 == z16)
                   ((∃ z17 : Int, (World.cell? W8 (Addr.mk k (0 + 1) none) = some (Value.int IntKind.i64 z17) ∧
                    (∃ z18 : Int, (World.cell? W8 (Addr.mk k13 (0 + 4) none) = some (Value.int IntKind.i64 z18) ∧
                    Sx.split (z17 == z18)
                     ((∃ z19 : Int, (World.cell? W8 (Addr.mk k (0 + 2) none) = some (Value.int IntKind.u32 z19) ∧
                      Q (Ending.returned (Value.bool (z19 == z2))) W8)))
                     (Q (Ending.returned (Value.bool false)) W8))))))
                   (Q (Ending.returned (Value.bool false)) W8)))))))))))))))))))))))))))))))))))))))))))
         (Sx.split (!t == false)
           (Q (Ending.returned (Value.bool false)) W5)
           (Sx.split (!t)
             ((∃ vs5 : Array Value, (Array.size vs5 = 3 ∧
              (Sx.cellsAt W5 (Addr.mk k 0 none) vs5 ∧
              (∀ vs6 : Array Value, (vs6 = #[Value.int IntKind.u32 0, Value.int IntKind.i64 0, Value.int IntKind.u32 0] →
              (∃ t4 : Bool, ((∀ W9 : World, Sem.run Tryd.prog
    (do
      eqGuard BinOp.eql 83 (Operand.tmp 41) (Operand.tmp 42) (Value.agg vs5) (Value.agg vs6)
      binOp BinOp.eql 83 (Value.agg vs5) (Value.agg vs6))
    W9 =
  Result.ok (Value.bool t4) W9) ∧
              Q (Ending.returned (Value.bool t4)) W5))))))))
             ((∃ p4 : Option Addr, (∃ k15 : Nat, (∃ k16 : Nat, (World.cell? W5 (Addr.mk arg1 (arg1o + 1) none) = some (Value.slice p4 k15 k16) ∧
              (((0 : Int) ≤ (0 : Int) ∧
               (0 : Int) < (↑k15 : Int)) ∧
              Sx.adr p4 (fun k17 =>
               (fun k18 =>
               (∃ vs7 : Array Value, (Array.size vs7 = 13 ∧
               (Sx.cellsAt W5 (Addr.mk k17 (k18 + 0) none) vs7 ∧
               (∀ k19 : Nat, (∀ W10 : World, (k19 = Array.size (World.heap W5) →
               (W10 = World.alloc W5 (Obj.cells #[Value.int IntKind.i64 0, Value.bool false, Value.bool false, Value.int IntKind.i64 0, Value.int IntKind.i64 0, Value.bool false, Value.int IntKind.u32 0, Value.bool false, Value.int IntKind.i64 0, Value.int IntKind.i64 0, Value.int IntKind.i64 0, Value.int IntKind.i64 0, Value.bool false] 98) →
               (Array.size vs7 = 13 ∧
               ((∀ k20 : Nat, (k20 < 13 →
                ((∃ v5 : Value, World.cell? W10 (Addr.mk k19 (0 + k20) none) = some v5) ∧
                World.frozen? W10 (Addr.mk k19 (0 + k20) none) = false))) ∧
               ((∀ v6 : Value, (v6 ∈ Array.toList vs7 →
                Value.oneCell' v6 = true)) ∧
               (∀ W11 : World, (W11 = World.setCells W10 k19 0 (Array.toList vs7) →
               (∃ z20 : Int, (World.cell? W11 (Addr.mk k19 (0 + 6) none) = some (Value.int IntKind.u32 z20) ∧
               (∃ z21 : Int, (World.cell? W11 (Addr.mk k19 (0 + 4) none) = some (Value.int IntKind.i64 z21) ∧
               Sx.split (decide (z21 < 4))
                ((∃ z22 : Int, (World.cell? W11 (Addr.mk k19 (0 + 4) none) = some (Value.int IntKind.i64 z22) ∧
                 (∀ z23 : Int, (z23 = IntKind.wrap IntKind.i64 (8 * z22) →
                 ((0 : Int) ≤ z23 ∧
                 (∀ z24 : Int, (z24 = IntKind.wrap IntKind.u32 (1 * 2 ^ min (Int.toNat z23) (IntKind.bits IntKind.u32)) →
                 (z24 ≠ 0 ∧
                 (∀ z25 : Int, (z25 = Int.tmod z20 z24 →
                 (∃ z26 : Int, (World.cell? W11 (Addr.mk k 0 none) = some (Value.int IntKind.u32 z26) ∧
                 (∀ z27 : Int, (z27 = IntKind.wrap IntKind.i64 z26 →
                 (∃ z28 : Int, (World.cell? W11 (Addr.mk k19 (0 + 3) none) = some (Value.int IntKind.i64 z28) ∧
                 Sx.split (z27 == z28)
                  ((∃ z29 : Int, (World.cell? W11 (Addr.mk k (0 + 1) none) = some (Value.int IntKind.i64 z29) ∧
                   (∃ z30 : Int, (World.cell? W11 (Addr.mk k19 (0 + 4) none) = some (Value.int IntKind.i64 z30) ∧
                   Sx.split (z29 == z30)
                    ((∃ z31 : Int, (World.cell? W11 (Addr.mk k (0 + 2) none) = some (Value.int IntKind.u32 z31) ∧
                     Q (Ending.returned (Value.bool (z31 == z25))) W11)))
                    (Q (Ending.returned (Value.bool false)) W11))))))
                  (Q (Ending.returned (Value.bool false)) W11))))))))))))))))))
                ((∃ z32 : Int, (World.cell? W11 (Addr.mk k 0 none) = some (Value.int IntKind.u32 z32) ∧
                 (∀ z33 : Int, (z33 = IntKind.wrap IntKind.i64 z32 →
                 (∃ z34 : Int, (World.cell? W11 (Addr.mk k19 (0 + 3) none) = some (Value.int IntKind.i64 z34) ∧
                 Sx.split (z33 == z34)
                  ((∃ z35 : Int, (World.cell? W11 (Addr.mk k (0 + 1) none) = some (Value.int IntKind.i64 z35) ∧
                   (∃ z36 : Int, (World.cell? W11 (Addr.mk k19 (0 + 4) none) = some (Value.int IntKind.i64 z36) ∧
                   Sx.split (z35 == z36)
                    ((∃ z37 : Int, (World.cell? W11 (Addr.mk k (0 + 2) none) = some (Value.int IntKind.u32 z37) ∧
                     Q (Ending.returned (Value.bool (z37 == z20))) W11)))
                    (Q (Ending.returned (Value.bool false)) W11))))))
                  (Q (Ending.returned (Value.bool false)) W11)))))))))))))))))))))))))))))))))))))))))))))))))))))))))) :
  Calls Tryd.prog 36 #[Value.pointer (some ⟨arg0, arg0o, none⟩), Value.pointer (some ⟨arg1, arg1o, none⟩)] W Q :=
  Sx.sound Tryd.func36 .leaf [Value.pointer (some ⟨arg0, arg0o, none⟩), Value.pointer (some ⟨arg1, arg1o, none⟩)] rfl (Eq.mp (by kernel_rfl) hVC)
end Go.Proofs.YtngfaiahlblkkaaDoor
