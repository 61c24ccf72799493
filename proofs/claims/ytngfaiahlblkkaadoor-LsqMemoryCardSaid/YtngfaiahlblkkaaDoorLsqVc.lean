/- What each function asks, reckoned out of its text; printed by a program of mine (wip/tpl/VcTool.lean). No condition. -/
import Derived.Test.YtngfaiahlblkkaaDoorSxB
import Derived.Test.YtngfaiahlblkkaaDoorChecked
namespace Go.Proofs.YtngfaiahlblkkaaDoor
open Go Go.Proofs
set_option linter.unusedVariables false
set_option maxRecDepth 100000
theorem vc5 {W : World} {Q : Ending → World → Prop} (size : Int)
  (hVC :
    Sx.split (decide (size < 1))
     (Q (Ending.returned (Value.tuple #[Value.pointer none, Value.iface 73 (Value.int IntKind.i64 2)])) W)
     (Sx.split (decide (size > 32))
       (Q (Ending.returned (Value.tuple #[Value.pointer none, Value.iface 73 (Value.int IntKind.i64 2)])) W)
       ((∀ vs : Array Value, (vs = #[Value.int IntKind.i64 size, Value.slice none 0 0] →
        (∀ k : Nat, (∀ W2 : World, (k = Array.size (World.heap W) →
        (W2 = World.alloc W (Obj.cells (Value.cells (Value.agg vs)) 81) →
        Q (Ending.returned (Value.tuple #[Value.pointer (some (Addr.mk k 0 none)), Value.nilIface])) W2))))))))) :
  Calls Tryd.prog 5 #[Value.int .i64 size] W Q :=
  Sx.sound Tryd.func5 .leaf [Value.int .i64 size] rfl (Eq.mp (by kernel_rfl) hVC)
theorem vc7 {W : World} {Q : Ending → World → Prop} (q : Nat) (qo : Nat)
  (hVC :
    (∃ p : Option Addr, (∃ k : Nat, (∃ k2 : Nat, (World.cell? W (Addr.mk q (qo + 1) none) = some (Value.slice p k k2) ∧
    Q (Ending.returned (Value.int IntKind.i64 (↑k : Int))) W))))) :
  Calls Tryd.prog 7 #[Value.pointer (some ⟨q, qo, none⟩)] W Q :=
  Sx.sound Tryd.func7 .leaf [Value.pointer (some ⟨q, qo, none⟩)] rfl (Eq.mp (by kernel_rfl) hVC)
theorem vc11 {W : World} {Q : Ending → World → Prop} (arg0 : Nat) (arg0o : Nat) (arg1 : Int)
  (hVC :
    (∃ p : Option Addr, (∃ k : Nat, (∃ k2 : Nat, (World.cell? W (Addr.mk arg0 (arg0o + 1) none) = some (Value.slice p k k2) ∧
    Calls Tryd.prog 39 #[Value.slice p k k2, Value.func (Fn.func 40) #[] #[]] W (fun e =>
     (fun W2 =>
     (∃ z : Int, (e = Ending.returned (Value.int IntKind.i64 z) ∧
     Sx.split (decide (z < 0))
      (Q (Ending.returned (Value.iface 73 (Value.int IntKind.i64 5))) W2)
      ((∃ p2 : Option Addr, (∃ k3 : Nat, (∃ k4 : Nat, (World.cell? W2 (Addr.mk arg0 (arg0o + 1) none) = some (Value.slice p2 k3 k4) ∧
       (((0 : Int) ≤ z ∧
        z < (↑k3 : Int)) ∧
       Sx.adr p2 (fun k5 =>
        (fun k6 =>
        (∃ p3 : Option Addr, (World.cell? W2 (Addr.mk k5 (k6 + Int.toNat z * 1) none) = some (Value.pointer p3) ∧
        Sx.ptr p3 (fun a =>
         (∃ z2 : Int, (World.cell? W2 (Addr.add a 0) = some (Value.int IntKind.i64 z2) ∧
         Sx.split (z2 != arg1)
          (Q (Ending.returned (Value.iface 73 (Value.int IntKind.i64 5))) W2)
          ((∃ p4 : Option Addr, (∃ k7 : Nat, (∃ k8 : Nat, (World.cell? W2 (Addr.mk arg0 (arg0o + 1) none) = some (Value.slice p4 k7 k8) ∧
           (((0 : Int) ≤ z ∧
            z < (↑k7 : Int)) ∧
           Sx.adr p4 (fun k9 =>
            (fun k10 =>
            (∃ p5 : Option Addr, (World.cell? W2 (Addr.mk k9 (k10 + Int.toNat z * 1) none) = some (Value.pointer p5) ∧
            Sx.ptr p5 (fun a2 =>
             (∃ t : Bool, (World.cell? W2 (Addr.add a2 1) = some (Value.bool t) ∧
             Sx.split t
              (Sx.ptr p5 (fun a3 =>
                (∃ t2 : Bool, (World.cell? W2 (Addr.add a3 2) = some (Value.bool t2) ∧
                Sx.split t2
                 (Sx.ptr p5 (fun a4 =>
                   (∃ t3 : Bool, (World.cell? W2 (Addr.add a4 3) = some (Value.bool t3) ∧
                   Sx.split t3
                    (Sx.ptr p5 (fun a5 =>
                      ((∃ v : Value, World.cell? W2 (Addr.add a5 12) = some v) ∧
                      (World.frozen? W2 (Addr.add a5 12) = false ∧
                      (∀ W3 : World, (W3 = World.setCell W2 (Addr.add a5 12) (Value.bool true) →
                      Q (Ending.returned Value.nilIface) W3))))))
                    (Sx.ptr p5 (fun a6 =>
                      (∃ t4 : Bool, (World.cell? W2 (Addr.add a6 7) = some (Value.bool t4) ∧
                      Sx.split t4
                       ((∃ p6 : Option Addr, (∃ k11 : Nat, (∃ k12 : Nat, (World.cell? W2 (Addr.mk arg0 (arg0o + 1) none) = some (Value.slice p6 k11 k12) ∧
                        (∀ z3 : Int, (z3 = IntKind.wrap IntKind.i64 (z + 1) →
                        Calls Tryd.prog 41 #[Value.slice p6 k11 k12, Value.int IntKind.i64 z, Value.int IntKind.i64 z3] W2 (fun e2 =>
                         (fun W4 =>
                         (∃ p7 : Option Addr, (∃ k13 : Nat, (∃ k14 : Nat, (e2 = Ending.returned (Value.slice p7 k13 k14) ∧
                         ((∃ v2 : Value, World.cell? W4 (Addr.mk arg0 (arg0o + 1) none) = some v2) ∧
                         (World.frozen? W4 (Addr.mk arg0 (arg0o + 1) none) = false ∧
                         (∀ W5 : World, (W5 = World.setCell W4 (Addr.mk arg0 (arg0o + 1) none) (Value.slice p7 k13 k14) →
                         Q (Ending.returned Value.nilIface) W5)))))))))))))))))
                       (Q (Ending.returned (Value.iface 73 (Value.int IntKind.i64 7))) W2)))))))))
                 (Sx.ptr p5 (fun a7 =>
                   (∃ t5 : Bool, (World.cell? W2 (Addr.add a7 7) = some (Value.bool t5) ∧
                   Sx.split t5
                    ((∃ p8 : Option Addr, (∃ k15 : Nat, (∃ k16 : Nat, (World.cell? W2 (Addr.mk arg0 (arg0o + 1) none) = some (Value.slice p8 k15 k16) ∧
                     (∀ z4 : Int, (z4 = IntKind.wrap IntKind.i64 (z + 1) →
                     Calls Tryd.prog 41 #[Value.slice p8 k15 k16, Value.int IntKind.i64 z, Value.int IntKind.i64 z4] W2 (fun e3 =>
                      (fun W6 =>
                      (∃ p9 : Option Addr, (∃ k17 : Nat, (∃ k18 : Nat, (e3 = Ending.returned (Value.slice p9 k17 k18) ∧
                      ((∃ v3 : Value, World.cell? W6 (Addr.mk arg0 (arg0o + 1) none) = some v3) ∧
                      (World.frozen? W6 (Addr.mk arg0 (arg0o + 1) none) = false ∧
                      (∀ W7 : World, (W7 = World.setCell W6 (Addr.mk arg0 (arg0o + 1) none) (Value.slice p9 k17 k18) →
                      Q (Ending.returned Value.nilIface) W7)))))))))))))))))
                    (Q (Ending.returned (Value.iface 73 (Value.int IntKind.i64 7))) W2)))))))))
              (Sx.ptr p5 (fun a8 =>
                (∃ t6 : Bool, (World.cell? W2 (Addr.add a8 7) = some (Value.bool t6) ∧
                Sx.split t6
                 ((∃ p10 : Option Addr, (∃ k19 : Nat, (∃ k20 : Nat, (World.cell? W2 (Addr.mk arg0 (arg0o + 1) none) = some (Value.slice p10 k19 k20) ∧
                  (∀ z5 : Int, (z5 = IntKind.wrap IntKind.i64 (z + 1) →
                  Calls Tryd.prog 41 #[Value.slice p10 k19 k20, Value.int IntKind.i64 z, Value.int IntKind.i64 z5] W2 (fun e4 =>
                   (fun W8 =>
                   (∃ p11 : Option Addr, (∃ k21 : Nat, (∃ k22 : Nat, (e4 = Ending.returned (Value.slice p11 k21 k22) ∧
                   ((∃ v4 : Value, World.cell? W8 (Addr.mk arg0 (arg0o + 1) none) = some v4) ∧
                   (World.frozen? W8 (Addr.mk arg0 (arg0o + 1) none) = false ∧
                   (∀ W9 : World, (W9 = World.setCell W8 (Addr.mk arg0 (arg0o + 1) none) (Value.slice p11 k21 k22) →
                   Q (Ending.returned Value.nilIface) W9)))))))))))))))))
                 (Q (Ending.returned (Value.iface 73 (Value.int IntKind.i64 7))) W2)))))))))))))))))))))))))))))))))))))))) :
  Calls Tryd.prog 11 #[Value.pointer (some ⟨arg0, arg0o, none⟩), Value.int .i64 arg1] W Q :=
  Sx.sound Tryd.func11 .leaf [Value.pointer (some ⟨arg0, arg0o, none⟩), Value.int .i64 arg1] rfl (Eq.mp (by kernel_rfl) hVC)
theorem vc16 {W : World} {Q : Ending → World → Prop} (q : Nat) (qo : Nat) (seq : Int) (store : Bool)
  (hVC :
    (∃ p : Option Addr, (∃ k : Nat, (∃ k2 : Nat, (World.cell? W (Addr.mk q (qo + 1) none) = some (Value.slice p k k2) ∧
    Sx.split (decide (seq < 0))
     (Q (Ending.returned (Value.iface 73 (Value.int IntKind.i64 5))) W)
     (Sx.split (decide ((↑k : Int) > 0))
       ((∃ p2 : Option Addr, (∃ k3 : Nat, (∃ k4 : Nat, (World.cell? W (Addr.mk q (qo + 1) none) = some (Value.slice p2 k3 k4) ∧
        (∀ z : Int, (z = IntKind.wrap IntKind.i64 ((↑k : Int) - 1) →
        (((0 : Int) ≤ z ∧
         z < (↑k3 : Int)) ∧
        Sx.adr p2 (fun k5 =>
         (fun k6 =>
         (∃ p3 : Option Addr, (World.cell? W (Addr.mk k5 (k6 + Int.toNat z * 1) none) = some (Value.pointer p3) ∧
         Sx.ptr p3 (fun a =>
          (∃ z2 : Int, (World.cell? W (Addr.add a 0) = some (Value.int IntKind.i64 z2) ∧
          Sx.split (decide (z2 ≥ seq))
           (Q (Ending.returned (Value.iface 73 (Value.int IntKind.i64 5))) W)
           ((∃ z3 : Int, (World.cell? W (Addr.mk q qo none) = some (Value.int IntKind.i64 z3) ∧
            Sx.split ((↑k : Int) == z3)
             (Q (Ending.returned (Value.iface 73 (Value.int IntKind.i64 4))) W)
             ((∃ p4 : Option Addr, (∃ k7 : Nat, (∃ k8 : Nat, (World.cell? W (Addr.mk q (qo + 1) none) = some (Value.slice p4 k7 k8) ∧
              (∀ vs : Array Value, (vs = #[Value.int IntKind.i64 seq, Value.bool store, Value.bool false, Value.bool false, Value.int IntKind.u32 0, Value.int IntKind.i64 0, Value.int IntKind.u32 0, Value.bool false, Value.int IntKind.i64 0, Value.int IntKind.i64 0, Value.int IntKind.i64 0, Value.int IntKind.i64 0, Value.bool false] →
              (∀ k9 : Nat, (∀ W2 : World, (k9 = Array.size (World.heap W) →
              (W2 = World.alloc W (Obj.cells (Value.cells (Value.agg vs)) 90) →
              (∀ k10 : Nat, (∀ W3 : World, (k10 = Array.size (World.heap W2) →
              (W3 = World.alloc W2 (Obj.cells #[Value.pointer (some (Addr.mk k9 0 none))] 87) →
              (∃ l : List Value, (∃ l2 : List Value, (XHeap.Sl W3 87 1 (Value.slice p4 k7 k8) k7 l ∧
              (((((1 : Nat) = (0 : Nat) ∧
                some (Addr.mk k10 0 none) = none)) ∨
               ((∃ a2 : Addr, (some (Addr.mk k10 0 none) = some a2 ∧
               (∀ k11 : Nat, (∀ v : Value, (l2[k11]? = some v →
               World.cell? W3 (Addr.add a2 k11) = some v))))))) ∧
              (List.length l2 = 1 ∧
              ((∀ v2 : Value, (v2 ∈ l2 →
               Value.oneCell' v2 = true)) ∧
              (k7 + 1 ≤ maxLen ∧
              ((k7 + 1) * 8 ≤ 140737488355328 ∧
              (∀ p5 : Option Addr, (∀ k12 : Nat, (∀ W4 : World, (XHeap.Sl W4 87 1 (Value.slice p5 (k7 + 1) k12) (k7 + 1) (l ++ l2) →
              (XHeap.XTouch (fun b => Value.ownBlock (Value.slice p4 k7 k8) = some b) W3 W4 →
              ((∀ k13 : Nat, (Value.ownBlock (Value.slice p5 (k7 + 1) k12) = some k13 →
              ((Value.ownBlock (Value.slice p4 k7 k8) = some k13) ∨
              (Array.size (World.heap W3) ≤ k13)))) →
              (XHeap.Sl W4 87 1 (Value.slice p4 k7 k8) k7 l →
              ((((p5 = p4 ∧
               k12 = k8)) ∨
              ((((XHeap.NilP p4) ∨
               (k8 < k7 + 1)) ∧
              (∀ k14 : Nat, (Value.ownBlock (Value.slice p5 (k7 + 1) k12) = some k14 →
              Array.size (World.heap W3) ≤ k14))))) →
              ((∃ v3 : Value, World.cell? W4 (Addr.mk q (qo + 1) none) = some v3) ∧
              (World.frozen? W4 (Addr.mk q (qo + 1) none) = false ∧
              (∀ W5 : World, (W5 = World.setCell W4 (Addr.mk q (qo + 1) none) (Value.slice p5 (k7 + 1) k12) →
              Q (Ending.returned Value.nilIface) W5)))))))))))))))))))))))))))))))))))))))))))))))))))))
       ((∃ z4 : Int, (World.cell? W (Addr.mk q qo none) = some (Value.int IntKind.i64 z4) ∧
        Sx.split ((↑k : Int) == z4)
         (Q (Ending.returned (Value.iface 73 (Value.int IntKind.i64 4))) W)
         ((∃ p6 : Option Addr, (∃ k15 : Nat, (∃ k16 : Nat, (World.cell? W (Addr.mk q (qo + 1) none) = some (Value.slice p6 k15 k16) ∧
          (∀ vs2 : Array Value, (vs2 = #[Value.int IntKind.i64 seq, Value.bool store, Value.bool false, Value.bool false, Value.int IntKind.u32 0, Value.int IntKind.i64 0, Value.int IntKind.u32 0, Value.bool false, Value.int IntKind.i64 0, Value.int IntKind.i64 0, Value.int IntKind.i64 0, Value.int IntKind.i64 0, Value.bool false] →
          (∀ k17 : Nat, (∀ W6 : World, (k17 = Array.size (World.heap W) →
          (W6 = World.alloc W (Obj.cells (Value.cells (Value.agg vs2)) 90) →
          (∀ k18 : Nat, (∀ W7 : World, (k18 = Array.size (World.heap W6) →
          (W7 = World.alloc W6 (Obj.cells #[Value.pointer (some (Addr.mk k17 0 none))] 87) →
          (∃ l3 : List Value, (∃ l4 : List Value, (XHeap.Sl W7 87 1 (Value.slice p6 k15 k16) k15 l3 ∧
          (((((1 : Nat) = (0 : Nat) ∧
            some (Addr.mk k18 0 none) = none)) ∨
           ((∃ a3 : Addr, (some (Addr.mk k18 0 none) = some a3 ∧
           (∀ k19 : Nat, (∀ v4 : Value, (l4[k19]? = some v4 →
           World.cell? W7 (Addr.add a3 k19) = some v4))))))) ∧
          (List.length l4 = 1 ∧
          ((∀ v5 : Value, (v5 ∈ l4 →
           Value.oneCell' v5 = true)) ∧
          (k15 + 1 ≤ maxLen ∧
          ((k15 + 1) * 8 ≤ 140737488355328 ∧
          (∀ p7 : Option Addr, (∀ k20 : Nat, (∀ W8 : World, (XHeap.Sl W8 87 1 (Value.slice p7 (k15 + 1) k20) (k15 + 1) (l3 ++ l4) →
          (XHeap.XTouch (fun b => Value.ownBlock (Value.slice p6 k15 k16) = some b) W7 W8 →
          ((∀ k21 : Nat, (Value.ownBlock (Value.slice p7 (k15 + 1) k20) = some k21 →
          ((Value.ownBlock (Value.slice p6 k15 k16) = some k21) ∨
          (Array.size (World.heap W7) ≤ k21)))) →
          (XHeap.Sl W8 87 1 (Value.slice p6 k15 k16) k15 l3 →
          ((((p7 = p6 ∧
           k20 = k16)) ∨
          ((((XHeap.NilP p6) ∨
           (k16 < k15 + 1)) ∧
          (∀ k22 : Nat, (Value.ownBlock (Value.slice p7 (k15 + 1) k20) = some k22 →
          Array.size (World.heap W7) ≤ k22))))) →
          ((∃ v6 : Value, World.cell? W8 (Addr.mk q (qo + 1) none) = some v6) ∧
          (World.frozen? W8 (Addr.mk q (qo + 1) none) = false ∧
          (∀ W9 : World, (W9 = World.setCell W8 (Addr.mk q (qo + 1) none) (Value.slice p7 (k15 + 1) k20) →
          Q (Ending.returned Value.nilIface) W9)))))))))))))))))))))))))))))))))))))))))))) :
  Calls Tryd.prog 16 #[Value.pointer (some ⟨q, qo, none⟩), Value.int .i64 seq, Value.bool store] W Q :=
  Sx.sound Tryd.func16 .leaf [Value.pointer (some ⟨q, qo, none⟩), Value.int .i64 seq, Value.bool store] rfl (Eq.mp (by kernel_rfl) hVC)
theorem vc20 {W : World} {Q : Ending → World → Prop} (q : Nat) (qo : Nat) (seq : Int) (data : Int)
  (hVC :
    Calls Tryd.prog 42 #[Value.pointer (some (Addr.mk q qo none)), Value.int IntKind.i64 seq] W (fun e =>
     (fun W2 =>
     (∃ z : Int, (e = Ending.returned (Value.int IntKind.i64 z) ∧
     Sx.split (decide (z < 0))
      (Q (Ending.returned (Value.iface 73 (Value.int IntKind.i64 7))) W2)
      ((∃ p : Option Addr, (∃ k : Nat, (∃ k2 : Nat, (World.cell? W2 (Addr.mk q (qo + 1) none) = some (Value.slice p k k2) ∧
       (((0 : Int) ≤ z ∧
        z < (↑k : Int)) ∧
       Sx.adr p (fun k3 =>
        (fun k4 =>
        (∃ p2 : Option Addr, (World.cell? W2 (Addr.mk k3 (k4 + Int.toNat z * 1) none) = some (Value.pointer p2) ∧
        Sx.ptr p2 (fun a =>
         (∃ t : Bool, (World.cell? W2 (Addr.add a 1) = some (Value.bool t) ∧
         Sx.split (!t)
          (Q (Ending.returned (Value.iface 73 (Value.int IntKind.i64 7))) W2)
          ((∃ p3 : Option Addr, (∃ k5 : Nat, (∃ k6 : Nat, (World.cell? W2 (Addr.mk q (qo + 1) none) = some (Value.slice p3 k5 k6) ∧
           (((0 : Int) ≤ z ∧
            z < (↑k5 : Int)) ∧
           Sx.adr p3 (fun k7 =>
            (fun k8 =>
            (∃ p4 : Option Addr, (World.cell? W2 (Addr.mk k7 (k8 + Int.toNat z * 1) none) = some (Value.pointer p4) ∧
            Sx.ptr p4 (fun a2 =>
             (∃ t2 : Bool, (World.cell? W2 (Addr.add a2 3) = some (Value.bool t2) ∧
             Sx.split t2
              (Q (Ending.returned (Value.iface 73 (Value.int IntKind.i64 7))) W2)
              ((∀ W3 : World, (W3 = World.drew W2 →
               (∃ p5 : Option Addr, (∃ k9 : Nat, (∃ k10 : Nat, (World.cell? W3 (Addr.mk q (qo + 1) none) = some (Value.slice p5 k9 k10) ∧
               (((0 : Int) ≤ z ∧
                z < (↑k9 : Int)) ∧
               Sx.adr p5 (fun k11 =>
                (fun k12 =>
                (∃ p6 : Option Addr, (World.cell? W3 (Addr.mk k11 (k12 + Int.toNat z * 1) none) = some (Value.pointer p6) ∧
                (∃ p7 : Option Addr, (∃ k13 : Nat, (∃ k14 : Nat, (World.cell? W3 (Addr.mk q (qo + 1) none) = some (Value.slice p7 k13 k14) ∧
                (((0 : Int) ≤ z ∧
                 z < (↑k13 : Int)) ∧
                Sx.adr p7 (fun k15 =>
                 (fun k16 =>
                 (∃ p8 : Option Addr, (World.cell? W3 (Addr.mk k15 (k16 + Int.toNat z * 1) none) = some (Value.pointer p8) ∧
                 Sx.ptr p6 (fun a3 =>
                  ((∃ v : Value, World.cell? W3 (Addr.add a3 3) = some v) ∧
                  (World.frozen? W3 (Addr.add a3 3) = false ∧
                  (∀ W4 : World, (W4 = World.setCell W3 (Addr.add a3 3) (Value.bool true) →
                  Sx.ptr p8 (fun a4 =>
                   ((∃ v2 : Value, World.cell? W4 (Addr.add a4 6) = some v2) ∧
                   (World.frozen? W4 (Addr.add a4 6) = false ∧
                   (∀ W5 : World, (W5 = World.setCell W4 (Addr.add a4 6) (Value.int IntKind.u32 data) →
                   Q (Ending.returned Value.nilIface) W5)))))))))))))))))))))))))))))))))))))))))))))))))))))))))))))) :
  Calls Tryd.prog 20 #[Value.pointer (some ⟨q, qo, none⟩), Value.int .i64 seq, Value.int .u32 data] W Q :=
  Sx.sound Tryd.func20 (.node [] [] 0 .leaf (.node [] [] 0 .leaf (.node [] [] 0 .leaf (.node [] [] 0 (.node [] [] 1018 .leaf .leaf) .leaf)))) [Value.pointer (some ⟨q, qo, none⟩), Value.int .i64 seq, Value.int .u32 data] rfl (Eq.mp (by kernel_rfl) hVC)
theorem vc22 {W : World} {Q : Ending → World → Prop} (q : Nat) (qo : Nat) (seq : Int) (bold : Bool)
  (hVC :
    (∀ k : Nat, (∀ W2 : World, (k = Array.size (World.heap W) →
    (W2 = World.alloc W (Obj.cells #[Value.bool false, Value.int IntKind.i64 0, Value.int IntKind.u32 0] 63) →
    Calls Tryd.prog 45 #[Value.pointer (some (Addr.mk q qo none)), Value.int IntKind.i64 seq] W2 (fun e =>
     (fun W3 =>
     (∃ z : Int, (e = Ending.returned (Value.int IntKind.i64 z) ∧
     Sx.split (decide (z < 0))
      ((∀ vs : Array Value, (vs = #[Value.bool false, Value.int IntKind.i64 0, Value.int IntKind.u32 0] →
       (Array.size vs = 3 ∧
       ((∀ k2 : Nat, (k2 < 3 →
        ((∃ v : Value, World.cell? W3 (Addr.mk k (0 + k2) none) = some v) ∧
        World.frozen? W3 (Addr.mk k (0 + k2) none) = false))) ∧
       ((∀ v2 : Value, (v2 ∈ Array.toList vs →
        Value.oneCell' v2 = true)) ∧
       (∀ W4 : World, (W4 = World.setCells W3 k 0 (Array.toList vs) →
       (∃ vs2 : Array Value, (Array.size vs2 = 3 ∧
       (Sx.cellsAt W4 (Addr.mk k 0 none) vs2 ∧
       Q (Ending.returned (Value.tuple #[Value.agg vs2, Value.iface 73 (Value.int IntKind.i64 7)])) W4)))))))))))
      (Sx.split (!bold)
        ((∃ p : Option Addr, (∃ k3 : Nat, (∃ k4 : Nat, (World.cell? W3 (Addr.mk q (qo + 1) none) = some (Value.slice p k3 k4) ∧
         (((0 : Int) ≤ z ∧
          z ≤ (↑k4 : Int)) ∧
         Calls Tryd.prog 46 #[Value.slice p (Int.toNat z) k4, Value.func (Fn.func 47) #[] #[]] W3 (fun e2 =>
          (fun W5 =>
          (∃ t : Bool, (e2 = Ending.returned (Value.bool t) ∧
          Sx.split t
           ((∀ vs3 : Array Value, (vs3 = #[Value.bool true, Value.int IntKind.i64 0, Value.int IntKind.u32 0] →
            (Array.size vs3 = 3 ∧
            ((∀ k5 : Nat, (k5 < 3 →
             ((∃ v3 : Value, World.cell? W5 (Addr.mk k (0 + k5) none) = some v3) ∧
             World.frozen? W5 (Addr.mk k (0 + k5) none) = false))) ∧
            ((∀ v4 : Value, (v4 ∈ Array.toList vs3 →
             Value.oneCell' v4 = true)) ∧
            (∀ W6 : World, (W6 = World.setCells W5 k 0 (Array.toList vs3) →
            (∃ vs4 : Array Value, (Array.size vs4 = 3 ∧
            (Sx.cellsAt W6 (Addr.mk k 0 none) vs4 ∧
            Q (Ending.returned (Value.tuple #[Value.agg vs4, Value.nilIface])) W6)))))))))))
           (Calls Tryd.prog 48 #[Value.pointer (some (Addr.mk q qo none)), Value.int IntKind.i64 z] W5 (fun e3 =>
             (fun W7 =>
             (∃ vs5 : Array Value, (∃ vs6 : Array Value, (e3 = Ending.returned (Value.tuple #[Value.agg vs5, Value.agg vs6]) ∧
             (∀ k6 : Nat, (∀ W8 : World, (k6 = Array.size (World.heap W7) →
             (W8 = World.alloc W7 (Obj.cells #[Value.bool false, Value.int IntKind.i64 0, Value.int IntKind.u32 0] 63) →
             (∀ k7 : Nat, (∀ W9 : World, (k7 = Array.size (World.heap W8) →
             (W9 = World.alloc W8 (Obj.cells #[Value.int IntKind.i64 0, Value.int IntKind.i64 0, Value.int IntKind.i64 0, Value.int IntKind.i64 0] 88) →
             (Array.size vs5 = 3 ∧
             ((∀ k8 : Nat, (k8 < 3 →
              ((∃ v5 : Value, World.cell? W9 (Addr.mk k6 (0 + k8) none) = some v5) ∧
              World.frozen? W9 (Addr.mk k6 (0 + k8) none) = false))) ∧
             ((∀ v6 : Value, (v6 ∈ Array.toList vs5 →
              Value.oneCell' v6 = true)) ∧
             (∀ W10 : World, (W10 = World.setCells W9 k6 0 (Array.toList vs5) →
             (Array.size vs6 = 4 ∧
             ((∀ k9 : Nat, (k9 < 4 →
              ((∃ v7 : Value, World.cell? W10 (Addr.mk k7 (0 + k9) none) = some v7) ∧
              World.frozen? W10 (Addr.mk k7 (0 + k9) none) = false))) ∧
             ((∀ v8 : Value, (v8 ∈ Array.toList vs6 →
              Value.oneCell' v8 = true)) ∧
             (∀ W11 : World, (W11 = World.setCells W10 k7 0 (Array.toList vs6) →
             (∃ vs7 : Array Value, (Array.size vs7 = 3 ∧
             (Sx.cellsAt W11 (Addr.mk k6 0 none) vs7 ∧
             (Array.size vs7 = 3 ∧
             ((∀ k10 : Nat, (k10 < 3 →
              ((∃ v9 : Value, World.cell? W11 (Addr.mk k (0 + k10) none) = some v9) ∧
              World.frozen? W11 (Addr.mk k (0 + k10) none) = false))) ∧
             ((∀ v10 : Value, (v10 ∈ Array.toList vs7 →
              Value.oneCell' v10 = true)) ∧
             (∀ W12 : World, (W12 = World.setCells W11 k 0 (Array.toList vs7) →
             (∃ vs8 : Array Value, (Array.size vs8 = 3 ∧
             (Sx.cellsAt W12 (Addr.mk k 0 none) vs8 ∧
             Q (Ending.returned (Value.tuple #[Value.agg vs8, Value.nilIface])) W12)))))))))))))))))))))))))))))))))))))))))))))
        (Calls Tryd.prog 48 #[Value.pointer (some (Addr.mk q qo none)), Value.int IntKind.i64 z] W3 (fun e4 =>
          (fun W13 =>
          (∃ vs9 : Array Value, (∃ vs10 : Array Value, (e4 = Ending.returned (Value.tuple #[Value.agg vs9, Value.agg vs10]) ∧
          (∀ k11 : Nat, (∀ W14 : World, (k11 = Array.size (World.heap W13) →
          (W14 = World.alloc W13 (Obj.cells #[Value.bool false, Value.int IntKind.i64 0, Value.int IntKind.u32 0] 63) →
          (∀ k12 : Nat, (∀ W15 : World, (k12 = Array.size (World.heap W14) →
          (W15 = World.alloc W14 (Obj.cells #[Value.int IntKind.i64 0, Value.int IntKind.i64 0, Value.int IntKind.i64 0, Value.int IntKind.i64 0] 88) →
          (Array.size vs9 = 3 ∧
          ((∀ k13 : Nat, (k13 < 3 →
           ((∃ v11 : Value, World.cell? W15 (Addr.mk k11 (0 + k13) none) = some v11) ∧
           World.frozen? W15 (Addr.mk k11 (0 + k13) none) = false))) ∧
          ((∀ v12 : Value, (v12 ∈ Array.toList vs9 →
           Value.oneCell' v12 = true)) ∧
          (∀ W16 : World, (W16 = World.setCells W15 k11 0 (Array.toList vs9) →
          (Array.size vs10 = 4 ∧
          ((∀ k14 : Nat, (k14 < 4 →
           ((∃ v13 : Value, World.cell? W16 (Addr.mk k12 (0 + k14) none) = some v13) ∧
           World.frozen? W16 (Addr.mk k12 (0 + k14) none) = false))) ∧
          ((∀ v14 : Value, (v14 ∈ Array.toList vs10 →
           Value.oneCell' v14 = true)) ∧
          (∀ W17 : World, (W17 = World.setCells W16 k12 0 (Array.toList vs10) →
          (∃ vs11 : Array Value, (Array.size vs11 = 3 ∧
          (Sx.cellsAt W17 (Addr.mk k11 0 none) vs11 ∧
          (Array.size vs11 = 3 ∧
          ((∀ k15 : Nat, (k15 < 3 →
           ((∃ v15 : Value, World.cell? W17 (Addr.mk k (0 + k15) none) = some v15) ∧
           World.frozen? W17 (Addr.mk k (0 + k15) none) = false))) ∧
          ((∀ v16 : Value, (v16 ∈ Array.toList vs11 →
           Value.oneCell' v16 = true)) ∧
          (∀ W18 : World, (W18 = World.setCells W17 k 0 (Array.toList vs11) →
          (∃ vs12 : Array Value, (Array.size vs12 = 3 ∧
          (Sx.cellsAt W18 (Addr.mk k 0 none) vs12 ∧
          Q (Ending.returned (Value.tuple #[Value.agg vs12, Value.nilIface])) W18))))))))))))))))))))))))))))))))))))))))))))) :
  Calls Tryd.prog 22 #[Value.pointer (some ⟨q, qo, none⟩), Value.int .i64 seq, Value.bool bold] W Q :=
  Sx.sound Tryd.func22 .leaf [Value.pointer (some ⟨q, qo, none⟩), Value.int .i64 seq, Value.bool bold] rfl (Eq.mp (by kernel_rfl) hVC)
theorem vc25 {W : World} {Q : Ending → World → Prop} (q : Nat) (qo : Nat) (seq : Int)
  (hVC :
    Calls Tryd.prog 45 #[Value.pointer (some (Addr.mk q qo none)), Value.int IntKind.i64 seq] W (fun e =>
     (fun W2 =>
     (∃ z : Int, (e = Ending.returned (Value.int IntKind.i64 z) ∧
     Sx.split (decide (z < 0))
      (Q (Ending.returned (Value.iface 73 (Value.int IntKind.i64 7))) W2)
      ((∃ p : Option Addr, (∃ k : Nat, (∃ k2 : Nat, (World.cell? W2 (Addr.mk q (qo + 1) none) = some (Value.slice p k k2) ∧
       (((0 : Int) ≤ z ∧
        z < (↑k : Int)) ∧
       Sx.adr p (fun k3 =>
        (fun k4 =>
        (∃ p2 : Option Addr, (World.cell? W2 (Addr.mk k3 (k4 + Int.toNat z * 1) none) = some (Value.pointer p2) ∧
        Sx.ptr p2 (fun a =>
         (∃ t : Bool, (World.cell? W2 (Addr.add a 7) = some (Value.bool t) ∧
         Sx.split t
          (Q (Ending.returned (Value.iface 73 (Value.int IntKind.i64 7))) W2)
          (Calls Tryd.prog 48 #[Value.pointer (some (Addr.mk q qo none)), Value.int IntKind.i64 z] W2 (fun e2 =>
            (fun W3 =>
            (∃ vs : Array Value, (∃ vs2 : Array Value, (e2 = Ending.returned (Value.tuple #[Value.agg vs, Value.agg vs2]) ∧
            (∀ k5 : Nat, (∀ W4 : World, (k5 = Array.size (World.heap W3) →
            (W4 = World.alloc W3 (Obj.cells #[Value.bool false, Value.int IntKind.i64 0, Value.int IntKind.u32 0] 63) →
            (∀ k6 : Nat, (∀ W5 : World, (k6 = Array.size (World.heap W4) →
            (W5 = World.alloc W4 (Obj.cells #[Value.int IntKind.i64 0, Value.int IntKind.i64 0, Value.int IntKind.i64 0, Value.int IntKind.i64 0] 88) →
            (Array.size vs = 3 ∧
            ((∀ k7 : Nat, (k7 < 3 →
             ((∃ v : Value, World.cell? W5 (Addr.mk k5 (0 + k7) none) = some v) ∧
             World.frozen? W5 (Addr.mk k5 (0 + k7) none) = false))) ∧
            ((∀ v2 : Value, (v2 ∈ Array.toList vs →
             Value.oneCell' v2 = true)) ∧
            (∀ W6 : World, (W6 = World.setCells W5 k5 0 (Array.toList vs) →
            (Array.size vs2 = 4 ∧
            ((∀ k8 : Nat, (k8 < 4 →
             ((∃ v3 : Value, World.cell? W6 (Addr.mk k6 (0 + k8) none) = some v3) ∧
             World.frozen? W6 (Addr.mk k6 (0 + k8) none) = false))) ∧
            ((∀ v4 : Value, (v4 ∈ Array.toList vs2 →
             Value.oneCell' v4 = true)) ∧
            (∀ W7 : World, (W7 = World.setCells W6 k6 0 (Array.toList vs2) →
            (∃ t2 : Bool, (World.cell? W7 (Addr.mk k5 0 none) = some (Value.bool t2) ∧
            Sx.split t2
             (Q (Ending.returned (Value.iface 73 (Value.int IntKind.i64 7))) W7)
             ((∀ W8 : World, (W8 = World.drew W7 →
              (∃ p3 : Option Addr, (∃ k9 : Nat, (∃ k10 : Nat, (World.cell? W8 (Addr.mk q (qo + 1) none) = some (Value.slice p3 k9 k10) ∧
              (((0 : Int) ≤ z ∧
               z < (↑k9 : Int)) ∧
              Sx.adr p3 (fun k11 =>
               (fun k12 =>
               (∃ p4 : Option Addr, (World.cell? W8 (Addr.mk k11 (k12 + Int.toNat z * 1) none) = some (Value.pointer p4) ∧
               (∃ p5 : Option Addr, (∃ k13 : Nat, (∃ k14 : Nat, (World.cell? W8 (Addr.mk q (qo + 1) none) = some (Value.slice p5 k13 k14) ∧
               (((0 : Int) ≤ z ∧
                z < (↑k13 : Int)) ∧
               Sx.adr p5 (fun k15 =>
                (fun k16 =>
                (∃ p6 : Option Addr, (World.cell? W8 (Addr.mk k15 (k16 + Int.toNat z * 1) none) = some (Value.pointer p6) ∧
                Sx.ptr p4 (fun a2 =>
                 ((∃ vs3 : Array Value, (Array.size vs3 = 4 ∧
                  (Sx.cellsAt W8 (Addr.mk k6 0 none) vs3 ∧
                  (RowKit.Below (Array.size (World.heap W8)) W8 W8 ∧
                  ((∃ v5 : Value, World.cell? W8 (Addr.add a2 7) = some v5) ∧
                  (World.frozen? W8 (Addr.add a2 7) = false ∧
                  (∀ W9 : World, (W9 = World.setCell W8 (Addr.add a2 7) (Value.bool true) →
                  Sx.ptr p6 (fun a3 =>
                   (Array.size vs3 = 4 ∧
                   ((∀ k17 : Nat, (k17 < 4 →
                    ((∃ v6 : Value, World.cell? W9 (Addr.mk (Addr.block a3) (Addr.off a3 + 8 + k17) none) = some v6) ∧
                    World.frozen? W9 (Addr.mk (Addr.block a3) (Addr.off a3 + 8 + k17) none) = false))) ∧
                   ((∀ v7 : Value, (v7 ∈ Array.toList vs3 →
                    Value.oneCell' v7 = true)) ∧
                   (∀ W10 : World, (W10 = World.setCells W9 (Addr.block a3) (Addr.off a3 + 8) (Array.toList vs3) →
                   Q (Ending.returned Value.nilIface) W10)))))))))))))) ∧
                 ((∃ v8 : Value, World.cell? W8 (Addr.add a2 7) = some v8) ∧
                 (World.frozen? W8 (Addr.add a2 7) = false ∧
                 (∀ W11 : World, (W11 = World.setCell W8 (Addr.add a2 7) (Value.bool true) →
                 (∃ vs4 : Array Value, (Array.size vs4 = 4 ∧
                 (Sx.cellsAt W11 (Addr.mk k6 0 none) vs4 ∧
                 Sx.ptr p6 (fun a4 =>
                  (Array.size vs4 = 4 ∧
                  ((∀ k18 : Nat, (k18 < 4 →
                   ((∃ v9 : Value, World.cell? W11 (Addr.mk (Addr.block a4) (Addr.off a4 + 8 + k18) none) = some v9) ∧
                   World.frozen? W11 (Addr.mk (Addr.block a4) (Addr.off a4 + 8 + k18) none) = false))) ∧
                  ((∀ v10 : Value, (v10 ∈ Array.toList vs4 →
                   Value.oneCell' v10 = true)) ∧
                  (∀ W12 : World, (W12 = World.setCells W11 (Addr.block a4) (Addr.off a4 + 8) (Array.toList vs4) →
                  Q (Ending.returned Value.nilIface) W12)))))))))))))))))))))))))))))))))))))))))))))))))))))))))))))))))))))))))))))))) :
  Calls Tryd.prog 25 #[Value.pointer (some ⟨q, qo, none⟩), Value.int .i64 seq] W Q :=
  Sx.sound Tryd.func25 (.node [] [] 0 .leaf (.node [] [] 0 .leaf (.node [] [] 0 .leaf (.node [] [] 0 .leaf (.node [] [] 0 .leaf (.node [] [] 0 (.node [] [] 1018 .leaf .leaf) .leaf)))))) [Value.pointer (some ⟨q, qo, none⟩), Value.int .i64 seq] rfl (Eq.mp (by kernel_rfl) hVC)
theorem vc29 {W : World} {Q : Ending → World → Prop} (arg0 : Nat) (arg0o : Nat)
  (hVC :
    Calls Tryd.prog 38 #[Value.pointer (some (Addr.mk arg0 arg0o none))] W (fun e =>
     (fun W2 =>
     (∃ vs : Array Value, (∃ t : Bool, (e = Ending.returned (Value.tuple #[Value.agg vs, Value.bool t]) ∧
     (∀ k : Nat, (∀ W3 : World, (k = Array.size (World.heap W2) →
     (W3 = World.alloc W2 (Obj.cells #[Value.int IntKind.u32 0, Value.int IntKind.i64 0, Value.int IntKind.u32 0] 83) →
     (Array.size vs = 3 ∧
     ((∀ k2 : Nat, (k2 < 3 →
      ((∃ v : Value, World.cell? W3 (Addr.mk k (0 + k2) none) = some v) ∧
      World.frozen? W3 (Addr.mk k (0 + k2) none) = false))) ∧
     ((∀ v2 : Value, (v2 ∈ Array.toList vs →
      Value.oneCell' v2 = true)) ∧
     (∀ W4 : World, (W4 = World.setCells W3 k 0 (Array.toList vs) →
     Sx.split (!t)
      (Q (Ending.returned (Value.iface 73 (Value.int IntKind.i64 7))) W4)
      ((∃ p : Option Addr, (∃ k3 : Nat, (∃ k4 : Nat, (World.cell? W4 (Addr.mk arg0 (arg0o + 1) none) = some (Value.slice p k3 k4) ∧
       (((0 : Int) ≤ (0 : Int) ∧
        (0 : Int) < (↑k3 : Int)) ∧
       Sx.adr p (fun k5 =>
        (fun k6 =>
        (∃ p2 : Option Addr, (World.cell? W4 (Addr.mk k5 (k6 + 0) none) = some (Value.pointer p2) ∧
        Sx.ptr p2 (fun a =>
         (∃ z : Int, (World.cell? W4 (Addr.add a 0) = some (Value.int IntKind.i64 z) ∧
         (∃ p3 : Option Addr, (∃ k7 : Nat, (∃ k8 : Nat, (World.cell? W4 (Addr.mk arg0 (arg0o + 1) none) = some (Value.slice p3 k7 k8) ∧
         Calls Tryd.prog 41 #[Value.slice p3 k7 k8, Value.int IntKind.i64 0, Value.int IntKind.i64 1] W4 (fun e2 =>
          (fun W5 =>
          (∃ p4 : Option Addr, (∃ k9 : Nat, (∃ k10 : Nat, (e2 = Ending.returned (Value.slice p4 k9 k10) ∧
          ((∃ v3 : Value, World.cell? W5 (Addr.mk arg0 (arg0o + 1) none) = some v3) ∧
          (World.frozen? W5 (Addr.mk arg0 (arg0o + 1) none) = false ∧
          (∀ W6 : World, (W6 = World.setCell W5 (Addr.mk arg0 (arg0o + 1) none) (Value.slice p4 k9 k10) →
          (∃ p5 : Option Addr, (∃ k11 : Nat, (∃ k12 : Nat, (World.cell? W6 (Addr.mk arg0 (arg0o + 1) none) = some (Value.slice p5 k11 k12) ∧
          (∃ I : Int → World → Prop, (∃ I2 : Int → World → Nat, (I 0 W6 ∧
          ((Nat →
          Value) →
          (∀ x : Int, (∀ W7 : World, (I x W7 →
          Sx.split (decide (x < (↑k11 : Int)))
           ((((0 : Int) ≤ x ∧
             x < (↑k11 : Int)) ∧
            Sx.adr p5 (fun k13 =>
             (fun k14 =>
             (∃ p6 : Option Addr, (World.cell? W7 (Addr.mk k13 (k14 + Int.toNat x * 1) none) = some (Value.pointer p6) ∧
             (∃ I3 : Int → World → Prop, (∃ I4 : Int → World → Nat, (I3 0 W7 ∧
             ((Nat →
             Value) →
             (∀ x2 : Int, (∀ W8 : World, (I3 x2 W8 →
             Sx.split (decide (x2 < 4))
              (Sx.ptr p6 (fun a2 =>
                (∃ t2 : Bool, (World.cell? W8 (Addr.add a2 7) = some (Value.bool t2) ∧
                Sx.split t2
                 (Sx.ptr p6 (fun a3 =>
                   (((0 : Int) ≤ x2 ∧
                    x2 < (↑4 : Int)) ∧
                   (∃ z2 : Int, (World.cell? W8 (Addr.mk (Addr.block a3) (Addr.off a3 + 8 + Int.toNat x2 * 1) none) = some (Value.int IntKind.i64 z2) ∧
                   Sx.split (z2 == z)
                    (Sx.ptr p6 (fun a4 =>
                      (((0 : Int) ≤ x2 ∧
                       x2 < (↑4 : Int)) ∧
                      ((∃ v4 : Value, World.cell? W8 (Addr.mk (Addr.block a4) (Addr.off a4 + 8 + Int.toNat x2 * 1) none) = some v4) ∧
                      (World.frozen? W8 (Addr.mk (Addr.block a4) (Addr.off a4 + 8 + Int.toNat x2 * 1) none) = false ∧
                      (∀ W9 : World, (W9 = World.setCell W8 (Addr.mk (Addr.block a4) (Addr.off a4 + 8 + Int.toNat x2 * 1) none) (Value.int IntKind.i64 (-1)) →
                      (∀ z3 : Int, (z3 = IntKind.wrap IntKind.i64 (x2 + 1) →
                      (I3 z3 W9 ∧
                      I4 z3 W9 < I4 x2 W8))))))))))
                    ((∀ z4 : Int, (z4 = IntKind.wrap IntKind.i64 (x2 + 1) →
                     (I3 z4 W8 ∧
                     I4 z4 W8 < I4 x2 W8)))))))))
                 ((∀ z5 : Int, (z5 = IntKind.wrap IntKind.i64 (x2 + 1) →
                  (I3 z5 W8 ∧
                  I4 z5 W8 < I4 x2 W8))))))))
              ((∀ z6 : Int, (z6 = IntKind.wrap IntKind.i64 (x + 1) →
               (I z6 W8 ∧
               I2 z6 W8 < I2 x W7)))))))))))))))))
           (Q (Ending.returned Value.nilIface) W7)))))))))))))))))))))))))))))))))))))))))))))))))))))) :
  Calls Tryd.prog 29 #[Value.pointer (some ⟨arg0, arg0o, none⟩)] W Q :=
  Sx.sound Tryd.func29 (.node [] [] 0 .leaf (.node [] [] 0 .leaf (.node [] [] 0 .leaf (.node [] [] 0 .leaf (.node [] [] 0 (.node [] [] 0 .leaf (.node [] [] 0 (.node [(39, .int .i64)] [38, 37, 5] 0 (.node [] [] 0 .leaf (.node [] [] 0 .leaf (.node [] [] 0 (.node [] [] 0 (.node [] [] 0 .leaf (.node [] [] 0 .leaf (.node [] [] 0 (.node [(43, .int .i64)] [7, 5, 39, 38, 37] 0 .leaf .leaf) .leaf))) .leaf) .leaf))) .leaf) .leaf)) .leaf))))) [Value.pointer (some ⟨arg0, arg0o, none⟩)] rfl (Eq.mp (by kernel_rfl) hVC)
theorem vc32 {W : World} {Q : Ending → World → Prop} (q : Nat) (qo : Nat) (line : Int)
  (hVC :
    (∃ p : Option Addr, (∃ k : Nat, (∃ k2 : Nat, (World.cell? W (Addr.mk q (qo + 1) none) = some (Value.slice p k k2) ∧
    (∃ I : Int → World → Prop, (∃ I2 : Int → World → Nat, (I 0 W ∧
    ((Nat →
    Value) →
    (∀ x : Int, (∀ W2 : World, (I x W2 →
    Sx.split (decide (x < (↑k : Int)))
     ((((0 : Int) ≤ x ∧
       x < (↑k : Int)) ∧
      Sx.adr p (fun k3 =>
       (fun k4 =>
       (∃ p2 : Option Addr, (World.cell? W2 (Addr.mk k3 (k4 + Int.toNat x * 1) none) = some (Value.pointer p2) ∧
       Sx.ptr p2 (fun a =>
        (∃ t : Bool, (World.cell? W2 (Addr.add a 7) = some (Value.bool t) ∧
        Sx.split t
         (Sx.ptr p2 (fun a2 =>
           (∃ z : Int, (World.cell? W2 (Addr.add a2 4) = some (Value.int IntKind.u32 z) ∧
           (∀ z2 : Int, (z2 = IntKind.wrap IntKind.u32 (↑(BitVec.toNat (BitVec.ofInt (IntKind.bits IntKind.u32) z ^^^ BitVec.ofInt (IntKind.bits IntKind.u32) line)) : Int) →
           Sx.split (decide (z2 < 16))
            (Sx.ptr p2 (fun a3 =>
              (∃ z3 : Int, (World.cell? W2 (Addr.add a3 4) = some (Value.int IntKind.u32 z3) ∧
              (∀ z4 : Int, (z4 = IntKind.wrap IntKind.u32 (↑(BitVec.toNat (BitVec.ofInt (IntKind.bits IntKind.u32) z3 ^^^ BitVec.ofInt (IntKind.bits IntKind.u32) line)) : Int) →
              (∀ z5 : Int, (z5 = IntKind.wrap IntKind.u32 (↑(BitVec.toNat (BitVec.ofInt (IntKind.bits IntKind.u32) z4 &&& ~~~BitVec.ofInt (IntKind.bits IntKind.u32) 15)) : Int) →
              Sx.split (z5 == 0)
               (Sx.ptr p2 (fun a4 =>
                 Sx.ptr p2 (fun a5 =>
                  (∃ z6 : Int, (World.cell? W2 (Addr.add a5 5) = some (Value.int IntKind.i64 z6) ∧
                  (((0 : Int) ≤ z6 ∧
                   z6 ≤ (↑4 : Int)) ∧
                  (∃ t2 : Bool, ((∀ k5 : Nat, Calls Tryd.prog 53 #[Value.slice (some (Addr.add a4 8)) (Int.toNat z6) 4, Value.int IntKind.i64 (-1)] (World.drewN W2 k5) (fun e =>
                    (fun W3 =>
                    (e = Ending.returned (Value.bool t2) ∧
                    (∃ k6 : Nat, W3 = World.drewN W2 k6))))) ∧
                  (∀ W4 : World, (∀ k7 : Nat, (W4 = World.drewN W2 k7 →
                  Sx.split t2
                   (Sx.ptr p2 (fun a6 =>
                     (∃ z7 : Int, (World.cell? W4 (Addr.add a6 0) = some (Value.int IntKind.i64 z7) ∧
                     Q (Ending.returned (Value.int IntKind.i64 z7)) W4))))
                   ((∀ z8 : Int, (z8 = IntKind.wrap IntKind.i64 (x + 1) →
                    (I z8 W4 ∧
                    I2 z8 W4 < I2 x W2)))))))))))))))
               ((∀ W5 : World, (∀ k8 : Nat, (W5 = World.drewN W2 k8 →
                (∀ z9 : Int, (z9 = IntKind.wrap IntKind.i64 (x + 1) →
                (I z9 W5 ∧
                I2 z9 W5 < I2 x W2)))))))))))))))
            ((∀ W6 : World, (∀ k9 : Nat, (W6 = World.drewN W2 k9 →
             (∀ z10 : Int, (z10 = IntKind.wrap IntKind.i64 (x + 1) →
             (I z10 W6 ∧
             I2 z10 W6 < I2 x W2)))))))))))))
         ((∀ W7 : World, (∀ k10 : Nat, (W7 = World.drewN W2 k10 →
          (∀ z11 : Int, (z11 = IntKind.wrap IntKind.i64 (x + 1) →
          (I z11 W7 ∧
          I2 z11 W7 < I2 x W2))))))))))))))))
     (Q (Ending.returned (Value.int IntKind.i64 (-1))) W2))))))))))))) :
  Calls Tryd.prog 32 #[Value.pointer (some ⟨q, qo, none⟩), Value.int .u32 line] W Q :=
  Sx.sound Tryd.func32 (.node [] [] 0 .leaf (.node [] [] 0 (.node [] [] 0 .leaf (.node [] [] 0 (.node [(12, .int .i64)] [11, 10, 1] 0 .leaf .leaf) .leaf)) .leaf)) [Value.pointer (some ⟨q, qo, none⟩), Value.int .u32 line] rfl (Eq.mp (by kernel_rfl) hVC)
theorem vc34 {W : World} {Q : Ending → World → Prop} (q : Nat) (qo : Nat) (after : Int)
  (hVC :
    (∀ k : Nat, (∀ W2 : World, (k = Array.size (World.heap W) →
    (W2 = World.alloc W (Obj.cells #[Value.int IntKind.i64 after] 3) →
    (∃ p : Option Addr, (∃ k2 : Nat, (∃ k3 : Nat, (World.cell? W2 (Addr.mk q (qo + 1) none) = some (Value.slice p k2 k3) ∧
    Calls Tryd.prog 54 #[Value.slice p k2 k3, Value.func (Fn.func 55) #[] #[Value.pointer (some (Addr.mk k 0 none))]] W2 (fun e =>
     (fun W3 =>
     (∃ p2 : Option Addr, (∃ k4 : Nat, (∃ k5 : Nat, (e = Ending.returned (Value.slice p2 k4 k5) ∧
     ((∃ v : Value, World.cell? W3 (Addr.mk q (qo + 1) none) = some v) ∧
     (World.frozen? W3 (Addr.mk q (qo + 1) none) = false ∧
     (∀ W4 : World, (W4 = World.setCell W3 (Addr.mk q (qo + 1) none) (Value.slice p2 k4 k5) →
     Q (Ending.returned (Value.tuple #[])) W4))))))))))))))))))) :
  Calls Tryd.prog 34 #[Value.pointer (some ⟨q, qo, none⟩), Value.int .i64 after] W Q :=
  Sx.sound Tryd.func34 .leaf [Value.pointer (some ⟨q, qo, none⟩), Value.int .i64 after] rfl (Eq.mp (by kernel_rfl) hVC)
theorem vc38 {W : World} {Q : Ending → World → Prop} (q : Nat) (qo : Nat)
  (hVC :
    (∀ k : Nat, (∀ W2 : World, (k = Array.size (World.heap W) →
    (W2 = World.alloc W (Obj.cells #[Value.int IntKind.u32 0, Value.int IntKind.i64 0, Value.int IntKind.u32 0] 83) →
    (∃ p : Option Addr, (∃ k2 : Nat, (∃ k3 : Nat, (World.cell? W2 (Addr.mk q (qo + 1) none) = some (Value.slice p k2 k3) ∧
    Sx.split ((↑k2 : Int) == 0)
     ((∀ vs : Array Value, (vs = #[Value.int IntKind.u32 0, Value.int IntKind.i64 0, Value.int IntKind.u32 0] →
      (Array.size vs = 3 ∧
      ((∀ k4 : Nat, (k4 < 3 →
       ((∃ v : Value, World.cell? W2 (Addr.mk k (0 + k4) none) = some v) ∧
       World.frozen? W2 (Addr.mk k (0 + k4) none) = false))) ∧
      ((∀ v2 : Value, (v2 ∈ Array.toList vs →
       Value.oneCell' v2 = true)) ∧
      (∀ W3 : World, (W3 = World.setCells W2 k 0 (Array.toList vs) →
      (∃ vs2 : Array Value, (Array.size vs2 = 3 ∧
      (Sx.cellsAt W3 (Addr.mk k 0 none) vs2 ∧
      Q (Ending.returned (Value.tuple #[Value.agg vs2, Value.bool false])) W3)))))))))))
     ((∃ p2 : Option Addr, (∃ k5 : Nat, (∃ k6 : Nat, (World.cell? W2 (Addr.mk q (qo + 1) none) = some (Value.slice p2 k5 k6) ∧
      (((0 : Int) ≤ (0 : Int) ∧
       (0 : Int) < (↑k5 : Int)) ∧
      Sx.adr p2 (fun k7 =>
       (fun k8 =>
       (∃ p3 : Option Addr, (World.cell? W2 (Addr.mk k7 (k8 + 0) none) = some (Value.pointer p3) ∧
       Sx.ptr p3 (fun a =>
        (∃ t : Bool, (World.cell? W2 (Addr.add a 12) = some (Value.bool t) ∧
        Sx.split (!t)
         ((∀ vs3 : Array Value, (vs3 = #[Value.int IntKind.u32 0, Value.int IntKind.i64 0, Value.int IntKind.u32 0] →
          (Array.size vs3 = 3 ∧
          ((∀ k9 : Nat, (k9 < 3 →
           ((∃ v3 : Value, World.cell? W2 (Addr.mk k (0 + k9) none) = some v3) ∧
           World.frozen? W2 (Addr.mk k (0 + k9) none) = false))) ∧
          ((∀ v4 : Value, (v4 ∈ Array.toList vs3 →
           Value.oneCell' v4 = true)) ∧
          (∀ W4 : World, (W4 = World.setCells W2 k 0 (Array.toList vs3) →
          (∃ vs4 : Array Value, (Array.size vs4 = 3 ∧
          (Sx.cellsAt W4 (Addr.mk k 0 none) vs4 ∧
          Q (Ending.returned (Value.tuple #[Value.agg vs4, Value.bool false])) W4)))))))))))
         ((∃ p4 : Option Addr, (∃ k10 : Nat, (∃ k11 : Nat, (World.cell? W2 (Addr.mk q (qo + 1) none) = some (Value.slice p4 k10 k11) ∧
          (((0 : Int) ≤ (0 : Int) ∧
           (0 : Int) < (↑k10 : Int)) ∧
          Sx.adr p4 (fun k12 =>
           (fun k13 =>
           (∃ p5 : Option Addr, (World.cell? W2 (Addr.mk k12 (k13 + 0) none) = some (Value.pointer p5) ∧
           (∀ W5 : World, (W5 = World.drew W2 →
           Sx.ptr p5 (fun a2 =>
            (∃ z : Int, (World.cell? W5 (Addr.add a2 4) = some (Value.int IntKind.u32 z) ∧
            Sx.ptr p5 (fun a3 =>
             (∃ z2 : Int, (World.cell? W5 (Addr.add a3 5) = some (Value.int IntKind.i64 z2) ∧
             Sx.ptr p5 (fun a4 =>
              (∃ z3 : Int, (World.cell? W5 (Addr.add a4 6) = some (Value.int IntKind.u32 z3) ∧
              Sx.ptr p5 (fun a5 =>
               (∃ z4 : Int, (World.cell? W5 (Addr.add a5 5) = some (Value.int IntKind.i64 z4) ∧
               (∀ z5 : Int, (z5 = IntKind.wrap IntKind.i64 (8 * z4) →
               (∀ z6 : Int, (z6 = IntKind.wrap IntKind.i64 (32 - z5) →
               ((0 : Int) ≤ z6 ∧
               (∀ z7 : Int, (z7 = IntKind.wrap IntKind.u32 (z3 * 2 ^ min (Int.toNat z6) (IntKind.bits IntKind.u32)) →
               Sx.ptr p5 (fun a6 =>
                (∃ z8 : Int, (World.cell? W5 (Addr.add a6 5) = some (Value.int IntKind.i64 z8) ∧
                (∀ z9 : Int, (z9 = IntKind.wrap IntKind.i64 (8 * z8) →
                (∀ z10 : Int, (z10 = IntKind.wrap IntKind.i64 (32 - z9) →
                ((0 : Int) ≤ z10 ∧
                (∀ z11 : Int, (z11 = Int.fdiv z7 (2 ^ min (Int.toNat z10) (IntKind.bits IntKind.u32)) →
                (∀ vs5 : Array Value, (vs5 = #[Value.int IntKind.u32 z, Value.int IntKind.i64 z2, Value.int IntKind.u32 z11] →
                (Array.size vs5 = 3 ∧
                ((∀ k14 : Nat, (k14 < 3 →
                 ((∃ v5 : Value, World.cell? W5 (Addr.mk k (0 + k14) none) = some v5) ∧
                 World.frozen? W5 (Addr.mk k (0 + k14) none) = false))) ∧
                ((∀ v6 : Value, (v6 ∈ Array.toList vs5 →
                 Value.oneCell' v6 = true)) ∧
                (∀ W6 : World, (W6 = World.setCells W5 k 0 (Array.toList vs5) →
                (∃ vs6 : Array Value, (Array.size vs6 = 3 ∧
                (Sx.cellsAt W6 (Addr.mk k 0 none) vs6 ∧
                Q (Ending.returned (Value.tuple #[Value.agg vs6, Value.bool true])) W6))))))))))))))))))))))))))))))))))))))))))))))))))))))))))))))))))))))))) :
  Calls Tryd.prog 38 #[Value.pointer (some ⟨q, qo, none⟩)] W Q :=
  Sx.sound Tryd.func38 (.node [] [] 0 .leaf (.node [] [] 0 .leaf (.node [] [] 0 .leaf (.node [] [] 0 (.node [] [] 28 .leaf .leaf) .leaf)))) [Value.pointer (some ⟨q, qo, none⟩)] rfl (Eq.mp (by kernel_rfl) hVC)
theorem vc39r {W : World} {Q : Ending → World → Prop} (s : Option Addr) (sn : Nat) (sc : Nat)
  (hVC :
    (∃ I : Int → World → Prop, (∃ I2 : Int → World → Nat, (I 0 W ∧
    ((Nat →
    Value) →
    (∀ x : Int, (∀ W2 : World, (I x W2 →
    Sx.split (decide (x < (↑sn : Int)))
     ((((0 : Int) ≤ x ∧
       x < (↑sn : Int)) ∧
      Sx.adr s (fun k =>
       (fun k2 =>
       (∃ p : Option Addr, (World.cell? W2 (Addr.mk k (k2 + Int.toNat x * 1) none) = some (Value.pointer p) ∧
       Calls Tryd.prog 40 #[Value.pointer p] W2 (fun e =>
        (fun W3 =>
        (∃ t : Bool, (e = Ending.returned (Value.bool t) ∧
        Sx.split t
         (Q (Ending.returned (Value.int IntKind.i64 x)) W3)
         ((∀ z : Int, (z = IntKind.wrap IntKind.i64 (x + 1) →
          (I z W3 ∧
          I2 z W3 < I2 x W2))))))))))))))
     (Q (Ending.returned (Value.int IntKind.i64 (-1))) W2))))))))) :
  Calls Tryd.prog 39 #[Value.slice s sn sc, Value.func (Fn.func 40) #[] #[]] W Q :=
  Sx.sound Tryd.func39 (.node [] [] 0 .leaf (.node [] [] 0 (.node [] [] 0 .leaf (.node [] [] 0 (.node [(8, .int .i64)] [7, 1, 0] 0 .leaf .leaf) .leaf)) .leaf)) [Value.slice s sn sc, Value.func (Fn.func 40) #[] #[]] rfl (Eq.mp (by kernel_rfl) hVC)
theorem vc39s {W : World} {Q : Ending → World → Prop} (s : Option Addr) (sn : Nat) (sc : Nat)
  (hVC :
    (∃ I : Int → World → Prop, (∃ I2 : Int → World → Nat, (I 0 W ∧
    ((Nat →
    Value) →
    (∀ x : Int, (∀ W2 : World, (I x W2 →
    Sx.split (decide (x < (↑sn : Int)))
     ((((0 : Int) ≤ x ∧
       x < (↑sn : Int)) ∧
      Sx.adr s (fun k =>
       (fun k2 =>
       (∃ p : Option Addr, (World.cell? W2 (Addr.mk k (k2 + Int.toNat x * 1) none) = some (Value.pointer p) ∧
       Calls Tryd.prog 47 #[Value.pointer p] W2 (fun e =>
        (fun W3 =>
        (∃ t : Bool, (e = Ending.returned (Value.bool t) ∧
        Sx.split t
         (Q (Ending.returned (Value.int IntKind.i64 x)) W3)
         ((∀ z : Int, (z = IntKind.wrap IntKind.i64 (x + 1) →
          (I z W3 ∧
          I2 z W3 < I2 x W2))))))))))))))
     (Q (Ending.returned (Value.int IntKind.i64 (-1))) W2))))))))) :
  Calls Tryd.prog 39 #[Value.slice s sn sc, Value.func (Fn.func 47) #[] #[]] W Q :=
  Sx.sound Tryd.func39 (.node [] [] 0 .leaf (.node [] [] 0 (.node [] [] 0 .leaf (.node [] [] 0 (.node [(8, .int .i64)] [7, 1, 0] 0 .leaf .leaf) .leaf)) .leaf)) [Value.slice s sn sc, Value.func (Fn.func 47) #[] #[]] rfl (Eq.mp (by kernel_rfl) hVC)
theorem vc39f {W : World} {Q : Ending → World → Prop} (s : Option Addr) (sn : Nat) (sc : Nat) (f0 : Nat)
  (hVC :
    (∃ I : Int → World → Prop, (∃ I2 : Int → World → Nat, (I 0 W ∧
    ((Nat →
    Value) →
    (∀ x : Int, (∀ W2 : World, (I x W2 →
    Sx.split (decide (x < (↑sn : Int)))
     ((((0 : Int) ≤ x ∧
       x < (↑sn : Int)) ∧
      Sx.adr s (fun k =>
       (fun k2 =>
       (∃ p : Option Addr, (World.cell? W2 (Addr.mk k (k2 + Int.toNat x * 1) none) = some (Value.pointer p) ∧
       Calls Tryd.prog 56 #[Value.pointer p, Value.pointer (some (Addr.mk f0 0 none))] W2 (fun e =>
        (fun W3 =>
        (∃ t : Bool, (e = Ending.returned (Value.bool t) ∧
        Sx.split t
         (Q (Ending.returned (Value.int IntKind.i64 x)) W3)
         ((∀ z : Int, (z = IntKind.wrap IntKind.i64 (x + 1) →
          (I z W3 ∧
          I2 z W3 < I2 x W2))))))))))))))
     (Q (Ending.returned (Value.int IntKind.i64 (-1))) W2))))))))) :
  Calls Tryd.prog 39 #[Value.slice s sn sc, Value.func (Fn.func 56) #[] #[Value.pointer (some ⟨f0, 0, none⟩)]] W Q :=
  Sx.sound Tryd.func39 (.node [] [] 0 .leaf (.node [] [] 0 (.node [] [] 0 .leaf (.node [] [] 0 (.node [(8, .int .i64)] [7, 1, 0] 0 .leaf .leaf) .leaf)) .leaf)) [Value.slice s sn sc, Value.func (Fn.func 56) #[] #[Value.pointer (some ⟨f0, 0, none⟩)]] rfl (Eq.mp (by kernel_rfl) hVC)
theorem vc39q {W : World} {Q : Ending → World → Prop} (s : Option Addr) (sn : Nat) (sc : Nat) (f0 : Nat)
  (hVC :
    (∃ I : Int → World → Prop, (∃ I2 : Int → World → Nat, (I 0 W ∧
    ((Nat →
    Value) →
    (∀ x : Int, (∀ W2 : World, (I x W2 →
    Sx.split (decide (x < (↑sn : Int)))
     ((((0 : Int) ≤ x ∧
       x < (↑sn : Int)) ∧
      Sx.adr s (fun k =>
       (fun k2 =>
       (∃ p : Option Addr, (World.cell? W2 (Addr.mk k (k2 + Int.toNat x * 1) none) = some (Value.pointer p) ∧
       Calls Tryd.prog 55 #[Value.pointer p, Value.pointer (some (Addr.mk f0 0 none))] W2 (fun e =>
        (fun W3 =>
        (∃ t : Bool, (e = Ending.returned (Value.bool t) ∧
        Sx.split t
         (Q (Ending.returned (Value.int IntKind.i64 x)) W3)
         ((∀ z : Int, (z = IntKind.wrap IntKind.i64 (x + 1) →
          (I z W3 ∧
          I2 z W3 < I2 x W2))))))))))))))
     (Q (Ending.returned (Value.int IntKind.i64 (-1))) W2))))))))) :
  Calls Tryd.prog 39 #[Value.slice s sn sc, Value.func (Fn.func 55) #[] #[Value.pointer (some ⟨f0, 0, none⟩)]] W Q :=
  Sx.sound Tryd.func39 (.node [] [] 0 .leaf (.node [] [] 0 (.node [] [] 0 .leaf (.node [] [] 0 (.node [(8, .int .i64)] [7, 1, 0] 0 .leaf .leaf) .leaf)) .leaf)) [Value.slice s sn sc, Value.func (Fn.func 55) #[] #[Value.pointer (some ⟨f0, 0, none⟩)]] rfl (Eq.mp (by kernel_rfl) hVC)
theorem vc40 {W : World} {Q : Ending → World → Prop} (e : Nat) (eo : Nat)
  (hVC :
    (∃ t : Bool, (World.cell? W (Addr.mk e (eo + 12) none) = some (Value.bool t) ∧
    Q (Ending.returned (Value.bool !t)) W))) :
  Calls Tryd.prog 40 #[Value.pointer (some ⟨e, eo, none⟩)] W Q :=
  Sx.sound Tryd.func40 .leaf [Value.pointer (some ⟨e, eo, none⟩)] rfl (Eq.mp (by kernel_rfl) hVC)
theorem vc41 {W : World} {Q : Ending → World → Prop} (s : Option Addr) (sn : Nat) (sc : Nat) (i : Int) (j : Int)
  (hVC :
    (((0 : Int) ≤ i ∧
     (i ≤ j ∧
     (j ≤ (↑sn : Int) ∧
     (↑sn : Int) ≤ (↑sc : Int)))) ∧
    Sx.split (i == j)
     (Q (Ending.returned (Value.slice s sn sc)) W)
     ((∀ W2 : World, (W2 = World.drew W →
      (((0 : Int) ≤ i ∧
       i ≤ (↑sc : Int)) ∧
      (((0 : Int) ≤ j ∧
       j ≤ (↑sn : Int)) ∧
      (∃ l : List Value, (∃ l2 : List Value, (XHeap.Sl W2 87 1 (Value.slice s (Int.toNat i) sc) (Int.toNat i) l ∧
      ((((sn - Int.toNat j = 0 ∧
        Sx.sub s sc (Int.toNat j) 1 = none)) ∨
       ((∃ a : Addr, (Sx.sub s sc (Int.toNat j) 1 = some a ∧
       (∀ k : Nat, (∀ v : Value, (l2[k]? = some v →
       World.cell? W2 (Addr.add a k) = some v))))))) ∧
      (List.length l2 = (sn - Int.toNat j) * 1 ∧
      ((∀ v2 : Value, (v2 ∈ l2 →
       Value.oneCell' v2 = true)) ∧
      (Int.toNat i + (sn - Int.toNat j) ≤ maxLen ∧
      ((Int.toNat i + (sn - Int.toNat j)) * 8 ≤ 140737488355328 ∧
      (∀ p : Option Addr, (∀ k2 : Nat, (∀ W3 : World, (XHeap.Sl W3 87 1 (Value.slice p (Int.toNat i + (sn - Int.toNat j)) k2) (Int.toNat i + (sn - Int.toNat j)) (l ++ l2) →
      (XHeap.XTouch (fun b => Value.ownBlock (Value.slice s (Int.toNat i) sc) = some b) W2 W3 →
      ((∀ k3 : Nat, (Value.ownBlock (Value.slice p (Int.toNat i + (sn - Int.toNat j)) k2) = some k3 →
      ((Value.ownBlock (Value.slice s (Int.toNat i) sc) = some k3) ∨
      (Array.size (World.heap W2) ≤ k3)))) →
      (XHeap.Sl W3 87 1 (Value.slice s (Int.toNat i) sc) (Int.toNat i) l →
      ((((p = s ∧
       k2 = sc)) ∨
      ((((XHeap.NilP s) ∨
       (sc < Int.toNat i + (sn - Int.toNat j))) ∧
      (∀ k4 : Nat, (Value.ownBlock (Value.slice p (Int.toNat i + (sn - Int.toNat j)) k2) = some k4 →
      Array.size (World.heap W2) ≤ k4))))) →
      (((0 : Int) ≤ (↑(Int.toNat i + (sn - Int.toNat j)) : Int) ∧
       ((↑(Int.toNat i + (sn - Int.toNat j)) : Int) ≤ (↑sn : Int) ∧
       (↑sn : Int) ≤ (↑k2 : Int))) ∧
      (((Int.toNat (↑sn : Int) - Int.toNat (↑(Int.toNat i + (sn - Int.toNat j)) : Int) = 0) ∨
       ((∃ k5 : Nat, (∃ k6 : Nat, (Sx.sub p k2 (Int.toNat (↑(Int.toNat i + (sn - Int.toNat j)) : Int)) 1 = some (Addr.mk k5 k6 none) ∧
       (∀ k7 : Nat, (k7 < Int.toNat (↑sn : Int) - Int.toNat (↑(Int.toNat i + (sn - Int.toNat j)) : Int) →
       ((∃ v3 : Value, World.cell? W3 (Addr.mk k5 (k6 + k7) none) = some v3) ∧
       World.frozen? W3 (Addr.mk k5 (k6 + k7) none) = false)))))))) ∧
      (∀ W4 : World, (W4 = Sx.setRow (Sx.sub p k2 (Int.toNat (↑(Int.toNat i + (sn - Int.toNat j)) : Int)) 1) W3 (List.replicate (Int.toNat (↑sn : Int) - Int.toNat (↑(Int.toNat i + (sn - Int.toNat j)) : Int)) (Value.pointer none)) →
      Q (Ending.returned (Value.slice p (Int.toNat i + (sn - Int.toNat j)) k2)) W4))))))))))))))))))))))))))) :
  Calls Tryd.prog 41 #[Value.slice s sn sc, Value.int .i64 i, Value.int .i64 j] W Q :=
  Sx.sound Tryd.func41 (.node [] [] 0 .leaf (.node [] [] 0 .leaf (.node [] [] 0 .leaf (.node [] [] 0 .leaf (.node [] [] 0 (.node [] [] 7 .leaf .leaf) .leaf))))) [Value.slice s sn sc, Value.int .i64 i, Value.int .i64 j] rfl (Eq.mp (by kernel_rfl) hVC)
theorem vc42 {W : World} {Q : Ending → World → Prop} (q : Nat) (qo : Nat) (seq : Int)
  (hVC :
    (∀ k : Nat, (∀ W2 : World, (k = Array.size (World.heap W) →
    (W2 = World.alloc W (Obj.cells #[Value.int IntKind.i64 seq] 3) →
    (∃ p : Option Addr, (∃ k2 : Nat, (∃ k3 : Nat, (World.cell? W2 (Addr.mk q (qo + 1) none) = some (Value.slice p k2 k3) ∧
    Calls Tryd.prog 39 #[Value.slice p k2 k3, Value.func (Fn.func 56) #[] #[Value.pointer (some (Addr.mk k 0 none))]] W2 (fun e =>
     (fun W3 =>
     (∃ z : Int, (e = Ending.returned (Value.int IntKind.i64 z) ∧
     Q (Ending.returned (Value.int IntKind.i64 z)) W3))))))))))))) :
  Calls Tryd.prog 42 #[Value.pointer (some ⟨q, qo, none⟩), Value.int .i64 seq] W Q :=
  Sx.sound Tryd.func42 .leaf [Value.pointer (some ⟨q, qo, none⟩), Value.int .i64 seq] rfl (Eq.mp (by kernel_rfl) hVC)
theorem vc43 {W : World} {Q : Ending → World → Prop} (e : Nat) (eo : Nat) (addr : Int) (size : Int)
  (hVC :
    (∃ z : Int, (World.cell? W (Addr.mk e (eo + 4) none) = some (Value.int IntKind.u32 z) ∧
    (∀ z2 : Int, (z2 = IntKind.wrap IntKind.u32 (z - addr) →
    (∀ z3 : Int, (z3 = IntKind.wrap IntKind.i32 z2 →
    (∀ z4 : Int, (z4 = IntKind.wrap IntKind.i64 z3 →
    (∃ z5 : Int, (World.cell? W (Addr.mk e (eo + 5) none) = some (Value.int IntKind.i64 z5) ∧
    (∀ z6 : Int, (z6 = IntKind.wrap IntKind.i64 (z4 + z5) →
    (∀ W2 : World, (∀ k : Nat, (W2 = World.drewN W k →
    Q (Ending.returned (Value.tuple #[Value.int IntKind.i64 (if z4 > 0 then z4 else 0), Value.int IntKind.i64 (if z6 < size then z6 else size)])) W2)))))))))))))))) :
  Calls Tryd.prog 43 #[Value.pointer (some ⟨e, eo, none⟩), Value.int .u32 addr, Value.int .i64 size] W Q :=
  Sx.sound Tryd.func43 .leaf [Value.pointer (some ⟨e, eo, none⟩), Value.int .u32 addr, Value.int .i64 size] rfl (Eq.mp (by kernel_rfl) hVC)
theorem vc45 {W : World} {Q : Ending → World → Prop} (q : Nat) (qo : Nat) (seq : Int)
  (hVC :
    Calls Tryd.prog 42 #[Value.pointer (some (Addr.mk q qo none)), Value.int IntKind.i64 seq] W (fun e =>
     (fun W2 =>
     (∃ z : Int, (e = Ending.returned (Value.int IntKind.i64 z) ∧
     Sx.split (decide (z ≥ 0))
      ((∃ p : Option Addr, (∃ k : Nat, (∃ k2 : Nat, (World.cell? W2 (Addr.mk q (qo + 1) none) = some (Value.slice p k k2) ∧
       (((0 : Int) ≤ z ∧
        z < (↑k : Int)) ∧
       Sx.adr p (fun k3 =>
        (fun k4 =>
        (∃ p2 : Option Addr, (World.cell? W2 (Addr.mk k3 (k4 + Int.toNat z * 1) none) = some (Value.pointer p2) ∧
        Sx.ptr p2 (fun a =>
         (∃ t : Bool, (World.cell? W2 (Addr.add a 1) = some (Value.bool t) ∧
         Sx.split t
          (Q (Ending.returned (Value.int IntKind.i64 (-1))) W2)
          ((∃ p3 : Option Addr, (∃ k5 : Nat, (∃ k6 : Nat, (World.cell? W2 (Addr.mk q (qo + 1) none) = some (Value.slice p3 k5 k6) ∧
           (((0 : Int) ≤ z ∧
            z < (↑k5 : Int)) ∧
           Sx.adr p3 (fun k7 =>
            (fun k8 =>
            (∃ p4 : Option Addr, (World.cell? W2 (Addr.mk k7 (k8 + Int.toNat z * 1) none) = some (Value.pointer p4) ∧
            Sx.ptr p4 (fun a2 =>
             (∃ t2 : Bool, (World.cell? W2 (Addr.add a2 2) = some (Value.bool t2) ∧
             Sx.split (!t2)
              (Q (Ending.returned (Value.int IntKind.i64 (-1))) W2)
              (Q (Ending.returned (Value.int IntKind.i64 z)) W2)))))))))))))))))))))))))))
      (Q (Ending.returned (Value.int IntKind.i64 z)) W2)))))) :
  Calls Tryd.prog 45 #[Value.pointer (some ⟨q, qo, none⟩), Value.int .i64 seq] W Q :=
  Sx.sound Tryd.func45 .leaf [Value.pointer (some ⟨q, qo, none⟩), Value.int .i64 seq] rfl (Eq.mp (by kernel_rfl) hVC)
theorem vc46 {W : World} {Q : Ending → World → Prop} (s : Option Addr) (sn : Nat) (sc : Nat)
  (hVC :
    Calls Tryd.prog 39 #[Value.slice s sn sc, Value.func (Fn.func 47) #[] #[]] W (fun e =>
     (fun W2 =>
     (∃ z : Int, (e = Ending.returned (Value.int IntKind.i64 z) ∧
     Q (Ending.returned (Value.bool (decide (z ≥ 0)))) W2))))) :
  Calls Tryd.prog 46 #[Value.slice s sn sc, Value.func (Fn.func 47) #[] #[]] W Q :=
  Sx.sound Tryd.func46 .leaf [Value.slice s sn sc, Value.func (Fn.func 47) #[] #[]] rfl (Eq.mp (by kernel_rfl) hVC)
theorem vc47 {W : World} {Q : Ending → World → Prop} (e : Nat) (eo : Nat)
  (hVC :
    (∃ t : Bool, (World.cell? W (Addr.mk e (eo + 1) none) = some (Value.bool t) ∧
    Sx.split t
     ((∃ t2 : Bool, (World.cell? W (Addr.mk e (eo + 2) none) = some (Value.bool t2) ∧
      Q (Ending.returned (Value.bool !t2)) W)))
     (Q (Ending.returned (Value.bool false)) W)))) :
  Calls Tryd.prog 47 #[Value.pointer (some ⟨e, eo, none⟩)] W Q :=
  Sx.sound Tryd.func47 .leaf [Value.pointer (some ⟨e, eo, none⟩)] rfl (Eq.mp (by kernel_rfl) hVC)
theorem vc53 {W : World} {Q : Ending → World → Prop} (s : Option Addr) (sn : Nat) (sc : Nat) (v : Int)
  (hVC :
    Calls Tryd.prog 61 #[Value.slice s sn sc, Value.int IntKind.i64 v] W (fun e =>
     (fun W2 =>
     (∃ z : Int, (e = Ending.returned (Value.int IntKind.i64 z) ∧
     Q (Ending.returned (Value.bool (decide (z ≥ 0)))) W2))))) :
  Calls Tryd.prog 53 #[Value.slice s sn sc, Value.int .i64 v] W Q :=
  Sx.sound Tryd.func53 .leaf [Value.slice s sn sc, Value.int .i64 v] rfl (Eq.mp (by kernel_rfl) hVC)
theorem vc54 {W : World} {Q : Ending → World → Prop} (s : Option Addr) (sn : Nat) (sc : Nat) (del0 : Nat)
  (hVC :
    Calls Tryd.prog 39 #[Value.slice s sn sc, Value.func (Fn.func 55) #[] #[Value.pointer (some (Addr.mk del0 0 none))]] W (fun e =>
     (fun W2 =>
     (∃ z : Int, (e = Ending.returned (Value.int IntKind.i64 z) ∧
     Sx.split (z == -1)
      (Q (Ending.returned (Value.slice s sn sc)) W2)
      ((∀ z2 : Int, (z2 = IntKind.wrap IntKind.i64 (z + 1) →
       (∃ I : Int → Int → World → Prop, (∃ I2 : Int → Int → World → Nat, (I z2 z W2 ∧
       ((Nat →
       Value) →
       (∀ j : Int, (∀ i : Int, (∀ W3 : World, (I j i W3 →
       Sx.split (decide (j < (↑sn : Int)))
        ((((0 : Int) ≤ j ∧
          j < (↑sn : Int)) ∧
         Sx.adr s (fun k =>
          (fun k2 =>
          (∃ p : Option Addr, (World.cell? W3 (Addr.mk k (k2 + Int.toNat j * 1) none) = some (Value.pointer p) ∧
          Calls Tryd.prog 55 #[Value.pointer p, Value.pointer (some (Addr.mk del0 0 none))] W3 (fun e2 =>
           (fun W4 =>
           (∃ t : Bool, (e2 = Ending.returned (Value.bool t) ∧
           Sx.split (!t)
            ((((0 : Int) ≤ i ∧
              i < (↑sn : Int)) ∧
             Sx.adr s (fun k3 =>
              (fun k4 =>
              ((∃ v : Value, World.cell? W4 (Addr.mk k3 (k4 + Int.toNat i * 1) none) = some v) ∧
              (World.frozen? W4 (Addr.mk k3 (k4 + Int.toNat i * 1) none) = false ∧
              (∀ W5 : World, (W5 = World.setCell W4 (Addr.mk k3 (k4 + Int.toNat i * 1) none) (Value.pointer p) →
              (∀ z3 : Int, (z3 = IntKind.wrap IntKind.i64 (i + 1) →
              (∀ z4 : Int, (z4 = IntKind.wrap IntKind.i64 (j + 1) →
              (I z4 z3 W5 ∧
              I2 z4 z3 W5 < I2 j i W3)))))))))))))
            ((∀ z5 : Int, (z5 = IntKind.wrap IntKind.i64 (j + 1) →
             (I z5 i W4 ∧
             I2 z5 i W4 < I2 j i W3))))))))))))))
        ((((0 : Int) ≤ i ∧
          i ≤ (↑sn : Int)) ∧
         (((sn - Int.toNat i = 0) ∨
          ((∃ k5 : Nat, (∃ k6 : Nat, (Sx.sub s sc (Int.toNat i) 1 = some (Addr.mk k5 k6 none) ∧
          (∀ k7 : Nat, (k7 < sn - Int.toNat i →
          ((∃ v2 : Value, World.cell? W3 (Addr.mk k5 (k6 + k7) none) = some v2) ∧
          World.frozen? W3 (Addr.mk k5 (k6 + k7) none) = false)))))))) ∧
         (∀ W6 : World, (W6 = Sx.setRow (Sx.sub s sc (Int.toNat i) 1) W3 (List.replicate (sn - Int.toNat i) (Value.pointer none)) →
         (((0 : Int) ≤ i ∧
          i ≤ (↑sc : Int)) ∧
         Q (Ending.returned (Value.slice s (Int.toNat i) sc)) W6)))))))))))))))))))))) :
  Calls Tryd.prog 54 #[Value.slice s sn sc, Value.func (Fn.func 55) #[] #[Value.pointer (some ⟨del0, 0, none⟩)]] W Q :=
  Sx.sound Tryd.func54 (.node [] [] 0 .leaf (.node [] [] 0 .leaf (.node [] [] 0 .leaf (.node [] [] 0 (.node [] [] 0 .leaf (.node [] [] 0 (.node [(6, .int .i64), (5, .int .i64)] [0, 1] 0 .leaf .leaf) .leaf)) .leaf)))) [Value.slice s sn sc, Value.func (Fn.func 55) #[] #[Value.pointer (some ⟨del0, 0, none⟩)]] rfl (Eq.mp (by kernel_rfl) hVC)
theorem vc55 {W : World} {Q : Ending → World → Prop} (e : Nat) (eo : Nat) (fv0 : Nat) (fv0o : Nat)
  (hVC :
    (∃ z : Int, (World.cell? W (Addr.mk e eo none) = some (Value.int IntKind.i64 z) ∧
    (∃ z2 : Int, (World.cell? W (Addr.mk fv0 fv0o none) = some (Value.int IntKind.i64 z2) ∧
    Sx.split (decide (z > z2))
     ((∃ t : Bool, (World.cell? W (Addr.mk e (eo + 12) none) = some (Value.bool t) ∧
      (∀ W2 : World, (∀ k : Nat, (W2 = World.drewN W k →
      Q (Ending.returned (Value.bool !t)) W2))))))
     ((∀ W3 : World, (∀ k2 : Nat, (W3 = World.drewN W k2 →
      Q (Ending.returned (Value.bool false)) W3))))))))) :
  Calls Tryd.prog 55 #[Value.pointer (some ⟨e, eo, none⟩), Value.pointer (some ⟨fv0, fv0o, none⟩)] W Q :=
  Sx.sound Tryd.func55 .leaf [Value.pointer (some ⟨e, eo, none⟩), Value.pointer (some ⟨fv0, fv0o, none⟩)] rfl (Eq.mp (by kernel_rfl) hVC)
theorem vc56 {W : World} {Q : Ending → World → Prop} (e : Nat) (eo : Nat) (fv0 : Nat) (fv0o : Nat)
  (hVC :
    (∃ z : Int, (World.cell? W (Addr.mk e eo none) = some (Value.int IntKind.i64 z) ∧
    (∃ z2 : Int, (World.cell? W (Addr.mk fv0 fv0o none) = some (Value.int IntKind.i64 z2) ∧
    Sx.split (z == z2)
     ((∃ t : Bool, (World.cell? W (Addr.mk e (eo + 12) none) = some (Value.bool t) ∧
      (∀ W2 : World, (∀ k : Nat, (W2 = World.drewN W k →
      Q (Ending.returned (Value.bool !t)) W2))))))
     ((∀ W3 : World, (∀ k2 : Nat, (W3 = World.drewN W k2 →
      Q (Ending.returned (Value.bool false)) W3))))))))) :
  Calls Tryd.prog 56 #[Value.pointer (some ⟨e, eo, none⟩), Value.pointer (some ⟨fv0, fv0o, none⟩)] W Q :=
  Sx.sound Tryd.func56 .leaf [Value.pointer (some ⟨e, eo, none⟩), Value.pointer (some ⟨fv0, fv0o, none⟩)] rfl (Eq.mp (by kernel_rfl) hVC)
theorem vc61 {W : World} {Q : Ending → World → Prop} (s : Option Addr) (sn : Nat) (sc : Nat) (v : Int)
  (hVC :
    (∃ I : Int → World → Prop, (∃ I2 : Int → World → Nat, (I 0 W ∧
    ((Nat →
    Value) →
    (∀ x : Int, (∀ W2 : World, (I x W2 →
    Sx.split (decide (x < (↑sn : Int)))
     ((((0 : Int) ≤ x ∧
       x < (↑sn : Int)) ∧
      Sx.adr s (fun k =>
       (fun k2 =>
       (∃ z : Int, (World.cell? W2 (Addr.mk k (k2 + Int.toNat x * 1) none) = some (Value.int IntKind.i64 z) ∧
       Sx.split (v == z)
        (Q (Ending.returned (Value.int IntKind.i64 x)) W2)
        ((∀ z2 : Int, (z2 = IntKind.wrap IntKind.i64 (x + 1) →
         (I z2 W2 ∧
         I2 z2 W2 < I2 x W2))))))))))
     (Q (Ending.returned (Value.int IntKind.i64 (-1))) W2))))))))) :
  Calls Tryd.prog 61 #[Value.slice s sn sc, Value.int .i64 v] W Q :=
  Sx.sound Tryd.func61 (.node [] [] 0 .leaf (.node [] [] 0 (.node [] [] 0 .leaf (.node [] [] 0 (.node [(8, .int .i64)] [7, 1, 0] 0 .leaf .leaf) .leaf)) .leaf)) [Value.slice s sn sc, Value.int .i64 v] rfl (Eq.mp (by kernel_rfl) hVC)
theorem vc18 {W : World} {Q : Ending → World → Prop} (arg0 : Nat) (arg0o : Nat) (arg1 : Int) (arg2 : Int) (arg3 : Int)
  (hVC :
    Calls Tryd.prog 42 #[Value.pointer (some (Addr.mk arg0 arg0o none)), Value.int IntKind.i64 arg1] W (fun e =>
     (fun W2 =>
     (∃ z : Int, (e = Ending.returned (Value.int IntKind.i64 z) ∧
     Sx.split (decide (z < 0))
      (Q (Ending.returned (Value.tuple #[Value.int IntKind.i64 (-1), Value.iface 73 (Value.int IntKind.i64 7)])) W2)
      ((∃ p : Option Addr, (∃ k : Nat, (∃ k2 : Nat, (World.cell? W2 (Addr.mk arg0 (arg0o + 1) none) = some (Value.slice p k k2) ∧
       (((0 : Int) ≤ z ∧
        z < (↑k : Int)) ∧
       Sx.adr p (fun k3 =>
        (fun k4 =>
        (∃ p2 : Option Addr, (World.cell? W2 (Addr.mk k3 (k4 + Int.toNat z * 1) none) = some (Value.pointer p2) ∧
        Sx.ptr p2 (fun a =>
         (∃ t : Bool, (World.cell? W2 (Addr.add a 2) = some (Value.bool t) ∧
         Sx.split t
          (Q (Ending.returned (Value.tuple #[Value.int IntKind.i64 (-1), Value.iface 73 (Value.int IntKind.i64 7)])) W2)
          ((∃ I : World → Prop, (Sx.split (arg3 != 1)
             (Sx.split (arg3 != 2)
               (Sx.split (arg3 != 4)
                 (Q (Ending.returned (Value.tuple #[Value.int IntKind.i64 (-1), Value.iface 73 (Value.int IntKind.i64 3)])) W2)
                 ((∀ z2 : Int, (z2 = IntKind.wrap IntKind.u32 arg3 →
                  (z2 ≠ 0 ∧
                  (∀ z3 : Int, (z3 = Int.tmod arg2 z2 →
                  Sx.split (z3 != 0)
                   (Q (Ending.returned (Value.tuple #[Value.int IntKind.i64 (-1), Value.iface 73 (Value.int IntKind.i64 3)])) W2)
                   (I W2))))))))
               ((∀ z4 : Int, (z4 = IntKind.wrap IntKind.u32 arg3 →
                (z4 ≠ 0 ∧
                (∀ z5 : Int, (z5 = Int.tmod arg2 z4 →
                Sx.split (z5 != 0)
                 (Q (Ending.returned (Value.tuple #[Value.int IntKind.i64 (-1), Value.iface 73 (Value.int IntKind.i64 3)])) W2)
                 (I W2))))))))
             ((∀ z6 : Int, (z6 = IntKind.wrap IntKind.u32 arg3 →
              (z6 ≠ 0 ∧
              (∀ z7 : Int, (z7 = Int.tmod arg2 z6 →
              Sx.split (z7 != 0)
               (Q (Ending.returned (Value.tuple #[Value.int IntKind.i64 (-1), Value.iface 73 (Value.int IntKind.i64 3)])) W2)
               (I W2))))))) ∧
           ((Nat →
           Value) →
           (∀ W3 : World, (I W3 →
           (∃ p3 : Option Addr, (∃ k5 : Nat, (∃ k6 : Nat, (World.cell? W3 (Addr.mk arg0 (arg0o + 1) none) = some (Value.slice p3 k5 k6) ∧
           (((0 : Int) ≤ z ∧
            z < (↑k5 : Int)) ∧
           Sx.adr p3 (fun k7 =>
            (fun k8 =>
            (∃ p4 : Option Addr, (World.cell? W3 (Addr.mk k7 (k8 + Int.toNat z * 1) none) = some (Value.pointer p4) ∧
            Sx.ptr p4 (fun a2 =>
             ((∃ v : Value, World.cell? W3 (Addr.add a2 2) = some v) ∧
             (World.frozen? W3 (Addr.add a2 2) = false ∧
             (∀ W4 : World, (W4 = World.setCell W3 (Addr.add a2 2) (Value.bool true) →
             Sx.ptr p4 (fun a3 =>
              ((∃ v2 : Value, World.cell? W4 (Addr.add a3 4) = some v2) ∧
              (World.frozen? W4 (Addr.add a3 4) = false ∧
              (∀ W5 : World, (W5 = World.setCell W4 (Addr.add a3 4) (Value.int IntKind.u32 arg2) →
              Sx.ptr p4 (fun a4 =>
               ((∃ v3 : Value, World.cell? W5 (Addr.add a4 5) = some v3) ∧
               (World.frozen? W5 (Addr.add a4 5) = false ∧
               (∀ W6 : World, (W6 = World.setCell W5 (Addr.add a4 5) (Value.int IntKind.i64 arg3) →
               Sx.ptr p4 (fun a5 =>
                (∃ t2 : Bool, (World.cell? W6 (Addr.add a5 1) = some (Value.bool t2) ∧
                Sx.split (!t2)
                 (Q (Ending.returned (Value.tuple #[Value.int IntKind.i64 (-1), Value.nilIface])) W6)
                 ((∃ p5 : Option Addr, (∃ k9 : Nat, (∃ k10 : Nat, (World.cell? W6 (Addr.mk arg0 (arg0o + 1) none) = some (Value.slice p5 k9 k10) ∧
                  (∀ z8 : Int, (z8 = IntKind.wrap IntKind.i64 (z + 1) →
                  (((0 : Int) ≤ z8 ∧
                   z8 ≤ (↑k9 : Int)) ∧
                  (∃ I2 : Int → World → Prop, (∃ I3 : Int → World → Nat, (I2 0 W6 ∧
                  ((Nat →
                  Value) →
                  (∀ x : Int, (∀ W7 : World, (I2 x W7 →
                  Sx.split (decide (x < (↑(k9 - Int.toNat z8) : Int)))
                   ((((0 : Int) ≤ x ∧
                     x < (↑(k9 - Int.toNat z8) : Int)) ∧
                    Sx.adr (Sx.sub p5 k10 (Int.toNat z8) 1) (fun k11 =>
                     (fun k12 =>
                     (∃ p6 : Option Addr, (World.cell? W7 (Addr.mk k11 (k12 + Int.toNat x * 1) none) = some (Value.pointer p6) ∧
                     Sx.ptr p6 (fun a6 =>
                      (∃ z9 : Int, (World.cell? W7 (Addr.add a6 4) = some (Value.int IntKind.u32 z9) ∧
                      Sx.ptr p6 (fun a7 =>
                       (∃ z10 : Int, (World.cell? W7 (Addr.add a7 5) = some (Value.int IntKind.i64 z10) ∧
                       (∃ z11 : Int, (∃ z12 : Int, ((∀ k13 : Nat, Calls Tryd.prog 43 #[Value.pointer p4, Value.int IntKind.u32 z9, Value.int IntKind.i64 z10] (World.drewN W7 k13) (fun e2 =>
                         (fun W8 =>
                         (e2 = Ending.returned (Value.tuple #[Value.int IntKind.i64 z11, Value.int IntKind.i64 z12]) ∧
                         (∃ k14 : Nat, W8 = World.drewN W7 k14))))) ∧
                       (∀ W9 : World, (∀ k15 : Nat, (W9 = World.drewN W7 k15 →
                       (∃ I4 : Int → World → Prop, (∃ I5 : Int → World → Nat, (I4 z11 W9 ∧
                       ((Nat →
                       Value) →
                       (∀ x2 : Int, (∀ W10 : World, (I4 x2 W10 →
                       Sx.ptr p6 (fun a8 =>
                        (∃ t3 : Bool, (World.cell? W10 (Addr.add a8 7) = some (Value.bool t3) ∧
                        Sx.split t3
                         (Sx.split (decide (x2 < z12))
                           (Sx.ptr p6 (fun a9 =>
                             (((0 : Int) ≤ x2 ∧
                              x2 < (↑4 : Int)) ∧
                             (∃ z13 : Int, (World.cell? W10 (Addr.mk (Addr.block a9) (Addr.off a9 + 8 + Int.toNat x2 * 1) none) = some (Value.int IntKind.i64 z13) ∧
                             Sx.split (decide (z13 < arg1))
                              (Sx.ptr p6 (fun a10 =>
                                (∃ z14 : Int, (World.cell? W10 (Addr.add a10 0) = some (Value.int IntKind.i64 z14) ∧
                                Q (Ending.returned (Value.tuple #[Value.int IntKind.i64 z14, Value.nilIface])) W10))))
                              ((∀ z15 : Int, (z15 = IntKind.wrap IntKind.i64 (x2 + 1) →
                               (I4 z15 W10 ∧
                               I5 z15 W10 < I5 x2 W10)))))))))
                           ((∀ z16 : Int, (z16 = IntKind.wrap IntKind.i64 (x + 1) →
                            (I2 z16 W10 ∧
                            I3 z16 W10 < I3 x W7)))))
                         ((∀ z17 : Int, (z17 = IntKind.wrap IntKind.i64 (x + 1) →
                          (I2 z17 W10 ∧
                          I3 z17 W10 < I3 x W7))))))))))))))))))))))))))))))))
                   (Q (Ending.returned (Value.tuple #[Value.int IntKind.i64 (-1), Value.nilIface])) W7))))))))))))))))))))))))))))))))))))))))))))))))))))))))))))))))))) :
  Calls Tryd.prog 18 #[Value.pointer (some ⟨arg0, arg0o, none⟩), Value.int .i64 arg1, Value.int .u32 arg2, Value.int .i64 arg3] W Q :=
  Sx.sound Tryd.func18 (.node [] [] 0 .leaf (.node [] [] 0 .leaf (.node [] [] 0 .leaf (.node [] [0, 10, 2, 3, 1] 1 .leaf (.node [] [] 0 .leaf (.node [] [] 0 .leaf (.node [] [] 0 .leaf (.node [] [] 0 (.node [] [] 0 .leaf (.node [] [] 0 (.node [(84, .int .i64)] [83, 82, 11, 1] 0 (.node [] [] 0 .leaf (.node [] [] 0 .leaf (.node [] [] 0 (.node [] [] 0 (.node [] [] 0 .leaf (.node [] [] 0 .leaf (.node [] [] 0 .leaf (.node [] [] 0 (.node [(16, .int .i64)] [13, 15, 1, 84, 83, 82, 11] 0 .leaf .leaf) .leaf)))) .leaf) .leaf))) .leaf) .leaf)) .leaf)))))))) [Value.pointer (some ⟨arg0, arg0o, none⟩), Value.int .i64 arg1, Value.int .u32 arg2, Value.int .i64 arg3] rfl (Eq.mp (by kernel_rfl) hVC)
theorem vc48 {W : World} {Q : Ending → World → Prop} (arg0 : Nat) (arg0o : Nat) (arg1 : Int)
  (hVC :
    (∀ k : Nat, (∀ W2 : World, (k = Array.size (World.heap W) →
    (W2 = World.alloc W (Obj.cells #[Value.bool false, Value.int IntKind.i64 0, Value.int IntKind.u32 0] 63) →
    (∀ k2 : Nat, (∀ W3 : World, (k2 = Array.size (World.heap W2) →
    (W3 = World.alloc W2 (Obj.cells #[Value.int IntKind.i64 0, Value.int IntKind.i64 0, Value.int IntKind.i64 0, Value.int IntKind.i64 0] 88) →
    (∃ p : Option Addr, (∃ k3 : Nat, (∃ k4 : Nat, (World.cell? W3 (Addr.mk arg0 (arg0o + 1) none) = some (Value.slice p k3 k4) ∧
    (((0 : Int) ≤ arg1 ∧
     arg1 < (↑k3 : Int)) ∧
    Sx.adr p (fun k5 =>
     (fun k6 =>
     (∃ p2 : Option Addr, (World.cell? W3 (Addr.mk k5 (k6 + Int.toNat arg1 * 1) none) = some (Value.pointer p2) ∧
     (∀ vs : Array Value, (vs = #[Value.int IntKind.i64 (-1), Value.int IntKind.i64 (-1), Value.int IntKind.i64 (-1), Value.int IntKind.i64 (-1)] →
     (Array.size vs = 4 ∧
     ((∀ k7 : Nat, (k7 < 4 →
      ((∃ v : Value, World.cell? W3 (Addr.mk k2 (0 + k7) none) = some v) ∧
      World.frozen? W3 (Addr.mk k2 (0 + k7) none) = false))) ∧
     ((∀ v2 : Value, (v2 ∈ Array.toList vs →
      Value.oneCell' v2 = true)) ∧
     (∀ W4 : World, (W4 = World.setCells W3 k2 0 (Array.toList vs) →
     (∀ z : Int, (z = IntKind.wrap IntKind.i64 (arg1 - 1) →
     (∃ I : Int → World → Prop, (∃ I2 : Int → World → Nat, (I z W4 ∧
     ((Nat →
     Value) →
     (∀ x : Int, (∀ W5 : World, (I x W5 →
     Sx.split (decide (x ≥ 0))
      ((∃ p3 : Option Addr, (∃ k8 : Nat, (∃ k9 : Nat, (World.cell? W5 (Addr.mk arg0 (arg0o + 1) none) = some (Value.slice p3 k8 k9) ∧
       (((0 : Int) ≤ x ∧
        x < (↑k8 : Int)) ∧
       Sx.adr p3 (fun k10 =>
        (fun k11 =>
        (∃ p4 : Option Addr, (World.cell? W5 (Addr.mk k10 (k11 + Int.toNat x * 1) none) = some (Value.pointer p4) ∧
        Sx.ptr p4 (fun a =>
         (∃ t : Bool, (World.cell? W5 (Addr.add a 1) = some (Value.bool t) ∧
         Sx.split (!t)
          ((∀ z2 : Int, (z2 = IntKind.wrap IntKind.i64 (x - 1) →
           (I z2 W5 ∧
           I2 z2 W5 < I2 x W5))))
          (Sx.ptr p4 (fun a2 =>
            (∃ t2 : Bool, (World.cell? W5 (Addr.add a2 2) = some (Value.bool t2) ∧
            Sx.split (!t2)
             ((∀ z3 : Int, (z3 = IntKind.wrap IntKind.i64 (x - 1) →
              (I z3 W5 ∧
              I2 z3 W5 < I2 x W5))))
             (Sx.ptr p2 (fun a3 =>
               (∃ z4 : Int, (World.cell? W5 (Addr.add a3 4) = some (Value.int IntKind.u32 z4) ∧
               Sx.ptr p2 (fun a4 =>
                (∃ z5 : Int, (World.cell? W5 (Addr.add a4 5) = some (Value.int IntKind.i64 z5) ∧
                (∃ z6 : Int, (∃ z7 : Int, ((∀ k12 : Nat, Calls Tryd.prog 43 #[Value.pointer p4, Value.int IntKind.u32 z4, Value.int IntKind.i64 z5] (World.drewN W5 k12) (fun e =>
                  (fun W6 =>
                  (e = Ending.returned (Value.tuple #[Value.int IntKind.i64 z6, Value.int IntKind.i64 z7]) ∧
                  (∃ k13 : Nat, W6 = World.drewN W5 k13))))) ∧
                (∀ W7 : World, (∀ k14 : Nat, (W7 = World.drewN W5 k14 →
                (∃ I3 : Int → World → Prop, (∃ I4 : Int → World → Nat, (I3 z6 W7 ∧
                ((Nat →
                Value) →
                (∀ x2 : Int, (∀ W8 : World, (I3 x2 W8 →
                Sx.split (decide (x2 < z7))
                 ((((0 : Int) ≤ x2 ∧
                   x2 < (↑4 : Int)) ∧
                  (∃ z8 : Int, (World.cell? W8 (Addr.mk k2 (0 + Int.toNat x2 * 1) none) = some (Value.int IntKind.i64 z8) ∧
                  Sx.split (z8 != -1)
                   ((∀ z9 : Int, (z9 = IntKind.wrap IntKind.i64 (x2 + 1) →
                    (I3 z9 W8 ∧
                    I4 z9 W8 < I4 x2 W8))))
                   (Sx.ptr p4 (fun a5 =>
                     (∃ z10 : Int, (World.cell? W8 (Addr.add a5 0) = some (Value.int IntKind.i64 z10) ∧
                     (((0 : Int) ≤ x2 ∧
                      x2 < (↑4 : Int)) ∧
                     ((∃ v3 : Value, World.cell? W8 (Addr.mk k2 (0 + Int.toNat x2 * 1) none) = some v3) ∧
                     (World.frozen? W8 (Addr.mk k2 (0 + Int.toNat x2 * 1) none) = false ∧
                     (∀ W9 : World, (W9 = World.setCell W8 (Addr.mk k2 (0 + Int.toNat x2 * 1) none) (Value.int IntKind.i64 z10) →
                     (∃ I5 : World → Prop, ((∃ t3 : Bool, (World.cell? W9 (Addr.mk k 0 none) = some (Value.bool t3) ∧
                      Sx.split t3
                       (((∃ v4 : Value, World.cell? W9 (Addr.mk k 0 none) = some v4) ∧
                        (World.frozen? W9 (Addr.mk k 0 none) = false ∧
                        (∀ W10 : World, (W10 = World.setCell W9 (Addr.mk k 0 none) (Value.bool true) →
                        I5 W10)))))
                       (Sx.ptr p4 (fun a6 =>
                         (∃ t4 : Bool, (World.cell? W9 (Addr.add a6 3) = some (Value.bool t4) ∧
                         ((∃ v5 : Value, World.cell? W9 (Addr.mk k 0 none) = some v5) ∧
                         (World.frozen? W9 (Addr.mk k 0 none) = false ∧
                         (∀ W11 : World, (W11 = World.setCell W9 (Addr.mk k 0 none) (Value.bool !t4) →
                         I5 W11)))))))))) ∧
                     ((Nat →
                     Value) →
                     (∀ W12 : World, (I5 W12 →
                     (∃ t5 : Bool, (World.cell? W12 (Addr.mk k 0 none) = some (Value.bool t5) ∧
                     Sx.split t5
                      ((∀ W13 : World, (W13 = World.drew W12 →
                       (∀ vs2 : Array Value, (vs2 = #[Value.bool true, Value.int IntKind.i64 0, Value.int IntKind.u32 0] →
                       ((∃ vs3 : Array Value, (Array.size vs3 = 4 ∧
                        (Sx.cellsAt W13 (Addr.mk k2 0 none) vs3 ∧
                        (RowKit.Below (Array.size (World.heap W13)) W13 W13 ∧
                        (Array.size vs2 = 3 ∧
                        ((∀ k15 : Nat, (k15 < 3 →
                         ((∃ v6 : Value, World.cell? W13 (Addr.mk k (0 + k15) none) = some v6) ∧
                         World.frozen? W13 (Addr.mk k (0 + k15) none) = false))) ∧
                        ((∀ v7 : Value, (v7 ∈ Array.toList vs2 →
                         Value.oneCell' v7 = true)) ∧
                        (∀ W14 : World, (W14 = World.setCells W13 k 0 (Array.toList vs2) →
                        (Array.size vs3 = 4 ∧
                        ((∀ k16 : Nat, (k16 < 4 →
                         ((∃ v8 : Value, World.cell? W14 (Addr.mk k2 (0 + k16) none) = some v8) ∧
                         World.frozen? W14 (Addr.mk k2 (0 + k16) none) = false))) ∧
                        ((∀ v9 : Value, (v9 ∈ Array.toList vs3 →
                         Value.oneCell' v9 = true)) ∧
                        (∀ W15 : World, (W15 = World.setCells W14 k2 0 (Array.toList vs3) →
                        (∃ vs4 : Array Value, (Array.size vs4 = 3 ∧
                        (Sx.cellsAt W15 (Addr.mk k 0 none) vs4 ∧
                        (∃ vs5 : Array Value, (Array.size vs5 = 4 ∧
                        (Sx.cellsAt W15 (Addr.mk k2 0 none) vs5 ∧
                        Q (Ending.returned (Value.tuple #[Value.agg vs4, Value.agg vs5])) W15)))))))))))))))))))) ∧
                       (Array.size vs2 = 3 ∧
                       ((∀ k17 : Nat, (k17 < 3 →
                        ((∃ v10 : Value, World.cell? W13 (Addr.mk k (0 + k17) none) = some v10) ∧
                        World.frozen? W13 (Addr.mk k (0 + k17) none) = false))) ∧
                       ((∀ v11 : Value, (v11 ∈ Array.toList vs2 →
                        Value.oneCell' v11 = true)) ∧
                       (∀ W16 : World, (W16 = World.setCells W13 k 0 (Array.toList vs2) →
                       (∃ vs6 : Array Value, (Array.size vs6 = 4 ∧
                       (Sx.cellsAt W16 (Addr.mk k2 0 none) vs6 ∧
                       (Array.size vs6 = 4 ∧
                       ((∀ k18 : Nat, (k18 < 4 →
                        ((∃ v12 : Value, World.cell? W16 (Addr.mk k2 (0 + k18) none) = some v12) ∧
                        World.frozen? W16 (Addr.mk k2 (0 + k18) none) = false))) ∧
                       ((∀ v13 : Value, (v13 ∈ Array.toList vs6 →
                        Value.oneCell' v13 = true)) ∧
                       (∀ W17 : World, (W17 = World.setCells W16 k2 0 (Array.toList vs6) →
                       (∃ vs7 : Array Value, (Array.size vs7 = 3 ∧
                       (Sx.cellsAt W17 (Addr.mk k 0 none) vs7 ∧
                       (∃ vs8 : Array Value, (Array.size vs8 = 4 ∧
                       (Sx.cellsAt W17 (Addr.mk k2 0 none) vs8 ∧
                       Q (Ending.returned (Value.tuple #[Value.agg vs7, Value.agg vs8])) W17)))))))))))))))))))))))))
                      ((∀ W18 : World, (W18 = World.drew W12 →
                       (∃ z11 : Int, (World.cell? W18 (Addr.mk k (0 + 1) none) = some (Value.int IntKind.i64 z11) ∧
                       ((0 : Int) ≤ x2 ∧
                       (∀ z12 : Int, (z12 = IntKind.wrap IntKind.i64 (1 * 2 ^ min (Int.toNat x2) (IntKind.bits IntKind.i64)) →
                       (∀ z13 : Int, (z13 = IntKind.wrap IntKind.i64 (↑(BitVec.toNat (BitVec.ofInt (IntKind.bits IntKind.i64) z11 ||| BitVec.ofInt (IntKind.bits IntKind.i64) z12)) : Int) →
                       ((∃ v14 : Value, World.cell? W18 (Addr.mk k (0 + 1) none) = some v14) ∧
                       (World.frozen? W18 (Addr.mk k (0 + 1) none) = false ∧
                       (∀ W19 : World, (W19 = World.setCell W18 (Addr.mk k (0 + 1) none) (Value.int IntKind.i64 z13) →
                       (∀ W20 : World, (W20 = World.drew W19 →
                       (∃ z14 : Int, (World.cell? W20 (Addr.mk k (0 + 2) none) = some (Value.int IntKind.u32 z14) ∧
                       Sx.ptr p4 (fun a7 =>
                        (∃ z15 : Int, (World.cell? W20 (Addr.add a7 6) = some (Value.int IntKind.u32 z15) ∧
                        Sx.ptr p2 (fun a8 =>
                         (∃ z16 : Int, (World.cell? W20 (Addr.add a8 4) = some (Value.int IntKind.u32 z16) ∧
                         (∀ z17 : Int, (z17 = IntKind.wrap IntKind.u32 x2 →
                         (∀ z18 : Int, (z18 = IntKind.wrap IntKind.u32 (z16 + z17) →
                         Sx.ptr p4 (fun a9 =>
                          (∃ z19 : Int, (World.cell? W20 (Addr.add a9 4) = some (Value.int IntKind.u32 z19) ∧
                          (∀ z20 : Int, (z20 = IntKind.wrap IntKind.u32 (z18 - z19) →
                          (∀ z21 : Int, (z21 = IntKind.wrap IntKind.u32 (8 * z20) →
                          ((0 : Int) ≤ z21 ∧
                          (∀ z22 : Int, (z22 = Int.fdiv z15 (2 ^ min (Int.toNat z21) (IntKind.bits IntKind.u32)) →
                          (∀ z23 : Int, (z23 = IntKind.wrap IntKind.u32 (↑(BitVec.toNat (BitVec.ofInt (IntKind.bits IntKind.u32) z22 &&& BitVec.ofInt (IntKind.bits IntKind.u32) 255)) : Int) →
                          (∀ z24 : Int, (z24 = IntKind.wrap IntKind.i64 (8 * x2) →
                          ((0 : Int) ≤ z24 ∧
                          (∀ z25 : Int, (z25 = IntKind.wrap IntKind.u32 (z23 * 2 ^ min (Int.toNat z24) (IntKind.bits IntKind.u32)) →
                          (∀ z26 : Int, (z26 = IntKind.wrap IntKind.u32 (↑(BitVec.toNat (BitVec.ofInt (IntKind.bits IntKind.u32) z14 ||| BitVec.ofInt (IntKind.bits IntKind.u32) z25)) : Int) →
                          ((∃ v15 : Value, World.cell? W20 (Addr.mk k (0 + 2) none) = some v15) ∧
                          (World.frozen? W20 (Addr.mk k (0 + 2) none) = false ∧
                          (∀ W21 : World, (W21 = World.setCell W20 (Addr.mk k (0 + 2) none) (Value.int IntKind.u32 z26) →
                          (∀ z27 : Int, (z27 = IntKind.wrap IntKind.i64 (x2 + 1) →
                          (I3 z27 W21 ∧
                          I4 z27 W21 < I4 x2 W8))))))))))))))))))))))))))))))))))))))))))))))))))))))))))))))))))))))))))
                 ((∀ z28 : Int, (z28 = IntKind.wrap IntKind.i64 (x - 1) →
                  (I z28 W8 ∧
                  I2 z28 W8 < I2 x W5)))))))))))))))))))))))))))))))))))))))))
      ((∀ W22 : World, (W22 = World.drew W5 →
       (∃ vs9 : Array Value, (Array.size vs9 = 3 ∧
       (Sx.cellsAt W22 (Addr.mk k 0 none) vs9 ∧
       ((∃ vs10 : Array Value, (Array.size vs10 = 4 ∧
        (Sx.cellsAt W22 (Addr.mk k2 0 none) vs10 ∧
        (RowKit.Below (Array.size (World.heap W22)) W22 W22 ∧
        (Array.size vs9 = 3 ∧
        ((∀ k19 : Nat, (k19 < 3 →
         ((∃ v16 : Value, World.cell? W22 (Addr.mk k (0 + k19) none) = some v16) ∧
         World.frozen? W22 (Addr.mk k (0 + k19) none) = false))) ∧
        ((∀ v17 : Value, (v17 ∈ Array.toList vs9 →
         Value.oneCell' v17 = true)) ∧
        (∀ W23 : World, (W23 = World.setCells W22 k 0 (Array.toList vs9) →
        (Array.size vs10 = 4 ∧
        ((∀ k20 : Nat, (k20 < 4 →
         ((∃ v18 : Value, World.cell? W23 (Addr.mk k2 (0 + k20) none) = some v18) ∧
         World.frozen? W23 (Addr.mk k2 (0 + k20) none) = false))) ∧
        ((∀ v19 : Value, (v19 ∈ Array.toList vs10 →
         Value.oneCell' v19 = true)) ∧
        (∀ W24 : World, (W24 = World.setCells W23 k2 0 (Array.toList vs10) →
        (∃ vs11 : Array Value, (Array.size vs11 = 3 ∧
        (Sx.cellsAt W24 (Addr.mk k 0 none) vs11 ∧
        (∃ vs12 : Array Value, (Array.size vs12 = 4 ∧
        (Sx.cellsAt W24 (Addr.mk k2 0 none) vs12 ∧
        Q (Ending.returned (Value.tuple #[Value.agg vs11, Value.agg vs12])) W24)))))))))))))))))))) ∧
       (Array.size vs9 = 3 ∧
       ((∀ k21 : Nat, (k21 < 3 →
        ((∃ v20 : Value, World.cell? W22 (Addr.mk k (0 + k21) none) = some v20) ∧
        World.frozen? W22 (Addr.mk k (0 + k21) none) = false))) ∧
       ((∀ v21 : Value, (v21 ∈ Array.toList vs9 →
        Value.oneCell' v21 = true)) ∧
       (∀ W25 : World, (W25 = World.setCells W22 k 0 (Array.toList vs9) →
       (∃ vs13 : Array Value, (Array.size vs13 = 4 ∧
       (Sx.cellsAt W25 (Addr.mk k2 0 none) vs13 ∧
       (Array.size vs13 = 4 ∧
       ((∀ k22 : Nat, (k22 < 4 →
        ((∃ v22 : Value, World.cell? W25 (Addr.mk k2 (0 + k22) none) = some v22) ∧
        World.frozen? W25 (Addr.mk k2 (0 + k22) none) = false))) ∧
       ((∀ v23 : Value, (v23 ∈ Array.toList vs13 →
        Value.oneCell' v23 = true)) ∧
       (∀ W26 : World, (W26 = World.setCells W25 k2 0 (Array.toList vs13) →
       (∃ vs14 : Array Value, (Array.size vs14 = 3 ∧
       (Sx.cellsAt W26 (Addr.mk k 0 none) vs14 ∧
       (∃ vs15 : Array Value, (Array.size vs15 = 4 ∧
       (Sx.cellsAt W26 (Addr.mk k2 0 none) vs15 ∧
       Q (Ending.returned (Value.tuple #[Value.agg vs14, Value.agg vs15])) W26)))))))))))))))))))))))))))))))))))))))))))))))))))))))))))) :
  Calls Tryd.prog 48 #[Value.pointer (some ⟨arg0, arg0o, none⟩), Value.int .i64 arg1] W Q :=
  Sx.sound Tryd.func48 (.node [] [] 0 .leaf (.node [] [] 0 .leaf (.node [] [] 0 .leaf (.node [] [] 0 (.node [] [] 0 .leaf (.node [] [] 0 (.node [(7, .int .i64)] [0, 6, 5, 4] 0 (.node [] [] 0 .leaf (.node [] [] 0 (.node [] [] 0 (.node [] [] 0 .leaf (.node [] [] 0 .leaf (.node [] [] 0 .leaf (.node [] [] 0 .leaf (.node [] [] 0 (.node [(11, .int .i64)] [10, 5, 8, 4, 6, 7, 0] 0 (.node [] [] 0 .leaf (.node [] [] 0 (.node [] [] 0 (.node [] [] 0 .leaf (.node [] [] 0 .leaf (.node [] [] 0 (.node [] [4, 5, 11, 8, 6, 10, 7, 0] 1 .leaf (.node [] [] 0 .leaf (.node [] [] 0 (.node [] [] 0 (.node [] [] 1003 .leaf .leaf) .leaf) .leaf))) (.node [] [] 0 (.node [] [] 7 .leaf .leaf) (.node [] [] 27 .leaf .leaf))))) .leaf) .leaf)) .leaf) .leaf))))) .leaf) .leaf)) .leaf) .leaf)) (.node [] [] 0 (.node [] [] 1003 .leaf .leaf) .leaf))))) [Value.pointer (some ⟨arg0, arg0o, none⟩), Value.int .i64 arg1] rfl (Eq.mp (by kernel_rfl) hVC)
end Go.Proofs.YtngfaiahlblkkaaDoor
