/- What each function asks, reckoned out of its text; printed by a program of mine (wip/tpl/VcTool.lean). No condition. -/
import Derived.Test.YtcpmgklhfpcaeaaGreatDoorSxB
import Derived.Test.YtcpmgklhfpcaeaaGreatDoorChecked
namespace Go.Proofs.YtcpmgklhfpcaeaaGreatDoor
open Go Go.Proofs
set_option linter.unusedVariables false
set_option maxRecDepth 100000
theorem vc23 {W : World} {Q : Ending → World → Prop} (m : Nat) (mo : Nat)
  (hVC :
    (∃ p : Option Addr, (World.cell? W (Addr.mk m mo none) = some (Value.pointer p) ∧
    Q (Ending.returned (Value.pointer p)) W))) :
  Calls Tryz.prog 23 #[Value.pointer (some ⟨m, mo, none⟩)] W Q :=
  Sx.sound Tryz.func23 .leaf [Value.pointer (some ⟨m, mo, none⟩)] rfl (Eq.mp (by kernel_rfl) hVC)
theorem vc60 {W : World} {Q : Ending → World → Prop} (h : Nat) (ho : Nat) (i : Int)
  (hVC :
    Sx.split (decide (i < 0))
     (Q (Ending.returned (Value.int IntKind.u32 0)) W)
     (Sx.split (decide (i > 31))
       (Q (Ending.returned (Value.int IntKind.u32 0)) W)
       ((((0 : Int) ≤ i ∧
         i < (↑32 : Int)) ∧
        (∃ z : Int, (World.cell? W (Addr.mk h (ho + 4 + Int.toNat i * 1) none) = some (Value.int IntKind.u32 z) ∧
        Q (Ending.returned (Value.int IntKind.u32 z)) W)))))) :
  Calls Tryz.prog 60 #[Value.pointer (some ⟨h, ho, none⟩), Value.int .i64 i] W Q :=
  Sx.sound Tryz.func60 .leaf [Value.pointer (some ⟨h, ho, none⟩), Value.int .i64 i] rfl (Eq.mp (by kernel_rfl) hVC)
theorem vc61 {W : World} {Q : Ending → World → Prop} (h : Nat) (ho : Nat)
  (hVC :
    (∃ z : Int, (World.cell? W (Addr.mk h (ho + 3) none) = some (Value.int IntKind.u32 z) ∧
    Q (Ending.returned (Value.int IntKind.u32 z)) W))) :
  Calls Tryz.prog 61 #[Value.pointer (some ⟨h, ho, none⟩)] W Q :=
  Sx.sound Tryz.func61 .leaf [Value.pointer (some ⟨h, ho, none⟩)] rfl (Eq.mp (by kernel_rfl) hVC)
theorem vc26 {W : World} {Q : Ending → World → Prop} (code : Option Addr) (coden : Nat) (codec : Nat) (data : Int)
  (hVC :
    Sx.split (decide ((↑coden : Int) < 1))
     (Q (Ending.returned (Value.iface 32 (Value.int IntKind.i64 1))) W)
     (Sx.split (decide ((↑coden : Int) > 4096))
       (Q (Ending.returned (Value.iface 32 (Value.int IntKind.i64 1))) W)
       (Sx.split (decide (data < 0))
         (Q (Ending.returned (Value.iface 32 (Value.int IntKind.i64 1))) W)
         (Sx.split (decide (data > 4096))
           (Q (Ending.returned (Value.iface 32 (Value.int IntKind.i64 1))) W)
           (((16 : Int) ≠ (0 : Int) ∧
            (∀ z : Int, (z = Int.tmod data 16 →
            Sx.split (z != 0)
             (Q (Ending.returned (Value.iface 32 (Value.int IntKind.i64 1))) W)
             (Q (Ending.returned Value.nilIface) W))))))))) :
  Calls Tryz.prog 26 #[Value.slice code coden codec, Value.int .i64 data] W Q :=
  Sx.sound Tryz.func26 .leaf [Value.slice code coden codec, Value.int .i64 data] rfl (Eq.mp (by kernel_rfl) hVC)
theorem vc27 {W : World} {Q : Ending → World → Prop} (hart : Int)
  (hVC :
    (∀ z : Int, (z = IntKind.wrap IntKind.u32 hart →
    (∀ k : Nat, (∀ W2 : World, (k = Array.size (World.heap W) →
    (W2 = World.alloc W (Obj.map #[] 0) →
    (∀ vs : Array Value, (vs = #[Value.int IntKind.u32 z, Value.int IntKind.u32 0, Value.map (some k)] →
    (∀ k2 : Nat, (∀ W3 : World, (k2 = Array.size (World.heap W2) →
    (W3 = World.alloc W2 (Obj.cells (Value.cells (Value.agg vs)) 133) →
    Q (Ending.returned (Value.pointer (some (Addr.mk k2 0 none)))) W3))))))))))))) :
  Calls Tryz.prog 27 #[Value.int .i64 hart] W Q :=
  Sx.sound Tryz.func27 .leaf [Value.int .i64 hart] rfl (Eq.mp (by kernel_rfl) hVC)
theorem vc5 {W : World} {Q : Ending → World → Prop} (code : Option Addr) (coden : Nat) (codec : Nat) (data : Int) (number : Int)
  (hVC :
    Calls Tryz.prog 26 #[Value.slice code coden codec, Value.int IntKind.i64 data] W (fun e =>
     (fun W2 =>
     (∃ v : Value, (e = Ending.returned v ∧
     Sx.isNil v (fun t =>
      Sx.split (!t)
       (Q (Ending.returned (Value.tuple #[Value.pointer none, v])) W2)
       (Sx.split (decide (number < 0))
         (Q (Ending.returned (Value.tuple #[Value.pointer none, Value.iface 32 (Value.int IntKind.i64 3)])) W2)
         (Sx.split (decide (number ≥ 2))
           (Q (Ending.returned (Value.tuple #[Value.pointer none, Value.iface 32 (Value.int IntKind.i64 3)])) W2)
           (Calls Tryz.prog 27 #[Value.int IntKind.i64 number] W2 (fun e2 =>
             (fun W3 =>
             (∃ p : Option Addr, (e2 = Ending.returned (Value.pointer p) ∧
             (∃ l : List Value, (∃ l2 : List Value, (XHeap.Sl W3 35 1 (Value.slice none 0 0) 0 l ∧
             ((((coden = 0 ∧
               code = none)) ∨
              ((∃ a : Addr, (code = some a ∧
              (∀ k : Nat, (∀ v2 : Value, (l2[k]? = some v2 →
              World.cell? W3 (Addr.add a k) = some v2))))))) ∧
             (List.length l2 = coden * 1 ∧
             ((∀ v3 : Value, (v3 ∈ l2 →
              Value.oneCell' v3 = true)) ∧
             (0 + coden ≤ maxLen ∧
             ((0 + coden) * 4 ≤ 140737488355328 ∧
             (∀ p2 : Option Addr, (∀ k2 : Nat, (∀ W4 : World, (XHeap.Sl W4 35 1 (Value.slice p2 (0 + coden) k2) (0 + coden) (l ++ l2) →
             (XHeap.XTouch (fun b => Value.ownBlock (Value.slice none 0 0) = some b) W3 W4 →
             ((∀ k3 : Nat, (Value.ownBlock (Value.slice p2 (0 + coden) k2) = some k3 →
             ((Value.ownBlock (Value.slice none 0 0) = some k3) ∨
             (Array.size (World.heap W3) ≤ k3)))) →
             (XHeap.Sl W4 35 1 (Value.slice none 0 0) 0 l →
             ((((p2 = none ∧
              k2 = 0)) ∨
             ((((XHeap.NilP none) ∨
              ((0 : Nat) < (0 : Nat) + coden)) ∧
             (∀ k4 : Nat, (Value.ownBlock (Value.slice p2 (0 + coden) k2) = some k4 →
             Array.size (World.heap W3) ≤ k4))))) →
             (∀ vs : Array Value, (vs = #[Value.pointer p, Value.slice p2 (0 + coden) k2, Value.int IntKind.i64 data, Value.int IntKind.u32 0, Value.int IntKind.u32 0, Value.int IntKind.u32 0, Value.int IntKind.u32 0, Value.int IntKind.u32 0, Value.int IntKind.u32 0, Value.int IntKind.u32 0, Value.int IntKind.u32 0, Value.int IntKind.u32 0, Value.int IntKind.u32 0, Value.int IntKind.u32 0, Value.int IntKind.u32 0, Value.int IntKind.u32 0, Value.int IntKind.u32 0, Value.int IntKind.u32 0, Value.int IntKind.u32 0, Value.int IntKind.u32 0, Value.int IntKind.u32 0, Value.int IntKind.u32 0, Value.int IntKind.u32 0, Value.int IntKind.u32 0, Value.int IntKind.u32 0, Value.int IntKind.u32 0, Value.int IntKind.u32 0, Value.int IntKind.u32 0, Value.int IntKind.u32 0, Value.int IntKind.u32 0, Value.int IntKind.u32 0, Value.int IntKind.u32 0, Value.int IntKind.u32 0, Value.int IntKind.u32 0, Value.int IntKind.u32 0, Value.int IntKind.u32 0, Value.bool false] →
             (∀ k5 : Nat, (∀ W5 : World, (k5 = Array.size (World.heap W4) →
             (W5 = World.alloc W4 (Obj.cells (Value.cells (Value.agg vs)) 74) →
             Q (Ending.returned (Value.tuple #[Value.pointer (some (Addr.mk k5 0 none)), Value.nilIface])) W5))))))))))))))))))))))))))))))))))) :
  Calls Tryz.prog 5 #[Value.slice code coden codec, Value.int .i64 data, Value.int .i64 number] W Q :=
  Sx.sound Tryz.func5 .leaf [Value.slice code coden codec, Value.int .i64 data, Value.int .i64 number] rfl (Eq.mp (by kernel_rfl) hVC)
theorem vc30 {W : World} {Q : Ending → World → Prop} (code : Option Addr) (coden : Nat) (codec : Nat) (pc : Int)
  (hVC :
    ((0 : Int) ≤ (2 : Int) ∧
    (∀ z : Int, (z = Int.fdiv pc (2 ^ min 2 (IntKind.bits IntKind.u32)) →
    (∀ z2 : Int, (z2 = IntKind.wrap IntKind.i64 z →
    Sx.split (decide (z2 < (↑coden : Int)))
     ((((0 : Int) ≤ z2 ∧
       z2 < (↑coden : Int)) ∧
      Sx.adr code (fun k =>
       (fun k2 =>
       (∃ z3 : Int, (World.cell? W (Addr.mk k (k2 + Int.toNat z2 * 1) none) = some (Value.int IntKind.u32 z3) ∧
       Q (Ending.returned (Value.tuple #[Value.int IntKind.u32 z3, Value.bool true])) W))))))
     (Q (Ending.returned (Value.tuple #[Value.int IntKind.u32 0, Value.bool false])) W))))))) :
  Calls Tryz.prog 30 #[Value.slice code coden codec, Value.int .u32 pc] W Q :=
  Sx.sound Tryz.func30 .leaf [Value.slice code coden codec, Value.int .u32 pc] rfl (Eq.mp (by kernel_rfl) hVC)
theorem vc33 {W : World} {Q : Ending → World → Prop} (i : Array Value) (a : Int)
  (hVC :
    (∀ k : Nat, (∀ W2 : World, (k = Array.size (World.heap W) →
    (W2 = World.alloc W (Obj.cells (Value.cells (Value.agg i)) 83) →
    (∃ z : Int, (World.cell? W2 (Addr.mk k 0 none) = some (Value.int IntKind.i64 z) ∧
    Calls Tryz.prog 35 #[Value.int IntKind.i64 z] W2 (fun e =>
     (fun W3 =>
     (∃ z2 : Int, (e = Ending.returned (Value.int IntKind.i64 z2) ∧
     Sx.split (z2 == 6)
      (Q (Ending.returned (Value.int IntKind.u32 a)) W3)
      ((∃ z3 : Int, (World.cell? W3 (Addr.mk k (0 + 4) none) = some (Value.int IntKind.i64 z3) ∧
       (∀ z4 : Int, (z4 = IntKind.wrap IntKind.u32 z3 →
       (∀ z5 : Int, (z5 = IntKind.wrap IntKind.u32 (a + z4) →
       Q (Ending.returned (Value.int IntKind.u32 z5)) W3)))))))))))))))))) :
  Calls Tryz.prog 33 #[Value.agg i, Value.int .u32 a] W Q :=
  Sx.sound Tryz.func33 .leaf [Value.agg i, Value.int .u32 a] rfl (Eq.mp (by kernel_rfl) hVC)
theorem vc78 {W : World} {Q : Ending → World → Prop} (arg0 : Int) (size : Int) (fv0 : Nat) (fv0o : Nat) (fv1 : Nat) (fv1o : Nat)
  (hVC :
    (∃ z : Int, (World.cell? W (Addr.mk fv0 fv0o none) = some (Value.int IntKind.u32 z) ∧
    (∀ z2 : Int, (z2 = IntKind.wrap IntKind.u32 (z - arg0) →
    Sx.split (decide (z2 < size))
     ((∃ z3 : Int, (World.cell? W (Addr.mk fv0 fv0o none) = some (Value.int IntKind.u32 z3) ∧
      (∀ z4 : Int, (z4 = IntKind.wrap IntKind.u32 (z3 - arg0) →
      (∃ z5 : Int, (World.cell? W (Addr.mk fv1 fv1o none) = some (Value.int IntKind.u32 z5) ∧
      (∀ z6 : Int, (z6 = IntKind.wrap IntKind.u32 (z4 + z5) →
      Q (Ending.returned (Value.bool (decide (z6 ≤ size)))) W)))))))))
     (Q (Ending.returned (Value.bool false)) W)))))) :
  Calls Tryz.prog 78 #[Value.int .u32 arg0, Value.int .u32 size, Value.pointer (some ⟨fv0, fv0o, none⟩), Value.pointer (some ⟨fv1, fv1o, none⟩)] W Q :=
  Sx.sound Tryz.func78 .leaf [Value.int .u32 arg0, Value.int .u32 size, Value.pointer (some ⟨fv0, fv0o, none⟩), Value.pointer (some ⟨fv1, fv1o, none⟩)] rfl (Eq.mp (by kernel_rfl) hVC)
theorem vc34 {W : World} {Q : Ending → World → Prop} (op : Int) (addr : Int) (data : Int)
  (hVC :
    (∀ k : Nat, (∀ W2 : World, (k = Array.size (World.heap W) →
    (W2 = World.alloc W (Obj.cells #[Value.int IntKind.u32 addr] 35) →
    Calls Tryz.prog 32 #[Value.int IntKind.i64 op] W2 (fun e =>
     (fun W3 =>
     (∃ z : Int, (e = Ending.returned (Value.int IntKind.i64 z) ∧
     (∀ z2 : Int, (z2 = IntKind.wrap IntKind.u32 z →
     (∀ k2 : Nat, (∀ W4 : World, (k2 = Array.size (World.heap W3) →
     (W4 = World.alloc W3 (Obj.cells #[Value.int IntKind.u32 0] 35) →
     ((∃ v : Value, World.cell? W4 (Addr.mk k2 0 none) = some v) ∧
     (World.frozen? W4 (Addr.mk k2 0 none) = false ∧
     (∀ W5 : World, (W5 = World.setCell W4 (Addr.mk k2 0 none) (Value.int IntKind.u32 z2) →
     Calls Tryz.prog 35 #[Value.int IntKind.i64 op] W5 (fun e2 =>
      (fun W6 =>
      (∃ z3 : Int, (e2 = Ending.returned (Value.int IntKind.i64 z3) ∧
      Sx.split (z3 == 4)
       ((∃ z4 : Int, (World.cell? W6 (Addr.mk k 0 none) = some (Value.int IntKind.u32 z4) ∧
        (∃ z5 : Int, (World.cell? W6 (Addr.mk k2 0 none) = some (Value.int IntKind.u32 z5) ∧
        (∀ z6 : Int, (z6 = IntKind.wrap IntKind.u32 (z5 - 1) →
        (∀ z7 : Int, (z7 = IntKind.wrap IntKind.u32 (↑(BitVec.toNat (BitVec.ofInt (IntKind.bits IntKind.u32) z4 &&& BitVec.ofInt (IntKind.bits IntKind.u32) z6)) : Int) →
        Sx.split (z7 != 0)
         (Q (Ending.returned (Value.int IntKind.i64 4)) W6)
         ((∀ z8 : Int, (z8 = IntKind.wrap IntKind.u32 data →
          Calls Tryz.prog 78 #[Value.int IntKind.u32 65536, Value.int IntKind.u32 z8, Value.pointer (some (Addr.mk k 0 none)), Value.pointer (some (Addr.mk k2 0 none))] W6 (fun e3 =>
           (fun W7 =>
           (∃ t : Bool, (e3 = Ending.returned (Value.bool t) ∧
           Sx.split t
            (Q (Ending.returned (Value.int IntKind.i64 (-1))) W7)
            (Sx.split (z3 == 5)
              (Calls Tryz.prog 78 #[Value.int IntKind.u32 131072, Value.int IntKind.u32 4, Value.pointer (some (Addr.mk k 0 none)), Value.pointer (some (Addr.mk k2 0 none))] W7 (fun e4 =>
                (fun W8 =>
                (∃ t2 : Bool, (e4 = Ending.returned (Value.bool t2) ∧
                Sx.split t2
                 (Q (Ending.returned (Value.int IntKind.i64 (-1))) W8)
                 (Q (Ending.returned (Value.int IntKind.i64 5)) W8))))))
              (Q (Ending.returned (Value.int IntKind.i64 5)) W7))))))))))))))))))
       (Sx.split (op == 46)
         ((∃ z9 : Int, (World.cell? W6 (Addr.mk k 0 none) = some (Value.int IntKind.u32 z9) ∧
          (∃ z10 : Int, (World.cell? W6 (Addr.mk k2 0 none) = some (Value.int IntKind.u32 z10) ∧
          (∀ z11 : Int, (z11 = IntKind.wrap IntKind.u32 (z10 - 1) →
          (∀ z12 : Int, (z12 = IntKind.wrap IntKind.u32 (↑(BitVec.toNat (BitVec.ofInt (IntKind.bits IntKind.u32) z9 &&& BitVec.ofInt (IntKind.bits IntKind.u32) z11)) : Int) →
          Sx.split (z12 != 0)
           (Q (Ending.returned (Value.int IntKind.i64 4)) W6)
           ((∀ z13 : Int, (z13 = IntKind.wrap IntKind.u32 data →
            Calls Tryz.prog 78 #[Value.int IntKind.u32 65536, Value.int IntKind.u32 z13, Value.pointer (some (Addr.mk k 0 none)), Value.pointer (some (Addr.mk k2 0 none))] W6 (fun e5 =>
             (fun W9 =>
             (∃ t3 : Bool, (e5 = Ending.returned (Value.bool t3) ∧
             Sx.split t3
              (Q (Ending.returned (Value.int IntKind.i64 (-1))) W9)
              (Sx.split (z3 == 5)
                (Calls Tryz.prog 78 #[Value.int IntKind.u32 131072, Value.int IntKind.u32 4, Value.pointer (some (Addr.mk k 0 none)), Value.pointer (some (Addr.mk k2 0 none))] W9 (fun e6 =>
                  (fun W10 =>
                  (∃ t4 : Bool, (e6 = Ending.returned (Value.bool t4) ∧
                  Sx.split t4
                   (Q (Ending.returned (Value.int IntKind.i64 (-1))) W10)
                   (Q (Ending.returned (Value.int IntKind.i64 5)) W10))))))
                (Q (Ending.returned (Value.int IntKind.i64 5)) W9))))))))))))))))))
         ((∃ z14 : Int, (World.cell? W6 (Addr.mk k 0 none) = some (Value.int IntKind.u32 z14) ∧
          (∃ z15 : Int, (World.cell? W6 (Addr.mk k2 0 none) = some (Value.int IntKind.u32 z15) ∧
          (∀ z16 : Int, (z16 = IntKind.wrap IntKind.u32 (z15 - 1) →
          (∀ z17 : Int, (z17 = IntKind.wrap IntKind.u32 (↑(BitVec.toNat (BitVec.ofInt (IntKind.bits IntKind.u32) z14 &&& BitVec.ofInt (IntKind.bits IntKind.u32) z16)) : Int) →
          Sx.split (z17 != 0)
           (Q (Ending.returned (Value.int IntKind.i64 6)) W6)
           ((∀ z18 : Int, (z18 = IntKind.wrap IntKind.u32 data →
            Calls Tryz.prog 78 #[Value.int IntKind.u32 65536, Value.int IntKind.u32 z18, Value.pointer (some (Addr.mk k 0 none)), Value.pointer (some (Addr.mk k2 0 none))] W6 (fun e7 =>
             (fun W11 =>
             (∃ t5 : Bool, (e7 = Ending.returned (Value.bool t5) ∧
             Sx.split t5
              (Q (Ending.returned (Value.int IntKind.i64 (-1))) W11)
              (Sx.split (z3 == 5)
                (Calls Tryz.prog 78 #[Value.int IntKind.u32 131072, Value.int IntKind.u32 4, Value.pointer (some (Addr.mk k 0 none)), Value.pointer (some (Addr.mk k2 0 none))] W11 (fun e8 =>
                  (fun W12 =>
                  (∃ t6 : Bool, (e8 = Ending.returned (Value.bool t6) ∧
                  Sx.split t6
                   (Q (Ending.returned (Value.int IntKind.i64 (-1))) W12)
                   (Q (Ending.returned (Value.int IntKind.i64 7)) W12))))))
                (Q (Ending.returned (Value.int IntKind.i64 7)) W11)))))))))))))))))))))))))))))))))))))))))) :
  Calls Tryz.prog 34 #[Value.int .i64 op, Value.int .u32 addr, Value.int .i64 data] W Q :=
  Sx.sound Tryz.func34 .leaf [Value.int .i64 op, Value.int .u32 addr, Value.int .i64 data] rfl (Eq.mp (by kernel_rfl) hVC)
theorem vc44 {W : World} {Q : Ending → World → Prop} (i : Array Value) (pc : Int) (a : Int) (b : Int)
  (hVC :
    (∀ k : Nat, (∀ W2 : World, (k = Array.size (World.heap W) →
    (W2 = World.alloc W (Obj.cells (Value.cells (Value.agg i)) 83) →
    (∃ z : Int, (World.cell? W2 (Addr.mk k 0 none) = some (Value.int IntKind.i64 z) ∧
    Calls Tryz.prog 83 #[Value.int IntKind.i64 z] W2 (fun e =>
     (fun W3 =>
     (∃ t : Bool, (∃ t2 : Bool, (e = Ending.returned (Value.tuple #[Value.bool t, Value.bool t2]) ∧
     Sx.split (!t)
      ((∃ z2 : Int, (World.cell? W3 (Addr.mk k (0 + 4) none) = some (Value.int IntKind.i64 z2) ∧
       (∀ z3 : Int, (z3 = IntKind.wrap IntKind.u32 z2 →
       (∀ W4 : World, (∀ k2 : Nat, (W4 = World.drewN W3 k2 →
       Q (Ending.returned (Value.tuple #[Value.int IntKind.u32 pc, Value.int IntKind.u32 z3])) W4))))))))
      (Sx.split (!t2)
        ((∃ z4 : Int, (World.cell? W3 (Addr.mk k (0 + 4) none) = some (Value.int IntKind.i64 z4) ∧
         (∀ z5 : Int, (z5 = IntKind.wrap IntKind.u32 z4 →
         (∀ W5 : World, (∀ k3 : Nat, (W5 = World.drewN W3 k3 →
         Q (Ending.returned (Value.tuple #[Value.int IntKind.u32 a, Value.int IntKind.u32 z5])) W5))))))))
        (Q (Ending.returned (Value.tuple #[Value.int IntKind.u32 a, Value.int IntKind.u32 b])) W3)))))))))))))) :
  Calls Tryz.prog 44 #[Value.agg i, Value.int .u32 pc, Value.int .u32 a, Value.int .u32 b] W Q :=
  Sx.sound Tryz.func44 .leaf [Value.agg i, Value.int .u32 pc, Value.int .u32 a, Value.int .u32 b] rfl (Eq.mp (by kernel_rfl) hVC)
theorem vc47 {W : World} {Q : Ending → World → Prop} (i : Array Value) (pc : Int) (a : Int)
  (hVC :
    (∀ k : Nat, (∀ W2 : World, (k = Array.size (World.heap W) →
    (W2 = World.alloc W (Obj.cells (Value.cells (Value.agg i)) 83) →
    (∃ z : Int, (World.cell? W2 (Addr.mk k 0 none) = some (Value.int IntKind.i64 z) ∧
    Sx.split (z == 4)
     ((∃ z2 : Int, (World.cell? W2 (Addr.mk k (0 + 4) none) = some (Value.int IntKind.i64 z2) ∧
      (∀ z3 : Int, (z3 = IntKind.wrap IntKind.u32 z2 →
      (∀ z4 : Int, (z4 = IntKind.wrap IntKind.u32 (a + z3) →
      (∀ z5 : Int, (z5 = IntKind.wrap IntKind.u32 (↑(BitVec.toNat (BitVec.ofInt (IntKind.bits IntKind.u32) z4 &&& ~~~BitVec.ofInt (IntKind.bits IntKind.u32) 1)) : Int) →
      Q (Ending.returned (Value.int IntKind.u32 z5)) W2)))))))))
     ((∃ z6 : Int, (World.cell? W2 (Addr.mk k (0 + 4) none) = some (Value.int IntKind.i64 z6) ∧
      (∀ z7 : Int, (z7 = IntKind.wrap IntKind.u32 z6 →
      (∀ z8 : Int, (z8 = IntKind.wrap IntKind.u32 (pc + z7) →
      Q (Ending.returned (Value.int IntKind.u32 z8)) W2)))))))))))))) :
  Calls Tryz.prog 47 #[Value.agg i, Value.int .u32 pc, Value.int .u32 a] W Q :=
  Sx.sound Tryz.func47 .leaf [Value.agg i, Value.int .u32 pc, Value.int .u32 a] rfl (Eq.mp (by kernel_rfl) hVC)
theorem vc124 {W : World} {Q : Ending → World → Prop} (n : Int)
  (hVC :
    Sx.split (n == 768)
     (Q (Ending.returned (Value.tuple #[Value.int IntKind.u32 136, Value.bool true])) W)
     (Sx.split (n == 772)
       (Q (Ending.returned (Value.tuple #[Value.int IntKind.u32 2048, Value.bool true])) W)
       (Sx.split (n == 773)
         (Q (Ending.returned (Value.tuple #[Value.int IntKind.u32 4294967292, Value.bool true])) W)
         (Sx.split (n == 833)
           (Q (Ending.returned (Value.tuple #[Value.int IntKind.u32 4294967292, Value.bool true])) W)
           (Sx.split (n == 832)
             (Q (Ending.returned (Value.tuple #[Value.int IntKind.u32 4294967295, Value.bool true])) W)
             (Sx.split (n == 834)
               (Q (Ending.returned (Value.tuple #[Value.int IntKind.u32 4294967295, Value.bool true])) W)
               (Sx.split (n == 835)
                 (Q (Ending.returned (Value.tuple #[Value.int IntKind.u32 4294967295, Value.bool true])) W)
                 (Q (Ending.returned (Value.tuple #[Value.int IntKind.u32 0, Value.bool false])) W)))))))) :
  Calls Tryz.prog 124 #[Value.int .i64 n] W Q :=
  Sx.sound Tryz.func124 .leaf [Value.int .i64 n] rfl (Eq.mp (by kernel_rfl) hVC)
theorem vc86 {W : World} {Q : Ending → World → Prop} (r : Nat) (ro : Nat) (n : Int)
  (hVC :
    Sx.split (n == 3074)
     ((∃ z : Int, (World.cell? W (Addr.mk r (ro + 1) none) = some (Value.int IntKind.u32 z) ∧
      Q (Ending.returned (Value.tuple #[Value.int IntKind.u32 z, Value.bool true])) W)))
     (Sx.split (n == 3860)
       ((∃ z2 : Int, (World.cell? W (Addr.mk r ro none) = some (Value.int IntKind.u32 z2) ∧
        Q (Ending.returned (Value.tuple #[Value.int IntKind.u32 z2, Value.bool true])) W)))
       (Calls Tryz.prog 124 #[Value.int IntKind.i64 n] W (fun e =>
         (fun W2 =>
         (∃ z3 : Int, (∃ t : Bool, (e = Ending.returned (Value.tuple #[Value.int IntKind.u32 z3, Value.bool t]) ∧
         (∃ p : Option Nat, (World.cell? W2 (Addr.mk r (ro + 2) none) = some (Value.map p) ∧
         Sx.mapp p (fun k =>
          (∃ I : Int → Option Value, (Sx.Mp W2 IntKind.i64 k I ∧
          (∃ z4 : Int, (Option.getD (I n) (Value.int IntKind.u32 0) = Value.int IntKind.u32 z4 ∧
          Q (Ending.returned (Value.tuple #[Value.int IntKind.u32 z4, Value.bool t])) W2))))))))))))))) :
  Calls Tryz.prog 86 #[Value.pointer (some ⟨r, ro, none⟩), Value.int .i64 n] W Q :=
  Sx.sound Tryz.func86 .leaf [Value.pointer (some ⟨r, ro, none⟩), Value.int .i64 n] rfl (Eq.mp (by kernel_rfl) hVC)
theorem vc85 {W : World} {Q : Ending → World → Prop} (r : Nat) (ro : Nat) (n : Int) (v : Int)
  (hVC :
    Calls Tryz.prog 124 #[Value.int IntKind.i64 n] W (fun e =>
     (fun W2 =>
     (∃ z : Int, (∃ t : Bool, (e = Ending.returned (Value.tuple #[Value.int IntKind.u32 z, Value.bool t]) ∧
     (∃ p : Option Nat, (World.cell? W2 (Addr.mk r (ro + 2) none) = some (Value.map p) ∧
     (∀ z2 : Int, (z2 = IntKind.wrap IntKind.u32 (↑(BitVec.toNat (BitVec.ofInt (IntKind.bits IntKind.u32) v &&& BitVec.ofInt (IntKind.bits IntKind.u32) z)) : Int) →
     Sx.mapp p (fun k =>
      (∃ I : Int → Option Value, (Sx.Mp W2 IntKind.i64 k I ∧
      (∀ W3 : World, (Sx.Mp W3 IntKind.i64 k (Sx.upd I n (some (Value.int IntKind.u32 z2))) →
      (XHeap.XTouch (fun q => q = k) W2 W3 →
      Q (Ending.returned (Value.tuple #[])) W3)))))))))))))))) :
  Calls Tryz.prog 85 #[Value.pointer (some ⟨r, ro, none⟩), Value.int .i64 n, Value.int .u32 v] W Q :=
  Sx.sound Tryz.func85 .leaf [Value.pointer (some ⟨r, ro, none⟩), Value.int .i64 n, Value.int .u32 v] rfl (Eq.mp (by kernel_rfl) hVC)
theorem vc52 {W : World} {Q : Ending → World → Prop} (r : Nat) (ro : Nat)
  (hVC :
    (∃ z : Int, (World.cell? W (Addr.mk r (ro + 1) none) = some (Value.int IntKind.u32 z) ∧
    (∀ z2 : Int, (z2 = IntKind.wrap IntKind.u32 (z + 1) →
    ((∃ v : Value, World.cell? W (Addr.mk r (ro + 1) none) = some v) ∧
    (World.frozen? W (Addr.mk r (ro + 1) none) = false ∧
    (∀ W2 : World, (W2 = World.setCell W (Addr.mk r (ro + 1) none) (Value.int IntKind.u32 z2) →
    Q (Ending.returned (Value.tuple #[])) W2))))))))) :
  Calls Tryz.prog 52 #[Value.pointer (some ⟨r, ro, none⟩)] W Q :=
  Sx.sound Tryz.func52 .leaf [Value.pointer (some ⟨r, ro, none⟩)] rfl (Eq.mp (by kernel_rfl) hVC)
theorem vc41 {W : World} {Q : Ending → World → Prop} (r : Nat) (ro : Nat)
  (hVC :
    (∃ p : Option Nat, (World.cell? W (Addr.mk r (ro + 2) none) = some (Value.map p) ∧
    Sx.mapp p (fun k =>
     (∃ I : Int → Option Value, (Sx.Mp W IntKind.i64 k I ∧
     (∃ z : Int, (Option.getD (I 768) (Value.int IntKind.u32 0) = Value.int IntKind.u32 z ∧
     (∀ z2 : Int, (z2 = IntKind.wrap IntKind.u32 (↑(BitVec.toNat (BitVec.ofInt (IntKind.bits IntKind.u32) z &&& BitVec.ofInt (IntKind.bits IntKind.u32) 8)) : Int) →
     Sx.split (decide (z2 > 0))
      ((∃ p2 : Option Nat, (World.cell? W (Addr.mk r (ro + 2) none) = some (Value.map p2) ∧
       Sx.mapp p2 (fun k2 =>
        (∃ I2 : Int → Option Value, (Sx.Mp W IntKind.i64 k2 I2 ∧
        (∃ z3 : Int, (Option.getD (I2 772) (Value.int IntKind.u32 0) = Value.int IntKind.u32 z3 ∧
        Q (Ending.returned (Value.bool (decide (z3 > 0)))) W))))))))
      (Q (Ending.returned (Value.bool false)) W))))))))))) :
  Calls Tryz.prog 41 #[Value.pointer (some ⟨r, ro, none⟩)] W Q :=
  Sx.sound Tryz.func41 .leaf [Value.pointer (some ⟨r, ro, none⟩)] rfl (Eq.mp (by kernel_rfl) hVC)
theorem vc48 {W : World} {Q : Ending → World → Prop} (r : Nat) (ro : Nat)
  (hVC :
    (∃ p : Option Nat, (World.cell? W (Addr.mk r (ro + 2) none) = some (Value.map p) ∧
    Sx.mapp p (fun k =>
     (∃ I : Int → Option Value, (Sx.Mp W IntKind.i64 k I ∧
     (∃ z : Int, (Option.getD (I 768) (Value.int IntKind.u32 0) = Value.int IntKind.u32 z ∧
     (∀ z2 : Int, (z2 = IntKind.wrap IntKind.u32 (↑(BitVec.toNat (BitVec.ofInt (IntKind.bits IntKind.u32) z &&& BitVec.ofInt (IntKind.bits IntKind.u32) 128)) : Int) →
     ((0 : Int) ≤ (4 : Int) ∧
     (∀ z3 : Int, (z3 = Int.fdiv z2 (2 ^ min 4 (IntKind.bits IntKind.u32)) →
     (∀ z4 : Int, (z4 = IntKind.wrap IntKind.u32 (↑(BitVec.toNat (BitVec.ofInt (IntKind.bits IntKind.u32) z3 ||| BitVec.ofInt (IntKind.bits IntKind.u32) 128)) : Int) →
     Calls Tryz.prog 85 #[Value.pointer (some (Addr.mk r ro none)), Value.int IntKind.i64 768, Value.int IntKind.u32 z4] W (fun e =>
      (fun W2 =>
      (e = Ending.returned (Value.tuple #[]) ∧
      (∃ p2 : Option Nat, (World.cell? W2 (Addr.mk r (ro + 2) none) = some (Value.map p2) ∧
      Sx.mapp p2 (fun k2 =>
       (∃ I2 : Int → Option Value, (Sx.Mp W2 IntKind.i64 k2 I2 ∧
       (∃ z5 : Int, (Option.getD (I2 833) (Value.int IntKind.u32 0) = Value.int IntKind.u32 z5 ∧
       Q (Ending.returned (Value.int IntKind.u32 z5)) W2))))))))))))))))))))))))) :
  Calls Tryz.prog 48 #[Value.pointer (some ⟨r, ro, none⟩)] W Q :=
  Sx.sound Tryz.func48 .leaf [Value.pointer (some ⟨r, ro, none⟩)] rfl (Eq.mp (by kernel_rfl) hVC)
theorem vc82 {W : World} {Q : Ending → World → Prop} (r : Nat) (ro : Nat) (pc : Int) (cause : Int) (tval : Int)
  (hVC :
    (∃ p : Option Nat, (World.cell? W (Addr.mk r (ro + 2) none) = some (Value.map p) ∧
    Sx.mapp p (fun k =>
     (∃ I : Int → Option Value, (Sx.Mp W IntKind.i64 k I ∧
     (∃ z : Int, (Option.getD (I 773) (Value.int IntKind.u32 0) = Value.int IntKind.u32 z ∧
     Sx.split (z == 0)
      (Q (Ending.returned (Value.tuple #[Value.int IntKind.u32 pc, Value.bool false])) W)
      (Calls Tryz.prog 85 #[Value.pointer (some (Addr.mk r ro none)), Value.int IntKind.i64 833, Value.int IntKind.u32 pc] W (fun e =>
        (fun W2 =>
        (e = Ending.returned (Value.tuple #[]) ∧
        (∀ z2 : Int, (z2 = IntKind.wrap IntKind.u32 cause →
        Calls Tryz.prog 85 #[Value.pointer (some (Addr.mk r ro none)), Value.int IntKind.i64 834, Value.int IntKind.u32 z2] W2 (fun e2 =>
         (fun W3 =>
         (e2 = Ending.returned (Value.tuple #[]) ∧
         Calls Tryz.prog 85 #[Value.pointer (some (Addr.mk r ro none)), Value.int IntKind.i64 835, Value.int IntKind.u32 tval] W3 (fun e3 =>
          (fun W4 =>
          (e3 = Ending.returned (Value.tuple #[]) ∧
          (∃ p2 : Option Nat, (World.cell? W4 (Addr.mk r (ro + 2) none) = some (Value.map p2) ∧
          Sx.mapp p2 (fun k2 =>
           (∃ I2 : Int → Option Value, (Sx.Mp W4 IntKind.i64 k2 I2 ∧
           (∃ z3 : Int, (Option.getD (I2 768) (Value.int IntKind.u32 0) = Value.int IntKind.u32 z3 ∧
           (∀ z4 : Int, (z4 = IntKind.wrap IntKind.u32 (↑(BitVec.toNat (BitVec.ofInt (IntKind.bits IntKind.u32) z3 &&& BitVec.ofInt (IntKind.bits IntKind.u32) 8)) : Int) →
           ((0 : Int) ≤ (4 : Int) ∧
           (∀ z5 : Int, (z5 = IntKind.wrap IntKind.u32 (z4 * 2 ^ min 4 (IntKind.bits IntKind.u32)) →
           Calls Tryz.prog 85 #[Value.pointer (some (Addr.mk r ro none)), Value.int IntKind.i64 768, Value.int IntKind.u32 z5] W4 (fun e4 =>
            (fun W5 =>
            (e4 = Ending.returned (Value.tuple #[]) ∧
            Q (Ending.returned (Value.tuple #[Value.int IntKind.u32 z, Value.bool true])) W5))))))))))))))))))))))))))))))))))) :
  Calls Tryz.prog 82 #[Value.pointer (some ⟨r, ro, none⟩), Value.int .u32 pc, Value.int .i64 cause, Value.int .u32 tval] W Q :=
  Sx.sound Tryz.func82 .leaf [Value.pointer (some ⟨r, ro, none⟩), Value.int .u32 pc, Value.int .i64 cause, Value.int .u32 tval] rfl (Eq.mp (by kernel_rfl) hVC)
theorem vc49 {W : World} {Q : Ending → World → Prop} (arg0 : Nat) (arg0o : Nat) (arg1 : Array Value) (arg2 : Int)
  (hVC :
    (∀ k : Nat, (∀ W2 : World, (k = Array.size (World.heap W) →
    (W2 = World.alloc W (Obj.cells (Value.cells (Value.agg arg1)) 83) →
    (∃ I : Int → World → Prop, ((∃ z : Int, (World.cell? W2 (Addr.mk k 0 none) = some (Value.int IntKind.i64 z) ∧
     Sx.split (decide (z ≥ 65))
      ((∃ z2 : Int, (World.cell? W2 (Addr.mk k (0 + 2) none) = some (Value.int IntKind.i64 z2) ∧
       (∀ z3 : Int, (z3 = IntKind.wrap IntKind.u32 z2 →
       I z3 W2)))))
      (I arg2 W2))) ∧
    ((Nat →
    Value) →
    (∀ x : Int, (∀ W3 : World, (I x W3 →
    (∃ z4 : Int, (World.cell? W3 (Addr.mk k (0 + 4) none) = some (Value.int IntKind.i64 z4) ∧
    Calls Tryz.prog 86 #[Value.pointer (some (Addr.mk arg0 arg0o none)), Value.int IntKind.i64 z4] W3 (fun e =>
     (fun W4 =>
     (∃ z5 : Int, (∃ t : Bool, (e = Ending.returned (Value.tuple #[Value.int IntKind.u32 z5, Value.bool t]) ∧
     (∃ I2 : Bool → World → Prop, ((∃ z6 : Int, (World.cell? W4 (Addr.mk k 0 none) = some (Value.int IntKind.i64 z6) ∧
      Sx.split (z6 == 62)
       (I2 true W4)
       ((∃ z7 : Int, (World.cell? W4 (Addr.mk k 0 none) = some (Value.int IntKind.i64 z7) ∧
        I2 (z7 == 65) W4))))) ∧
     ((Nat →
     Value) →
     (∀ x2 : Bool, (∀ W5 : World, (I2 x2 W5 →
     (∃ I3 : World → Prop, (Sx.split (!x2)
       ((∃ z8 : Int, (World.cell? W5 (Addr.mk k (0 + 2) none) = some (Value.int IntKind.i64 z8) ∧
        Sx.split (z8 == 0)
         (Q (Ending.returned (Value.tuple #[Value.int IntKind.u32 z5, Value.bool t])) W5)
         (I3 W5))))
       (I3 W5) ∧
     ((Nat →
     Value) →
     (∀ W6 : World, (I3 W6 →
     Sx.split (!t)
      (Q (Ending.returned (Value.tuple #[Value.int IntKind.u32 0, Value.bool false])) W6)
      ((∃ z9 : Int, (World.cell? W6 (Addr.mk k (0 + 4) none) = some (Value.int IntKind.i64 z9) ∧
       ((0 : Int) ≤ (10 : Int) ∧
       (∀ z10 : Int, (z10 = Int.fdiv z9 (2 ^ min 10 (IntKind.bits IntKind.i64)) →
       Sx.split (z10 == 3)
        (Q (Ending.returned (Value.tuple #[Value.int IntKind.u32 0, Value.bool false])) W6)
        ((∃ I4 : Int → World → Prop, ((∃ z11 : Int, (World.cell? W6 (Addr.mk k 0 none) = some (Value.int IntKind.i64 z11) ∧
          Sx.split (z11 == 63)
           ((∀ z12 : Int, (z12 = IntKind.wrap IntKind.u32 (↑(BitVec.toNat (BitVec.ofInt (IntKind.bits IntKind.u32) x ||| BitVec.ofInt (IntKind.bits IntKind.u32) z5)) : Int) →
            I4 z12 W6)))
           (Sx.split (z11 == 66)
             ((∀ z13 : Int, (z13 = IntKind.wrap IntKind.u32 (↑(BitVec.toNat (BitVec.ofInt (IntKind.bits IntKind.u32) x ||| BitVec.ofInt (IntKind.bits IntKind.u32) z5)) : Int) →
              I4 z13 W6)))
             (Sx.split (z11 == 64)
               ((∀ z14 : Int, (z14 = IntKind.wrap IntKind.u32 (↑(BitVec.toNat (BitVec.ofInt (IntKind.bits IntKind.u32) z5 &&& ~~~BitVec.ofInt (IntKind.bits IntKind.u32) x)) : Int) →
                I4 z14 W6)))
               (Sx.split (z11 == 67)
                 ((∀ z15 : Int, (z15 = IntKind.wrap IntKind.u32 (↑(BitVec.toNat (BitVec.ofInt (IntKind.bits IntKind.u32) z5 &&& ~~~BitVec.ofInt (IntKind.bits IntKind.u32) x)) : Int) →
                  I4 z15 W6)))
                 (I4 x W6)))))) ∧
         ((Nat →
         Value) →
         (∀ x3 : Int, (∀ W7 : World, (I4 x3 W7 →
         (∃ z16 : Int, (World.cell? W7 (Addr.mk k (0 + 4) none) = some (Value.int IntKind.i64 z16) ∧
         Calls Tryz.prog 85 #[Value.pointer (some (Addr.mk arg0 arg0o none)), Value.int IntKind.i64 z16, Value.int IntKind.u32 x3] W7 (fun e2 =>
          (fun W8 =>
          (e2 = Ending.returned (Value.tuple #[]) ∧
          Q (Ending.returned (Value.tuple #[Value.int IntKind.u32 z5, Value.bool true])) W8))))))))))))))))))))))))))))))))))))))))))))))) :
  Calls Tryz.prog 49 #[Value.pointer (some ⟨arg0, arg0o, none⟩), Value.agg arg1, Value.int .u32 arg2] W Q :=
  Sx.sound Tryz.func49 (.node [] [] 0 .leaf (.node [(2, .int .u32)] [0, 4] 1 .leaf (.node [] [] 0 .leaf (.node [(10, .bool)] [4, 8, 9, 2, 0] 1 .leaf (.node [] [9, 4, 2, 8, 0] 1 .leaf (.node [] [] 0 .leaf (.node [(2, .int .u32)] [0, 4, 8] 1 .leaf .leaf))))))) [Value.pointer (some ⟨arg0, arg0o, none⟩), Value.agg arg1, Value.int .u32 arg2] rfl (Eq.mp (by kernel_rfl) hVC)
theorem vc42 {W : World} {Q : Ending → World → Prop} (h : Nat) (ho : Nat) (w : Int) (cause : Int) (tval : Int)
  (hVC :
    (∀ k : Nat, (∀ W2 : World, (k = Array.size (World.heap W) →
    (W2 = World.alloc W (Obj.cells #[Value.int IntKind.u32 0, Value.int IntKind.u32 0, Value.int IntKind.i64 0, Value.int IntKind.u32 0, Value.int IntKind.i64 0, Value.int IntKind.u32 0, Value.int IntKind.u32 0] 43) →
    (∃ z : Int, (World.cell? W2 (Addr.mk h (ho + 3) none) = some (Value.int IntKind.u32 z) ∧
    (∀ vs : Array Value, (vs = #[Value.int IntKind.u32 z, Value.int IntKind.u32 w, Value.int IntKind.i64 0, Value.int IntKind.u32 0, Value.int IntKind.i64 cause, Value.int IntKind.u32 tval, Value.int IntKind.u32 0] →
    (∀ k2 : Nat, (∀ W3 : World, (k2 = Array.size (World.heap W2) →
    (W3 = World.alloc W2 (Obj.cells #[Value.int IntKind.u32 0, Value.int IntKind.u32 0, Value.int IntKind.i64 0, Value.int IntKind.u32 0, Value.int IntKind.i64 0, Value.int IntKind.u32 0, Value.int IntKind.u32 0] 43) →
    (Array.size vs = 7 ∧
    ((∀ k3 : Nat, (k3 < 7 →
     ((∃ v : Value, World.cell? W3 (Addr.mk k2 (0 + k3) none) = some v) ∧
     World.frozen? W3 (Addr.mk k2 (0 + k3) none) = false))) ∧
    ((∀ v2 : Value, (v2 ∈ Array.toList vs →
     Value.oneCell' v2 = true)) ∧
    (∀ W4 : World, (W4 = World.setCells W3 k2 0 (Array.toList vs) →
    (∀ W5 : World, (W5 = World.drew W4 →
    (∃ p : Option Addr, (World.cell? W5 (Addr.mk h ho none) = some (Value.pointer p) ∧
    (∃ z2 : Int, (World.cell? W5 (Addr.mk h (ho + 3) none) = some (Value.int IntKind.u32 z2) ∧
    Calls Tryz.prog 82 #[Value.pointer p, Value.int IntKind.u32 z2, Value.int IntKind.i64 cause, Value.int IntKind.u32 tval] W5 (fun e =>
     (fun W6 =>
     (∃ z3 : Int, (∃ t : Bool, (e = Ending.returned (Value.tuple #[Value.int IntKind.u32 z3, Value.bool t]) ∧
     ((∃ v3 : Value, World.cell? W6 (Addr.mk h (ho + 36) none) = some v3) ∧
     (World.frozen? W6 (Addr.mk h (ho + 36) none) = false ∧
     (∀ W7 : World, (W7 = World.setCell W6 (Addr.mk h (ho + 36) none) (Value.bool !t) →
     ((∃ v4 : Value, World.cell? W7 (Addr.mk h (ho + 3) none) = some v4) ∧
     (World.frozen? W7 (Addr.mk h (ho + 3) none) = false ∧
     (∀ W8 : World, (W8 = World.setCell W7 (Addr.mk h (ho + 3) none) (Value.int IntKind.u32 z3) →
     ((∃ v5 : Value, World.cell? W8 (Addr.mk k2 (0 + 6) none) = some v5) ∧
     (World.frozen? W8 (Addr.mk k2 (0 + 6) none) = false ∧
     (∀ W9 : World, (W9 = World.setCell W8 (Addr.mk k2 (0 + 6) none) (Value.int IntKind.u32 z3) →
     (∃ vs2 : Array Value, (Array.size vs2 = 7 ∧
     (Sx.cellsAt W9 (Addr.mk k2 0 none) vs2 ∧
     (Array.size vs2 = 7 ∧
     ((∀ k4 : Nat, (k4 < 7 →
      ((∃ v6 : Value, World.cell? W9 (Addr.mk k (0 + k4) none) = some v6) ∧
      World.frozen? W9 (Addr.mk k (0 + k4) none) = false))) ∧
     ((∀ v7 : Value, (v7 ∈ Array.toList vs2 →
      Value.oneCell' v7 = true)) ∧
     (∀ W10 : World, (W10 = World.setCells W9 k 0 (Array.toList vs2) →
     (∃ vs3 : Array Value, (Array.size vs3 = 7 ∧
     (Sx.cellsAt W10 (Addr.mk k 0 none) vs3 ∧
     Q (Ending.returned (Value.agg vs3)) W10)))))))))))))))))))))))))))))))))))))))))))))))))))) :
  Calls Tryz.prog 42 #[Value.pointer (some ⟨h, ho, none⟩), Value.int .u32 w, Value.int .i64 cause, Value.int .u32 tval] W Q :=
  Sx.sound Tryz.func42 (.node [] [] 0 .leaf (.node [] [] 0 .leaf (.node [] [] 0 (.node [] [] 1011 .leaf .leaf) .leaf))) [Value.pointer (some ⟨h, ho, none⟩), Value.int .u32 w, Value.int .i64 cause, Value.int .u32 tval] rfl (Eq.mp (by kernel_rfl) hVC)
theorem vc10 {W : World} {Q : Ending → World → Prop} (h : Nat) (ho : Nat)
  (hVC :
    (∀ k : Nat, (∀ W2 : World, (k = Array.size (World.heap W) →
    (W2 = World.alloc W (Obj.cells #[Value.int IntKind.u32 0, Value.int IntKind.u32 0, Value.int IntKind.i64 0, Value.int IntKind.u32 0, Value.int IntKind.i64 0, Value.int IntKind.u32 0, Value.int IntKind.u32 0] 43) →
    (∃ t : Bool, (World.cell? W2 (Addr.mk h (ho + 36) none) = some (Value.bool t) ∧
    Sx.split t
     ((∀ vs : Array Value, (vs = #[Value.int IntKind.u32 0, Value.int IntKind.u32 0, Value.int IntKind.i64 0, Value.int IntKind.u32 0, Value.int IntKind.i64 0, Value.int IntKind.u32 0, Value.int IntKind.u32 0] →
      (Array.size vs = 7 ∧
      ((∀ k2 : Nat, (k2 < 7 →
       ((∃ v : Value, World.cell? W2 (Addr.mk k (0 + k2) none) = some v) ∧
       World.frozen? W2 (Addr.mk k (0 + k2) none) = false))) ∧
      ((∀ v2 : Value, (v2 ∈ Array.toList vs →
       Value.oneCell' v2 = true)) ∧
      (∀ W3 : World, (W3 = World.setCells W2 k 0 (Array.toList vs) →
      (∃ vs2 : Array Value, (Array.size vs2 = 7 ∧
      (Sx.cellsAt W3 (Addr.mk k 0 none) vs2 ∧
      Q (Ending.returned (Value.tuple #[Value.agg vs2, Value.bool false])) W3)))))))))))
     ((∃ p : Option Addr, (World.cell? W2 (Addr.mk h ho none) = some (Value.pointer p) ∧
      Calls Tryz.prog 41 #[Value.pointer p] W2 (fun e =>
       (fun W4 =>
       (∃ t2 : Bool, (e = Ending.returned (Value.bool t2) ∧
       Sx.split (!t2)
        ((∀ vs3 : Array Value, (vs3 = #[Value.int IntKind.u32 0, Value.int IntKind.u32 0, Value.int IntKind.i64 0, Value.int IntKind.u32 0, Value.int IntKind.i64 0, Value.int IntKind.u32 0, Value.int IntKind.u32 0] →
         (Array.size vs3 = 7 ∧
         ((∀ k3 : Nat, (k3 < 7 →
          ((∃ v3 : Value, World.cell? W4 (Addr.mk k (0 + k3) none) = some v3) ∧
          World.frozen? W4 (Addr.mk k (0 + k3) none) = false))) ∧
         ((∀ v4 : Value, (v4 ∈ Array.toList vs3 →
          Value.oneCell' v4 = true)) ∧
         (∀ W5 : World, (W5 = World.setCells W4 k 0 (Array.toList vs3) →
         (∃ vs4 : Array Value, (Array.size vs4 = 7 ∧
         (Sx.cellsAt W5 (Addr.mk k 0 none) vs4 ∧
         Q (Ending.returned (Value.tuple #[Value.agg vs4, Value.bool false])) W5)))))))))))
        (Calls Tryz.prog 42 #[Value.pointer (some (Addr.mk h ho none)), Value.int IntKind.u32 0, Value.int IntKind.i64 2147483659, Value.int IntKind.u32 0] W4 (fun e2 =>
          (fun W6 =>
          (∃ vs5 : Array Value, (e2 = Ending.returned (Value.agg vs5) ∧
          (Array.size vs5 = 7 ∧
          ((∀ k4 : Nat, (k4 < 7 →
           ((∃ v5 : Value, World.cell? W6 (Addr.mk k (0 + k4) none) = some v5) ∧
           World.frozen? W6 (Addr.mk k (0 + k4) none) = false))) ∧
          ((∀ v6 : Value, (v6 ∈ Array.toList vs5 →
           Value.oneCell' v6 = true)) ∧
          (∀ W7 : World, (W7 = World.setCells W6 k 0 (Array.toList vs5) →
          (∃ vs6 : Array Value, (Array.size vs6 = 7 ∧
          (Sx.cellsAt W7 (Addr.mk k 0 none) vs6 ∧
          Q (Ending.returned (Value.tuple #[Value.agg vs6, Value.bool true])) W7))))))))))))))))))))))))))) :
  Calls Tryz.prog 10 #[Value.pointer (some ⟨h, ho, none⟩)] W Q :=
  Sx.sound Tryz.func10 .leaf [Value.pointer (some ⟨h, ho, none⟩)] rfl (Eq.mp (by kernel_rfl) hVC)
theorem vc64 {W : World} {Q : Ending → World → Prop} (b : Option Addr) (bn : Nat) (bc : Nat)
  (hVC :
    (∃ I : Int → Int → World → Prop, (∃ I2 : Int → Int → World → Nat, (I 0 0 W ∧
    ((Nat →
    Value) →
    (∀ x : Int, (∀ v : Int, (∀ W2 : World, (I x v W2 →
    Sx.split (decide (x < (↑bn : Int)))
     ((((0 : Int) ≤ x ∧
       x < (↑bn : Int)) ∧
      Sx.adr b (fun k =>
       (fun k2 =>
       (∃ z : Int, (World.cell? W2 (Addr.mk k (k2 + Int.toNat x * 1) none) = some (Value.int IntKind.u8 z) ∧
       (∀ z2 : Int, (z2 = IntKind.wrap IntKind.u32 z →
       (∀ z3 : Int, (z3 = IntKind.wrap IntKind.i64 (8 * x) →
       ((0 : Int) ≤ z3 ∧
       (∀ z4 : Int, (z4 = IntKind.wrap IntKind.u32 (z2 * 2 ^ min (Int.toNat z3) (IntKind.bits IntKind.u32)) →
       (∀ z5 : Int, (z5 = IntKind.wrap IntKind.u32 (↑(BitVec.toNat (BitVec.ofInt (IntKind.bits IntKind.u32) v ||| BitVec.ofInt (IntKind.bits IntKind.u32) z4)) : Int) →
       (∀ z6 : Int, (z6 = IntKind.wrap IntKind.i64 (x + 1) →
       (I z6 z5 W2 ∧
       I2 z6 z5 W2 < I2 x v W2))))))))))))))))))
     (Q (Ending.returned (Value.int IntKind.u32 v)) W2)))))))))) :
  Calls Tryz.prog 64 #[Value.slice b bn bc] W Q :=
  Sx.sound Tryz.func64 (.node [] [] 0 .leaf (.node [] [] 0 (.node [] [] 0 .leaf (.node [] [] 0 (.node [(7, .int .i64), (2, .int .u32)] [6, 5] 0 .leaf .leaf) .leaf)) .leaf)) [Value.slice b bn bc] rfl (Eq.mp (by kernel_rfl) hVC)
theorem vc66 {W : World} {Q : Ending → World → Prop} (b : Option Addr) (bn : Nat) (bc : Nat) (v : Int)
  (hVC :
    (∃ I : Int → World → Prop, (∃ I2 : Int → World → Nat, (I 0 W ∧
    ((Nat →
    Value) →
    (∀ x : Int, (∀ W2 : World, (I x W2 →
    Sx.split (decide (x < (↑bn : Int)))
     ((∀ z : Int, (z = IntKind.wrap IntKind.i64 (8 * x) →
      ((0 : Int) ≤ z ∧
      (∀ z2 : Int, (z2 = Int.fdiv v (2 ^ min (Int.toNat z) (IntKind.bits IntKind.u32)) →
      (∀ z3 : Int, (z3 = IntKind.wrap IntKind.u8 z2 →
      (((0 : Int) ≤ x ∧
       x < (↑bn : Int)) ∧
      Sx.adr b (fun k =>
       (fun k2 =>
       ((∃ v2 : Value, World.cell? W2 (Addr.mk k (k2 + Int.toNat x * 1) none) = some v2) ∧
       (World.frozen? W2 (Addr.mk k (k2 + Int.toNat x * 1) none) = false ∧
       (∀ W3 : World, (W3 = World.setCell W2 (Addr.mk k (k2 + Int.toNat x * 1) none) (Value.int IntKind.u8 z3) →
       (∀ z4 : Int, (z4 = IntKind.wrap IntKind.i64 (x + 1) →
       (I z4 W3 ∧
       I2 z4 W3 < I2 x W2))))))))))))))))))
     (Q (Ending.returned (Value.tuple #[])) W2))))))))) :
  Calls Tryz.prog 66 #[Value.slice b bn bc, Value.int .u32 v] W Q :=
  Sx.sound Tryz.func66 (.node [] [] 0 .leaf (.node [] [] 0 (.node [(7, .int .i64)] [6, 0, 1] 0 .leaf .leaf) .leaf)) [Value.slice b bn bc, Value.int .u32 v] rfl (Eq.mp (by kernel_rfl) hVC)
theorem vc63 {W : World} {Q : Ending → World → Prop} (s : Option Addr) (sn : Nat) (sc : Nat)
  (hVC :
    Sx.split (Option.isNone s)
     (Q (Ending.returned (Value.slice none 0 0)) W)
     ((∀ k : Nat, (∀ W2 : World, (k = Array.size (World.heap W) →
      (W2 = World.alloc W (Obj.cells #[] 5) →
      (∃ l : List Value, (∃ l2 : List Value, (XHeap.Sl W2 5 1 (Value.slice (some (Addr.mk k 0 none)) 0 0) 0 l ∧
      ((((sn = 0 ∧
        s = none)) ∨
       ((∃ a : Addr, (s = some a ∧
       (∀ k2 : Nat, (∀ v : Value, (l2[k2]? = some v →
       World.cell? W2 (Addr.add a k2) = some v))))))) ∧
      (List.length l2 = sn * 1 ∧
      ((∀ v2 : Value, (v2 ∈ l2 →
       Value.oneCell' v2 = true)) ∧
      (0 + sn ≤ maxLen ∧
      ((0 + sn) * 1 ≤ 140737488355328 ∧
      (∀ p : Option Addr, (∀ k3 : Nat, (∀ W3 : World, (XHeap.Sl W3 5 1 (Value.slice p (0 + sn) k3) (0 + sn) (l ++ l2) →
      (XHeap.XTouch (fun b => Value.ownBlock (Value.slice (some (Addr.mk k 0 none)) 0 0) = some b) W2 W3 →
      ((∀ k4 : Nat, (Value.ownBlock (Value.slice p (0 + sn) k3) = some k4 →
      ((Value.ownBlock (Value.slice (some (Addr.mk k 0 none)) 0 0) = some k4) ∨
      (Array.size (World.heap W2) ≤ k4)))) →
      (XHeap.Sl W3 5 1 (Value.slice (some (Addr.mk k 0 none)) 0 0) 0 l →
      ((((p = some (Addr.mk k 0 none) ∧
       k3 = 0)) ∨
      ((((XHeap.NilP (some (Addr.mk k 0 none))) ∨
       ((0 : Nat) < (0 : Nat) + sn)) ∧
      (∀ k5 : Nat, (Value.ownBlock (Value.slice p (0 + sn) k3) = some k5 →
      Array.size (World.heap W2) ≤ k5))))) →
      Q (Ending.returned (Value.slice p (0 + sn) k3)) W3)))))))))))))))))))))) :
  Calls Tryz.prog 63 #[Value.slice s sn sc] W Q :=
  Sx.sound Tryz.func63 .leaf [Value.slice s sn sc] rfl (Eq.mp (by kernel_rfl) hVC)
theorem vc8 {W : World} {Q : Ending → World → Prop} (arg0 : Nat) (arg0o : Nat)
  (hVC :
    (∀ k : Nat, (∀ W2 : World, (k = Array.size (World.heap W) →
    (W2 = World.alloc W (Obj.cells #[Value.int IntKind.i64 0, Value.int IntKind.u32 0, Value.int IntKind.i64 0, Value.int IntKind.u32 0] 37) →
    (∃ p : Option Addr, (∃ k2 : Nat, (∃ k3 : Nat, (World.cell? W2 (Addr.mk arg0 (arg0o + 1) none) = some (Value.slice p k2 k3) ∧
    (∃ z : Int, (World.cell? W2 (Addr.mk arg0 (arg0o + 3) none) = some (Value.int IntKind.u32 z) ∧
    (∃ z2 : Int, (∃ t : Bool, ((∀ k4 : Nat, Calls Tryz.prog 30 #[Value.slice p k2 k3, Value.int IntKind.u32 z] (World.drewN W2 k4) (fun e =>
      (fun W3 =>
      (e = Ending.returned (Value.tuple #[Value.int IntKind.u32 z2, Value.bool t]) ∧
      (∃ k5 : Nat, W3 = World.drewN W2 k5))))) ∧
    (∀ W4 : World, (∀ k6 : Nat, (W4 = World.drewN W2 k6 →
    Calls Tryz.prog 31 #[Value.int IntKind.u32 z2] W4 (fun e2 =>
     (fun W5 =>
     (∃ vs : Array Value, (∃ t2 : Bool, (e2 = Ending.returned (Value.tuple #[Value.agg vs, Value.bool t2]) ∧
     (∀ k7 : Nat, (∀ W6 : World, (k7 = Array.size (World.heap W5) →
     (W6 = World.alloc W5 (Obj.cells #[Value.int IntKind.i64 0, Value.int IntKind.i64 0, Value.int IntKind.i64 0, Value.int IntKind.i64 0, Value.int IntKind.i64 0] 83) →
     (Array.size vs = 5 ∧
     ((∀ k8 : Nat, (k8 < 5 →
      ((∃ v : Value, World.cell? W6 (Addr.mk k7 (0 + k8) none) = some v) ∧
      World.frozen? W6 (Addr.mk k7 (0 + k8) none) = false))) ∧
     ((∀ v2 : Value, (v2 ∈ Array.toList vs →
      Value.oneCell' v2 = true)) ∧
     (∀ W7 : World, (W7 = World.setCells W6 k7 0 (Array.toList vs) →
     (∃ z3 : Int, (World.cell? W7 (Addr.mk k7 0 none) = some (Value.int IntKind.i64 z3) ∧
     Calls Tryz.prog 32 #[Value.int IntKind.i64 z3] W7 (fun e3 =>
      (fun W8 =>
      (∃ z4 : Int, (e3 = Ending.returned (Value.int IntKind.i64 z4) ∧
      Sx.split (!t)
       ((∀ vs2 : Array Value, (vs2 = #[Value.int IntKind.i64 0, Value.int IntKind.u32 0, Value.int IntKind.i64 0, Value.int IntKind.u32 0] →
        (Array.size vs2 = 4 ∧
        ((∀ k9 : Nat, (k9 < 4 →
         ((∃ v3 : Value, World.cell? W8 (Addr.mk k (0 + k9) none) = some v3) ∧
         World.frozen? W8 (Addr.mk k (0 + k9) none) = false))) ∧
        ((∀ v4 : Value, (v4 ∈ Array.toList vs2 →
         Value.oneCell' v4 = true)) ∧
        (∀ W9 : World, (W9 = World.setCells W8 k 0 (Array.toList vs2) →
        (∃ vs3 : Array Value, (Array.size vs3 = 4 ∧
        (Sx.cellsAt W9 (Addr.mk k 0 none) vs3 ∧
        Q (Ending.returned (Value.agg vs3)) W9)))))))))))
       (Sx.split (!t2)
         ((∀ vs4 : Array Value, (vs4 = #[Value.int IntKind.i64 0, Value.int IntKind.u32 0, Value.int IntKind.i64 0, Value.int IntKind.u32 0] →
          (Array.size vs4 = 4 ∧
          ((∀ k10 : Nat, (k10 < 4 →
           ((∃ v5 : Value, World.cell? W8 (Addr.mk k (0 + k10) none) = some v5) ∧
           World.frozen? W8 (Addr.mk k (0 + k10) none) = false))) ∧
          ((∀ v6 : Value, (v6 ∈ Array.toList vs4 →
           Value.oneCell' v6 = true)) ∧
          (∀ W10 : World, (W10 = World.setCells W8 k 0 (Array.toList vs4) →
          (∃ vs5 : Array Value, (Array.size vs5 = 4 ∧
          (Sx.cellsAt W10 (Addr.mk k 0 none) vs5 ∧
          Q (Ending.returned (Value.agg vs5)) W10)))))))))))
         ((∃ t3 : Bool, (World.cell? W8 (Addr.mk arg0 (arg0o + 36) none) = some (Value.bool t3) ∧
          Sx.split t3
           ((∀ vs6 : Array Value, (vs6 = #[Value.int IntKind.i64 0, Value.int IntKind.u32 0, Value.int IntKind.i64 0, Value.int IntKind.u32 0] →
            (Array.size vs6 = 4 ∧
            ((∀ k11 : Nat, (k11 < 4 →
             ((∃ v7 : Value, World.cell? W8 (Addr.mk k (0 + k11) none) = some v7) ∧
             World.frozen? W8 (Addr.mk k (0 + k11) none) = false))) ∧
            ((∀ v8 : Value, (v8 ∈ Array.toList vs6 →
             Value.oneCell' v8 = true)) ∧
            (∀ W11 : World, (W11 = World.setCells W8 k 0 (Array.toList vs6) →
            (∃ vs7 : Array Value, (Array.size vs7 = 4 ∧
            (Sx.cellsAt W11 (Addr.mk k 0 none) vs7 ∧
            Q (Ending.returned (Value.agg vs7)) W11)))))))))))
           (Sx.split (z4 == 0)
             ((∀ vs8 : Array Value, (vs8 = #[Value.int IntKind.i64 0, Value.int IntKind.u32 0, Value.int IntKind.i64 0, Value.int IntKind.u32 0] →
              (Array.size vs8 = 4 ∧
              ((∀ k12 : Nat, (k12 < 4 →
               ((∃ v9 : Value, World.cell? W8 (Addr.mk k (0 + k12) none) = some v9) ∧
               World.frozen? W8 (Addr.mk k (0 + k12) none) = false))) ∧
              ((∀ v10 : Value, (v10 ∈ Array.toList vs8 →
               Value.oneCell' v10 = true)) ∧
              (∀ W12 : World, (W12 = World.setCells W8 k 0 (Array.toList vs8) →
              (∃ vs9 : Array Value, (Array.size vs9 = 4 ∧
              (Sx.cellsAt W12 (Addr.mk k 0 none) vs9 ∧
              Q (Ending.returned (Value.agg vs9)) W12)))))))))))
             ((∃ I : Option Addr → World → Prop, ((∀ W13 : World, (W13 = World.drew W8 →
               (∃ vs10 : Array Value, (Array.size vs10 = 5 ∧
               (Sx.cellsAt W13 (Addr.mk k7 0 none) vs10 ∧
               (∃ z5 : Int, (World.cell? W13 (Addr.mk k7 (0 + 2) none) = some (Value.int IntKind.i64 z5) ∧
               (((0 : Int) ≤ z5 ∧
                z5 < (↑32 : Int)) ∧
               (∃ z6 : Int, (World.cell? W13 (Addr.mk arg0 (arg0o + 4 + Int.toNat z5 * 1) none) = some (Value.int IntKind.u32 z6) ∧
               ((∃ z7 : Int, (World.cell? W13 (Addr.mk k7 0 none) = some (Value.int IntKind.i64 z7) ∧
                (RowKit.Below (Array.size (World.heap W13)) W13 W13 ∧
                (Calls Tryz.prog 33 #[Value.agg vs10, Value.int IntKind.u32 z6] W13 (fun e4 =>
                  (fun W14 =>
                  (∃ z8 : Int, (e4 = Ending.returned (Value.int IntKind.u32 z8) ∧
                  (∀ vs11 : Array Value, (vs11 = #[Value.int IntKind.i64 z7, Value.int IntKind.u32 z8, Value.int IntKind.i64 z4, Value.int IntKind.u32 0] →
                  (∀ k13 : Nat, (∀ W15 : World, (k13 = Array.size (World.heap W14) →
                  (W15 = World.alloc W14 (Obj.cells #[Value.int IntKind.i64 0, Value.int IntKind.u32 0, Value.int IntKind.i64 0, Value.int IntKind.u32 0] 37) →
                  (Array.size vs11 = 4 ∧
                  ((∀ k14 : Nat, (k14 < 4 →
                   ((∃ v11 : Value, World.cell? W15 (Addr.mk k13 (0 + k14) none) = some v11) ∧
                   World.frozen? W15 (Addr.mk k13 (0 + k14) none) = false))) ∧
                  ((∀ v12 : Value, (v12 ∈ Array.toList vs11 →
                   Value.oneCell' v12 = true)) ∧
                  (∀ W16 : World, (W16 = World.setCells W15 k13 0 (Array.toList vs11) →
                  I (some (Addr.mk k13 0 none)) W16))))))))))))))) ∧
                (∀ k15 : Nat, (∀ W17 : World, (k15 = Array.size (World.heap W13) →
                (W17 = World.alloc W13 (Obj.cells #[Value.int IntKind.i64 0, Value.int IntKind.u32 0, Value.int IntKind.i64 0, Value.int IntKind.u32 0] 37) →
                (RowKit.Below (Array.size (World.heap W13)) W13 W17 ∧
                Calls Tryz.prog 33 #[Value.agg vs10, Value.int IntKind.u32 z6] W17 (fun e5 =>
                 (fun W18 =>
                 (∃ z9 : Int, (e5 = Ending.returned (Value.int IntKind.u32 z9) ∧
                 (∀ vs12 : Array Value, (vs12 = #[Value.int IntKind.i64 z7, Value.int IntKind.u32 z9, Value.int IntKind.i64 z4, Value.int IntKind.u32 0] →
                 (Array.size vs12 = 4 ∧
                 ((∀ k16 : Nat, (k16 < 4 →
                  ((∃ v13 : Value, World.cell? W18 (Addr.mk k15 (0 + k16) none) = some v13) ∧
                  World.frozen? W18 (Addr.mk k15 (0 + k16) none) = false))) ∧
                 ((∀ v14 : Value, (v14 ∈ Array.toList vs12 →
                  Value.oneCell' v14 = true)) ∧
                 (∀ W19 : World, (W19 = World.setCells W18 k15 0 (Array.toList vs12) →
                 I (some (Addr.mk k15 0 none)) W19)))))))))))))))))))) ∧
               (Calls Tryz.prog 33 #[Value.agg vs10, Value.int IntKind.u32 z6] W13 (fun e6 =>
                 (fun W20 =>
                 (∃ z10 : Int, (e6 = Ending.returned (Value.int IntKind.u32 z10) ∧
                 ((∃ z11 : Int, (World.cell? W20 (Addr.mk k7 0 none) = some (Value.int IntKind.i64 z11) ∧
                  (∀ vs13 : Array Value, (vs13 = #[Value.int IntKind.i64 z11, Value.int IntKind.u32 z10, Value.int IntKind.i64 z4, Value.int IntKind.u32 0] →
                  (∀ k17 : Nat, (∀ W21 : World, (k17 = Array.size (World.heap W20) →
                  (W21 = World.alloc W20 (Obj.cells #[Value.int IntKind.i64 0, Value.int IntKind.u32 0, Value.int IntKind.i64 0, Value.int IntKind.u32 0] 37) →
                  (Array.size vs13 = 4 ∧
                  ((∀ k18 : Nat, (k18 < 4 →
                   ((∃ v15 : Value, World.cell? W21 (Addr.mk k17 (0 + k18) none) = some v15) ∧
                   World.frozen? W21 (Addr.mk k17 (0 + k18) none) = false))) ∧
                  ((∀ v16 : Value, (v16 ∈ Array.toList vs13 →
                   Value.oneCell' v16 = true)) ∧
                  (∀ W22 : World, (W22 = World.setCells W21 k17 0 (Array.toList vs13) →
                  I (some (Addr.mk k17 0 none)) W22))))))))))))) ∧
                 (∀ k19 : Nat, (∀ W23 : World, (k19 = Array.size (World.heap W20) →
                 (W23 = World.alloc W20 (Obj.cells #[Value.int IntKind.i64 0, Value.int IntKind.u32 0, Value.int IntKind.i64 0, Value.int IntKind.u32 0] 37) →
                 (∃ z12 : Int, (World.cell? W23 (Addr.mk k7 0 none) = some (Value.int IntKind.i64 z12) ∧
                 (∀ vs14 : Array Value, (vs14 = #[Value.int IntKind.i64 z12, Value.int IntKind.u32 z10, Value.int IntKind.i64 z4, Value.int IntKind.u32 0] →
                 (Array.size vs14 = 4 ∧
                 ((∀ k20 : Nat, (k20 < 4 →
                  ((∃ v17 : Value, World.cell? W23 (Addr.mk k19 (0 + k20) none) = some v17) ∧
                  World.frozen? W23 (Addr.mk k19 (0 + k20) none) = false))) ∧
                 ((∀ v18 : Value, (v18 ∈ Array.toList vs14 →
                  Value.oneCell' v18 = true)) ∧
                 (∀ W24 : World, (W24 = World.setCells W23 k19 0 (Array.toList vs14) →
                 I (some (Addr.mk k19 0 none)) W24)))))))))))))))))) ∧
               (∀ k21 : Nat, (∀ W25 : World, (k21 = Array.size (World.heap W13) →
               (W25 = World.alloc W13 (Obj.cells #[Value.int IntKind.i64 0, Value.int IntKind.u32 0, Value.int IntKind.i64 0, Value.int IntKind.u32 0] 37) →
               (RowKit.Below (Array.size (World.heap W13)) W13 W25 ∧
               ((∃ z13 : Int, (World.cell? W25 (Addr.mk k7 0 none) = some (Value.int IntKind.i64 z13) ∧
                (RowKit.Below (Array.size (World.heap W13)) W13 W25 ∧
                Calls Tryz.prog 33 #[Value.agg vs10, Value.int IntKind.u32 z6] W25 (fun e7 =>
                 (fun W26 =>
                 (∃ z14 : Int, (e7 = Ending.returned (Value.int IntKind.u32 z14) ∧
                 (∀ vs15 : Array Value, (vs15 = #[Value.int IntKind.i64 z13, Value.int IntKind.u32 z14, Value.int IntKind.i64 z4, Value.int IntKind.u32 0] →
                 (Array.size vs15 = 4 ∧
                 ((∀ k22 : Nat, (k22 < 4 →
                  ((∃ v19 : Value, World.cell? W26 (Addr.mk k21 (0 + k22) none) = some v19) ∧
                  World.frozen? W26 (Addr.mk k21 (0 + k22) none) = false))) ∧
                 ((∀ v20 : Value, (v20 ∈ Array.toList vs15 →
                  Value.oneCell' v20 = true)) ∧
                 (∀ W27 : World, (W27 = World.setCells W26 k21 0 (Array.toList vs15) →
                 I (some (Addr.mk k21 0 none)) W27)))))))))))))) ∧
               Calls Tryz.prog 33 #[Value.agg vs10, Value.int IntKind.u32 z6] W25 (fun e8 =>
                (fun W28 =>
                (∃ z15 : Int, (e8 = Ending.returned (Value.int IntKind.u32 z15) ∧
                (∃ z16 : Int, (World.cell? W28 (Addr.mk k7 0 none) = some (Value.int IntKind.i64 z16) ∧
                (∀ vs16 : Array Value, (vs16 = #[Value.int IntKind.i64 z16, Value.int IntKind.u32 z15, Value.int IntKind.i64 z4, Value.int IntKind.u32 0] →
                (Array.size vs16 = 4 ∧
                ((∀ k23 : Nat, (k23 < 4 →
                 ((∃ v21 : Value, World.cell? W28 (Addr.mk k21 (0 + k23) none) = some v21) ∧
                 World.frozen? W28 (Addr.mk k21 (0 + k23) none) = false))) ∧
                ((∀ v22 : Value, (v22 ∈ Array.toList vs16 →
                 Value.oneCell' v22 = true)) ∧
                (∀ W29 : World, (W29 = World.setCells W28 k21 0 (Array.toList vs16) →
                I (some (Addr.mk k21 0 none)) W29))))))))))))))))))))))))))))))) ∧
              ((Nat →
              Value) →
              (∀ x : Option Addr, (∀ W30 : World, (I x W30 →
              (∀ W31 : World, (W31 = World.drew W30 →
              Sx.ptr x (fun a =>
               (∃ z17 : Int, (World.cell? W31 (Addr.mk k7 0 none) = some (Value.int IntKind.i64 z17) ∧
               (∃ z18 : Int, (World.cell? W31 (Addr.add a 1) = some (Value.int IntKind.u32 z18) ∧
               (∃ z19 : Int, (World.cell? W31 (Addr.mk arg0 (arg0o + 2) none) = some (Value.int IntKind.i64 z19) ∧
               Calls Tryz.prog 34 #[Value.int IntKind.i64 z17, Value.int IntKind.u32 z18, Value.int IntKind.i64 z19] W31 (fun e9 =>
                (fun W32 =>
                (∃ z20 : Int, (e9 = Ending.returned (Value.int IntKind.i64 z20) ∧
                Sx.split (z20 != -1)
                 ((∀ vs17 : Array Value, (vs17 = #[Value.int IntKind.i64 0, Value.int IntKind.u32 0, Value.int IntKind.i64 0, Value.int IntKind.u32 0] →
                  (Array.size vs17 = 4 ∧
                  ((∀ k24 : Nat, (k24 < 4 →
                   ((∃ v23 : Value, World.cell? W32 (Addr.mk k (0 + k24) none) = some v23) ∧
                   World.frozen? W32 (Addr.mk k (0 + k24) none) = false))) ∧
                  ((∀ v24 : Value, (v24 ∈ Array.toList vs17 →
                   Value.oneCell' v24 = true)) ∧
                  (∀ W33 : World, (W33 = World.setCells W32 k 0 (Array.toList vs17) →
                  (∃ vs18 : Array Value, (Array.size vs18 = 4 ∧
                  (Sx.cellsAt W33 (Addr.mk k 0 none) vs18 ∧
                  Q (Ending.returned (Value.agg vs18)) W33)))))))))))
                 ((∃ z21 : Int, (World.cell? W32 (Addr.mk k7 0 none) = some (Value.int IntKind.i64 z21) ∧
                  Calls Tryz.prog 35 #[Value.int IntKind.i64 z21] W32 (fun e10 =>
                   (fun W34 =>
                   (∃ z22 : Int, (e10 = Ending.returned (Value.int IntKind.i64 z22) ∧
                   Sx.split (z22 != 4)
                    ((∀ W35 : World, (W35 = World.drew W34 →
                     (∃ z23 : Int, (World.cell? W35 (Addr.mk k7 (0 + 3) none) = some (Value.int IntKind.i64 z23) ∧
                     (((0 : Int) ≤ z23 ∧
                      z23 < (↑32 : Int)) ∧
                     (∃ z24 : Int, (World.cell? W35 (Addr.mk arg0 (arg0o + 4 + Int.toNat z23 * 1) none) = some (Value.int IntKind.u32 z24) ∧
                     (∀ z25 : Int, (z25 = IntKind.wrap IntKind.i64 (8 * z4) →
                     (∀ z26 : Int, (z26 = IntKind.wrap IntKind.i64 (32 - z25) →
                     ((0 : Int) ≤ z26 ∧
                     (∀ z27 : Int, (z27 = IntKind.wrap IntKind.u32 (z24 * 2 ^ min (Int.toNat z26) (IntKind.bits IntKind.u32)) →
                     (∀ z28 : Int, (z28 = IntKind.wrap IntKind.i64 (8 * z4) →
                     (∀ z29 : Int, (z29 = IntKind.wrap IntKind.i64 (32 - z28) →
                     ((0 : Int) ≤ z29 ∧
                     (∀ z30 : Int, (z30 = Int.fdiv z27 (2 ^ min (Int.toNat z29) (IntKind.bits IntKind.u32)) →
                     Sx.ptr x (fun a2 =>
                      ((∃ v25 : Value, World.cell? W35 (Addr.add a2 3) = some v25) ∧
                      (World.frozen? W35 (Addr.add a2 3) = false ∧
                      (∀ W36 : World, (W36 = World.setCell W35 (Addr.add a2 3) (Value.int IntKind.u32 z30) →
                      Sx.ptr x (fun a3 =>
                       (∃ vs19 : Array Value, (Array.size vs19 = 4 ∧
                       (Sx.cellsAt W36 a3 vs19 ∧
                       (Array.size vs19 = 4 ∧
                       ((∀ k25 : Nat, (k25 < 4 →
                        ((∃ v26 : Value, World.cell? W36 (Addr.mk k (0 + k25) none) = some v26) ∧
                        World.frozen? W36 (Addr.mk k (0 + k25) none) = false))) ∧
                       ((∀ v27 : Value, (v27 ∈ Array.toList vs19 →
                        Value.oneCell' v27 = true)) ∧
                       (∀ W37 : World, (W37 = World.setCells W36 k 0 (Array.toList vs19) →
                       (∃ vs20 : Array Value, (Array.size vs20 = 4 ∧
                       (Sx.cellsAt W37 (Addr.mk k 0 none) vs20 ∧
                       Q (Ending.returned (Value.agg vs20)) W37)))))))))))))))))))))))))))))))))))))))
                    (Sx.ptr x (fun a4 =>
                      (∃ vs21 : Array Value, (Array.size vs21 = 4 ∧
                      (Sx.cellsAt W34 a4 vs21 ∧
                      (Array.size vs21 = 4 ∧
                      ((∀ k26 : Nat, (k26 < 4 →
                       ((∃ v28 : Value, World.cell? W34 (Addr.mk k (0 + k26) none) = some v28) ∧
                       World.frozen? W34 (Addr.mk k (0 + k26) none) = false))) ∧
                      ((∀ v29 : Value, (v29 ∈ Array.toList vs21 →
                       Value.oneCell' v29 = true)) ∧
                      (∀ W38 : World, (W38 = World.setCells W34 k 0 (Array.toList vs21) →
                      (∃ vs22 : Array Value, (Array.size vs22 = 4 ∧
                      (Sx.cellsAt W38 (Addr.mk k 0 none) vs22 ∧
                      Q (Ending.returned (Value.agg vs22)) W38)))))))))))))))))))))))))))))))))))))))))))))))))))))))))))))))))))))))))))))))))) :
  Calls Tryz.prog 8 #[Value.pointer (some ⟨arg0, arg0o, none⟩)] W Q :=
  Sx.sound Tryz.func8 (.node [] [] 0 .leaf (.node [] [] 0 .leaf (.node [] [] 0 .leaf (.node [] [] 0 .leaf (.node [] [] 0 .leaf (.node [(8, .ptr)] [5, 0, 2, 7] 1 (.node [] [] 1011 .leaf .leaf) (.node [] [] 0 (.node [] [] 0 (.node [] [] 1009 .leaf .leaf) .leaf) (.node [] [] 0 (.node [] [] 0 .leaf (.node [] [] 0 (.node [] [] 17 .leaf .leaf) .leaf)) .leaf)))))))) [Value.pointer (some ⟨arg0, arg0o, none⟩)] rfl (Eq.mp (by kernel_rfl) hVC)
theorem vc13 {W : World} {Q : Ending → World → Prop} (arg0 : Nat) (arg0o : Nat) (arg1 : Int) (arg2 : Bool)
  (hVC :
    (∀ k : Nat, (∀ W2 : World, (k = Array.size (World.heap W) →
    (W2 = World.alloc W (Obj.cells #[Value.int IntKind.u32 0, Value.int IntKind.u32 0, Value.int IntKind.i64 0, Value.int IntKind.u32 0, Value.int IntKind.i64 0, Value.int IntKind.u32 0, Value.int IntKind.u32 0] 43) →
    (∃ t : Bool, (World.cell? W2 (Addr.mk arg0 (arg0o + 36) none) = some (Value.bool t) ∧
    Sx.split t
     ((∀ W3 : World, (W3 = World.drew W2 →
      (∃ z : Int, (World.cell? W3 (Addr.mk arg0 (arg0o + 3) none) = some (Value.int IntKind.u32 z) ∧
      (∃ z2 : Int, (World.cell? W3 (Addr.mk arg0 (arg0o + 3) none) = some (Value.int IntKind.u32 z2) ∧
      (∀ vs : Array Value, (vs = #[Value.int IntKind.u32 z, Value.int IntKind.u32 0, Value.int IntKind.i64 0, Value.int IntKind.u32 0, Value.int IntKind.i64 (-1), Value.int IntKind.u32 0, Value.int IntKind.u32 z2] →
      (Array.size vs = 7 ∧
      ((∀ k2 : Nat, (k2 < 7 →
       ((∃ v : Value, World.cell? W3 (Addr.mk k (0 + k2) none) = some v) ∧
       World.frozen? W3 (Addr.mk k (0 + k2) none) = false))) ∧
      ((∀ v2 : Value, (v2 ∈ Array.toList vs →
       Value.oneCell' v2 = true)) ∧
      (∀ W4 : World, (W4 = World.setCells W3 k 0 (Array.toList vs) →
      (∃ vs2 : Array Value, (Array.size vs2 = 7 ∧
      (Sx.cellsAt W4 (Addr.mk k 0 none) vs2 ∧
      Q (Ending.returned (Value.agg vs2)) W4)))))))))))))))))
     ((∃ p : Option Addr, (∃ k3 : Nat, (∃ k4 : Nat, (World.cell? W2 (Addr.mk arg0 (arg0o + 1) none) = some (Value.slice p k3 k4) ∧
      (∃ z3 : Int, (World.cell? W2 (Addr.mk arg0 (arg0o + 3) none) = some (Value.int IntKind.u32 z3) ∧
      (∃ z4 : Int, (∃ t2 : Bool, ((∀ k5 : Nat, Calls Tryz.prog 30 #[Value.slice p k3 k4, Value.int IntKind.u32 z3] (World.drewN W2 k5) (fun e =>
        (fun W5 =>
        (e = Ending.returned (Value.tuple #[Value.int IntKind.u32 z4, Value.bool t2]) ∧
        (∃ k6 : Nat, W5 = World.drewN W2 k6))))) ∧
      (∀ W6 : World, (∀ k7 : Nat, (W6 = World.drewN W2 k7 →
      Sx.split (!t2)
       ((∃ z5 : Int, (World.cell? W6 (Addr.mk arg0 (arg0o + 3) none) = some (Value.int IntKind.u32 z5) ∧
        Calls Tryz.prog 42 #[Value.pointer (some (Addr.mk arg0 arg0o none)), Value.int IntKind.u32 0, Value.int IntKind.i64 1, Value.int IntKind.u32 z5] W6 (fun e2 =>
         (fun W7 =>
         (∃ vs3 : Array Value, (e2 = Ending.returned (Value.agg vs3) ∧
         (Array.size vs3 = 7 ∧
         ((∀ k8 : Nat, (k8 < 7 →
          ((∃ v3 : Value, World.cell? W7 (Addr.mk k (0 + k8) none) = some v3) ∧
          World.frozen? W7 (Addr.mk k (0 + k8) none) = false))) ∧
         ((∀ v4 : Value, (v4 ∈ Array.toList vs3 →
          Value.oneCell' v4 = true)) ∧
         (∀ W8 : World, (W8 = World.setCells W7 k 0 (Array.toList vs3) →
         (∃ vs4 : Array Value, (Array.size vs4 = 7 ∧
         (Sx.cellsAt W8 (Addr.mk k 0 none) vs4 ∧
         Q (Ending.returned (Value.agg vs4)) W8)))))))))))))))
       (Calls Tryz.prog 31 #[Value.int IntKind.u32 z4] W6 (fun e3 =>
         (fun W9 =>
         (∃ vs5 : Array Value, (∃ t3 : Bool, (e3 = Ending.returned (Value.tuple #[Value.agg vs5, Value.bool t3]) ∧
         (∀ k9 : Nat, (∀ W10 : World, (k9 = Array.size (World.heap W9) →
         (W10 = World.alloc W9 (Obj.cells #[Value.int IntKind.i64 0, Value.int IntKind.i64 0, Value.int IntKind.i64 0, Value.int IntKind.i64 0, Value.int IntKind.i64 0] 83) →
         (Array.size vs5 = 5 ∧
         ((∀ k10 : Nat, (k10 < 5 →
          ((∃ v5 : Value, World.cell? W10 (Addr.mk k9 (0 + k10) none) = some v5) ∧
          World.frozen? W10 (Addr.mk k9 (0 + k10) none) = false))) ∧
         ((∀ v6 : Value, (v6 ∈ Array.toList vs5 →
          Value.oneCell' v6 = true)) ∧
         (∀ W11 : World, (W11 = World.setCells W10 k9 0 (Array.toList vs5) →
         Sx.split (!t3)
          (Calls Tryz.prog 42 #[Value.pointer (some (Addr.mk arg0 arg0o none)), Value.int IntKind.u32 z4, Value.int IntKind.i64 2, Value.int IntKind.u32 z4] W11 (fun e4 =>
            (fun W12 =>
            (∃ vs6 : Array Value, (e4 = Ending.returned (Value.agg vs6) ∧
            (Array.size vs6 = 7 ∧
            ((∀ k11 : Nat, (k11 < 7 →
             ((∃ v7 : Value, World.cell? W12 (Addr.mk k (0 + k11) none) = some v7) ∧
             World.frozen? W12 (Addr.mk k (0 + k11) none) = false))) ∧
            ((∀ v8 : Value, (v8 ∈ Array.toList vs6 →
             Value.oneCell' v8 = true)) ∧
            (∀ W13 : World, (W13 = World.setCells W12 k 0 (Array.toList vs6) →
            (∃ vs7 : Array Value, (Array.size vs7 = 7 ∧
            (Sx.cellsAt W13 (Addr.mk k 0 none) vs7 ∧
            Q (Ending.returned (Value.agg vs7)) W13)))))))))))))
          ((∃ z6 : Int, (World.cell? W11 (Addr.mk k9 (0 + 2) none) = some (Value.int IntKind.i64 z6) ∧
           (((0 : Int) ≤ z6 ∧
            z6 < (↑32 : Int)) ∧
           (∃ z7 : Int, (World.cell? W11 (Addr.mk arg0 (arg0o + 4 + Int.toNat z6 * 1) none) = some (Value.int IntKind.u32 z7) ∧
           (∃ z8 : Int, (World.cell? W11 (Addr.mk k9 (0 + 3) none) = some (Value.int IntKind.i64 z8) ∧
           (((0 : Int) ≤ z8 ∧
            z8 < (↑32 : Int)) ∧
           (∃ z9 : Int, (World.cell? W11 (Addr.mk arg0 (arg0o + 4 + Int.toNat z8 * 1) none) = some (Value.int IntKind.u32 z9) ∧
           (∀ W14 : World, (∀ k12 : Nat, (W14 = World.drewN W11 k12 →
           (∃ z10 : Int, (World.cell? W14 (Addr.mk arg0 (arg0o + 3) none) = some (Value.int IntKind.u32 z10) ∧
           (∀ z11 : Int, (z11 = IntKind.wrap IntKind.u32 (z10 + 4) →
           (∀ W15 : World, (∀ k13 : Nat, (W15 = World.drewN W14 k13 →
           (∃ I : Int → Int → World → Prop, ((∃ z12 : Int, (World.cell? W15 (Addr.mk k9 0 none) = some (Value.int IntKind.i64 z12) ∧
            Calls Tryz.prog 35 #[Value.int IntKind.i64 z12] W15 (fun e5 =>
             (fun W16 =>
             (∃ z13 : Int, (e5 = Ending.returned (Value.int IntKind.i64 z13) ∧
             Sx.split (z13 == 0)
              ((∀ W17 : World, (W17 = World.drew W16 →
               (∃ vs8 : Array Value, (Array.size vs8 = 5 ∧
               (Sx.cellsAt W17 (Addr.mk k9 0 none) vs8 ∧
               (∃ z14 : Int, (World.cell? W17 (Addr.mk arg0 (arg0o + 3) none) = some (Value.int IntKind.u32 z14) ∧
               Calls Tryz.prog 44 #[Value.agg vs8, Value.int IntKind.u32 z14, Value.int IntKind.u32 z7, Value.int IntKind.u32 z9] W17 (fun e6 =>
                (fun W18 =>
                (∃ z15 : Int, (∃ z16 : Int, (e6 = Ending.returned (Value.tuple #[Value.int IntKind.u32 z15, Value.int IntKind.u32 z16]) ∧
                (∃ z17 : Int, (World.cell? W18 (Addr.mk k9 0 none) = some (Value.int IntKind.i64 z17) ∧
                Calls Tryz.prog 45 #[Value.int IntKind.i64 z17, Value.int IntKind.u32 z15, Value.int IntKind.u32 z16] W18 (fun e7 =>
                 (fun W19 =>
                 (∃ z18 : Int, (e7 = Ending.returned (Value.int IntKind.u32 z18) ∧
                 I z11 z18 W19)))))))))))))))))))
              (Sx.split (z13 == 1)
                ((∀ W20 : World, (W20 = World.drew W16 →
                 (∃ vs9 : Array Value, (Array.size vs9 = 5 ∧
                 (Sx.cellsAt W20 (Addr.mk k9 0 none) vs9 ∧
                 (∃ z19 : Int, (World.cell? W20 (Addr.mk arg0 (arg0o + 3) none) = some (Value.int IntKind.u32 z19) ∧
                 Calls Tryz.prog 44 #[Value.agg vs9, Value.int IntKind.u32 z19, Value.int IntKind.u32 z7, Value.int IntKind.u32 z9] W20 (fun e8 =>
                  (fun W21 =>
                  (∃ z20 : Int, (∃ z21 : Int, (e8 = Ending.returned (Value.tuple #[Value.int IntKind.u32 z20, Value.int IntKind.u32 z21]) ∧
                  (∃ z22 : Int, (World.cell? W21 (Addr.mk k9 0 none) = some (Value.int IntKind.i64 z22) ∧
                  Calls Tryz.prog 45 #[Value.int IntKind.i64 z22, Value.int IntKind.u32 z20, Value.int IntKind.u32 z21] W21 (fun e9 =>
                   (fun W22 =>
                   (∃ z23 : Int, (e9 = Ending.returned (Value.int IntKind.u32 z23) ∧
                   I z11 z23 W22)))))))))))))))))))
                (Sx.split (z13 == 2)
                  ((∃ z24 : Int, (World.cell? W16 (Addr.mk k9 0 none) = some (Value.int IntKind.i64 z24) ∧
                   Calls Tryz.prog 46 #[Value.int IntKind.i64 z24, Value.int IntKind.u32 z7, Value.int IntKind.u32 z9] W16 (fun e10 =>
                    (fun W23 =>
                    (∃ t4 : Bool, (e10 = Ending.returned (Value.bool t4) ∧
                    Sx.split t4
                     ((∀ W24 : World, (W24 = World.drew W23 →
                      (∃ vs10 : Array Value, (Array.size vs10 = 5 ∧
                      (Sx.cellsAt W24 (Addr.mk k9 0 none) vs10 ∧
                      (∃ z25 : Int, (World.cell? W24 (Addr.mk arg0 (arg0o + 3) none) = some (Value.int IntKind.u32 z25) ∧
                      Calls Tryz.prog 47 #[Value.agg vs10, Value.int IntKind.u32 z25, Value.int IntKind.u32 z7] W24 (fun e11 =>
                       (fun W25 =>
                       (∃ z26 : Int, (e11 = Ending.returned (Value.int IntKind.u32 z26) ∧
                       I z26 0 W25))))))))))))
                     (I z11 0 W23))))))))
                  (Sx.split (z13 == 3)
                    ((∀ W26 : World, (W26 = World.drew W16 →
                     (∃ vs11 : Array Value, (Array.size vs11 = 5 ∧
                     (Sx.cellsAt W26 (Addr.mk k9 0 none) vs11 ∧
                     (∃ z27 : Int, (World.cell? W26 (Addr.mk arg0 (arg0o + 3) none) = some (Value.int IntKind.u32 z27) ∧
                     Calls Tryz.prog 47 #[Value.agg vs11, Value.int IntKind.u32 z27, Value.int IntKind.u32 z7] W26 (fun e12 =>
                      (fun W27 =>
                      (∃ z28 : Int, (e12 = Ending.returned (Value.int IntKind.u32 z28) ∧
                      I z28 z11 W27))))))))))))
                    (Sx.split (z13 == 7)
                      ((∃ z29 : Int, (World.cell? W16 (Addr.mk k9 0 none) = some (Value.int IntKind.i64 z29) ∧
                       Sx.split (z29 == 58)
                        (Calls Tryz.prog 42 #[Value.pointer (some (Addr.mk arg0 arg0o none)), Value.int IntKind.u32 z4, Value.int IntKind.i64 11, Value.int IntKind.u32 0] W16 (fun e13 =>
                          (fun W28 =>
                          (∃ vs12 : Array Value, (e13 = Ending.returned (Value.agg vs12) ∧
                          (Array.size vs12 = 7 ∧
                          ((∀ k14 : Nat, (k14 < 7 →
                           ((∃ v9 : Value, World.cell? W28 (Addr.mk k (0 + k14) none) = some v9) ∧
                           World.frozen? W28 (Addr.mk k (0 + k14) none) = false))) ∧
                          ((∀ v10 : Value, (v10 ∈ Array.toList vs12 →
                           Value.oneCell' v10 = true)) ∧
                          (∀ W29 : World, (W29 = World.setCells W28 k 0 (Array.toList vs12) →
                          (∃ vs13 : Array Value, (Array.size vs13 = 7 ∧
                          (Sx.cellsAt W29 (Addr.mk k 0 none) vs13 ∧
                          Q (Ending.returned (Value.agg vs13)) W29)))))))))))))
                        (Sx.split (z29 == 59)
                          ((∃ z30 : Int, (World.cell? W16 (Addr.mk arg0 (arg0o + 3) none) = some (Value.int IntKind.u32 z30) ∧
                           Calls Tryz.prog 42 #[Value.pointer (some (Addr.mk arg0 arg0o none)), Value.int IntKind.u32 z4, Value.int IntKind.i64 3, Value.int IntKind.u32 z30] W16 (fun e14 =>
                            (fun W30 =>
                            (∃ vs14 : Array Value, (e14 = Ending.returned (Value.agg vs14) ∧
                            (Array.size vs14 = 7 ∧
                            ((∀ k15 : Nat, (k15 < 7 →
                             ((∃ v11 : Value, World.cell? W30 (Addr.mk k (0 + k15) none) = some v11) ∧
                             World.frozen? W30 (Addr.mk k (0 + k15) none) = false))) ∧
                            ((∀ v12 : Value, (v12 ∈ Array.toList vs14 →
                             Value.oneCell' v12 = true)) ∧
                            (∀ W31 : World, (W31 = World.setCells W30 k 0 (Array.toList vs14) →
                            (∃ vs15 : Array Value, (Array.size vs15 = 7 ∧
                            (Sx.cellsAt W31 (Addr.mk k 0 none) vs15 ∧
                            Q (Ending.returned (Value.agg vs15)) W31)))))))))))))))
                          (Sx.split (z29 == 60)
                            ((∃ p2 : Option Addr, (World.cell? W16 (Addr.mk arg0 arg0o none) = some (Value.pointer p2) ∧
                             Calls Tryz.prog 48 #[Value.pointer p2] W16 (fun e15 =>
                              (fun W32 =>
                              (∃ z31 : Int, (e15 = Ending.returned (Value.int IntKind.u32 z31) ∧
                              I z31 0 W32)))))))
                            (Sx.split (z29 == 57)
                              (I z11 0 W16)
                              (Sx.split (z29 == 61)
                                (I z11 0 W16)
                                ((∀ W33 : World, (W33 = World.drew W16 →
                                 (∃ p3 : Option Addr, (World.cell? W33 (Addr.mk arg0 arg0o none) = some (Value.pointer p3) ∧
                                 (∃ vs16 : Array Value, (Array.size vs16 = 5 ∧
                                 (Sx.cellsAt W33 (Addr.mk k9 0 none) vs16 ∧
                                 Calls Tryz.prog 49 #[Value.pointer p3, Value.agg vs16, Value.int IntKind.u32 z7] W33 (fun e16 =>
                                  (fun W34 =>
                                  (∃ z32 : Int, (∃ t5 : Bool, (e16 = Ending.returned (Value.tuple #[Value.int IntKind.u32 z32, Value.bool t5]) ∧
                                  Sx.split (!t5)
                                   (Calls Tryz.prog 42 #[Value.pointer (some (Addr.mk arg0 arg0o none)), Value.int IntKind.u32 z4, Value.int IntKind.i64 2, Value.int IntKind.u32 z4] W34 (fun e17 =>
                                     (fun W35 =>
                                     (∃ vs17 : Array Value, (e17 = Ending.returned (Value.agg vs17) ∧
                                     (Array.size vs17 = 7 ∧
                                     ((∀ k16 : Nat, (k16 < 7 →
                                      ((∃ v13 : Value, World.cell? W35 (Addr.mk k (0 + k16) none) = some v13) ∧
                                      World.frozen? W35 (Addr.mk k (0 + k16) none) = false))) ∧
                                     ((∀ v14 : Value, (v14 ∈ Array.toList vs17 →
                                      Value.oneCell' v14 = true)) ∧
                                     (∀ W36 : World, (W36 = World.setCells W35 k 0 (Array.toList vs17) →
                                     (∃ vs18 : Array Value, (Array.size vs18 = 7 ∧
                                     (Sx.cellsAt W36 (Addr.mk k 0 none) vs18 ∧
                                     Q (Ending.returned (Value.agg vs18)) W36)))))))))))))
                                   (I z11 z32 W34)))))))))))))))))))))
                      ((∃ vs19 : Array Value, (Array.size vs19 = 5 ∧
                       (Sx.cellsAt W16 (Addr.mk k9 0 none) vs19 ∧
                       Calls Tryz.prog 33 #[Value.agg vs19, Value.int IntKind.u32 z7] W16 (fun e18 =>
                        (fun W37 =>
                        (∃ z33 : Int, (e18 = Ending.returned (Value.int IntKind.u32 z33) ∧
                        (∀ W38 : World, (W38 = World.drew W37 →
                        (∃ z34 : Int, (World.cell? W38 (Addr.mk k9 0 none) = some (Value.int IntKind.i64 z34) ∧
                        (∃ z35 : Int, (World.cell? W38 (Addr.mk arg0 (arg0o + 2) none) = some (Value.int IntKind.i64 z35) ∧
                        Calls Tryz.prog 34 #[Value.int IntKind.i64 z34, Value.int IntKind.u32 z33, Value.int IntKind.i64 z35] W38 (fun e19 =>
                         (fun W39 =>
                         (∃ z36 : Int, (e19 = Ending.returned (Value.int IntKind.i64 z36) ∧
                         Sx.split (z36 != -1)
                          ((∀ W40 : World, (W40 = World.drew W39 →
                           (∃ z37 : Int, (World.cell? W40 (Addr.mk k9 0 none) = some (Value.int IntKind.i64 z37) ∧
                           (∃ z38 : Int, (World.cell? W40 (Addr.mk arg0 (arg0o + 2) none) = some (Value.int IntKind.i64 z38) ∧
                           Calls Tryz.prog 34 #[Value.int IntKind.i64 z37, Value.int IntKind.u32 z33, Value.int IntKind.i64 z38] W40 (fun e20 =>
                            (fun W41 =>
                            (∃ z39 : Int, (e20 = Ending.returned (Value.int IntKind.i64 z39) ∧
                            (RowKit.Below (Array.size (World.heap W40)) W40 W41 ∧
                            Calls Tryz.prog 42 #[Value.pointer (some (Addr.mk arg0 arg0o none)), Value.int IntKind.u32 z4, Value.int IntKind.i64 z39, Value.int IntKind.u32 z33] W41 (fun e21 =>
                             (fun W42 =>
                             (∃ vs20 : Array Value, (e21 = Ending.returned (Value.agg vs20) ∧
                             (Array.size vs20 = 7 ∧
                             ((∀ k17 : Nat, (k17 < 7 →
                              ((∃ v15 : Value, World.cell? W42 (Addr.mk k (0 + k17) none) = some v15) ∧
                              World.frozen? W42 (Addr.mk k (0 + k17) none) = false))) ∧
                             ((∀ v16 : Value, (v16 ∈ Array.toList vs20 →
                              Value.oneCell' v16 = true)) ∧
                             (∀ W43 : World, (W43 = World.setCells W42 k 0 (Array.toList vs20) →
                             (∃ vs21 : Array Value, (Array.size vs21 = 7 ∧
                             (Sx.cellsAt W43 (Addr.mk k 0 none) vs21 ∧
                             Q (Ending.returned (Value.agg vs21)) W43))))))))))))))))))))))))
                          ((∃ z40 : Int, (World.cell? W39 (Addr.mk k9 0 none) = some (Value.int IntKind.i64 z40) ∧
                           Calls Tryz.prog 50 #[Value.int IntKind.i64 z40, Value.int IntKind.u32 arg1] W39 (fun e22 =>
                            (fun W44 =>
                            (∃ z41 : Int, (e22 = Ending.returned (Value.int IntKind.u32 z41) ∧
                            (∃ z42 : Int, (World.cell? W44 (Addr.mk k9 0 none) = some (Value.int IntKind.i64 z42) ∧
                            Sx.split (z42 == 47)
                             (Sx.split arg2
                               (I z11 0 W44)
                               (I z11 1 W44))
                             (I z11 z41 W44)))))))))))))))))))))))))))))))))))))) ∧
           ((Nat →
           Value) →
           (∀ x : Int, (∀ x2 : Int, (∀ W45 : World, (I x x2 W45 →
           (∀ z43 : Int, (z43 = IntKind.wrap IntKind.u32 (↑(BitVec.toNat (BitVec.ofInt (IntKind.bits IntKind.u32) x &&& BitVec.ofInt (IntKind.bits IntKind.u32) 3)) : Int) →
           Sx.split (z43 != 0)
            (Calls Tryz.prog 42 #[Value.pointer (some (Addr.mk arg0 arg0o none)), Value.int IntKind.u32 z4, Value.int IntKind.i64 0, Value.int IntKind.u32 x] W45 (fun e23 =>
              (fun W46 =>
              (∃ vs22 : Array Value, (e23 = Ending.returned (Value.agg vs22) ∧
              (Array.size vs22 = 7 ∧
              ((∀ k18 : Nat, (k18 < 7 →
               ((∃ v17 : Value, World.cell? W46 (Addr.mk k (0 + k18) none) = some v17) ∧
               World.frozen? W46 (Addr.mk k (0 + k18) none) = false))) ∧
              ((∀ v18 : Value, (v18 ∈ Array.toList vs22 →
               Value.oneCell' v18 = true)) ∧
              (∀ W47 : World, (W47 = World.setCells W46 k 0 (Array.toList vs22) →
              (∃ vs23 : Array Value, (Array.size vs23 = 7 ∧
              (Sx.cellsAt W47 (Addr.mk k 0 none) vs23 ∧
              Q (Ending.returned (Value.agg vs23)) W47)))))))))))))
            ((∃ z44 : Int, (World.cell? W45 (Addr.mk arg0 (arg0o + 3) none) = some (Value.int IntKind.u32 z44) ∧
             (∀ vs24 : Array Value, (vs24 = #[Value.int IntKind.u32 z44, Value.int IntKind.u32 z4, Value.int IntKind.i64 0, Value.int IntKind.u32 0, Value.int IntKind.i64 (-1), Value.int IntKind.u32 0, Value.int IntKind.u32 x] →
             (∀ k19 : Nat, (∀ W48 : World, (k19 = Array.size (World.heap W45) →
             (W48 = World.alloc W45 (Obj.cells #[Value.int IntKind.u32 0, Value.int IntKind.u32 0, Value.int IntKind.i64 0, Value.int IntKind.u32 0, Value.int IntKind.i64 0, Value.int IntKind.u32 0, Value.int IntKind.u32 0] 43) →
             (Array.size vs24 = 7 ∧
             ((∀ k20 : Nat, (k20 < 7 →
              ((∃ v19 : Value, World.cell? W48 (Addr.mk k19 (0 + k20) none) = some v19) ∧
              World.frozen? W48 (Addr.mk k19 (0 + k20) none) = false))) ∧
             ((∀ v20 : Value, (v20 ∈ Array.toList vs24 →
              Value.oneCell' v20 = true)) ∧
             (∀ W49 : World, (W49 = World.setCells W48 k19 0 (Array.toList vs24) →
             (∃ I2 : World → Prop, ((∃ z45 : Int, (World.cell? W49 (Addr.mk k9 0 none) = some (Value.int IntKind.i64 z45) ∧
              Calls Tryz.prog 51 #[Value.int IntKind.i64 z45] W49 (fun e24 =>
               (fun W50 =>
               (∃ t6 : Bool, (e24 = Ending.returned (Value.bool t6) ∧
               Sx.split t6
                ((∃ z46 : Int, (World.cell? W50 (Addr.mk k9 (0 + 1) none) = some (Value.int IntKind.i64 z46) ∧
                 Sx.split (decide (z46 > 0))
                  ((∃ z47 : Int, (World.cell? W50 (Addr.mk k9 (0 + 1) none) = some (Value.int IntKind.i64 z47) ∧
                   ((∃ v21 : Value, World.cell? W50 (Addr.mk k19 (0 + 2) none) = some v21) ∧
                   (World.frozen? W50 (Addr.mk k19 (0 + 2) none) = false ∧
                   (∀ W51 : World, (W51 = World.setCell W50 (Addr.mk k19 (0 + 2) none) (Value.int IntKind.i64 z47) →
                   ((∃ v22 : Value, World.cell? W51 (Addr.mk k19 (0 + 3) none) = some v22) ∧
                   (World.frozen? W51 (Addr.mk k19 (0 + 3) none) = false ∧
                   (∀ W52 : World, (W52 = World.setCell W51 (Addr.mk k19 (0 + 3) none) (Value.int IntKind.u32 x2) →
                   (∀ W53 : World, (W53 = World.drew W52 →
                   (∃ z48 : Int, (World.cell? W53 (Addr.mk k9 (0 + 1) none) = some (Value.int IntKind.i64 z48) ∧
                   (((0 : Int) ≤ z48 ∧
                    z48 < (↑32 : Int)) ∧
                   ((∃ v23 : Value, World.cell? W53 (Addr.mk arg0 (arg0o + 4 + Int.toNat z48 * 1) none) = some v23) ∧
                   (World.frozen? W53 (Addr.mk arg0 (arg0o + 4 + Int.toNat z48 * 1) none) = false ∧
                   (∀ W54 : World, (W54 = World.setCell W53 (Addr.mk arg0 (arg0o + 4 + Int.toNat z48 * 1) none) (Value.int IntKind.u32 x2) →
                   I2 W54))))))))))))))))))))
                  (I2 W50))))
                (I2 W50))))))) ∧
             ((Nat →
             Value) →
             (∀ W55 : World, (I2 W55 →
             ((∃ v24 : Value, World.cell? W55 (Addr.mk arg0 (arg0o + 3) none) = some v24) ∧
             (World.frozen? W55 (Addr.mk arg0 (arg0o + 3) none) = false ∧
             (∀ W56 : World, (W56 = World.setCell W55 (Addr.mk arg0 (arg0o + 3) none) (Value.int IntKind.u32 x) →
             (∃ p4 : Option Addr, (World.cell? W56 (Addr.mk arg0 arg0o none) = some (Value.pointer p4) ∧
             Calls Tryz.prog 52 #[Value.pointer p4] W56 (fun e25 =>
              (fun W57 =>
              (e25 = Ending.returned (Value.tuple #[]) ∧
              (∃ vs25 : Array Value, (Array.size vs25 = 7 ∧
              (Sx.cellsAt W57 (Addr.mk k19 0 none) vs25 ∧
              (Array.size vs25 = 7 ∧
              ((∀ k21 : Nat, (k21 < 7 →
               ((∃ v25 : Value, World.cell? W57 (Addr.mk k (0 + k21) none) = some v25) ∧
               World.frozen? W57 (Addr.mk k (0 + k21) none) = false))) ∧
              ((∀ v26 : Value, (v26 ∈ Array.toList vs25 →
               Value.oneCell' v26 = true)) ∧
              (∀ W58 : World, (W58 = World.setCells W57 k 0 (Array.toList vs25) →
              (∃ vs26 : Array Value, (Array.size vs26 = 7 ∧
              (Sx.cellsAt W58 (Addr.mk k 0 none) vs26 ∧
              Q (Ending.returned (Value.agg vs26)) W58)))))))))))))))))))))))))))))))))))))))))))))))))))))))))))))))))))))))))))))))))))))))))))))))))))))))) :
  Calls Tryz.prog 13 #[Value.pointer (some ⟨arg0, arg0o, none⟩), Value.int .u32 arg1, Value.bool arg2] W Q :=
  Sx.sound Tryz.func13 (.node [] [] 0 .leaf (.node [] [] 0 (.node [] [] 0 .leaf (.node [] [] 0 (.node [] [] 0 (.node [] [] 10 .leaf .leaf) .leaf) .leaf)) (.node [] [] 0 .leaf (.node [] [] 0 .leaf (.node [] [] 0 .leaf (.node [] [] 0 .leaf (.node [] [] 0 .leaf (.node [] [] 0 .leaf (.node [(14, .int .u32), (13, .int .u32)] [0, 7, 6, 9] 1 (.node [] [] 0 .leaf (.node [] [] 0 (.node [] [] 0 .leaf (.node [] [] 0 (.node [] [] 0 (.node [] [] 1008 .leaf .leaf) .leaf) (.node [] [] 0 .leaf (.node [] [] 0 (.node [] [] 0 .leaf (.node [] [] 0 (.node [] [] 1007 .leaf .leaf) .leaf)) (.node [] [] 0 .leaf (.node [] [] 0 (.node [] [] 1008 .leaf .leaf) (.node [] [] 0 .leaf (.node [] [] 0 (.node [] [] 0 .leaf (.node [] [] 0 (.node [] [] 0 .leaf (.node [] [] 0 .leaf (.node [] [] 0 .leaf (.node [] [] 0 .leaf (.node [] [] 0 .leaf (.node [] [] 0 .leaf (.node [] [] 0 .leaf (.node [] [] 0 .leaf (.node [] [] 0 (.node [] [] 1007 .leaf .leaf) .leaf))))))))) .leaf)) (.node [] [] 0 (.node [] [] 0 .leaf (.node [] [] 0 (.node [] [] 1008 .leaf .leaf) (.node [] [] 0 (.node [] [] 0 (.node [] [] 1012 .leaf .leaf) .leaf) .leaf))) .leaf))))))))) .leaf)) (.node [] [] 0 .leaf (.node [] [] 0 .leaf (.node [] [0, 14, 18, 6] 1 (.node [] [] 0 .leaf (.node [] [] 0 (.node [] [] 0 .leaf (.node [] [] 8 .leaf .leaf)) .leaf)) .leaf)))))))))))) [Value.pointer (some ⟨arg0, arg0o, none⟩), Value.int .u32 arg1, Value.bool arg2] rfl (Eq.mp (by kernel_rfl) hVC)
theorem vc19 {W : World} {Q : Ending → World → Prop} (arg0 : Nat) (arg0o : Nat)
  (hVC :
    (∀ k : Nat, (∀ W2 : World, (k = Array.size (World.heap W) →
    (W2 = World.alloc W (Obj.cells #[Value.int IntKind.u32 0, Value.int IntKind.u32 0, Value.int IntKind.i64 0, Value.int IntKind.u32 0, Value.int IntKind.i64 0, Value.int IntKind.u32 0, Value.int IntKind.u32 0] 43) →
    (∃ p : Option Addr, (World.cell? W2 (Addr.mk arg0 arg0o none) = some (Value.pointer p) ∧
    Sx.ptr p (fun a =>
     (∃ t : Bool, (World.cell? W2 (Addr.add a 36) = some (Value.bool t) ∧
     Sx.split t
      ((∀ vs : Array Value, (vs = #[Value.int IntKind.u32 0, Value.int IntKind.u32 0, Value.int IntKind.i64 0, Value.int IntKind.u32 0, Value.int IntKind.i64 0, Value.int IntKind.u32 0, Value.int IntKind.u32 0] →
       (Array.size vs = 7 ∧
       ((∀ k2 : Nat, (k2 < 7 →
        ((∃ v : Value, World.cell? W2 (Addr.mk k (0 + k2) none) = some v) ∧
        World.frozen? W2 (Addr.mk k (0 + k2) none) = false))) ∧
       ((∀ v2 : Value, (v2 ∈ Array.toList vs →
        Value.oneCell' v2 = true)) ∧
       (∀ W3 : World, (W3 = World.setCells W2 k 0 (Array.toList vs) →
       (∃ vs2 : Array Value, (Array.size vs2 = 7 ∧
       (Sx.cellsAt W3 (Addr.mk k 0 none) vs2 ∧
       Q (Ending.returned (Value.tuple #[Value.agg vs2, Value.bool false])) W3)))))))))))
      ((∃ I : World → Prop, ((∃ t2 : Bool, (World.cell? W2 (Addr.mk arg0 (arg0o + 3) none) = some (Value.bool t2) ∧
        Sx.split t2
         ((∃ p2 : Option Addr, (World.cell? W2 (Addr.mk arg0 arg0o none) = some (Value.pointer p2) ∧
          Calls Tryz.prog 10 #[Value.pointer p2] W2 (fun e =>
           (fun W4 =>
           (∃ vs3 : Array Value, (∃ t3 : Bool, (e = Ending.returned (Value.tuple #[Value.agg vs3, Value.bool t3]) ∧
           (∀ k3 : Nat, (∀ W5 : World, (k3 = Array.size (World.heap W4) →
           (W5 = World.alloc W4 (Obj.cells #[Value.int IntKind.u32 0, Value.int IntKind.u32 0, Value.int IntKind.i64 0, Value.int IntKind.u32 0, Value.int IntKind.i64 0, Value.int IntKind.u32 0, Value.int IntKind.u32 0] 43) →
           (Array.size vs3 = 7 ∧
           ((∀ k4 : Nat, (k4 < 7 →
            ((∃ v3 : Value, World.cell? W5 (Addr.mk k3 (0 + k4) none) = some v3) ∧
            World.frozen? W5 (Addr.mk k3 (0 + k4) none) = false))) ∧
           ((∀ v4 : Value, (v4 ∈ Array.toList vs3 →
            Value.oneCell' v4 = true)) ∧
           (∀ W6 : World, (W6 = World.setCells W5 k3 0 (Array.toList vs3) →
           Sx.split t3
            ((∃ vs4 : Array Value, (Array.size vs4 = 7 ∧
             (Sx.cellsAt W6 (Addr.mk k3 0 none) vs4 ∧
             (Array.size vs4 = 7 ∧
             ((∀ k5 : Nat, (k5 < 7 →
              ((∃ v5 : Value, World.cell? W6 (Addr.mk k (0 + k5) none) = some v5) ∧
              World.frozen? W6 (Addr.mk k (0 + k5) none) = false))) ∧
             ((∀ v6 : Value, (v6 ∈ Array.toList vs4 →
              Value.oneCell' v6 = true)) ∧
             (∀ W7 : World, (W7 = World.setCells W6 k 0 (Array.toList vs4) →
             (∃ vs5 : Array Value, (Array.size vs5 = 7 ∧
             (Sx.cellsAt W7 (Addr.mk k 0 none) vs5 ∧
             Q (Ending.returned (Value.tuple #[Value.agg vs5, Value.bool true])) W7))))))))))))
            (I W6))))))))))))))))))
         (I W2))) ∧
       ((Nat →
       Value) →
       (∀ W8 : World, (I W8 →
       (∃ p3 : Option Addr, (World.cell? W8 (Addr.mk arg0 arg0o none) = some (Value.pointer p3) ∧
       Calls Tryz.prog 8 #[Value.pointer p3] W8 (fun e2 =>
        (fun W9 =>
        (∃ vs6 : Array Value, (e2 = Ending.returned (Value.agg vs6) ∧
        (∀ k6 : Nat, (∀ W10 : World, (k6 = Array.size (World.heap W9) →
        (W10 = World.alloc W9 (Obj.cells #[Value.int IntKind.i64 0, Value.int IntKind.u32 0, Value.int IntKind.i64 0, Value.int IntKind.u32 0] 37) →
        (Array.size vs6 = 4 ∧
        ((∀ k7 : Nat, (k7 < 4 →
         ((∃ v7 : Value, World.cell? W10 (Addr.mk k6 (0 + k7) none) = some v7) ∧
         World.frozen? W10 (Addr.mk k6 (0 + k7) none) = false))) ∧
        ((∀ v8 : Value, (v8 ∈ Array.toList vs6 →
         Value.oneCell' v8 = true)) ∧
        (∀ W11 : World, (W11 = World.setCells W10 k6 0 (Array.toList vs6) →
        (∃ z : Int, (World.cell? W11 (Addr.mk k6 0 none) = some (Value.int IntKind.i64 z) ∧
        Sx.split (z == 0)
         ((∃ p4 : Option Addr, (World.cell? W11 (Addr.mk arg0 arg0o none) = some (Value.pointer p4) ∧
          Calls Tryz.prog 13 #[Value.pointer p4, Value.int IntKind.u32 0, Value.bool false] W11 (fun e3 =>
           (fun W12 =>
           (∃ vs7 : Array Value, (e3 = Ending.returned (Value.agg vs7) ∧
           (Array.size vs7 = 7 ∧
           ((∀ k8 : Nat, (k8 < 7 →
            ((∃ v9 : Value, World.cell? W12 (Addr.mk k (0 + k8) none) = some v9) ∧
            World.frozen? W12 (Addr.mk k (0 + k8) none) = false))) ∧
           ((∀ v10 : Value, (v10 ∈ Array.toList vs7 →
            Value.oneCell' v10 = true)) ∧
           (∀ W13 : World, (W13 = World.setCells W12 k 0 (Array.toList vs7) →
           (∃ vs8 : Array Value, (Array.size vs8 = 7 ∧
           (Sx.cellsAt W13 (Addr.mk k 0 none) vs8 ∧
           Q (Ending.returned (Value.tuple #[Value.agg vs8, Value.bool true])) W13)))))))))))))))
         ((∃ z2 : Int, (World.cell? W11 (Addr.mk k6 (0 + 1) none) = some (Value.int IntKind.u32 z2) ∧
          Sx.split (decide (z2 ≥ 131072))
           ((∀ W14 : World, (W14 = World.drew W11 →
            (∃ p5 : Option Addr, (∃ k9 : Nat, (∃ k10 : Nat, (World.cell? W14 (Addr.mk arg0 (arg0o + 2) none) = some (Value.slice p5 k9 k10) ∧
            (∃ z3 : Int, (World.cell? W14 (Addr.mk k6 (0 + 3) none) = some (Value.int IntKind.u32 z3) ∧
            (∀ z4 : Int, (z4 = IntKind.wrap IntKind.u8 z3 →
            (∀ k11 : Nat, (∀ W15 : World, (k11 = Array.size (World.heap W14) →
            (W15 = World.alloc W14 (Obj.cells #[Value.int IntKind.u8 z4] 5) →
            (RowKit.Below (Array.size (World.heap W14)) W14 W15 ∧
            (∃ l : List Value, (∃ l2 : List Value, (XHeap.Sl W15 5 1 (Value.slice p5 k9 k10) k9 l ∧
            (((((1 : Nat) = (0 : Nat) ∧
              some (Addr.mk k11 0 none) = none)) ∨
             ((∃ a2 : Addr, (some (Addr.mk k11 0 none) = some a2 ∧
             (∀ k12 : Nat, (∀ v11 : Value, (l2[k12]? = some v11 →
             World.cell? W15 (Addr.add a2 k12) = some v11))))))) ∧
            (List.length l2 = 1 ∧
            ((∀ v12 : Value, (v12 ∈ l2 →
             Value.oneCell' v12 = true)) ∧
            (k9 + 1 ≤ maxLen ∧
            ((k9 + 1) * 1 ≤ 140737488355328 ∧
            (∀ p6 : Option Addr, (∀ k13 : Nat, (∀ W16 : World, (XHeap.Sl W16 5 1 (Value.slice p6 (k9 + 1) k13) (k9 + 1) (l ++ l2) →
            (XHeap.XTouch (fun b => Value.ownBlock (Value.slice p5 k9 k10) = some b) W15 W16 →
            ((∀ k14 : Nat, (Value.ownBlock (Value.slice p6 (k9 + 1) k13) = some k14 →
            ((Value.ownBlock (Value.slice p5 k9 k10) = some k14) ∨
            (Array.size (World.heap W15) ≤ k14)))) →
            (XHeap.Sl W16 5 1 (Value.slice p5 k9 k10) k9 l →
            ((((p6 = p5 ∧
             k13 = k10)) ∨
            ((((XHeap.NilP p5) ∨
             (k10 < k9 + 1)) ∧
            (∀ k15 : Nat, (Value.ownBlock (Value.slice p6 (k9 + 1) k13) = some k15 →
            Array.size (World.heap W15) ≤ k15))))) →
            ((∃ v13 : Value, World.cell? W16 (Addr.mk arg0 (arg0o + 2) none) = some v13) ∧
            (World.frozen? W16 (Addr.mk arg0 (arg0o + 2) none) = false ∧
            (∀ W17 : World, (W17 = World.setCell W16 (Addr.mk arg0 (arg0o + 2) none) (Value.slice p6 (k9 + 1) k13) →
            (∃ p7 : Option Addr, (World.cell? W17 (Addr.mk arg0 arg0o none) = some (Value.pointer p7) ∧
            Calls Tryz.prog 13 #[Value.pointer p7, Value.int IntKind.u32 0, Value.bool false] W17 (fun e4 =>
             (fun W18 =>
             (∃ vs9 : Array Value, (e4 = Ending.returned (Value.agg vs9) ∧
             (Array.size vs9 = 7 ∧
             ((∀ k16 : Nat, (k16 < 7 →
              ((∃ v14 : Value, World.cell? W18 (Addr.mk k (0 + k16) none) = some v14) ∧
              World.frozen? W18 (Addr.mk k (0 + k16) none) = false))) ∧
             ((∀ v15 : Value, (v15 ∈ Array.toList vs9 →
              Value.oneCell' v15 = true)) ∧
             (∀ W19 : World, (W19 = World.setCells W18 k 0 (Array.toList vs9) →
             (∃ vs10 : Array Value, (Array.size vs10 = 7 ∧
             (Sx.cellsAt W19 (Addr.mk k 0 none) vs10 ∧
             Q (Ending.returned (Value.tuple #[Value.agg vs10, Value.bool true])) W19))))))))))))))))))))))))))))))))))))))))))))))))))
           ((∃ p8 : Option Addr, (∃ k17 : Nat, (∃ k18 : Nat, (World.cell? W11 (Addr.mk arg0 (arg0o + 1) none) = some (Value.slice p8 k17 k18) ∧
            (∃ z5 : Int, (World.cell? W11 (Addr.mk k6 (0 + 1) none) = some (Value.int IntKind.u32 z5) ∧
            (∀ z6 : Int, (z6 = IntKind.wrap IntKind.u32 (z5 - 65536) →
            (((0 : Int) ≤ z6 ∧
             z6 ≤ (↑k17 : Int)) ∧
            (∃ z7 : Int, (World.cell? W11 (Addr.mk k6 (0 + 2) none) = some (Value.int IntKind.i64 z7) ∧
            (((0 : Int) ≤ z7 ∧
             z7 ≤ (↑(k18 - Int.toNat z6) : Int)) ∧
            (∀ W20 : World, (∀ k19 : Nat, (W20 = World.drewN W11 k19 →
            Calls Tryz.prog 64 #[Value.slice (Sx.sub p8 k18 (Int.toNat z6) 1) (Int.toNat z7) (k18 - Int.toNat z6)] W20 (fun e5 =>
             (fun W21 =>
             (∃ z8 : Int, (e5 = Ending.returned (Value.int IntKind.u32 z8) ∧
             (∃ z9 : Int, (World.cell? W21 (Addr.mk k6 (0 + 3) none) = some (Value.int IntKind.u32 z9) ∧
             (∃ I2 : Bool → Int → Bool → World → Prop, ((∃ z10 : Int, (World.cell? W21 (Addr.mk k6 0 none) = some (Value.int IntKind.i64 z10) ∧
              Calls Tryz.prog 35 #[Value.int IntKind.i64 z10] W21 (fun e6 =>
               (fun W22 =>
               (∃ z11 : Int, (e6 = Ending.returned (Value.int IntKind.i64 z11) ∧
               Sx.split (z11 == 4)
                (I2 false z9 false W22)
                (Sx.split (z11 == 6)
                  ((∃ z12 : Int, (World.cell? W22 (Addr.mk k6 0 none) = some (Value.int IntKind.i64 z12) ∧
                   (∃ z13 : Int, (World.cell? W22 (Addr.mk k6 (0 + 3) none) = some (Value.int IntKind.u32 z13) ∧
                   Calls Tryz.prog 65 #[Value.int IntKind.i64 z12, Value.int IntKind.u32 z8, Value.int IntKind.u32 z13] W22 (fun e7 =>
                    (fun W23 =>
                    (∃ z14 : Int, (e7 = Ending.returned (Value.int IntKind.u32 z14) ∧
                    (∃ z15 : Int, (World.cell? W23 (Addr.mk k6 0 none) = some (Value.int IntKind.i64 z15) ∧
                    Sx.split (z15 == 46)
                     ((∃ z16 : Int, (World.cell? W23 (Addr.mk k6 (0 + 1) none) = some (Value.int IntKind.u32 z16) ∧
                      ((∃ v16 : Value, World.cell? W23 (Addr.mk arg0 (arg0o + 4) none) = some v16) ∧
                      (World.frozen? W23 (Addr.mk arg0 (arg0o + 4) none) = false ∧
                      (∀ W24 : World, (W24 = World.setCell W23 (Addr.mk arg0 (arg0o + 4) none) (Value.int IntKind.u32 z16) →
                      I2 false z14 false W24)))))))
                     (Sx.split (z15 == 47)
                       ((∃ z17 : Int, (World.cell? W23 (Addr.mk arg0 (arg0o + 4) none) = some (Value.int IntKind.u32 z17) ∧
                        (∃ z18 : Int, (World.cell? W23 (Addr.mk k6 (0 + 1) none) = some (Value.int IntKind.u32 z18) ∧
                        (∀ W25 : World, (∀ k20 : Nat, (W25 = World.drewN W23 k20 →
                        ((∃ v17 : Value, World.cell? W25 (Addr.mk arg0 (arg0o + 4) none) = some v17) ∧
                        (World.frozen? W25 (Addr.mk arg0 (arg0o + 4) none) = false ∧
                        (∀ W26 : World, (W26 = World.setCell W25 (Addr.mk arg0 (arg0o + 4) none) (Value.int IntKind.u32 0) →
                        I2 (z17 == z18) z14 (z17 == z18) W26))))))))))))
                       (I2 true z14 false W23)))))))))))))
                  (I2 true z9 false W22)))))))) ∧
             ((Nat →
             Value) →
             (∀ x : Bool, (∀ x2 : Int, (∀ x3 : Bool, (∀ W27 : World, (I2 x x2 x3 W27 →
             (∃ I3 : World → Prop, (Sx.split x
               (Calls Tryz.prog 66 #[Value.slice (Sx.sub p8 k18 (Int.toNat z6) 1) (Int.toNat z7) (k18 - Int.toNat z6), Value.int IntKind.u32 x2] W27 (fun e8 =>
                 (fun W28 =>
                 (e8 = Ending.returned (Value.tuple #[]) ∧
                 I3 W28))))
               (I3 W27) ∧
             ((Nat →
             Value) →
             (∀ W29 : World, (I3 W29 →
             (∃ p9 : Option Addr, (World.cell? W29 (Addr.mk arg0 arg0o none) = some (Value.pointer p9) ∧
             Calls Tryz.prog 13 #[Value.pointer p9, Value.int IntKind.u32 z8, Value.bool x3] W29 (fun e9 =>
              (fun W30 =>
              (∃ vs11 : Array Value, (e9 = Ending.returned (Value.agg vs11) ∧
              (Array.size vs11 = 7 ∧
              ((∀ k21 : Nat, (k21 < 7 →
               ((∃ v18 : Value, World.cell? W30 (Addr.mk k (0 + k21) none) = some v18) ∧
               World.frozen? W30 (Addr.mk k (0 + k21) none) = false))) ∧
              ((∀ v19 : Value, (v19 ∈ Array.toList vs11 →
               Value.oneCell' v19 = true)) ∧
              (∀ W31 : World, (W31 = World.setCells W30 k 0 (Array.toList vs11) →
              (∃ vs12 : Array Value, (Array.size vs12 = 7 ∧
              (Sx.cellsAt W31 (Addr.mk k 0 none) vs12 ∧
              Q (Ending.returned (Value.tuple #[Value.agg vs12, Value.bool true])) W31))))))))))))))))))))))))))))))))))))))))))))))))))))))))))))))))))))))))))))))))))))) :
  Calls Tryz.prog 19 #[Value.pointer (some ⟨arg0, arg0o, none⟩)] W Q :=
  Sx.sound Tryz.func19 (.node [] [] 0 .leaf (.node [] [] 0 .leaf (.node [] [0, 2] 1 .leaf (.node [] [] 0 .leaf (.node [] [] 0 .leaf (.node [] [] 0 (.node [] [] 0 .leaf (.node [] [] 0 (.node [] [] 0 (.node [] [] 1010 .leaf .leaf) .leaf) .leaf)) (.node [] [] 0 .leaf (.node [] [] 0 .leaf (.node [] [] 0 .leaf (.node [(10, .bool), (11, .int .u32), (9, .bool)] [7, 0, 8, 2] 1 .leaf (.node [] [0, 8, 9, 2] 1 .leaf .leaf))))))))))) [Value.pointer (some ⟨arg0, arg0o, none⟩)] rfl (Eq.mp (by kernel_rfl) hVC)
theorem vc16 {W : World} {Q : Ending → World → Prop} (code : Option Addr) (coden : Nat) (codec : Nat) (data : Option Addr) (datan : Nat) (datac : Nat)
  (hVC :
    Calls Tryz.prog 5 #[Value.slice code coden codec, Value.int IntKind.i64 (↑datan : Int), Value.int IntKind.i64 0] W (fun e =>
     (fun W2 =>
     (∃ p : Option Addr, (∃ v : Value, (e = Ending.returned (Value.tuple #[Value.pointer p, v]) ∧
     Sx.isNil v (fun t =>
      Sx.split (!t)
       (Q (Ending.returned (Value.tuple #[Value.pointer none, v])) W2)
       (Calls Tryz.prog 63 #[Value.slice data datan datac] W2 (fun e2 =>
         (fun W3 =>
         (∃ p2 : Option Addr, (∃ k : Nat, (∃ k2 : Nat, (e2 = Ending.returned (Value.slice p2 k k2) ∧
         (∀ vs : Array Value, (vs = #[Value.pointer p, Value.slice p2 k k2, Value.slice none 0 0, Value.bool false, Value.int IntKind.u32 0] →
         (∀ k3 : Nat, (∀ W4 : World, (k3 = Array.size (World.heap W3) →
         (W4 = World.alloc W3 (Obj.cells (Value.cells (Value.agg vs)) 123) →
         Q (Ending.returned (Value.tuple #[Value.pointer (some (Addr.mk k3 0 none)), Value.nilIface])) W4)))))))))))))))))))) :
  Calls Tryz.prog 16 #[Value.slice code coden codec, Value.slice data datan datac] W Q :=
  Sx.sound Tryz.func16 .leaf [Value.slice code coden codec, Value.slice data datan datac] rfl (Eq.mp (by kernel_rfl) hVC)
end Go.Proofs.YtcpmgklhfpcaeaaGreatDoor
