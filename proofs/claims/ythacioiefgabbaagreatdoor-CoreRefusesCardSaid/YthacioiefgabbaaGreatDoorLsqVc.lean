/- What each function asks, reckoned out of its text; printed by a program of mine (wip/tpl/VcTool.lean). No condition. -/
import Derived.Test.YthacioiefgabbaaGreatDoorSxB
import Derived.Test.YthacioiefgabbaaGreatDoorChecked
namespace Go.Proofs.YthacioiefgabbaaGreatDoor
open Go Go.Proofs
set_option linter.unusedVariables false
set_option maxRecDepth 100000
theorem vc46 {W : World} {Q : Ending → World → Prop} (size : Int)
 (hVC :
 Sx.split (decide (size < 1))
 (Q (.returned (.tuple #[.pointer none, .iface 33 (Value.int .i64 2)])) W)
 (Sx.split (decide (size > 32))
 (Q (.returned (.tuple #[.pointer none, .iface 33 (Value.int .i64 2)])) W)
 ((∀ vs : Array Value, (vs = #[.int .i64 size, .slice none 0 0] →
 (∀ k : Nat, (∀ W2 : World, (k = Array.size (World.heap W) →
 (W2 = World.alloc W (Obj.cells (Value.cells (Value.agg vs)) 212) →
 Q (.returned (.tuple #[.pointer (some (Addr.mk k 0 none)), .nilIface])) W2))))))))) :
 Calls Tryz.prog 46 #[.int .i64 size] W Q :=
 Sx.sound Tryz.func46 .leaf [Value.int .i64 size] rfl (Eq.mp (by kernel_rfl) hVC)
theorem vc150 {W : World} {Q : Ending → World → Prop} (arg0 : Nat) (arg0o : Nat) (arg1 : Int)
 (hVC :
 (∃ p : Option Addr, (∃ k : Nat, (∃ k2 : Nat, (World.cell? W (.mk arg0 (arg0o + 1) none) = some (.slice p k k2) ∧
 Calls Tryz.prog 199 #[.slice p k k2, Value.func (Fn.func 200) #[] #[]] W (fun e =>
 (fun W2 =>
 (∃ z : Int, (e = .returned (.int .i64 z) ∧
 Sx.split (decide (z < 0))
 (Q (.returned (.iface 33 (Value.int .i64 5))) W2)
 ((∃ p2 : Option Addr, (∃ k3 : Nat, (∃ k4 : Nat, (World.cell? W2 (.mk arg0 (arg0o + 1) none) = some (.slice p2 k3 k4) ∧
 (((0 : Int) ≤ z ∧
 z < (↑k3 : Int)) ∧
 Sx.adr p2 (fun k5 =>
 (fun k6 =>
 (∃ p3 : Option Addr, (World.cell? W2 (.mk k5 (k6 + Int.toNat z * 1) none) = some (.pointer p3) ∧
 Sx.ptr p3 (fun a =>
 (∃ z2 : Int, (World.cell? W2 (Addr.add a 0) = some (.int .i64 z2) ∧
 Sx.split (z2 != arg1)
 (Q (.returned (.iface 33 (Value.int .i64 5))) W2)
 ((∃ p4 : Option Addr, (∃ k7 : Nat, (∃ k8 : Nat, (World.cell? W2 (.mk arg0 (arg0o + 1) none) = some (.slice p4 k7 k8) ∧
 (((0 : Int) ≤ z ∧
 z < (↑k7 : Int)) ∧
 Sx.adr p4 (fun k9 =>
 (fun k10 =>
 (∃ p5 : Option Addr, (World.cell? W2 (.mk k9 (k10 + Int.toNat z * 1) none) = some (.pointer p5) ∧
 Sx.ptr p5 (fun a2 =>
 (∃ t : Bool, (World.cell? W2 (Addr.add a2 1) = some (.bool t) ∧
 Sx.split t
 (Sx.ptr p5 (fun a3 =>
 (∃ t2 : Bool, (World.cell? W2 (Addr.add a3 2) = some (.bool t2) ∧
 Sx.split t2
 (Sx.ptr p5 (fun a4 =>
 (∃ t3 : Bool, (World.cell? W2 (Addr.add a4 3) = some (.bool t3) ∧
 Sx.split t3
 (Sx.ptr p5 (fun a5 =>
 ((∃ v : Value, World.cell? W2 (Addr.add a5 12) = some v) ∧
 (World.frozen? W2 (Addr.add a5 12) = false ∧
 (∀ W3 : World, (W3 = World.setCell W2 (Addr.add a5 12) (Value.bool true) →
 Q (.returned Value.nilIface) W3))))))
 (Sx.ptr p5 (fun a6 =>
 (∃ t4 : Bool, (World.cell? W2 (Addr.add a6 7) = some (.bool t4) ∧
 Sx.split t4
 ((∃ p6 : Option Addr, (∃ k11 : Nat, (∃ k12 : Nat, (World.cell? W2 (.mk arg0 (arg0o + 1) none) = some (.slice p6 k11 k12) ∧
 (∀ z3 : Int, (z3 = IntKind.wrap .i64 (z + 1) →
 Calls Tryz.prog 182 #[.slice p6 k11 k12, .int .i64 z, .int .i64 z3] W2 (fun e2 =>
 (fun W4 =>
 (∃ p7 : Option Addr, (∃ k13 : Nat, (∃ k14 : Nat, (e2 = .returned (.slice p7 k13 k14) ∧
 ((∃ v2 : Value, World.cell? W4 (.mk arg0 (arg0o + 1) none) = some v2) ∧
 (World.frozen? W4 (.mk arg0 (arg0o + 1) none) = false ∧
 (∀ W5 : World, (W5 = World.setCell W4 (.mk arg0 (arg0o + 1) none) (Value.slice p7 k13 k14) →
 Q (.returned Value.nilIface) W5)))))))))))))))))
 (Q (.returned (.iface 33 (Value.int .i64 7))) W2)))))))))
 (Sx.ptr p5 (fun a7 =>
 (∃ t5 : Bool, (World.cell? W2 (Addr.add a7 7) = some (.bool t5) ∧
 Sx.split t5
 ((∃ p8 : Option Addr, (∃ k15 : Nat, (∃ k16 : Nat, (World.cell? W2 (.mk arg0 (arg0o + 1) none) = some (.slice p8 k15 k16) ∧
 (∀ z4 : Int, (z4 = IntKind.wrap .i64 (z + 1) →
 Calls Tryz.prog 182 #[.slice p8 k15 k16, .int .i64 z, .int .i64 z4] W2 (fun e3 =>
 (fun W6 =>
 (∃ p9 : Option Addr, (∃ k17 : Nat, (∃ k18 : Nat, (e3 = .returned (.slice p9 k17 k18) ∧
 ((∃ v3 : Value, World.cell? W6 (.mk arg0 (arg0o + 1) none) = some v3) ∧
 (World.frozen? W6 (.mk arg0 (arg0o + 1) none) = false ∧
 (∀ W7 : World, (W7 = World.setCell W6 (.mk arg0 (arg0o + 1) none) (Value.slice p9 k17 k18) →
 Q (.returned Value.nilIface) W7)))))))))))))))))
 (Q (.returned (.iface 33 (Value.int .i64 7))) W2)))))))))
 (Sx.ptr p5 (fun a8 =>
 (∃ t6 : Bool, (World.cell? W2 (Addr.add a8 7) = some (.bool t6) ∧
 Sx.split t6
 ((∃ p10 : Option Addr, (∃ k19 : Nat, (∃ k20 : Nat, (World.cell? W2 (.mk arg0 (arg0o + 1) none) = some (.slice p10 k19 k20) ∧
 (∀ z5 : Int, (z5 = IntKind.wrap .i64 (z + 1) →
 Calls Tryz.prog 182 #[.slice p10 k19 k20, .int .i64 z, .int .i64 z5] W2 (fun e4 =>
 (fun W8 =>
 (∃ p11 : Option Addr, (∃ k21 : Nat, (∃ k22 : Nat, (e4 = .returned (.slice p11 k21 k22) ∧
 ((∃ v4 : Value, World.cell? W8 (.mk arg0 (arg0o + 1) none) = some v4) ∧
 (World.frozen? W8 (.mk arg0 (arg0o + 1) none) = false ∧
 (∀ W9 : World, (W9 = World.setCell W8 (.mk arg0 (arg0o + 1) none) (Value.slice p11 k21 k22) →
 Q (.returned Value.nilIface) W9)))))))))))))))))
 (Q (.returned (.iface 33 (Value.int .i64 7))) W2)))))))))))))))))))))))))))))))))))))))) :
 Calls Tryz.prog 150 #[.pointer (some ⟨arg0, arg0o, none⟩), .int .i64 arg1] W Q :=
 Sx.sound Tryz.func150 .leaf [Value.pointer (some ⟨arg0, arg0o, none⟩), .int .i64 arg1] rfl (Eq.mp (by kernel_rfl) hVC)
theorem vc177 {W : World} {Q : Ending → World → Prop} (q : Nat) (qo : Nat) (seq : Int) (store : Bool)
 (hVC :
 (∃ p : Option Addr, (∃ k : Nat, (∃ k2 : Nat, (World.cell? W (.mk q (qo + 1) none) = some (.slice p k k2) ∧
 Sx.split (decide (seq < 0))
 (Q (.returned (.iface 33 (Value.int .i64 5))) W)
 (Sx.split (decide ((↑k : Int) > 0))
 ((∃ p2 : Option Addr, (∃ k3 : Nat, (∃ k4 : Nat, (World.cell? W (.mk q (qo + 1) none) = some (.slice p2 k3 k4) ∧
 (∀ z : Int, (z = IntKind.wrap .i64 ((↑k : Int) - 1) →
 (((0 : Int) ≤ z ∧
 z < (↑k3 : Int)) ∧
 Sx.adr p2 (fun k5 =>
 (fun k6 =>
 (∃ p3 : Option Addr, (World.cell? W (.mk k5 (k6 + Int.toNat z * 1) none) = some (.pointer p3) ∧
 Sx.ptr p3 (fun a =>
 (∃ z2 : Int, (World.cell? W (Addr.add a 0) = some (.int .i64 z2) ∧
 Sx.split (decide (z2 ≥ seq))
 (Q (.returned (.iface 33 (Value.int .i64 5))) W)
 ((∃ z3 : Int, (World.cell? W (.mk q qo none) = some (.int .i64 z3) ∧
 Sx.split ((↑k : Int) == z3)
 (Q (.returned (.iface 33 (Value.int .i64 4))) W)
 ((∃ p4 : Option Addr, (∃ k7 : Nat, (∃ k8 : Nat, (World.cell? W (.mk q (qo + 1) none) = some (.slice p4 k7 k8) ∧
 (∀ vs : Array Value, (vs = #[.int .i64 seq, .bool store, .bool false, .bool false, .int .u32 0, .int .i64 0, .int .u32 0, .bool false, .int .i64 0, .int .i64 0, .int .i64 0, .int .i64 0, .bool false] →
 (∀ k9 : Nat, (∀ W2 : World, (k9 = Array.size (World.heap W) →
 (W2 = World.alloc W (Obj.cells (Value.cells (Value.agg vs)) 287) →
 (∀ k10 : Nat, (∀ W3 : World, (k10 = Array.size (World.heap W2) →
 (W3 = World.alloc W2 (Obj.cells #[.pointer (some (Addr.mk k9 0 none))] 288) →
 (∃ l : List Value, (∃ l2 : List Value, (XHeap.Sl W3 288 1 (Value.slice p4 k7 k8) k7 l ∧
 (((((1 : Nat) = (0 : Nat) ∧
 some (Addr.mk k10 0 none) = none)) ∨
 ((∃ a2 : Addr, (some (Addr.mk k10 0 none) = some a2 ∧
 (∀ k11 : Nat, (∀ v : Value, (l2[k11]? = some v →
 World.cell? W3 (Addr.add a2 k11) = some v))))))) ∧
 (List.length l2 = 1 ∧
 ((∀ v2 : Value, (v2 ∈ l2 →
 Value.oneCell' v2 = true)) ∧
 (k7 + 1 ≤ maxLen ∧
 ((k7 + 1) * 8 ≤ 140737488355328 ∧
 (∀ p5 : Option Addr, (∀ k12 : Nat, (∀ W4 : World, (XHeap.Sl W4 288 1 (Value.slice p5 (k7 + 1) k12) (k7 + 1) (l ++ l2) →
 (XHeap.XTouch (fun b => Value.ownBlock (Value.slice p4 k7 k8) = some b) W3 W4 →
 ((∀ k13 : Nat, (Value.ownBlock (Value.slice p5 (k7 + 1) k12) = some k13 →
 ((Value.ownBlock (Value.slice p4 k7 k8) = some k13) ∨
 (Array.size (World.heap W3) ≤ k13)))) →
 (XHeap.Sl W4 288 1 (Value.slice p4 k7 k8) k7 l →
 ((((p5 = p4 ∧
 k12 = k8)) ∨
 ((((XHeap.NilP p4) ∨
 (k8 < k7 + 1)) ∧
 (∀ k14 : Nat, (Value.ownBlock (Value.slice p5 (k7 + 1) k12) = some k14 →
 Array.size (World.heap W3) ≤ k14))))) →
 ((∃ v3 : Value, World.cell? W4 (.mk q (qo + 1) none) = some v3) ∧
 (World.frozen? W4 (.mk q (qo + 1) none) = false ∧
 (∀ W5 : World, (W5 = World.setCell W4 (.mk q (qo + 1) none) (Value.slice p5 (k7 + 1) k12) →
 Q (.returned Value.nilIface) W5)))))))))))))))))))))))))))))))))))))))))))))))))))))
 ((∃ z4 : Int, (World.cell? W (.mk q qo none) = some (.int .i64 z4) ∧
 Sx.split ((↑k : Int) == z4)
 (Q (.returned (.iface 33 (Value.int .i64 4))) W)
 ((∃ p6 : Option Addr, (∃ k15 : Nat, (∃ k16 : Nat, (World.cell? W (.mk q (qo + 1) none) = some (.slice p6 k15 k16) ∧
 (∀ vs2 : Array Value, (vs2 = #[.int .i64 seq, .bool store, .bool false, .bool false, .int .u32 0, .int .i64 0, .int .u32 0, .bool false, .int .i64 0, .int .i64 0, .int .i64 0, .int .i64 0, .bool false] →
 (∀ k17 : Nat, (∀ W6 : World, (k17 = Array.size (World.heap W) →
 (W6 = World.alloc W (Obj.cells (Value.cells (Value.agg vs2)) 287) →
 (∀ k18 : Nat, (∀ W7 : World, (k18 = Array.size (World.heap W6) →
 (W7 = World.alloc W6 (Obj.cells #[.pointer (some (Addr.mk k17 0 none))] 288) →
 (∃ l3 : List Value, (∃ l4 : List Value, (XHeap.Sl W7 288 1 (Value.slice p6 k15 k16) k15 l3 ∧
 (((((1 : Nat) = (0 : Nat) ∧
 some (Addr.mk k18 0 none) = none)) ∨
 ((∃ a3 : Addr, (some (Addr.mk k18 0 none) = some a3 ∧
 (∀ k19 : Nat, (∀ v4 : Value, (l4[k19]? = some v4 →
 World.cell? W7 (Addr.add a3 k19) = some v4))))))) ∧
 (List.length l4 = 1 ∧
 ((∀ v5 : Value, (v5 ∈ l4 →
 Value.oneCell' v5 = true)) ∧
 (k15 + 1 ≤ maxLen ∧
 ((k15 + 1) * 8 ≤ 140737488355328 ∧
 (∀ p7 : Option Addr, (∀ k20 : Nat, (∀ W8 : World, (XHeap.Sl W8 288 1 (Value.slice p7 (k15 + 1) k20) (k15 + 1) (l3 ++ l4) →
 (XHeap.XTouch (fun b => Value.ownBlock (Value.slice p6 k15 k16) = some b) W7 W8 →
 ((∀ k21 : Nat, (Value.ownBlock (Value.slice p7 (k15 + 1) k20) = some k21 →
 ((Value.ownBlock (Value.slice p6 k15 k16) = some k21) ∨
 (Array.size (World.heap W7) ≤ k21)))) →
 (XHeap.Sl W8 288 1 (Value.slice p6 k15 k16) k15 l3 →
 ((((p7 = p6 ∧
 k20 = k16)) ∨
 ((((XHeap.NilP p6) ∨
 (k16 < k15 + 1)) ∧
 (∀ k22 : Nat, (Value.ownBlock (Value.slice p7 (k15 + 1) k20) = some k22 →
 Array.size (World.heap W7) ≤ k22))))) →
 ((∃ v6 : Value, World.cell? W8 (.mk q (qo + 1) none) = some v6) ∧
 (World.frozen? W8 (.mk q (qo + 1) none) = false ∧
 (∀ W9 : World, (W9 = World.setCell W8 (.mk q (qo + 1) none) (Value.slice p7 (k15 + 1) k20) →
 Q (.returned Value.nilIface) W9)))))))))))))))))))))))))))))))))))))))))))) :
 Calls Tryz.prog 177 #[.pointer (some ⟨q, qo, none⟩), .int .i64 seq, .bool store] W Q :=
 Sx.sound Tryz.func177 .leaf [Value.pointer (some ⟨q, qo, none⟩), .int .i64 seq, .bool store] rfl (Eq.mp (by kernel_rfl) hVC)
theorem vc144 {W : World} {Q : Ending → World → Prop} (q : Nat) (qo : Nat) (after : Int)
 (hVC :
 (∀ k : Nat, (∀ W2 : World, (k = Array.size (World.heap W) →
 (W2 = World.alloc W (Obj.cells #[.int .i64 after] 3) →
 (∃ p : Option Addr, (∃ k2 : Nat, (∃ k3 : Nat, (World.cell? W2 (.mk q (qo + 1) none) = some (.slice p k2 k3) ∧
 Calls Tryz.prog 191 #[.slice p k2 k3, Value.func (Fn.func 192) #[] #[.pointer (some (Addr.mk k 0 none))]] W2 (fun e =>
 (fun W3 =>
 (∃ p2 : Option Addr, (∃ k4 : Nat, (∃ k5 : Nat, (e = .returned (.slice p2 k4 k5) ∧
 ((∃ v : Value, World.cell? W3 (.mk q (qo + 1) none) = some v) ∧
 (World.frozen? W3 (.mk q (qo + 1) none) = false ∧
 (∀ W4 : World, (W4 = World.setCell W3 (.mk q (qo + 1) none) (Value.slice p2 k4 k5) →
 Q (.returned (.tuple #[])) W4))))))))))))))))))) :
 Calls Tryz.prog 144 #[.pointer (some ⟨q, qo, none⟩), .int .i64 after] W Q :=
 Sx.sound Tryz.func144 .leaf [Value.pointer (some ⟨q, qo, none⟩), .int .i64 after] rfl (Eq.mp (by kernel_rfl) hVC)
theorem vc79 {W : World} {Q : Ending → World → Prop} (q : Nat) (qo : Nat)
 (hVC :
 (∀ k : Nat, (∀ W2 : World, (k = Array.size (World.heap W) →
 (W2 = World.alloc W (Obj.cells #[.int .u32 0, .int .i64 0, .int .u32 0] 233) →
 (∃ p : Option Addr, (∃ k2 : Nat, (∃ k3 : Nat, (World.cell? W2 (.mk q (qo + 1) none) = some (.slice p k2 k3) ∧
 Sx.split ((↑k2 : Int) == 0)
 ((∀ vs : Array Value, (vs = #[.int .u32 0, .int .i64 0, .int .u32 0] →
 (Array.size vs = 3 ∧
 ((∀ k4 : Nat, (k4 < 3 →
 ((∃ v : Value, World.cell? W2 (.mk k (0 + k4) none) = some v) ∧
 World.frozen? W2 (.mk k (0 + k4) none) = false))) ∧
 ((∀ v2 : Value, (v2 ∈ Array.toList vs →
 Value.oneCell' v2 = true)) ∧
 (∀ W3 : World, (W3 = World.setCells W2 k 0 (Array.toList vs) →
 (∃ vs2 : Array Value, (Array.size vs2 = 3 ∧
 (Sx.cellsAt W3 (.mk k 0 none) vs2 ∧
 Q (.returned (.tuple #[.agg vs2, .bool false])) W3)))))))))))
 ((∃ p2 : Option Addr, (∃ k5 : Nat, (∃ k6 : Nat, (World.cell? W2 (.mk q (qo + 1) none) = some (.slice p2 k5 k6) ∧
 (((0 : Int) ≤ (0 : Int) ∧
 (0 : Int) < (↑k5 : Int)) ∧
 Sx.adr p2 (fun k7 =>
 (fun k8 =>
 (∃ p3 : Option Addr, (World.cell? W2 (.mk k7 (k8 + 0) none) = some (.pointer p3) ∧
 Sx.ptr p3 (fun a =>
 (∃ t : Bool, (World.cell? W2 (Addr.add a 12) = some (.bool t) ∧
 Sx.split (!t)
 ((∀ vs3 : Array Value, (vs3 = #[.int .u32 0, .int .i64 0, .int .u32 0] →
 (Array.size vs3 = 3 ∧
 ((∀ k9 : Nat, (k9 < 3 →
 ((∃ v3 : Value, World.cell? W2 (.mk k (0 + k9) none) = some v3) ∧
 World.frozen? W2 (.mk k (0 + k9) none) = false))) ∧
 ((∀ v4 : Value, (v4 ∈ Array.toList vs3 →
 Value.oneCell' v4 = true)) ∧
 (∀ W4 : World, (W4 = World.setCells W2 k 0 (Array.toList vs3) →
 (∃ vs4 : Array Value, (Array.size vs4 = 3 ∧
 (Sx.cellsAt W4 (.mk k 0 none) vs4 ∧
 Q (.returned (.tuple #[.agg vs4, .bool false])) W4)))))))))))
 ((∃ p4 : Option Addr, (∃ k10 : Nat, (∃ k11 : Nat, (World.cell? W2 (.mk q (qo + 1) none) = some (.slice p4 k10 k11) ∧
 (((0 : Int) ≤ (0 : Int) ∧
 (0 : Int) < (↑k10 : Int)) ∧
 Sx.adr p4 (fun k12 =>
 (fun k13 =>
 (∃ p5 : Option Addr, (World.cell? W2 (.mk k12 (k13 + 0) none) = some (.pointer p5) ∧
 (∀ W5 : World, (W5 = World.drew W2 →
 Sx.ptr p5 (fun a2 =>
 (∃ z : Int, (World.cell? W5 (Addr.add a2 4) = some (.int .u32 z) ∧
 Sx.ptr p5 (fun a3 =>
 (∃ z2 : Int, (World.cell? W5 (Addr.add a3 5) = some (.int .i64 z2) ∧
 Sx.ptr p5 (fun a4 =>
 (∃ z3 : Int, (World.cell? W5 (Addr.add a4 6) = some (.int .u32 z3) ∧
 Sx.ptr p5 (fun a5 =>
 (∃ z4 : Int, (World.cell? W5 (Addr.add a5 5) = some (.int .i64 z4) ∧
 (∀ z5 : Int, (z5 = IntKind.wrap .i64 (8 * z4) →
 (∀ z6 : Int, (z6 = IntKind.wrap .i64 (32 - z5) →
 ((0 : Int) ≤ z6 ∧
 (∀ z7 : Int, (z7 = IntKind.wrap .u32 (z3 * 2 ^ min (Int.toNat z6) (IntKind.bits .u32)) →
 Sx.ptr p5 (fun a6 =>
 (∃ z8 : Int, (World.cell? W5 (Addr.add a6 5) = some (.int .i64 z8) ∧
 (∀ z9 : Int, (z9 = IntKind.wrap .i64 (8 * z8) →
 (∀ z10 : Int, (z10 = IntKind.wrap .i64 (32 - z9) →
 ((0 : Int) ≤ z10 ∧
 (∀ z11 : Int, (z11 = Int.fdiv z7 (2 ^ min (Int.toNat z10) (IntKind.bits .u32)) →
 (∀ vs5 : Array Value, (vs5 = #[.int .u32 z, .int .i64 z2, .int .u32 z11] →
 (Array.size vs5 = 3 ∧
 ((∀ k14 : Nat, (k14 < 3 →
 ((∃ v5 : Value, World.cell? W5 (.mk k (0 + k14) none) = some v5) ∧
 World.frozen? W5 (.mk k (0 + k14) none) = false))) ∧
 ((∀ v6 : Value, (v6 ∈ Array.toList vs5 →
 Value.oneCell' v6 = true)) ∧
 (∀ W6 : World, (W6 = World.setCells W5 k 0 (Array.toList vs5) →
 (∃ vs6 : Array Value, (Array.size vs6 = 3 ∧
 (Sx.cellsAt W6 (.mk k 0 none) vs6 ∧
 Q (.returned (.tuple #[.agg vs6, .bool true])) W6))))))))))))))))))))))))))))))))))))))))))))))))))))))))))))))))))))))))) :
 Calls Tryz.prog 79 #[.pointer (some ⟨q, qo, none⟩)] W Q :=
 Sx.sound Tryz.func79 (.node [] [] 0 .leaf (.node [] [] 0 .leaf (.node [] [] 0 .leaf (.node [] [] 0 (.node [] [] 28 .leaf .leaf) .leaf)))) [Value.pointer (some ⟨q, qo, none⟩)] rfl (Eq.mp (by kernel_rfl) hVC)
theorem vc199r {W : World} {Q : Ending → World → Prop} (s : Option Addr) (sn : Nat) (sc : Nat)
 (hVC :
 (∃ I : Int → World → Prop, (∃ I2 : Int → World → Nat, (I 0 W ∧
 ((Nat → Value) →
 (∀ x : Int, (∀ W2 : World, (I x W2 →
 Sx.split (decide (x < (↑sn : Int)))
 ((((0 : Int) ≤ x ∧
 x < (↑sn : Int)) ∧
 Sx.adr s (fun k =>
 (fun k2 =>
 (∃ p : Option Addr, (World.cell? W2 (.mk k (k2 + Int.toNat x * 1) none) = some (.pointer p) ∧
 Calls Tryz.prog 200 #[.pointer p] W2 (fun e =>
 (fun W3 =>
 (∃ t : Bool, (e = .returned (.bool t) ∧
 Sx.split t
 (Q (.returned (.int .i64 x)) W3)
 ((∀ z : Int, (z = IntKind.wrap .i64 (x + 1) →
 (I z W3 ∧
 I2 z W3 < I2 x W2))))))))))))))
 (Q (.returned (.int .i64 (-1))) W2))))))))) :
 Calls Tryz.prog 199 #[.slice s sn sc, Value.func (Fn.func 200) #[] #[]] W Q :=
 Sx.sound Tryz.func199 (.node [] [] 0 .leaf (.node [] [] 0 (.node [] [] 0 .leaf (.node [] [] 0 (.node [(8, .int .i64)] [7, 1, 0] 0 .leaf .leaf) .leaf)) .leaf)) [Value.slice s sn sc, Value.func (Fn.func 200) #[] #[]] rfl (Eq.mp (by kernel_rfl) hVC)
theorem vc199f {W : World} {Q : Ending → World → Prop} (s : Option Addr) (sn : Nat) (sc : Nat) (f0 : Nat)
 (hVC :
 (∃ I : Int → World → Prop, (∃ I2 : Int → World → Nat, (I 0 W ∧
 ((Nat → Value) →
 (∀ x : Int, (∀ W2 : World, (I x W2 →
 Sx.split (decide (x < (↑sn : Int)))
 ((((0 : Int) ≤ x ∧
 x < (↑sn : Int)) ∧
 Sx.adr s (fun k =>
 (fun k2 =>
 (∃ p : Option Addr, (World.cell? W2 (.mk k (k2 + Int.toNat x * 1) none) = some (.pointer p) ∧
 Calls Tryz.prog 264 #[.pointer p, .pointer (some (Addr.mk f0 0 none))] W2 (fun e =>
 (fun W3 =>
 (∃ t : Bool, (e = .returned (.bool t) ∧
 Sx.split t
 (Q (.returned (.int .i64 x)) W3)
 ((∀ z : Int, (z = IntKind.wrap .i64 (x + 1) →
 (I z W3 ∧
 I2 z W3 < I2 x W2))))))))))))))
 (Q (.returned (.int .i64 (-1))) W2))))))))) :
 Calls Tryz.prog 199 #[.slice s sn sc, Value.func (Fn.func 264) #[] #[.pointer (some ⟨f0, 0, none⟩)]] W Q :=
 Sx.sound Tryz.func199 (.node [] [] 0 .leaf (.node [] [] 0 (.node [] [] 0 .leaf (.node [] [] 0 (.node [(8, .int .i64)] [7, 1, 0] 0 .leaf .leaf) .leaf)) .leaf)) [Value.slice s sn sc, Value.func (Fn.func 264) #[] #[.pointer (some ⟨f0, 0, none⟩)]] rfl (Eq.mp (by kernel_rfl) hVC)
theorem vc199q {W : World} {Q : Ending → World → Prop} (s : Option Addr) (sn : Nat) (sc : Nat) (f0 : Nat)
 (hVC :
 (∃ I : Int → World → Prop, (∃ I2 : Int → World → Nat, (I 0 W ∧
 ((Nat → Value) →
 (∀ x : Int, (∀ W2 : World, (I x W2 →
 Sx.split (decide (x < (↑sn : Int)))
 ((((0 : Int) ≤ x ∧
 x < (↑sn : Int)) ∧
 Sx.adr s (fun k =>
 (fun k2 =>
 (∃ p : Option Addr, (World.cell? W2 (.mk k (k2 + Int.toNat x * 1) none) = some (.pointer p) ∧
 Calls Tryz.prog 192 #[.pointer p, .pointer (some (Addr.mk f0 0 none))] W2 (fun e =>
 (fun W3 =>
 (∃ t : Bool, (e = .returned (.bool t) ∧
 Sx.split t
 (Q (.returned (.int .i64 x)) W3)
 ((∀ z : Int, (z = IntKind.wrap .i64 (x + 1) →
 (I z W3 ∧
 I2 z W3 < I2 x W2))))))))))))))
 (Q (.returned (.int .i64 (-1))) W2))))))))) :
 Calls Tryz.prog 199 #[.slice s sn sc, Value.func (Fn.func 192) #[] #[.pointer (some ⟨f0, 0, none⟩)]] W Q :=
 Sx.sound Tryz.func199 (.node [] [] 0 .leaf (.node [] [] 0 (.node [] [] 0 .leaf (.node [] [] 0 (.node [(8, .int .i64)] [7, 1, 0] 0 .leaf .leaf) .leaf)) .leaf)) [Value.slice s sn sc, Value.func (Fn.func 192) #[] #[.pointer (some ⟨f0, 0, none⟩)]] rfl (Eq.mp (by kernel_rfl) hVC)
theorem vc200 {W : World} {Q : Ending → World → Prop} (e : Nat) (eo : Nat)
 (hVC :
 (∃ t : Bool, (World.cell? W (.mk e (eo + 12) none) = some (.bool t) ∧
 Q (.returned (.bool !t)) W))) :
 Calls Tryz.prog 200 #[.pointer (some ⟨e, eo, none⟩)] W Q :=
 Sx.sound Tryz.func200 .leaf [Value.pointer (some ⟨e, eo, none⟩)] rfl (Eq.mp (by kernel_rfl) hVC)
theorem vc182 {W : World} {Q : Ending → World → Prop} (s : Option Addr) (sn : Nat) (sc : Nat) (i : Int) (j : Int)
 (hVC :
 (((0 : Int) ≤ i ∧
 (i ≤ j ∧
 (j ≤ (↑sn : Int) ∧
 (↑sn : Int) ≤ (↑sc : Int)))) ∧
 Sx.split (i == j)
 (Q (.returned (.slice s sn sc)) W)
 ((∀ W2 : World, (W2 = World.drew W →
 (((0 : Int) ≤ i ∧
 i ≤ (↑sc : Int)) ∧
 (((0 : Int) ≤ j ∧
 j ≤ (↑sn : Int)) ∧
 (∃ l : List Value, (∃ l2 : List Value, (XHeap.Sl W2 288 1 (Value.slice s (Int.toNat i) sc) (Int.toNat i) l ∧
 ((((sn - Int.toNat j = 0 ∧
 Sx.sub s sc (Int.toNat j) 1 = none)) ∨
 ((∃ a : Addr, (Sx.sub s sc (Int.toNat j) 1 = some a ∧
 (∀ k : Nat, (∀ v : Value, (l2[k]? = some v →
 World.cell? W2 (Addr.add a k) = some v))))))) ∧
 (List.length l2 = (sn - Int.toNat j) * 1 ∧
 ((∀ v2 : Value, (v2 ∈ l2 →
 Value.oneCell' v2 = true)) ∧
 (Int.toNat i + (sn - Int.toNat j) ≤ maxLen ∧
 ((Int.toNat i + (sn - Int.toNat j)) * 8 ≤ 140737488355328 ∧
 (∀ p : Option Addr, (∀ k2 : Nat, (∀ W3 : World, (XHeap.Sl W3 288 1 (Value.slice p (Int.toNat i + (sn - Int.toNat j)) k2) (Int.toNat i + (sn - Int.toNat j)) (l ++ l2) →
 (XHeap.XTouch (fun b => Value.ownBlock (Value.slice s (Int.toNat i) sc) = some b) W2 W3 →
 ((∀ k3 : Nat, (Value.ownBlock (Value.slice p (Int.toNat i + (sn - Int.toNat j)) k2) = some k3 →
 ((Value.ownBlock (Value.slice s (Int.toNat i) sc) = some k3) ∨
 (Array.size (World.heap W2) ≤ k3)))) →
 (XHeap.Sl W3 288 1 (Value.slice s (Int.toNat i) sc) (Int.toNat i) l →
 ((((p = s ∧
 k2 = sc)) ∨
 ((((XHeap.NilP s) ∨
 (sc < Int.toNat i + (sn - Int.toNat j))) ∧
 (∀ k4 : Nat, (Value.ownBlock (Value.slice p (Int.toNat i + (sn - Int.toNat j)) k2) = some k4 →
 Array.size (World.heap W2) ≤ k4))))) →
 (((0 : Int) ≤ (↑(Int.toNat i + (sn - Int.toNat j)) : Int) ∧
 ((↑(Int.toNat i + (sn - Int.toNat j)) : Int) ≤ (↑sn : Int) ∧
 (↑sn : Int) ≤ (↑k2 : Int))) ∧
 (((Int.toNat (↑sn : Int) - Int.toNat (↑(Int.toNat i + (sn - Int.toNat j)) : Int) = 0) ∨
 ((∃ k5 : Nat, (∃ k6 : Nat, (Sx.sub p k2 (Int.toNat (↑(Int.toNat i + (sn - Int.toNat j)) : Int)) 1 = some (Addr.mk k5 k6 none) ∧
 (∀ k7 : Nat, (k7 < Int.toNat (↑sn : Int) - Int.toNat (↑(Int.toNat i + (sn - Int.toNat j)) : Int) →
 ((∃ v3 : Value, World.cell? W3 (.mk k5 (k6 + k7) none) = some v3) ∧
 World.frozen? W3 (.mk k5 (k6 + k7) none) = false)))))))) ∧
 (∀ W4 : World, (W4 = Sx.setRow (Sx.sub p k2 (Int.toNat (↑(Int.toNat i + (sn - Int.toNat j)) : Int)) 1) W3 (List.replicate (Int.toNat (↑sn : Int) - Int.toNat (↑(Int.toNat i + (sn - Int.toNat j)) : Int)) (Value.pointer none)) →
 Q (.returned (.slice p (Int.toNat i + (sn - Int.toNat j)) k2)) W4))))))))))))))))))))))))))) :
 Calls Tryz.prog 182 #[.slice s sn sc, .int .i64 i, .int .i64 j] W Q :=
 Sx.sound Tryz.func182 (.node [] [] 0 .leaf (.node [] [] 0 .leaf (.node [] [] 0 .leaf (.node [] [] 0 .leaf (.node [] [] 0 (.node [] [] 7 .leaf .leaf) .leaf))))) [Value.slice s sn sc, .int .i64 i, .int .i64 j] rfl (Eq.mp (by kernel_rfl) hVC)
theorem vc217 {W : World} {Q : Ending → World → Prop} (q : Nat) (qo : Nat) (seq : Int)
 (hVC :
 (∀ k : Nat, (∀ W2 : World, (k = Array.size (World.heap W) →
 (W2 = World.alloc W (Obj.cells #[.int .i64 seq] 3) →
 (∃ p : Option Addr, (∃ k2 : Nat, (∃ k3 : Nat, (World.cell? W2 (.mk q (qo + 1) none) = some (.slice p k2 k3) ∧
 Calls Tryz.prog 199 #[.slice p k2 k3, Value.func (Fn.func 264) #[] #[.pointer (some (Addr.mk k 0 none))]] W2 (fun e =>
 (fun W3 =>
 (∃ z : Int, (e = .returned (.int .i64 z) ∧
 Q (.returned (.int .i64 z)) W3))))))))))))) :
 Calls Tryz.prog 217 #[.pointer (some ⟨q, qo, none⟩), .int .i64 seq] W Q :=
 Sx.sound Tryz.func217 .leaf [Value.pointer (some ⟨q, qo, none⟩), .int .i64 seq] rfl (Eq.mp (by kernel_rfl) hVC)
theorem vc191 {W : World} {Q : Ending → World → Prop} (s : Option Addr) (sn : Nat) (sc : Nat) (del0 : Nat)
 (hVC :
 Calls Tryz.prog 199 #[.slice s sn sc, Value.func (Fn.func 192) #[] #[.pointer (some (Addr.mk del0 0 none))]] W (fun e =>
 (fun W2 =>
 (∃ z : Int, (e = .returned (.int .i64 z) ∧
 Sx.split (z == -1)
 (Q (.returned (.slice s sn sc)) W2)
 ((∀ z2 : Int, (z2 = IntKind.wrap .i64 (z + 1) →
 (∃ I : Int → Int → World → Prop, (∃ I2 : Int → Int → World → Nat, (I z2 z W2 ∧
 ((Nat → Value) →
 (∀ j : Int, (∀ i : Int, (∀ W3 : World, (I j i W3 →
 Sx.split (decide (j < (↑sn : Int)))
 ((((0 : Int) ≤ j ∧
 j < (↑sn : Int)) ∧
 Sx.adr s (fun k =>
 (fun k2 =>
 (∃ p : Option Addr, (World.cell? W3 (.mk k (k2 + Int.toNat j * 1) none) = some (.pointer p) ∧
 Calls Tryz.prog 192 #[.pointer p, .pointer (some (Addr.mk del0 0 none))] W3 (fun e2 =>
 (fun W4 =>
 (∃ t : Bool, (e2 = .returned (.bool t) ∧
 Sx.split (!t)
 ((((0 : Int) ≤ i ∧
 i < (↑sn : Int)) ∧
 Sx.adr s (fun k3 =>
 (fun k4 =>
 ((∃ v : Value, World.cell? W4 (.mk k3 (k4 + Int.toNat i * 1) none) = some v) ∧
 (World.frozen? W4 (.mk k3 (k4 + Int.toNat i * 1) none) = false ∧
 (∀ W5 : World, (W5 = World.setCell W4 (.mk k3 (k4 + Int.toNat i * 1) none) (Value.pointer p) →
 (∀ z3 : Int, (z3 = IntKind.wrap .i64 (i + 1) →
 (∀ z4 : Int, (z4 = IntKind.wrap .i64 (j + 1) →
 (I z4 z3 W5 ∧
 I2 z4 z3 W5 < I2 j i W3)))))))))))))
 ((∀ z5 : Int, (z5 = IntKind.wrap .i64 (j + 1) →
 (I z5 i W4 ∧
 I2 z5 i W4 < I2 j i W3))))))))))))))
 ((((0 : Int) ≤ i ∧
 i ≤ (↑sn : Int)) ∧
 (((sn - Int.toNat i = 0) ∨
 ((∃ k5 : Nat, (∃ k6 : Nat, (Sx.sub s sc (Int.toNat i) 1 = some (Addr.mk k5 k6 none) ∧
 (∀ k7 : Nat, (k7 < sn - Int.toNat i →
 ((∃ v2 : Value, World.cell? W3 (.mk k5 (k6 + k7) none) = some v2) ∧
 World.frozen? W3 (.mk k5 (k6 + k7) none) = false)))))))) ∧
 (∀ W6 : World, (W6 = Sx.setRow (Sx.sub s sc (Int.toNat i) 1) W3 (List.replicate (sn - Int.toNat i) (Value.pointer none)) →
 (((0 : Int) ≤ i ∧
 i ≤ (↑sc : Int)) ∧
 Q (.returned (.slice s (Int.toNat i) sc)) W6)))))))))))))))))))))) :
 Calls Tryz.prog 191 #[.slice s sn sc, Value.func (Fn.func 192) #[] #[.pointer (some ⟨del0, 0, none⟩)]] W Q :=
 Sx.sound Tryz.func191 (.node [] [] 0 .leaf (.node [] [] 0 .leaf (.node [] [] 0 .leaf (.node [] [] 0 (.node [] [] 0 .leaf (.node [] [] 0 (.node [(6, .int .i64), (5, .int .i64)] [0, 1] 0 .leaf .leaf) .leaf)) .leaf)))) [Value.slice s sn sc, Value.func (Fn.func 192) #[] #[.pointer (some ⟨del0, 0, none⟩)]] rfl (Eq.mp (by kernel_rfl) hVC)
theorem vc192 {W : World} {Q : Ending → World → Prop} (e : Nat) (eo : Nat) (fv0 : Nat) (fv0o : Nat)
 (hVC :
 (∃ z : Int, (World.cell? W (.mk e eo none) = some (.int .i64 z) ∧
 (∃ z2 : Int, (World.cell? W (.mk fv0 fv0o none) = some (.int .i64 z2) ∧
 Sx.split (decide (z > z2))
 ((∃ t : Bool, (World.cell? W (.mk e (eo + 12) none) = some (.bool t) ∧
 (∀ W2 : World, (∀ k : Nat, (W2 = World.drewN W k →
 Q (.returned (.bool !t)) W2))))))
 ((∀ W3 : World, (∀ k2 : Nat, (W3 = World.drewN W k2 →
 Q (.returned (.bool false)) W3))))))))) :
 Calls Tryz.prog 192 #[.pointer (some ⟨e, eo, none⟩), .pointer (some ⟨fv0, fv0o, none⟩)] W Q :=
 Sx.sound Tryz.func192 .leaf [Value.pointer (some ⟨e, eo, none⟩), .pointer (some ⟨fv0, fv0o, none⟩)] rfl (Eq.mp (by kernel_rfl) hVC)
theorem vc264 {W : World} {Q : Ending → World → Prop} (e : Nat) (eo : Nat) (fv0 : Nat) (fv0o : Nat)
 (hVC :
 (∃ z : Int, (World.cell? W (.mk e eo none) = some (.int .i64 z) ∧
 (∃ z2 : Int, (World.cell? W (.mk fv0 fv0o none) = some (.int .i64 z2) ∧
 Sx.split (z == z2)
 ((∃ t : Bool, (World.cell? W (.mk e (eo + 12) none) = some (.bool t) ∧
 (∀ W2 : World, (∀ k : Nat, (W2 = World.drewN W k →
 Q (.returned (.bool !t)) W2))))))
 ((∀ W3 : World, (∀ k2 : Nat, (W3 = World.drewN W k2 →
 Q (.returned (.bool false)) W3))))))))) :
 Calls Tryz.prog 264 #[.pointer (some ⟨e, eo, none⟩), .pointer (some ⟨fv0, fv0o, none⟩)] W Q :=
 Sx.sound Tryz.func264 .leaf [Value.pointer (some ⟨e, eo, none⟩), .pointer (some ⟨fv0, fv0o, none⟩)] rfl (Eq.mp (by kernel_rfl) hVC)
end Go.Proofs.YthacioiefgabbaaGreatDoor
