/- What each function asks, reckoned out of its text; printed by a program of mine (wip/tpl/VcTool.lean). No condition. -/
import Derived.Test.YtojogkljneonmaaGreatDoorSxB
import Derived.Test.YtojogkljneonmaaGreatDoorChecked
namespace Go.Proofs.YtojogkljneonmaaGreatDoor
open Go Go.Proofs
set_option linter.unusedVariables false
set_option maxRecDepth 100000
theorem vc70 {W : World} {Q : Ending → World → Prop} (r : Nat) (ro : Nat)
 (hVC :
 ∃ z : Int, W.cell? ⟨r, ro + 2, none⟩ = some (.int .i64 z) ∧ Sx.split (z == 0) (Q (Ending.panicked [PanicEntry.mk (Value.iface 70 (Value.int .i64 0)) false false]) W)
 (∃ z2 : Int, W.cell? ⟨r, ro + 2, none⟩ = some (.int .i64 z2) ∧ ∀ z3 : Int, z3 = IntKind.wrap .i64 (z2 - 1) → (∃ v : Value, W.cell? ⟨r, ro + 2, none⟩ = some v) ∧
 (W.frozen? ⟨r, ro + 2, none⟩ = false ∧ ∀ W2 : World, W2 = W.setCell ⟨r, ro + 2, none⟩ (Value.int .i64 z3) → Q (.returned (.tuple #[])) W2))) :
 Calls Tryz.prog 70 #[.pointer (some ⟨r, ro, none⟩)] W Q :=
 Sx.sound (pk := [70,21,40,71,73,105]) Tryz.func70 .leaf [Value.pointer (some ⟨r, ro, none⟩)] rfl (Eq.mp (by kernel_rfl) hVC)
theorem vc21 {W : World} {Q : Ending → World → Prop} (arg0 : Nat) (arg0o : Nat) (arg1 : Nat) (arg1o : Nat) (arg2 : Option Addr) (arg2n : Nat) (arg2c : Nat)
 (hVC :
 ∀ W2 : World, W2 = World.drew W → ∃ z : Int, W2.cell? ⟨arg0, arg0o + 3, none⟩ = some (.int .i64 z) ∧ Calls Tryz.prog 39 #[.pointer (some ⟨arg1, arg1o, none⟩)] W2 (fun e =>
 fun W3 => ∃ z2 : Int, e = .returned (.int .i64 z2) ∧ (∃ z3 : Int, W3.cell? ⟨arg0, arg0o + 3, none⟩ = some (.int .i64 z3) ∧ Value.int .i64 z3 = Value.int .i64 z) ∧
 Sx.split (decide (z < z2)) (Q (Ending.panicked [PanicEntry.mk (Value.iface 70 (Value.int .i64 2)) false false]) W3)
 (∃ p : Option Addr, ∃ k : Nat, ∃ k2 : Nat, W3.cell? ⟨arg0, arg0o + 4, none⟩ = some (.slice p k k2) ∧ ∀ W4 : World, W4 = World.drew W3 →
 ∃ z4 : Int, W4.cell? ⟨arg0, arg0o + 3, none⟩ = some (.int .i64 z4) ∧ Calls Tryz.prog 39 #[.pointer (some ⟨arg1, arg1o, none⟩)] W4 (fun e2 => fun W5 =>
 ∃ z5 : Int, e2 = .returned (.int .i64 z5) ∧ ((∃ z6 : Int, W5.cell? ⟨arg0, arg0o + 3, none⟩ = some (.int .i64 z6) ∧ Value.int .i64 z6 = Value.int .i64 z4) ∧
 ∀ z7 : Int, z7 = IntKind.wrap .i64 (z4 - z5) → (∃ v : Value, W5.cell? ⟨arg0, arg0o + 3, none⟩ = some v) ∧ (W5.frozen? ⟨arg0, arg0o + 3, none⟩ = false ∧
 ∀ W6 : World, W6 = W5.setCell ⟨arg0, arg0o + 3, none⟩ (Value.int .i64 z7) → ∃ z8 : Int, W6.cell? ⟨arg1, arg1o + 6, none⟩ = some (.int .i64 z8) ∧
 ∀ z9 : Int, z9 = IntKind.wrap .i64 (z8 - (arg2n : Int)) → ∃ l : List Value, XHeap.Sl W6 32 1 (Value.slice arg2 arg2n arg2c) arg2n l ∧ (((0 : Int) ≤ z9 ∧
 arg2n + Int.toNat z9 ≤ maxLen ∧ (arg2n + Int.toNat z9) * 4 ≤ 140737488355328) ∧
 ∀ p2 : Option Addr, ∀ k3 : Nat, ∀ W7 : World, XHeap.Sl W7 32 1 (Value.slice p2 (arg2n + Int.toNat z9) k3) (arg2n + Int.toNat z9) (l ++ List.replicate (Int.toNat z9) (Value.int .u32 0)) →
 XHeap.XTouch (fun b => Value.ownBlock (Value.slice arg2 arg2n arg2c) = some b) W6 W7 → (∀ k4 : Nat, Value.ownBlock (Value.slice p2 (arg2n + Int.toNat z9) k3) = some k4 →
 (Value.ownBlock (Value.slice arg2 arg2n arg2c) = some k4) ∨ (W6.heap.size ≤ k4)) → (∃ v2 : Value, W7.cell? ⟨arg0, arg0o + 4, none⟩ = some v2) ∧
 (W7.frozen? ⟨arg0, arg0o + 4, none⟩ = false ∧ ∀ W8 : World, W8 = W7.setCell ⟨arg0, arg0o + 4, none⟩ (Value.slice p2 (arg2n + Int.toNat z9) k3) →
 ∃ p3 : Option Addr, W8.cell? ⟨arg1, arg1o + 5, none⟩ = some (.pointer p3) ∧ Calls Tryz.prog 40 #[.pointer (some ⟨arg0, arg0o, none⟩), .iface 113 (Value.pointer p3)] W8 (fun e3 =>
 fun W9 => (∃ z10 : Int, ∃ t : Bool, e3 = .returned (.tuple #[.int .u32 z10, .bool t]) ∧ (∃ v3 : Value, W9.cell? ⟨arg0, arg0o + 4, none⟩ = some v3) ∧
 (W9.frozen? ⟨arg0, arg0o + 4, none⟩ = false ∧ ∀ W10 : World, W10 = W9.setCell ⟨arg0, arg0o + 4, none⟩ (Value.slice p k k2) → ∀ W11 : World, W11 = World.drew W10 →
 ∃ z11 : Int, W11.cell? ⟨arg0, arg0o + 3, none⟩ = some (.int .i64 z11) ∧ Calls Tryz.prog 39 #[.pointer (some ⟨arg1, arg1o, none⟩)] W11 (fun e4 => fun W12 =>
 ∃ z12 : Int, e4 = .returned (.int .i64 z12) ∧ ((∃ z13 : Int, W12.cell? ⟨arg0, arg0o + 3, none⟩ = some (.int .i64 z13) ∧ Value.int .i64 z13 = Value.int .i64 z11) ∧
 ∀ z14 : Int, z14 = IntKind.wrap .i64 (z11 + z12) → (∃ v4 : Value, W12.cell? ⟨arg0, arg0o + 3, none⟩ = some v4) ∧ (W12.frozen? ⟨arg0, arg0o + 3, none⟩ = false ∧
 ∀ W13 : World, W13 = W12.setCell ⟨arg0, arg0o + 3, none⟩ (Value.int .i64 z14) → Q (.returned (.int .u32 z10)) W13))))) ∨ (∃ l2 : List PanicEntry, e3 = Ending.panicked l2 ∧
 Q (Ending.panicked l2) W9)))))))))) :
 Calls Tryz.prog 21 #[.pointer (some ⟨arg0, arg0o, none⟩), .pointer (some ⟨arg1, arg1o, none⟩), .slice arg2 arg2n arg2c] W Q :=
 Sx.sound (pk := [70,21,40,71,73,105]) Tryz.func21 (.node [] [] 0 .leaf (.node [] [] 0 (.node [] [] 0 (.node [] [] 1001006 .leaf .leaf) .leaf) (.node [] [] 0 .leaf (.node [] [] 0 (.node [] [] 1001006 .leaf .leaf) (.node [] [] 0 .leaf (.node [] [] 0 .leaf (.node [] [] 0 .leaf (.node [] [] 0 (.node [] [] 1001006 .leaf .leaf) .leaf)))))))) [Value.pointer (some ⟨arg0, arg0o, none⟩), .pointer (some ⟨arg1, arg1o, none⟩), .slice arg2 arg2n arg2c] rfl (Eq.mp (by kernel_rfl) hVC)
theorem vc72 {W : World} {Q : Ending → World → Prop} (r : Nat) (ro : Nat) (n : Nat) (no : Nat)
 (hVC :
 ∃ z : Int, W.cell? ⟨n, no + 3, none⟩ = some (.int .i64 z) ∧ Sx.split (decide (z ≥ 0)) (∃ p : Option Addr, ∃ k : Nat, ∃ k2 : Nat, W.cell? ⟨r, ro + 4, none⟩ = some (.slice p k k2) ∧
 ∃ z2 : Int, W.cell? ⟨n, no + 3, none⟩ = some (.int .i64 z2) ∧ ((0 : Int) ≤ z2 ∧ z2 < (k : Int)) ∧ Sx.adr p (fun k3 => fun k4 => ∀ W2 : World, ∀ k5 : Nat, W2 = W.drewN k5 →
 Q (.returned (.pointer (some (Addr.mk k3 (k4 + Int.toNat z2 * 1) none)))) W2)) (∃ p2 : Option Addr, ∃ k6 : Nat, ∃ k7 : Nat, W.cell? ⟨r, ro, none⟩ = some (.slice p2 k6 k7) ∧
 ∃ z3 : Int, W.cell? ⟨n, no + 4, none⟩ = some (.int .i64 z3) ∧ ((0 : Int) ≤ z3 ∧ z3 < (k6 : Int)) ∧ Sx.adr p2 (fun k8 => fun k9 => ∀ W3 : World, ∀ k10 : Nat, W3 = W.drewN k10 →
 Q (.returned (.pointer (some (Addr.mk k8 (k9 + Int.toNat z3 * 1) none)))) W3))) :
 Calls Tryz.prog 72 #[.pointer (some ⟨r, ro, none⟩), .pointer (some ⟨n, no, none⟩)] W Q :=
 Sx.sound (pk := [70,21,40,71,73,105]) Tryz.func72 .leaf [Value.pointer (some ⟨r, ro, none⟩), .pointer (some ⟨n, no, none⟩)] rfl (Eq.mp (by kernel_rfl) hVC)
theorem vc73 {W : World} {Q : Ending → World → Prop} (r : Nat) (ro : Nat) (i : Nat) (io : Nat) (k : Int)
 (hVC :
 ∃ z : Int, W.cell? ⟨i, io + 4, none⟩ = some (.int .u32 z) ∧ Sx.split (decide (k ≥ z)) (Q (Ending.panicked [PanicEntry.mk (Value.iface 70 (Value.int .i64 1)) false false]) W)
 (∃ p : Option Addr, ∃ k2 : Nat, ∃ k3 : Nat, W.cell? ⟨r, ro, none⟩ = some (.slice p k2 k3) ∧ ∃ z2 : Int, W.cell? ⟨i, io + 3, none⟩ = some (.int .i64 z2) ∧
 ∀ z3 : Int, z3 = IntKind.wrap .i64 k → ∀ z4 : Int, z4 = IntKind.wrap .i64 (z2 + z3) → ((0 : Int) ≤ z4 ∧ z4 < (k2 : Int)) ∧ Sx.adr p (fun k4 => fun k5 =>
 ∀ W2 : World, ∀ k6 : Nat, W2 = W.drewN k6 → Q (.returned (.pointer (some (Addr.mk k4 (k5 + Int.toNat z4 * 1) none)))) W2))) :
 Calls Tryz.prog 73 #[.pointer (some ⟨r, ro, none⟩), .pointer (some ⟨i, io, none⟩), .int .u32 k] W Q :=
 Sx.sound (pk := [70,21,40,71,73,105]) Tryz.func73 .leaf [Value.pointer (some ⟨r, ro, none⟩), .pointer (some ⟨i, io, none⟩), .int .u32 k] rfl (Eq.mp (by kernel_rfl) hVC)
theorem vc121 {W : World} {Q : Ending → World → Prop} (sign : ByteArray)
 (hVC :
 Sx.split (ByteArray.toList sign == ByteArray.toList ⟨#[124]⟩) (Q (.returned (.int .i64 36)) W) (Sx.split (ByteArray.toList sign == ByteArray.toList ⟨#[94]⟩)
 (Q (.returned (.int .i64 33)) W) (Sx.split (ByteArray.toList sign == ByteArray.toList ⟨#[38]⟩) (Q (.returned (.int .i64 37)) W)
 (Sx.split (ByteArray.toList sign == ByteArray.toList ⟨#[60]⟩) (Q (.returned (.int .i64 31)) W) (Sx.split (ByteArray.toList sign == ByteArray.toList ⟨#[60, 60]⟩)
 (Q (.returned (.int .i64 30)) W) (Sx.split (ByteArray.toList sign == ByteArray.toList ⟨#[62, 62]⟩) (Q (.returned (.int .i64 35)) W)
 (Sx.split (ByteArray.toList sign == ByteArray.toList ⟨#[43]⟩) (Q (.returned (.int .i64 28)) W) (Sx.split (ByteArray.toList sign == ByteArray.toList ⟨#[45]⟩)
 (Q (.returned (.int .i64 29)) W) (Sx.split (ByteArray.toList sign == ByteArray.toList ⟨#[42]⟩) (Q (.returned (.int .i64 38)) W)
 (Sx.split (ByteArray.toList sign == ByteArray.toList ⟨#[47]⟩) (Q (.returned (.int .i64 42)) W) (Sx.split (ByteArray.toList sign == ByteArray.toList ⟨#[37]⟩)
 (Q (.returned (.int .i64 44)) W) (Q (.returned (.int .i64 0)) W)))))))))))) :
 Calls Tryz.prog 121 #[.string sign] W Q :=
 Sx.sound (pk := [70,21,40,71,73,105]) Tryz.func121 .leaf [Value.string sign] rfl (Eq.mp (by kernel_rfl) hVC)
theorem vc104 {W : World} {Q : Ending → World → Prop} (b : Bool)
 (hVC :
 Sx.split b (Q (.returned (.int .u32 1)) W) (Q (.returned (.int .u32 0)) W)) :
 Calls Tryz.prog 104 #[.bool b] W Q :=
 Sx.sound (pk := [70,21,40,71,73,105]) Tryz.func104 .leaf [Value.bool b] rfl (Eq.mp (by kernel_rfl) hVC)
theorem vc71 {W : World} {Q : Ending → World → Prop} (arg0 : Nat) (arg0o : Nat) (arg1 : Value)
 (hVC :
 Calls Tryz.prog 70 #[.pointer (some ⟨arg0, arg0o, none⟩)] W (fun e => fun W2 => (e = .returned (.tuple #[]) ∧ Sx.tagOf arg1 211 (fun v => ∃ z : Int, v = Value.int .u32 z ∧
 Q (.returned (.int .u32 z)) W2) (Sx.tagOf arg1 167 (fun v2 => ∃ p : Option Addr, v2 = Value.pointer p ∧
 Calls Tryz.prog 72 #[.pointer (some ⟨arg0, arg0o, none⟩), .pointer p] W2 (fun e2 => fun W3 => ∃ p2 : Option Addr, e2 = .returned (.pointer p2) ∧ Sx.ptr p2 (fun a =>
 ∃ z2 : Int, W3.cell? a = some (.int .u32 z2) ∧ Q (.returned (.int .u32 z2)) W3))) (Sx.tagOf arg1 177 (fun v3 => ∃ p3 : Option Addr, v3 = Value.pointer p3 ∧ Sx.ptr p3 (fun a2 =>
 ∃ v4 : Value, W2.cell? (Addr.add a2 5) = some v4 ∧ Calls Tryz.prog 71 #[.pointer (some ⟨arg0, arg0o, none⟩), v4] W2 (fun e3 => fun W4 => (∃ z3 : Int, e3 = .returned (.int .u32 z3) ∧
 Calls Tryz.prog 73 #[.pointer (some ⟨arg0, arg0o, none⟩), .pointer p3, .int .u32 z3] W4 (fun e4 => fun W5 => (∃ p4 : Option Addr, e4 = .returned (.pointer p4) ∧ Sx.ptr p4 (fun a3 =>
 ∃ z4 : Int, W5.cell? a3 = some (.int .u32 z4) ∧ Q (.returned (.int .u32 z4)) W5)) ∨ (∃ l : List PanicEntry, e4 = Ending.panicked l ∧ Q (Ending.panicked l) W5))) ∨
 (∃ l2 : List PanicEntry, e3 = Ending.panicked l2 ∧ Q (Ending.panicked l2) W4)))) (Sx.tagOf arg1 193 (fun v5 => ∃ p5 : Option Addr, v5 = Value.pointer p5 ∧ Sx.ptr p5 (fun a4 =>
 ∃ p6 : Option Addr, ∃ k : Nat, ∃ k2 : Nat, W2.cell? (Addr.add a4 4) = some (.slice p6 k k2) ∧
 ∃ I : Int → Option Addr → Nat → Nat → World → Prop, ∃ I2 : Int → Option Addr → Nat → Nat → World → Nat, I 0 none 0 0 W2 ∧ ((Nat → Value) →
 ∀ x : Int, ∀ x2 : Option Addr, ∀ k3 : Nat, ∀ k4 : Nat, ∀ W6 : World, I x x2 k3 k4 W6 → Sx.split (decide (x < (k : Int))) (((0 : Int) ≤ x ∧ x < (k : Int)) ∧ Sx.adr p6 (fun k5 =>
 fun k6 => ∃ v6 : Value, W6.cell? ⟨k5, k6 + Int.toNat x * 1, none⟩ = some v6 ∧ Calls Tryz.prog 71 #[.pointer (some ⟨arg0, arg0o, none⟩), v6] W6 (fun e5 => fun W7 =>
 (∃ z5 : Int, e5 = .returned (.int .u32 z5) ∧ ∀ k7 : Nat, ∀ W8 : World, k7 = W7.heap.size → W8 = W7.alloc (Obj.cells #[.int .u32 z5] 32) →
 ∃ l3 : List Value, ∃ l4 : List Value, XHeap.Sl W8 32 1 (Value.slice x2 k3 k4) k3 l3 ∧ (((1 : Nat) = (0 : Nat) ∧ some (Addr.mk k7 0 none) = none) ∨
 (∃ a5 : Addr, some (Addr.mk k7 0 none) = some a5 ∧ ∀ k8 : Nat, ∀ v7 : Value, l4[k8]? = some v7 → W8.cell? (Addr.add a5 k8) = some v7)) ∧ List.length l4 = 1 ∧
 (∀ v8 : Value, v8 ∈ l4 → Value.oneCell' v8 = true) ∧ k3 + 1 ≤ maxLen ∧ ((k3 + 1) * 4 ≤ 140737488355328 ∧
 ∀ p7 : Option Addr, ∀ k9 : Nat, ∀ W9 : World, XHeap.Sl W9 32 1 (Value.slice p7 (k3 + 1) k9) (k3 + 1) (l3 ++ l4) →
 XHeap.XTouch (fun b => Value.ownBlock (Value.slice x2 k3 k4) = some b) W8 W9 → (∀ k10 : Nat, Value.ownBlock (Value.slice p7 (k3 + 1) k9) = some k10 →
 (Value.ownBlock (Value.slice x2 k3 k4) = some k10) ∨ (W8.heap.size ≤ k10)) → XHeap.Sl W9 32 1 (Value.slice x2 k3 k4) k3 l3 → ((p7 = x2 ∧ k9 = k4) ∨ (((XHeap.NilP x2) ∨
 (k4 < k3 + 1)) ∧ ∀ k11 : Nat, Value.ownBlock (Value.slice p7 (k3 + 1) k9) = some k11 → W8.heap.size ≤ k11)) → ∀ z6 : Int, z6 = IntKind.wrap .i64 (x + 1) → I z6 p7 (k3 + 1) k9 W9 ∧
 I2 z6 p7 (k3 + 1) k9 W9 < I2 x x2 k3 k4 W6)) ∨ (∃ l5 : List PanicEntry, e5 = Ending.panicked l5 ∧ Q (Ending.panicked l5) W7)))) (Sx.ptr p5 (fun a6 =>
 ∃ p8 : Option Addr, W6.cell? (Addr.add a6 3) = some (.pointer p8) ∧ Calls Tryz.prog 21 #[.pointer (some ⟨arg0, arg0o, none⟩), .pointer p8, .slice x2 k3 k4] W6 (fun e6 => fun W10 =>
 (∃ z7 : Int, e6 = .returned (.int .u32 z7) ∧ Q (.returned (.int .u32 z7)) W10) ∨ (∃ l6 : List PanicEntry, e6 = Ending.panicked l6 ∧ Q (Ending.panicked l6) W10)))))))
 (Sx.tagOf arg1 215 (fun v9 => ∃ p9 : Option Addr, v9 = Value.pointer p9 ∧ Sx.ptr p9 (fun a7 => ∃ v10 : Value, W2.cell? (Addr.add a7 4) = some v10 ∧
 Calls Tryz.prog 71 #[.pointer (some ⟨arg0, arg0o, none⟩), v10] W2 (fun e7 => fun W11 => (∃ z8 : Int, e7 = .returned (.int .u32 z8) ∧ Sx.ptr p9 (fun a8 =>
 ∃ s : ByteArray, W11.cell? (Addr.add a8 3) = some (.string s) ∧ Sx.split (ByteArray.toList s == ByteArray.toList ⟨#[45]⟩)
 (Q (.returned (.int .u32 (IntKind.wrap .u32 (0 - z8)))) W11) (Sx.split (ByteArray.toList s == ByteArray.toList ⟨#[33]⟩) (Calls Tryz.prog 104 #[.bool (z8 == 0)] W11 (fun e8 =>
 fun W12 => ∃ z9 : Int, e8 = .returned (.int .u32 z9) ∧ Q (.returned (.int .u32 z9)) W12))
 (Q (.returned (.int .u32 (IntKind.wrap .u32 (↑(BitVec.toNat (BitVec.ofInt (IntKind.bits .u32) (if IntKind.signed IntKind.u32 = true then -1 else IntKind.max IntKind.u32) ^^^ BitVec.ofInt (IntKind.bits .u32) z8)) : Int)))) W11)))) ∨
 (∃ l7 : List PanicEntry, e7 = Ending.panicked l7 ∧ Q (Ending.panicked l7) W11)))) (Sx.tagOf arg1 218 (fun v11 => ∃ p10 : Option Addr, v11 = Value.pointer p10 ∧
 Calls Tryz.prog 105 #[.pointer (some ⟨arg0, arg0o, none⟩), .pointer p10] W2 (fun e9 => fun W13 => (∃ z10 : Int, e9 = .returned (.int .u32 z10) ∧ Q (.returned (.int .u32 z10)) W13) ∨
 (∃ l8 : List PanicEntry, e9 = Ending.panicked l8 ∧ Q (Ending.panicked l8) W13))) (Q (.returned (.int .u32 0)) W2))))))) ∨ (∃ l9 : List PanicEntry, e = Ending.panicked l9 ∧
 Q (Ending.panicked l9) W2))) :
 Calls Tryz.prog 71 #[.pointer (some ⟨arg0, arg0o, none⟩), arg1] W Q :=
 Sx.sound (pk := [70,21,40,71,73,105]) Tryz.func71 (.node [] [] 0 .leaf (.node [] [] 0 .leaf (.node [] [] 0 (.node [] [] 0 .leaf (.node [] [] 0 (.node [] [] 0 .leaf (.node [] [] 0 .leaf (.node [] [] 0 .leaf (.node [] [] 0 .leaf (.node [] [] 0 .leaf (.node [] [] 0 .leaf (.node [] [] 0 .leaf (.node [] [] 0 (.node [] [] 0 .leaf (.node [] [] 0 .leaf (.node [] [] 0 (.node [] [] 0 .leaf (.node [] [] 0 (.node [(52, .int .i64), (9, .slice)] [51, 50, 0, 8] 0 .leaf .leaf) .leaf)) .leaf))) .leaf)))))))) .leaf)) .leaf))) [Value.pointer (some ⟨arg0, arg0o, none⟩), arg1] rfl (Eq.mp (by kernel_rfl) hVC)
theorem vc105 {W : World} {Q : Ending → World → Prop} (arg0 : Nat) (arg0o : Nat) (arg1 : Nat) (arg1o : Nat)
 (hVC :
 ∃ v : Value, W.cell? ⟨arg1, arg1o + 4, none⟩ = some v ∧ Calls Tryz.prog 71 #[.pointer (some ⟨arg0, arg0o, none⟩), v] W (fun e => fun W2 =>
 (∃ z : Int, e = .returned (.int .u32 z) ∧ ∃ s : ByteArray, W2.cell? ⟨arg1, arg1o + 3, none⟩ = some (.string s) ∧ Sx.split (ByteArray.toList s == ByteArray.toList ⟨#[38, 38]⟩)
 (Sx.split (z == 0) (Q (.returned (.int .u32 0)) W2) (∃ s2 : ByteArray, W2.cell? ⟨arg1, arg1o + 3, none⟩ = some (.string s2) ∧
 Sx.split (ByteArray.toList s2 == ByteArray.toList ⟨#[124, 124]⟩) (Sx.split (z != 0) (Q (.returned (.int .u32 1)) W2) (∃ v2 : Value, W2.cell? ⟨arg1, arg1o + 5, none⟩ = some v2 ∧
 Calls Tryz.prog 71 #[.pointer (some ⟨arg0, arg0o, none⟩), v2] W2 (fun e2 => fun W3 => (∃ z2 : Int, e2 = .returned (.int .u32 z2) ∧
 ∃ s3 : ByteArray, W3.cell? ⟨arg1, arg1o + 3, none⟩ = some (.string s3) ∧ Sx.split (ByteArray.toList s3 == ByteArray.toList ⟨#[38, 38]⟩)
 (Calls Tryz.prog 104 #[.bool (z2 != 0)] W3 (fun e3 => fun W4 => ∃ z3 : Int, e3 = .returned (.int .u32 z3) ∧ Q (.returned (.int .u32 z3)) W4))
 (Sx.split (ByteArray.toList s3 == ByteArray.toList ⟨#[124, 124]⟩) (Calls Tryz.prog 104 #[.bool (z2 != 0)] W3 (fun e4 => fun W5 => ∃ z4 : Int, e4 = .returned (.int .u32 z4) ∧
 Q (.returned (.int .u32 z4)) W5)) (Sx.split (ByteArray.toList s3 == ByteArray.toList ⟨#[61, 61]⟩) (Calls Tryz.prog 104 #[.bool (z == z2)] W3 (fun e5 => fun W6 =>
 ∃ z5 : Int, e5 = .returned (.int .u32 z5) ∧ Q (.returned (.int .u32 z5)) W6)) (Sx.split (ByteArray.toList s3 == ByteArray.toList ⟨#[33, 61]⟩)
 (Calls Tryz.prog 104 #[.bool (z != z2)] W3 (fun e6 => fun W7 => ∃ z6 : Int, e6 = .returned (.int .u32 z6) ∧ Q (.returned (.int .u32 z6)) W7))
 (Sx.split (ByteArray.toList s3 == ByteArray.toList ⟨#[62]⟩) (Calls Tryz.prog 120 #[.int .i64 31, .int .u32 z2, .int .u32 z] W3 (fun e7 => fun W8 =>
 ∃ z7 : Int, e7 = .returned (.int .u32 z7) ∧ Q (.returned (.int .u32 z7)) W8)) (Sx.split (ByteArray.toList s3 == ByteArray.toList ⟨#[60, 61]⟩)
 (Calls Tryz.prog 120 #[.int .i64 31, .int .u32 z2, .int .u32 z] W3 (fun e8 => fun W9 => ∃ z8 : Int, e8 = .returned (.int .u32 z8) ∧ ∀ z9 : Int, z9 = IntKind.wrap .u32 (1 - z8) →
 Q (.returned (.int .u32 z9)) W9)) (Sx.split (ByteArray.toList s3 == ByteArray.toList ⟨#[62, 61]⟩) (Calls Tryz.prog 120 #[.int .i64 31, .int .u32 z, .int .u32 z2] W3 (fun e9 =>
 fun W10 => ∃ z10 : Int, e9 = .returned (.int .u32 z10) ∧ ∀ z11 : Int, z11 = IntKind.wrap .u32 (1 - z10) → Q (.returned (.int .u32 z11)) W10))
 (∃ s4 : ByteArray, W3.cell? ⟨arg1, arg1o + 3, none⟩ = some (.string s4) ∧ Calls Tryz.prog 121 #[.string s4] W3 (fun e10 => fun W11 => ∃ z12 : Int, e10 = .returned (.int .i64 z12) ∧
 Calls Tryz.prog 120 #[.int .i64 z12, .int .u32 z, .int .u32 z2] W11 (fun e11 => fun W12 => ∃ z13 : Int, e11 = .returned (.int .u32 z13) ∧
 Q (.returned (.int .u32 z13)) W12)))))))))) ∨ (∃ l : List PanicEntry, e2 = Ending.panicked l ∧ Q (Ending.panicked l) W3))))
 (∃ v3 : Value, W2.cell? ⟨arg1, arg1o + 5, none⟩ = some v3 ∧ Calls Tryz.prog 71 #[.pointer (some ⟨arg0, arg0o, none⟩), v3] W2 (fun e12 => fun W13 =>
 (∃ z14 : Int, e12 = .returned (.int .u32 z14) ∧ ∃ s5 : ByteArray, W13.cell? ⟨arg1, arg1o + 3, none⟩ = some (.string s5) ∧
 Sx.split (ByteArray.toList s5 == ByteArray.toList ⟨#[38, 38]⟩) (Calls Tryz.prog 104 #[.bool (z14 != 0)] W13 (fun e13 => fun W14 => ∃ z15 : Int, e13 = .returned (.int .u32 z15) ∧
 Q (.returned (.int .u32 z15)) W14)) (Sx.split (ByteArray.toList s5 == ByteArray.toList ⟨#[124, 124]⟩) (Calls Tryz.prog 104 #[.bool (z14 != 0)] W13 (fun e14 => fun W15 =>
 ∃ z16 : Int, e14 = .returned (.int .u32 z16) ∧ Q (.returned (.int .u32 z16)) W15)) (Sx.split (ByteArray.toList s5 == ByteArray.toList ⟨#[61, 61]⟩)
 (Calls Tryz.prog 104 #[.bool (z == z14)] W13 (fun e15 => fun W16 => ∃ z17 : Int, e15 = .returned (.int .u32 z17) ∧ Q (.returned (.int .u32 z17)) W16))
 (Sx.split (ByteArray.toList s5 == ByteArray.toList ⟨#[33, 61]⟩) (Calls Tryz.prog 104 #[.bool (z != z14)] W13 (fun e16 => fun W17 => ∃ z18 : Int, e16 = .returned (.int .u32 z18) ∧
 Q (.returned (.int .u32 z18)) W17)) (Sx.split (ByteArray.toList s5 == ByteArray.toList ⟨#[62]⟩) (Calls Tryz.prog 120 #[.int .i64 31, .int .u32 z14, .int .u32 z] W13 (fun e17 =>
 fun W18 => ∃ z19 : Int, e17 = .returned (.int .u32 z19) ∧ Q (.returned (.int .u32 z19)) W18)) (Sx.split (ByteArray.toList s5 == ByteArray.toList ⟨#[60, 61]⟩)
 (Calls Tryz.prog 120 #[.int .i64 31, .int .u32 z14, .int .u32 z] W13 (fun e18 => fun W19 => ∃ z20 : Int, e18 = .returned (.int .u32 z20) ∧
 ∀ z21 : Int, z21 = IntKind.wrap .u32 (1 - z20) → Q (.returned (.int .u32 z21)) W19)) (Sx.split (ByteArray.toList s5 == ByteArray.toList ⟨#[62, 61]⟩)
 (Calls Tryz.prog 120 #[.int .i64 31, .int .u32 z, .int .u32 z14] W13 (fun e19 => fun W20 => ∃ z22 : Int, e19 = .returned (.int .u32 z22) ∧
 ∀ z23 : Int, z23 = IntKind.wrap .u32 (1 - z22) → Q (.returned (.int .u32 z23)) W20)) (∃ s6 : ByteArray, W13.cell? ⟨arg1, arg1o + 3, none⟩ = some (.string s6) ∧
 Calls Tryz.prog 121 #[.string s6] W13 (fun e20 => fun W21 => ∃ z24 : Int, e20 = .returned (.int .i64 z24) ∧
 Calls Tryz.prog 120 #[.int .i64 z24, .int .u32 z, .int .u32 z14] W21 (fun e21 => fun W22 => ∃ z25 : Int, e21 = .returned (.int .u32 z25) ∧
 Q (.returned (.int .u32 z25)) W22)))))))))) ∨ (∃ l2 : List PanicEntry, e12 = Ending.panicked l2 ∧ Q (Ending.panicked l2) W13)))))
 (∃ s7 : ByteArray, W2.cell? ⟨arg1, arg1o + 3, none⟩ = some (.string s7) ∧ Sx.split (ByteArray.toList s7 == ByteArray.toList ⟨#[124, 124]⟩) (Sx.split (z != 0)
 (Q (.returned (.int .u32 1)) W2) (∃ v4 : Value, W2.cell? ⟨arg1, arg1o + 5, none⟩ = some v4 ∧ Calls Tryz.prog 71 #[.pointer (some ⟨arg0, arg0o, none⟩), v4] W2 (fun e22 => fun W23 =>
 (∃ z26 : Int, e22 = .returned (.int .u32 z26) ∧ ∃ s8 : ByteArray, W23.cell? ⟨arg1, arg1o + 3, none⟩ = some (.string s8) ∧
 Sx.split (ByteArray.toList s8 == ByteArray.toList ⟨#[38, 38]⟩) (Calls Tryz.prog 104 #[.bool (z26 != 0)] W23 (fun e23 => fun W24 => ∃ z27 : Int, e23 = .returned (.int .u32 z27) ∧
 Q (.returned (.int .u32 z27)) W24)) (Sx.split (ByteArray.toList s8 == ByteArray.toList ⟨#[124, 124]⟩) (Calls Tryz.prog 104 #[.bool (z26 != 0)] W23 (fun e24 => fun W25 =>
 ∃ z28 : Int, e24 = .returned (.int .u32 z28) ∧ Q (.returned (.int .u32 z28)) W25)) (Sx.split (ByteArray.toList s8 == ByteArray.toList ⟨#[61, 61]⟩)
 (Calls Tryz.prog 104 #[.bool (z == z26)] W23 (fun e25 => fun W26 => ∃ z29 : Int, e25 = .returned (.int .u32 z29) ∧ Q (.returned (.int .u32 z29)) W26))
 (Sx.split (ByteArray.toList s8 == ByteArray.toList ⟨#[33, 61]⟩) (Calls Tryz.prog 104 #[.bool (z != z26)] W23 (fun e26 => fun W27 => ∃ z30 : Int, e26 = .returned (.int .u32 z30) ∧
 Q (.returned (.int .u32 z30)) W27)) (Sx.split (ByteArray.toList s8 == ByteArray.toList ⟨#[62]⟩) (Calls Tryz.prog 120 #[.int .i64 31, .int .u32 z26, .int .u32 z] W23 (fun e27 =>
 fun W28 => ∃ z31 : Int, e27 = .returned (.int .u32 z31) ∧ Q (.returned (.int .u32 z31)) W28)) (Sx.split (ByteArray.toList s8 == ByteArray.toList ⟨#[60, 61]⟩)
 (Calls Tryz.prog 120 #[.int .i64 31, .int .u32 z26, .int .u32 z] W23 (fun e28 => fun W29 => ∃ z32 : Int, e28 = .returned (.int .u32 z32) ∧
 ∀ z33 : Int, z33 = IntKind.wrap .u32 (1 - z32) → Q (.returned (.int .u32 z33)) W29)) (Sx.split (ByteArray.toList s8 == ByteArray.toList ⟨#[62, 61]⟩)
 (Calls Tryz.prog 120 #[.int .i64 31, .int .u32 z, .int .u32 z26] W23 (fun e29 => fun W30 => ∃ z34 : Int, e29 = .returned (.int .u32 z34) ∧
 ∀ z35 : Int, z35 = IntKind.wrap .u32 (1 - z34) → Q (.returned (.int .u32 z35)) W30)) (∃ s9 : ByteArray, W23.cell? ⟨arg1, arg1o + 3, none⟩ = some (.string s9) ∧
 Calls Tryz.prog 121 #[.string s9] W23 (fun e30 => fun W31 => ∃ z36 : Int, e30 = .returned (.int .i64 z36) ∧
 Calls Tryz.prog 120 #[.int .i64 z36, .int .u32 z, .int .u32 z26] W31 (fun e31 => fun W32 => ∃ z37 : Int, e31 = .returned (.int .u32 z37) ∧
 Q (.returned (.int .u32 z37)) W32)))))))))) ∨ (∃ l3 : List PanicEntry, e22 = Ending.panicked l3 ∧ Q (Ending.panicked l3) W23))))
 (∃ v5 : Value, W2.cell? ⟨arg1, arg1o + 5, none⟩ = some v5 ∧ Calls Tryz.prog 71 #[.pointer (some ⟨arg0, arg0o, none⟩), v5] W2 (fun e32 => fun W33 =>
 (∃ z38 : Int, e32 = .returned (.int .u32 z38) ∧ ∃ s10 : ByteArray, W33.cell? ⟨arg1, arg1o + 3, none⟩ = some (.string s10) ∧
 Sx.split (ByteArray.toList s10 == ByteArray.toList ⟨#[38, 38]⟩) (Calls Tryz.prog 104 #[.bool (z38 != 0)] W33 (fun e33 => fun W34 => ∃ z39 : Int, e33 = .returned (.int .u32 z39) ∧
 Q (.returned (.int .u32 z39)) W34)) (Sx.split (ByteArray.toList s10 == ByteArray.toList ⟨#[124, 124]⟩) (Calls Tryz.prog 104 #[.bool (z38 != 0)] W33 (fun e34 => fun W35 =>
 ∃ z40 : Int, e34 = .returned (.int .u32 z40) ∧ Q (.returned (.int .u32 z40)) W35)) (Sx.split (ByteArray.toList s10 == ByteArray.toList ⟨#[61, 61]⟩)
 (Calls Tryz.prog 104 #[.bool (z == z38)] W33 (fun e35 => fun W36 => ∃ z41 : Int, e35 = .returned (.int .u32 z41) ∧ Q (.returned (.int .u32 z41)) W36))
 (Sx.split (ByteArray.toList s10 == ByteArray.toList ⟨#[33, 61]⟩) (Calls Tryz.prog 104 #[.bool (z != z38)] W33 (fun e36 => fun W37 => ∃ z42 : Int, e36 = .returned (.int .u32 z42) ∧
 Q (.returned (.int .u32 z42)) W37)) (Sx.split (ByteArray.toList s10 == ByteArray.toList ⟨#[62]⟩) (Calls Tryz.prog 120 #[.int .i64 31, .int .u32 z38, .int .u32 z] W33 (fun e37 =>
 fun W38 => ∃ z43 : Int, e37 = .returned (.int .u32 z43) ∧ Q (.returned (.int .u32 z43)) W38)) (Sx.split (ByteArray.toList s10 == ByteArray.toList ⟨#[60, 61]⟩)
 (Calls Tryz.prog 120 #[.int .i64 31, .int .u32 z38, .int .u32 z] W33 (fun e38 => fun W39 => ∃ z44 : Int, e38 = .returned (.int .u32 z44) ∧
 ∀ z45 : Int, z45 = IntKind.wrap .u32 (1 - z44) → Q (.returned (.int .u32 z45)) W39)) (Sx.split (ByteArray.toList s10 == ByteArray.toList ⟨#[62, 61]⟩)
 (Calls Tryz.prog 120 #[.int .i64 31, .int .u32 z, .int .u32 z38] W33 (fun e39 => fun W40 => ∃ z46 : Int, e39 = .returned (.int .u32 z46) ∧
 ∀ z47 : Int, z47 = IntKind.wrap .u32 (1 - z46) → Q (.returned (.int .u32 z47)) W40)) (∃ s11 : ByteArray, W33.cell? ⟨arg1, arg1o + 3, none⟩ = some (.string s11) ∧
 Calls Tryz.prog 121 #[.string s11] W33 (fun e40 => fun W41 => ∃ z48 : Int, e40 = .returned (.int .i64 z48) ∧
 Calls Tryz.prog 120 #[.int .i64 z48, .int .u32 z, .int .u32 z38] W41 (fun e41 => fun W42 => ∃ z49 : Int, e41 = .returned (.int .u32 z49) ∧
 Q (.returned (.int .u32 z49)) W42)))))))))) ∨ (∃ l4 : List PanicEntry, e32 = Ending.panicked l4 ∧ Q (Ending.panicked l4) W33))))) ∨ (∃ l5 : List PanicEntry, e = Ending.panicked l5 ∧
 Q (Ending.panicked l5) W2))) :
 Calls Tryz.prog 105 #[.pointer (some ⟨arg0, arg0o, none⟩), .pointer (some ⟨arg1, arg1o, none⟩)] W Q :=
 Sx.sound (pk := [70,21,40,71,73,105]) Tryz.func105 .leaf [Value.pointer (some ⟨arg0, arg0o, none⟩), .pointer (some ⟨arg1, arg1o, none⟩)] rfl (Eq.mp (by kernel_rfl) hVC)
theorem vc40 {W : World} {Q : Ending → World → Prop} (arg0 : Nat) (arg0o : Nat) (arg1 : Value)
 (hVC :
 Calls Tryz.prog 70 #[.pointer (some ⟨arg0, arg0o, none⟩)] W (fun e => fun W2 => (e = .returned (.tuple #[]) ∧ Sx.tagOf arg1 113 (fun v => ∃ p : Option Addr, v = Value.pointer p ∧
 Sx.ptr p (fun a => ∃ p2 : Option Addr, ∃ k : Nat, ∃ k2 : Nat, W2.cell? (Addr.add a 0) = some (.slice p2 k k2) ∧ ∃ I : Int → World → Prop, ∃ I2 : Int → World → Nat, I 0 W2 ∧
 ((Nat → Value) → ∀ x : Int, ∀ W3 : World, I x W3 → Sx.split (decide (x < (k : Int))) (((0 : Int) ≤ x ∧ x < (k : Int)) ∧ Sx.adr p2 (fun k3 => fun k4 =>
 ∃ v2 : Value, W3.cell? ⟨k3, k4 + Int.toNat x * 1, none⟩ = some v2 ∧ Calls Tryz.prog 40 #[.pointer (some ⟨arg0, arg0o, none⟩), v2] W3 (fun e2 => fun W4 =>
 (∃ z : Int, ∃ t : Bool, e2 = .returned (.tuple #[.int .u32 z, .bool t]) ∧ Sx.split t (Q (.returned (.tuple #[.int .u32 z, .bool true])) W4)
 (∀ z2 : Int, z2 = IntKind.wrap .i64 (x + 1) → I z2 W4 ∧ I2 z2 W4 < I2 x W3)) ∨ (∃ l : List PanicEntry, e2 = Ending.panicked l ∧ Q (Ending.panicked l) W4))))
 (Q (.returned (.tuple #[.int .u32 0, .bool false])) W3)))) (Sx.tagOf arg1 165 (fun v3 => ∃ p3 : Option Addr, v3 = Value.pointer p3 ∧ ∀ W5 : World, W5 = World.drew W2 →
 Sx.ptr p3 (fun a2 => Sx.ptr p3 (fun a3 => ∃ p4 : Option Addr, W5.cell? (Addr.add a2 3) = some (.pointer p4) ∧ ∃ v4 : Value, W5.cell? (Addr.add a3 4) = some v4 ∧
 Calls Tryz.prog 72 #[.pointer (some ⟨arg0, arg0o, none⟩), .pointer p4] W5 (fun e3 => fun W6 => ∃ p5 : Option Addr, e3 = .returned (.pointer p5) ∧
 (∃ v5 : Value, W6.cell? (Addr.add a3 4) = some v5 ∧ v5 = v4) ∧ Calls Tryz.prog 71 #[.pointer (some ⟨arg0, arg0o, none⟩), v4] W6 (fun e4 => fun W7 =>
 (∃ z3 : Int, e4 = .returned (.int .u32 z3) ∧ Sx.ptr p5 (fun a4 => (∃ v6 : Value, W7.cell? a4 = some v6) ∧ (W7.frozen? a4 = false ∧
 ∀ W8 : World, W8 = W7.setCell a4 (Value.int .u32 z3) → Q (.returned (.tuple #[.int .u32 0, .bool false])) W8))) ∨ (∃ l2 : List PanicEntry, e4 = Ending.panicked l2 ∧
 Q (Ending.panicked l2) W7)))))) (Sx.tagOf arg1 174 (fun v7 => ∃ p6 : Option Addr, v7 = Value.pointer p6 ∧ Sx.ptr p6 (fun a5 =>
 ∃ p7 : Option Addr, W2.cell? (Addr.add a5 0) = some (.pointer p7) ∧ Sx.ptr p7 (fun a6 => ∃ v8 : Value, W2.cell? (Addr.add a6 5) = some v8 ∧
 Calls Tryz.prog 71 #[.pointer (some ⟨arg0, arg0o, none⟩), v8] W2 (fun e5 => fun W9 => (∃ z4 : Int, e5 = .returned (.int .u32 z4) ∧ Sx.ptr p6 (fun a7 =>
 ∃ v9 : Value, W9.cell? (Addr.add a7 1) = some v9 ∧ Calls Tryz.prog 71 #[.pointer (some ⟨arg0, arg0o, none⟩), v9] W9 (fun e6 => fun W10 =>
 (∃ z5 : Int, e6 = .returned (.int .u32 z5) ∧ Sx.ptr p6 (fun a8 => ∃ p8 : Option Addr, W10.cell? (Addr.add a8 0) = some (.pointer p8) ∧
 Calls Tryz.prog 73 #[.pointer (some ⟨arg0, arg0o, none⟩), .pointer p8, .int .u32 z4] W10 (fun e7 => fun W11 => (∃ p9 : Option Addr, e7 = .returned (.pointer p9) ∧
 Sx.ptr p9 (fun a9 => (∃ v10 : Value, W11.cell? a9 = some v10) ∧ (W11.frozen? a9 = false ∧ ∀ W12 : World, W12 = W11.setCell a9 (Value.int .u32 z5) →
 Q (.returned (.tuple #[.int .u32 0, .bool false])) W12))) ∨ (∃ l3 : List PanicEntry, e7 = Ending.panicked l3 ∧ Q (Ending.panicked l3) W11)))) ∨
 (∃ l4 : List PanicEntry, e6 = Ending.panicked l4 ∧ Q (Ending.panicked l4) W10)))) ∨ (∃ l5 : List PanicEntry, e5 = Ending.panicked l5 ∧ Q (Ending.panicked l5) W9)))))
 (Sx.tagOf arg1 181 (fun v11 => ∃ p10 : Option Addr, v11 = Value.pointer p10 ∧ Sx.ptr p10 (fun a10 => ∃ v12 : Value, W2.cell? (Addr.add a10 0) = some v12 ∧
 Calls Tryz.prog 71 #[.pointer (some ⟨arg0, arg0o, none⟩), v12] W2 (fun e8 => fun W13 => (∃ z6 : Int, e8 = .returned (.int .u32 z6) ∧ Sx.split (z6 != 0) (Sx.ptr p10 (fun a11 =>
 ∃ p11 : Option Addr, W13.cell? (Addr.add a11 1) = some (.pointer p11) ∧ Calls Tryz.prog 40 #[.pointer (some ⟨arg0, arg0o, none⟩), .iface 113 (Value.pointer p11)] W13 (fun e9 =>
 fun W14 => (∃ z7 : Int, ∃ t2 : Bool, e9 = .returned (.tuple #[.int .u32 z7, .bool t2]) ∧ Q (.returned (.tuple #[.int .u32 z7, .bool t2])) W14) ∨
 (∃ l6 : List PanicEntry, e9 = Ending.panicked l6 ∧ Q (Ending.panicked l6) W14)))) (Sx.ptr p10 (fun a12 => ∃ p12 : Option Addr, W13.cell? (Addr.add a12 2) = some (.pointer p12) ∧
 Sx.split (Option.isSome p12) (Sx.ptr p10 (fun a13 => ∃ p13 : Option Addr, W13.cell? (Addr.add a13 2) = some (.pointer p13) ∧
 Calls Tryz.prog 40 #[.pointer (some ⟨arg0, arg0o, none⟩), .iface 113 (Value.pointer p13)] W13 (fun e10 => fun W15 =>
 (∃ z8 : Int, ∃ t3 : Bool, e10 = .returned (.tuple #[.int .u32 z8, .bool t3]) ∧ Q (.returned (.tuple #[.int .u32 z8, .bool t3])) W15) ∨
 (∃ l7 : List PanicEntry, e10 = Ending.panicked l7 ∧ Q (Ending.panicked l7) W15)))) (Q (.returned (.tuple #[.int .u32 0, .bool false])) W13)))) ∨
 (∃ l8 : List PanicEntry, e8 = Ending.panicked l8 ∧ Q (Ending.panicked l8) W13)))) (Sx.tagOf arg1 184 (fun v13 => ∃ p14 : Option Addr, v13 = Value.pointer p14 ∧
 ∃ I3 : World → Prop, ∃ I4 : World → Nat, I3 W2 ∧ ((Nat → Value) → ∀ W16 : World, I3 W16 → Sx.ptr p14 (fun a14 => ∃ v14 : Value, W16.cell? (Addr.add a14 0) = some v14 ∧
 Calls Tryz.prog 71 #[.pointer (some ⟨arg0, arg0o, none⟩), v14] W16 (fun e11 => fun W17 => (∃ z9 : Int, e11 = .returned (.int .u32 z9) ∧ Sx.split (z9 != 0) (Sx.ptr p14 (fun a15 =>
 ∃ p15 : Option Addr, W17.cell? (Addr.add a15 1) = some (.pointer p15) ∧ Calls Tryz.prog 40 #[.pointer (some ⟨arg0, arg0o, none⟩), .iface 113 (Value.pointer p15)] W17 (fun e12 =>
 fun W18 => (∃ z10 : Int, ∃ t4 : Bool, e12 = .returned (.tuple #[.int .u32 z10, .bool t4]) ∧ Sx.split t4 (Q (.returned (.tuple #[.int .u32 z10, .bool true])) W18) (I3 W18 ∧
 I4 W18 < I4 W16)) ∨ (∃ l9 : List PanicEntry, e12 = Ending.panicked l9 ∧ Q (Ending.panicked l9) W18)))) (Q (.returned (.tuple #[.int .u32 0, .bool false])) W17)) ∨
 (∃ l10 : List PanicEntry, e11 = Ending.panicked l10 ∧ Q (Ending.panicked l10) W17))))) (Sx.tagOf arg1 187 (fun v15 => ∃ p16 : Option Addr, v15 = Value.pointer p16 ∧
 Sx.ptr p16 (fun a16 => ∃ v16 : Value, W2.cell? (Addr.add a16 0) = some v16 ∧ Calls Tryz.prog 71 #[.pointer (some ⟨arg0, arg0o, none⟩), v16] W2 (fun e13 => fun W19 =>
 (∃ z11 : Int, e13 = .returned (.int .u32 z11) ∧ Q (.returned (.tuple #[.int .u32 z11, .bool true])) W19) ∨ (∃ l11 : List PanicEntry, e13 = Ending.panicked l11 ∧
 Q (Ending.panicked l11) W19)))) (Sx.tagOf arg1 190 (fun v17 => ∃ p17 : Option Addr, v17 = Value.pointer p17 ∧ Sx.ptr p17 (fun a17 =>
 ∃ v18 : Value, W2.cell? (Addr.add a17 0) = some v18 ∧ Calls Tryz.prog 71 #[.pointer (some ⟨arg0, arg0o, none⟩), v18] W2 (fun e14 => fun W20 =>
 (∃ z12 : Int, e14 = .returned (.int .u32 z12) ∧ ∀ z13 : Int, z13 = IntKind.wrap .u8 z12 →
 ∃ p18 : Option Addr, ∃ k5 : Nat, ∃ k6 : Nat, W20.cell? ⟨arg0, arg0o + 1, none⟩ = some (.slice p18 k5 k6) ∧ ∀ k7 : Nat, ∀ W21 : World, k7 = W20.heap.size →
 W21 = W20.alloc (Obj.cells #[.int .u8 z13] 5) → ∃ l12 : List Value, ∃ l13 : List Value, XHeap.Sl W21 5 1 (Value.slice p18 k5 k6) k5 l12 ∧ (((1 : Nat) = (0 : Nat) ∧
 some (Addr.mk k7 0 none) = none) ∨ (∃ a18 : Addr, some (Addr.mk k7 0 none) = some a18 ∧ ∀ k8 : Nat, ∀ v19 : Value, l13[k8]? = some v19 → W21.cell? (Addr.add a18 k8) = some v19)) ∧
 List.length l13 = 1 ∧ (∀ v20 : Value, v20 ∈ l13 → Value.oneCell' v20 = true) ∧ k5 + 1 ≤ maxLen ∧ ((k5 + 1) * 1 ≤ 140737488355328 ∧
 ∀ p19 : Option Addr, ∀ k9 : Nat, ∀ W22 : World, XHeap.Sl W22 5 1 (Value.slice p19 (k5 + 1) k9) (k5 + 1) (l12 ++ l13) →
 XHeap.XTouch (fun b => Value.ownBlock (Value.slice p18 k5 k6) = some b) W21 W22 → (∀ k10 : Nat, Value.ownBlock (Value.slice p19 (k5 + 1) k9) = some k10 →
 (Value.ownBlock (Value.slice p18 k5 k6) = some k10) ∨ (W21.heap.size ≤ k10)) → XHeap.Sl W22 5 1 (Value.slice p18 k5 k6) k5 l12 → ((p19 = p18 ∧ k9 = k6) ∨ (((XHeap.NilP p18) ∨
 (k6 < k5 + 1)) ∧ ∀ k11 : Nat, Value.ownBlock (Value.slice p19 (k5 + 1) k9) = some k11 → W21.heap.size ≤ k11)) → (∃ v21 : Value, W22.cell? ⟨arg0, arg0o + 1, none⟩ = some v21) ∧
 (W22.frozen? ⟨arg0, arg0o + 1, none⟩ = false ∧ ∀ W23 : World, W23 = W22.setCell ⟨arg0, arg0o + 1, none⟩ (Value.slice p19 (k5 + 1) k9) →
 Q (.returned (.tuple #[.int .u32 0, .bool false])) W23))) ∨ (∃ l14 : List PanicEntry, e14 = Ending.panicked l14 ∧ Q (Ending.panicked l14) W20)))) (Sx.tagOf arg1 192 (fun v22 =>
 ∃ p20 : Option Addr, v22 = Value.pointer p20 ∧ Sx.ptr p20 (fun a19 => ∃ p21 : Option Addr, W2.cell? (Addr.add a19 0) = some (.pointer p21) ∧
 Calls Tryz.prog 71 #[.pointer (some ⟨arg0, arg0o, none⟩), .iface 193 (Value.pointer p21)] W2 (fun e15 => fun W24 => (∃ z14 : Int, e15 = .returned (.int .u32 z14) ∧
 Q (.returned (.tuple #[.int .u32 0, .bool false])) W24) ∨ (∃ l15 : List PanicEntry, e15 = Ending.panicked l15 ∧ Q (Ending.panicked l15) W24))))
 (Q (.returned (.tuple #[.int .u32 0, .bool false])) W2))))))))) ∨ (∃ l16 : List PanicEntry, e = Ending.panicked l16 ∧ Q (Ending.panicked l16) W2))) :
 Calls Tryz.prog 40 #[.pointer (some ⟨arg0, arg0o, none⟩), arg1] W Q :=
 Sx.sound (pk := [70,21,40,71,73,105]) Tryz.func40 (.node [] [] 0 .leaf (.node [] [] 0 .leaf (.node [] [] 0 (.node [] [] 0 .leaf (.node [] [] 0 (.node [] [] 0 .leaf (.node [] [] 0 (.node [] [] 0 .leaf (.node [] [] 0 .leaf (.node [] [] 0 (.node [(30, .int .i64)] [29, 28, 0] 0 .leaf .leaf) .leaf))) (.node [] [] 0 .leaf (.node [] [] 0 (.node [] [] 0 .leaf (.node [] [] 1001006 .leaf .leaf)) (.node [] [] 0 .leaf (.node [] [] 0 .leaf (.node [] [] 0 .leaf (.node [] [] 0 .leaf (.node [] [] 0 .leaf (.node [] [] 0 (.node [] [] 0 .leaf (.node [] [] 0 (.node [] [0, 14] 0 .leaf .leaf) .leaf)) .leaf)))))))))) .leaf)) .leaf))) [Value.pointer (some ⟨arg0, arg0o, none⟩), arg1] rfl (Eq.mp (by kernel_rfl) hVC)
theorem vc39 {W : World} {Q : Ending → World → Prop} (f : Nat) (fo : Nat)
 (hVC :
 ∃ z : Int, W.cell? ⟨f, fo + 6, none⟩ = some (.int .i64 z) ∧ ∀ z2 : Int, z2 = IntKind.wrap .i64 (10 + z) → Q (.returned (.int .i64 z2)) W) :
 Calls Tryz.prog 39 #[.pointer (some ⟨f, fo, none⟩)] W Q :=
 Sx.sound (pk := [70,21,40,71,73,105]) Tryz.func39 .leaf [Value.pointer (some ⟨f, fo, none⟩)] rfl (Eq.mp (by kernel_rfl) hVC)
end Go.Proofs.YtojogkljneonmaaGreatDoor
