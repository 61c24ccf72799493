/- What each function asks, reckoned out of its text; printed by a program of mine (wip/tpl/VcTool.lean). No condition. -/
import Derived.Test.YtojogkljneonmaaGreatDoorSxB
import Derived.Test.YtojogkljneonmaaGreatDoorChecked
namespace Go.Proofs.YtojogkljneonmaaGreatDoor
open Go Go.Proofs
set_option linter.unusedVariables false
set_option maxRecDepth 100000
theorem vc26 {W : World} {Q : Ending → World → Prop} (arg0 : Nat) (arg0o : Nat)
 (hVC :
 ∀ k : Nat, ∀ W2 : World, k = W.heap.size → W2 = W.alloc (Obj.cells #[.pointer (some ⟨arg0, arg0o, none⟩)] 80) → ∃ p : Option Addr, W2.cell? ⟨k, 0, none⟩ = some (.pointer p) ∧
 Calls Tryz.prog 25 #[.pointer p] W2 (fun e => fun W3 => ∃ vs : Array Value, e = .returned (.agg vs) ∧ ∀ k2 : Nat, ∀ W4 : World, k2 = W3.heap.size →
 W4 = W3.alloc (Obj.cells #[.int .u8 0, .string ⟨#[]⟩, .int .i64 0] 87) → vs.size = 3 ∧ (∀ k3 : Nat, k3 < 3 → (∃ v : Value, W4.cell? ⟨k2, 0 + k3, none⟩ = some v) ∧
 W4.frozen? ⟨k2, 0 + k3, none⟩ = false) ∧ ((∀ v2 : Value, v2 ∈ vs.toList → Value.oneCell' v2 = true) ∧ ∀ W5 : World, W5 = W4.setCells k2 0 vs.toList →
 ∃ p2 : Option Addr, W5.cell? ⟨k, 0, none⟩ = some (.pointer p2) ∧ Calls Tryz.prog 49 #[.pointer p2, .string ⟨#[118, 97, 114]⟩] W5 (fun e2 => fun W6 =>
 ∃ t : Bool, e2 = .returned (.bool t) ∧ Sx.split t (∀ W7 : World, W7 = World.drew W6 → ∃ p3 : Option Addr, W7.cell? ⟨k, 0, none⟩ = some (.pointer p3) ∧
 ∃ vs2 : Array Value, vs2.size = 3 ∧ Sx.cellsAt W7 ⟨k2, 0, none⟩ vs2 ∧ Calls Tryz.prog 50 #[.pointer p3] W7 (fun e3 => fun W8 => (∃ vs3 : Array Value, e3 = .returned (.agg vs3) ∧
 (∃ vs4 : Array Value, vs4.size = 3 ∧ Sx.cellsAt W8 ⟨k2, 0, none⟩ vs4 ∧ Value.agg vs4 = Value.agg vs2) ∧ ∃ s : ByteArray, vs3[1]? = some (.string s) ∧ (vs2.size = 3 ∧
 ∀ vs5 : Array Value, vs5 = List.toArray (vs2.toList ++ [Value.string s, .int .i64 0, .int .i64 0]) → ∀ k4 : Nat, ∀ W9 : World, k4 = W8.heap.size →
 W9 = W8.alloc (Obj.cells (Value.cells (Value.agg vs5)) 127) → ∃ p4 : Option Addr, W9.cell? ⟨k, 0, none⟩ = some (.pointer p4) ∧
 Calls Tryz.prog 49 #[.pointer p4, .string ⟨#[91]⟩] W9 (fun e4 => fun W10 => ∃ t2 : Bool, e4 = .returned (.bool t2) ∧ Sx.split t2
 (∃ p5 : Option Addr, W10.cell? ⟨k, 0, none⟩ = some (.pointer p5) ∧ Calls Tryz.prog 25 #[.pointer p5] W10 (fun e5 => fun W11 => ∃ vs6 : Array Value, e5 = .returned (.agg vs6) ∧
 ∀ k5 : Nat, ∀ W12 : World, k5 = W11.heap.size → W12 = W11.alloc (Obj.cells #[.int .u8 0, .string ⟨#[]⟩, .int .i64 0] 87) → vs6.size = 3 ∧ (∀ k6 : Nat, k6 < 3 →
 (∃ v3 : Value, W12.cell? ⟨k5, 0 + k6, none⟩ = some v3) ∧ W12.frozen? ⟨k5, 0 + k6, none⟩ = false) ∧ ((∀ v4 : Value, v4 ∈ vs6.toList → Value.oneCell' v4 = true) ∧
 ∀ W13 : World, W13 = W12.setCells k5 0 vs6.toList → ∃ p6 : Option Addr, W13.cell? ⟨k, 0, none⟩ = some (.pointer p6) ∧ Calls Tryz.prog 51 #[.pointer p6] W13 (fun e6 => fun W14 =>
 (∃ z : Int, e6 = .returned (.int .u32 z) ∧ ∀ z2 : Int, z2 = IntKind.wrap .i64 z → (∃ v5 : Value, W14.cell? ⟨k4, 0 + 5, none⟩ = some v5) ∧ (W14.frozen? ⟨k4, 0 + 5, none⟩ = false ∧
 ∀ W15 : World, W15 = W14.setCell ⟨k4, 0 + 5, none⟩ (Value.int .i64 z2) → ∃ z3 : Int, W15.cell? ⟨k4, 0 + 5, none⟩ = some (.int .i64 z3) ∧ Sx.split (decide (z3 < 1))
 (∃ z4 : Int, W15.cell? ⟨k5, 0 + 2, none⟩ = some (.int .i64 z4) ∧ Calls Tryz.prog 52 #[.int .i64 z4, .int .i64 3] W15 (fun e7 => fun W16 =>
 ∃ l : List PanicEntry, e7 = Ending.panicked l ∧ Q (Ending.panicked l) W16)) (∃ z5 : Int, W15.cell? ⟨k4, 0 + 5, none⟩ = some (.int .i64 z5) ∧ Sx.split (decide (z5 > 256))
 (∃ z6 : Int, W15.cell? ⟨k5, 0 + 2, none⟩ = some (.int .i64 z6) ∧ Calls Tryz.prog 52 #[.int .i64 z6, .int .i64 3] W15 (fun e8 => fun W17 =>
 ∃ l2 : List PanicEntry, e8 = Ending.panicked l2 ∧ Q (Ending.panicked l2) W17)) (∃ p7 : Option Addr, W15.cell? ⟨k, 0, none⟩ = some (.pointer p7) ∧
 Calls Tryz.prog 53 #[.pointer p7, .string ⟨#[93]⟩] W15 (fun e9 => fun W18 => (e9 = .returned (.tuple #[]) ∧ ∃ p8 : Option Addr, W18.cell? ⟨k, 0, none⟩ = some (.pointer p8) ∧
 Calls Tryz.prog 53 #[.pointer p8, .string ⟨#[59]⟩] W18 (fun e10 => fun W19 => (e10 = .returned (.tuple #[]) ∧ Q (.returned (.iface 125 (Value.pointer (some ⟨k4, 0, none⟩)))) W19) ∨
 (∃ l3 : List PanicEntry, e10 = Ending.panicked l3 ∧ Q (Ending.panicked l3) W19))) ∨ (∃ l4 : List PanicEntry, e9 = Ending.panicked l4 ∧ Q (Ending.panicked l4) W18)))))) ∨
 (∃ l5 : List PanicEntry, e6 = Ending.panicked l5 ∧ Q (Ending.panicked l5) W14))))) (∃ p9 : Option Addr, W10.cell? ⟨k, 0, none⟩ = some (.pointer p9) ∧
 Calls Tryz.prog 53 #[.pointer p9, .string ⟨#[59]⟩] W10 (fun e11 => fun W20 => (e11 = .returned (.tuple #[]) ∧ Q (.returned (.iface 125 (Value.pointer (some ⟨k4, 0, none⟩)))) W20) ∨
 (∃ l6 : List PanicEntry, e11 = Ending.panicked l6 ∧ Q (Ending.panicked l6) W20)))))) ∨ (∃ l7 : List PanicEntry, e3 = Ending.panicked l7 ∧ Q (Ending.panicked l7) W8)))
 (∃ p10 : Option Addr, W6.cell? ⟨k, 0, none⟩ = some (.pointer p10) ∧ Calls Tryz.prog 53 #[.pointer p10, .string ⟨#[102, 117, 110, 99]⟩] W6 (fun e12 => fun W21 =>
 (e12 = .returned (.tuple #[]) ∧ ∃ I : Option Addr → World → Prop, (∀ W22 : World, W22 = World.drew W21 → ∃ p11 : Option Addr, W22.cell? ⟨k, 0, none⟩ = some (.pointer p11) ∧
 ∃ vs7 : Array Value, vs7.size = 3 ∧ Sx.cellsAt W22 ⟨k2, 0, none⟩ vs7 ∧ (Calls Tryz.prog 50 #[.pointer p11] W22 (fun e13 => fun W23 =>
 (∃ vs8 : Array Value, e13 = .returned (.agg vs8) ∧ (∃ vs9 : Array Value, vs9.size = 3 ∧ Sx.cellsAt W23 ⟨k2, 0, none⟩ vs9 ∧ Value.agg vs9 = Value.agg vs7) ∧
 ∃ s2 : ByteArray, vs8[1]? = some (.string s2) ∧ (vs7.size = 3 ∧
 ∀ vs10 : Array Value, vs10 = List.toArray (vs7.toList ++ [Value.string s2, .slice none 0 0, .pointer none, .int .i64 0, .int .i64 0]) →
 (∀ k7 : Nat, ∀ W24 : World, k7 = W23.heap.size → W24 = W23.alloc (Obj.cells (Value.cells (Value.agg vs10)) 115) → ∀ k8 : Nat, ∀ W25 : World, k8 = W24.heap.size →
 W25 = W24.alloc (Obj.cells #[.pointer none] 63) → (∃ v6 : Value, W25.cell? ⟨k8, 0, none⟩ = some v6) ∧ (W25.frozen? ⟨k8, 0, none⟩ = false ∧
 ∀ W26 : World, W26 = W25.setCell ⟨k8, 0, none⟩ (Value.pointer (some ⟨k7, 0, none⟩)) → I (some (Addr.mk k8 0 none)) W26)) ∧ ∀ k9 : Nat, ∀ W27 : World, k9 = W23.heap.size →
 W27 = W23.alloc (Obj.cells #[.pointer none] 63) → (∃ vs11 : Array Value, vs11.size = 3 ∧ Sx.cellsAt W27 ⟨k2, 0, none⟩ vs11 ∧ Value.agg vs11 = Value.agg vs7) ∧
 ∀ k10 : Nat, ∀ W28 : World, k10 = W27.heap.size → W28 = W27.alloc (Obj.cells (Value.cells (Value.agg vs10)) 115) → (∃ v7 : Value, W28.cell? ⟨k9, 0, none⟩ = some v7) ∧
 (W28.frozen? ⟨k9, 0, none⟩ = false ∧ ∀ W29 : World, W29 = W28.setCell ⟨k9, 0, none⟩ (Value.pointer (some ⟨k10, 0, none⟩)) → I (some (Addr.mk k9 0 none)) W29))) ∨
 (∃ l8 : List PanicEntry, e13 = Ending.panicked l8 ∧ Q (Ending.panicked l8) W23)) ∧ ∀ k11 : Nat, ∀ W30 : World, k11 = W22.heap.size →
 W30 = W22.alloc (Obj.cells #[.pointer none] 63) → RowKit.Below (W22.heap.size) W22 W30 ∧ (∃ vs12 : Array Value, vs12.size = 3 ∧ Sx.cellsAt W30 ⟨k2, 0, none⟩ vs12 ∧
 Value.agg vs12 = Value.agg vs7) ∧ Calls Tryz.prog 50 #[.pointer p11] W30 (fun e14 => fun W31 => (∃ vs13 : Array Value, e14 = .returned (.agg vs13) ∧
 (∃ vs14 : Array Value, vs14.size = 3 ∧ Sx.cellsAt W31 ⟨k2, 0, none⟩ vs14 ∧ Value.agg vs14 = Value.agg vs7) ∧ ∃ s3 : ByteArray, vs13[1]? = some (.string s3) ∧ (vs7.size = 3 ∧
 ∀ vs15 : Array Value, vs15 = List.toArray (vs7.toList ++ [Value.string s3, .slice none 0 0, .pointer none, .int .i64 0, .int .i64 0]) →
 ∀ k12 : Nat, ∀ W32 : World, k12 = W31.heap.size → W32 = W31.alloc (Obj.cells (Value.cells (Value.agg vs15)) 115) → (∃ v8 : Value, W32.cell? ⟨k11, 0, none⟩ = some v8) ∧
 (W32.frozen? ⟨k11, 0, none⟩ = false ∧ ∀ W33 : World, W33 = W32.setCell ⟨k11, 0, none⟩ (Value.pointer (some ⟨k12, 0, none⟩)) → I (some (Addr.mk k11 0 none)) W33))) ∨
 (∃ l9 : List PanicEntry, e14 = Ending.panicked l9 ∧ Q (Ending.panicked l9) W31)))) ∧ ((Nat → Value) → ∀ x : Option Addr, ∀ W34 : World, I x W34 →
 ∃ p12 : Option Addr, W34.cell? ⟨k, 0, none⟩ = some (.pointer p12) ∧
 Calls Tryz.prog 54 #[.pointer p12, Value.func (Fn.func 55) #[] #[.pointer (some ⟨k, 0, none⟩), .pointer x]] W34 (fun e15 => fun W35 => (e15 = .returned (.tuple #[]) ∧
 ∀ W36 : World, W36 = World.drew W35 → ∃ p13 : Option Addr, W36.cell? ⟨k, 0, none⟩ = some (.pointer p13) ∧ Sx.ptr x (fun a => ∃ p14 : Option Addr, W36.cell? a = some (.pointer p14) ∧
 Calls Tryz.prog 56 #[.pointer p13] W36 (fun e16 => fun W37 => (∃ p15 : Option Addr, e16 = .returned (.pointer p15) ∧ Sx.ptr x (fun a2 =>
 ∃ p16 : Option Addr, W37.cell? a2 = some (.pointer p16) ∧ Value.pointer p16 = Value.pointer p14) ∧ Sx.ptr p14 (fun a3 => (∃ v9 : Value, W37.cell? (Addr.add a3 5) = some v9) ∧
 (W37.frozen? (Addr.add a3 5) = false ∧ ∀ W38 : World, W38 = W37.setCell (Addr.add a3 5) (Value.pointer p15) → Sx.ptr x (fun a4 =>
 ∃ p17 : Option Addr, W38.cell? a4 = some (.pointer p17) ∧ Q (.returned (.iface 63 (Value.pointer p17))) W38)))) ∨ (∃ l10 : List PanicEntry, e16 = Ending.panicked l10 ∧
 Q (Ending.panicked l10) W37)))) ∨ (∃ l11 : List PanicEntry, e15 = Ending.panicked l11 ∧ Q (Ending.panicked l11) W35)))) ∨ (∃ l12 : List PanicEntry, e12 = Ending.panicked l12 ∧
 Q (Ending.panicked l12) W21))))))) :
 Calls Tryz.prog 26 #[.pointer (some ⟨arg0, arg0o, none⟩)] W Q :=
 Sx.sound (pk := [1000052,1000091,53,50,51,93,94,95,111,112,113,130,131,132,144,171,172,54,128,142,129,56,26,55,27,57,58,97,115,133,114,116]) Tryz.func26 (.node [] [] 0 .leaf (.node [] [] 0 .leaf (.node [] [] 0 (.node [] [] 0 .leaf (.node [] [] 0 (.node [] [] 0 (.node [] [] 1001003 .leaf .leaf) .leaf) .leaf)) (.node [] [] 0 .leaf (.node [(6, .ptr)] [1] 1 (.node [] [] 1001003 .leaf .leaf) (.node [] [] 0 .leaf (.node [] [] 0 (.node [] [] 1001003 .leaf .leaf) .leaf))))))) [Value.pointer (some ⟨arg0, arg0o, none⟩)] rfl (Eq.mp (by kernel_rfl) hVC)
theorem vc55 {W : World} {Q : Ending → World → Prop} (fv0 : Nat) (fv0o : Nat) (fv1 : Nat) (fv1o : Nat)
 (hVC :
 ∃ p : Option Addr, W.cell? ⟨fv0, fv0o, none⟩ = some (.pointer p) ∧ Calls Tryz.prog 50 #[.pointer p] W (fun e => fun W2 => (∃ vs : Array Value, e = .returned (.agg vs) ∧
 ∀ k : Nat, ∀ W3 : World, k = W2.heap.size → W3 = W2.alloc (Obj.cells #[.int .u8 0, .string ⟨#[]⟩, .int .i64 0] 87) → vs.size = 3 ∧ (∀ k2 : Nat, k2 < 3 →
 (∃ v : Value, W3.cell? ⟨k, 0 + k2, none⟩ = some v) ∧ W3.frozen? ⟨k, 0 + k2, none⟩ = false) ∧ ((∀ v2 : Value, v2 ∈ vs.toList → Value.oneCell' v2 = true) ∧
 ∀ W4 : World, W4 = W3.setCells k 0 vs.toList → ∀ W5 : World, W5 = World.drew W4 → ∃ p2 : Option Addr, W5.cell? ⟨fv1, fv1o, none⟩ = some (.pointer p2) ∧ Sx.ptr p2 (fun a =>
 ∃ p3 : Option Addr, ∃ k3 : Nat, ∃ k4 : Nat, W5.cell? (Addr.add a 4) = some (.slice p3 k3 k4) ∧ ∃ s : ByteArray, W5.cell? ⟨k, 0 + 1, none⟩ = some (.string s) ∧
 ∃ p4 : Option Addr, W5.cell? ⟨fv1, fv1o, none⟩ = some (.pointer p4) ∧ ∀ k5 : Nat, ∀ W6 : World, k5 = W5.heap.size → W6 = W5.alloc (Obj.cells #[.string s] 9) →
 RowKit.Below (W5.heap.size) W5 W6 ∧ (∃ p5 : Option Addr, W6.cell? ⟨fv1, fv1o, none⟩ = some (.pointer p5) ∧ Value.pointer p5 = Value.pointer p4) ∧
 ∃ l : List Value, ∃ l2 : List Value, XHeap.Sl W6 9 1 (Value.slice p3 k3 k4) k3 l ∧ (((1 : Nat) = (0 : Nat) ∧ some (Addr.mk k5 0 none) = none) ∨
 (∃ a2 : Addr, some (Addr.mk k5 0 none) = some a2 ∧ ∀ k6 : Nat, ∀ v3 : Value, l2[k6]? = some v3 → W6.cell? (Addr.add a2 k6) = some v3)) ∧ List.length l2 = 1 ∧
 (∀ v4 : Value, v4 ∈ l2 → Value.oneCell' v4 = true) ∧ k3 + 1 ≤ maxLen ∧ ((k3 + 1) * 16 ≤ 140737488355328 ∧
 ∀ p6 : Option Addr, ∀ k7 : Nat, ∀ W7 : World, XHeap.Sl W7 9 1 (Value.slice p6 (k3 + 1) k7) (k3 + 1) (l ++ l2) →
 XHeap.XTouch (fun b => Value.ownBlock (Value.slice p3 k3 k4) = some b) W6 W7 → (∀ k8 : Nat, Value.ownBlock (Value.slice p6 (k3 + 1) k7) = some k8 →
 (Value.ownBlock (Value.slice p3 k3 k4) = some k8) ∨ (W6.heap.size ≤ k8)) → XHeap.Sl W7 9 1 (Value.slice p3 k3 k4) k3 l → ((p6 = p3 ∧ k7 = k4) ∨ (((XHeap.NilP p3) ∨ (k4 < k3 + 1)) ∧
 ∀ k9 : Nat, Value.ownBlock (Value.slice p6 (k3 + 1) k7) = some k9 → W6.heap.size ≤ k9)) → (∃ p7 : Option Addr, W7.cell? ⟨fv1, fv1o, none⟩ = some (.pointer p7) ∧
 Value.pointer p7 = Value.pointer p4) ∧ Sx.ptr p4 (fun a3 => (∃ v5 : Value, W7.cell? (Addr.add a3 4) = some v5) ∧ (W7.frozen? (Addr.add a3 4) = false ∧
 ∀ W8 : World, W8 = W7.setCell (Addr.add a3 4) (Value.slice p6 (k3 + 1) k7) → ∃ p8 : Option Addr, W8.cell? ⟨fv1, fv1o, none⟩ = some (.pointer p8) ∧ Sx.ptr p8 (fun a4 =>
 ∃ p9 : Option Addr, ∃ k10 : Nat, ∃ k11 : Nat, W8.cell? (Addr.add a4 4) = some (.slice p9 k10 k11) ∧ Sx.split (decide ((k10 : Int) > 6))
 (∃ z : Int, W8.cell? ⟨k, 0 + 2, none⟩ = some (.int .i64 z) ∧ Calls Tryz.prog 52 #[.int .i64 z, .int .i64 3] W8 (fun e2 => fun W9 => ∃ l3 : List PanicEntry, e2 = Ending.panicked l3 ∧
 Q (Ending.panicked l3) W9)) (Q (.returned (.tuple #[])) W8)))))))) ∨ (∃ l4 : List PanicEntry, e = Ending.panicked l4 ∧ Q (Ending.panicked l4) W2))) :
 Calls Tryz.prog 55 #[.pointer (some ⟨fv0, fv0o, none⟩), .pointer (some ⟨fv1, fv1o, none⟩)] W Q :=
 Sx.sound (pk := [1000052,1000091,53,50,51,93,94,95,111,112,113,130,131,132,144,171,172,54,128,142,129,56,26,55,27,57,58,97,115,133,114,116]) Tryz.func55 (.node [] [] 0 .leaf (.node [] [] 0 (.node [] [] 1001009 .leaf .leaf) .leaf)) [Value.pointer (some ⟨fv0, fv0o, none⟩), .pointer (some ⟨fv1, fv1o, none⟩)] rfl (Eq.mp (by kernel_rfl) hVC)
theorem vc12 {W : World} {Q : Ending → World → Prop} (text : ByteArray)
 (hVC :
 ∀ k : Nat, ∀ W2 : World, k = W.heap.size → W2 = W.alloc (Obj.cells #[.pointer none] 44) → ∀ k2 : Nat, ∀ W3 : World, k2 = W2.heap.size →
 W3 = W2.alloc (Obj.cells #[.int .i64 0] 3) → ∀ k3 : Nat, ∀ W4 : World, k3 = W3.heap.size → W4 = W3.alloc (Obj.cells #[.nilIface] 23) →
 Sx.split (decide ((↑(ByteArray.size text) : Int) > 8000)) ((∃ v : Value, W4.cell? ⟨k, 0, none⟩ = some v) ∧ (W4.frozen? ⟨k, 0, none⟩ = false ∧
 ∀ W5 : World, W5 = W4.setCell ⟨k, 0, none⟩ (Value.pointer none) → (∃ v2 : Value, W5.cell? ⟨k2, 0, none⟩ = some v2) ∧ (W5.frozen? ⟨k2, 0, none⟩ = false ∧
 ∀ W6 : World, W6 = W5.setCell ⟨k2, 0, none⟩ (Value.int .i64 0) → (∃ v3 : Value, W6.cell? ⟨k3, 0, none⟩ = some v3) ∧ (W6.frozen? ⟨k3, 0, none⟩ = false ∧
 ∀ W7 : World, W7 = W6.setCell ⟨k3, 0, none⟩ (Value.iface 29 (Value.int .i64 1)) → ∃ p : Option Addr, W7.cell? ⟨k, 0, none⟩ = some (.pointer p) ∧
 ∃ z : Int, W7.cell? ⟨k2, 0, none⟩ = some (.int .i64 z) ∧ ∃ v4 : Value, W7.cell? ⟨k3, 0, none⟩ = some v4 ∧ Q (.returned (.tuple #[.pointer p, .int .i64 z, v4])) W7))))
 (∀ vs : Array Value, vs = #[.slice none 0 0, .pointer none, .int .i64 0, .slice none 0 0] → ∀ k4 : Nat, ∀ W8 : World, k4 = W4.heap.size →
 W8 = W4.alloc (Obj.cells (Value.cells (Value.agg vs)) 66) → (∃ v5 : Value, W8.cell? ⟨k, 0, none⟩ = some v5) ∧ (W8.frozen? ⟨k, 0, none⟩ = false ∧
 ∀ W9 : World, W9 = W8.setCell ⟨k, 0, none⟩ (Value.pointer (some ⟨k4, 0, none⟩)) → Calls Tryz.prog 24 #[.string text] W9 (fun e => fun W10 =>
 ∃ p2 : Option Addr, ∃ k5 : Nat, ∃ k6 : Nat, e = .returned (.slice p2 k5 k6) ∧ ∀ vs2 : Array Value, vs2 = #[.slice p2 k5 k6, .int .i64 0] →
 ∀ k7 : Nat, ∀ W11 : World, k7 = W10.heap.size → W11 = W10.alloc (Obj.cells (Value.cells (Value.agg vs2)) 84) → ∃ I : World → Prop, ∃ I2 : World → Nat, I W11 ∧ ((Nat → Value) →
 ∀ W12 : World, I W12 → Calls Tryz.prog 25 #[.pointer (some ⟨k7, 0, none⟩)] W12 (fun e2 => fun W13 => ∃ vs3 : Array Value, e2 = .returned (.agg vs3) ∧
 ∃ z2 : Int, vs3[0]? = some (.int .u8 z2) ∧ Sx.split (z2 != 0) (∀ W14 : World, W14 = World.drew W13 → ∃ p3 : Option Addr, W14.cell? ⟨k, 0, none⟩ = some (.pointer p3) ∧
 ∃ p4 : Option Addr, W14.cell? ⟨k, 0, none⟩ = some (.pointer p4) ∧ Sx.ptr p4 (fun a => ∃ p5 : Option Addr, ∃ k8 : Nat, ∃ k9 : Nat, W14.cell? (Addr.add a 3) = some (.slice p5 k8 k9) ∧
 Calls Tryz.prog 26 #[.pointer (some ⟨k7, 0, none⟩)] W14 (fun e3 => fun W15 => (∃ v6 : Value, e3 = .returned v6 ∧
 (∃ p6 : Option Addr, ∃ k10 : Nat, ∃ k11 : Nat, W15.cell? (Addr.add a 3) = some (.slice p6 k10 k11) ∧ Value.slice p6 k10 k11 = Value.slice p5 k8 k9) ∧
 (∃ p7 : Option Addr, W15.cell? ⟨k, 0, none⟩ = some (.pointer p7) ∧ Value.pointer p7 = Value.pointer p4) ∧ (∃ p8 : Option Addr, W15.cell? ⟨k, 0, none⟩ = some (.pointer p8) ∧
 Value.pointer p8 = Value.pointer p3) ∧ Sx.one v6 (∀ k12 : Nat, ∀ W16 : World, k12 = W15.heap.size → W16 = W15.alloc (Obj.cells #[v6] 20) →
 (∃ p9 : Option Addr, ∃ k13 : Nat, ∃ k14 : Nat, W16.cell? (Addr.add a 3) = some (.slice p9 k13 k14) ∧ Value.slice p9 k13 k14 = Value.slice p5 k8 k9) ∧
 (∃ p10 : Option Addr, W16.cell? ⟨k, 0, none⟩ = some (.pointer p10) ∧ Value.pointer p10 = Value.pointer p4) ∧ (∃ p11 : Option Addr, W16.cell? ⟨k, 0, none⟩ = some (.pointer p11) ∧
 Value.pointer p11 = Value.pointer p3) ∧ ∃ l : List Value, ∃ l2 : List Value, XHeap.Sl W16 20 1 (Value.slice p5 k8 k9) k8 l ∧ (((1 : Nat) = (0 : Nat) ∧
 some (Addr.mk k12 0 none) = none) ∨ (∃ a2 : Addr, some (Addr.mk k12 0 none) = some a2 ∧ ∀ k15 : Nat, ∀ v7 : Value, l2[k15]? = some v7 → W16.cell? (Addr.add a2 k15) = some v7)) ∧
 List.length l2 = 1 ∧ (∀ v8 : Value, v8 ∈ l2 → Value.oneCell' v8 = true) ∧ k8 + 1 ≤ maxLen ∧ ((k8 + 1) * 16 ≤ 140737488355328 ∧
 ∀ p12 : Option Addr, ∀ k16 : Nat, ∀ W17 : World, XHeap.Sl W17 20 1 (Value.slice p12 (k8 + 1) k16) (k8 + 1) (l ++ l2) →
 XHeap.XTouch (fun b => Value.ownBlock (Value.slice p5 k8 k9) = some b) W16 W17 → (∀ k17 : Nat, Value.ownBlock (Value.slice p12 (k8 + 1) k16) = some k17 →
 (Value.ownBlock (Value.slice p5 k8 k9) = some k17) ∨ (W16.heap.size ≤ k17)) → XHeap.Sl W17 20 1 (Value.slice p5 k8 k9) k8 l → ((p12 = p5 ∧ k16 = k9) ∨ (((XHeap.NilP p5) ∨
 (k9 < k8 + 1)) ∧ ∀ k18 : Nat, Value.ownBlock (Value.slice p12 (k8 + 1) k16) = some k18 → W16.heap.size ≤ k18)) → (∃ p13 : Option Addr, W17.cell? ⟨k, 0, none⟩ = some (.pointer p13) ∧
 Value.pointer p13 = Value.pointer p3) ∧ Sx.ptr p3 (fun a3 => (∃ v9 : Value, W17.cell? (Addr.add a3 3) = some v9) ∧ (W17.frozen? (Addr.add a3 3) = false ∧
 ∀ W18 : World, W18 = W17.setCell (Addr.add a3 3) (Value.slice p12 (k8 + 1) k16) → I W18 ∧ I2 W18 < I2 W12))))) ∨ (∃ l3 : List PanicEntry, e3 = Ending.panicked l3 ∧
 CallsD Tryz.prog 23 #[.pointer (some ⟨k, 0, none⟩), .pointer (some ⟨k2, 0, none⟩), .pointer (some ⟨k3, 0, none⟩)] (FrameMode.panicking l3) W15 (fun e4 => fun u => fun W19 =>
 (∃ v10 : Value, e4 = .returned v10 ∧ ((settle u = FrameMode.returning ∧ ∃ p14 : Option Addr, W19.cell? ⟨k, 0, none⟩ = some (.pointer p14) ∧
 ∃ z3 : Int, W19.cell? ⟨k2, 0, none⟩ = some (.int .i64 z3) ∧ ∃ v11 : Value, W19.cell? ⟨k3, 0, none⟩ = some v11 ∧ Q (.returned (.tuple #[.pointer p14, .int .i64 z3, v11])) W19) ∨
 (∃ l4 : List PanicEntry, settle u = FrameMode.panicking l4 ∧ Q (Ending.panicked l4) W19))) ∨ (∃ l5 : List PanicEntry, e4 = Ending.panicked l5 ∧
 ∃ l6 : List PanicEntry, raised u l5 = FrameMode.panicking l6 ∧ Q (Ending.panicked l6) W19)))))) (∃ p15 : Option Addr, W13.cell? ⟨k, 0, none⟩ = some (.pointer p15) ∧
 Calls Tryz.prog 27 #[.pointer p15] W13 (fun e5 => fun W20 => (e5 = .returned (.tuple #[]) ∧ ∃ p16 : Option Addr, W20.cell? ⟨k, 0, none⟩ = some (.pointer p16) ∧
 (∃ v12 : Value, W20.cell? ⟨k, 0, none⟩ = some v12) ∧ (W20.frozen? ⟨k, 0, none⟩ = false ∧ ∀ W21 : World, W21 = W20.setCell ⟨k, 0, none⟩ (Value.pointer p16) →
 (∃ v13 : Value, W21.cell? ⟨k2, 0, none⟩ = some v13) ∧ (W21.frozen? ⟨k2, 0, none⟩ = false ∧ ∀ W22 : World, W22 = W21.setCell ⟨k2, 0, none⟩ (Value.int .i64 0) →
 (∃ v14 : Value, W22.cell? ⟨k3, 0, none⟩ = some v14) ∧ (W22.frozen? ⟨k3, 0, none⟩ = false ∧ ∀ W23 : World, W23 = W22.setCell ⟨k3, 0, none⟩ Value.nilIface →
 CallsD Tryz.prog 23 #[.pointer (some ⟨k, 0, none⟩), .pointer (some ⟨k2, 0, none⟩), .pointer (some ⟨k3, 0, none⟩)] FrameMode.returning W23 (fun e6 => fun u2 => fun W24 =>
 (∃ v15 : Value, e6 = .returned v15 ∧ ((settle u2 = FrameMode.returning ∧ ∃ p17 : Option Addr, W24.cell? ⟨k, 0, none⟩ = some (.pointer p17) ∧
 ∃ z4 : Int, W24.cell? ⟨k2, 0, none⟩ = some (.int .i64 z4) ∧ ∃ v16 : Value, W24.cell? ⟨k3, 0, none⟩ = some v16 ∧ Q (.returned (.tuple #[.pointer p17, .int .i64 z4, v16])) W24) ∨
 (∃ l7 : List PanicEntry, settle u2 = FrameMode.panicking l7 ∧ Q (Ending.panicked l7) W24))) ∨ (∃ l8 : List PanicEntry, e6 = Ending.panicked l8 ∧
 ∃ l9 : List PanicEntry, raised u2 l8 = FrameMode.panicking l9 ∧ Q (Ending.panicked l9) W24)))))) ∨ (∃ l10 : List PanicEntry, e5 = Ending.panicked l10 ∧
 CallsD Tryz.prog 23 #[.pointer (some ⟨k, 0, none⟩), .pointer (some ⟨k2, 0, none⟩), .pointer (some ⟨k3, 0, none⟩)] (FrameMode.panicking l10) W20 (fun e7 => fun u3 => fun W25 =>
 (∃ v17 : Value, e7 = .returned v17 ∧ ((settle u3 = FrameMode.returning ∧ ∃ p18 : Option Addr, W25.cell? ⟨k, 0, none⟩ = some (.pointer p18) ∧
 ∃ z5 : Int, W25.cell? ⟨k2, 0, none⟩ = some (.int .i64 z5) ∧ ∃ v18 : Value, W25.cell? ⟨k3, 0, none⟩ = some v18 ∧ Q (.returned (.tuple #[.pointer p18, .int .i64 z5, v18])) W25) ∨
 (∃ l11 : List PanicEntry, settle u3 = FrameMode.panicking l11 ∧ Q (Ending.panicked l11) W25))) ∨ (∃ l12 : List PanicEntry, e7 = Ending.panicked l12 ∧
 ∃ l13 : List PanicEntry, raised u3 l12 = FrameMode.panicking l13 ∧ Q (Ending.panicked l13) W25))))))))))) :
 Calls Tryz.prog 12 #[.string text] W Q :=
 Sx.soundD (pk := [1000052,1000091,53,50,51,93,94,95,111,112,113,130,131,132,144,171,172,54,128,142,129,56,26,55,27,57,58,97,115,133,114,116]) Tryz.func12 (.node [] [] 0 .leaf (.node [] [] 0 .leaf (.node [] [] 0 .leaf (.node [] [] 0 .leaf (.node [] [] 0 (.node [] [] 0 .leaf (.node [] [] 0 (.node [] [5, 2, 3, 4] 0 (.node [] [] 0 .leaf (.node [] [] 0 (.node [] [] 1001007 .leaf .leaf) .leaf)) .leaf) .leaf)) .leaf))))) [Value.string text] rfl (Eq.mp (by kernel_rfl) hVC)
theorem vc23 {W : World} {Q : Ending → FrameMode → World → Prop} (fv0 : Nat) (fv0o : Nat) (fv1 : Nat) (fv1o : Nat) (fv2 : Nat) (fv2o : Nat) (v : Value)
 (hVC :
 Sx.isNil v (fun t => Sx.split t (Q (.returned (.tuple #[])) (FrameMode.panicking [PanicEntry.mk v true false]) W) (Sx.tagOf v 77 (fun v2 =>
 ∃ p : Option Addr, v2 = Value.pointer p ∧ Sx.ptr p (fun a => ∃ z : Int, W.cell? (Addr.add a 0) = some (.int .i64 z) ∧ (∃ v3 : Value, W.cell? ⟨fv0, fv0o, none⟩ = some v3) ∧
 (W.frozen? ⟨fv0, fv0o, none⟩ = false ∧ ∀ W2 : World, W2 = W.setCell ⟨fv0, fv0o, none⟩ (Value.pointer none) → (∃ v4 : Value, W2.cell? ⟨fv1, fv1o, none⟩ = some v4) ∧
 (W2.frozen? ⟨fv1, fv1o, none⟩ = false ∧ ∀ W3 : World, W3 = W2.setCell ⟨fv1, fv1o, none⟩ (Value.int .i64 z) → (∃ v5 : Value, W3.cell? ⟨fv2, fv2o, none⟩ = some v5) ∧
 (W3.frozen? ⟨fv2, fv2o, none⟩ = false ∧ ∀ W4 : World, W4 = W3.setCell ⟨fv2, fv2o, none⟩ (Value.iface 77 (Value.pointer p)) →
 Q (.returned (.tuple #[])) (FrameMode.panicking [PanicEntry.mk v true false]) W4))))) (Sx.split false (False) (match v with
 | Value.iface t v_1 => Q (Ending.panicked [PanicEntry.mk (Value.iface t v_1) false false]) (FrameMode.panicking [PanicEntry.mk v true false]) W | x => False))))) :
 CallsD Tryz.prog 23 #[.pointer (some ⟨fv0, fv0o, none⟩), .pointer (some ⟨fv1, fv1o, none⟩), .pointer (some ⟨fv2, fv2o, none⟩)] (.panicking [{ v, recovered := false }]) W Q :=
 Sx.soundR (pk := [1000052,1000091,53,50,51,93,94,95,111,112,113,130,131,132,144,171,172,54,128,142,129,56,26,55,27,57,58,97,115,133,114,116]) Tryz.func23 .leaf [Value.pointer (some ⟨fv0, fv0o, none⟩), .pointer (some ⟨fv1, fv1o, none⟩), .pointer (some ⟨fv2, fv2o, none⟩)] (Eq.mp (by kernel_rfl) hVC)
theorem vc23z {W : World} {Q : Ending → FrameMode → World → Prop} (fv0 : Nat) (fv0o : Nat) (fv1 : Nat) (fv1o : Nat) (fv2 : Nat) (fv2o : Nat) (v : Value)
 (hVC :
 Q (.returned (.tuple #[])) FrameMode.returning W) :
 CallsD Tryz.prog 23 #[.pointer (some ⟨fv0, fv0o, none⟩), .pointer (some ⟨fv1, fv1o, none⟩), .pointer (some ⟨fv2, fv2o, none⟩)] .returning W Q :=
 Sx.soundR (pk := [1000052,1000091,53,50,51,93,94,95,111,112,113,130,131,132,144,171,172,54,128,142,129,56,26,55,27,57,58,97,115,133,114,116]) Tryz.func23 .leaf [Value.pointer (some ⟨fv0, fv0o, none⟩), .pointer (some ⟨fv1, fv1o, none⟩), .pointer (some ⟨fv2, fv2o, none⟩)] (Eq.mp (by kernel_rfl) hVC)
theorem vc24 {W : World} {Q : Ending → World → Prop} (s : ByteArray)
 (hVC :
 ∃ I : ByteArray → Int → Option Addr → Nat → Nat → World → Prop, ∃ I2 : ByteArray → Int → Option Addr → Nat → Nat → World → Nat, I s 1 none 0 0 W ∧ ((Nat → Value) →
 ∀ s2 : ByteArray, ∀ line : Int, ∀ l : Option Addr, ∀ k : Nat, ∀ k2 : Nat, ∀ W2 : World, I s2 line l k k2 W2 → Sx.split (!ByteArray.toList s2 == ByteArray.toList ⟨#[]⟩)
 (∃ b : UInt8, (0 : Int) ≤ (0 : Int) ∧ s2[0]? = some b ∧ Sx.split ((↑(UInt8.toNat b) : Int) == 10) (∀ z : Int, z = IntKind.wrap .i64 (line + 1) → (0 : Int) ≤ (1 : Int) ∧
 ((1 : Nat) ≤ ByteArray.size s2 ∧ ByteArray.size s2 ≤ ByteArray.size s2) ∧ I (ByteArray.extract s2 1 (ByteArray.size s2)) z l k k2 W2 ∧
 I2 (ByteArray.extract s2 1 (ByteArray.size s2)) z l k k2 W2 < I2 s2 line l k k2 W2) (∃ b2 : UInt8, (0 : Int) ≤ (0 : Int) ∧ s2[0]? = some b2 ∧
 Sx.split ((↑(UInt8.toNat b2) : Int) == 32) ((0 : Int) ≤ (1 : Int) ∧ ((1 : Nat) ≤ ByteArray.size s2 ∧ ByteArray.size s2 ≤ ByteArray.size s2) ∧
 I (ByteArray.extract s2 1 (ByteArray.size s2)) line l k k2 W2 ∧ I2 (ByteArray.extract s2 1 (ByteArray.size s2)) line l k k2 W2 < I2 s2 line l k k2 W2)
 (∃ b3 : UInt8, (0 : Int) ≤ (0 : Int) ∧ s2[0]? = some b3 ∧ Sx.split ((↑(UInt8.toNat b3) : Int) == 9) ((0 : Int) ≤ (1 : Int) ∧ ((1 : Nat) ≤ ByteArray.size s2 ∧
 ByteArray.size s2 ≤ ByteArray.size s2) ∧ I (ByteArray.extract s2 1 (ByteArray.size s2)) line l k k2 W2 ∧
 I2 (ByteArray.extract s2 1 (ByteArray.size s2)) line l k k2 W2 < I2 s2 line l k k2 W2) (Calls Tryz.prog 46 #[.string s2, .string ⟨#[47, 47]⟩] W2 (fun e => fun W3 =>
 ∃ t : Bool, e = .returned (.bool t) ∧ Sx.split t (Calls Tryz.prog 47 #[.string s2, .int .u8 10] W3 (fun e2 => fun W4 => ∃ z2 : Int, e2 = .returned (.int .i64 z2) ∧
 Sx.split (decide (z2 < 0)) ((0 : Int) ≤ (↑(ByteArray.size s2) : Int) ∧ (Int.toNat (↑(ByteArray.size s2) : Int) ≤ ByteArray.size s2 ∧ ByteArray.size s2 ≤ ByteArray.size s2) ∧
 I (ByteArray.extract s2 (Int.toNat (↑(ByteArray.size s2) : Int)) (ByteArray.size s2)) line l k k2 W4 ∧
 I2 (ByteArray.extract s2 (Int.toNat (↑(ByteArray.size s2) : Int)) (ByteArray.size s2)) line l k k2 W4 < I2 s2 line l k k2 W2) ((0 : Int) ≤ z2 ∧ (Int.toNat z2 ≤ ByteArray.size s2 ∧
 ByteArray.size s2 ≤ ByteArray.size s2) ∧ I (ByteArray.extract s2 (Int.toNat z2) (ByteArray.size s2)) line l k k2 W4 ∧
 I2 (ByteArray.extract s2 (Int.toNat z2) (ByteArray.size s2)) line l k k2 W4 < I2 s2 line l k k2 W2))) (Calls Tryz.prog 48 #[.string s2] W3 (fun e3 => fun W5 =>
 ∃ z3 : Int, ∃ z4 : Int, e3 = .returned (.tuple #[.int .u8 z3, .int .i64 z4]) ∧ (0 : Int) ≤ z4 ∧ (((0 : Nat) ≤ Int.toNat z4 ∧ Int.toNat z4 ≤ ByteArray.size s2) ∧
 ∀ vs : Array Value, vs = #[.int .u8 z3, .string (ByteArray.extract s2 0 (Int.toNat z4)), .int .i64 line] → vs.size = 3 ∧ ∀ k3 : Nat, ∀ W6 : World, k3 = W5.heap.size →
 W6 = W5.alloc (Obj.cells (List.toArray (vs.toList ++ [])) 87) → ∃ l2 : List Value, ∃ l3 : List Value, XHeap.Sl W6 87 3 (Value.slice l k k2) k l2 ∧ (((1 : Nat) = (0 : Nat) ∧
 some (Addr.mk k3 0 none) = none) ∨ (∃ a : Addr, some (Addr.mk k3 0 none) = some a ∧ ∀ k4 : Nat, ∀ v : Value, l3[k4]? = some v → W6.cell? (Addr.add a k4) = some v)) ∧
 List.length l3 = 3 ∧ (∀ v2 : Value, v2 ∈ l3 → Value.oneCell' v2 = true) ∧ k + 1 ≤ maxLen ∧ ((k + 1) * 32 ≤ 140737488355328 ∧
 ∀ p : Option Addr, ∀ k5 : Nat, ∀ W7 : World, XHeap.Sl W7 87 3 (Value.slice p (k + 1) k5) (k + 1) (l2 ++ l3) →
 XHeap.XTouch (fun b => Value.ownBlock (Value.slice l k k2) = some b) W6 W7 → (∀ k6 : Nat, Value.ownBlock (Value.slice p (k + 1) k5) = some k6 →
 (Value.ownBlock (Value.slice l k k2) = some k6) ∨ (W6.heap.size ≤ k6)) → XHeap.Sl W7 87 3 (Value.slice l k k2) k l2 → ((p = l ∧ k5 = k2) ∨ (((XHeap.NilP l) ∨ (k2 < k + 1)) ∧
 ∀ k7 : Nat, Value.ownBlock (Value.slice p (k + 1) k5) = some k7 → W6.heap.size ≤ k7)) → (0 : Int) ≤ z4 ∧ (Int.toNat z4 ≤ ByteArray.size s2 ∧ ByteArray.size s2 ≤ ByteArray.size s2) ∧
 I (ByteArray.extract s2 (Int.toNat z4) (ByteArray.size s2)) line p (k + 1) k5 W7 ∧
 I2 (ByteArray.extract s2 (Int.toNat z4) (ByteArray.size s2)) line p (k + 1) k5 W7 < I2 s2 line l k k2 W2)))))))))
 (∀ vs2 : Array Value, vs2 = #[.int .u8 0, .string ⟨#[]⟩, .int .i64 line] → vs2.size = 3 ∧ ∀ k8 : Nat, ∀ W8 : World, k8 = W2.heap.size →
 W8 = W2.alloc (Obj.cells (List.toArray (vs2.toList ++ [])) 87) → ∃ l4 : List Value, ∃ l5 : List Value, XHeap.Sl W8 87 3 (Value.slice l k k2) k l4 ∧ (((1 : Nat) = (0 : Nat) ∧
 some (Addr.mk k8 0 none) = none) ∨ (∃ a2 : Addr, some (Addr.mk k8 0 none) = some a2 ∧ ∀ k9 : Nat, ∀ v3 : Value, l5[k9]? = some v3 → W8.cell? (Addr.add a2 k9) = some v3)) ∧
 List.length l5 = 3 ∧ (∀ v4 : Value, v4 ∈ l5 → Value.oneCell' v4 = true) ∧ k + 1 ≤ maxLen ∧ ((k + 1) * 32 ≤ 140737488355328 ∧
 ∀ p2 : Option Addr, ∀ k10 : Nat, ∀ W9 : World, XHeap.Sl W9 87 3 (Value.slice p2 (k + 1) k10) (k + 1) (l4 ++ l5) →
 XHeap.XTouch (fun b => Value.ownBlock (Value.slice l k k2) = some b) W8 W9 → (∀ k11 : Nat, Value.ownBlock (Value.slice p2 (k + 1) k10) = some k11 →
 (Value.ownBlock (Value.slice l k k2) = some k11) ∨ (W8.heap.size ≤ k11)) → XHeap.Sl W9 87 3 (Value.slice l k k2) k l4 → ((p2 = l ∧ k10 = k2) ∨ (((XHeap.NilP l) ∨ (k2 < k + 1)) ∧
 ∀ k12 : Nat, Value.ownBlock (Value.slice p2 (k + 1) k10) = some k12 → W8.heap.size ≤ k12)) → Q (.returned (.slice p2 (k + 1) k10)) W9)))) :
 Calls Tryz.prog 24 #[.string s] W Q :=
 Sx.sound (pk := [1000052,1000091,53,50,51,93,94,95,111,112,113,130,131,132,144,171,172,54,128,142,129,56,26,55,27,57,58,97,115,133,114,116]) Tryz.func24 (.node [] [] 0 .leaf (.node [] [] 0 .leaf (.node [] [] 0 (.node [] [] 0 (.node [(0, .str), (3, .int .i64), (2, .slice)] [] 0 .leaf .leaf) .leaf) .leaf))) [Value.string s] rfl (Eq.mp (by kernel_rfl) hVC)
theorem vc48 {W : World} {Q : Ending → World → Prop} (s : ByteArray)
 (hVC :
 Calls Tryz.prog 84 #[.string s, Value.func (Fn.func 85) #[] #[]] W (fun e => fun W2 => ∃ z : Int, e = .returned (.int .i64 z) ∧ ∃ I : Int → World → Prop, Sx.split (decide (z < 0))
 (I (↑(ByteArray.size s) : Int) W2) (I z W2) ∧ ((Nat → Value) → ∀ n : Int, ∀ W3 : World, I n W3 → (0 : Int) ≤ n ∧ ((0 : Nat) ≤ Int.toNat n ∧ Int.toNat n ≤ ByteArray.size s) ∧
 Sx.split (n == 0)
 (∀ vs : Array Value, vs = #[.string ⟨#[124, 124]⟩, .string ⟨#[38, 38]⟩, .string ⟨#[61, 61]⟩, .string ⟨#[33, 61]⟩, .string ⟨#[60, 61]⟩, .string ⟨#[62, 61]⟩, .string ⟨#[60, 60]⟩, .string ⟨#[62, 62]⟩] →
 ∃ I2 : Int → World → Prop, ∃ I3 : Int → World → Nat, I2 0 W3 ∧ ((Nat → Value) → ∀ x : Int, ∀ W4 : World, I2 x W4 → Sx.split (decide (x < 8)) (((0 : Int) ≤ x ∧ x < (8 : Int)) ∧
 ∃ s2 : ByteArray, vs[Int.toNat x * 1]? = some (.string s2) ∧ Calls Tryz.prog 46 #[.string s, .string s2] W4 (fun e2 => fun W5 => ∃ t : Bool, e2 = .returned (.bool t) ∧ Sx.split t
 (Q (.returned (.tuple #[.int .u8 3, .int .i64 2])) W5) (∀ z2 : Int, z2 = IntKind.wrap .i64 (x + 1) → I2 z2 W5 ∧ I3 z2 W5 < I3 x W4))) (∃ b : UInt8, (0 : Int) ≤ (0 : Int) ∧
 s[0]? = some b ∧
 Calls Tryz.prog 47 #[.string ⟨#[124, 94, 38, 60, 62, 43, 45, 42, 47, 37, 33, 126, 40, 41, 91, 93, 123, 125, 44, 59, 61]⟩, .int .u8 (↑(UInt8.toNat b) : Int)] W4 (fun e3 => fun W6 =>
 ∃ z3 : Int, e3 = .returned (.int .i64 z3) ∧ Sx.split (decide (z3 ≥ 0)) (Q (.returned (.tuple #[.int .u8 3, .int .i64 1])) W6)
 (Q (.returned (.tuple #[.int .u8 4, .int .i64 1])) W6))))) (∃ b2 : UInt8, (0 : Int) ≤ (0 : Int) ∧ ((ByteArray.extract s 0 (Int.toNat n))[0]? = some b2 ∧
 ∀ z4 : Int, z4 = IntKind.wrap .i32 (↑(UInt8.toNat b2) : Int) → Calls Tryz.prog 86 #[.int .i32 z4] W3 (fun e4 => fun W7 => ∃ t2 : Bool, e4 = .returned (.bool t2) ∧ Sx.split t2
 (Calls Tryz.prog 88 #[.string (ByteArray.extract s 0 (Int.toNat n))] W7 (fun e5 => fun W8 => ∃ t3 : Bool, e5 = .returned (.bool t3) ∧ Sx.split t3
 (Q (.returned (.tuple #[.int .u8 3, .int .i64 n])) W8) (∃ b3 : UInt8, (0 : Int) ≤ (0 : Int) ∧ ((ByteArray.extract s 0 (Int.toNat n))[0]? = some b3 ∧
 ∀ z5 : Int, z5 = IntKind.wrap .i32 (↑(UInt8.toNat b3) : Int) → Calls Tryz.prog 86 #[.int .i32 z5] W8 (fun e6 => fun W9 => ∃ t4 : Bool, e6 = .returned (.bool t4) ∧ Sx.split t4
 (Q (.returned (.tuple #[.int .u8 1, .int .i64 n])) W9) (Calls Tryz.prog 84 #[.string (ByteArray.extract s 0 (Int.toNat n)), Value.func (Fn.func 86) #[] #[]] W9 (fun e7 => fun W10 =>
 ∃ z6 : Int, e7 = .returned (.int .i64 z6) ∧ Sx.split (decide (z6 ≥ 0)) (Q (.returned (.tuple #[.int .u8 4, .int .i64 n])) W10)
 (Q (.returned (.tuple #[.int .u8 2, .int .i64 n])) W10)))))))) (∃ b4 : UInt8, (0 : Int) ≤ (0 : Int) ∧ ((ByteArray.extract s 0 (Int.toNat n))[0]? = some b4 ∧
 ∀ z7 : Int, z7 = IntKind.wrap .i32 (↑(UInt8.toNat b4) : Int) → Calls Tryz.prog 86 #[.int .i32 z7] W7 (fun e8 => fun W11 => ∃ t5 : Bool, e8 = .returned (.bool t5) ∧ Sx.split t5
 (Q (.returned (.tuple #[.int .u8 1, .int .i64 n])) W11) (Calls Tryz.prog 84 #[.string (ByteArray.extract s 0 (Int.toNat n)), Value.func (Fn.func 86) #[] #[]] W11 (fun e9 =>
 fun W12 => ∃ z8 : Int, e9 = .returned (.int .i64 z8) ∧ Sx.split (decide (z8 ≥ 0)) (Q (.returned (.tuple #[.int .u8 4, .int .i64 n])) W12)
 (Q (.returned (.tuple #[.int .u8 2, .int .i64 n])) W12)))))))))))) :
 Calls Tryz.prog 48 #[.string s] W Q :=
 Sx.sound (pk := [1000052,1000091,53,50,51,93,94,95,111,112,113,130,131,132,144,171,172,54,128,142,129,56,26,55,27,57,58,97,115,133,114,116]) Tryz.func48 (.node [] [] 0 .leaf (.node [] [] 0 .leaf (.node [(4, .int .i64)] [0] 1 .leaf (.node [] [] 0 .leaf (.node [] [] 0 (.node [] [] 0 .leaf (.node [] [] 0 (.node [(43, .int .i64)] [42, 0] 0 .leaf .leaf) .leaf)) .leaf))))) [Value.string s] rfl (Eq.mp (by kernel_rfl) hVC)
theorem vc85 {W : World} {Q : Ending → World → Prop} (c : Int)
 (hVC :
 Calls Tryz.prog 86 #[.int .i32 c] W (fun e => fun W2 => ∃ t : Bool, e = .returned (.bool t) ∧ Sx.split (!t) (Calls Tryz.prog 87 #[.int .i32 c] W2 (fun e2 => fun W3 =>
 ∃ t2 : Bool, e2 = .returned (.bool t2) ∧ Q (.returned (.bool !t2)) W3)) (Q (.returned (.bool false)) W2))) :
 Calls Tryz.prog 85 #[.int .i32 c] W Q :=
 Sx.sound (pk := [1000052,1000091,53,50,51,93,94,95,111,112,113,130,131,132,144,171,172,54,128,142,129,56,26,55,27,57,58,97,115,133,114,116]) Tryz.func85 .leaf [Value.int .i32 c] rfl (Eq.mp (by kernel_rfl) hVC)
theorem vc88 {W : World} {Q : Ending → World → Prop} (w : ByteArray)
 (hVC :
 Sx.split (ByteArray.toList w == ByteArray.toList ⟨#[118, 97, 114]⟩) (Q (.returned (.bool true)) W) (Sx.split (ByteArray.toList w == ByteArray.toList ⟨#[102, 117, 110, 99]⟩)
 (Q (.returned (.bool true)) W) (Sx.split (ByteArray.toList w == ByteArray.toList ⟨#[108, 101, 116]⟩) (Q (.returned (.bool true)) W)
 (Sx.split (ByteArray.toList w == ByteArray.toList ⟨#[105, 102]⟩) (Q (.returned (.bool true)) W) (Sx.split (ByteArray.toList w == ByteArray.toList ⟨#[101, 108, 115, 101]⟩)
 (Q (.returned (.bool true)) W) (Sx.split (ByteArray.toList w == ByteArray.toList ⟨#[119, 104, 105, 108, 101]⟩) (Q (.returned (.bool true)) W)
 (Sx.split (ByteArray.toList w == ByteArray.toList ⟨#[114, 101, 116, 117, 114, 110]⟩) (Q (.returned (.bool true)) W)
 (Sx.split (ByteArray.toList w == ByteArray.toList ⟨#[112, 114, 105, 110, 116]⟩) (Q (.returned (.bool true)) W) (Q (.returned (.bool false)) W))))))))) :
 Calls Tryz.prog 88 #[.string w] W Q :=
 Sx.sound (pk := [1000052,1000091,53,50,51,93,94,95,111,112,113,130,131,132,144,171,172,54,128,142,129,56,26,55,27,57,58,97,115,133,114,116]) Tryz.func88 .leaf [Value.string w] rfl (Eq.mp (by kernel_rfl) hVC)
theorem vc86 {W : World} {Q : Ending → World → Prop} (c : Int)
 (hVC :
 Sx.split (c == 95) (Q (.returned (.bool true)) W) (Sx.split (decide (c ≥ 97)) (Q (.returned (.bool (decide (c ≤ 122)))) W) (Q (.returned (.bool false)) W))) :
 Calls Tryz.prog 86 #[.int .i32 c] W Q :=
 Sx.sound (pk := [1000052,1000091,53,50,51,93,94,95,111,112,113,130,131,132,144,171,172,54,128,142,129,56,26,55,27,57,58,97,115,133,114,116]) Tryz.func86 .leaf [Value.int .i32 c] rfl (Eq.mp (by kernel_rfl) hVC)
theorem vc87 {W : World} {Q : Ending → World → Prop} (c : Int)
 (hVC :
 Sx.split (decide (c ≥ 48)) (Q (.returned (.bool (decide (c ≤ 57)))) W) (Q (.returned (.bool false)) W)) :
 Calls Tryz.prog 87 #[.int .i32 c] W Q :=
 Sx.sound (pk := [1000052,1000091,53,50,51,93,94,95,111,112,113,130,131,132,144,171,172,54,128,142,129,56,26,55,27,57,58,97,115,133,114,116]) Tryz.func87 .leaf [Value.int .i32 c] rfl (Eq.mp (by kernel_rfl) hVC)
end Go.Proofs.YtojogkljneonmaaGreatDoor
