/- What each function asks, reckoned out of its text; printed by a program of mine (wip/tpl/VcTool.lean). No condition. -/
import Derived.Test.YtojogkljneonmaaGreatDoorSxB
import Derived.Test.YtojogkljneonmaaGreatDoorChecked
namespace Go.Proofs.YtojogkljneonmaaGreatDoor
open Go Go.Proofs
set_option linter.unusedVariables false
set_option maxRecDepth 100000
theorem vc57 {W : World} {Q : Ending → World → Prop} (arg0 : Nat) (arg0o : Nat) (arg1 : Array Value) (arg2 : ByteArray)
 (hVC :
 ∀ k : Nat, ∀ W2 : World, k = W.heap.size → W2 = W.alloc (Obj.cells (Value.cells (Value.agg arg1)) 87) → ∃ p : Option Nat, W2.cell? ⟨arg0, arg0o + 1, none⟩ = some (.map p) ∧
 Sx.mapp p (fun k2 => ∃ I : ByteArray → Option Value, Sx.MpS W2 k2 I ∧ ∃ v : Value, Option.getD (I arg2) Value.nilIface = v ∧ Sx.split (Option.isSome (I arg2))
 (∃ z : Int, W2.cell? ⟨k, 0 + 2, none⟩ = some (.int .i64 z) ∧ Calls Tryz.prog 52 #[.int .i64 z, .int .i64 9] W2 (fun e => fun W3 => ∃ l : List PanicEntry, e = Ending.panicked l ∧
 Q (Ending.panicked l) W3)) (Calls Tryz.prog 96 #[.pointer (some ⟨arg0, arg0o, none⟩), .string arg2] W2 (fun e2 => fun W4 => ∃ z2 : Int, e2 = .returned (.int .i64 z2) ∧
 Sx.split (decide (z2 ≥ 0)) (∃ z3 : Int, W4.cell? ⟨k, 0 + 2, none⟩ = some (.int .i64 z3) ∧ Calls Tryz.prog 52 #[.int .i64 z3, .int .i64 9] W4 (fun e3 => fun W5 =>
 ∃ l2 : List PanicEntry, e3 = Ending.panicked l2 ∧ Q (Ending.panicked l2) W5)) (∃ p2 : Option Addr, W4.cell? ⟨arg0, arg0o + 4, none⟩ = some (.pointer p2) ∧ Sx.ptr p2 (fun a =>
 ∃ z4 : Int, W4.cell? (Addr.add a 6) = some (.int .i64 z4) ∧ Sx.split (z4 == 24) (∃ z5 : Int, W4.cell? ⟨k, 0 + 2, none⟩ = some (.int .i64 z5) ∧
 Calls Tryz.prog 52 #[.int .i64 z5, .int .i64 4] W4 (fun e4 => fun W6 => ∃ l3 : List PanicEntry, e4 = Ending.panicked l3 ∧ Q (Ending.panicked l3) W6))
 (∃ I2 : World → Prop, (∀ W7 : World, W7 = World.drew W4 → ∃ p3 : Option Addr, ∃ k3 : Nat, ∃ k4 : Nat, W7.cell? ⟨arg0, arg0o + 2, none⟩ = some (.slice p3 k3 k4) ∧
 ∃ p4 : Option Addr, ∃ k5 : Nat, ∃ k6 : Nat, W7.cell? ⟨arg0, arg0o + 3, none⟩ = some (.slice p4 k5 k6) ∧ ∃ p5 : Option Addr, W7.cell? ⟨arg0, arg0o + 4, none⟩ = some (.pointer p5) ∧
 Sx.ptr p5 (fun a2 => ∃ z6 : Int, W7.cell? (Addr.add a2 6) = some (.int .i64 z6) ∧ ((∀ k7 : Nat, ∀ W8 : World, k7 = W7.heap.size → W8 = W7.alloc (Obj.cells #[.string arg2] 9) →
 RowKit.Below (W7.heap.size) W7 W8 ∧ (∃ z7 : Int, W8.cell? (Addr.add a2 6) = some (.int .i64 z7) ∧ Value.int .i64 z7 = Value.int .i64 z6) ∧
 (∃ p6 : Option Addr, W8.cell? ⟨arg0, arg0o + 4, none⟩ = some (.pointer p6) ∧ Value.pointer p6 = Value.pointer p5) ∧
 (∃ p7 : Option Addr, ∃ k8 : Nat, ∃ k9 : Nat, W8.cell? ⟨arg0, arg0o + 3, none⟩ = some (.slice p7 k8 k9) ∧ Value.slice p7 k8 k9 = Value.slice p4 k5 k6) ∧
 ((∃ l4 : List Value, ∃ l5 : List Value, XHeap.Sl W8 9 1 (Value.slice p3 k3 k4) k3 l4 ∧ (((1 : Nat) = (0 : Nat) ∧ some (Addr.mk k7 0 none) = none) ∨
 (∃ a3 : Addr, some (Addr.mk k7 0 none) = some a3 ∧ ∀ k10 : Nat, ∀ v2 : Value, l5[k10]? = some v2 → W8.cell? (Addr.add a3 k10) = some v2)) ∧ List.length l5 = 1 ∧
 (∀ v3 : Value, v3 ∈ l5 → Value.oneCell' v3 = true) ∧ k3 + 1 ≤ maxLen ∧ ((k3 + 1) * 16 ≤ 140737488355328 ∧
 ∀ p8 : Option Addr, ∀ k11 : Nat, ∀ W9 : World, XHeap.Sl W9 9 1 (Value.slice p8 (k3 + 1) k11) (k3 + 1) (l4 ++ l5) →
 XHeap.XTouch (fun b => Value.ownBlock (Value.slice p3 k3 k4) = some b) W8 W9 → (∀ k12 : Nat, Value.ownBlock (Value.slice p8 (k3 + 1) k11) = some k12 →
 (Value.ownBlock (Value.slice p3 k3 k4) = some k12) ∨ (W8.heap.size ≤ k12)) → XHeap.Sl W9 9 1 (Value.slice p3 k3 k4) k3 l4 → ((p8 = p3 ∧ k11 = k4) ∨ (((XHeap.NilP p3) ∨
 (k4 < k3 + 1)) ∧ ∀ k13 : Nat, Value.ownBlock (Value.slice p8 (k3 + 1) k11) = some k13 → W8.heap.size ≤ k13)) → (∃ z8 : Int, W9.cell? (Addr.add a2 6) = some (.int .i64 z8) ∧
 Value.int .i64 z8 = Value.int .i64 z6) ∧ (∃ p9 : Option Addr, W9.cell? ⟨arg0, arg0o + 4, none⟩ = some (.pointer p9) ∧ Value.pointer p9 = Value.pointer p5) ∧
 ((∃ p10 : Option Addr, ∃ k14 : Nat, ∃ k15 : Nat, W9.cell? ⟨arg0, arg0o + 3, none⟩ = some (.slice p10 k14 k15) ∧ Value.slice p10 k14 k15 = Value.slice p4 k5 k6) ∧
 ∀ k16 : Nat, ∀ W10 : World, k16 = W9.heap.size → W10 = W9.alloc (Obj.cells #[.int .i64 z6] 3) →
 (∃ p11 : Option Addr, ∃ k17 : Nat, ∃ k18 : Nat, W10.cell? ⟨arg0, arg0o + 3, none⟩ = some (.slice p11 k17 k18) ∧ Value.slice p11 k17 k18 = Value.slice p4 k5 k6) ∧
 ∃ l6 : List Value, ∃ l7 : List Value, XHeap.Sl W10 3 1 (Value.slice p4 k5 k6) k5 l6 ∧ (((1 : Nat) = (0 : Nat) ∧ some (Addr.mk k16 0 none) = none) ∨
 (∃ a4 : Addr, some (Addr.mk k16 0 none) = some a4 ∧ ∀ k19 : Nat, ∀ v4 : Value, l7[k19]? = some v4 → W10.cell? (Addr.add a4 k19) = some v4)) ∧ List.length l7 = 1 ∧
 (∀ v5 : Value, v5 ∈ l7 → Value.oneCell' v5 = true) ∧ k5 + 1 ≤ maxLen ∧ ((k5 + 1) * 8 ≤ 140737488355328 ∧
 ∀ p12 : Option Addr, ∀ k20 : Nat, ∀ W11 : World, XHeap.Sl W11 3 1 (Value.slice p12 (k5 + 1) k20) (k5 + 1) (l6 ++ l7) →
 XHeap.XTouch (fun b => Value.ownBlock (Value.slice p4 k5 k6) = some b) W10 W11 → (∀ k21 : Nat, Value.ownBlock (Value.slice p12 (k5 + 1) k20) = some k21 →
 (Value.ownBlock (Value.slice p4 k5 k6) = some k21) ∨ (W10.heap.size ≤ k21)) → XHeap.Sl W11 3 1 (Value.slice p4 k5 k6) k5 l6 → ((p12 = p4 ∧ k20 = k6) ∨ (((XHeap.NilP p4) ∨
 (k6 < k5 + 1)) ∧ ∀ k22 : Nat, Value.ownBlock (Value.slice p12 (k5 + 1) k20) = some k22 → W10.heap.size ≤ k22)) → (∃ v6 : Value, W11.cell? ⟨arg0, arg0o + 2, none⟩ = some v6) ∧
 (W11.frozen? ⟨arg0, arg0o + 2, none⟩ = false ∧ ∀ W12 : World, W12 = W11.setCell ⟨arg0, arg0o + 2, none⟩ (Value.slice p8 (k3 + 1) k11) →
 (∃ v7 : Value, W12.cell? ⟨arg0, arg0o + 3, none⟩ = some v7) ∧ (W12.frozen? ⟨arg0, arg0o + 3, none⟩ = false ∧
 ∀ W13 : World, W13 = W12.setCell ⟨arg0, arg0o + 3, none⟩ (Value.slice p12 (k5 + 1) k20) → I2 W13)))))) ∧ ∀ k23 : Nat, ∀ W14 : World, k23 = W8.heap.size →
 W14 = W8.alloc (Obj.cells #[.int .i64 z6] 3) → RowKit.Below (W7.heap.size) W7 W14 ∧
 (∃ p13 : Option Addr, ∃ k24 : Nat, ∃ k25 : Nat, W14.cell? ⟨arg0, arg0o + 3, none⟩ = some (.slice p13 k24 k25) ∧ Value.slice p13 k24 k25 = Value.slice p4 k5 k6) ∧
 ∃ l8 : List Value, ∃ l9 : List Value, XHeap.Sl W14 9 1 (Value.slice p3 k3 k4) k3 l8 ∧ (((1 : Nat) = (0 : Nat) ∧ some (Addr.mk k7 0 none) = none) ∨
 (∃ a5 : Addr, some (Addr.mk k7 0 none) = some a5 ∧ ∀ k26 : Nat, ∀ v8 : Value, l9[k26]? = some v8 → W14.cell? (Addr.add a5 k26) = some v8)) ∧ List.length l9 = 1 ∧
 (∀ v9 : Value, v9 ∈ l9 → Value.oneCell' v9 = true) ∧ k3 + 1 ≤ maxLen ∧ ((k3 + 1) * 16 ≤ 140737488355328 ∧
 ∀ p14 : Option Addr, ∀ k27 : Nat, ∀ W15 : World, XHeap.Sl W15 9 1 (Value.slice p14 (k3 + 1) k27) (k3 + 1) (l8 ++ l9) →
 XHeap.XTouch (fun b => Value.ownBlock (Value.slice p3 k3 k4) = some b) W14 W15 → (∀ k28 : Nat, Value.ownBlock (Value.slice p14 (k3 + 1) k27) = some k28 →
 (Value.ownBlock (Value.slice p3 k3 k4) = some k28) ∨ (W14.heap.size ≤ k28)) → XHeap.Sl W15 9 1 (Value.slice p3 k3 k4) k3 l8 → ((p14 = p3 ∧ k27 = k4) ∨ (((XHeap.NilP p3) ∨
 (k4 < k3 + 1)) ∧ ∀ k29 : Nat, Value.ownBlock (Value.slice p14 (k3 + 1) k27) = some k29 → W14.heap.size ≤ k29)) →
 (∃ p15 : Option Addr, ∃ k30 : Nat, ∃ k31 : Nat, W15.cell? ⟨arg0, arg0o + 3, none⟩ = some (.slice p15 k30 k31) ∧ Value.slice p15 k30 k31 = Value.slice p4 k5 k6) ∧
 ∃ l10 : List Value, ∃ l11 : List Value, XHeap.Sl W15 3 1 (Value.slice p4 k5 k6) k5 l10 ∧ (((1 : Nat) = (0 : Nat) ∧ some (Addr.mk k23 0 none) = none) ∨
 (∃ a6 : Addr, some (Addr.mk k23 0 none) = some a6 ∧ ∀ k32 : Nat, ∀ v10 : Value, l11[k32]? = some v10 → W15.cell? (Addr.add a6 k32) = some v10)) ∧ List.length l11 = 1 ∧
 (∀ v11 : Value, v11 ∈ l11 → Value.oneCell' v11 = true) ∧ k5 + 1 ≤ maxLen ∧ ((k5 + 1) * 8 ≤ 140737488355328 ∧
 ∀ p16 : Option Addr, ∀ k33 : Nat, ∀ W16 : World, XHeap.Sl W16 3 1 (Value.slice p16 (k5 + 1) k33) (k5 + 1) (l10 ++ l11) →
 XHeap.XTouch (fun b => Value.ownBlock (Value.slice p4 k5 k6) = some b) W15 W16 → (∀ k34 : Nat, Value.ownBlock (Value.slice p16 (k5 + 1) k33) = some k34 →
 (Value.ownBlock (Value.slice p4 k5 k6) = some k34) ∨ (W15.heap.size ≤ k34)) → XHeap.Sl W16 3 1 (Value.slice p4 k5 k6) k5 l10 → ((p16 = p4 ∧ k33 = k6) ∨ (((XHeap.NilP p4) ∨
 (k6 < k5 + 1)) ∧ ∀ k35 : Nat, Value.ownBlock (Value.slice p16 (k5 + 1) k33) = some k35 → W15.heap.size ≤ k35)) → (∃ v12 : Value, W16.cell? ⟨arg0, arg0o + 2, none⟩ = some v12) ∧
 (W16.frozen? ⟨arg0, arg0o + 2, none⟩ = false ∧ ∀ W17 : World, W17 = W16.setCell ⟨arg0, arg0o + 2, none⟩ (Value.slice p14 (k3 + 1) k27) →
 (∃ v13 : Value, W17.cell? ⟨arg0, arg0o + 3, none⟩ = some v13) ∧ (W17.frozen? ⟨arg0, arg0o + 3, none⟩ = false ∧
 ∀ W18 : World, W18 = W17.setCell ⟨arg0, arg0o + 3, none⟩ (Value.slice p16 (k5 + 1) k33) → I2 W18)))))) ∧ ∀ k36 : Nat, ∀ W19 : World, k36 = W7.heap.size →
 W19 = W7.alloc (Obj.cells #[.int .i64 z6] 3) → RowKit.Below (W7.heap.size) W7 W19 ∧
 ((∃ p17 : Option Addr, ∃ k37 : Nat, ∃ k38 : Nat, W19.cell? ⟨arg0, arg0o + 3, none⟩ = some (.slice p17 k37 k38) ∧ Value.slice p17 k37 k38 = Value.slice p4 k5 k6) ∧
 ∀ k39 : Nat, ∀ W20 : World, k39 = W19.heap.size → W20 = W19.alloc (Obj.cells #[.string arg2] 9) → RowKit.Below (W7.heap.size) W7 W20 ∧
 (∃ p18 : Option Addr, ∃ k40 : Nat, ∃ k41 : Nat, W20.cell? ⟨arg0, arg0o + 3, none⟩ = some (.slice p18 k40 k41) ∧ Value.slice p18 k40 k41 = Value.slice p4 k5 k6) ∧
 ∃ l12 : List Value, ∃ l13 : List Value, XHeap.Sl W20 9 1 (Value.slice p3 k3 k4) k3 l12 ∧ (((1 : Nat) = (0 : Nat) ∧ some (Addr.mk k39 0 none) = none) ∨
 (∃ a7 : Addr, some (Addr.mk k39 0 none) = some a7 ∧ ∀ k42 : Nat, ∀ v14 : Value, l13[k42]? = some v14 → W20.cell? (Addr.add a7 k42) = some v14)) ∧ List.length l13 = 1 ∧
 (∀ v15 : Value, v15 ∈ l13 → Value.oneCell' v15 = true) ∧ k3 + 1 ≤ maxLen ∧ ((k3 + 1) * 16 ≤ 140737488355328 ∧
 ∀ p19 : Option Addr, ∀ k43 : Nat, ∀ W21 : World, XHeap.Sl W21 9 1 (Value.slice p19 (k3 + 1) k43) (k3 + 1) (l12 ++ l13) →
 XHeap.XTouch (fun b => Value.ownBlock (Value.slice p3 k3 k4) = some b) W20 W21 → (∀ k44 : Nat, Value.ownBlock (Value.slice p19 (k3 + 1) k43) = some k44 →
 (Value.ownBlock (Value.slice p3 k3 k4) = some k44) ∨ (W20.heap.size ≤ k44)) → XHeap.Sl W21 9 1 (Value.slice p3 k3 k4) k3 l12 → ((p19 = p3 ∧ k43 = k4) ∨ (((XHeap.NilP p3) ∨
 (k4 < k3 + 1)) ∧ ∀ k45 : Nat, Value.ownBlock (Value.slice p19 (k3 + 1) k43) = some k45 → W20.heap.size ≤ k45)) →
 (∃ p20 : Option Addr, ∃ k46 : Nat, ∃ k47 : Nat, W21.cell? ⟨arg0, arg0o + 3, none⟩ = some (.slice p20 k46 k47) ∧ Value.slice p20 k46 k47 = Value.slice p4 k5 k6) ∧
 ∃ l14 : List Value, ∃ l15 : List Value, XHeap.Sl W21 3 1 (Value.slice p4 k5 k6) k5 l14 ∧ (((1 : Nat) = (0 : Nat) ∧ some (Addr.mk k36 0 none) = none) ∨
 (∃ a8 : Addr, some (Addr.mk k36 0 none) = some a8 ∧ ∀ k48 : Nat, ∀ v16 : Value, l15[k48]? = some v16 → W21.cell? (Addr.add a8 k48) = some v16)) ∧ List.length l15 = 1 ∧
 (∀ v17 : Value, v17 ∈ l15 → Value.oneCell' v17 = true) ∧ k5 + 1 ≤ maxLen ∧ ((k5 + 1) * 8 ≤ 140737488355328 ∧
 ∀ p21 : Option Addr, ∀ k49 : Nat, ∀ W22 : World, XHeap.Sl W22 3 1 (Value.slice p21 (k5 + 1) k49) (k5 + 1) (l14 ++ l15) →
 XHeap.XTouch (fun b => Value.ownBlock (Value.slice p4 k5 k6) = some b) W21 W22 → (∀ k50 : Nat, Value.ownBlock (Value.slice p21 (k5 + 1) k49) = some k50 →
 (Value.ownBlock (Value.slice p4 k5 k6) = some k50) ∨ (W21.heap.size ≤ k50)) → XHeap.Sl W22 3 1 (Value.slice p4 k5 k6) k5 l14 → ((p21 = p4 ∧ k49 = k6) ∨ (((XHeap.NilP p4) ∨
 (k6 < k5 + 1)) ∧ ∀ k51 : Nat, Value.ownBlock (Value.slice p21 (k5 + 1) k49) = some k51 → W21.heap.size ≤ k51)) → (∃ v18 : Value, W22.cell? ⟨arg0, arg0o + 2, none⟩ = some v18) ∧
 (W22.frozen? ⟨arg0, arg0o + 2, none⟩ = false ∧ ∀ W23 : World, W23 = W22.setCell ⟨arg0, arg0o + 2, none⟩ (Value.slice p19 (k3 + 1) k43) →
 (∃ v19 : Value, W23.cell? ⟨arg0, arg0o + 3, none⟩ = some v19) ∧ (W23.frozen? ⟨arg0, arg0o + 3, none⟩ = false ∧
 ∀ W24 : World, W24 = W23.setCell ⟨arg0, arg0o + 3, none⟩ (Value.slice p21 (k5 + 1) k49) → I2 W24)))))))) ∧ ((Nat → Value) → ∀ W25 : World, I2 W25 →
 ∃ p22 : Option Addr, W25.cell? ⟨arg0, arg0o + 4, none⟩ = some (.pointer p22) ∧ Sx.ptr p22 (fun a9 => ∃ z9 : Int, W25.cell? (Addr.add a9 6) = some (.int .i64 z9) ∧
 ∀ z10 : Int, z10 = IntKind.wrap .i64 (z9 + 1) → Sx.ptr p22 (fun a10 => (∃ v20 : Value, W25.cell? (Addr.add a10 6) = some v20) ∧ (W25.frozen? (Addr.add a10 6) = false ∧
 ∀ W26 : World, W26 = W25.setCell (Addr.add a10 6) (Value.int .i64 z10) → ∃ p23 : Option Addr, W26.cell? ⟨arg0, arg0o + 4, none⟩ = some (.pointer p23) ∧ Sx.ptr p23 (fun a11 =>
 ∃ z11 : Int, W26.cell? (Addr.add a11 6) = some (.int .i64 z11) ∧ ∀ z12 : Int, z12 = IntKind.wrap .i64 (z11 - 1) → Q (.returned (.int .i64 z12)) W26)))))))))))) :
 Calls Tryz.prog 57 #[.pointer (some ⟨arg0, arg0o, none⟩), .agg arg1, .string arg2] W Q :=
 Sx.sound (pk := [1000052,1000091,53,50,51,93,94,95,111,112,113,130,131,132,144,171,172,54,128,142,129,56,26,55,27,57,58,97,115,133,114,116]) Tryz.func57 (.node [] [] 0 .leaf (.node [] [] 0 .leaf (.node [] [] 0 .leaf (.node [] [0] 1 (.node [] [] 1001009 .leaf .leaf) .leaf)))) [Value.pointer (some ⟨arg0, arg0o, none⟩), .agg arg1, .string arg2] rfl (Eq.mp (by kernel_rfl) hVC)
theorem vc58 {W : World} {Q : Ending → World → Prop} (s : Nat) (so : Nat) (b : Nat) (bo : Nat)
 (hVC :
 ∃ p : Option Addr, ∃ k : Nat, ∃ k2 : Nat, W.cell? ⟨s, so + 2, none⟩ = some (.slice p k k2) ∧
 ∃ p2 : Option Addr, ∃ k3 : Nat, ∃ k4 : Nat, W.cell? ⟨b, bo, none⟩ = some (.slice p2 k3 k4) ∧ ∃ I : Int → World → Prop, ∃ I2 : Int → World → Nat, I 0 W ∧ ((Nat → Value) →
 ∀ x : Int, ∀ W2 : World, I x W2 → Sx.split (decide (x < (k3 : Int))) (((0 : Int) ≤ x ∧ x < (k3 : Int)) ∧ Sx.adr p2 (fun k5 => fun k6 =>
 ∃ v : Value, W2.cell? ⟨k5, k6 + Int.toNat x * 1, none⟩ = some v ∧ Calls Tryz.prog 97 #[.pointer (some ⟨s, so, none⟩), v] W2 (fun e => fun W3 => (e = .returned (.tuple #[]) ∧
 ∀ z : Int, z = IntKind.wrap .i64 (x + 1) → I z W3 ∧ I2 z W3 < I2 x W2) ∨ (∃ l : List PanicEntry, e = Ending.panicked l ∧ Q (Ending.panicked l) W3))))
 (∀ W4 : World, W4 = World.drew W2 → ∃ p3 : Option Addr, ∃ k7 : Nat, ∃ k8 : Nat, W4.cell? ⟨s, so + 2, none⟩ = some (.slice p3 k7 k8) ∧ ((0 : Int) ≤ (k : Int) ∧
 (k : Int) ≤ (k8 : Int)) ∧ ∃ p4 : Option Addr, ∃ k9 : Nat, ∃ k10 : Nat, W4.cell? ⟨s, so + 3, none⟩ = some (.slice p4 k9 k10) ∧ ((0 : Int) ≤ (k : Int) ∧ (k : Int) ≤ (k10 : Int)) ∧
 (∃ v2 : Value, W4.cell? ⟨s, so + 2, none⟩ = some v2) ∧ (W4.frozen? ⟨s, so + 2, none⟩ = false ∧
 ∀ W5 : World, W5 = W4.setCell ⟨s, so + 2, none⟩ (Value.slice p3 (Int.toNat (k : Int)) k8) → (∃ v3 : Value, W5.cell? ⟨s, so + 3, none⟩ = some v3) ∧
 (W5.frozen? ⟨s, so + 3, none⟩ = false ∧ ∀ W6 : World, W6 = W5.setCell ⟨s, so + 3, none⟩ (Value.slice p4 (Int.toNat (k : Int)) k10) → Q (.returned (.tuple #[])) W6))))) :
 Calls Tryz.prog 58 #[.pointer (some ⟨s, so, none⟩), .pointer (some ⟨b, bo, none⟩)] W Q :=
 Sx.sound (pk := [1000052,1000091,53,50,51,93,94,95,111,112,113,130,131,132,144,171,172,54,128,142,129,56,26,55,27,57,58,97,115,133,114,116]) Tryz.func58 (.node [] [] 0 .leaf (.node [] [] 0 (.node [] [] 0 .leaf (.node [] [] 0 (.node [(17, .int .i64)] [16, 15, 0, 4] 0 .leaf .leaf) .leaf)) (.node [] [] 1001017 .leaf .leaf))) [Value.pointer (some ⟨s, so, none⟩), .pointer (some ⟨b, bo, none⟩)] rfl (Eq.mp (by kernel_rfl) hVC)
theorem vc96 {W : World} {Q : Ending → World → Prop} (s : Nat) (so : Nat) (n : ByteArray)
 (hVC :
 ∃ p : Option Addr, ∃ k : Nat, ∃ k2 : Nat, W.cell? ⟨s, so + 2, none⟩ = some (.slice p k k2) ∧ ∃ I : Int → World → Prop, ∃ I2 : Int → World → Nat, I 0 W ∧ ((Nat → Value) →
 ∀ x : Int, ∀ W2 : World, I x W2 → Sx.split (decide (x < (k : Int))) (((0 : Int) ≤ x ∧ x < (k : Int)) ∧ Sx.adr p (fun k3 => fun k4 =>
 ∃ s2 : ByteArray, W2.cell? ⟨k3, k4 + Int.toNat x * 1, none⟩ = some (.string s2) ∧ Sx.split (ByteArray.toList s2 == ByteArray.toList n)
 (∃ p2 : Option Addr, ∃ k5 : Nat, ∃ k6 : Nat, W2.cell? ⟨s, so + 3, none⟩ = some (.slice p2 k5 k6) ∧ ((0 : Int) ≤ x ∧ x < (k5 : Int)) ∧ Sx.adr p2 (fun k7 => fun k8 =>
 ∃ z : Int, W2.cell? ⟨k7, k8 + Int.toNat x * 1, none⟩ = some (.int .i64 z) ∧ Q (.returned (.int .i64 z)) W2)) (∀ z2 : Int, z2 = IntKind.wrap .i64 (x + 1) → I z2 W2 ∧
 I2 z2 W2 < I2 x W2))) (Q (.returned (.int .i64 (-1))) W2))) :
 Calls Tryz.prog 96 #[.pointer (some ⟨s, so, none⟩), .string n] W Q :=
 Sx.sound (pk := [1000052,1000091,53,50,51,93,94,95,111,112,113,130,131,132,144,171,172,54,128,142,129,56,26,55,27,57,58,97,115,133,114,116]) Tryz.func96 (.node [] [] 0 .leaf (.node [] [] 0 (.node [] [] 0 .leaf (.node [] [] 0 (.node [(12, .int .i64)] [11, 10, 1, 0] 0 .leaf .leaf) .leaf)) .leaf)) [Value.pointer (some ⟨s, so, none⟩), .string n] rfl (Eq.mp (by kernel_rfl) hVC)
theorem vc97 {W : World} {Q : Ending → World → Prop} (arg0 : Nat) (arg0o : Nat) (arg1 : Value)
 (hVC :
 Sx.tagOf arg1 165 (fun v => ∃ p : Option Addr, v = Value.pointer p ∧ Sx.ptr p (fun a => ∃ t : Bool, W.cell? (Addr.add a 5) = some (.bool t) ∧ Sx.split (!t) (Sx.ptr p (fun a2 =>
 ∃ p2 : Option Addr, W.cell? (Addr.add a2 3) = some (.pointer p2) ∧ Calls Tryz.prog 114 #[.pointer (some ⟨arg0, arg0o, none⟩), .pointer p2] W (fun e => fun W2 =>
 (e = .returned (.tuple #[]) ∧ Sx.ptr p (fun a3 => ∃ v2 : Value, W2.cell? (Addr.add a3 4) = some v2 ∧
 Calls Tryz.prog 115 #[.pointer (some ⟨arg0, arg0o, none⟩), v2, .int .i64 0] W2 (fun e2 => fun W3 => (e2 = .returned (.tuple #[]) ∧ Sx.ptr p (fun a4 =>
 ∃ t2 : Bool, W3.cell? (Addr.add a4 5) = some (.bool t2) ∧ Sx.split t2 (∀ W4 : World, W4 = World.drew W3 → Sx.ptr p (fun a5 => Sx.ptr p (fun a6 => Sx.ptr p (fun a7 =>
 ∃ vs : Array Value, vs.size = 3 ∧ Sx.cellsAt W4 (Addr.add a6 0) vs ∧ ∃ p3 : Option Addr, W4.cell? (Addr.add a7 3) = some (.pointer p3) ∧ Sx.ptr p3 (fun a8 =>
 ∃ s : ByteArray, W4.cell? (Addr.add (Addr.add a8 0) 1) = some (.string s) ∧ ∃ p4 : Option Addr, W4.cell? (Addr.add a5 3) = some (.pointer p4) ∧
 Calls Tryz.prog 57 #[.pointer (some ⟨arg0, arg0o, none⟩), .agg vs, .string s] W4 (fun e3 => fun W5 => (∃ z : Int, e3 = .returned (.int .i64 z) ∧
 (∃ p5 : Option Addr, W5.cell? (Addr.add a5 3) = some (.pointer p5) ∧ Value.pointer p5 = Value.pointer p4) ∧ Sx.ptr p4 (fun a9 => (∃ v3 : Value, W5.cell? (Addr.add a9 3) = some v3) ∧
 (W5.frozen? (Addr.add a9 3) = false ∧ ∀ W6 : World, W6 = W5.setCell (Addr.add a9 3) (Value.int .i64 z) → Q (.returned (.tuple #[])) W6))) ∨
 (∃ l : List PanicEntry, e3 = Ending.panicked l ∧ Q (Ending.panicked l) W5))))))) (Q (.returned (.tuple #[])) W3))) ∨ (∃ l2 : List PanicEntry, e2 = Ending.panicked l2 ∧
 Q (Ending.panicked l2) W3)))) ∨ (∃ l3 : List PanicEntry, e = Ending.panicked l3 ∧ Q (Ending.panicked l3) W2)))) (Sx.ptr p (fun a10 =>
 ∃ v4 : Value, W.cell? (Addr.add a10 4) = some v4 ∧ Calls Tryz.prog 115 #[.pointer (some ⟨arg0, arg0o, none⟩), v4, .int .i64 0] W (fun e4 => fun W7 => (e4 = .returned (.tuple #[]) ∧
 Sx.ptr p (fun a11 => ∃ t3 : Bool, W7.cell? (Addr.add a11 5) = some (.bool t3) ∧ Sx.split t3 (∀ W8 : World, W8 = World.drew W7 → Sx.ptr p (fun a12 => Sx.ptr p (fun a13 =>
 Sx.ptr p (fun a14 => ∃ vs2 : Array Value, vs2.size = 3 ∧ Sx.cellsAt W8 (Addr.add a13 0) vs2 ∧ ∃ p6 : Option Addr, W8.cell? (Addr.add a14 3) = some (.pointer p6) ∧
 Sx.ptr p6 (fun a15 => ∃ s2 : ByteArray, W8.cell? (Addr.add (Addr.add a15 0) 1) = some (.string s2) ∧ ∃ p7 : Option Addr, W8.cell? (Addr.add a12 3) = some (.pointer p7) ∧
 Calls Tryz.prog 57 #[.pointer (some ⟨arg0, arg0o, none⟩), .agg vs2, .string s2] W8 (fun e5 => fun W9 => (∃ z2 : Int, e5 = .returned (.int .i64 z2) ∧
 (∃ p8 : Option Addr, W9.cell? (Addr.add a12 3) = some (.pointer p8) ∧ Value.pointer p8 = Value.pointer p7) ∧ Sx.ptr p7 (fun a16 =>
 (∃ v5 : Value, W9.cell? (Addr.add a16 3) = some v5) ∧ (W9.frozen? (Addr.add a16 3) = false ∧ ∀ W10 : World, W10 = W9.setCell (Addr.add a16 3) (Value.int .i64 z2) →
 Q (.returned (.tuple #[])) W10))) ∨ (∃ l4 : List PanicEntry, e5 = Ending.panicked l4 ∧ Q (Ending.panicked l4) W9))))))) (Q (.returned (.tuple #[])) W7))) ∨
 (∃ l5 : List PanicEntry, e4 = Ending.panicked l5 ∧ Q (Ending.panicked l5) W7)))))) (Sx.tagOf arg1 174 (fun v6 => ∃ p9 : Option Addr, v6 = Value.pointer p9 ∧ Sx.ptr p9 (fun a17 =>
 ∃ p10 : Option Addr, W.cell? (Addr.add a17 0) = some (.pointer p10) ∧ Calls Tryz.prog 116 #[.pointer (some ⟨arg0, arg0o, none⟩), .pointer p10] W (fun e6 => fun W11 =>
 (e6 = .returned (.tuple #[]) ∧ Sx.ptr p9 (fun a18 => ∃ p11 : Option Addr, W11.cell? (Addr.add a18 0) = some (.pointer p11) ∧ Sx.ptr p11 (fun a19 =>
 ∃ v7 : Value, W11.cell? (Addr.add a19 5) = some v7 ∧ Calls Tryz.prog 115 #[.pointer (some ⟨arg0, arg0o, none⟩), v7, .int .i64 0] W11 (fun e7 => fun W12 =>
 (e7 = .returned (.tuple #[]) ∧ Sx.ptr p9 (fun a20 => ∃ v8 : Value, W12.cell? (Addr.add a20 1) = some v8 ∧
 Calls Tryz.prog 115 #[.pointer (some ⟨arg0, arg0o, none⟩), v8, .int .i64 1] W12 (fun e8 => fun W13 => (e8 = .returned (.tuple #[]) ∧ Q (.returned (.tuple #[])) W13) ∨
 (∃ l6 : List PanicEntry, e8 = Ending.panicked l6 ∧ Q (Ending.panicked l6) W13)))) ∨ (∃ l7 : List PanicEntry, e7 = Ending.panicked l7 ∧ Q (Ending.panicked l7) W12))))) ∨
 (∃ l8 : List PanicEntry, e6 = Ending.panicked l8 ∧ Q (Ending.panicked l8) W11)))) (Sx.tagOf arg1 181 (fun v9 => ∃ p12 : Option Addr, v9 = Value.pointer p12 ∧ Sx.ptr p12 (fun a21 =>
 ∃ v10 : Value, W.cell? (Addr.add a21 0) = some v10 ∧ Calls Tryz.prog 115 #[.pointer (some ⟨arg0, arg0o, none⟩), v10, .int .i64 0] W (fun e9 => fun W14 =>
 (e9 = .returned (.tuple #[]) ∧ Sx.ptr p12 (fun a22 => ∃ p13 : Option Addr, W14.cell? (Addr.add a22 1) = some (.pointer p13) ∧
 Calls Tryz.prog 58 #[.pointer (some ⟨arg0, arg0o, none⟩), .pointer p13] W14 (fun e10 => fun W15 => (e10 = .returned (.tuple #[]) ∧ Sx.ptr p12 (fun a23 =>
 ∃ p14 : Option Addr, W15.cell? (Addr.add a23 2) = some (.pointer p14) ∧ Sx.split (Option.isSome p14) (Sx.ptr p12 (fun a24 =>
 ∃ p15 : Option Addr, W15.cell? (Addr.add a24 2) = some (.pointer p15) ∧ Calls Tryz.prog 58 #[.pointer (some ⟨arg0, arg0o, none⟩), .pointer p15] W15 (fun e11 => fun W16 =>
 (e11 = .returned (.tuple #[]) ∧ Q (.returned (.tuple #[])) W16) ∨ (∃ l9 : List PanicEntry, e11 = Ending.panicked l9 ∧ Q (Ending.panicked l9) W16))))
 (Q (.returned (.tuple #[])) W15))) ∨ (∃ l10 : List PanicEntry, e10 = Ending.panicked l10 ∧ Q (Ending.panicked l10) W15)))) ∨ (∃ l11 : List PanicEntry, e9 = Ending.panicked l11 ∧
 Q (Ending.panicked l11) W14)))) (Sx.tagOf arg1 184 (fun v11 => ∃ p16 : Option Addr, v11 = Value.pointer p16 ∧ Sx.ptr p16 (fun a25 =>
 ∃ v12 : Value, W.cell? (Addr.add a25 0) = some v12 ∧ Calls Tryz.prog 115 #[.pointer (some ⟨arg0, arg0o, none⟩), v12, .int .i64 0] W (fun e12 => fun W17 =>
 (e12 = .returned (.tuple #[]) ∧ Sx.ptr p16 (fun a26 => ∃ p17 : Option Addr, W17.cell? (Addr.add a26 1) = some (.pointer p17) ∧
 Calls Tryz.prog 58 #[.pointer (some ⟨arg0, arg0o, none⟩), .pointer p17] W17 (fun e13 => fun W18 => (e13 = .returned (.tuple #[]) ∧ Q (.returned (.tuple #[])) W18) ∨
 (∃ l12 : List PanicEntry, e13 = Ending.panicked l12 ∧ Q (Ending.panicked l12) W18)))) ∨ (∃ l13 : List PanicEntry, e12 = Ending.panicked l13 ∧ Q (Ending.panicked l13) W17))))
 (Sx.tagOf arg1 187 (fun v13 => ∃ p18 : Option Addr, v13 = Value.pointer p18 ∧ Sx.ptr p18 (fun a27 => ∃ v14 : Value, W.cell? (Addr.add a27 0) = some v14 ∧
 Calls Tryz.prog 115 #[.pointer (some ⟨arg0, arg0o, none⟩), v14, .int .i64 0] W (fun e14 => fun W19 => (e14 = .returned (.tuple #[]) ∧ Q (.returned (.tuple #[])) W19) ∨
 (∃ l14 : List PanicEntry, e14 = Ending.panicked l14 ∧ Q (Ending.panicked l14) W19)))) (Sx.tagOf arg1 190 (fun v15 => ∃ p19 : Option Addr, v15 = Value.pointer p19 ∧
 Sx.ptr p19 (fun a28 => ∃ v16 : Value, W.cell? (Addr.add a28 0) = some v16 ∧ Calls Tryz.prog 115 #[.pointer (some ⟨arg0, arg0o, none⟩), v16, .int .i64 0] W (fun e15 => fun W20 =>
 (e15 = .returned (.tuple #[]) ∧ Q (.returned (.tuple #[])) W20) ∨ (∃ l15 : List PanicEntry, e15 = Ending.panicked l15 ∧ Q (Ending.panicked l15) W20))))
 (Sx.tagOf arg1 192 (fun v17 => ∃ p20 : Option Addr, v17 = Value.pointer p20 ∧ Sx.ptr p20 (fun a29 => ∃ p21 : Option Addr, W.cell? (Addr.add a29 0) = some (.pointer p21) ∧
 Calls Tryz.prog 115 #[.pointer (some ⟨arg0, arg0o, none⟩), .iface 193 (Value.pointer p21), .int .i64 0] W (fun e16 => fun W21 => (e16 = .returned (.tuple #[]) ∧
 Q (.returned (.tuple #[])) W21) ∨ (∃ l16 : List PanicEntry, e16 = Ending.panicked l16 ∧ Q (Ending.panicked l16) W21)))) (Sx.tagOf arg1 113 (fun v18 =>
 ∃ p22 : Option Addr, v18 = Value.pointer p22 ∧ Calls Tryz.prog 58 #[.pointer (some ⟨arg0, arg0o, none⟩), .pointer p22] W (fun e17 => fun W22 => (e17 = .returned (.tuple #[]) ∧
 Q (.returned (.tuple #[])) W22) ∨ (∃ l17 : List PanicEntry, e17 = Ending.panicked l17 ∧ Q (Ending.panicked l17) W22))) (Q (.returned (.tuple #[])) W))))))))) :
 Calls Tryz.prog 97 #[.pointer (some ⟨arg0, arg0o, none⟩), arg1] W Q :=
 Sx.sound (pk := [1000052,1000091,53,50,51,93,94,95,111,112,113,130,131,132,144,171,172,54,128,142,129,56,26,55,27,57,58,97,115,133,114,116]) Tryz.func97 (.node [] [] 0 .leaf (.node [] [] 0 (.node [] [] 0 .leaf (.node [] [] 0 (.node [] [] 0 .leaf (.node [] [] 0 .leaf (.node [] [] 0 .leaf (.node [] [] 0 .leaf (.node [] [] 0 (.node [] [] 1001018 .leaf .leaf) .leaf))))) .leaf)) .leaf)) [Value.pointer (some ⟨arg0, arg0o, none⟩), arg1] rfl (Eq.mp (by kernel_rfl) hVC)
theorem vc114 {W : World} {Q : Ending → World → Prop} (s : Nat) (so : Nat) (n : Nat) (no : Nat)
 (hVC :
 ∃ s2 : ByteArray, W.cell? ⟨n, no + 1, none⟩ = some (.string s2) ∧ Calls Tryz.prog 96 #[.pointer (some ⟨s, so, none⟩), .string s2] W (fun e => fun W2 =>
 ∃ z : Int, e = .returned (.int .i64 z) ∧ (∃ v : Value, W2.cell? ⟨n, no + 3, none⟩ = some v) ∧ (W2.frozen? ⟨n, no + 3, none⟩ = false ∧
 ∀ W3 : World, W3 = W2.setCell ⟨n, no + 3, none⟩ (Value.int .i64 z) → ∃ z2 : Int, W3.cell? ⟨n, no + 3, none⟩ = some (.int .i64 z2) ∧ Sx.split (decide (z2 ≥ 0))
 (Q (.returned (.tuple #[])) W3) (∃ p : Option Nat, W3.cell? ⟨s, so + 1, none⟩ = some (.map p) ∧ ∃ s3 : ByteArray, W3.cell? ⟨n, no + 1, none⟩ = some (.string s3) ∧
 Sx.mapp p (fun k => ∃ I : ByteArray → Option Value, Sx.MpS W3 k I ∧ ∃ v2 : Value, Option.getD (I s3) Value.nilIface = v2 ∧ Sx.tagOf v2 125 (fun v3 =>
 ∃ p2 : Option Addr, v3 = Value.pointer p2 ∧ ∀ W4 : World, ∀ k2 : Nat, W4 = W3.drewN k2 → Sx.ptr p2 (fun a => ∃ z3 : Int, W4.cell? (Addr.add a 5) = some (.int .i64 z3) ∧
 Sx.split (decide (z3 > 0)) (∃ z4 : Int, W4.cell? ⟨n, no + 2, none⟩ = some (.int .i64 z4) ∧ Calls Tryz.prog 52 #[.int .i64 z4, .int .i64 9] W4 (fun e2 => fun W5 =>
 ∃ l : List PanicEntry, e2 = Ending.panicked l ∧ Q (Ending.panicked l) W5)) (Sx.ptr p2 (fun a2 => ∃ z5 : Int, W4.cell? (Addr.add a2 4) = some (.int .i64 z5) ∧
 (∃ v4 : Value, W4.cell? ⟨n, no + 4, none⟩ = some v4) ∧ (W4.frozen? ⟨n, no + 4, none⟩ = false ∧ ∀ W6 : World, W6 = W4.setCell ⟨n, no + 4, none⟩ (Value.int .i64 z5) →
 Q (.returned (.tuple #[])) W6))))) (∀ W7 : World, ∀ k3 : Nat, W7 = W3.drewN k3 → ∃ z6 : Int, W7.cell? ⟨n, no + 2, none⟩ = some (.int .i64 z6) ∧
 Calls Tryz.prog 52 #[.int .i64 z6, .int .i64 9] W7 (fun e3 => fun W8 => ∃ l2 : List PanicEntry, e3 = Ending.panicked l2 ∧ Q (Ending.panicked l2) W8))))))) :
 Calls Tryz.prog 114 #[.pointer (some ⟨s, so, none⟩), .pointer (some ⟨n, no, none⟩)] W Q :=
 Sx.sound (pk := [1000052,1000091,53,50,51,93,94,95,111,112,113,130,131,132,144,171,172,54,128,142,129,56,26,55,27,57,58,97,115,133,114,116]) Tryz.func114 .leaf [Value.pointer (some ⟨s, so, none⟩), .pointer (some ⟨n, no, none⟩)] rfl (Eq.mp (by kernel_rfl) hVC)
theorem vc115 {W : World} {Q : Ending → World → Prop} (s : Nat) (so : Nat) (x : Value) (beside : Int)
 (hVC :
 Calls Tryz.prog 133 #[.pointer (some ⟨s, so, none⟩), x] W (fun e => fun W2 => (e = .returned (.tuple #[]) ∧
 ∃ u : FuncId, ∃ vs : Array Value, Sx.meth Tryz.prog x "Need" #[] W2 u vs ∧ Calls Tryz.prog u vs W2 (fun e2 => fun W3 => ∃ z : Int, e2 = .returned (.int .i64 z) ∧
 ∀ z2 : Int, z2 = IntKind.wrap .i64 (z + beside) → Sx.split (decide (z2 > 8)) (Calls Tryz.prog 134 #[x] W3 (fun e3 => fun W4 => ∃ z3 : Int, e3 = .returned (.int .i64 z3) ∧
 Calls Tryz.prog 52 #[.int .i64 z3, .int .i64 4] W4 (fun e4 => fun W5 => ∃ l : List PanicEntry, e4 = Ending.panicked l ∧ Q (Ending.panicked l) W5)))
 (Q (.returned (.tuple #[])) W3))) ∨ (∃ l2 : List PanicEntry, e = Ending.panicked l2 ∧ Q (Ending.panicked l2) W2))) :
 Calls Tryz.prog 115 #[.pointer (some ⟨s, so, none⟩), x, .int .i64 beside] W Q :=
 Sx.sound (pk := [1000052,1000091,53,50,51,93,94,95,111,112,113,130,131,132,144,171,172,54,128,142,129,56,26,55,27,57,58,97,115,133,114,116]) Tryz.func115 .leaf [Value.pointer (some ⟨s, so, none⟩), x, .int .i64 beside] rfl (Eq.mp (by kernel_rfl) hVC)
theorem vc116 {W : World} {Q : Ending → World → Prop} (s : Nat) (so : Nat) (i : Nat) (io : Nat)
 (hVC :
 ∃ p : Option Nat, W.cell? ⟨s, so + 1, none⟩ = some (.map p) ∧ ∃ s2 : ByteArray, W.cell? ⟨i, io + 1, none⟩ = some (.string s2) ∧ Sx.mapp p (fun k =>
 ∃ I : ByteArray → Option Value, Sx.MpS W k I ∧ ∃ v : Value, Option.getD (I s2) Value.nilIface = v ∧ Sx.tagOf v 125 (fun v2 => ∃ p2 : Option Addr, v2 = Value.pointer p2 ∧
 ∀ W2 : World, ∀ k2 : Nat, W2 = W.drewN k2 → Sx.ptr p2 (fun a => ∃ z : Int, W2.cell? (Addr.add a 5) = some (.int .i64 z) ∧ Sx.split (z == 0)
 (∃ z2 : Int, W2.cell? ⟨i, io + 2, none⟩ = some (.int .i64 z2) ∧ Calls Tryz.prog 52 #[.int .i64 z2, .int .i64 9] W2 (fun e => fun W3 => ∃ l : List PanicEntry, e = Ending.panicked l ∧
 Q (Ending.panicked l) W3)) (∃ s3 : ByteArray, W2.cell? ⟨i, io + 1, none⟩ = some (.string s3) ∧ Calls Tryz.prog 96 #[.pointer (some ⟨s, so, none⟩), .string s3] W2 (fun e2 =>
 fun W4 => ∃ z3 : Int, e2 = .returned (.int .i64 z3) ∧ Sx.split (decide (z3 ≥ 0)) (∃ z4 : Int, W4.cell? ⟨i, io + 2, none⟩ = some (.int .i64 z4) ∧
 Calls Tryz.prog 52 #[.int .i64 z4, .int .i64 9] W4 (fun e3 => fun W5 => ∃ l2 : List PanicEntry, e3 = Ending.panicked l2 ∧ Q (Ending.panicked l2) W5))
 (∀ W6 : World, W6 = World.drew W4 → Sx.ptr p2 (fun a2 => Sx.ptr p2 (fun a3 => ∃ z5 : Int, W6.cell? (Addr.add a2 4) = some (.int .i64 z5) ∧
 ∃ z6 : Int, W6.cell? (Addr.add a3 5) = some (.int .i64 z6) ∧ ∀ z7 : Int, z7 = IntKind.wrap .u32 z6 → (∃ v3 : Value, W6.cell? ⟨i, io + 3, none⟩ = some v3) ∧
 (W6.frozen? ⟨i, io + 3, none⟩ = false ∧ ∀ W7 : World, W7 = W6.setCell ⟨i, io + 3, none⟩ (Value.int .i64 z5) → (∃ v4 : Value, W7.cell? ⟨i, io + 4, none⟩ = some v4) ∧
 (W7.frozen? ⟨i, io + 4, none⟩ = false ∧ ∀ W8 : World, W8 = W7.setCell ⟨i, io + 4, none⟩ (Value.int .u32 z7) → Q (.returned (.tuple #[])) W8)))))))))
 (∀ W9 : World, ∀ k3 : Nat, W9 = W.drewN k3 → ∃ z8 : Int, W9.cell? ⟨i, io + 2, none⟩ = some (.int .i64 z8) ∧ Calls Tryz.prog 52 #[.int .i64 z8, .int .i64 9] W9 (fun e4 => fun W10 =>
 ∃ l3 : List PanicEntry, e4 = Ending.panicked l3 ∧ Q (Ending.panicked l3) W10)))) :
 Calls Tryz.prog 116 #[.pointer (some ⟨s, so, none⟩), .pointer (some ⟨i, io, none⟩)] W Q :=
 Sx.sound (pk := [1000052,1000091,53,50,51,93,94,95,111,112,113,130,131,132,144,171,172,54,128,142,129,56,26,55,27,57,58,97,115,133,114,116]) Tryz.func116 (.node [] [] 0 .leaf (.node [] [] 0 .leaf (.node [] [] 1001014 .leaf .leaf))) [Value.pointer (some ⟨s, so, none⟩), .pointer (some ⟨i, io, none⟩)] rfl (Eq.mp (by kernel_rfl) hVC)
theorem vc133 {W : World} {Q : Ending → World → Prop} (arg0 : Nat) (arg0o : Nat) (arg1 : Value)
 (hVC :
 Sx.tagOf arg1 167 (fun v => ∃ p : Option Addr, v = Value.pointer p ∧ Calls Tryz.prog 114 #[.pointer (some ⟨arg0, arg0o, none⟩), .pointer p] W (fun e => fun W2 =>
 (e = .returned (.tuple #[]) ∧ Q (.returned (.tuple #[])) W2) ∨ (∃ l : List PanicEntry, e = Ending.panicked l ∧ Q (Ending.panicked l) W2))) (Sx.tagOf arg1 177 (fun v2 =>
 ∃ p2 : Option Addr, v2 = Value.pointer p2 ∧ Calls Tryz.prog 116 #[.pointer (some ⟨arg0, arg0o, none⟩), .pointer p2] W (fun e2 => fun W3 => (e2 = .returned (.tuple #[]) ∧
 Sx.ptr p2 (fun a => ∃ v3 : Value, W3.cell? (Addr.add a 5) = some v3 ∧ Calls Tryz.prog 133 #[.pointer (some ⟨arg0, arg0o, none⟩), v3] W3 (fun e3 => fun W4 =>
 (e3 = .returned (.tuple #[]) ∧ Q (.returned (.tuple #[])) W4) ∨ (∃ l2 : List PanicEntry, e3 = Ending.panicked l2 ∧ Q (Ending.panicked l2) W4)))) ∨
 (∃ l3 : List PanicEntry, e2 = Ending.panicked l3 ∧ Q (Ending.panicked l3) W3))) (Sx.tagOf arg1 193 (fun v4 => ∃ p3 : Option Addr, v4 = Value.pointer p3 ∧
 ∃ p4 : Option Nat, W.cell? ⟨arg0, arg0o + 1, none⟩ = some (.map p4) ∧ Sx.ptr p3 (fun a2 => ∃ s : ByteArray, W.cell? (Addr.add (Addr.add a2 0) 1) = some (.string s) ∧
 Sx.mapp p4 (fun k => ∃ I : ByteArray → Option Value, Sx.MpS W k I ∧ ∃ v5 : Value, Option.getD (I s) Value.nilIface = v5 ∧ Sx.tagOf v5 63 (fun v6 =>
 ∃ p5 : Option Addr, v6 = Value.pointer p5 ∧ ∀ W5 : World, ∀ k2 : Nat, W5 = W.drewN k2 → ∀ W6 : World, W6 = World.drew W5 → Sx.ptr p3 (fun a3 =>
 ∃ s2 : ByteArray, W6.cell? (Addr.add (Addr.add a3 0) 1) = some (.string s2) ∧ Calls Tryz.prog 96 #[.pointer (some ⟨arg0, arg0o, none⟩), .string s2] W6 (fun e4 => fun W7 =>
 ∃ z : Int, e4 = .returned (.int .i64 z) ∧ Sx.split (decide (z ≥ 0)) (Sx.ptr p3 (fun a4 => ∃ z2 : Int, W7.cell? (Addr.add (Addr.add a4 0) 2) = some (.int .i64 z2) ∧
 Calls Tryz.prog 52 #[.int .i64 z2, .int .i64 9] W7 (fun e5 => fun W8 => ∃ l4 : List PanicEntry, e5 = Ending.panicked l4 ∧ Q (Ending.panicked l4) W8))) (Sx.ptr p5 (fun a5 =>
 Sx.ptr p3 (fun a6 => ∃ p6 : Option Addr, ∃ k3 : Nat, ∃ k4 : Nat, W7.cell? (Addr.add a5 4) = some (.slice p6 k3 k4) ∧
 ∃ p7 : Option Addr, ∃ k5 : Nat, ∃ k6 : Nat, W7.cell? (Addr.add a6 4) = some (.slice p7 k5 k6) ∧ Sx.split ((k3 : Int) != (k5 : Int)) (Sx.ptr p3 (fun a7 =>
 ∃ z3 : Int, W7.cell? (Addr.add (Addr.add a7 0) 2) = some (.int .i64 z3) ∧ Calls Tryz.prog 52 #[.int .i64 z3, .int .i64 9] W7 (fun e6 => fun W9 =>
 ∃ l5 : List PanicEntry, e6 = Ending.panicked l5 ∧ Q (Ending.panicked l5) W9))) (Sx.ptr p3 (fun a8 => (∃ v7 : Value, W7.cell? (Addr.add a8 3) = some v7) ∧
 (W7.frozen? (Addr.add a8 3) = false ∧ ∀ W10 : World, W10 = W7.setCell (Addr.add a8 3) (Value.pointer p5) → Sx.ptr p3 (fun a9 =>
 ∃ p8 : Option Addr, ∃ k7 : Nat, ∃ k8 : Nat, W10.cell? (Addr.add a9 4) = some (.slice p8 k7 k8) ∧ ∃ I2 : Int → World → Prop, ∃ I3 : Int → World → Nat, I2 0 W10 ∧ ((Nat → Value) →
 ∀ x : Int, ∀ W11 : World, I2 x W11 → Sx.split (decide (x < (k7 : Int))) (((0 : Int) ≤ x ∧ x < (k7 : Int)) ∧ Sx.adr p8 (fun k9 => fun k10 =>
 ∃ v8 : Value, W11.cell? ⟨k9, k10 + Int.toNat x * 1, none⟩ = some v8 ∧ Calls Tryz.prog 133 #[.pointer (some ⟨arg0, arg0o, none⟩), v8] W11 (fun e7 => fun W12 =>
 (e7 = .returned (.tuple #[]) ∧ ∀ z4 : Int, z4 = IntKind.wrap .i64 (x + 1) → I2 z4 W12 ∧ I3 z4 W12 < I3 x W11) ∨ (∃ l6 : List PanicEntry, e7 = Ending.panicked l6 ∧
 Q (Ending.panicked l6) W12)))) (Q (.returned (.tuple #[])) W11)))))))))))) (∀ W13 : World, ∀ k11 : Nat, W13 = W.drewN k11 → ∀ W14 : World, W14 = World.drew W13 →
 Sx.ptr p3 (fun a10 => ∃ z5 : Int, W14.cell? (Addr.add (Addr.add a10 0) 2) = some (.int .i64 z5) ∧ Calls Tryz.prog 52 #[.int .i64 z5, .int .i64 9] W14 (fun e8 => fun W15 =>
 ∃ l7 : List PanicEntry, e8 = Ending.panicked l7 ∧ Q (Ending.panicked l7) W15)))))) (Sx.tagOf arg1 215 (fun v9 => ∃ p9 : Option Addr, v9 = Value.pointer p9 ∧ Sx.ptr p9 (fun a11 =>
 ∃ v10 : Value, W.cell? (Addr.add a11 4) = some v10 ∧ Calls Tryz.prog 133 #[.pointer (some ⟨arg0, arg0o, none⟩), v10] W (fun e9 => fun W16 => (e9 = .returned (.tuple #[]) ∧
 Q (.returned (.tuple #[])) W16) ∨ (∃ l8 : List PanicEntry, e9 = Ending.panicked l8 ∧ Q (Ending.panicked l8) W16)))) (Sx.tagOf arg1 218 (fun v11 =>
 ∃ p10 : Option Addr, v11 = Value.pointer p10 ∧ Sx.ptr p10 (fun a12 => ∃ v12 : Value, W.cell? (Addr.add a12 4) = some v12 ∧
 Calls Tryz.prog 133 #[.pointer (some ⟨arg0, arg0o, none⟩), v12] W (fun e10 => fun W17 => (e10 = .returned (.tuple #[]) ∧ Sx.ptr p10 (fun a13 =>
 ∃ v13 : Value, W17.cell? (Addr.add a13 5) = some v13 ∧ Calls Tryz.prog 133 #[.pointer (some ⟨arg0, arg0o, none⟩), v13] W17 (fun e11 => fun W18 => (e11 = .returned (.tuple #[]) ∧
 Q (.returned (.tuple #[])) W18) ∨ (∃ l9 : List PanicEntry, e11 = Ending.panicked l9 ∧ Q (Ending.panicked l9) W18)))) ∨ (∃ l10 : List PanicEntry, e10 = Ending.panicked l10 ∧
 Q (Ending.panicked l10) W17)))) (Q (.returned (.tuple #[])) W)))))) :
 Calls Tryz.prog 133 #[.pointer (some ⟨arg0, arg0o, none⟩), arg1] W Q :=
 Sx.sound (pk := [1000052,1000091,53,50,51,93,94,95,111,112,113,130,131,132,144,171,172,54,128,142,129,56,26,55,27,57,58,97,115,133,114,116]) Tryz.func133 (.node [] [] 0 .leaf (.node [] [] 0 (.node [] [] 0 .leaf (.node [] [] 0 .leaf (.node [] [] 0 .leaf (.node [] [] 0 .leaf (.node [] [] 0 .leaf (.node [] [] 0 (.node [] [] 0 .leaf (.node [] [] 0 .leaf (.node [] [] 0 (.node [] [] 0 (.node [] [] 1001010 .leaf .leaf) .leaf) (.node [] [] 0 .leaf (.node [] [] 0 .leaf (.node [] [] 0 (.node [(89, .int .i64)] [88, 87, 0] 0 .leaf .leaf) .leaf)))))) .leaf)))))) .leaf)) [Value.pointer (some ⟨arg0, arg0o, none⟩), arg1] rfl (Eq.mp (by kernel_rfl) hVC)
theorem vc134 {W : World} {Q : Ending → World → Prop} (x : Value)
 (hVC :
 Sx.tagOf x 167 (fun v => ∃ p : Option Addr, v = Value.pointer p ∧ Sx.ptr p (fun a => ∃ z : Int, W.cell? (Addr.add (Addr.add a 0) 2) = some (.int .i64 z) ∧
 Q (.returned (.int .i64 z)) W)) (Sx.tagOf x 177 (fun v2 => ∃ p2 : Option Addr, v2 = Value.pointer p2 ∧ Sx.ptr p2 (fun a2 =>
 ∃ z2 : Int, W.cell? (Addr.add (Addr.add a2 0) 2) = some (.int .i64 z2) ∧ Q (.returned (.int .i64 z2)) W)) (Sx.tagOf x 193 (fun v3 => ∃ p3 : Option Addr, v3 = Value.pointer p3 ∧
 Sx.ptr p3 (fun a3 => ∃ z3 : Int, W.cell? (Addr.add (Addr.add a3 0) 2) = some (.int .i64 z3) ∧ Q (.returned (.int .i64 z3)) W)) (Sx.tagOf x 215 (fun v4 =>
 ∃ p4 : Option Addr, v4 = Value.pointer p4 ∧ Sx.ptr p4 (fun a4 => ∃ z4 : Int, W.cell? (Addr.add (Addr.add a4 0) 2) = some (.int .i64 z4) ∧ Q (.returned (.int .i64 z4)) W))
 (Sx.tagOf x 218 (fun v5 => ∃ p5 : Option Addr, v5 = Value.pointer p5 ∧ Sx.ptr p5 (fun a5 => ∃ z5 : Int, W.cell? (Addr.add (Addr.add a5 0) 2) = some (.int .i64 z5) ∧
 Q (.returned (.int .i64 z5)) W)) (Q (.returned (.int .i64 0)) W)))))) :
 Calls Tryz.prog 134 #[x] W Q :=
 Sx.sound (pk := [1000052,1000091,53,50,51,93,94,95,111,112,113,130,131,132,144,171,172,54,128,142,129,56,26,55,27,57,58,97,115,133,114,116]) Tryz.func134 .leaf [x] rfl (Eq.mp (by kernel_rfl) hVC)
theorem vc27 {W : World} {Q : Ending → World → Prop} (arg0 : Nat) (arg0o : Nat)
 (hVC :
 ∀ k : Nat, ∀ W2 : World, k = W.heap.size → W2 = W.alloc (Obj.map #[] 0) → ∃ p : Option Addr, ∃ k2 : Nat, ∃ k3 : Nat, W2.cell? ⟨arg0, arg0o + 3, none⟩ = some (.slice p k2 k3) ∧
 ∃ I : Int → Int → World → Prop, ∃ I2 : Int → Int → World → Nat, I 0 0 W2 ∧ ((Nat → Value) → ∀ x : Int, ∀ x2 : Int, ∀ W3 : World, I x x2 W3 → Sx.split (decide (x < (k2 : Int)))
 (((0 : Int) ≤ x ∧ x < (k2 : Int)) ∧ Sx.adr p (fun k4 => fun k5 => ∃ v : Value, W3.cell? ⟨k4, k5 + Int.toNat x * 1, none⟩ = some v ∧ Sx.tagOf v 125 (fun v2 =>
 ∃ p2 : Option Addr, v2 = Value.pointer p2 ∧ Sx.ptr p2 (fun a => (∃ v3 : Value, W3.cell? (Addr.add a 4) = some v3) ∧ (W3.frozen? (Addr.add a 4) = false ∧
 ∀ W4 : World, W4 = W3.setCell (Addr.add a 4) (Value.int .i64 x2) → Sx.ptr p2 (fun a2 => ∃ z : Int, W4.cell? (Addr.add a2 5) = some (.int .i64 z) ∧
 ∀ z2 : Int, z2 = IntKind.wrap .i64 (x2 + if z > 1 then z else 1) → Sx.ptr p2 (fun a3 => ∃ s : ByteArray, W4.cell? (Addr.add a3 3) = some (.string s) ∧
 ∃ I3 : ByteArray → Option Value, Sx.MpS W4 k I3 ∧ ∃ v4 : Value, Option.getD (I3 s) Value.nilIface = v4 ∧ Sx.split (!Option.isSome (I3 s)) (Sx.ptr p2 (fun a4 =>
 ∃ s2 : ByteArray, W4.cell? (Addr.add a4 3) = some (.string s2) ∧ ∃ I4 : ByteArray → Option Value, Sx.MpS W4 k I4 ∧
 ∀ W5 : World, Sx.MpS W5 k (Sx.updS I4 s2 (some (.iface 125 (Value.pointer p2)))) → XHeap.XTouch (fun q => q = k) W4 W5 → ∀ z3 : Int, z3 = IntKind.wrap .i64 (x + 1) → I z3 z2 W5 ∧
 I2 z3 z2 W5 < I2 x x2 W3)) (∀ z4 : Int, z4 = IntKind.wrap .i64 (x + 1) → I z4 z2 W4 ∧ I2 z4 z2 W4 < I2 x x2 W3)))))) (Sx.tagOf v 63 (fun v5 =>
 ∃ p3 : Option Addr, v5 = Value.pointer p3 ∧ ∃ p4 : Option Addr, ∃ k6 : Nat, ∃ k7 : Nat, W3.cell? ⟨arg0, arg0o, none⟩ = some (.slice p4 k6 k7) ∧ Sx.ptr p3 (fun a5 =>
 (∃ v6 : Value, W3.cell? (Addr.add a5 7) = some v6) ∧ (W3.frozen? (Addr.add a5 7) = false ∧ ∀ W6 : World, W6 = W3.setCell (Addr.add a5 7) (Value.int .i64 (k6 : Int)) →
 ∃ p5 : Option Addr, ∃ k8 : Nat, ∃ k9 : Nat, W6.cell? ⟨arg0, arg0o, none⟩ = some (.slice p5 k8 k9) ∧ ∀ k10 : Nat, ∀ W7 : World, k10 = W6.heap.size →
 W7 = W6.alloc (Obj.cells #[.pointer p3] 63) → ∃ l : List Value, ∃ l2 : List Value, XHeap.Sl W7 63 1 (Value.slice p5 k8 k9) k8 l ∧ (((1 : Nat) = (0 : Nat) ∧
 some (Addr.mk k10 0 none) = none) ∨ (∃ a6 : Addr, some (Addr.mk k10 0 none) = some a6 ∧ ∀ k11 : Nat, ∀ v7 : Value, l2[k11]? = some v7 → W7.cell? (Addr.add a6 k11) = some v7)) ∧
 List.length l2 = 1 ∧ (∀ v8 : Value, v8 ∈ l2 → Value.oneCell' v8 = true) ∧ k8 + 1 ≤ maxLen ∧ ((k8 + 1) * 8 ≤ 140737488355328 ∧
 ∀ p6 : Option Addr, ∀ k12 : Nat, ∀ W8 : World, XHeap.Sl W8 63 1 (Value.slice p6 (k8 + 1) k12) (k8 + 1) (l ++ l2) →
 XHeap.XTouch (fun b => Value.ownBlock (Value.slice p5 k8 k9) = some b) W7 W8 → (∀ k13 : Nat, Value.ownBlock (Value.slice p6 (k8 + 1) k12) = some k13 →
 (Value.ownBlock (Value.slice p5 k8 k9) = some k13) ∨ (W7.heap.size ≤ k13)) → XHeap.Sl W8 63 1 (Value.slice p5 k8 k9) k8 l → ((p6 = p5 ∧ k12 = k9) ∨ (((XHeap.NilP p5) ∨
 (k9 < k8 + 1)) ∧ ∀ k14 : Nat, Value.ownBlock (Value.slice p6 (k8 + 1) k12) = some k14 → W7.heap.size ≤ k14)) → (∃ v9 : Value, W8.cell? ⟨arg0, arg0o, none⟩ = some v9) ∧
 (W8.frozen? ⟨arg0, arg0o, none⟩ = false ∧ ∀ W9 : World, W9 = W8.setCell ⟨arg0, arg0o, none⟩ (Value.slice p6 (k8 + 1) k12) → Sx.ptr p3 (fun a7 =>
 ∃ s3 : ByteArray, W9.cell? (Addr.add a7 3) = some (.string s3) ∧ ∃ I5 : ByteArray → Option Value, Sx.MpS W9 k I5 ∧ ∃ v10 : Value, Option.getD (I5 s3) Value.nilIface = v10 ∧
 Sx.split (!Option.isSome (I5 s3)) (Sx.ptr p3 (fun a8 => ∃ s4 : ByteArray, W9.cell? (Addr.add a8 3) = some (.string s4) ∧ ∃ I6 : ByteArray → Option Value, Sx.MpS W9 k I6 ∧
 ∀ W10 : World, Sx.MpS W10 k (Sx.updS I6 s4 (some (.iface 63 (Value.pointer p3)))) → XHeap.XTouch (fun q => q = k) W9 W10 → ∀ z5 : Int, z5 = IntKind.wrap .i64 (x + 1) → I z5 x2 W10 ∧
 I2 z5 x2 W10 < I2 x x2 W3)) (∀ z6 : Int, z6 = IntKind.wrap .i64 (x + 1) → I z6 x2 W9 ∧ I2 z6 x2 W9 < I2 x x2 W3))))))) (∀ z7 : Int, z7 = IntKind.wrap .i64 (x + 1) → I z7 x2 W3 ∧
 I2 z7 x2 W3 < I2 x x2 W3)))) ((∃ v11 : Value, W3.cell? ⟨arg0, arg0o + 2, none⟩ = some v11) ∧ (W3.frozen? ⟨arg0, arg0o + 2, none⟩ = false ∧
 ∀ W11 : World, W11 = W3.setCell ⟨arg0, arg0o + 2, none⟩ (Value.int .i64 x2) →
 ∃ p7 : Option Addr, ∃ k15 : Nat, ∃ k16 : Nat, W11.cell? ⟨arg0, arg0o + 3, none⟩ = some (.slice p7 k15 k16) ∧ ∃ I7 : Int → World → Prop, ∃ I8 : Int → World → Nat, I7 0 W11 ∧
 ((Nat → Value) → ∀ x3 : Int, ∀ W12 : World, I7 x3 W12 → Sx.split (decide (x3 < (k15 : Int))) (((0 : Int) ≤ x3 ∧ x3 < (k15 : Int)) ∧ Sx.adr p7 (fun k17 => fun k18 =>
 ∃ v12 : Value, W12.cell? ⟨k17, k18 + Int.toNat x3 * 1, none⟩ = some v12 ∧ Sx.tagOf v12 125 (fun v13 => ∃ p8 : Option Addr, v13 = Value.pointer p8 ∧ Sx.ptr p8 (fun a9 =>
 ∃ s5 : ByteArray, W12.cell? (Addr.add a9 3) = some (.string s5) ∧ ∃ I9 : ByteArray → Option Value, Sx.MpS W12 k I9 ∧ ∃ v14 : Value, Option.getD (I9 s5) Value.nilIface = v14 ∧
 ∃ t : Bool, (∀ W13 : World, Sx.Keeps W12 W13 →
 Sem.run Tryz.prog (Sx.binOpS BinOp.neq 20 (Operand.tmp 126) (Operand.tmp 128) v14 (Value.iface 125 (Value.pointer p8))) W13 = Result.ok (Value.bool t) W13) ∧ Sx.split t
 (Sx.ptr p8 (fun a10 => ∃ z8 : Int, W12.cell? (Addr.add (Addr.add a10 0) 2) = some (.int .i64 z8) ∧ Calls Tryz.prog 52 #[.int .i64 z8, .int .i64 9] W12 (fun e => fun W14 =>
 ∃ l3 : List PanicEntry, e = Ending.panicked l3 ∧ Q (Ending.panicked l3) W14))) (Sx.ptr p8 (fun a11 => ∃ z9 : Int, W12.cell? (Addr.add a11 4) = some (.int .i64 z9) ∧
 Sx.ptr p8 (fun a12 => ∃ z10 : Int, W12.cell? (Addr.add a12 5) = some (.int .i64 z10) ∧ ∀ z11 : Int, z11 = IntKind.wrap .i64 (z9 + if z10 > 1 then z10 else 1) →
 ∀ W15 : World, ∀ k19 : Nat, W15 = W12.drewN k19 → Sx.split (decide (z11 > 512)) (Sx.ptr p8 (fun a13 => ∃ z12 : Int, W15.cell? (Addr.add (Addr.add a13 0) 2) = some (.int .i64 z12) ∧
 Calls Tryz.prog 52 #[.int .i64 z12, .int .i64 1] W15 (fun e2 => fun W16 => ∃ l4 : List PanicEntry, e2 = Ending.panicked l4 ∧ Q (Ending.panicked l4) W16)))
 (∀ z13 : Int, z13 = IntKind.wrap .i64 (x3 + 1) → I7 z13 W15 ∧ I8 z13 W15 < I8 x3 W12)))))) (Sx.tagOf v12 63 (fun v15 => ∃ p9 : Option Addr, v15 = Value.pointer p9 ∧
 Sx.ptr p9 (fun a14 => ∃ s6 : ByteArray, W12.cell? (Addr.add a14 3) = some (.string s6) ∧ ∃ I10 : ByteArray → Option Value, Sx.MpS W12 k I10 ∧
 ∃ v16 : Value, Option.getD (I10 s6) Value.nilIface = v16 ∧ ∃ t2 : Bool, (∀ W17 : World, Sx.Keeps W12 W17 →
 Sem.run Tryz.prog (Sx.binOpS BinOp.neq 20 (Operand.tmp 161) (Operand.tmp 163) v16 (Value.iface 63 (Value.pointer p9))) W17 = Result.ok (Value.bool t2) W17) ∧ Sx.split t2
 (Sx.ptr p9 (fun a15 => ∃ z14 : Int, W12.cell? (Addr.add (Addr.add a15 0) 2) = some (.int .i64 z14) ∧ Calls Tryz.prog 52 #[.int .i64 z14, .int .i64 9] W12 (fun e3 => fun W18 =>
 ∃ l5 : List PanicEntry, e3 = Ending.panicked l5 ∧ Q (Ending.panicked l5) W18)))
 (∀ vs : Array Value, vs = #[.pointer (some ⟨arg0, arg0o, none⟩), Value.map (some k), .slice none 0 0, .slice none 0 0, .pointer p9] →
 ∀ k20 : Nat, ∀ W19 : World, k20 = W12.heap.size → W19 = W12.alloc (Obj.cells (Value.cells (Value.agg vs)) 138) → Sx.ptr p9 (fun a16 =>
 ∃ p10 : Option Addr, ∃ k21 : Nat, ∃ k22 : Nat, W19.cell? (Addr.add a16 4) = some (.slice p10 k21 k22) ∧ ∃ I11 : Int → World → Prop, ∃ I12 : Int → World → Nat, I11 0 W19 ∧
 ((Nat → Value) → ∀ x4 : Int, ∀ W20 : World, I11 x4 W20 → Sx.split (decide (x4 < (k21 : Int))) (((0 : Int) ≤ x4 ∧ x4 < (k21 : Int)) ∧ Sx.adr p10 (fun k23 => fun k24 =>
 ∃ s7 : ByteArray, W20.cell? ⟨k23, k24 + Int.toNat x4 * 1, none⟩ = some (.string s7) ∧ Sx.ptr p9 (fun a17 => ∃ vs2 : Array Value, vs2.size = 3 ∧ Sx.cellsAt W20 (Addr.add a17 0) vs2 ∧
 Calls Tryz.prog 57 #[.pointer (some ⟨k20, 0, none⟩), .agg vs2, .string s7] W20 (fun e4 => fun W21 => (∃ z15 : Int, e4 = .returned (.int .i64 z15) ∧
 ∀ z16 : Int, z16 = IntKind.wrap .i64 (x4 + 1) → I11 z16 W21 ∧ I12 z16 W21 < I12 x4 W20) ∨ (∃ l6 : List PanicEntry, e4 = Ending.panicked l6 ∧ Q (Ending.panicked l6) W21)))))
 (Sx.ptr p9 (fun a18 => ∃ p11 : Option Addr, W20.cell? (Addr.add a18 5) = some (.pointer p11) ∧ Calls Tryz.prog 58 #[.pointer (some ⟨k20, 0, none⟩), .pointer p11] W20 (fun e5 =>
 fun W22 => (e5 = .returned (.tuple #[]) ∧ ∀ z17 : Int, z17 = IntKind.wrap .i64 (x3 + 1) → I7 z17 W22 ∧ I8 z17 W22 < I8 x3 W12) ∨ (∃ l7 : List PanicEntry, e5 = Ending.panicked l7 ∧
 Q (Ending.panicked l7) W22))))))))) (∀ z18 : Int, z18 = IntKind.wrap .i64 (x3 + 1) → I7 z18 W12 ∧ I8 z18 W12 < I8 x3 W12)))) (∃ I13 : ByteArray → Option Value, Sx.MpS W12 k I13 ∧
 ∃ v17 : Value, Option.getD (I13 (ByteArray.mk #[109, 97, 105, 110])) Value.nilIface = v17 ∧ Sx.tagOf v17 63 (fun v18 => ∃ p12 : Option Addr, v18 = Value.pointer p12 ∧
 Sx.ptr p12 (fun a19 => ∃ p13 : Option Addr, ∃ k25 : Nat, ∃ k26 : Nat, W12.cell? (Addr.add a19 4) = some (.slice p13 k25 k26) ∧ Sx.split (decide ((k25 : Int) > 0))
 (Calls Tryz.prog 52 #[.int .i64 0, .int .i64 9] W12 (fun e6 => fun W23 => ∃ l8 : List PanicEntry, e6 = Ending.panicked l8 ∧ Q (Ending.panicked l8) W23))
 ((∃ v19 : Value, W12.cell? ⟨arg0, arg0o + 1, none⟩ = some v19) ∧ (W12.frozen? ⟨arg0, arg0o + 1, none⟩ = false ∧
 ∀ W24 : World, W24 = W12.setCell ⟨arg0, arg0o + 1, none⟩ (Value.pointer p12) → Q (.returned (.tuple #[])) W24)))) (Calls Tryz.prog 52 #[.int .i64 0, .int .i64 9] W12 (fun e7 =>
 fun W25 => ∃ l9 : List PanicEntry, e7 = Ending.panicked l9 ∧ Q (Ending.panicked l9) W25)))))))) :
 Calls Tryz.prog 27 #[.pointer (some ⟨arg0, arg0o, none⟩)] W Q :=
 Sx.sound (pk := [1000052,1000091,53,50,51,93,94,95,111,112,113,130,131,132,144,171,172,54,128,142,129,56,26,55,27,57,58,97,115,133,114,116]) Tryz.func27 (.node [] [] 0 .leaf (.node [] [] 0 .leaf (.node [] [] 0 (.node [] [] 0 .leaf (.node [] [] 0 (.node [(27, .int .i64), (3, .int .i64)] [26, 25, 2, 0] 0 .leaf .leaf) .leaf)) (.node [] [] 0 .leaf (.node [] [] 0 (.node [] [] 0 .leaf (.node [] [] 0 (.node [(113, .int .i64)] [112, 111, 2, 0] 0 (.node [] [] 0 .leaf (.node [] [] 0 .leaf (.node [] [] 0 (.node [] [] 0 (.node [] [] 0 .leaf (.node [] [] 0 .leaf (.node [] [] 0 (.node [] [] 0 .leaf (.node [] [] 0 .leaf (.node [] [] 0 .leaf (.node [] [] 0 (.node [] [] 0 .leaf (.node [] [] 0 .leaf (.node [] [] 0 .leaf (.node [] [] 0 (.node [] [] 0 .leaf (.node [] [] 0 (.node [(181, .int .i64)] [180, 179, 16, 15, 113, 112, 111, 2, 0] 0 .leaf .leaf) .leaf)) .leaf)))) .leaf)))) .leaf))) .leaf) .leaf))) .leaf) .leaf)) .leaf))))) [Value.pointer (some ⟨arg0, arg0o, none⟩)] rfl (Eq.mp (by kernel_rfl) hVC)
theorem vc224 {W : World} {Q : Ending → World → Prop} (arg0 : Nat) (arg0o : Nat)
 (hVC :
 Q (.returned (.int .i64 1)) W) :
 Calls Tryz.prog 224 #[.pointer (some ⟨arg0, arg0o, none⟩)] W Q :=
 Sx.sound (pk := [1000052,1000091,53,50,51,93,94,95,111,112,113,130,131,132,144,171,172,54,128,142,129,56,26,55,27,57,58,97,115,133,114,116]) Tryz.func224 .leaf [Value.pointer (some ⟨arg0, arg0o, none⟩)] rfl (Eq.mp (by kernel_rfl) hVC)
theorem vc226 {W : World} {Q : Ending → World → Prop} (i : Nat) (io : Nat)
 (hVC :
 ∃ v : Value, W.cell? ⟨i, io + 5, none⟩ = some v ∧ ∃ u : FuncId, ∃ vs : Array Value, Sx.meth Tryz.prog v "Need" #[] W u vs ∧ Calls Tryz.prog u vs W (fun e => fun W2 =>
 ∃ z : Int, e = .returned (.int .i64 z) ∧ Q (.returned (.int .i64 z)) W2)) :
 Calls Tryz.prog 226 #[.pointer (some ⟨i, io, none⟩)] W Q :=
 Sx.sound (pk := [1000052,1000091,53,50,51,93,94,95,111,112,113,130,131,132,144,171,172,54,128,142,129,56,26,55,27,57,58,97,115,133,114,116]) Tryz.func226 .leaf [Value.pointer (some ⟨i, io, none⟩)] rfl (Eq.mp (by kernel_rfl) hVC)
theorem vc232 {W : World} {Q : Ending → World → Prop} (c : Nat) (co : Nat)
 (hVC :
 ∃ p : Option Addr, ∃ k : Nat, ∃ k2 : Nat, W.cell? ⟨c, co + 4, none⟩ = some (.slice p k k2) ∧ ∃ I : Int → Int → World → Prop, ∃ I2 : Int → Int → World → Nat, I 0 1 W ∧
 ((Nat → Value) → ∀ x : Int, ∀ n : Int, ∀ W2 : World, I x n W2 → Sx.split (decide (x < (k : Int))) (((0 : Int) ≤ x ∧ x < (k : Int)) ∧ Sx.adr p (fun k3 => fun k4 =>
 ∃ v : Value, W2.cell? ⟨k3, k4 + Int.toNat x * 1, none⟩ = some v ∧ ∃ u : FuncId, ∃ vs : Array Value, Sx.meth Tryz.prog v "Need" #[] W2 u vs ∧ Calls Tryz.prog u vs W2 (fun e =>
 fun W3 => ∃ z : Int, e = .returned (.int .i64 z) ∧ ∀ z2 : Int, z2 = IntKind.wrap .i64 (z + x) → ∀ z3 : Int, z3 = IntKind.wrap .i64 (x + 1) → I z3 (if z2 > n then z2 else n) W3 ∧
 I2 z3 (if z2 > n then z2 else n) W3 < I2 x n W2))) (Q (.returned (.int .i64 n)) W2))) :
 Calls Tryz.prog 232 #[.pointer (some ⟨c, co, none⟩)] W Q :=
 Sx.sound (pk := [1000052,1000091,53,50,51,93,94,95,111,112,113,130,131,132,144,171,172,54,128,142,129,56,26,55,27,57,58,97,115,133,114,116]) Tryz.func232 (.node [] [] 0 .leaf (.node [] [] 0 .leaf (.node [] [] 0 (.node [] [] 0 .leaf (.node [] [] 0 (.node [(11, .int .i64), (3, .int .i64)] [10, 9] 0 .leaf .leaf) .leaf)) .leaf))) [Value.pointer (some ⟨c, co, none⟩)] rfl (Eq.mp (by kernel_rfl) hVC)
theorem vc233 {W : World} {Q : Ending → World → Prop} (arg0 : Int)
 (hVC :
 Q (.returned (.int .i64 1)) W) :
 Calls Tryz.prog 233 #[.int .u32 arg0] W Q :=
 Sx.sound (pk := [1000052,1000091,53,50,51,93,94,95,111,112,113,130,131,132,144,171,172,54,128,142,129,56,26,55,27,57,58,97,115,133,114,116]) Tryz.func233 .leaf [Value.int .u32 arg0] rfl (Eq.mp (by kernel_rfl) hVC)
theorem vc234 {W : World} {Q : Ending → World → Prop} (u : Nat) (uo : Nat)
 (hVC :
 ∃ v : Value, W.cell? ⟨u, uo + 4, none⟩ = some v ∧ ∃ u2 : FuncId, ∃ vs : Array Value, Sx.meth Tryz.prog v "Need" #[] W u2 vs ∧ Calls Tryz.prog u2 vs W (fun e => fun W2 =>
 ∃ z : Int, e = .returned (.int .i64 z) ∧ Q (.returned (.int .i64 z)) W2)) :
 Calls Tryz.prog 234 #[.pointer (some ⟨u, uo, none⟩)] W Q :=
 Sx.sound (pk := [1000052,1000091,53,50,51,93,94,95,111,112,113,130,131,132,144,171,172,54,128,142,129,56,26,55,27,57,58,97,115,133,114,116]) Tryz.func234 .leaf [Value.pointer (some ⟨u, uo, none⟩)] rfl (Eq.mp (by kernel_rfl) hVC)
theorem vc235 {W : World} {Q : Ending → World → Prop} (b : Nat) (bo : Nat)
 (hVC :
 ∃ v : Value, W.cell? ⟨b, bo + 5, none⟩ = some v ∧ ∃ u : FuncId, ∃ vs : Array Value, Sx.meth Tryz.prog v "Need" #[] W u vs ∧ Calls Tryz.prog u vs W (fun e => fun W2 =>
 ∃ z : Int, e = .returned (.int .i64 z) ∧ ∃ s : ByteArray, W2.cell? ⟨b, bo + 3, none⟩ = some (.string s) ∧ Sx.split (!ByteArray.toList s == ByteArray.toList ⟨#[38, 38]⟩)
 (∃ s2 : ByteArray, W2.cell? ⟨b, bo + 3, none⟩ = some (.string s2) ∧ Sx.split (!ByteArray.toList s2 == ByteArray.toList ⟨#[124, 124]⟩) (∀ z2 : Int, z2 = IntKind.wrap .i64 (z + 1) →
 ∃ v2 : Value, W2.cell? ⟨b, bo + 4, none⟩ = some v2 ∧ ∃ u2 : FuncId, ∃ vs2 : Array Value, Sx.meth Tryz.prog v2 "Need" #[] W2 u2 vs2 ∧ Calls Tryz.prog u2 vs2 W2 (fun e2 => fun W3 =>
 ∃ z3 : Int, e2 = .returned (.int .i64 z3) ∧ Q (.returned (.int .i64 (if z2 > z3 then z2 else z3))) W3)) (∃ v3 : Value, W2.cell? ⟨b, bo + 4, none⟩ = some v3 ∧
 ∃ u3 : FuncId, ∃ vs3 : Array Value, Sx.meth Tryz.prog v3 "Need" #[] W2 u3 vs3 ∧ Calls Tryz.prog u3 vs3 W2 (fun e3 => fun W4 => ∃ z4 : Int, e3 = .returned (.int .i64 z4) ∧
 Q (.returned (.int .i64 (if z > z4 then z else z4))) W4))) (∃ v4 : Value, W2.cell? ⟨b, bo + 4, none⟩ = some v4 ∧
 ∃ u4 : FuncId, ∃ vs4 : Array Value, Sx.meth Tryz.prog v4 "Need" #[] W2 u4 vs4 ∧ Calls Tryz.prog u4 vs4 W2 (fun e4 => fun W5 => ∃ z5 : Int, e4 = .returned (.int .i64 z5) ∧
 Q (.returned (.int .i64 (if z > z5 then z else z5))) W5)))) :
 Calls Tryz.prog 235 #[.pointer (some ⟨b, bo, none⟩)] W Q :=
 Sx.sound (pk := [1000052,1000091,53,50,51,93,94,95,111,112,113,130,131,132,144,171,172,54,128,142,129,56,26,55,27,57,58,97,115,133,114,116]) Tryz.func235 .leaf [Value.pointer (some ⟨b, bo, none⟩)] rfl (Eq.mp (by kernel_rfl) hVC)
end Go.Proofs.YtojogkljneonmaaGreatDoor
