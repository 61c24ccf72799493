/- What each function asks, reckoned out of its text; printed by a program of mine (wip/tpl/VcTool.lean). No condition. -/
import Derived.Test.YtojogkljneonmaaGreatDoorSxB
import Derived.Test.YtojogkljneonmaaGreatDoorChecked
namespace Go.Proofs.YtojogkljneonmaaGreatDoor
open Go Go.Proofs
set_option linter.unusedVariables false
set_option maxRecDepth 100000
theorem vc14 {W : World} {Q : Ending → World → Prop} (c : Nat) (co : Nat) (n : Array Value) (e : Int)
 (hVC :
 ∀ k : Nat, ∀ W2 : World, k = W.heap.size → W2 = W.alloc (Obj.cells (Value.cells (Value.agg n)) 52) → ∃ z : Int, W2.cell? ⟨c, co + 4, none⟩ = some (.int .i64 z) ∧ Sx.split (z == 0)
 ((∃ v : Value, W2.cell? ⟨c, co + 4, none⟩ = some v) ∧ (W2.frozen? ⟨c, co + 4, none⟩ = false ∧ ∀ W3 : World, W3 = W2.setCell ⟨c, co + 4, none⟩ (Value.int .i64 e) →
 ∃ z2 : Int, W3.cell? ⟨k, 0 + 2, none⟩ = some (.int .i64 z2) ∧ (∃ v2 : Value, W3.cell? ⟨c, co + 3, none⟩ = some v2) ∧ (W3.frozen? ⟨c, co + 3, none⟩ = false ∧
 ∀ W4 : World, W4 = W3.setCell ⟨c, co + 3, none⟩ (Value.int .i64 z2) → Q (.returned (.tuple #[])) W4))) (Q (.returned (.tuple #[])) W2)) :
 Calls Tryz.prog 14 #[.pointer (some ⟨c, co, none⟩), .agg n, .int .i64 e] W Q :=
 Sx.sound (pk := [1000052]) Tryz.func14 .leaf [Value.pointer (some ⟨c, co, none⟩), .agg n, .int .i64 e] rfl (Eq.mp (by kernel_rfl) hVC)
theorem vc18 {W : World} {Q : Ending → World → Prop} (c : Nat) (co : Nat) (s : ByteArray)
 (hVC :
 ∀ k : Nat, ∀ W2 : World, k = W.heap.size → W2 = W.alloc (Obj.cells #[.string ⟨#[]⟩, .string ⟨#[]⟩, .int .i64 0, .int .u32 0, .slice none 0 0, .slice none 0 0] 52) →
 ∃ I : Int → World → Prop, ∃ I2 : Int → World → Nat, I 0 W2 ∧ ((Nat → Value) → ∀ i : Int, ∀ W3 : World, I i W3 →
 ∃ p : Option Addr, ∃ k2 : Nat, ∃ k3 : Nat, W3.cell? ⟨c, co, none⟩ = some (.slice p k2 k3) ∧ Sx.split (decide (i < (k2 : Int)))
 (∃ p2 : Option Addr, ∃ k4 : Nat, ∃ k5 : Nat, W3.cell? ⟨c, co, none⟩ = some (.slice p2 k4 k5) ∧ ((0 : Int) ≤ i ∧ i < (k4 : Int)) ∧ Sx.adr p2 (fun k6 => fun k7 =>
 ∃ s2 : ByteArray, W3.cell? ⟨k6, k7 + Int.toNat i * 6 + 1, none⟩ = some (.string s2) ∧ Sx.split (ByteArray.toList s2 == ByteArray.toList s)
 (∃ p3 : Option Addr, ∃ k8 : Nat, ∃ k9 : Nat, W3.cell? ⟨c, co, none⟩ = some (.slice p3 k8 k9) ∧ ((0 : Int) ≤ i ∧ i < (k8 : Int)) ∧ Sx.adr p3 (fun k10 => fun k11 =>
 ∃ vs : Array Value, vs.size = 6 ∧ Sx.cellsAt W3 ⟨k10, k11 + Int.toNat i * 6, none⟩ vs ∧ vs.size = 6 ∧ (∀ k12 : Nat, k12 < 6 → (∃ v : Value, W3.cell? ⟨k, 0 + k12, none⟩ = some v) ∧
 W3.frozen? ⟨k, 0 + k12, none⟩ = false) ∧ ((∀ v2 : Value, v2 ∈ vs.toList → Value.oneCell' v2 = true) ∧ ∀ W4 : World, W4 = W3.setCells k 0 vs.toList →
 ∃ vs2 : Array Value, vs2.size = 6 ∧ Sx.cellsAt W4 ⟨k, 0, none⟩ vs2 ∧ Q (.returned (.tuple #[.agg vs2, .bool true])) W4))) (∀ z : Int, z = IntKind.wrap .i64 (i + 1) → I z W3 ∧
 I2 z W3 < I2 i W3))) (∀ vs3 : Array Value, vs3 = #[.string ⟨#[]⟩, .string ⟨#[]⟩, .int .i64 0, .int .u32 0, .slice none 0 0, .slice none 0 0] → vs3.size = 6 ∧ (∀ k13 : Nat, k13 < 6 →
 (∃ v3 : Value, W3.cell? ⟨k, 0 + k13, none⟩ = some v3) ∧ W3.frozen? ⟨k, 0 + k13, none⟩ = false) ∧ ((∀ v4 : Value, v4 ∈ vs3.toList → Value.oneCell' v4 = true) ∧
 ∀ W5 : World, W5 = W3.setCells k 0 vs3.toList → ∃ vs4 : Array Value, vs4.size = 6 ∧ Sx.cellsAt W5 ⟨k, 0, none⟩ vs4 ∧ Q (.returned (.tuple #[.agg vs4, .bool false])) W5)))) :
 Calls Tryz.prog 18 #[.pointer (some ⟨c, co, none⟩), .string s] W Q :=
 Sx.sound (pk := [1000052]) Tryz.func18 (.node [] [] 0 .leaf (.node [] [] 0 (.node [] [] 0 .leaf (.node [] [] 0 (.node [(6, .int .i64)] [0, 1, 4] 0 .leaf .leaf) .leaf)) .leaf)) [Value.pointer (some ⟨c, co, none⟩), .string s] rfl (Eq.mp (by kernel_rfl) hVC)
theorem vc30 {W : World} {Q : Ending → World → Prop} (c : Nat) (co : Nat) (s : ByteArray)
 (hVC :
 ∃ I : Int → World → Prop, ∃ I2 : Int → World → Nat, I 0 W ∧ ((Nat → Value) → ∀ i : Int, ∀ W2 : World, I i W2 →
 ∃ p : Option Addr, ∃ k : Nat, ∃ k2 : Nat, W2.cell? ⟨c, co + 1, none⟩ = some (.slice p k k2) ∧ Sx.split (decide (i < (k : Int)))
 (∃ p2 : Option Addr, ∃ k3 : Nat, ∃ k4 : Nat, W2.cell? ⟨c, co + 1, none⟩ = some (.slice p2 k3 k4) ∧ ((0 : Int) ≤ i ∧ i < (k3 : Int)) ∧ Sx.adr p2 (fun k5 => fun k6 =>
 ∃ s2 : ByteArray, W2.cell? ⟨k5, k6 + Int.toNat i * 1, none⟩ = some (.string s2) ∧ Sx.split (ByteArray.toList s2 == ByteArray.toList s) (Q (.returned (.bool true)) W2)
 (∀ z : Int, z = IntKind.wrap .i64 (i + 1) → I z W2 ∧ I2 z W2 < I2 i W2))) (Q (.returned (.bool false)) W2))) :
 Calls Tryz.prog 30 #[.pointer (some ⟨c, co, none⟩), .string s] W Q :=
 Sx.sound (pk := [1000052]) Tryz.func30 (.node [] [] 0 .leaf (.node [] [] 0 (.node [] [] 0 .leaf (.node [] [] 0 (.node [(5, .int .i64)] [0, 1] 0 .leaf .leaf) .leaf)) .leaf)) [Value.pointer (some ⟨c, co, none⟩), .string s] rfl (Eq.mp (by kernel_rfl) hVC)
theorem vc16 {W : World} {Q : Ending → World → Prop} (c : Nat) (co : Nat) (n : Array Value) (s : ByteArray)
 (hVC :
 ∀ k : Nat, ∀ W2 : World, k = W.heap.size → W2 = W.alloc (Obj.cells (Value.cells (Value.agg n)) 52) → Calls Tryz.prog 18 #[.pointer (some ⟨c, co, none⟩), .string s] W2 (fun e =>
 fun W3 => ∃ vs : Array Value, ∃ t : Bool, e = .returned (.tuple #[.agg vs, .bool t]) ∧ ∀ k2 : Nat, ∀ W4 : World, k2 = W3.heap.size →
 W4 = W3.alloc (Obj.cells #[.string ⟨#[]⟩, .string ⟨#[]⟩, .int .i64 0, .int .u32 0, .slice none 0 0, .slice none 0 0] 52) → vs.size = 6 ∧ (∀ k3 : Nat, k3 < 6 →
 (∃ v : Value, W4.cell? ⟨k2, 0 + k3, none⟩ = some v) ∧ W4.frozen? ⟨k2, 0 + k3, none⟩ = false) ∧ ((∀ v2 : Value, v2 ∈ vs.toList → Value.oneCell' v2 = true) ∧
 ∀ W5 : World, W5 = W4.setCells k2 0 vs.toList → Calls Tryz.prog 30 #[.pointer (some ⟨c, co, none⟩), .string s] W5 (fun e2 => fun W6 => ∃ t2 : Bool, e2 = .returned (.bool t2) ∧
 ∃ I : World → Prop, Sx.split t (∃ vs2 : Array Value, vs2.size = 6 ∧ Sx.cellsAt W6 ⟨k, 0, none⟩ vs2 ∧
 Calls Tryz.prog 14 #[.pointer (some ⟨c, co, none⟩), .agg vs2, .int .i64 9] W6 (fun e3 => fun W7 => e3 = .returned (.tuple #[]) ∧ I W7)) (Sx.split t2
 (∃ vs3 : Array Value, vs3.size = 6 ∧ Sx.cellsAt W6 ⟨k, 0, none⟩ vs3 ∧ Calls Tryz.prog 14 #[.pointer (some ⟨c, co, none⟩), .agg vs3, .int .i64 9] W6 (fun e4 => fun W8 =>
 e4 = .returned (.tuple #[]) ∧ I W8)) (I W6)) ∧ ((Nat → Value) → ∀ W9 : World, I W9 → ∃ p : Option Addr, ∃ k4 : Nat, ∃ k5 : Nat, W9.cell? ⟨c, co + 1, none⟩ = some (.slice p k4 k5) ∧
 ∀ k6 : Nat, ∀ W10 : World, k6 = W9.heap.size → W10 = W9.alloc (Obj.cells #[.string s] 9) → ∃ l : List Value, ∃ l2 : List Value, XHeap.Sl W10 9 1 (Value.slice p k4 k5) k4 l ∧
 (((1 : Nat) = (0 : Nat) ∧ some (Addr.mk k6 0 none) = none) ∨ (∃ a : Addr, some (Addr.mk k6 0 none) = some a ∧ ∀ k7 : Nat, ∀ v3 : Value, l2[k7]? = some v3 →
 W10.cell? (Addr.add a k7) = some v3)) ∧ List.length l2 = 1 ∧ (∀ v4 : Value, v4 ∈ l2 → Value.oneCell' v4 = true) ∧ k4 + 1 ≤ maxLen ∧ ((k4 + 1) * 16 ≤ 140737488355328 ∧
 ∀ p2 : Option Addr, ∀ k8 : Nat, ∀ W11 : World, XHeap.Sl W11 9 1 (Value.slice p2 (k4 + 1) k8) (k4 + 1) (l ++ l2) →
 XHeap.XTouch (fun b => Value.ownBlock (Value.slice p k4 k5) = some b) W10 W11 → (∀ k9 : Nat, Value.ownBlock (Value.slice p2 (k4 + 1) k8) = some k9 →
 (Value.ownBlock (Value.slice p k4 k5) = some k9) ∨ (W10.heap.size ≤ k9)) → XHeap.Sl W11 9 1 (Value.slice p k4 k5) k4 l → ((p2 = p ∧ k8 = k5) ∨ (((XHeap.NilP p) ∨ (k5 < k4 + 1)) ∧
 ∀ k10 : Nat, Value.ownBlock (Value.slice p2 (k4 + 1) k8) = some k10 → W10.heap.size ≤ k10)) → (∃ v5 : Value, W11.cell? ⟨c, co + 1, none⟩ = some v5) ∧
 (W11.frozen? ⟨c, co + 1, none⟩ = false ∧ ∀ W12 : World, W12 = W11.setCell ⟨c, co + 1, none⟩ (Value.slice p2 (k4 + 1) k8) →
 ∃ z : Int, W12.cell? ⟨c, co + 2, none⟩ = some (.int .i64 z) ∧ ∀ z2 : Int, z2 = IntKind.wrap .i64 (z + 1) → (∃ v6 : Value, W12.cell? ⟨c, co + 2, none⟩ = some v6) ∧
 (W12.frozen? ⟨c, co + 2, none⟩ = false ∧ ∀ W13 : World, W13 = W12.setCell ⟨c, co + 2, none⟩ (Value.int .i64 z2) → ∃ z3 : Int, W13.cell? ⟨c, co + 2, none⟩ = some (.int .i64 z3) ∧
 Sx.split (decide (z3 > 24)) (∃ vs4 : Array Value, vs4.size = 6 ∧ Sx.cellsAt W13 ⟨k, 0, none⟩ vs4 ∧
 Calls Tryz.prog 14 #[.pointer (some ⟨c, co, none⟩), .agg vs4, .int .i64 4] W13 (fun e5 => fun W14 => e5 = .returned (.tuple #[]) ∧ Q (.returned (.tuple #[])) W14))
 (Q (.returned (.tuple #[])) W13))))))))) :
 Calls Tryz.prog 16 #[.pointer (some ⟨c, co, none⟩), .agg n, .string s] W Q :=
 Sx.sound (pk := [1000052]) Tryz.func16 (.node [] [] 0 .leaf (.node [] [] 0 .leaf (.node [] [] 0 .leaf (.node [] [0, 2, 4] 1 .leaf .leaf)))) [Value.pointer (some ⟨c, co, none⟩), .agg n, .string s] rfl (Eq.mp (by kernel_rfl) hVC)
theorem vc31 {W : World} {Q : Ending → World → Prop} (c : Nat) (co : Nat) (n : Array Value)
 (hVC :
 ∀ k : Nat, ∀ W2 : World, k = W.heap.size → W2 = W.alloc (Obj.cells (Value.cells (Value.agg n)) 52) → ∃ s : ByteArray, W2.cell? ⟨k, 0 + 1, none⟩ = some (.string s) ∧
 Calls Tryz.prog 18 #[.pointer (some ⟨c, co, none⟩), .string s] W2 (fun e => fun W3 => ∃ vs : Array Value, ∃ t : Bool, e = .returned (.tuple #[.agg vs, .bool t]) ∧
 ∀ k2 : Nat, ∀ W4 : World, k2 = W3.heap.size → W4 = W3.alloc (Obj.cells #[.string ⟨#[]⟩, .string ⟨#[]⟩, .int .i64 0, .int .u32 0, .slice none 0 0, .slice none 0 0] 52) →
 vs.size = 6 ∧ (∀ k3 : Nat, k3 < 6 → (∃ v : Value, W4.cell? ⟨k2, 0 + k3, none⟩ = some v) ∧ W4.frozen? ⟨k2, 0 + k3, none⟩ = false) ∧ ((∀ v2 : Value, v2 ∈ vs.toList →
 Value.oneCell' v2 = true) ∧ ∀ W5 : World, W5 = W4.setCells k2 0 vs.toList → ∃ s2 : ByteArray, W5.cell? ⟨k, 0 + 1, none⟩ = some (.string s2) ∧
 Calls Tryz.prog 30 #[.pointer (some ⟨c, co, none⟩), .string s2] W5 (fun e2 => fun W6 => ∃ t2 : Bool, e2 = .returned (.bool t2) ∧ Sx.split (!t2) (Sx.split (!t)
 (∃ vs2 : Array Value, vs2.size = 6 ∧ Sx.cellsAt W6 ⟨k, 0, none⟩ vs2 ∧ Calls Tryz.prog 14 #[.pointer (some ⟨c, co, none⟩), .agg vs2, .int .i64 9] W6 (fun e3 => fun W7 =>
 e3 = .returned (.tuple #[]) ∧ Q (.returned (.tuple #[])) W7)) (∃ s3 : ByteArray, W6.cell? ⟨k2, 0, none⟩ = some (.string s3) ∧
 Sx.split (!ByteArray.toList s3 == ByteArray.toList ⟨#[118, 97, 114]⟩) (∃ vs3 : Array Value, vs3.size = 6 ∧ Sx.cellsAt W6 ⟨k, 0, none⟩ vs3 ∧
 Calls Tryz.prog 14 #[.pointer (some ⟨c, co, none⟩), .agg vs3, .int .i64 9] W6 (fun e4 => fun W8 => e4 = .returned (.tuple #[]) ∧ Q (.returned (.tuple #[])) W8))
 (∃ z : Int, W6.cell? ⟨k2, 0 + 3, none⟩ = some (.int .u32 z) ∧ Sx.split (decide (z > 0)) (∃ vs4 : Array Value, vs4.size = 6 ∧ Sx.cellsAt W6 ⟨k, 0, none⟩ vs4 ∧
 Calls Tryz.prog 14 #[.pointer (some ⟨c, co, none⟩), .agg vs4, .int .i64 9] W6 (fun e5 => fun W9 => e5 = .returned (.tuple #[]) ∧ Q (.returned (.tuple #[])) W9))
 (Q (.returned (.tuple #[])) W6)))) (Q (.returned (.tuple #[])) W6))))) :
 Calls Tryz.prog 31 #[.pointer (some ⟨c, co, none⟩), .agg n] W Q :=
 Sx.sound (pk := [1000052]) Tryz.func31 .leaf [Value.pointer (some ⟨c, co, none⟩), .agg n] rfl (Eq.mp (by kernel_rfl) hVC)
theorem vc32 {W : World} {Q : Ending → World → Prop} (c : Nat) (co : Nat) (n : Array Value)
 (hVC :
 ∀ k : Nat, ∀ W2 : World, k = W.heap.size → W2 = W.alloc (Obj.cells (Value.cells (Value.agg n)) 52) → ∃ s : ByteArray, W2.cell? ⟨k, 0 + 1, none⟩ = some (.string s) ∧
 Calls Tryz.prog 18 #[.pointer (some ⟨c, co, none⟩), .string s] W2 (fun e => fun W3 => ∃ vs : Array Value, ∃ t : Bool, e = .returned (.tuple #[.agg vs, .bool t]) ∧
 ∀ k2 : Nat, ∀ W4 : World, k2 = W3.heap.size → W4 = W3.alloc (Obj.cells #[.string ⟨#[]⟩, .string ⟨#[]⟩, .int .i64 0, .int .u32 0, .slice none 0 0, .slice none 0 0] 52) →
 vs.size = 6 ∧ (∀ k3 : Nat, k3 < 6 → (∃ v : Value, W4.cell? ⟨k2, 0 + k3, none⟩ = some v) ∧ W4.frozen? ⟨k2, 0 + k3, none⟩ = false) ∧ ((∀ v2 : Value, v2 ∈ vs.toList →
 Value.oneCell' v2 = true) ∧ ∀ W5 : World, W5 = W4.setCells k2 0 vs.toList → ∃ s2 : ByteArray, W5.cell? ⟨k, 0 + 1, none⟩ = some (.string s2) ∧
 Calls Tryz.prog 30 #[.pointer (some ⟨c, co, none⟩), .string s2] W5 (fun e2 => fun W6 => ∃ t2 : Bool, e2 = .returned (.bool t2) ∧ Sx.split t2 (∃ vs2 : Array Value, vs2.size = 6 ∧
 Sx.cellsAt W6 ⟨k, 0, none⟩ vs2 ∧ Calls Tryz.prog 14 #[.pointer (some ⟨c, co, none⟩), .agg vs2, .int .i64 9] W6 (fun e3 => fun W7 => e3 = .returned (.tuple #[]) ∧
 Q (.returned (.tuple #[])) W7)) (Sx.split (!t) (∃ vs3 : Array Value, vs3.size = 6 ∧ Sx.cellsAt W6 ⟨k, 0, none⟩ vs3 ∧
 Calls Tryz.prog 14 #[.pointer (some ⟨c, co, none⟩), .agg vs3, .int .i64 9] W6 (fun e4 => fun W8 => e4 = .returned (.tuple #[]) ∧ Q (.returned (.tuple #[])) W8))
 (∃ s3 : ByteArray, W6.cell? ⟨k2, 0, none⟩ = some (.string s3) ∧ Sx.split (!ByteArray.toList s3 == ByteArray.toList ⟨#[118, 97, 114]⟩) (∃ vs4 : Array Value, vs4.size = 6 ∧
 Sx.cellsAt W6 ⟨k, 0, none⟩ vs4 ∧ Calls Tryz.prog 14 #[.pointer (some ⟨c, co, none⟩), .agg vs4, .int .i64 9] W6 (fun e5 => fun W9 => e5 = .returned (.tuple #[]) ∧
 Q (.returned (.tuple #[])) W9)) (∃ z : Int, W6.cell? ⟨k2, 0 + 3, none⟩ = some (.int .u32 z) ∧ Sx.split (z == 0) (∃ vs5 : Array Value, vs5.size = 6 ∧ Sx.cellsAt W6 ⟨k, 0, none⟩ vs5 ∧
 Calls Tryz.prog 14 #[.pointer (some ⟨c, co, none⟩), .agg vs5, .int .i64 9] W6 (fun e6 => fun W10 => e6 = .returned (.tuple #[]) ∧ Q (.returned (.tuple #[])) W10))
 (Q (.returned (.tuple #[])) W6)))))))) :
 Calls Tryz.prog 32 #[.pointer (some ⟨c, co, none⟩), .agg n] W Q :=
 Sx.sound (pk := [1000052]) Tryz.func32 .leaf [Value.pointer (some ⟨c, co, none⟩), .agg n] rfl (Eq.mp (by kernel_rfl) hVC)
theorem vc34 {W : World} {Q : Ending → World → Prop} (n : Array Value)
 (hVC :
 ∀ k : Nat, ∀ W2 : World, k = W.heap.size → W2 = W.alloc (Obj.cells (Value.cells (Value.agg n)) 52) → ∃ I : Int → Int → World → Prop, ∃ I2 : Int → Int → World → Nat, I 0 1 W2 ∧
 ((Nat → Value) → ∀ i : Int, ∀ most : Int, ∀ W3 : World, I i most W3 → ∃ p : Option Addr, ∃ k2 : Nat, ∃ k3 : Nat, W3.cell? ⟨k, 0 + 4, none⟩ = some (.slice p k2 k3) ∧
 Sx.split (decide (i < (k2 : Int))) (∃ p2 : Option Addr, ∃ k4 : Nat, ∃ k5 : Nat, W3.cell? ⟨k, 0 + 4, none⟩ = some (.slice p2 k4 k5) ∧ ((0 : Int) ≤ i ∧ i < (k4 : Int)) ∧
 Sx.adr p2 (fun k6 => fun k7 => ∃ vs : Array Value, vs.size = 6 ∧ Sx.cellsAt W3 ⟨k6, k7 + Int.toNat i * 6, none⟩ vs ∧ Calls Tryz.prog 34 #[.agg vs] W3 (fun e => fun W4 =>
 ∃ z : Int, e = .returned (.int .i64 z) ∧ ∃ s : ByteArray, W4.cell? ⟨k, 0, none⟩ = some (.string s) ∧ Sx.split (ByteArray.toList s == ByteArray.toList ⟨#[99, 97, 108, 108]⟩)
 (∀ z2 : Int, z2 = IntKind.wrap .i64 (z + i) → Sx.split (decide (z2 > most)) (∀ z3 : Int, z3 = IntKind.wrap .i64 (i + 1) → I z3 z2 W4 ∧ I2 z3 z2 W4 < I2 i most W3)
 (∀ z4 : Int, z4 = IntKind.wrap .i64 (i + 1) → I z4 most W4 ∧ I2 z4 most W4 < I2 i most W3)) (∃ s2 : ByteArray, W4.cell? ⟨k, 0, none⟩ = some (.string s2) ∧
 Sx.split (ByteArray.toList s2 == ByteArray.toList ⟨#[98, 105, 110]⟩) (∃ s3 : ByteArray, W4.cell? ⟨k, 0 + 1, none⟩ = some (.string s3) ∧
 Sx.split (!ByteArray.toList s3 == ByteArray.toList ⟨#[38, 38]⟩) (∃ s4 : ByteArray, W4.cell? ⟨k, 0 + 1, none⟩ = some (.string s4) ∧
 Sx.split (!ByteArray.toList s4 == ByteArray.toList ⟨#[124, 124]⟩) (∀ z5 : Int, z5 = IntKind.wrap .i64 (z + i) → Sx.split (decide (z5 > most))
 (∀ z6 : Int, z6 = IntKind.wrap .i64 (i + 1) → I z6 z5 W4 ∧ I2 z6 z5 W4 < I2 i most W3) (∀ z7 : Int, z7 = IntKind.wrap .i64 (i + 1) → I z7 most W4 ∧ I2 z7 most W4 < I2 i most W3))
 (Sx.split (decide (z > most)) (∀ z8 : Int, z8 = IntKind.wrap .i64 (i + 1) → I z8 z W4 ∧ I2 z8 z W4 < I2 i most W3) (∀ z9 : Int, z9 = IntKind.wrap .i64 (i + 1) → I z9 most W4 ∧
 I2 z9 most W4 < I2 i most W3))) (Sx.split (decide (z > most)) (∀ z10 : Int, z10 = IntKind.wrap .i64 (i + 1) → I z10 z W4 ∧ I2 z10 z W4 < I2 i most W3)
 (∀ z11 : Int, z11 = IntKind.wrap .i64 (i + 1) → I z11 most W4 ∧ I2 z11 most W4 < I2 i most W3))) (Sx.split (decide (z > most)) (∀ z12 : Int, z12 = IntKind.wrap .i64 (i + 1) →
 I z12 z W4 ∧ I2 z12 z W4 < I2 i most W3) (∀ z13 : Int, z13 = IntKind.wrap .i64 (i + 1) → I z13 most W4 ∧ I2 z13 most W4 < I2 i most W3)))))) (Q (.returned (.int .i64 most)) W3))) :
 Calls Tryz.prog 34 #[.agg n] W Q :=
 Sx.sound (pk := [1000052]) Tryz.func34 (.node [] [] 0 .leaf (.node [] [] 0 .leaf (.node [] [] 0 (.node [] [] 0 .leaf (.node [] [] 0 (.node [(4, .int .i64), (3, .int .i64)] [1] 0 .leaf .leaf) .leaf)) .leaf))) [Value.agg n] rfl (Eq.mp (by kernel_rfl) hVC)
theorem vc33 {W : World} {Q : Ending → World → Prop} (c : Nat) (co : Nat) (n : Array Value)
 (hVC :
 ∀ k : Nat, ∀ W2 : World, k = W.heap.size → W2 = W.alloc (Obj.cells (Value.cells (Value.agg n)) 52) → ∃ vs : Array Value, vs.size = 6 ∧ Sx.cellsAt W2 ⟨k, 0, none⟩ vs ∧
 Calls Tryz.prog 66 #[.pointer (some ⟨c, co, none⟩), .agg vs] W2 (fun e => fun W3 => e = .returned (.tuple #[]) ∧ ∃ vs2 : Array Value, vs2.size = 6 ∧ Sx.cellsAt W3 ⟨k, 0, none⟩ vs2 ∧
 Calls Tryz.prog 34 #[.agg vs2] W3 (fun e2 => fun W4 => ∃ z : Int, e2 = .returned (.int .i64 z) ∧ Sx.split (decide (z > 8)) (∃ vs3 : Array Value, vs3.size = 6 ∧
 Sx.cellsAt W4 ⟨k, 0, none⟩ vs3 ∧ Calls Tryz.prog 14 #[.pointer (some ⟨c, co, none⟩), .agg vs3, .int .i64 4] W4 (fun e3 => fun W5 => e3 = .returned (.tuple #[]) ∧
 Q (.returned (.tuple #[])) W5)) (Q (.returned (.tuple #[])) W4)))) :
 Calls Tryz.prog 33 #[.pointer (some ⟨c, co, none⟩), .agg n] W Q :=
 Sx.sound (pk := [1000052]) Tryz.func33 .leaf [Value.pointer (some ⟨c, co, none⟩), .agg n] rfl (Eq.mp (by kernel_rfl) hVC)
theorem vc66 {W : World} {Q : Ending → World → Prop} (arg0 : Nat) (arg0o : Nat) (arg1 : Array Value)
 (hVC :
 ∀ k : Nat, ∀ W2 : World, k = W.heap.size → W2 = W.alloc (Obj.cells (Value.cells (Value.agg arg1)) 52) →
 ∃ I : World → Prop, (∃ s : ByteArray, W2.cell? ⟨k, 0, none⟩ = some (.string s) ∧ Sx.split (ByteArray.toList s == ByteArray.toList ⟨#[110, 97, 109, 101]⟩)
 (∃ vs : Array Value, vs.size = 6 ∧ Sx.cellsAt W2 ⟨k, 0, none⟩ vs ∧ Calls Tryz.prog 31 #[.pointer (some ⟨arg0, arg0o, none⟩), .agg vs] W2 (fun e => fun W3 =>
 e = .returned (.tuple #[]) ∧ I W3)) (Sx.split (ByteArray.toList s == ByteArray.toList ⟨#[105, 110, 100, 101, 120]⟩) (∃ vs2 : Array Value, vs2.size = 6 ∧
 Sx.cellsAt W2 ⟨k, 0, none⟩ vs2 ∧ Calls Tryz.prog 32 #[.pointer (some ⟨arg0, arg0o, none⟩), .agg vs2] W2 (fun e2 => fun W4 => e2 = .returned (.tuple #[]) ∧ I W4))
 (Sx.split (ByteArray.toList s == ByteArray.toList ⟨#[99, 97, 108, 108]⟩) (∃ s2 : ByteArray, W2.cell? ⟨k, 0 + 1, none⟩ = some (.string s2) ∧
 Calls Tryz.prog 18 #[.pointer (some ⟨arg0, arg0o, none⟩), .string s2] W2 (fun e3 => fun W5 => ∃ vs3 : Array Value, ∃ t : Bool, e3 = .returned (.tuple #[.agg vs3, .bool t]) ∧
 ∀ k2 : Nat, ∀ W6 : World, k2 = W5.heap.size → W6 = W5.alloc (Obj.cells #[.string ⟨#[]⟩, .string ⟨#[]⟩, .int .i64 0, .int .u32 0, .slice none 0 0, .slice none 0 0] 52) →
 vs3.size = 6 ∧ (∀ k3 : Nat, k3 < 6 → (∃ v : Value, W6.cell? ⟨k2, 0 + k3, none⟩ = some v) ∧ W6.frozen? ⟨k2, 0 + k3, none⟩ = false) ∧ ((∀ v2 : Value, v2 ∈ vs3.toList →
 Value.oneCell' v2 = true) ∧ ∀ W7 : World, W7 = W6.setCells k2 0 vs3.toList → ∃ s3 : ByteArray, W7.cell? ⟨k, 0 + 1, none⟩ = some (.string s3) ∧
 Calls Tryz.prog 30 #[.pointer (some ⟨arg0, arg0o, none⟩), .string s3] W7 (fun e4 => fun W8 => ∃ t2 : Bool, e4 = .returned (.bool t2) ∧ Sx.split t2
 (∃ vs4 : Array Value, vs4.size = 6 ∧ Sx.cellsAt W8 ⟨k, 0, none⟩ vs4 ∧ Calls Tryz.prog 14 #[.pointer (some ⟨arg0, arg0o, none⟩), .agg vs4, .int .i64 9] W8 (fun e5 => fun W9 =>
 e5 = .returned (.tuple #[]) ∧ I W9)) (Sx.split (!t) (∃ vs5 : Array Value, vs5.size = 6 ∧ Sx.cellsAt W8 ⟨k, 0, none⟩ vs5 ∧
 Calls Tryz.prog 14 #[.pointer (some ⟨arg0, arg0o, none⟩), .agg vs5, .int .i64 9] W8 (fun e6 => fun W10 => e6 = .returned (.tuple #[]) ∧ I W10))
 (∃ s4 : ByteArray, W8.cell? ⟨k2, 0, none⟩ = some (.string s4) ∧ Sx.split (!ByteArray.toList s4 == ByteArray.toList ⟨#[102, 117, 110, 99]⟩) (∃ vs6 : Array Value, vs6.size = 6 ∧
 Sx.cellsAt W8 ⟨k, 0, none⟩ vs6 ∧ Calls Tryz.prog 14 #[.pointer (some ⟨arg0, arg0o, none⟩), .agg vs6, .int .i64 9] W8 (fun e7 => fun W11 => e7 = .returned (.tuple #[]) ∧ I W11))
 (∃ p : Option Addr, ∃ k4 : Nat, ∃ k5 : Nat, W8.cell? ⟨k2, 0 + 5, none⟩ = some (.slice p k4 k5) ∧
 ∃ p2 : Option Addr, ∃ k6 : Nat, ∃ k7 : Nat, W8.cell? ⟨k, 0 + 4, none⟩ = some (.slice p2 k6 k7) ∧ Sx.split ((k4 : Int) != (k6 : Int)) (∃ vs7 : Array Value, vs7.size = 6 ∧
 Sx.cellsAt W8 ⟨k, 0, none⟩ vs7 ∧ Calls Tryz.prog 14 #[.pointer (some ⟨arg0, arg0o, none⟩), .agg vs7, .int .i64 9] W8 (fun e8 => fun W12 => e8 = .returned (.tuple #[]) ∧ I W12))
 (I W8)))))))) (I W2)))) ∧ ((Nat → Value) → ∀ W13 : World, I W13 → ∃ I2 : Int → World → Prop, ∃ I3 : Int → World → Nat, I2 0 W13 ∧ ((Nat → Value) →
 ∀ x : Int, ∀ W14 : World, I2 x W14 → ∃ p3 : Option Addr, ∃ k8 : Nat, ∃ k9 : Nat, W14.cell? ⟨k, 0 + 4, none⟩ = some (.slice p3 k8 k9) ∧ Sx.split (decide (x < (k8 : Int)))
 (∃ z : Int, W14.cell? ⟨arg0, arg0o + 4, none⟩ = some (.int .i64 z) ∧ Sx.split (z == 0)
 (∃ p4 : Option Addr, ∃ k10 : Nat, ∃ k11 : Nat, W14.cell? ⟨k, 0 + 4, none⟩ = some (.slice p4 k10 k11) ∧ ((0 : Int) ≤ x ∧ x < (k10 : Int)) ∧ Sx.adr p4 (fun k12 => fun k13 =>
 ∃ vs8 : Array Value, vs8.size = 6 ∧ Sx.cellsAt W14 ⟨k12, k13 + Int.toNat x * 6, none⟩ vs8 ∧ Calls Tryz.prog 66 #[.pointer (some ⟨arg0, arg0o, none⟩), .agg vs8] W14 (fun e9 =>
 fun W15 => e9 = .returned (.tuple #[]) ∧ ∀ z2 : Int, z2 = IntKind.wrap .i64 (x + 1) → I2 z2 W15 ∧ I3 z2 W15 < I3 x W14))) (Q (.returned (.tuple #[])) W14))
 (Q (.returned (.tuple #[])) W14)))) :
 Calls Tryz.prog 66 #[.pointer (some ⟨arg0, arg0o, none⟩), .agg arg1] W Q :=
 Sx.sound (pk := [1000052]) Tryz.func66 (.node [] [] 0 .leaf (.node [] [3, 0] 1 .leaf (.node [] [] 0 .leaf (.node [] [] 0 (.node [(7, .int .i64)] [3, 0] 0 .leaf .leaf) .leaf)))) [Value.pointer (some ⟨arg0, arg0o, none⟩), .agg arg1] rfl (Eq.mp (by kernel_rfl) hVC)
theorem vc17 {W : World} {Q : Ending → World → Prop} (arg0 : Nat) (arg0o : Nat) (arg1 : Array Value)
 (hVC :
 ∀ k : Nat, ∀ W2 : World, k = W.heap.size → W2 = W.alloc (Obj.cells (Value.cells (Value.agg arg1)) 52) →
 ∃ I : World → Prop, (∃ s : ByteArray, W2.cell? ⟨k, 0, none⟩ = some (.string s) ∧ Sx.split (ByteArray.toList s == ByteArray.toList ⟨#[98, 108, 111, 99, 107]⟩)
 (∃ p : Option Addr, ∃ k2 : Nat, ∃ k3 : Nat, W2.cell? ⟨arg0, arg0o + 1, none⟩ = some (.slice p k2 k3) ∧ ∃ I2 : Int → World → Prop, ∃ I3 : Int → World → Nat, I2 0 W2 ∧
 ((Nat → Value) → ∀ x : Int, ∀ W3 : World, I2 x W3 → ∃ p2 : Option Addr, ∃ k4 : Nat, ∃ k5 : Nat, W3.cell? ⟨k, 0 + 4, none⟩ = some (.slice p2 k4 k5) ∧
 Sx.split (decide (x < (k4 : Int))) (∃ z : Int, W3.cell? ⟨arg0, arg0o + 4, none⟩ = some (.int .i64 z) ∧ Sx.split (z == 0)
 (∃ p3 : Option Addr, ∃ k6 : Nat, ∃ k7 : Nat, W3.cell? ⟨k, 0 + 4, none⟩ = some (.slice p3 k6 k7) ∧ ((0 : Int) ≤ x ∧ x < (k6 : Int)) ∧ Sx.adr p3 (fun k8 => fun k9 =>
 ∃ vs : Array Value, vs.size = 6 ∧ Sx.cellsAt W3 ⟨k8, k9 + Int.toNat x * 6, none⟩ vs ∧ Calls Tryz.prog 17 #[.pointer (some ⟨arg0, arg0o, none⟩), .agg vs] W3 (fun e => fun W4 =>
 e = .returned (.tuple #[]) ∧ ∀ z2 : Int, z2 = IntKind.wrap .i64 (x + 1) → I2 z2 W4 ∧ I3 z2 W4 < I3 x W3)))
 (∃ p4 : Option Addr, ∃ k10 : Nat, ∃ k11 : Nat, W3.cell? ⟨arg0, arg0o + 1, none⟩ = some (.slice p4 k10 k11) ∧ ((0 : Int) ≤ (k2 : Int) ∧ (k2 : Int) ≤ (k11 : Int)) ∧
 (∃ v : Value, W3.cell? ⟨arg0, arg0o + 1, none⟩ = some v) ∧ (W3.frozen? ⟨arg0, arg0o + 1, none⟩ = false ∧
 ∀ W5 : World, W5 = W3.setCell ⟨arg0, arg0o + 1, none⟩ (Value.slice p4 (Int.toNat (k2 : Int)) k11) → Q (.returned (.tuple #[])) W5)))
 (∃ p5 : Option Addr, ∃ k12 : Nat, ∃ k13 : Nat, W3.cell? ⟨arg0, arg0o + 1, none⟩ = some (.slice p5 k12 k13) ∧ ((0 : Int) ≤ (k2 : Int) ∧ (k2 : Int) ≤ (k13 : Int)) ∧
 (∃ v2 : Value, W3.cell? ⟨arg0, arg0o + 1, none⟩ = some v2) ∧ (W3.frozen? ⟨arg0, arg0o + 1, none⟩ = false ∧
 ∀ W6 : World, W6 = W3.setCell ⟨arg0, arg0o + 1, none⟩ (Value.slice p5 (Int.toNat (k2 : Int)) k13) → Q (.returned (.tuple #[])) W6))))
 (Sx.split (ByteArray.toList s == ByteArray.toList ⟨#[115, 101, 116]⟩) (∃ vs2 : Array Value, vs2.size = 6 ∧ Sx.cellsAt W2 ⟨k, 0, none⟩ vs2 ∧
 Calls Tryz.prog 31 #[.pointer (some ⟨arg0, arg0o, none⟩), .agg vs2] W2 (fun e2 => fun W7 => e2 = .returned (.tuple #[]) ∧ I W7))
 (Sx.split (ByteArray.toList s == ByteArray.toList ⟨#[112, 117, 116]⟩) (∃ vs3 : Array Value, vs3.size = 6 ∧ Sx.cellsAt W2 ⟨k, 0, none⟩ vs3 ∧
 Calls Tryz.prog 32 #[.pointer (some ⟨arg0, arg0o, none⟩), .agg vs3] W2 (fun e3 => fun W8 => e3 = .returned (.tuple #[]) ∧ I W8)) (I W2)))) ∧ ((Nat → Value) → ∀ W9 : World, I W9 →
 ∃ z3 : Int, W9.cell? ⟨arg0, arg0o + 4, none⟩ = some (.int .i64 z3) ∧ Sx.split (z3 != 0) (Q (.returned (.tuple #[])) W9)
 (∃ p6 : Option Addr, ∃ k14 : Nat, ∃ k15 : Nat, W9.cell? ⟨k, 0 + 4, none⟩ = some (.slice p6 k14 k15) ∧ ((0 : Int) ≤ (0 : Int) ∧ (0 : Int) < (k14 : Int)) ∧ Sx.adr p6 (fun k16 =>
 fun k17 => ∃ vs4 : Array Value, vs4.size = 6 ∧ Sx.cellsAt W9 ⟨k16, k17 + 0, none⟩ vs4 ∧ Calls Tryz.prog 33 #[.pointer (some ⟨arg0, arg0o, none⟩), .agg vs4] W9 (fun e4 => fun W10 =>
 e4 = .returned (.tuple #[]) ∧ ∃ s2 : ByteArray, W10.cell? ⟨k, 0, none⟩ = some (.string s2) ∧ Sx.split (ByteArray.toList s2 == ByteArray.toList ⟨#[108, 101, 116]⟩)
 (∃ vs5 : Array Value, vs5.size = 6 ∧ Sx.cellsAt W10 ⟨k, 0, none⟩ vs5 ∧ ∃ s3 : ByteArray, W10.cell? ⟨k, 0 + 1, none⟩ = some (.string s3) ∧
 Calls Tryz.prog 16 #[.pointer (some ⟨arg0, arg0o, none⟩), .agg vs5, .string s3] W10 (fun e5 => fun W11 => e5 = .returned (.tuple #[]) ∧ Q (.returned (.tuple #[])) W11))
 (Sx.split (ByteArray.toList s2 == ByteArray.toList ⟨#[112, 117, 116]⟩) (∃ p7 : Option Addr, ∃ k18 : Nat, ∃ k19 : Nat, W10.cell? ⟨k, 0 + 4, none⟩ = some (.slice p7 k18 k19) ∧
 ((0 : Int) ≤ (1 : Int) ∧ (1 : Int) < (k18 : Int)) ∧ Sx.adr p7 (fun k20 => fun k21 => ∃ vs6 : Array Value, vs6.size = 6 ∧ Sx.cellsAt W10 ⟨k20, k21 + 6, none⟩ vs6 ∧
 Calls Tryz.prog 34 #[.agg vs6] W10 (fun e6 => fun W12 => ∃ z4 : Int, e6 = .returned (.int .i64 z4) ∧ ∀ z5 : Int, z5 = IntKind.wrap .i64 (z4 + 1) →
 ∃ p8 : Option Addr, ∃ k22 : Nat, ∃ k23 : Nat, W12.cell? ⟨k, 0 + 4, none⟩ = some (.slice p8 k22 k23) ∧ ((0 : Int) ≤ (1 : Int) ∧ (1 : Int) < (k22 : Int)) ∧ Sx.adr p8 (fun k24 =>
 fun k25 => ∃ vs7 : Array Value, vs7.size = 6 ∧ Sx.cellsAt W12 ⟨k24, k25 + 6, none⟩ vs7 ∧ Calls Tryz.prog 33 #[.pointer (some ⟨arg0, arg0o, none⟩), .agg vs7] W12 (fun e7 =>
 fun W13 => e7 = .returned (.tuple #[]) ∧ Sx.split (decide (z5 > 8)) (∃ p9 : Option Addr, ∃ k26 : Nat, ∃ k27 : Nat, W13.cell? ⟨k, 0 + 4, none⟩ = some (.slice p9 k26 k27) ∧
 ((0 : Int) ≤ (1 : Int) ∧ (1 : Int) < (k26 : Int)) ∧ Sx.adr p9 (fun k28 => fun k29 => ∃ vs8 : Array Value, vs8.size = 6 ∧ Sx.cellsAt W13 ⟨k28, k29 + 6, none⟩ vs8 ∧
 Calls Tryz.prog 14 #[.pointer (some ⟨arg0, arg0o, none⟩), .agg vs8, .int .i64 4] W13 (fun e8 => fun W14 => e8 = .returned (.tuple #[]) ∧ Q (.returned (.tuple #[])) W14)))
 (Q (.returned (.tuple #[])) W13)))))) (∃ I4 : Bool → World → Prop, Sx.split (ByteArray.toList s2 == ByteArray.toList ⟨#[105, 102]⟩) (I4 true W10)
 (I4 (ByteArray.toList s2 == ByteArray.toList ⟨#[119, 104, 105, 108, 101]⟩) W10) ∧ ((Nat → Value) → ∀ x2 : Bool, ∀ W15 : World, I4 x2 W15 → Sx.split x2
 (∃ I5 : Int → World → Prop, ∃ I6 : Int → World → Nat, I5 1 W15 ∧ ((Nat → Value) → ∀ x3 : Int, ∀ W16 : World, I5 x3 W16 →
 ∃ p10 : Option Addr, ∃ k30 : Nat, ∃ k31 : Nat, W16.cell? ⟨k, 0 + 4, none⟩ = some (.slice p10 k30 k31) ∧ Sx.split (decide (x3 < (k30 : Int)))
 (∃ z6 : Int, W16.cell? ⟨arg0, arg0o + 4, none⟩ = some (.int .i64 z6) ∧ Sx.split (z6 == 0)
 (∃ p11 : Option Addr, ∃ k32 : Nat, ∃ k33 : Nat, W16.cell? ⟨k, 0 + 4, none⟩ = some (.slice p11 k32 k33) ∧ ((0 : Int) ≤ x3 ∧ x3 < (k32 : Int)) ∧ Sx.adr p11 (fun k34 => fun k35 =>
 ∃ vs9 : Array Value, vs9.size = 6 ∧ Sx.cellsAt W16 ⟨k34, k35 + Int.toNat x3 * 6, none⟩ vs9 ∧ Calls Tryz.prog 17 #[.pointer (some ⟨arg0, arg0o, none⟩), .agg vs9] W16 (fun e9 =>
 fun W17 => e9 = .returned (.tuple #[]) ∧ ∀ z7 : Int, z7 = IntKind.wrap .i64 (x3 + 1) → I5 z7 W17 ∧ I6 z7 W17 < I6 x3 W16))) (Q (.returned (.tuple #[])) W16))
 (Q (.returned (.tuple #[])) W16))) (Q (.returned (.tuple #[])) W15))))))))) :
 Calls Tryz.prog 17 #[.pointer (some ⟨arg0, arg0o, none⟩), .agg arg1] W Q :=
 Sx.sound (pk := [1000052]) Tryz.func17 (.node [] [] 0 .leaf (.node [] [0, 3] 1 (.node [] [] 0 .leaf (.node [] [] 0 (.node [] [] 0 .leaf (.node [] [] 0 (.node [] [] 0 .leaf (.node [] [] 0 (.node [] [] 0 .leaf (.node [] [] 0 (.node [(5, .int .i64)] [3, 0, 4] 0 .leaf .leaf) .leaf)) .leaf)) .leaf)) .leaf)) (.node [] [] 0 .leaf (.node [] [] 0 .leaf (.node [] [] 0 .leaf (.node [] [] 0 (.node [] [] 0 .leaf (.node [] [] 0 .leaf (.node [] [] 0 .leaf (.node [] [] 0 .leaf (.node [(99, .bool)] [3, 0] 1 .leaf (.node [] [] 0 (.node [] [] 0 .leaf (.node [] [] 0 (.node [(7, .int .i64)] [3, 0] 0 .leaf .leaf) .leaf)) .leaf)))))) .leaf)))))) [Value.pointer (some ⟨arg0, arg0o, none⟩), .agg arg1] rfl (Eq.mp (by kernel_rfl) hVC)
theorem vc15 {W : World} {Q : Ending → World → Prop} (decls : Option Addr) (declsn : Nat) (declsc : Nat)
 (hVC :
 ∃ I : Int → Int → World → Prop, ∃ I2 : Int → Int → World → Nat, I 0 0 W ∧ ((Nat → Value) → ∀ i : Int, ∀ n : Int, ∀ W2 : World, I i n W2 → Sx.split (decide (i < (declsn : Int)))
 (((0 : Int) ≤ i ∧ i < (declsn : Int)) ∧ Sx.adr decls (fun k => fun k2 => ∃ s : ByteArray, W2.cell? ⟨k, k2 + Int.toNat i * 6, none⟩ = some (.string s) ∧
 Sx.split (ByteArray.toList s == ByteArray.toList ⟨#[118, 97, 114]⟩) (((0 : Int) ≤ i ∧ i < (declsn : Int)) ∧ Sx.adr decls (fun k3 => fun k4 =>
 ∃ z : Int, W2.cell? ⟨k3, k4 + Int.toNat i * 6 + 3, none⟩ = some (.int .u32 z) ∧ Sx.split (z == 0) (∀ z2 : Int, z2 = IntKind.wrap .i64 (n + 1) → ((0 : Int) ≤ i ∧
 i < (declsn : Int)) ∧ Sx.adr decls (fun k5 => fun k6 => ∃ z3 : Int, W2.cell? ⟨k5, k6 + Int.toNat i * 6 + 3, none⟩ = some (.int .u32 z3) ∧ ∀ z4 : Int, z4 = IntKind.wrap .i64 z3 →
 ∀ z5 : Int, z5 = IntKind.wrap .i64 (z2 + z4) → ∀ z6 : Int, z6 = IntKind.wrap .i64 (i + 1) → I z6 z5 W2 ∧ I2 z6 z5 W2 < I2 i n W2)) (((0 : Int) ≤ i ∧ i < (declsn : Int)) ∧
 Sx.adr decls (fun k7 => fun k8 => ∃ z7 : Int, W2.cell? ⟨k7, k8 + Int.toNat i * 6 + 3, none⟩ = some (.int .u32 z7) ∧ ∀ z8 : Int, z8 = IntKind.wrap .i64 z7 →
 ∀ z9 : Int, z9 = IntKind.wrap .i64 (n + z8) → ∀ z10 : Int, z10 = IntKind.wrap .i64 (i + 1) → I z10 z9 W2 ∧ I2 z10 z9 W2 < I2 i n W2)))) (((0 : Int) ≤ i ∧ i < (declsn : Int)) ∧
 Sx.adr decls (fun k9 => fun k10 => ∃ z11 : Int, W2.cell? ⟨k9, k10 + Int.toNat i * 6 + 3, none⟩ = some (.int .u32 z11) ∧ ∀ z12 : Int, z12 = IntKind.wrap .i64 z11 →
 ∀ z13 : Int, z13 = IntKind.wrap .i64 (n + z12) → ∀ z14 : Int, z14 = IntKind.wrap .i64 (i + 1) → I z14 z13 W2 ∧ I2 z14 z13 W2 < I2 i n W2)))) (Q (.returned (.int .i64 n)) W2))) :
 Calls Tryz.prog 15 #[.slice decls declsn declsc] W Q :=
 Sx.sound (pk := [1000052]) Tryz.func15 (.node [] [] 0 .leaf (.node [] [] 0 .leaf (.node [] [] 0 (.node [] [] 0 .leaf (.node [] [] 0 (.node [(4, .int .i64), (3, .int .i64)] [0] 0 .leaf .leaf) .leaf)) .leaf))) [Value.slice decls declsn declsc] rfl (Eq.mp (by kernel_rfl) hVC)
theorem vc7 {W : World} {Q : Ending → World → Prop} (arg0 : ByteArray)
 (hVC :
 Calls Tryz.prog 13 #[.string arg0] W (fun e => fun W2 =>
 ∃ p : Option Addr, ∃ k : Nat, ∃ k2 : Nat, ∃ z : Int, ∃ z2 : Int, e = .returned (.tuple #[.slice p k k2, .int .i64 z, .int .i64 z2]) ∧ Sx.split (z2 != 0)
 (Q (.returned (.tuple #[.slice none 0 0, .int .i64 z, .int .i64 z2])) W2) (∀ vs : Array Value, vs = #[.slice p k k2, .slice none 0 0, .int .i64 0, .int .i64 0, .int .i64 0] →
 ∀ k3 : Nat, ∀ W3 : World, k3 = W2.heap.size → W3 = W2.alloc (Obj.cells (Value.cells (Value.agg vs)) 50) →
 ∃ I : World → Prop, (∃ I2 : Int → World → Prop, ∃ I3 : Int → World → Nat, I2 0 W3 ∧ ((Nat → Value) → ∀ x : Int, ∀ W4 : World, I2 x W4 → Sx.split (decide (x < (k : Int)))
 (∃ z3 : Int, W4.cell? ⟨k3, 0 + 4, none⟩ = some (.int .i64 z3) ∧ Sx.split (z3 == 0) (∃ I4 : Int → World → Prop, ∃ I5 : Int → World → Nat, I4 0 W4 ∧ ((Nat → Value) →
 ∀ x2 : Int, ∀ W5 : World, I4 x2 W5 → Sx.split (decide (x2 < x)) (((0 : Int) ≤ x2 ∧ x2 < (k : Int)) ∧ Sx.adr p (fun k4 => fun k5 =>
 ∃ s : ByteArray, W5.cell? ⟨k4, k5 + Int.toNat x2 * 6 + 1, none⟩ = some (.string s) ∧ ((0 : Int) ≤ x ∧ x < (k : Int)) ∧ Sx.adr p (fun k6 => fun k7 =>
 ∃ s2 : ByteArray, W5.cell? ⟨k6, k7 + Int.toNat x * 6 + 1, none⟩ = some (.string s2) ∧ ∀ W6 : World, ∀ k8 : Nat, W6 = W5.drewN k8 →
 Sx.split (ByteArray.toList s == ByteArray.toList s2) (((0 : Int) ≤ x ∧ x < (k : Int)) ∧ Sx.adr p (fun k9 => fun k10 => ∃ vs2 : Array Value, vs2.size = 6 ∧
 Sx.cellsAt W6 ⟨k9, k10 + Int.toNat x * 6, none⟩ vs2 ∧ Calls Tryz.prog 14 #[.pointer (some ⟨k3, 0, none⟩), .agg vs2, .int .i64 9] W6 (fun e2 => fun W7 =>
 e2 = .returned (.tuple #[]) ∧ ∀ z4 : Int, z4 = IntKind.wrap .i64 (x2 + 1) → I4 z4 W7 ∧ I5 z4 W7 < I5 x2 W5))) (∀ z5 : Int, z5 = IntKind.wrap .i64 (x2 + 1) → I4 z5 W6 ∧
 I5 z5 W6 < I5 x2 W5)))) (((0 : Int) ≤ x ∧ x < (k : Int)) ∧ Sx.adr p (fun k11 => fun k12 => ∃ s3 : ByteArray, W5.cell? ⟨k11, k12 + Int.toNat x * 6, none⟩ = some (.string s3) ∧
 Sx.split (ByteArray.toList s3 == ByteArray.toList ⟨#[118, 97, 114]⟩) (∀ z6 : Int, z6 = IntKind.wrap .i64 (x + 1) → ((0 : Int) ≤ z6 ∧ z6 ≤ (k2 : Int)) ∧
 Calls Tryz.prog 15 #[.slice p (Int.toNat z6) k2] W5 (fun e3 => fun W8 => ∃ z7 : Int, e3 = .returned (.int .i64 z7) ∧ Sx.split (decide (z7 > 512)) (((0 : Int) ≤ x ∧ x < (k : Int)) ∧
 Sx.adr p (fun k13 => fun k14 => ∃ vs3 : Array Value, vs3.size = 6 ∧ Sx.cellsAt W8 ⟨k13, k14 + Int.toNat x * 6, none⟩ vs3 ∧
 Calls Tryz.prog 14 #[.pointer (some ⟨k3, 0, none⟩), .agg vs3, .int .i64 1] W8 (fun e4 => fun W9 => e4 = .returned (.tuple #[]) ∧ ∀ z8 : Int, z8 = IntKind.wrap .i64 (x + 1) →
 I2 z8 W9 ∧ I3 z8 W9 < I3 x W4))) (∀ z9 : Int, z9 = IntKind.wrap .i64 (x + 1) → I2 z9 W8 ∧ I3 z9 W8 < I3 x W4))) ((∃ v : Value, W5.cell? ⟨k3, 0 + 1, none⟩ = some v) ∧
 (W5.frozen? ⟨k3, 0 + 1, none⟩ = false ∧ ∀ W10 : World, W10 = W5.setCell ⟨k3, 0 + 1, none⟩ (Value.slice none 0 0) → (∃ v2 : Value, W10.cell? ⟨k3, 0 + 2, none⟩ = some v2) ∧
 (W10.frozen? ⟨k3, 0 + 2, none⟩ = false ∧ ∀ W11 : World, W11 = W10.setCell ⟨k3, 0 + 2, none⟩ (Value.int .i64 0) →
 ∃ I6 : World → Prop, (∃ I7 : Int → World → Prop, ∃ I8 : Int → World → Nat, I7 0 W11 ∧ ((Nat → Value) → ∀ x3 : Int, ∀ W12 : World, I7 x3 W12 → ((0 : Int) ≤ x ∧ x < (k : Int)) ∧
 Sx.adr p (fun k15 => fun k16 => ∃ p2 : Option Addr, ∃ k17 : Nat, ∃ k18 : Nat, W12.cell? ⟨k15, k16 + Int.toNat x * 6 + 5, none⟩ = some (.slice p2 k17 k18) ∧
 Sx.split (decide (x3 < (k17 : Int))) (∃ z10 : Int, W12.cell? ⟨k3, 0 + 4, none⟩ = some (.int .i64 z10) ∧ Sx.split (z10 == 0) (∀ W13 : World, W13 = World.drew W12 → ((0 : Int) ≤ x ∧
 x < (k : Int)) ∧ Sx.adr p (fun k19 => fun k20 => ((0 : Int) ≤ x ∧ x < (k : Int)) ∧ Sx.adr p (fun k21 => fun k22 => ∃ vs4 : Array Value, vs4.size = 6 ∧
 Sx.cellsAt W13 ⟨k19, k20 + Int.toNat x * 6, none⟩ vs4 ∧ ∃ p3 : Option Addr, ∃ k23 : Nat, ∃ k24 : Nat, W13.cell? ⟨k21, k22 + Int.toNat x * 6 + 5, none⟩ = some (.slice p3 k23 k24) ∧
 ((0 : Int) ≤ x3 ∧ x3 < (k23 : Int)) ∧ Sx.adr p3 (fun k25 => fun k26 => ∃ s4 : ByteArray, W13.cell? ⟨k25, k26 + Int.toNat x3 * 1, none⟩ = some (.string s4) ∧
 Calls Tryz.prog 16 #[.pointer (some ⟨k3, 0, none⟩), .agg vs4, .string s4] W13 (fun e5 => fun W14 => e5 = .returned (.tuple #[]) ∧ ∀ z11 : Int, z11 = IntKind.wrap .i64 (x3 + 1) →
 I7 z11 W14 ∧ I8 z11 W14 < I8 x3 W12))))) (I6 W12)) (I6 W12)))) ∧ ((Nat → Value) → ∀ W15 : World, I6 W15 → ∃ z12 : Int, W15.cell? ⟨k3, 0 + 4, none⟩ = some (.int .i64 z12) ∧
 Sx.split (z12 == 0) (((0 : Int) ≤ x ∧ x < (k : Int)) ∧ Sx.adr p (fun k27 => fun k28 =>
 ∃ p4 : Option Addr, ∃ k29 : Nat, ∃ k30 : Nat, W15.cell? ⟨k27, k28 + Int.toNat x * 6 + 4, none⟩ = some (.slice p4 k29 k30) ∧ ((0 : Int) ≤ (0 : Int) ∧ (0 : Int) < (k29 : Int)) ∧
 Sx.adr p4 (fun k31 => fun k32 => ∃ vs5 : Array Value, vs5.size = 6 ∧ Sx.cellsAt W15 ⟨k31, k32 + 0, none⟩ vs5 ∧
 Calls Tryz.prog 17 #[.pointer (some ⟨k3, 0, none⟩), .agg vs5] W15 (fun e6 => fun W16 => e6 = .returned (.tuple #[]) ∧ ∀ z13 : Int, z13 = IntKind.wrap .i64 (x + 1) → I2 z13 W16 ∧
 I3 z13 W16 < I3 x W4)))) (∀ z14 : Int, z14 = IntKind.wrap .i64 (x + 1) → I2 z14 W15 ∧ I3 z14 W15 < I3 x W4))))))))) (I W4)) (I W4))) ∧ ((Nat → Value) → ∀ W17 : World, I W17 →
 ∃ z15 : Int, W17.cell? ⟨k3, 0 + 4, none⟩ = some (.int .i64 z15) ∧ Sx.split (z15 != 0) (∃ z16 : Int, W17.cell? ⟨k3, 0 + 3, none⟩ = some (.int .i64 z16) ∧
 ∃ z17 : Int, W17.cell? ⟨k3, 0 + 4, none⟩ = some (.int .i64 z17) ∧ ∀ W18 : World, ∀ k33 : Nat, W18 = W17.drewN k33 →
 Q (.returned (.tuple #[.slice none 0 0, .int .i64 z16, .int .i64 z17])) W18) (Calls Tryz.prog 18 #[.pointer (some ⟨k3, 0, none⟩), .string ⟨#[109, 97, 105, 110]⟩] W17 (fun e7 =>
 fun W19 => ∃ vs6 : Array Value, ∃ t : Bool, e7 = .returned (.tuple #[.agg vs6, .bool t]) ∧ ∀ k34 : Nat, ∀ W20 : World, k34 = W19.heap.size →
 W20 = W19.alloc (Obj.cells #[.string ⟨#[]⟩, .string ⟨#[]⟩, .int .i64 0, .int .u32 0, .slice none 0 0, .slice none 0 0] 52) → vs6.size = 6 ∧ (∀ k35 : Nat, k35 < 6 →
 (∃ v3 : Value, W20.cell? ⟨k34, 0 + k35, none⟩ = some v3) ∧ W20.frozen? ⟨k34, 0 + k35, none⟩ = false) ∧ ((∀ v4 : Value, v4 ∈ vs6.toList → Value.oneCell' v4 = true) ∧
 ∀ W21 : World, W21 = W20.setCells k34 0 vs6.toList → Sx.split (!t) (Q (.returned (.tuple #[.slice none 0 0, .int .i64 0, .int .i64 9])) W21)
 (∃ s5 : ByteArray, W21.cell? ⟨k34, 0, none⟩ = some (.string s5) ∧ Sx.split (!ByteArray.toList s5 == ByteArray.toList ⟨#[102, 117, 110, 99]⟩)
 (Q (.returned (.tuple #[.slice none 0 0, .int .i64 0, .int .i64 9])) W21) (∃ p5 : Option Addr, ∃ k36 : Nat, ∃ k37 : Nat, W21.cell? ⟨k34, 0 + 5, none⟩ = some (.slice p5 k36 k37) ∧
 Sx.split (decide ((k36 : Int) > 0)) (Q (.returned (.tuple #[.slice none 0 0, .int .i64 0, .int .i64 9])) W21)
 (Q (.returned (.tuple #[.slice p k k2, .int .i64 0, .int .i64 0])) W21)))))))))) :
 Calls Tryz.prog 7 #[.string arg0] W Q :=
 Sx.sound (pk := [1000052]) Tryz.func7 (.node [] [] 0 .leaf (.node [] [] 0 .leaf (.node [] [] 0 .leaf (.node [] [] 0 .leaf (.node [] [8, 5] 1 (.node [] [] 0 .leaf (.node [] [] 0 (.node [(9, .int .i64)] [5, 8] 0 (.node [] [] 0 .leaf (.node [] [] 0 (.node [] [] 0 (.node [] [] 0 (.node [] [] 0 .leaf (.node [] [] 0 (.node [(10, .int .i64)] [9, 5, 8] 0 .leaf .leaf) .leaf)) (.node [] [] 0 .leaf (.node [] [] 0 .leaf (.node [] [] 0 .leaf (.node [] [8, 5, 9] 1 (.node [] [] 0 .leaf (.node [] [] 0 (.node [(12, .int .i64)] [5, 9, 8] 0 (.node [] [] 0 .leaf (.node [] [] 0 (.node [] [] 0 (.node [] [] 1001014 .leaf .leaf) .leaf) .leaf)) .leaf) .leaf)) .leaf))))) .leaf) .leaf)) .leaf) .leaf)) .leaf))))) [Value.string arg0] rfl (Eq.mp (by kernel_rfl) hVC)
end Go.Proofs.YtojogkljneonmaaGreatDoor
