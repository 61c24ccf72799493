/- What each function asks, reckoned out of its text; printed by a program of mine (wip/tpl/VcTool.lean). No condition. -/
import Derived.Test.YtojogkljneonmaaGreatDoorSxB
import Derived.Test.YtojogkljneonmaaGreatDoorChecked
namespace Go.Proofs.YtojogkljneonmaaGreatDoor
open Go Go.Proofs
set_option linter.unusedVariables false
set_option maxRecDepth 100000
theorem vc63 {W : World} {Q : Ending → World → Prop} (p : Nat) (po : Nat) (e : Int)
 (hVC :
 ∀ k : Nat, ∀ W2 : World, k = W.heap.size → W2 = W.alloc (Obj.cells #[.string ⟨#[]⟩, .string ⟨#[]⟩, .int .i64 0, .int .u32 0, .slice none 0 0, .slice none 0 0] 52) →
 ∃ z : Int, W2.cell? ⟨p, po + 3, none⟩ = some (.int .i64 z) ∧ Sx.split (z == 0) ((∃ v : Value, W2.cell? ⟨p, po + 3, none⟩ = some v) ∧ (W2.frozen? ⟨p, po + 3, none⟩ = false ∧
 ∀ W3 : World, W3 = W2.setCell ⟨p, po + 3, none⟩ (Value.int .i64 e) → ∀ W4 : World, W4 = World.drew W3 →
 ∃ p2 : Option Addr, ∃ k2 : Nat, ∃ k3 : Nat, W4.cell? ⟨p, po, none⟩ = some (.slice p2 k2 k3) ∧ ∃ z2 : Int, W4.cell? ⟨p, po + 1, none⟩ = some (.int .i64 z2) ∧ ((0 : Int) ≤ z2 ∧
 z2 < (k2 : Int)) ∧ Sx.adr p2 (fun k4 => fun k5 => ∃ z3 : Int, W4.cell? ⟨k4, k5 + Int.toNat z2 * 3 + 2, none⟩ = some (.int .i64 z3) ∧
 (∃ v2 : Value, W4.cell? ⟨p, po + 2, none⟩ = some v2) ∧ (W4.frozen? ⟨p, po + 2, none⟩ = false ∧ ∀ W5 : World, W5 = W4.setCell ⟨p, po + 2, none⟩ (Value.int .i64 z3) →
 ∀ vs : Array Value, vs = #[.string ⟨#[]⟩, .string ⟨#[]⟩, .int .i64 0, .int .u32 0, .slice none 0 0, .slice none 0 0] → vs.size = 6 ∧ (∀ k6 : Nat, k6 < 6 →
 (∃ v3 : Value, W5.cell? ⟨k, 0 + k6, none⟩ = some v3) ∧ W5.frozen? ⟨k, 0 + k6, none⟩ = false) ∧ ((∀ v4 : Value, v4 ∈ vs.toList → Value.oneCell' v4 = true) ∧
 ∀ W6 : World, W6 = W5.setCells k 0 vs.toList → ∃ vs2 : Array Value, vs2.size = 6 ∧ Sx.cellsAt W6 ⟨k, 0, none⟩ vs2 ∧ Q (.returned (.agg vs2)) W6)))))
 (∀ vs3 : Array Value, vs3 = #[.string ⟨#[]⟩, .string ⟨#[]⟩, .int .i64 0, .int .u32 0, .slice none 0 0, .slice none 0 0] → vs3.size = 6 ∧ (∀ k7 : Nat, k7 < 6 →
 (∃ v5 : Value, W2.cell? ⟨k, 0 + k7, none⟩ = some v5) ∧ W2.frozen? ⟨k, 0 + k7, none⟩ = false) ∧ ((∀ v6 : Value, v6 ∈ vs3.toList → Value.oneCell' v6 = true) ∧
 ∀ W7 : World, W7 = W2.setCells k 0 vs3.toList → ∃ vs4 : Array Value, vs4.size = 6 ∧ Sx.cellsAt W7 ⟨k, 0, none⟩ vs4 ∧ Q (.returned (.agg vs4)) W7))) :
 Calls Tryz.prog 63 #[.pointer (some ⟨p, po, none⟩), .int .i64 e] W Q :=
 Sx.sound (pk := [1000052]) Tryz.func63 (.node [] [] 0 .leaf (.node [] [] 0 (.node [] [] 0 .leaf (.node [] [] 0 (.node [] [] 0 .leaf (.node [] [] 15 .leaf .leaf)) .leaf)) .leaf)) [Value.pointer (some ⟨p, po, none⟩), .int .i64 e] rfl (Eq.mp (by kernel_rfl) hVC)
theorem vc101 {W : World} {Q : Ending → World → Prop} (p : Nat) (po : Nat) (s : ByteArray)
 (hVC :
 ∀ W2 : World, W2 = World.drew W → ∃ p2 : Option Addr, ∃ k : Nat, ∃ k2 : Nat, W2.cell? ⟨p, po, none⟩ = some (.slice p2 k k2) ∧
 ∃ z : Int, W2.cell? ⟨p, po + 1, none⟩ = some (.int .i64 z) ∧ ((0 : Int) ≤ z ∧ z < (k : Int)) ∧ Sx.adr p2 (fun k3 => fun k4 => ∃ vs : Array Value, vs.size = 3 ∧
 (Sx.cellsAt W2 ⟨k3, k4 + Int.toNat z * 3, none⟩ vs ∧ ∀ k5 : Nat, ∀ W3 : World, k5 = W2.heap.size → W3 = W2.alloc (Obj.cells #[.int .u8 0, .string ⟨#[]⟩, .int .i64 0] 96) →
 RowKit.Below (W2.heap.size) W2 W3 ∧ vs.size = 3 ∧ (∀ k6 : Nat, k6 < 3 → (∃ v : Value, W3.cell? ⟨k5, 0 + k6, none⟩ = some v) ∧ W3.frozen? ⟨k5, 0 + k6, none⟩ = false) ∧
 ((∀ v2 : Value, v2 ∈ vs.toList → Value.oneCell' v2 = true) ∧ ∀ W4 : World, W4 = W3.setCells k5 0 vs.toList → ∃ z2 : Int, W4.cell? ⟨k5, 0, none⟩ = some (.int .u8 z2) ∧
 Sx.split (z2 == 107) (∃ s2 : ByteArray, W4.cell? ⟨k5, 0 + 1, none⟩ = some (.string s2) ∧ Q (.returned (.bool (ByteArray.toList s2 == ByteArray.toList s))) W4)
 (Q (.returned (.bool false)) W4))))) :
 Calls Tryz.prog 101 #[.pointer (some ⟨p, po, none⟩), .string s] W Q :=
 Sx.sound (pk := [1000052]) Tryz.func101 (.node [] [] 0 .leaf (.node [] [] 0 (.node [] [] 1001012 .leaf .leaf) .leaf)) [Value.pointer (some ⟨p, po, none⟩), .string s] rfl (Eq.mp (by kernel_rfl) hVC)
theorem vc60 {W : World} {Q : Ending → World → Prop} (p : Nat) (po : Nat) (s : ByteArray)
 (hVC :
 Calls Tryz.prog 101 #[.pointer (some ⟨p, po, none⟩), .string s] W (fun e => fun W2 => ∃ t : Bool, e = .returned (.bool t) ∧ Sx.split t
 (∃ z : Int, W2.cell? ⟨p, po + 3, none⟩ = some (.int .i64 z) ∧ Sx.split (z == 0) (∃ z2 : Int, W2.cell? ⟨p, po + 1, none⟩ = some (.int .i64 z2) ∧
 ∀ z3 : Int, z3 = IntKind.wrap .i64 (z2 + 1) → (∃ v : Value, W2.cell? ⟨p, po + 1, none⟩ = some v) ∧ (W2.frozen? ⟨p, po + 1, none⟩ = false ∧
 ∀ W3 : World, W3 = W2.setCell ⟨p, po + 1, none⟩ (Value.int .i64 z3) → Q (.returned (.bool true)) W3)) (Q (.returned (.bool false)) W2)) (Q (.returned (.bool false)) W2))) :
 Calls Tryz.prog 60 #[.pointer (some ⟨p, po, none⟩), .string s] W Q :=
 Sx.sound (pk := [1000052]) Tryz.func60 .leaf [Value.pointer (some ⟨p, po, none⟩), .string s] rfl (Eq.mp (by kernel_rfl) hVC)
theorem vc64 {W : World} {Q : Ending → World → Prop} (p : Nat) (po : Nat) (s : ByteArray)
 (hVC :
 Calls Tryz.prog 60 #[.pointer (some ⟨p, po, none⟩), .string s] W (fun e => fun W2 => ∃ t : Bool, e = .returned (.bool t) ∧ Sx.split (!t)
 (Calls Tryz.prog 63 #[.pointer (some ⟨p, po, none⟩), .int .i64 8] W2 (fun e2 => fun W3 => ∃ vs : Array Value, e2 = .returned (.agg vs) ∧ Q (.returned (.tuple #[])) W3))
 (Q (.returned (.tuple #[])) W2))) :
 Calls Tryz.prog 64 #[.pointer (some ⟨p, po, none⟩), .string s] W Q :=
 Sx.sound (pk := [1000052]) Tryz.func64 .leaf [Value.pointer (some ⟨p, po, none⟩), .string s] rfl (Eq.mp (by kernel_rfl) hVC)
theorem vc61 {W : World} {Q : Ending → World → Prop} (p : Nat) (po : Nat)
 (hVC :
 ∀ W2 : World, W2 = World.drew W → ∃ p2 : Option Addr, ∃ k : Nat, ∃ k2 : Nat, W2.cell? ⟨p, po, none⟩ = some (.slice p2 k k2) ∧
 ∃ z : Int, W2.cell? ⟨p, po + 1, none⟩ = some (.int .i64 z) ∧ ((0 : Int) ≤ z ∧ z < (k : Int)) ∧ Sx.adr p2 (fun k3 => fun k4 => ∃ vs : Array Value, vs.size = 3 ∧
 (Sx.cellsAt W2 ⟨k3, k4 + Int.toNat z * 3, none⟩ vs ∧ ∀ k5 : Nat, ∀ W3 : World, k5 = W2.heap.size → W3 = W2.alloc (Obj.cells #[.int .u8 0, .string ⟨#[]⟩, .int .i64 0] 96) →
 RowKit.Below (W2.heap.size) W2 W3 ∧ vs.size = 3 ∧ (∀ k6 : Nat, k6 < 3 → (∃ v : Value, W3.cell? ⟨k5, 0 + k6, none⟩ = some v) ∧ W3.frozen? ⟨k5, 0 + k6, none⟩ = false) ∧
 ((∀ v2 : Value, v2 ∈ vs.toList → Value.oneCell' v2 = true) ∧ ∀ W4 : World, W4 = W3.setCells k5 0 vs.toList → ∃ z2 : Int, W4.cell? ⟨k5, 0, none⟩ = some (.int .u8 z2) ∧
 Sx.split (z2 != 110) (Calls Tryz.prog 63 #[.pointer (some ⟨p, po, none⟩), .int .i64 8] W4 (fun e => fun W5 => ∃ vs2 : Array Value, e = .returned (.agg vs2) ∧
 Q (.returned (.string ⟨#[]⟩)) W5)) (∃ z3 : Int, W4.cell? ⟨p, po + 3, none⟩ = some (.int .i64 z3) ∧ Sx.split (z3 != 0)
 (Calls Tryz.prog 63 #[.pointer (some ⟨p, po, none⟩), .int .i64 8] W4 (fun e2 => fun W6 => ∃ vs3 : Array Value, e2 = .returned (.agg vs3) ∧ Q (.returned (.string ⟨#[]⟩)) W6))
 (∃ s : ByteArray, W4.cell? ⟨k5, 0 + 1, none⟩ = some (.string s) ∧ Sx.split (decide ((↑(ByteArray.size s) : Int) > 16))
 (Calls Tryz.prog 63 #[.pointer (some ⟨p, po, none⟩), .int .i64 3] W4 (fun e3 => fun W7 => ∃ vs4 : Array Value, e3 = .returned (.agg vs4) ∧ Q (.returned (.string ⟨#[]⟩)) W7))
 (∃ z4 : Int, W4.cell? ⟨p, po + 1, none⟩ = some (.int .i64 z4) ∧ ∀ z5 : Int, z5 = IntKind.wrap .i64 (z4 + 1) → (∃ v3 : Value, W4.cell? ⟨p, po + 1, none⟩ = some v3) ∧
 (W4.frozen? ⟨p, po + 1, none⟩ = false ∧ ∀ W8 : World, W8 = W4.setCell ⟨p, po + 1, none⟩ (Value.int .i64 z5) → ∃ s2 : ByteArray, W8.cell? ⟨k5, 0 + 1, none⟩ = some (.string s2) ∧
 Q (.returned (.string s2)) W8)))))))) :
 Calls Tryz.prog 61 #[.pointer (some ⟨p, po, none⟩)] W Q :=
 Sx.sound (pk := [1000052]) Tryz.func61 (.node [] [] 0 .leaf (.node [] [] 0 (.node [] [] 1001012 .leaf .leaf) .leaf)) [Value.pointer (some ⟨p, po, none⟩)] rfl (Eq.mp (by kernel_rfl) hVC)
theorem vc62 {W : World} {Q : Ending → World → Prop} (p : Nat) (po : Nat)
 (hVC :
 ∀ W2 : World, W2 = World.drew W → ∃ p2 : Option Addr, ∃ k : Nat, ∃ k2 : Nat, W2.cell? ⟨p, po, none⟩ = some (.slice p2 k k2) ∧
 ∃ z : Int, W2.cell? ⟨p, po + 1, none⟩ = some (.int .i64 z) ∧ ((0 : Int) ≤ z ∧ z < (k : Int)) ∧ Sx.adr p2 (fun k3 => fun k4 => ∃ vs : Array Value, vs.size = 3 ∧
 (Sx.cellsAt W2 ⟨k3, k4 + Int.toNat z * 3, none⟩ vs ∧ ∀ k5 : Nat, ∀ W3 : World, k5 = W2.heap.size → W3 = W2.alloc (Obj.cells #[.int .u8 0, .string ⟨#[]⟩, .int .i64 0] 96) →
 RowKit.Below (W2.heap.size) W2 W3 ∧ vs.size = 3 ∧ (∀ k6 : Nat, k6 < 3 → (∃ v : Value, W3.cell? ⟨k5, 0 + k6, none⟩ = some v) ∧ W3.frozen? ⟨k5, 0 + k6, none⟩ = false) ∧
 ((∀ v2 : Value, v2 ∈ vs.toList → Value.oneCell' v2 = true) ∧ ∀ W4 : World, W4 = W3.setCells k5 0 vs.toList → ∃ z2 : Int, W4.cell? ⟨k5, 0, none⟩ = some (.int .u8 z2) ∧
 Sx.split (z2 != 100) (Calls Tryz.prog 63 #[.pointer (some ⟨p, po, none⟩), .int .i64 8] W4 (fun e => fun W5 => ∃ vs2 : Array Value, e = .returned (.agg vs2) ∧
 Q (.returned (.int .u32 0)) W5)) (∃ z3 : Int, W4.cell? ⟨p, po + 3, none⟩ = some (.int .i64 z3) ∧ Sx.split (z3 != 0)
 (Calls Tryz.prog 63 #[.pointer (some ⟨p, po, none⟩), .int .i64 8] W4 (fun e2 => fun W6 => ∃ vs3 : Array Value, e2 = .returned (.agg vs3) ∧ Q (.returned (.int .u32 0)) W6))
 (∃ I : Int → Int → World → Prop, ∃ I2 : Int → Int → World → Nat, I 0 0 W4 ∧ ((Nat → Value) → ∀ i : Int, ∀ n : Int, ∀ W7 : World, I i n W7 →
 ∃ s : ByteArray, W7.cell? ⟨k5, 0 + 1, none⟩ = some (.string s) ∧ Sx.split (decide (i < (↑(ByteArray.size s) : Int))) (∀ z4 : Int, z4 = IntKind.wrap .i64 (10 * n) →
 ∃ s2 : ByteArray, W7.cell? ⟨k5, 0 + 1, none⟩ = some (.string s2) ∧ ∃ b : UInt8, (0 : Int) ≤ i ∧ (s2[Int.toNat i]? = some b ∧
 ∀ z5 : Int, z5 = IntKind.wrap .u8 ((↑(UInt8.toNat b) : Int) - 48) → ∀ z6 : Int, z6 = IntKind.wrap .i64 z5 → ∀ z7 : Int, z7 = IntKind.wrap .i64 (z4 + z6) →
 Sx.split (decide (z7 ≥ 4294967296)) (Calls Tryz.prog 63 #[.pointer (some ⟨p, po, none⟩), .int .i64 3] W7 (fun e3 => fun W8 => ∃ vs4 : Array Value, e3 = .returned (.agg vs4) ∧
 Q (.returned (.int .u32 0)) W8)) (∀ z8 : Int, z8 = IntKind.wrap .i64 (i + 1) → I z8 z7 W7 ∧ I2 z8 z7 W7 < I2 i n W7)))
 (∃ z9 : Int, W7.cell? ⟨p, po + 1, none⟩ = some (.int .i64 z9) ∧ ∀ z10 : Int, z10 = IntKind.wrap .i64 (z9 + 1) → (∃ v3 : Value, W7.cell? ⟨p, po + 1, none⟩ = some v3) ∧
 (W7.frozen? ⟨p, po + 1, none⟩ = false ∧ ∀ W9 : World, W9 = W7.setCell ⟨p, po + 1, none⟩ (Value.int .i64 z10) → ∀ z11 : Int, z11 = IntKind.wrap .u32 n →
 Q (.returned (.int .u32 z11)) W9))))))))) :
 Calls Tryz.prog 62 #[.pointer (some ⟨p, po, none⟩)] W Q :=
 Sx.sound (pk := [1000052]) Tryz.func62 (.node [] [] 0 .leaf (.node [] [] 0 (.node [] [] 1001012 .leaf .leaf) (.node [] [] 0 .leaf (.node [] [] 0 .leaf (.node [] [] 0 (.node [] [] 0 .leaf (.node [] [] 0 (.node [(5, .int .i64), (4, .int .i64)] [3, 0] 0 .leaf .leaf) .leaf)) .leaf))))) [Value.pointer (some ⟨p, po, none⟩)] rfl (Eq.mp (by kernel_rfl) hVC)
theorem vc102 {W : World} {Q : Ending → World → Prop} (p : Nat) (po : Nat)
 (hVC :
 ∃ z : Int, W.cell? ⟨p, po + 4, none⟩ = some (.int .i64 z) ∧ ∀ z2 : Int, z2 = IntKind.wrap .i64 (z + 1) → (∃ v : Value, W.cell? ⟨p, po + 4, none⟩ = some v) ∧
 (W.frozen? ⟨p, po + 4, none⟩ = false ∧ ∀ W2 : World, W2 = W.setCell ⟨p, po + 4, none⟩ (Value.int .i64 z2) → ∃ z3 : Int, W2.cell? ⟨p, po + 4, none⟩ = some (.int .i64 z3) ∧
 Sx.split (decide (z3 > 24)) (Calls Tryz.prog 63 #[.pointer (some ⟨p, po, none⟩), .int .i64 3] W2 (fun e => fun W3 => ∃ vs : Array Value, e = .returned (.agg vs) ∧
 ∃ z4 : Int, W3.cell? ⟨p, po + 3, none⟩ = some (.int .i64 z4) ∧ Q (.returned (.bool (z4 == 0))) W3)) (∃ z5 : Int, W2.cell? ⟨p, po + 3, none⟩ = some (.int .i64 z5) ∧
 Q (.returned (.bool (z5 == 0))) W2))) :
 Calls Tryz.prog 102 #[.pointer (some ⟨p, po, none⟩)] W Q :=
 Sx.sound (pk := [1000052]) Tryz.func102 .leaf [Value.pointer (some ⟨p, po, none⟩)] rfl (Eq.mp (by kernel_rfl) hVC)
theorem vc146 {W : World} {Q : Ending → World → Prop} (k : Int)
 (hVC :
 ∀ k2 : Nat, ∀ W2 : World, k2 = W.heap.size → W2 = W.alloc (Obj.cells #[.string ⟨#[124, 124]⟩] 9) → ∀ k3 : Nat, ∀ W3 : World, k3 = W2.heap.size →
 W3 = W2.alloc (Obj.cells #[.string ⟨#[38, 38]⟩] 9) → ∀ k4 : Nat, ∀ W4 : World, k4 = W3.heap.size → W4 = W3.alloc (Obj.cells #[.string ⟨#[124]⟩] 9) →
 ∀ k5 : Nat, ∀ W5 : World, k5 = W4.heap.size → W5 = W4.alloc (Obj.cells #[.string ⟨#[94]⟩] 9) → ∀ k6 : Nat, ∀ W6 : World, k6 = W5.heap.size →
 W6 = W5.alloc (Obj.cells #[.string ⟨#[38]⟩] 9) → ∀ k7 : Nat, ∀ W7 : World, k7 = W6.heap.size → W7 = W6.alloc (Obj.cells #[.string ⟨#[61, 61]⟩, .string ⟨#[33, 61]⟩] 9) →
 ∀ k8 : Nat, ∀ W8 : World, k8 = W7.heap.size → W8 = W7.alloc (Obj.cells #[.string ⟨#[60]⟩, .string ⟨#[60, 61]⟩, .string ⟨#[62]⟩, .string ⟨#[62, 61]⟩] 9) →
 ∀ k9 : Nat, ∀ W9 : World, k9 = W8.heap.size → W9 = W8.alloc (Obj.cells #[.string ⟨#[60, 60]⟩, .string ⟨#[62, 62]⟩] 9) → ∀ k10 : Nat, ∀ W10 : World, k10 = W9.heap.size →
 W10 = W9.alloc (Obj.cells #[.string ⟨#[43]⟩, .string ⟨#[45]⟩] 9) → ∀ k11 : Nat, ∀ W11 : World, k11 = W10.heap.size →
 W11 = W10.alloc (Obj.cells #[.string ⟨#[42]⟩, .string ⟨#[47]⟩, .string ⟨#[37]⟩] 9) → ∀ k12 : Nat, ∀ W12 : World, k12 = W11.heap.size →
 W12 = W11.alloc (Obj.cells #[.slice (some (Addr.mk k2 0 none)) 1 1, .slice (some (Addr.mk k3 0 none)) 1 1, .slice (some (Addr.mk k4 0 none)) 1 1, .slice (some (Addr.mk k5 0 none)) 1 1, .slice (some (Addr.mk k6 0 none)) 1 1, .slice (some (Addr.mk k7 0 none)) 2 2, .slice (some (Addr.mk k8 0 none)) 4 4, .slice (some (Addr.mk k9 0 none)) 2 2, .slice (some (Addr.mk k10 0 none)) 2 2, .slice (some (Addr.mk k11 0 none)) 3 3] 48) →
 Sx.split (decide (k ≥ (10 : Int))) (Q (.returned (.slice none 0 0)) W12) (((0 : Int) ≤ k ∧ k < (10 : Int)) ∧
 ∃ p : Option Addr, ∃ k13 : Nat, ∃ k14 : Nat, W12.cell? ⟨k12, 0 + Int.toNat k * 1, none⟩ = some (.slice p k13 k14) ∧ Q (.returned (.slice p k13 k14)) W12)) :
 Calls Tryz.prog 146 #[.int .i64 k] W Q :=
 Sx.sound (pk := [1000052]) Tryz.func146 .leaf [Value.int .i64 k] rfl (Eq.mp (by kernel_rfl) hVC)
theorem vc137 {W : World} {Q : Ending → World → Prop} (arg0 : Nat) (arg0o : Nat) (arg1 : Int)
 (hVC :
 ∀ k : Nat, ∀ W2 : World, k = W.heap.size → W2 = W.alloc (Obj.cells #[.string ⟨#[]⟩, .string ⟨#[]⟩, .int .i64 0, .int .u32 0, .slice none 0 0, .slice none 0 0] 52) →
 Calls Tryz.prog 146 #[.int .i64 arg1] W2 (fun e => fun W3 => ∃ p : Option Addr, ∃ k2 : Nat, ∃ k3 : Nat, e = .returned (.slice p k2 k3) ∧ Sx.split (Option.isNone p)
 (Calls Tryz.prog 147 #[.pointer (some ⟨arg0, arg0o, none⟩)] W3 (fun e2 => fun W4 => ∃ vs : Array Value, e2 = .returned (.agg vs) ∧ vs.size = 6 ∧ (∀ k4 : Nat, k4 < 6 →
 (∃ v : Value, W4.cell? ⟨k, 0 + k4, none⟩ = some v) ∧ W4.frozen? ⟨k, 0 + k4, none⟩ = false) ∧ ((∀ v2 : Value, v2 ∈ vs.toList → Value.oneCell' v2 = true) ∧
 ∀ W5 : World, W5 = W4.setCells k 0 vs.toList → ∃ vs2 : Array Value, vs2.size = 6 ∧ Sx.cellsAt W5 ⟨k, 0, none⟩ vs2 ∧ Q (.returned (.agg vs2)) W5)))
 (∀ z : Int, z = IntKind.wrap .i64 (arg1 + 1) → Calls Tryz.prog 137 #[.pointer (some ⟨arg0, arg0o, none⟩), .int .i64 z] W3 (fun e3 => fun W6 =>
 ∃ vs3 : Array Value, e3 = .returned (.agg vs3) ∧ ∀ k5 : Nat, ∀ W7 : World, k5 = W6.heap.size →
 W7 = W6.alloc (Obj.cells #[.string ⟨#[]⟩, .string ⟨#[]⟩, .int .i64 0, .int .u32 0, .slice none 0 0, .slice none 0 0] 52) → vs3.size = 6 ∧ (∀ k6 : Nat, k6 < 6 →
 (∃ v3 : Value, W7.cell? ⟨k5, 0 + k6, none⟩ = some v3) ∧ W7.frozen? ⟨k5, 0 + k6, none⟩ = false) ∧ ((∀ v4 : Value, v4 ∈ vs3.toList → Value.oneCell' v4 = true) ∧
 ∀ W8 : World, W8 = W7.setCells k5 0 vs3.toList → ∃ I : World → Prop, ∃ I2 : World → Nat, I W8 ∧ ((Nat → Value) → ∀ W9 : World, I W9 →
 ∃ z2 : Int, W9.cell? ⟨arg0, arg0o + 3, none⟩ = some (.int .i64 z2) ∧ Sx.split (z2 == 0)
 (∃ I3 : Int → ByteArray → World → Prop, ∃ I4 : Int → ByteArray → World → Nat, I3 0 (ByteArray.mk #[]) W9 ∧ ((Nat → Value) → ∀ x : Int, ∀ x2 : ByteArray, ∀ W10 : World, I3 x x2 W10 →
 Sx.split (decide (x < (k2 : Int))) (((0 : Int) ≤ x ∧ x < (k2 : Int)) ∧ Sx.adr p (fun k7 => fun k8 => ∃ s : ByteArray, W10.cell? ⟨k7, k8 + Int.toNat x * 1, none⟩ = some (.string s) ∧
 Calls Tryz.prog 101 #[.pointer (some ⟨arg0, arg0o, none⟩), .string s] W10 (fun e4 => fun W11 => ∃ t : Bool, e4 = .returned (.bool t) ∧ Sx.split t (((0 : Int) ≤ x ∧ x < (k2 : Int)) ∧
 Sx.adr p (fun k9 => fun k10 => ∃ s2 : ByteArray, W11.cell? ⟨k9, k10 + Int.toNat x * 1, none⟩ = some (.string s2) ∧ ∀ z3 : Int, z3 = IntKind.wrap .i64 (x + 1) → I3 z3 s2 W11 ∧
 I4 z3 s2 W11 < I4 x x2 W10)) (∀ z4 : Int, z4 = IntKind.wrap .i64 (x + 1) → I3 z4 x2 W11 ∧ I4 z4 x2 W11 < I4 x x2 W10)))) (Sx.split (ByteArray.toList x2 == ByteArray.toList ⟨#[]⟩)
 (∃ vs4 : Array Value, vs4.size = 6 ∧ Sx.cellsAt W10 ⟨k5, 0, none⟩ vs4 ∧ vs4.size = 6 ∧ (∀ k11 : Nat, k11 < 6 → (∃ v5 : Value, W10.cell? ⟨k, 0 + k11, none⟩ = some v5) ∧
 W10.frozen? ⟨k, 0 + k11, none⟩ = false) ∧ ((∀ v6 : Value, v6 ∈ vs4.toList → Value.oneCell' v6 = true) ∧ ∀ W12 : World, W12 = W10.setCells k 0 vs4.toList →
 ∃ vs5 : Array Value, vs5.size = 6 ∧ Sx.cellsAt W12 ⟨k, 0, none⟩ vs5 ∧ Q (.returned (.agg vs5)) W12))
 (∃ p2 : Option Addr, ∃ k12 : Nat, ∃ k13 : Nat, W10.cell? ⟨arg0, arg0o, none⟩ = some (.slice p2 k12 k13) ∧ ∃ z5 : Int, W10.cell? ⟨arg0, arg0o + 1, none⟩ = some (.int .i64 z5) ∧
 ((0 : Int) ≤ z5 ∧ z5 < (k12 : Int)) ∧ Sx.adr p2 (fun k14 => fun k15 => ∃ z6 : Int, W10.cell? ⟨k14, k15 + Int.toNat z5 * 3 + 2, none⟩ = some (.int .i64 z6) ∧
 ∀ W13 : World, ∀ k16 : Nat, W13 = W10.drewN k16 → ∃ z7 : Int, W13.cell? ⟨arg0, arg0o + 1, none⟩ = some (.int .i64 z7) ∧ ∀ z8 : Int, z8 = IntKind.wrap .i64 (z7 + 1) →
 (∃ v7 : Value, W13.cell? ⟨arg0, arg0o + 1, none⟩ = some v7) ∧ (W13.frozen? ⟨arg0, arg0o + 1, none⟩ = false ∧
 ∀ W14 : World, W14 = W13.setCell ⟨arg0, arg0o + 1, none⟩ (Value.int .i64 z8) → ∀ z9 : Int, z9 = IntKind.wrap .i64 (arg1 + 1) →
 Calls Tryz.prog 137 #[.pointer (some ⟨arg0, arg0o, none⟩), .int .i64 z9] W14 (fun e5 => fun W15 => ∃ vs6 : Array Value, e5 = .returned (.agg vs6) ∧
 ∀ k17 : Nat, ∀ W16 : World, k17 = W15.heap.size → W16 = W15.alloc (Obj.cells #[.string ⟨#[]⟩, .string ⟨#[]⟩, .int .i64 0, .int .u32 0, .slice none 0 0, .slice none 0 0] 52) →
 vs6.size = 6 ∧ (∀ k18 : Nat, k18 < 6 → (∃ v8 : Value, W16.cell? ⟨k17, 0 + k18, none⟩ = some v8) ∧ W16.frozen? ⟨k17, 0 + k18, none⟩ = false) ∧ ((∀ v9 : Value, v9 ∈ vs6.toList →
 Value.oneCell' v9 = true) ∧ ∀ W17 : World, W17 = W16.setCells k17 0 vs6.toList → ∃ vs7 : Array Value, vs7.size = 6 ∧ Sx.cellsAt W17 ⟨k5, 0, none⟩ vs7 ∧
 ∃ vs8 : Array Value, vs8.size = 6 ∧ Sx.cellsAt W17 ⟨k17, 0, none⟩ vs8 ∧ vs7.size = 6 ∧ (vs8.size = 6 ∧ ∀ k19 : Nat, ∀ W18 : World, k19 = W17.heap.size →
 W18 = W17.alloc (Obj.cells (List.toArray (vs7.toList ++ (vs8.toList ++ []))) 52) →
 ∀ vs9 : Array Value, vs9 = #[.string ⟨#[98, 105, 110]⟩, .string x2, .int .i64 z6, .int .u32 0, .slice (some (Addr.mk k19 0 none)) 2 2, .slice none 0 0] → vs9.size = 6 ∧
 (∀ k20 : Nat, k20 < 6 → (∃ v10 : Value, W18.cell? ⟨k5, 0 + k20, none⟩ = some v10) ∧ W18.frozen? ⟨k5, 0 + k20, none⟩ = false) ∧ ((∀ v11 : Value, v11 ∈ vs9.toList →
 Value.oneCell' v11 = true) ∧ ∀ W19 : World, W19 = W18.setCells k5 0 vs9.toList → I W19 ∧ I2 W19 < I2 W9)))))))))) (∃ vs10 : Array Value, vs10.size = 6 ∧
 Sx.cellsAt W9 ⟨k5, 0, none⟩ vs10 ∧ vs10.size = 6 ∧ (∀ k21 : Nat, k21 < 6 → (∃ v12 : Value, W9.cell? ⟨k, 0 + k21, none⟩ = some v12) ∧ W9.frozen? ⟨k, 0 + k21, none⟩ = false) ∧
 ((∀ v13 : Value, v13 ∈ vs10.toList → Value.oneCell' v13 = true) ∧ ∀ W20 : World, W20 = W9.setCells k 0 vs10.toList → ∃ vs11 : Array Value, vs11.size = 6 ∧
 Sx.cellsAt W20 ⟨k, 0, none⟩ vs11 ∧ Q (.returned (.agg vs11)) W20)))))))) :
 Calls Tryz.prog 137 #[.pointer (some ⟨arg0, arg0o, none⟩), .int .i64 arg1] W Q :=
 Sx.sound (pk := [1000052]) Tryz.func137 (.node [] [] 0 .leaf (.node [] [] 0 .leaf (.node [] [] 0 .leaf (.node [] [] 0 .leaf (.node [] [] 0 (.node [] [] 0 (.node [] [0, 5, 6, 4, 1] 0 (.node [] [] 0 .leaf (.node [] [] 0 (.node [] [] 0 .leaf (.node [] [] 0 (.node [] [] 0 .leaf (.node [] [] 0 (.node [(8, .int .i64), (7, .str)] [5, 0, 6, 4, 1] 0 .leaf .leaf) .leaf)) .leaf)) .leaf)) .leaf) .leaf) .leaf))))) [Value.pointer (some ⟨arg0, arg0o, none⟩), .int .i64 arg1] rfl (Eq.mp (by kernel_rfl) hVC)
theorem vc119 {W : World} {Q : Ending → World → Prop} (p : Nat) (po : Nat)
 (hVC :
 ∀ k : Nat, ∀ W2 : World, k = W.heap.size → W2 = W.alloc (Obj.cells #[.string ⟨#[]⟩, .string ⟨#[]⟩, .int .i64 0, .int .u32 0, .slice none 0 0, .slice none 0 0] 52) →
 Calls Tryz.prog 102 #[.pointer (some ⟨p, po, none⟩)] W2 (fun e => fun W3 => ∃ t : Bool, e = .returned (.bool t) ∧ Sx.split (!t)
 (∀ vs : Array Value, vs = #[.string ⟨#[]⟩, .string ⟨#[]⟩, .int .i64 0, .int .u32 0, .slice none 0 0, .slice none 0 0] → vs.size = 6 ∧ (∀ k2 : Nat, k2 < 6 →
 (∃ v : Value, W3.cell? ⟨k, 0 + k2, none⟩ = some v) ∧ W3.frozen? ⟨k, 0 + k2, none⟩ = false) ∧ ((∀ v2 : Value, v2 ∈ vs.toList → Value.oneCell' v2 = true) ∧
 ∀ W4 : World, W4 = W3.setCells k 0 vs.toList → ∃ vs2 : Array Value, vs2.size = 6 ∧ Sx.cellsAt W4 ⟨k, 0, none⟩ vs2 ∧ Q (.returned (.agg vs2)) W4))
 (Calls Tryz.prog 137 #[.pointer (some ⟨p, po, none⟩), .int .i64 0] W3 (fun e2 => fun W5 => ∃ vs3 : Array Value, e2 = .returned (.agg vs3) ∧
 ∀ k3 : Nat, ∀ W6 : World, k3 = W5.heap.size → W6 = W5.alloc (Obj.cells #[.string ⟨#[]⟩, .string ⟨#[]⟩, .int .i64 0, .int .u32 0, .slice none 0 0, .slice none 0 0] 52) →
 vs3.size = 6 ∧ (∀ k4 : Nat, k4 < 6 → (∃ v3 : Value, W6.cell? ⟨k3, 0 + k4, none⟩ = some v3) ∧ W6.frozen? ⟨k3, 0 + k4, none⟩ = false) ∧ ((∀ v4 : Value, v4 ∈ vs3.toList →
 Value.oneCell' v4 = true) ∧ ∀ W7 : World, W7 = W6.setCells k3 0 vs3.toList → ∃ z : Int, W7.cell? ⟨p, po + 4, none⟩ = some (.int .i64 z) ∧
 ∀ z2 : Int, z2 = IntKind.wrap .i64 (z - 1) → (∃ v5 : Value, W7.cell? ⟨p, po + 4, none⟩ = some v5) ∧ (W7.frozen? ⟨p, po + 4, none⟩ = false ∧
 ∀ W8 : World, W8 = W7.setCell ⟨p, po + 4, none⟩ (Value.int .i64 z2) → ∃ vs4 : Array Value, vs4.size = 6 ∧ Sx.cellsAt W8 ⟨k3, 0, none⟩ vs4 ∧ vs4.size = 6 ∧ (∀ k5 : Nat, k5 < 6 →
 (∃ v6 : Value, W8.cell? ⟨k, 0 + k5, none⟩ = some v6) ∧ W8.frozen? ⟨k, 0 + k5, none⟩ = false) ∧ ((∀ v7 : Value, v7 ∈ vs4.toList → Value.oneCell' v7 = true) ∧
 ∀ W9 : World, W9 = W8.setCells k 0 vs4.toList → ∃ vs5 : Array Value, vs5.size = 6 ∧ Sx.cellsAt W9 ⟨k, 0, none⟩ vs5 ∧ Q (.returned (.agg vs5)) W9))))))) :
 Calls Tryz.prog 119 #[.pointer (some ⟨p, po, none⟩)] W Q :=
 Sx.sound (pk := [1000052]) Tryz.func119 .leaf [Value.pointer (some ⟨p, po, none⟩)] rfl (Eq.mp (by kernel_rfl) hVC)
theorem vc147 {W : World} {Q : Ending → World → Prop} (arg0 : Nat) (arg0o : Nat)
 (hVC :
 ∀ k : Nat, ∀ W2 : World, k = W.heap.size → W2 = W.alloc (Obj.cells #[.string ⟨#[]⟩, .string ⟨#[]⟩, .int .i64 0, .int .u32 0, .slice none 0 0, .slice none 0 0] 52) →
 ∀ W3 : World, W3 = World.drew W2 → ∃ p : Option Addr, ∃ k2 : Nat, ∃ k3 : Nat, W3.cell? ⟨arg0, arg0o, none⟩ = some (.slice p k2 k3) ∧
 ∃ z : Int, W3.cell? ⟨arg0, arg0o + 1, none⟩ = some (.int .i64 z) ∧ ((0 : Int) ≤ z ∧ z < (k2 : Int)) ∧ Sx.adr p (fun k4 => fun k5 => ∃ vs : Array Value, vs.size = 3 ∧
 (Sx.cellsAt W3 ⟨k4, k5 + Int.toNat z * 3, none⟩ vs ∧ ∀ k6 : Nat, ∀ W4 : World, k6 = W3.heap.size → W4 = W3.alloc (Obj.cells #[.int .u8 0, .string ⟨#[]⟩, .int .i64 0] 96) →
 RowKit.Below (W3.heap.size) W3 W4 ∧ vs.size = 3 ∧ (∀ k7 : Nat, k7 < 3 → (∃ v : Value, W4.cell? ⟨k6, 0 + k7, none⟩ = some v) ∧ W4.frozen? ⟨k6, 0 + k7, none⟩ = false) ∧
 ((∀ v2 : Value, v2 ∈ vs.toList → Value.oneCell' v2 = true) ∧ ∀ W5 : World, W5 = W4.setCells k6 0 vs.toList → ∃ z2 : Int, W5.cell? ⟨arg0, arg0o + 3, none⟩ = some (.int .i64 z2) ∧
 Sx.split (z2 == 0) (∃ z3 : Int, W5.cell? ⟨k6, 0, none⟩ = some (.int .u8 z3) ∧ Sx.split (z3 == 107) (∃ s : ByteArray, W5.cell? ⟨k6, 0 + 1, none⟩ = some (.string s) ∧
 Sx.split (ByteArray.toList s == ByteArray.toList ⟨#[45]⟩) (Calls Tryz.prog 102 #[.pointer (some ⟨arg0, arg0o, none⟩)] W5 (fun e => fun W6 => ∃ t : Bool, e = .returned (.bool t) ∧
 Sx.split (!t) (∀ vs2 : Array Value, vs2 = #[.string ⟨#[]⟩, .string ⟨#[]⟩, .int .i64 0, .int .u32 0, .slice none 0 0, .slice none 0 0] → vs2.size = 6 ∧ (∀ k8 : Nat, k8 < 6 →
 (∃ v3 : Value, W6.cell? ⟨k, 0 + k8, none⟩ = some v3) ∧ W6.frozen? ⟨k, 0 + k8, none⟩ = false) ∧ ((∀ v4 : Value, v4 ∈ vs2.toList → Value.oneCell' v4 = true) ∧
 ∀ W7 : World, W7 = W6.setCells k 0 vs2.toList → ∃ vs3 : Array Value, vs3.size = 6 ∧ Sx.cellsAt W7 ⟨k, 0, none⟩ vs3 ∧ Q (.returned (.agg vs3)) W7))
 (∃ z4 : Int, W6.cell? ⟨arg0, arg0o + 1, none⟩ = some (.int .i64 z4) ∧ ∀ z5 : Int, z5 = IntKind.wrap .i64 (z4 + 1) → (∃ v5 : Value, W6.cell? ⟨arg0, arg0o + 1, none⟩ = some v5) ∧
 (W6.frozen? ⟨arg0, arg0o + 1, none⟩ = false ∧ ∀ W8 : World, W8 = W6.setCell ⟨arg0, arg0o + 1, none⟩ (Value.int .i64 z5) →
 Calls Tryz.prog 147 #[.pointer (some ⟨arg0, arg0o, none⟩)] W8 (fun e2 => fun W9 => ∃ vs4 : Array Value, e2 = .returned (.agg vs4) ∧ ∀ k9 : Nat, ∀ W10 : World, k9 = W9.heap.size →
 W10 = W9.alloc (Obj.cells #[.string ⟨#[]⟩, .string ⟨#[]⟩, .int .i64 0, .int .u32 0, .slice none 0 0, .slice none 0 0] 52) → vs4.size = 6 ∧ (∀ k10 : Nat, k10 < 6 →
 (∃ v6 : Value, W10.cell? ⟨k9, 0 + k10, none⟩ = some v6) ∧ W10.frozen? ⟨k9, 0 + k10, none⟩ = false) ∧ ((∀ v7 : Value, v7 ∈ vs4.toList → Value.oneCell' v7 = true) ∧
 ∀ W11 : World, W11 = W10.setCells k9 0 vs4.toList → ∃ z6 : Int, W11.cell? ⟨arg0, arg0o + 4, none⟩ = some (.int .i64 z6) ∧ ∀ z7 : Int, z7 = IntKind.wrap .i64 (z6 - 1) →
 (∃ v8 : Value, W11.cell? ⟨arg0, arg0o + 4, none⟩ = some v8) ∧ (W11.frozen? ⟨arg0, arg0o + 4, none⟩ = false ∧
 ∀ W12 : World, W12 = W11.setCell ⟨arg0, arg0o + 4, none⟩ (Value.int .i64 z7) → ∃ s2 : ByteArray, W12.cell? ⟨k6, 0 + 1, none⟩ = some (.string s2) ∧
 ∃ z8 : Int, W12.cell? ⟨k6, 0 + 2, none⟩ = some (.int .i64 z8) ∧ ∃ vs5 : Array Value, vs5.size = 6 ∧ Sx.cellsAt W12 ⟨k9, 0, none⟩ vs5 ∧ (vs5.size = 6 ∧
 ∀ k11 : Nat, ∀ W13 : World, k11 = W12.heap.size → W13 = W12.alloc (Obj.cells (List.toArray (vs5.toList ++ [])) 52) →
 ∀ vs6 : Array Value, vs6 = #[.string ⟨#[117, 110]⟩, .string s2, .int .i64 z8, .int .u32 0, .slice (some (Addr.mk k11 0 none)) 1 1, .slice none 0 0] → vs6.size = 6 ∧
 (∀ k12 : Nat, k12 < 6 → (∃ v9 : Value, W13.cell? ⟨k, 0 + k12, none⟩ = some v9) ∧ W13.frozen? ⟨k, 0 + k12, none⟩ = false) ∧ ((∀ v10 : Value, v10 ∈ vs6.toList →
 Value.oneCell' v10 = true) ∧ ∀ W14 : World, W14 = W13.setCells k 0 vs6.toList → ∃ vs7 : Array Value, vs7.size = 6 ∧ Sx.cellsAt W14 ⟨k, 0, none⟩ vs7 ∧
 Q (.returned (.agg vs7)) W14))))))))) (∃ s3 : ByteArray, W5.cell? ⟨k6, 0 + 1, none⟩ = some (.string s3) ∧ Sx.split (ByteArray.toList s3 == ByteArray.toList ⟨#[33]⟩)
 (Calls Tryz.prog 102 #[.pointer (some ⟨arg0, arg0o, none⟩)] W5 (fun e3 => fun W15 => ∃ t2 : Bool, e3 = .returned (.bool t2) ∧ Sx.split (!t2)
 (∀ vs8 : Array Value, vs8 = #[.string ⟨#[]⟩, .string ⟨#[]⟩, .int .i64 0, .int .u32 0, .slice none 0 0, .slice none 0 0] → vs8.size = 6 ∧ (∀ k13 : Nat, k13 < 6 →
 (∃ v11 : Value, W15.cell? ⟨k, 0 + k13, none⟩ = some v11) ∧ W15.frozen? ⟨k, 0 + k13, none⟩ = false) ∧ ((∀ v12 : Value, v12 ∈ vs8.toList → Value.oneCell' v12 = true) ∧
 ∀ W16 : World, W16 = W15.setCells k 0 vs8.toList → ∃ vs9 : Array Value, vs9.size = 6 ∧ Sx.cellsAt W16 ⟨k, 0, none⟩ vs9 ∧ Q (.returned (.agg vs9)) W16))
 (∃ z9 : Int, W15.cell? ⟨arg0, arg0o + 1, none⟩ = some (.int .i64 z9) ∧ ∀ z10 : Int, z10 = IntKind.wrap .i64 (z9 + 1) →
 (∃ v13 : Value, W15.cell? ⟨arg0, arg0o + 1, none⟩ = some v13) ∧ (W15.frozen? ⟨arg0, arg0o + 1, none⟩ = false ∧
 ∀ W17 : World, W17 = W15.setCell ⟨arg0, arg0o + 1, none⟩ (Value.int .i64 z10) → Calls Tryz.prog 147 #[.pointer (some ⟨arg0, arg0o, none⟩)] W17 (fun e4 => fun W18 =>
 ∃ vs10 : Array Value, e4 = .returned (.agg vs10) ∧ ∀ k14 : Nat, ∀ W19 : World, k14 = W18.heap.size →
 W19 = W18.alloc (Obj.cells #[.string ⟨#[]⟩, .string ⟨#[]⟩, .int .i64 0, .int .u32 0, .slice none 0 0, .slice none 0 0] 52) → vs10.size = 6 ∧ (∀ k15 : Nat, k15 < 6 →
 (∃ v14 : Value, W19.cell? ⟨k14, 0 + k15, none⟩ = some v14) ∧ W19.frozen? ⟨k14, 0 + k15, none⟩ = false) ∧ ((∀ v15 : Value, v15 ∈ vs10.toList → Value.oneCell' v15 = true) ∧
 ∀ W20 : World, W20 = W19.setCells k14 0 vs10.toList → ∃ z11 : Int, W20.cell? ⟨arg0, arg0o + 4, none⟩ = some (.int .i64 z11) ∧ ∀ z12 : Int, z12 = IntKind.wrap .i64 (z11 - 1) →
 (∃ v16 : Value, W20.cell? ⟨arg0, arg0o + 4, none⟩ = some v16) ∧ (W20.frozen? ⟨arg0, arg0o + 4, none⟩ = false ∧
 ∀ W21 : World, W21 = W20.setCell ⟨arg0, arg0o + 4, none⟩ (Value.int .i64 z12) → ∃ s4 : ByteArray, W21.cell? ⟨k6, 0 + 1, none⟩ = some (.string s4) ∧
 ∃ z13 : Int, W21.cell? ⟨k6, 0 + 2, none⟩ = some (.int .i64 z13) ∧ ∃ vs11 : Array Value, vs11.size = 6 ∧ Sx.cellsAt W21 ⟨k14, 0, none⟩ vs11 ∧ (vs11.size = 6 ∧
 ∀ k16 : Nat, ∀ W22 : World, k16 = W21.heap.size → W22 = W21.alloc (Obj.cells (List.toArray (vs11.toList ++ [])) 52) →
 ∀ vs12 : Array Value, vs12 = #[.string ⟨#[117, 110]⟩, .string s4, .int .i64 z13, .int .u32 0, .slice (some (Addr.mk k16 0 none)) 1 1, .slice none 0 0] → vs12.size = 6 ∧
 (∀ k17 : Nat, k17 < 6 → (∃ v17 : Value, W22.cell? ⟨k, 0 + k17, none⟩ = some v17) ∧ W22.frozen? ⟨k, 0 + k17, none⟩ = false) ∧ ((∀ v18 : Value, v18 ∈ vs12.toList →
 Value.oneCell' v18 = true) ∧ ∀ W23 : World, W23 = W22.setCells k 0 vs12.toList → ∃ vs13 : Array Value, vs13.size = 6 ∧ Sx.cellsAt W23 ⟨k, 0, none⟩ vs13 ∧
 Q (.returned (.agg vs13)) W23))))))))) (∃ s5 : ByteArray, W5.cell? ⟨k6, 0 + 1, none⟩ = some (.string s5) ∧ Sx.split (ByteArray.toList s5 == ByteArray.toList ⟨#[126]⟩)
 (Calls Tryz.prog 102 #[.pointer (some ⟨arg0, arg0o, none⟩)] W5 (fun e5 => fun W24 => ∃ t3 : Bool, e5 = .returned (.bool t3) ∧ Sx.split (!t3)
 (∀ vs14 : Array Value, vs14 = #[.string ⟨#[]⟩, .string ⟨#[]⟩, .int .i64 0, .int .u32 0, .slice none 0 0, .slice none 0 0] → vs14.size = 6 ∧ (∀ k18 : Nat, k18 < 6 →
 (∃ v19 : Value, W24.cell? ⟨k, 0 + k18, none⟩ = some v19) ∧ W24.frozen? ⟨k, 0 + k18, none⟩ = false) ∧ ((∀ v20 : Value, v20 ∈ vs14.toList → Value.oneCell' v20 = true) ∧
 ∀ W25 : World, W25 = W24.setCells k 0 vs14.toList → ∃ vs15 : Array Value, vs15.size = 6 ∧ Sx.cellsAt W25 ⟨k, 0, none⟩ vs15 ∧ Q (.returned (.agg vs15)) W25))
 (∃ z14 : Int, W24.cell? ⟨arg0, arg0o + 1, none⟩ = some (.int .i64 z14) ∧ ∀ z15 : Int, z15 = IntKind.wrap .i64 (z14 + 1) →
 (∃ v21 : Value, W24.cell? ⟨arg0, arg0o + 1, none⟩ = some v21) ∧ (W24.frozen? ⟨arg0, arg0o + 1, none⟩ = false ∧
 ∀ W26 : World, W26 = W24.setCell ⟨arg0, arg0o + 1, none⟩ (Value.int .i64 z15) → Calls Tryz.prog 147 #[.pointer (some ⟨arg0, arg0o, none⟩)] W26 (fun e6 => fun W27 =>
 ∃ vs16 : Array Value, e6 = .returned (.agg vs16) ∧ ∀ k19 : Nat, ∀ W28 : World, k19 = W27.heap.size →
 W28 = W27.alloc (Obj.cells #[.string ⟨#[]⟩, .string ⟨#[]⟩, .int .i64 0, .int .u32 0, .slice none 0 0, .slice none 0 0] 52) → vs16.size = 6 ∧ (∀ k20 : Nat, k20 < 6 →
 (∃ v22 : Value, W28.cell? ⟨k19, 0 + k20, none⟩ = some v22) ∧ W28.frozen? ⟨k19, 0 + k20, none⟩ = false) ∧ ((∀ v23 : Value, v23 ∈ vs16.toList → Value.oneCell' v23 = true) ∧
 ∀ W29 : World, W29 = W28.setCells k19 0 vs16.toList → ∃ z16 : Int, W29.cell? ⟨arg0, arg0o + 4, none⟩ = some (.int .i64 z16) ∧ ∀ z17 : Int, z17 = IntKind.wrap .i64 (z16 - 1) →
 (∃ v24 : Value, W29.cell? ⟨arg0, arg0o + 4, none⟩ = some v24) ∧ (W29.frozen? ⟨arg0, arg0o + 4, none⟩ = false ∧
 ∀ W30 : World, W30 = W29.setCell ⟨arg0, arg0o + 4, none⟩ (Value.int .i64 z17) → ∃ s6 : ByteArray, W30.cell? ⟨k6, 0 + 1, none⟩ = some (.string s6) ∧
 ∃ z18 : Int, W30.cell? ⟨k6, 0 + 2, none⟩ = some (.int .i64 z18) ∧ ∃ vs17 : Array Value, vs17.size = 6 ∧ Sx.cellsAt W30 ⟨k19, 0, none⟩ vs17 ∧ (vs17.size = 6 ∧
 ∀ k21 : Nat, ∀ W31 : World, k21 = W30.heap.size → W31 = W30.alloc (Obj.cells (List.toArray (vs17.toList ++ [])) 52) →
 ∀ vs18 : Array Value, vs18 = #[.string ⟨#[117, 110]⟩, .string s6, .int .i64 z18, .int .u32 0, .slice (some (Addr.mk k21 0 none)) 1 1, .slice none 0 0] → vs18.size = 6 ∧
 (∀ k22 : Nat, k22 < 6 → (∃ v25 : Value, W31.cell? ⟨k, 0 + k22, none⟩ = some v25) ∧ W31.frozen? ⟨k, 0 + k22, none⟩ = false) ∧ ((∀ v26 : Value, v26 ∈ vs18.toList →
 Value.oneCell' v26 = true) ∧ ∀ W32 : World, W32 = W31.setCells k 0 vs18.toList → ∃ vs19 : Array Value, vs19.size = 6 ∧ Sx.cellsAt W32 ⟨k, 0, none⟩ vs19 ∧
 Q (.returned (.agg vs19)) W32))))))))) (Calls Tryz.prog 173 #[.pointer (some ⟨arg0, arg0o, none⟩)] W5 (fun e7 => fun W33 => ∃ vs20 : Array Value, e7 = .returned (.agg vs20) ∧
 vs20.size = 6 ∧ (∀ k23 : Nat, k23 < 6 → (∃ v27 : Value, W33.cell? ⟨k, 0 + k23, none⟩ = some v27) ∧ W33.frozen? ⟨k, 0 + k23, none⟩ = false) ∧ ((∀ v28 : Value, v28 ∈ vs20.toList →
 Value.oneCell' v28 = true) ∧ ∀ W34 : World, W34 = W33.setCells k 0 vs20.toList → ∃ vs21 : Array Value, vs21.size = 6 ∧ Sx.cellsAt W34 ⟨k, 0, none⟩ vs21 ∧
 Q (.returned (.agg vs21)) W34)))))) (Calls Tryz.prog 173 #[.pointer (some ⟨arg0, arg0o, none⟩)] W5 (fun e8 => fun W35 => ∃ vs22 : Array Value, e8 = .returned (.agg vs22) ∧
 vs22.size = 6 ∧ (∀ k24 : Nat, k24 < 6 → (∃ v29 : Value, W35.cell? ⟨k, 0 + k24, none⟩ = some v29) ∧ W35.frozen? ⟨k, 0 + k24, none⟩ = false) ∧ ((∀ v30 : Value, v30 ∈ vs22.toList →
 Value.oneCell' v30 = true) ∧ ∀ W36 : World, W36 = W35.setCells k 0 vs22.toList → ∃ vs23 : Array Value, vs23.size = 6 ∧ Sx.cellsAt W36 ⟨k, 0, none⟩ vs23 ∧
 Q (.returned (.agg vs23)) W36)))) (Calls Tryz.prog 173 #[.pointer (some ⟨arg0, arg0o, none⟩)] W5 (fun e9 => fun W37 => ∃ vs24 : Array Value, e9 = .returned (.agg vs24) ∧
 vs24.size = 6 ∧ (∀ k25 : Nat, k25 < 6 → (∃ v31 : Value, W37.cell? ⟨k, 0 + k25, none⟩ = some v31) ∧ W37.frozen? ⟨k, 0 + k25, none⟩ = false) ∧ ((∀ v32 : Value, v32 ∈ vs24.toList →
 Value.oneCell' v32 = true) ∧ ∀ W38 : World, W38 = W37.setCells k 0 vs24.toList → ∃ vs25 : Array Value, vs25.size = 6 ∧ Sx.cellsAt W38 ⟨k, 0, none⟩ vs25 ∧
 Q (.returned (.agg vs25)) W38))))))) :
 Calls Tryz.prog 147 #[.pointer (some ⟨arg0, arg0o, none⟩)] W Q :=
 Sx.sound (pk := [1000052]) Tryz.func147 (.node [] [] 0 .leaf (.node [] [] 0 (.node [] [] 1001012 .leaf .leaf) .leaf)) [Value.pointer (some ⟨arg0, arg0o, none⟩)] rfl (Eq.mp (by kernel_rfl) hVC)
theorem vc173 {W : World} {Q : Ending → World → Prop} (arg0 : Nat) (arg0o : Nat)
 (hVC :
 ∀ k : Nat, ∀ W2 : World, k = W.heap.size → W2 = W.alloc (Obj.cells #[.string ⟨#[]⟩, .string ⟨#[]⟩, .int .i64 0, .int .u32 0, .slice none 0 0, .slice none 0 0] 52) →
 ∀ W3 : World, W3 = World.drew W2 → ∃ p : Option Addr, ∃ k2 : Nat, ∃ k3 : Nat, W3.cell? ⟨arg0, arg0o, none⟩ = some (.slice p k2 k3) ∧
 ∃ z : Int, W3.cell? ⟨arg0, arg0o + 1, none⟩ = some (.int .i64 z) ∧ ((0 : Int) ≤ z ∧ z < (k2 : Int)) ∧ Sx.adr p (fun k4 => fun k5 => ∃ vs : Array Value, vs.size = 3 ∧
 (Sx.cellsAt W3 ⟨k4, k5 + Int.toNat z * 3, none⟩ vs ∧ ∀ k6 : Nat, ∀ W4 : World, k6 = W3.heap.size → W4 = W3.alloc (Obj.cells #[.int .u8 0, .string ⟨#[]⟩, .int .i64 0] 96) →
 RowKit.Below (W3.heap.size) W3 W4 ∧ vs.size = 3 ∧ (∀ k7 : Nat, k7 < 3 → (∃ v : Value, W4.cell? ⟨k6, 0 + k7, none⟩ = some v) ∧ W4.frozen? ⟨k6, 0 + k7, none⟩ = false) ∧
 ((∀ v2 : Value, v2 ∈ vs.toList → Value.oneCell' v2 = true) ∧ ∀ W5 : World, W5 = W4.setCells k6 0 vs.toList → ∃ z2 : Int, W5.cell? ⟨arg0, arg0o + 3, none⟩ = some (.int .i64 z2) ∧
 Sx.split (z2 != 0) (∀ vs2 : Array Value, vs2 = #[.string ⟨#[]⟩, .string ⟨#[]⟩, .int .i64 0, .int .u32 0, .slice none 0 0, .slice none 0 0] → vs2.size = 6 ∧ (∀ k8 : Nat, k8 < 6 →
 (∃ v3 : Value, W5.cell? ⟨k, 0 + k8, none⟩ = some v3) ∧ W5.frozen? ⟨k, 0 + k8, none⟩ = false) ∧ ((∀ v4 : Value, v4 ∈ vs2.toList → Value.oneCell' v4 = true) ∧
 ∀ W6 : World, W6 = W5.setCells k 0 vs2.toList → ∃ vs3 : Array Value, vs3.size = 6 ∧ Sx.cellsAt W6 ⟨k, 0, none⟩ vs3 ∧ Q (.returned (.agg vs3)) W6))
 (∃ z3 : Int, W5.cell? ⟨k6, 0, none⟩ = some (.int .u8 z3) ∧ Sx.split (z3 == 100) (Calls Tryz.prog 62 #[.pointer (some ⟨arg0, arg0o, none⟩)] W5 (fun e => fun W7 =>
 ∃ z4 : Int, e = .returned (.int .u32 z4) ∧ ∃ z5 : Int, W7.cell? ⟨k6, 0 + 2, none⟩ = some (.int .i64 z5) ∧
 ∀ vs4 : Array Value, vs4 = #[.string ⟨#[110, 117, 109]⟩, .string ⟨#[]⟩, .int .i64 z5, .int .u32 z4, .slice none 0 0, .slice none 0 0] → vs4.size = 6 ∧ (∀ k9 : Nat, k9 < 6 →
 (∃ v5 : Value, W7.cell? ⟨k, 0 + k9, none⟩ = some v5) ∧ W7.frozen? ⟨k, 0 + k9, none⟩ = false) ∧ ((∀ v6 : Value, v6 ∈ vs4.toList → Value.oneCell' v6 = true) ∧
 ∀ W8 : World, W8 = W7.setCells k 0 vs4.toList → ∃ vs5 : Array Value, vs5.size = 6 ∧ Sx.cellsAt W8 ⟨k, 0, none⟩ vs5 ∧ Q (.returned (.agg vs5)) W8)))
 (Calls Tryz.prog 60 #[.pointer (some ⟨arg0, arg0o, none⟩), .string ⟨#[40]⟩] W5 (fun e2 => fun W9 => ∃ t : Bool, e2 = .returned (.bool t) ∧ Sx.split t
 (Calls Tryz.prog 119 #[.pointer (some ⟨arg0, arg0o, none⟩)] W9 (fun e3 => fun W10 => ∃ vs6 : Array Value, e3 = .returned (.agg vs6) ∧
 ∀ k10 : Nat, ∀ W11 : World, k10 = W10.heap.size → W11 = W10.alloc (Obj.cells #[.string ⟨#[]⟩, .string ⟨#[]⟩, .int .i64 0, .int .u32 0, .slice none 0 0, .slice none 0 0] 52) →
 vs6.size = 6 ∧ (∀ k11 : Nat, k11 < 6 → (∃ v7 : Value, W11.cell? ⟨k10, 0 + k11, none⟩ = some v7) ∧ W11.frozen? ⟨k10, 0 + k11, none⟩ = false) ∧ ((∀ v8 : Value, v8 ∈ vs6.toList →
 Value.oneCell' v8 = true) ∧ ∀ W12 : World, W12 = W11.setCells k10 0 vs6.toList → Calls Tryz.prog 64 #[.pointer (some ⟨arg0, arg0o, none⟩), .string ⟨#[41]⟩] W12 (fun e4 => fun W13 =>
 e4 = .returned (.tuple #[]) ∧ ∃ vs7 : Array Value, vs7.size = 6 ∧ Sx.cellsAt W13 ⟨k10, 0, none⟩ vs7 ∧ vs7.size = 6 ∧ (∀ k12 : Nat, k12 < 6 →
 (∃ v9 : Value, W13.cell? ⟨k, 0 + k12, none⟩ = some v9) ∧ W13.frozen? ⟨k, 0 + k12, none⟩ = false) ∧ ((∀ v10 : Value, v10 ∈ vs7.toList → Value.oneCell' v10 = true) ∧
 ∀ W14 : World, W14 = W13.setCells k 0 vs7.toList → ∃ vs8 : Array Value, vs8.size = 6 ∧ Sx.cellsAt W14 ⟨k, 0, none⟩ vs8 ∧ Q (.returned (.agg vs8)) W14)))))
 (Calls Tryz.prog 61 #[.pointer (some ⟨arg0, arg0o, none⟩)] W9 (fun e5 => fun W15 => ∃ s : ByteArray, e5 = .returned (.string s) ∧
 Calls Tryz.prog 60 #[.pointer (some ⟨arg0, arg0o, none⟩), .string ⟨#[40]⟩] W15 (fun e6 => fun W16 => ∃ t2 : Bool, e6 = .returned (.bool t2) ∧ Sx.split t2
 (Calls Tryz.prog 135 #[.pointer (some ⟨arg0, arg0o, none⟩)] W16 (fun e7 => fun W17 => ∃ p2 : Option Addr, ∃ k13 : Nat, ∃ k14 : Nat, e7 = .returned (.slice p2 k13 k14) ∧
 ∃ z6 : Int, W17.cell? ⟨k6, 0 + 2, none⟩ = some (.int .i64 z6) ∧
 ∀ vs9 : Array Value, vs9 = #[.string ⟨#[99, 97, 108, 108]⟩, .string s, .int .i64 z6, .int .u32 0, .slice p2 k13 k14, .slice none 0 0] → vs9.size = 6 ∧ (∀ k15 : Nat, k15 < 6 →
 (∃ v11 : Value, W17.cell? ⟨k, 0 + k15, none⟩ = some v11) ∧ W17.frozen? ⟨k, 0 + k15, none⟩ = false) ∧ ((∀ v12 : Value, v12 ∈ vs9.toList → Value.oneCell' v12 = true) ∧
 ∀ W18 : World, W18 = W17.setCells k 0 vs9.toList → ∃ vs10 : Array Value, vs10.size = 6 ∧ Sx.cellsAt W18 ⟨k, 0, none⟩ vs10 ∧ Q (.returned (.agg vs10)) W18)))
 (Calls Tryz.prog 60 #[.pointer (some ⟨arg0, arg0o, none⟩), .string ⟨#[91]⟩] W16 (fun e8 => fun W19 => ∃ t3 : Bool, e8 = .returned (.bool t3) ∧ Sx.split t3
 (Calls Tryz.prog 119 #[.pointer (some ⟨arg0, arg0o, none⟩)] W19 (fun e9 => fun W20 => ∃ vs11 : Array Value, e9 = .returned (.agg vs11) ∧
 ∀ k16 : Nat, ∀ W21 : World, k16 = W20.heap.size → W21 = W20.alloc (Obj.cells #[.string ⟨#[]⟩, .string ⟨#[]⟩, .int .i64 0, .int .u32 0, .slice none 0 0, .slice none 0 0] 52) →
 vs11.size = 6 ∧ (∀ k17 : Nat, k17 < 6 → (∃ v13 : Value, W21.cell? ⟨k16, 0 + k17, none⟩ = some v13) ∧ W21.frozen? ⟨k16, 0 + k17, none⟩ = false) ∧ ((∀ v14 : Value, v14 ∈ vs11.toList →
 Value.oneCell' v14 = true) ∧ ∀ W22 : World, W22 = W21.setCells k16 0 vs11.toList → Calls Tryz.prog 64 #[.pointer (some ⟨arg0, arg0o, none⟩), .string ⟨#[93]⟩] W22 (fun e10 =>
 fun W23 => e10 = .returned (.tuple #[]) ∧ ∃ z7 : Int, W23.cell? ⟨k6, 0 + 2, none⟩ = some (.int .i64 z7) ∧ ∃ vs12 : Array Value, vs12.size = 6 ∧ Sx.cellsAt W23 ⟨k16, 0, none⟩ vs12 ∧
 (vs12.size = 6 ∧ ∀ k18 : Nat, ∀ W24 : World, k18 = W23.heap.size → W24 = W23.alloc (Obj.cells (List.toArray (vs12.toList ++ [])) 52) →
 ∀ vs13 : Array Value, vs13 = #[.string ⟨#[105, 110, 100, 101, 120]⟩, .string s, .int .i64 z7, .int .u32 0, .slice (some (Addr.mk k18 0 none)) 1 1, .slice none 0 0] → vs13.size = 6 ∧
 (∀ k19 : Nat, k19 < 6 → (∃ v15 : Value, W24.cell? ⟨k, 0 + k19, none⟩ = some v15) ∧ W24.frozen? ⟨k, 0 + k19, none⟩ = false) ∧ ((∀ v16 : Value, v16 ∈ vs13.toList →
 Value.oneCell' v16 = true) ∧ ∀ W25 : World, W25 = W24.setCells k 0 vs13.toList → ∃ vs14 : Array Value, vs14.size = 6 ∧ Sx.cellsAt W25 ⟨k, 0, none⟩ vs14 ∧
 Q (.returned (.agg vs14)) W25)))))) (∃ z8 : Int, W19.cell? ⟨k6, 0 + 2, none⟩ = some (.int .i64 z8) ∧
 ∀ vs15 : Array Value, vs15 = #[.string ⟨#[110, 97, 109, 101]⟩, .string s, .int .i64 z8, .int .u32 0, .slice none 0 0, .slice none 0 0] → vs15.size = 6 ∧ (∀ k20 : Nat, k20 < 6 →
 (∃ v17 : Value, W19.cell? ⟨k, 0 + k20, none⟩ = some v17) ∧ W19.frozen? ⟨k, 0 + k20, none⟩ = false) ∧ ((∀ v18 : Value, v18 ∈ vs15.toList → Value.oneCell' v18 = true) ∧
 ∀ W26 : World, W26 = W19.setCells k 0 vs15.toList → ∃ vs16 : Array Value, vs16.size = 6 ∧ Sx.cellsAt W26 ⟨k, 0, none⟩ vs16 ∧ Q (.returned (.agg vs16)) W26)))))))))))))) :
 Calls Tryz.prog 173 #[.pointer (some ⟨arg0, arg0o, none⟩)] W Q :=
 Sx.sound (pk := [1000052]) Tryz.func173 (.node [] [] 0 .leaf (.node [] [] 0 (.node [] [] 1001012 .leaf .leaf) .leaf)) [Value.pointer (some ⟨arg0, arg0o, none⟩)] rfl (Eq.mp (by kernel_rfl) hVC)
theorem vc135 {W : World} {Q : Ending → World → Prop} (p : Nat) (po : Nat)
 (hVC :
 Calls Tryz.prog 60 #[.pointer (some ⟨p, po, none⟩), .string ⟨#[41]⟩] W (fun e => fun W2 => ∃ t : Bool, e = .returned (.bool t) ∧
 ∃ I : Bool → Option Addr → Nat → Nat → World → Prop, ∃ I2 : Bool → Option Addr → Nat → Nat → World → Nat, I t none 0 0 W2 ∧ ((Nat → Value) →
 ∀ end_ : Bool, ∀ l : Option Addr, ∀ k : Nat, ∀ k2 : Nat, ∀ W3 : World, I end_ l k k2 W3 → Sx.split (!end_) (∃ z : Int, W3.cell? ⟨p, po + 3, none⟩ = some (.int .i64 z) ∧
 Sx.split (z == 0) (Calls Tryz.prog 119 #[.pointer (some ⟨p, po, none⟩)] W3 (fun e2 => fun W4 => ∃ vs : Array Value, e2 = .returned (.agg vs) ∧
 ∀ k3 : Nat, ∀ W5 : World, k3 = W4.heap.size → W5 = W4.alloc (Obj.cells #[.string ⟨#[]⟩, .string ⟨#[]⟩, .int .i64 0, .int .u32 0, .slice none 0 0, .slice none 0 0] 52) →
 vs.size = 6 ∧ (∀ k4 : Nat, k4 < 6 → (∃ v : Value, W5.cell? ⟨k3, 0 + k4, none⟩ = some v) ∧ W5.frozen? ⟨k3, 0 + k4, none⟩ = false) ∧ ((∀ v2 : Value, v2 ∈ vs.toList →
 Value.oneCell' v2 = true) ∧ ∀ W6 : World, W6 = W5.setCells k3 0 vs.toList → ∃ vs2 : Array Value, vs2.size = 6 ∧ Sx.cellsAt W6 ⟨k3, 0, none⟩ vs2 ∧ (vs2.size = 6 ∧
 ∀ k5 : Nat, ∀ W7 : World, k5 = W6.heap.size → W7 = W6.alloc (Obj.cells (List.toArray (vs2.toList ++ [])) 52) →
 ∃ l2 : List Value, ∃ l3 : List Value, XHeap.Sl W7 52 6 (Value.slice l k k2) k l2 ∧ (((1 : Nat) = (0 : Nat) ∧ some (Addr.mk k5 0 none) = none) ∨
 (∃ a : Addr, some (Addr.mk k5 0 none) = some a ∧ ∀ k6 : Nat, ∀ v3 : Value, l3[k6]? = some v3 → W7.cell? (Addr.add a k6) = some v3)) ∧ List.length l3 = 6 ∧ (∀ v4 : Value, v4 ∈ l3 →
 Value.oneCell' v4 = true) ∧ k + 1 ≤ maxLen ∧ ((k + 1) * 96 ≤ 140737488355328 ∧
 ∀ p2 : Option Addr, ∀ k7 : Nat, ∀ W8 : World, XHeap.Sl W8 52 6 (Value.slice p2 (k + 1) k7) (k + 1) (l2 ++ l3) →
 XHeap.XTouch (fun b => Value.ownBlock (Value.slice l k k2) = some b) W7 W8 → (∀ k8 : Nat, Value.ownBlock (Value.slice p2 (k + 1) k7) = some k8 →
 (Value.ownBlock (Value.slice l k k2) = some k8) ∨ (W7.heap.size ≤ k8)) → XHeap.Sl W8 52 6 (Value.slice l k k2) k l2 → ((p2 = l ∧ k7 = k2) ∨ (((XHeap.NilP l) ∨ (k2 < k + 1)) ∧
 ∀ k9 : Nat, Value.ownBlock (Value.slice p2 (k + 1) k7) = some k9 → W7.heap.size ≤ k9)) → Calls Tryz.prog 60 #[.pointer (some ⟨p, po, none⟩), .string ⟨#[41]⟩] W8 (fun e3 => fun W9 =>
 ∃ t2 : Bool, e3 = .returned (.bool t2) ∧ Sx.split (!t2) (Calls Tryz.prog 64 #[.pointer (some ⟨p, po, none⟩), .string ⟨#[44]⟩] W9 (fun e4 => fun W10 => e4 = .returned (.tuple #[]) ∧
 I t2 p2 (k + 1) k7 W10 ∧ I2 t2 p2 (k + 1) k7 W10 < I2 end_ l k k2 W3)) (I t2 p2 (k + 1) k7 W9 ∧ I2 t2 p2 (k + 1) k7 W9 < I2 end_ l k k2 W3))))))) (Q (.returned (.slice l k k2)) W3))
 (Q (.returned (.slice l k k2)) W3)))) :
 Calls Tryz.prog 135 #[.pointer (some ⟨p, po, none⟩)] W Q :=
 Sx.sound (pk := [1000052]) Tryz.func135 (.node [] [] 0 .leaf (.node [] [] 0 .leaf (.node [] [] 0 .leaf (.node [] [] 0 (.node [] [] 0 (.node [(4, .bool), (3, .slice)] [0] 0 .leaf .leaf) .leaf) .leaf)))) [Value.pointer (some ⟨p, po, none⟩)] rfl (Eq.mp (by kernel_rfl) hVC)
theorem vc118 {W : World} {Q : Ending → World → Prop} (p : Nat) (po : Nat) (kind : ByteArray) (line : Int)
 (hVC :
 ∀ k : Nat, ∀ W2 : World, k = W.heap.size → W2 = W.alloc (Obj.cells #[.string ⟨#[]⟩, .string ⟨#[]⟩, .int .i64 0, .int .u32 0, .slice none 0 0, .slice none 0 0] 52) →
 Calls Tryz.prog 119 #[.pointer (some ⟨p, po, none⟩)] W2 (fun e => fun W3 => ∃ vs : Array Value, e = .returned (.agg vs) ∧ ∀ k2 : Nat, ∀ W4 : World, k2 = W3.heap.size →
 W4 = W3.alloc (Obj.cells #[.string ⟨#[]⟩, .string ⟨#[]⟩, .int .i64 0, .int .u32 0, .slice none 0 0, .slice none 0 0] 52) → vs.size = 6 ∧ (∀ k3 : Nat, k3 < 6 →
 (∃ v : Value, W4.cell? ⟨k2, 0 + k3, none⟩ = some v) ∧ W4.frozen? ⟨k2, 0 + k3, none⟩ = false) ∧ ((∀ v2 : Value, v2 ∈ vs.toList → Value.oneCell' v2 = true) ∧
 ∀ W5 : World, W5 = W4.setCells k2 0 vs.toList → Calls Tryz.prog 64 #[.pointer (some ⟨p, po, none⟩), .string ⟨#[59]⟩] W5 (fun e2 => fun W6 => e2 = .returned (.tuple #[]) ∧
 ∃ vs2 : Array Value, vs2.size = 6 ∧ Sx.cellsAt W6 ⟨k2, 0, none⟩ vs2 ∧ (vs2.size = 6 ∧ ∀ k4 : Nat, ∀ W7 : World, k4 = W6.heap.size →
 W7 = W6.alloc (Obj.cells (List.toArray (vs2.toList ++ [])) 52) →
 ∀ vs3 : Array Value, vs3 = #[.string kind, .string ⟨#[]⟩, .int .i64 line, .int .u32 0, .slice (some (Addr.mk k4 0 none)) 1 1, .slice none 0 0] → vs3.size = 6 ∧ (∀ k5 : Nat, k5 < 6 →
 (∃ v3 : Value, W7.cell? ⟨k, 0 + k5, none⟩ = some v3) ∧ W7.frozen? ⟨k, 0 + k5, none⟩ = false) ∧ ((∀ v4 : Value, v4 ∈ vs3.toList → Value.oneCell' v4 = true) ∧
 ∀ W8 : World, W8 = W7.setCells k 0 vs3.toList → ∃ vs4 : Array Value, vs4.size = 6 ∧ Sx.cellsAt W8 ⟨k, 0, none⟩ vs4 ∧ Q (.returned (.agg vs4)) W8)))))) :
 Calls Tryz.prog 118 #[.pointer (some ⟨p, po, none⟩), .string kind, .int .i64 line] W Q :=
 Sx.sound (pk := [1000052]) Tryz.func118 .leaf [Value.pointer (some ⟨p, po, none⟩), .string kind, .int .i64 line] rfl (Eq.mp (by kernel_rfl) hVC)
theorem vc65 {W : World} {Q : Ending → World → Prop} (p : Nat) (po : Nat)
 (hVC :
 ∀ k : Nat, ∀ W2 : World, k = W.heap.size → W2 = W.alloc (Obj.cells #[.string ⟨#[]⟩, .string ⟨#[]⟩, .int .i64 0, .int .u32 0, .slice none 0 0, .slice none 0 0] 52) →
 ∀ W3 : World, W3 = World.drew W2 → ∃ p2 : Option Addr, ∃ k2 : Nat, ∃ k3 : Nat, W3.cell? ⟨p, po, none⟩ = some (.slice p2 k2 k3) ∧
 ∃ z : Int, W3.cell? ⟨p, po + 1, none⟩ = some (.int .i64 z) ∧ ((0 : Int) ≤ z ∧ z < (k2 : Int)) ∧ Sx.adr p2 (fun k4 => fun k5 =>
 ∃ z2 : Int, W3.cell? ⟨k4, k5 + Int.toNat z * 3 + 2, none⟩ = some (.int .i64 z2) ∧
 ∀ vs : Array Value, vs = #[.string ⟨#[98, 108, 111, 99, 107]⟩, .string ⟨#[]⟩, .int .i64 z2, .int .u32 0, .slice none 0 0, .slice none 0 0] →
 ∀ k6 : Nat, ∀ W4 : World, k6 = W3.heap.size → W4 = W3.alloc (Obj.cells #[.string ⟨#[]⟩, .string ⟨#[]⟩, .int .i64 0, .int .u32 0, .slice none 0 0, .slice none 0 0] 52) →
 RowKit.Below (W3.heap.size) W3 W4 ∧ vs.size = 6 ∧ (∀ k7 : Nat, k7 < 6 → (∃ v : Value, W4.cell? ⟨k6, 0 + k7, none⟩ = some v) ∧ W4.frozen? ⟨k6, 0 + k7, none⟩ = false) ∧
 ((∀ v2 : Value, v2 ∈ vs.toList → Value.oneCell' v2 = true) ∧ ∀ W5 : World, W5 = W4.setCells k6 0 vs.toList → Calls Tryz.prog 102 #[.pointer (some ⟨p, po, none⟩)] W5 (fun e =>
 fun W6 => ∃ t : Bool, e = .returned (.bool t) ∧ Sx.split (!t) (∃ vs2 : Array Value, vs2.size = 6 ∧ Sx.cellsAt W6 ⟨k6, 0, none⟩ vs2 ∧ vs2.size = 6 ∧ (∀ k8 : Nat, k8 < 6 →
 (∃ v3 : Value, W6.cell? ⟨k, 0 + k8, none⟩ = some v3) ∧ W6.frozen? ⟨k, 0 + k8, none⟩ = false) ∧ ((∀ v4 : Value, v4 ∈ vs2.toList → Value.oneCell' v4 = true) ∧
 ∀ W7 : World, W7 = W6.setCells k 0 vs2.toList → ∃ vs3 : Array Value, vs3.size = 6 ∧ Sx.cellsAt W7 ⟨k, 0, none⟩ vs3 ∧ Q (.returned (.agg vs3)) W7))
 (Calls Tryz.prog 64 #[.pointer (some ⟨p, po, none⟩), .string ⟨#[123]⟩] W6 (fun e2 => fun W8 => e2 = .returned (.tuple #[]) ∧
 Calls Tryz.prog 60 #[.pointer (some ⟨p, po, none⟩), .string ⟨#[125]⟩] W8 (fun e3 => fun W9 => ∃ t2 : Bool, e3 = .returned (.bool t2) ∧
 ∃ I : Bool → World → Prop, ∃ I2 : Bool → World → Nat, I t2 W9 ∧ ((Nat → Value) → ∀ end_ : Bool, ∀ W10 : World, I end_ W10 → Sx.split (!end_)
 (∃ z3 : Int, W10.cell? ⟨p, po + 3, none⟩ = some (.int .i64 z3) ∧ Sx.split (z3 == 0) (Calls Tryz.prog 103 #[.pointer (some ⟨p, po, none⟩)] W10 (fun e4 => fun W11 =>
 ∃ vs4 : Array Value, e4 = .returned (.agg vs4) ∧ ∀ k9 : Nat, ∀ W12 : World, k9 = W11.heap.size →
 W12 = W11.alloc (Obj.cells #[.string ⟨#[]⟩, .string ⟨#[]⟩, .int .i64 0, .int .u32 0, .slice none 0 0, .slice none 0 0] 52) → vs4.size = 6 ∧ (∀ k10 : Nat, k10 < 6 →
 (∃ v5 : Value, W12.cell? ⟨k9, 0 + k10, none⟩ = some v5) ∧ W12.frozen? ⟨k9, 0 + k10, none⟩ = false) ∧ ((∀ v6 : Value, v6 ∈ vs4.toList → Value.oneCell' v6 = true) ∧
 ∀ W13 : World, W13 = W12.setCells k9 0 vs4.toList → ∃ p3 : Option Addr, ∃ k11 : Nat, ∃ k12 : Nat, W13.cell? ⟨k6, 0 + 4, none⟩ = some (.slice p3 k11 k12) ∧
 ∃ vs5 : Array Value, vs5.size = 6 ∧ Sx.cellsAt W13 ⟨k9, 0, none⟩ vs5 ∧ (vs5.size = 6 ∧ ∀ k13 : Nat, ∀ W14 : World, k13 = W13.heap.size →
 W14 = W13.alloc (Obj.cells (List.toArray (vs5.toList ++ [])) 52) → ∃ l : List Value, ∃ l2 : List Value, XHeap.Sl W14 52 6 (Value.slice p3 k11 k12) k11 l ∧ (((1 : Nat) = (0 : Nat) ∧
 some (Addr.mk k13 0 none) = none) ∨ (∃ a : Addr, some (Addr.mk k13 0 none) = some a ∧ ∀ k14 : Nat, ∀ v7 : Value, l2[k14]? = some v7 → W14.cell? (Addr.add a k14) = some v7)) ∧
 List.length l2 = 6 ∧ (∀ v8 : Value, v8 ∈ l2 → Value.oneCell' v8 = true) ∧ k11 + 1 ≤ maxLen ∧ ((k11 + 1) * 96 ≤ 140737488355328 ∧
 ∀ p4 : Option Addr, ∀ k15 : Nat, ∀ W15 : World, XHeap.Sl W15 52 6 (Value.slice p4 (k11 + 1) k15) (k11 + 1) (l ++ l2) →
 XHeap.XTouch (fun b => Value.ownBlock (Value.slice p3 k11 k12) = some b) W14 W15 → (∀ k16 : Nat, Value.ownBlock (Value.slice p4 (k11 + 1) k15) = some k16 →
 (Value.ownBlock (Value.slice p3 k11 k12) = some k16) ∨ (W14.heap.size ≤ k16)) → XHeap.Sl W15 52 6 (Value.slice p3 k11 k12) k11 l → ((p4 = p3 ∧ k15 = k12) ∨ (((XHeap.NilP p3) ∨
 (k12 < k11 + 1)) ∧ ∀ k17 : Nat, Value.ownBlock (Value.slice p4 (k11 + 1) k15) = some k17 → W14.heap.size ≤ k17)) → (∃ v9 : Value, W15.cell? ⟨k6, 0 + 4, none⟩ = some v9) ∧
 (W15.frozen? ⟨k6, 0 + 4, none⟩ = false ∧ ∀ W16 : World, W16 = W15.setCell ⟨k6, 0 + 4, none⟩ (Value.slice p4 (k11 + 1) k15) →
 Calls Tryz.prog 60 #[.pointer (some ⟨p, po, none⟩), .string ⟨#[125]⟩] W16 (fun e5 => fun W17 => ∃ t3 : Bool, e5 = .returned (.bool t3) ∧ I t3 W17 ∧ I2 t3 W17 < I2 end_ W10)))))))
 (∃ z4 : Int, W10.cell? ⟨p, po + 4, none⟩ = some (.int .i64 z4) ∧ ∀ z5 : Int, z5 = IntKind.wrap .i64 (z4 - 1) → (∃ v10 : Value, W10.cell? ⟨p, po + 4, none⟩ = some v10) ∧
 (W10.frozen? ⟨p, po + 4, none⟩ = false ∧ ∀ W18 : World, W18 = W10.setCell ⟨p, po + 4, none⟩ (Value.int .i64 z5) → ∃ vs6 : Array Value, vs6.size = 6 ∧
 Sx.cellsAt W18 ⟨k6, 0, none⟩ vs6 ∧ vs6.size = 6 ∧ (∀ k18 : Nat, k18 < 6 → (∃ v11 : Value, W18.cell? ⟨k, 0 + k18, none⟩ = some v11) ∧ W18.frozen? ⟨k, 0 + k18, none⟩ = false) ∧
 ((∀ v12 : Value, v12 ∈ vs6.toList → Value.oneCell' v12 = true) ∧ ∀ W19 : World, W19 = W18.setCells k 0 vs6.toList → ∃ vs7 : Array Value, vs7.size = 6 ∧
 Sx.cellsAt W19 ⟨k, 0, none⟩ vs7 ∧ Q (.returned (.agg vs7)) W19)))) (∃ z6 : Int, W10.cell? ⟨p, po + 4, none⟩ = some (.int .i64 z6) ∧ ∀ z7 : Int, z7 = IntKind.wrap .i64 (z6 - 1) →
 (∃ v13 : Value, W10.cell? ⟨p, po + 4, none⟩ = some v13) ∧ (W10.frozen? ⟨p, po + 4, none⟩ = false ∧ ∀ W20 : World, W20 = W10.setCell ⟨p, po + 4, none⟩ (Value.int .i64 z7) →
 ∃ vs8 : Array Value, vs8.size = 6 ∧ Sx.cellsAt W20 ⟨k6, 0, none⟩ vs8 ∧ vs8.size = 6 ∧ (∀ k19 : Nat, k19 < 6 → (∃ v14 : Value, W20.cell? ⟨k, 0 + k19, none⟩ = some v14) ∧
 W20.frozen? ⟨k, 0 + k19, none⟩ = false) ∧ ((∀ v15 : Value, v15 ∈ vs8.toList → Value.oneCell' v15 = true) ∧ ∀ W21 : World, W21 = W20.setCells k 0 vs8.toList →
 ∃ vs9 : Array Value, vs9.size = 6 ∧ Sx.cellsAt W21 ⟨k, 0, none⟩ vs9 ∧ Q (.returned (.agg vs9)) W21))))))))))) :
 Calls Tryz.prog 65 #[.pointer (some ⟨p, po, none⟩)] W Q :=
 Sx.sound (pk := [1000052]) Tryz.func65 (.node [] [] 0 .leaf (.node [] [] 0 (.node [] [] 1001014 .leaf .leaf) (.node [] [] 0 .leaf (.node [] [] 0 .leaf (.node [] [] 0 .leaf (.node [] [] 0 .leaf (.node [] [] 0 (.node [] [] 0 (.node [(5, .bool)] [0, 3, 2] 0 .leaf .leaf) .leaf) .leaf))))))) [Value.pointer (some ⟨p, po, none⟩)] rfl (Eq.mp (by kernel_rfl) hVC)
theorem vc103 {W : World} {Q : Ending → World → Prop} (arg0 : Nat) (arg0o : Nat)
 (hVC :
 ∀ k : Nat, ∀ W2 : World, k = W.heap.size → W2 = W.alloc (Obj.cells #[.string ⟨#[]⟩, .string ⟨#[]⟩, .int .i64 0, .int .u32 0, .slice none 0 0, .slice none 0 0] 52) →
 ∀ W3 : World, W3 = World.drew W2 → ∃ p : Option Addr, ∃ k2 : Nat, ∃ k3 : Nat, W3.cell? ⟨arg0, arg0o, none⟩ = some (.slice p k2 k3) ∧
 ∃ z : Int, W3.cell? ⟨arg0, arg0o + 1, none⟩ = some (.int .i64 z) ∧ ((0 : Int) ≤ z ∧ z < (k2 : Int)) ∧ Sx.adr p (fun k4 => fun k5 => ∃ vs : Array Value, vs.size = 3 ∧
 (Sx.cellsAt W3 ⟨k4, k5 + Int.toNat z * 3, none⟩ vs ∧ ∀ k6 : Nat, ∀ W4 : World, k6 = W3.heap.size → W4 = W3.alloc (Obj.cells #[.int .u8 0, .string ⟨#[]⟩, .int .i64 0] 96) →
 RowKit.Below (W3.heap.size) W3 W4 ∧ vs.size = 3 ∧ (∀ k7 : Nat, k7 < 3 → (∃ v : Value, W4.cell? ⟨k6, 0 + k7, none⟩ = some v) ∧ W4.frozen? ⟨k6, 0 + k7, none⟩ = false) ∧
 ((∀ v2 : Value, v2 ∈ vs.toList → Value.oneCell' v2 = true) ∧ ∀ W5 : World, W5 = W4.setCells k6 0 vs.toList → ∃ z2 : Int, W5.cell? ⟨k6, 0, none⟩ = some (.int .u8 z2) ∧
 Sx.split (z2 == 110) (Calls Tryz.prog 117 #[.pointer (some ⟨arg0, arg0o, none⟩)] W5 (fun e => fun W6 => ∃ vs2 : Array Value, e = .returned (.agg vs2) ∧ vs2.size = 6 ∧
 (∀ k8 : Nat, k8 < 6 → (∃ v3 : Value, W6.cell? ⟨k, 0 + k8, none⟩ = some v3) ∧ W6.frozen? ⟨k, 0 + k8, none⟩ = false) ∧ ((∀ v4 : Value, v4 ∈ vs2.toList → Value.oneCell' v4 = true) ∧
 ∀ W7 : World, W7 = W6.setCells k 0 vs2.toList → ∃ vs3 : Array Value, vs3.size = 6 ∧ Sx.cellsAt W7 ⟨k, 0, none⟩ vs3 ∧ Q (.returned (.agg vs3)) W7)))
 (∃ z3 : Int, W5.cell? ⟨k6, 0, none⟩ = some (.int .u8 z3) ∧ Sx.split (z3 != 107) (Calls Tryz.prog 63 #[.pointer (some ⟨arg0, arg0o, none⟩), .int .i64 8] W5 (fun e2 => fun W8 =>
 ∃ vs4 : Array Value, e2 = .returned (.agg vs4) ∧ vs4.size = 6 ∧ (∀ k9 : Nat, k9 < 6 → (∃ v5 : Value, W8.cell? ⟨k, 0 + k9, none⟩ = some v5) ∧ W8.frozen? ⟨k, 0 + k9, none⟩ = false) ∧
 ((∀ v6 : Value, v6 ∈ vs4.toList → Value.oneCell' v6 = true) ∧ ∀ W9 : World, W9 = W8.setCells k 0 vs4.toList → ∃ vs5 : Array Value, vs5.size = 6 ∧ Sx.cellsAt W9 ⟨k, 0, none⟩ vs5 ∧
 Q (.returned (.agg vs5)) W9))) (∃ s : ByteArray, W5.cell? ⟨k6, 0 + 1, none⟩ = some (.string s) ∧ Sx.split (ByteArray.toList s == ByteArray.toList ⟨#[108, 101, 116]⟩)
 (∃ z4 : Int, W5.cell? ⟨arg0, arg0o + 1, none⟩ = some (.int .i64 z4) ∧ ∀ z5 : Int, z5 = IntKind.wrap .i64 (z4 + 1) → (∃ v7 : Value, W5.cell? ⟨arg0, arg0o + 1, none⟩ = some v7) ∧
 (W5.frozen? ⟨arg0, arg0o + 1, none⟩ = false ∧ ∀ W10 : World, W10 = W5.setCell ⟨arg0, arg0o + 1, none⟩ (Value.int .i64 z5) →
 Calls Tryz.prog 61 #[.pointer (some ⟨arg0, arg0o, none⟩)] W10 (fun e3 => fun W11 => ∃ s2 : ByteArray, e3 = .returned (.string s2) ∧
 Calls Tryz.prog 64 #[.pointer (some ⟨arg0, arg0o, none⟩), .string ⟨#[61]⟩] W11 (fun e4 => fun W12 => e4 = .returned (.tuple #[]) ∧
 ∃ z6 : Int, W12.cell? ⟨k6, 0 + 2, none⟩ = some (.int .i64 z6) ∧ Calls Tryz.prog 118 #[.pointer (some ⟨arg0, arg0o, none⟩), .string ⟨#[108, 101, 116]⟩, .int .i64 z6] W12 (fun e5 =>
 fun W13 => ∃ vs6 : Array Value, e5 = .returned (.agg vs6) ∧ ∀ k10 : Nat, ∀ W14 : World, k10 = W13.heap.size →
 W14 = W13.alloc (Obj.cells #[.string ⟨#[]⟩, .string ⟨#[]⟩, .int .i64 0, .int .u32 0, .slice none 0 0, .slice none 0 0] 52) → vs6.size = 6 ∧ (∀ k11 : Nat, k11 < 6 →
 (∃ v8 : Value, W14.cell? ⟨k10, 0 + k11, none⟩ = some v8) ∧ W14.frozen? ⟨k10, 0 + k11, none⟩ = false) ∧ ((∀ v9 : Value, v9 ∈ vs6.toList → Value.oneCell' v9 = true) ∧
 ∀ W15 : World, W15 = W14.setCells k10 0 vs6.toList → (∃ v10 : Value, W15.cell? ⟨k10, 0 + 1, none⟩ = some v10) ∧ (W15.frozen? ⟨k10, 0 + 1, none⟩ = false ∧
 ∀ W16 : World, W16 = W15.setCell ⟨k10, 0 + 1, none⟩ (Value.string s2) → ∃ vs7 : Array Value, vs7.size = 6 ∧ Sx.cellsAt W16 ⟨k10, 0, none⟩ vs7 ∧ vs7.size = 6 ∧
 (∀ k12 : Nat, k12 < 6 → (∃ v11 : Value, W16.cell? ⟨k, 0 + k12, none⟩ = some v11) ∧ W16.frozen? ⟨k, 0 + k12, none⟩ = false) ∧ ((∀ v12 : Value, v12 ∈ vs7.toList →
 Value.oneCell' v12 = true) ∧ ∀ W17 : World, W17 = W16.setCells k 0 vs7.toList → ∃ vs8 : Array Value, vs8.size = 6 ∧ Sx.cellsAt W17 ⟨k, 0, none⟩ vs8 ∧
 Q (.returned (.agg vs8)) W17)))))))) (Sx.split (ByteArray.toList s == ByteArray.toList ⟨#[114, 101, 116, 117, 114, 110]⟩)
 (∃ z7 : Int, W5.cell? ⟨arg0, arg0o + 1, none⟩ = some (.int .i64 z7) ∧ ∀ z8 : Int, z8 = IntKind.wrap .i64 (z7 + 1) → (∃ v13 : Value, W5.cell? ⟨arg0, arg0o + 1, none⟩ = some v13) ∧
 (W5.frozen? ⟨arg0, arg0o + 1, none⟩ = false ∧ ∀ W18 : World, W18 = W5.setCell ⟨arg0, arg0o + 1, none⟩ (Value.int .i64 z8) →
 ∃ s3 : ByteArray, W18.cell? ⟨k6, 0 + 1, none⟩ = some (.string s3) ∧ ∃ z9 : Int, W18.cell? ⟨k6, 0 + 2, none⟩ = some (.int .i64 z9) ∧
 Calls Tryz.prog 118 #[.pointer (some ⟨arg0, arg0o, none⟩), .string s3, .int .i64 z9] W18 (fun e6 => fun W19 => ∃ vs9 : Array Value, e6 = .returned (.agg vs9) ∧ vs9.size = 6 ∧
 (∀ k13 : Nat, k13 < 6 → (∃ v14 : Value, W19.cell? ⟨k, 0 + k13, none⟩ = some v14) ∧ W19.frozen? ⟨k, 0 + k13, none⟩ = false) ∧ ((∀ v15 : Value, v15 ∈ vs9.toList →
 Value.oneCell' v15 = true) ∧ ∀ W20 : World, W20 = W19.setCells k 0 vs9.toList → ∃ vs10 : Array Value, vs10.size = 6 ∧ Sx.cellsAt W20 ⟨k, 0, none⟩ vs10 ∧
 Q (.returned (.agg vs10)) W20)))) (Sx.split (ByteArray.toList s == ByteArray.toList ⟨#[112, 114, 105, 110, 116]⟩)
 (∃ z10 : Int, W5.cell? ⟨arg0, arg0o + 1, none⟩ = some (.int .i64 z10) ∧ ∀ z11 : Int, z11 = IntKind.wrap .i64 (z10 + 1) →
 (∃ v16 : Value, W5.cell? ⟨arg0, arg0o + 1, none⟩ = some v16) ∧ (W5.frozen? ⟨arg0, arg0o + 1, none⟩ = false ∧
 ∀ W21 : World, W21 = W5.setCell ⟨arg0, arg0o + 1, none⟩ (Value.int .i64 z11) → ∃ s4 : ByteArray, W21.cell? ⟨k6, 0 + 1, none⟩ = some (.string s4) ∧
 ∃ z12 : Int, W21.cell? ⟨k6, 0 + 2, none⟩ = some (.int .i64 z12) ∧ Calls Tryz.prog 118 #[.pointer (some ⟨arg0, arg0o, none⟩), .string s4, .int .i64 z12] W21 (fun e7 => fun W22 =>
 ∃ vs11 : Array Value, e7 = .returned (.agg vs11) ∧ vs11.size = 6 ∧ (∀ k14 : Nat, k14 < 6 → (∃ v17 : Value, W22.cell? ⟨k, 0 + k14, none⟩ = some v17) ∧
 W22.frozen? ⟨k, 0 + k14, none⟩ = false) ∧ ((∀ v18 : Value, v18 ∈ vs11.toList → Value.oneCell' v18 = true) ∧ ∀ W23 : World, W23 = W22.setCells k 0 vs11.toList →
 ∃ vs12 : Array Value, vs12.size = 6 ∧ Sx.cellsAt W23 ⟨k, 0, none⟩ vs12 ∧ Q (.returned (.agg vs12)) W23))))
 (Sx.split (ByteArray.toList s == ByteArray.toList ⟨#[119, 104, 105, 108, 101]⟩) (∃ z13 : Int, W5.cell? ⟨arg0, arg0o + 1, none⟩ = some (.int .i64 z13) ∧
 ∀ z14 : Int, z14 = IntKind.wrap .i64 (z13 + 1) → (∃ v19 : Value, W5.cell? ⟨arg0, arg0o + 1, none⟩ = some v19) ∧ (W5.frozen? ⟨arg0, arg0o + 1, none⟩ = false ∧
 ∀ W24 : World, W24 = W5.setCell ⟨arg0, arg0o + 1, none⟩ (Value.int .i64 z14) → Calls Tryz.prog 119 #[.pointer (some ⟨arg0, arg0o, none⟩)] W24 (fun e8 => fun W25 =>
 ∃ vs13 : Array Value, e8 = .returned (.agg vs13) ∧ ∀ k15 : Nat, ∀ W26 : World, k15 = W25.heap.size →
 W26 = W25.alloc (Obj.cells #[.string ⟨#[]⟩, .string ⟨#[]⟩, .int .i64 0, .int .u32 0, .slice none 0 0, .slice none 0 0] 52) → vs13.size = 6 ∧ (∀ k16 : Nat, k16 < 6 →
 (∃ v20 : Value, W26.cell? ⟨k15, 0 + k16, none⟩ = some v20) ∧ W26.frozen? ⟨k15, 0 + k16, none⟩ = false) ∧ ((∀ v21 : Value, v21 ∈ vs13.toList → Value.oneCell' v21 = true) ∧
 ∀ W27 : World, W27 = W26.setCells k15 0 vs13.toList → Calls Tryz.prog 65 #[.pointer (some ⟨arg0, arg0o, none⟩)] W27 (fun e9 => fun W28 =>
 ∃ vs14 : Array Value, e9 = .returned (.agg vs14) ∧ ∀ k17 : Nat, ∀ W29 : World, k17 = W28.heap.size →
 W29 = W28.alloc (Obj.cells #[.string ⟨#[]⟩, .string ⟨#[]⟩, .int .i64 0, .int .u32 0, .slice none 0 0, .slice none 0 0] 52) → vs14.size = 6 ∧ (∀ k18 : Nat, k18 < 6 →
 (∃ v22 : Value, W29.cell? ⟨k17, 0 + k18, none⟩ = some v22) ∧ W29.frozen? ⟨k17, 0 + k18, none⟩ = false) ∧ ((∀ v23 : Value, v23 ∈ vs14.toList → Value.oneCell' v23 = true) ∧
 ∀ W30 : World, W30 = W29.setCells k17 0 vs14.toList → ∃ z15 : Int, W30.cell? ⟨k6, 0 + 2, none⟩ = some (.int .i64 z15) ∧ ∃ vs15 : Array Value, vs15.size = 6 ∧
 Sx.cellsAt W30 ⟨k15, 0, none⟩ vs15 ∧ ∃ vs16 : Array Value, vs16.size = 6 ∧ Sx.cellsAt W30 ⟨k17, 0, none⟩ vs16 ∧ vs15.size = 6 ∧ (vs16.size = 6 ∧
 ∀ k19 : Nat, ∀ W31 : World, k19 = W30.heap.size → W31 = W30.alloc (Obj.cells (List.toArray (vs15.toList ++ (vs16.toList ++ []))) 52) →
 ∀ vs17 : Array Value, vs17 = #[.string ⟨#[119, 104, 105, 108, 101]⟩, .string ⟨#[]⟩, .int .i64 z15, .int .u32 0, .slice (some (Addr.mk k19 0 none)) 2 2, .slice none 0 0] →
 vs17.size = 6 ∧ (∀ k20 : Nat, k20 < 6 → (∃ v24 : Value, W31.cell? ⟨k, 0 + k20, none⟩ = some v24) ∧ W31.frozen? ⟨k, 0 + k20, none⟩ = false) ∧ ((∀ v25 : Value, v25 ∈ vs17.toList →
 Value.oneCell' v25 = true) ∧ ∀ W32 : World, W32 = W31.setCells k 0 vs17.toList → ∃ vs18 : Array Value, vs18.size = 6 ∧ Sx.cellsAt W32 ⟨k, 0, none⟩ vs18 ∧
 Q (.returned (.agg vs18)) W32)))))))) (Sx.split (ByteArray.toList s == ByteArray.toList ⟨#[105, 102]⟩) (∃ z16 : Int, W5.cell? ⟨arg0, arg0o + 1, none⟩ = some (.int .i64 z16) ∧
 ∀ z17 : Int, z17 = IntKind.wrap .i64 (z16 + 1) → (∃ v26 : Value, W5.cell? ⟨arg0, arg0o + 1, none⟩ = some v26) ∧ (W5.frozen? ⟨arg0, arg0o + 1, none⟩ = false ∧
 ∀ W33 : World, W33 = W5.setCell ⟨arg0, arg0o + 1, none⟩ (Value.int .i64 z17) → Calls Tryz.prog 119 #[.pointer (some ⟨arg0, arg0o, none⟩)] W33 (fun e10 => fun W34 =>
 ∃ vs19 : Array Value, e10 = .returned (.agg vs19) ∧ ∀ k21 : Nat, ∀ W35 : World, k21 = W34.heap.size →
 W35 = W34.alloc (Obj.cells #[.string ⟨#[]⟩, .string ⟨#[]⟩, .int .i64 0, .int .u32 0, .slice none 0 0, .slice none 0 0] 52) → vs19.size = 6 ∧ (∀ k22 : Nat, k22 < 6 →
 (∃ v27 : Value, W35.cell? ⟨k21, 0 + k22, none⟩ = some v27) ∧ W35.frozen? ⟨k21, 0 + k22, none⟩ = false) ∧ ((∀ v28 : Value, v28 ∈ vs19.toList → Value.oneCell' v28 = true) ∧
 ∀ W36 : World, W36 = W35.setCells k21 0 vs19.toList → Calls Tryz.prog 65 #[.pointer (some ⟨arg0, arg0o, none⟩)] W36 (fun e11 => fun W37 =>
 ∃ vs20 : Array Value, e11 = .returned (.agg vs20) ∧ ∀ k23 : Nat, ∀ W38 : World, k23 = W37.heap.size →
 W38 = W37.alloc (Obj.cells #[.string ⟨#[]⟩, .string ⟨#[]⟩, .int .i64 0, .int .u32 0, .slice none 0 0, .slice none 0 0] 52) → vs20.size = 6 ∧ (∀ k24 : Nat, k24 < 6 →
 (∃ v29 : Value, W38.cell? ⟨k23, 0 + k24, none⟩ = some v29) ∧ W38.frozen? ⟨k23, 0 + k24, none⟩ = false) ∧ ((∀ v30 : Value, v30 ∈ vs20.toList → Value.oneCell' v30 = true) ∧
 ∀ W39 : World, W39 = W38.setCells k23 0 vs20.toList → ∃ z18 : Int, W39.cell? ⟨k6, 0 + 2, none⟩ = some (.int .i64 z18) ∧ ∃ vs21 : Array Value, vs21.size = 6 ∧
 Sx.cellsAt W39 ⟨k21, 0, none⟩ vs21 ∧ ∃ vs22 : Array Value, vs22.size = 6 ∧ Sx.cellsAt W39 ⟨k23, 0, none⟩ vs22 ∧ vs21.size = 6 ∧ (vs22.size = 6 ∧
 ∀ k25 : Nat, ∀ W40 : World, k25 = W39.heap.size → W40 = W39.alloc (Obj.cells (List.toArray (vs21.toList ++ (vs22.toList ++ []))) 52) →
 ∀ vs23 : Array Value, vs23 = #[.string ⟨#[105, 102]⟩, .string ⟨#[]⟩, .int .i64 z18, .int .u32 0, .slice (some (Addr.mk k25 0 none)) 2 2, .slice none 0 0] →
 ∀ k26 : Nat, ∀ W41 : World, k26 = W40.heap.size → W41 = W40.alloc (Obj.cells #[.string ⟨#[]⟩, .string ⟨#[]⟩, .int .i64 0, .int .u32 0, .slice none 0 0, .slice none 0 0] 52) →
 vs23.size = 6 ∧ (∀ k27 : Nat, k27 < 6 → (∃ v31 : Value, W41.cell? ⟨k26, 0 + k27, none⟩ = some v31) ∧ W41.frozen? ⟨k26, 0 + k27, none⟩ = false) ∧ ((∀ v32 : Value, v32 ∈ vs23.toList →
 Value.oneCell' v32 = true) ∧ ∀ W42 : World, W42 = W41.setCells k26 0 vs23.toList →
 Calls Tryz.prog 60 #[.pointer (some ⟨arg0, arg0o, none⟩), .string ⟨#[101, 108, 115, 101]⟩] W42 (fun e12 => fun W43 => ∃ t : Bool, e12 = .returned (.bool t) ∧ Sx.split t
 (Calls Tryz.prog 65 #[.pointer (some ⟨arg0, arg0o, none⟩)] W43 (fun e13 => fun W44 => ∃ vs24 : Array Value, e13 = .returned (.agg vs24) ∧
 ∀ k28 : Nat, ∀ W45 : World, k28 = W44.heap.size → W45 = W44.alloc (Obj.cells #[.string ⟨#[]⟩, .string ⟨#[]⟩, .int .i64 0, .int .u32 0, .slice none 0 0, .slice none 0 0] 52) →
 vs24.size = 6 ∧ (∀ k29 : Nat, k29 < 6 → (∃ v33 : Value, W45.cell? ⟨k28, 0 + k29, none⟩ = some v33) ∧ W45.frozen? ⟨k28, 0 + k29, none⟩ = false) ∧ ((∀ v34 : Value, v34 ∈ vs24.toList →
 Value.oneCell' v34 = true) ∧ ∀ W46 : World, W46 = W45.setCells k28 0 vs24.toList →
 ∃ p2 : Option Addr, ∃ k30 : Nat, ∃ k31 : Nat, W46.cell? ⟨k26, 0 + 4, none⟩ = some (.slice p2 k30 k31) ∧ ∃ vs25 : Array Value, vs25.size = 6 ∧ Sx.cellsAt W46 ⟨k28, 0, none⟩ vs25 ∧
 (vs25.size = 6 ∧ ∀ k32 : Nat, ∀ W47 : World, k32 = W46.heap.size → W47 = W46.alloc (Obj.cells (List.toArray (vs25.toList ++ [])) 52) →
 ∃ l : List Value, ∃ l2 : List Value, XHeap.Sl W47 52 6 (Value.slice p2 k30 k31) k30 l ∧ (((1 : Nat) = (0 : Nat) ∧ some (Addr.mk k32 0 none) = none) ∨
 (∃ a : Addr, some (Addr.mk k32 0 none) = some a ∧ ∀ k33 : Nat, ∀ v35 : Value, l2[k33]? = some v35 → W47.cell? (Addr.add a k33) = some v35)) ∧ List.length l2 = 6 ∧
 (∀ v36 : Value, v36 ∈ l2 → Value.oneCell' v36 = true) ∧ k30 + 1 ≤ maxLen ∧ ((k30 + 1) * 96 ≤ 140737488355328 ∧
 ∀ p3 : Option Addr, ∀ k34 : Nat, ∀ W48 : World, XHeap.Sl W48 52 6 (Value.slice p3 (k30 + 1) k34) (k30 + 1) (l ++ l2) →
 XHeap.XTouch (fun b => Value.ownBlock (Value.slice p2 k30 k31) = some b) W47 W48 → (∀ k35 : Nat, Value.ownBlock (Value.slice p3 (k30 + 1) k34) = some k35 →
 (Value.ownBlock (Value.slice p2 k30 k31) = some k35) ∨ (W47.heap.size ≤ k35)) → XHeap.Sl W48 52 6 (Value.slice p2 k30 k31) k30 l → ((p3 = p2 ∧ k34 = k31) ∨ (((XHeap.NilP p2) ∨
 (k31 < k30 + 1)) ∧ ∀ k36 : Nat, Value.ownBlock (Value.slice p3 (k30 + 1) k34) = some k36 → W47.heap.size ≤ k36)) → (∃ v37 : Value, W48.cell? ⟨k26, 0 + 4, none⟩ = some v37) ∧
 (W48.frozen? ⟨k26, 0 + 4, none⟩ = false ∧ ∀ W49 : World, W49 = W48.setCell ⟨k26, 0 + 4, none⟩ (Value.slice p3 (k30 + 1) k34) → ∃ vs26 : Array Value, vs26.size = 6 ∧
 Sx.cellsAt W49 ⟨k26, 0, none⟩ vs26 ∧ vs26.size = 6 ∧ (∀ k37 : Nat, k37 < 6 → (∃ v38 : Value, W49.cell? ⟨k, 0 + k37, none⟩ = some v38) ∧ W49.frozen? ⟨k, 0 + k37, none⟩ = false) ∧
 ((∀ v39 : Value, v39 ∈ vs26.toList → Value.oneCell' v39 = true) ∧ ∀ W50 : World, W50 = W49.setCells k 0 vs26.toList → ∃ vs27 : Array Value, vs27.size = 6 ∧
 Sx.cellsAt W50 ⟨k, 0, none⟩ vs27 ∧ Q (.returned (.agg vs27)) W50))))))) (∃ vs28 : Array Value, vs28.size = 6 ∧ Sx.cellsAt W43 ⟨k26, 0, none⟩ vs28 ∧ vs28.size = 6 ∧
 (∀ k38 : Nat, k38 < 6 → (∃ v40 : Value, W43.cell? ⟨k, 0 + k38, none⟩ = some v40) ∧ W43.frozen? ⟨k, 0 + k38, none⟩ = false) ∧ ((∀ v41 : Value, v41 ∈ vs28.toList →
 Value.oneCell' v41 = true) ∧ ∀ W51 : World, W51 = W43.setCells k 0 vs28.toList → ∃ vs29 : Array Value, vs29.size = 6 ∧ Sx.cellsAt W51 ⟨k, 0, none⟩ vs29 ∧
 Q (.returned (.agg vs29)) W51))))))))))) (Calls Tryz.prog 63 #[.pointer (some ⟨arg0, arg0o, none⟩), .int .i64 8] W5 (fun e14 => fun W52 =>
 ∃ vs30 : Array Value, e14 = .returned (.agg vs30) ∧ vs30.size = 6 ∧ (∀ k39 : Nat, k39 < 6 → (∃ v42 : Value, W52.cell? ⟨k, 0 + k39, none⟩ = some v42) ∧
 W52.frozen? ⟨k, 0 + k39, none⟩ = false) ∧ ((∀ v43 : Value, v43 ∈ vs30.toList → Value.oneCell' v43 = true) ∧ ∀ W53 : World, W53 = W52.setCells k 0 vs30.toList →
 ∃ vs31 : Array Value, vs31.size = 6 ∧ Sx.cellsAt W53 ⟨k, 0, none⟩ vs31 ∧ Q (.returned (.agg vs31)) W53))))))))))))) :
 Calls Tryz.prog 103 #[.pointer (some ⟨arg0, arg0o, none⟩)] W Q :=
 Sx.sound (pk := [1000052]) Tryz.func103 (.node [] [] 0 .leaf (.node [] [] 0 (.node [] [] 1001012 .leaf .leaf) .leaf)) [Value.pointer (some ⟨arg0, arg0o, none⟩)] rfl (Eq.mp (by kernel_rfl) hVC)
theorem vc117 {W : World} {Q : Ending → World → Prop} (arg0 : Nat) (arg0o : Nat)
 (hVC :
 ∀ k : Nat, ∀ W2 : World, k = W.heap.size → W2 = W.alloc (Obj.cells #[.string ⟨#[]⟩, .string ⟨#[]⟩, .int .i64 0, .int .u32 0, .slice none 0 0, .slice none 0 0] 52) →
 ∀ W3 : World, W3 = World.drew W2 → ∃ p : Option Addr, ∃ k2 : Nat, ∃ k3 : Nat, W3.cell? ⟨arg0, arg0o, none⟩ = some (.slice p k2 k3) ∧
 ∃ z : Int, W3.cell? ⟨arg0, arg0o + 1, none⟩ = some (.int .i64 z) ∧ ((0 : Int) ≤ z ∧ z < (k2 : Int)) ∧ Sx.adr p (fun k4 => fun k5 => ∃ vs : Array Value, vs.size = 3 ∧
 (Sx.cellsAt W3 ⟨k4, k5 + Int.toNat z * 3, none⟩ vs ∧ ∀ k6 : Nat, ∀ W4 : World, k6 = W3.heap.size → W4 = W3.alloc (Obj.cells #[.int .u8 0, .string ⟨#[]⟩, .int .i64 0] 96) →
 RowKit.Below (W3.heap.size) W3 W4 ∧ vs.size = 3 ∧ (∀ k7 : Nat, k7 < 3 → (∃ v : Value, W4.cell? ⟨k6, 0 + k7, none⟩ = some v) ∧ W4.frozen? ⟨k6, 0 + k7, none⟩ = false) ∧
 ((∀ v2 : Value, v2 ∈ vs.toList → Value.oneCell' v2 = true) ∧ ∀ W5 : World, W5 = W4.setCells k6 0 vs.toList → Calls Tryz.prog 61 #[.pointer (some ⟨arg0, arg0o, none⟩)] W5 (fun e =>
 fun W6 => ∃ s : ByteArray, e = .returned (.string s) ∧ Calls Tryz.prog 60 #[.pointer (some ⟨arg0, arg0o, none⟩), .string ⟨#[40]⟩] W6 (fun e2 => fun W7 =>
 ∃ t : Bool, e2 = .returned (.bool t) ∧ Sx.split t (Calls Tryz.prog 135 #[.pointer (some ⟨arg0, arg0o, none⟩)] W7 (fun e3 => fun W8 =>
 ∃ p2 : Option Addr, ∃ k8 : Nat, ∃ k9 : Nat, e3 = .returned (.slice p2 k8 k9) ∧ Calls Tryz.prog 64 #[.pointer (some ⟨arg0, arg0o, none⟩), .string ⟨#[59]⟩] W8 (fun e4 => fun W9 =>
 e4 = .returned (.tuple #[]) ∧ ∃ z2 : Int, W9.cell? ⟨k6, 0 + 2, none⟩ = some (.int .i64 z2) ∧ ∃ z3 : Int, W9.cell? ⟨k6, 0 + 2, none⟩ = some (.int .i64 z3) ∧
 ∀ vs2 : Array Value, vs2 = #[.string ⟨#[99, 97, 108, 108]⟩, .string s, .int .i64 z3, .int .u32 0, .slice p2 k8 k9, .slice none 0 0] → vs2.size = 6 ∧
 ∀ k10 : Nat, ∀ W10 : World, k10 = W9.heap.size → W10 = W9.alloc (Obj.cells (List.toArray (vs2.toList ++ [])) 52) →
 ∀ vs3 : Array Value, vs3 = #[.string ⟨#[100, 111]⟩, .string ⟨#[]⟩, .int .i64 z2, .int .u32 0, .slice (some (Addr.mk k10 0 none)) 1 1, .slice none 0 0] → vs3.size = 6 ∧
 (∀ k11 : Nat, k11 < 6 → (∃ v3 : Value, W10.cell? ⟨k, 0 + k11, none⟩ = some v3) ∧ W10.frozen? ⟨k, 0 + k11, none⟩ = false) ∧ ((∀ v4 : Value, v4 ∈ vs3.toList →
 Value.oneCell' v4 = true) ∧ ∀ W11 : World, W11 = W10.setCells k 0 vs3.toList → ∃ vs4 : Array Value, vs4.size = 6 ∧ Sx.cellsAt W11 ⟨k, 0, none⟩ vs4 ∧ Q (.returned (.agg vs4)) W11))))
 (Calls Tryz.prog 60 #[.pointer (some ⟨arg0, arg0o, none⟩), .string ⟨#[91]⟩] W7 (fun e5 => fun W12 => ∃ t2 : Bool, e5 = .returned (.bool t2) ∧ Sx.split t2
 (Calls Tryz.prog 119 #[.pointer (some ⟨arg0, arg0o, none⟩)] W12 (fun e6 => fun W13 => ∃ vs5 : Array Value, e6 = .returned (.agg vs5) ∧
 ∀ k12 : Nat, ∀ W14 : World, k12 = W13.heap.size → W14 = W13.alloc (Obj.cells #[.string ⟨#[]⟩, .string ⟨#[]⟩, .int .i64 0, .int .u32 0, .slice none 0 0, .slice none 0 0] 52) →
 vs5.size = 6 ∧ (∀ k13 : Nat, k13 < 6 → (∃ v5 : Value, W14.cell? ⟨k12, 0 + k13, none⟩ = some v5) ∧ W14.frozen? ⟨k12, 0 + k13, none⟩ = false) ∧ ((∀ v6 : Value, v6 ∈ vs5.toList →
 Value.oneCell' v6 = true) ∧ ∀ W15 : World, W15 = W14.setCells k12 0 vs5.toList → Calls Tryz.prog 64 #[.pointer (some ⟨arg0, arg0o, none⟩), .string ⟨#[93]⟩] W15 (fun e7 => fun W16 =>
 e7 = .returned (.tuple #[]) ∧ Calls Tryz.prog 64 #[.pointer (some ⟨arg0, arg0o, none⟩), .string ⟨#[61]⟩] W16 (fun e8 => fun W17 => e8 = .returned (.tuple #[]) ∧
 ∃ z4 : Int, W17.cell? ⟨k6, 0 + 2, none⟩ = some (.int .i64 z4) ∧ Calls Tryz.prog 118 #[.pointer (some ⟨arg0, arg0o, none⟩), .string ⟨#[112, 117, 116]⟩, .int .i64 z4] W17 (fun e9 =>
 fun W18 => ∃ vs6 : Array Value, e9 = .returned (.agg vs6) ∧ ∀ k14 : Nat, ∀ W19 : World, k14 = W18.heap.size →
 W19 = W18.alloc (Obj.cells #[.string ⟨#[]⟩, .string ⟨#[]⟩, .int .i64 0, .int .u32 0, .slice none 0 0, .slice none 0 0] 52) → vs6.size = 6 ∧ (∀ k15 : Nat, k15 < 6 →
 (∃ v7 : Value, W19.cell? ⟨k14, 0 + k15, none⟩ = some v7) ∧ W19.frozen? ⟨k14, 0 + k15, none⟩ = false) ∧ ((∀ v8 : Value, v8 ∈ vs6.toList → Value.oneCell' v8 = true) ∧
 ∀ W20 : World, W20 = W19.setCells k14 0 vs6.toList → ∀ W21 : World, W21 = World.drew W20 → ∃ vs7 : Array Value, vs7.size = 6 ∧ Sx.cellsAt W21 ⟨k14, 0, none⟩ vs7 ∧
 ∃ z5 : Int, W21.cell? ⟨k6, 0 + 2, none⟩ = some (.int .i64 z5) ∧ ∃ vs8 : Array Value, vs8.size = 6 ∧ Sx.cellsAt W21 ⟨k12, 0, none⟩ vs8 ∧
 Calls Tryz.prog 136 #[.agg vs7] W21 (fun e10 => fun W22 => ∃ vs9 : Array Value, e10 = .returned (.agg vs9) ∧ (∃ vs10 : Array Value, vs10.size = 6 ∧
 Sx.cellsAt W22 ⟨k12, 0, none⟩ vs10 ∧ Value.agg vs10 = Value.agg vs8) ∧ (∃ z6 : Int, W22.cell? ⟨k6, 0 + 2, none⟩ = some (.int .i64 z6) ∧ Value.int .i64 z6 = Value.int .i64 z5) ∧
 vs8.size = 6 ∧ (vs9.size = 6 ∧ ∀ k16 : Nat, ∀ W23 : World, k16 = W22.heap.size → W23 = W22.alloc (Obj.cells (List.toArray (vs8.toList ++ (vs9.toList ++ []))) 52) →
 (∃ z7 : Int, W23.cell? ⟨k6, 0 + 2, none⟩ = some (.int .i64 z7) ∧ Value.int .i64 z7 = Value.int .i64 z5) ∧
 ∀ vs11 : Array Value, vs11 = #[.string ⟨#[112, 117, 116]⟩, .string s, .int .i64 z5, .int .u32 0, .slice (some (Addr.mk k16 0 none)) 2 2, .slice none 0 0] → vs11.size = 6 ∧
 (∀ k17 : Nat, k17 < 6 → (∃ v9 : Value, W23.cell? ⟨k, 0 + k17, none⟩ = some v9) ∧ W23.frozen? ⟨k, 0 + k17, none⟩ = false) ∧ ((∀ v10 : Value, v10 ∈ vs11.toList →
 Value.oneCell' v10 = true) ∧ ∀ W24 : World, W24 = W23.setCells k 0 vs11.toList → ∃ vs12 : Array Value, vs12.size = 6 ∧ Sx.cellsAt W24 ⟨k, 0, none⟩ vs12 ∧
 Q (.returned (.agg vs12)) W24)))))))))) (Calls Tryz.prog 64 #[.pointer (some ⟨arg0, arg0o, none⟩), .string ⟨#[61]⟩] W12 (fun e11 => fun W25 => e11 = .returned (.tuple #[]) ∧
 ∃ z8 : Int, W25.cell? ⟨k6, 0 + 2, none⟩ = some (.int .i64 z8) ∧ Calls Tryz.prog 118 #[.pointer (some ⟨arg0, arg0o, none⟩), .string ⟨#[115, 101, 116]⟩, .int .i64 z8] W25 (fun e12 =>
 fun W26 => ∃ vs13 : Array Value, e12 = .returned (.agg vs13) ∧ ∀ k18 : Nat, ∀ W27 : World, k18 = W26.heap.size →
 W27 = W26.alloc (Obj.cells #[.string ⟨#[]⟩, .string ⟨#[]⟩, .int .i64 0, .int .u32 0, .slice none 0 0, .slice none 0 0] 52) → vs13.size = 6 ∧ (∀ k19 : Nat, k19 < 6 →
 (∃ v11 : Value, W27.cell? ⟨k18, 0 + k19, none⟩ = some v11) ∧ W27.frozen? ⟨k18, 0 + k19, none⟩ = false) ∧ ((∀ v12 : Value, v12 ∈ vs13.toList → Value.oneCell' v12 = true) ∧
 ∀ W28 : World, W28 = W27.setCells k18 0 vs13.toList → (∃ v13 : Value, W28.cell? ⟨k18, 0 + 1, none⟩ = some v13) ∧ (W28.frozen? ⟨k18, 0 + 1, none⟩ = false ∧
 ∀ W29 : World, W29 = W28.setCell ⟨k18, 0 + 1, none⟩ (Value.string s) → ∃ vs14 : Array Value, vs14.size = 6 ∧ Sx.cellsAt W29 ⟨k18, 0, none⟩ vs14 ∧ vs14.size = 6 ∧
 (∀ k20 : Nat, k20 < 6 → (∃ v14 : Value, W29.cell? ⟨k, 0 + k20, none⟩ = some v14) ∧ W29.frozen? ⟨k, 0 + k20, none⟩ = false) ∧ ((∀ v15 : Value, v15 ∈ vs14.toList →
 Value.oneCell' v15 = true) ∧ ∀ W30 : World, W30 = W29.setCells k 0 vs14.toList → ∃ vs15 : Array Value, vs15.size = 6 ∧ Sx.cellsAt W30 ⟨k, 0, none⟩ vs15 ∧
 Q (.returned (.agg vs15)) W30)))))))))))))) :
 Calls Tryz.prog 117 #[.pointer (some ⟨arg0, arg0o, none⟩)] W Q :=
 Sx.sound (pk := [1000052]) Tryz.func117 (.node [] [] 0 .leaf (.node [] [] 0 (.node [] [] 1001012 .leaf .leaf) (.node [] [] 0 .leaf (.node [] [] 0 .leaf (.node [] [] 0 .leaf (.node [] [] 0 .leaf (.node [] [] 0 (.node [] [] 0 .leaf (.node [] [] 0 (.node [] [] 0 .leaf (.node [] [] 0 .leaf (.node [] [] 0 .leaf (.node [] [] 0 .leaf (.node [] [] 0 (.node [] [] 1001006 .leaf .leaf) .leaf))))) .leaf)) .leaf))))))) [Value.pointer (some ⟨arg0, arg0o, none⟩)] rfl (Eq.mp (by kernel_rfl) hVC)
theorem vc136 {W : World} {Q : Ending → World → Prop} (n : Array Value)
 (hVC :
 ∀ k : Nat, ∀ W2 : World, k = W.heap.size → W2 = W.alloc (Obj.cells (Value.cells (Value.agg n)) 52) → ∀ k2 : Nat, ∀ W3 : World, k2 = W2.heap.size →
 W3 = W2.alloc (Obj.cells #[.string ⟨#[]⟩, .string ⟨#[]⟩, .int .i64 0, .int .u32 0, .slice none 0 0, .slice none 0 0] 52) →
 ∃ p : Option Addr, ∃ k3 : Nat, ∃ k4 : Nat, W3.cell? ⟨k, 0 + 4, none⟩ = some (.slice p k3 k4) ∧ Sx.split ((k3 : Int) == 0)
 (∀ vs : Array Value, vs = #[.string ⟨#[]⟩, .string ⟨#[]⟩, .int .i64 0, .int .u32 0, .slice none 0 0, .slice none 0 0] → vs.size = 6 ∧ (∀ k5 : Nat, k5 < 6 →
 (∃ v : Value, W3.cell? ⟨k2, 0 + k5, none⟩ = some v) ∧ W3.frozen? ⟨k2, 0 + k5, none⟩ = false) ∧ ((∀ v2 : Value, v2 ∈ vs.toList → Value.oneCell' v2 = true) ∧
 ∀ W4 : World, W4 = W3.setCells k2 0 vs.toList → ∃ vs2 : Array Value, vs2.size = 6 ∧ Sx.cellsAt W4 ⟨k2, 0, none⟩ vs2 ∧ Q (.returned (.agg vs2)) W4))
 (∃ p2 : Option Addr, ∃ k6 : Nat, ∃ k7 : Nat, W3.cell? ⟨k, 0 + 4, none⟩ = some (.slice p2 k6 k7) ∧ ((0 : Int) ≤ (0 : Int) ∧ (0 : Int) < (k6 : Int)) ∧ Sx.adr p2 (fun k8 => fun k9 =>
 ∃ vs3 : Array Value, vs3.size = 6 ∧ Sx.cellsAt W3 ⟨k8, k9 + 0, none⟩ vs3 ∧ vs3.size = 6 ∧ (∀ k10 : Nat, k10 < 6 → (∃ v3 : Value, W3.cell? ⟨k2, 0 + k10, none⟩ = some v3) ∧
 W3.frozen? ⟨k2, 0 + k10, none⟩ = false) ∧ ((∀ v4 : Value, v4 ∈ vs3.toList → Value.oneCell' v4 = true) ∧ ∀ W5 : World, W5 = W3.setCells k2 0 vs3.toList →
 ∃ vs4 : Array Value, vs4.size = 6 ∧ Sx.cellsAt W5 ⟨k2, 0, none⟩ vs4 ∧ Q (.returned (.agg vs4)) W5)))) :
 Calls Tryz.prog 136 #[.agg n] W Q :=
 Sx.sound (pk := [1000052]) Tryz.func136 .leaf [Value.agg n] rfl (Eq.mp (by kernel_rfl) hVC)
theorem vc29 {W : World} {Q : Ending → World → Prop} (arg0 : Nat) (arg0o : Nat)
 (hVC :
 ∀ k : Nat, ∀ W2 : World, k = W.heap.size → W2 = W.alloc (Obj.cells #[.string ⟨#[]⟩, .string ⟨#[]⟩, .int .i64 0, .int .u32 0, .slice none 0 0, .slice none 0 0] 52) →
 ∃ p : Option Addr, ∃ k2 : Nat, ∃ k3 : Nat, W2.cell? ⟨arg0, arg0o, none⟩ = some (.slice p k2 k3) ∧ ∃ z : Int, W2.cell? ⟨arg0, arg0o + 1, none⟩ = some (.int .i64 z) ∧ ((0 : Int) ≤ z ∧
 z < (k2 : Int)) ∧ Sx.adr p (fun k4 => fun k5 => ∃ z2 : Int, W2.cell? ⟨k4, k5 + Int.toNat z * 3 + 2, none⟩ = some (.int .i64 z2) ∧ ∀ W3 : World, ∀ k6 : Nat, W3 = W2.drewN k6 →
 Calls Tryz.prog 60 #[.pointer (some ⟨arg0, arg0o, none⟩), .string ⟨#[118, 97, 114]⟩] W3 (fun e => fun W4 => ∃ t : Bool, e = .returned (.bool t) ∧ Sx.split t
 (∀ vs : Array Value, vs = #[.string ⟨#[118, 97, 114]⟩, .string ⟨#[]⟩, .int .i64 z2, .int .u32 0, .slice none 0 0, .slice none 0 0] → ∀ k7 : Nat, ∀ W5 : World, k7 = W4.heap.size →
 W5 = W4.alloc (Obj.cells #[.string ⟨#[]⟩, .string ⟨#[]⟩, .int .i64 0, .int .u32 0, .slice none 0 0, .slice none 0 0] 52) → vs.size = 6 ∧ (∀ k8 : Nat, k8 < 6 →
 (∃ v : Value, W5.cell? ⟨k7, 0 + k8, none⟩ = some v) ∧ W5.frozen? ⟨k7, 0 + k8, none⟩ = false) ∧ ((∀ v2 : Value, v2 ∈ vs.toList → Value.oneCell' v2 = true) ∧
 ∀ W6 : World, W6 = W5.setCells k7 0 vs.toList → Calls Tryz.prog 61 #[.pointer (some ⟨arg0, arg0o, none⟩)] W6 (fun e2 => fun W7 => ∃ s : ByteArray, e2 = .returned (.string s) ∧
 (∃ v3 : Value, W7.cell? ⟨k7, 0 + 1, none⟩ = some v3) ∧ (W7.frozen? ⟨k7, 0 + 1, none⟩ = false ∧ ∀ W8 : World, W8 = W7.setCell ⟨k7, 0 + 1, none⟩ (Value.string s) →
 Calls Tryz.prog 60 #[.pointer (some ⟨arg0, arg0o, none⟩), .string ⟨#[91]⟩] W8 (fun e3 => fun W9 => ∃ t2 : Bool, e3 = .returned (.bool t2) ∧ Sx.split t2
 (∃ z3 : Int, W9.cell? ⟨arg0, arg0o + 1, none⟩ = some (.int .i64 z3) ∧ Calls Tryz.prog 62 #[.pointer (some ⟨arg0, arg0o, none⟩)] W9 (fun e4 => fun W10 =>
 ∃ z4 : Int, e4 = .returned (.int .u32 z4) ∧ ∃ z5 : Int, W10.cell? ⟨arg0, arg0o + 3, none⟩ = some (.int .i64 z5) ∧ Sx.split (z5 == 0) (Sx.split (decide (z4 < 1))
 ((∃ v4 : Value, W10.cell? ⟨arg0, arg0o + 1, none⟩ = some v4) ∧ (W10.frozen? ⟨arg0, arg0o + 1, none⟩ = false ∧
 ∀ W11 : World, W11 = W10.setCell ⟨arg0, arg0o + 1, none⟩ (Value.int .i64 z3) → Calls Tryz.prog 63 #[.pointer (some ⟨arg0, arg0o, none⟩), .int .i64 3] W11 (fun e5 => fun W12 =>
 ∃ vs2 : Array Value, e5 = .returned (.agg vs2) ∧ (∃ v5 : Value, W12.cell? ⟨k7, 0 + 3, none⟩ = some v5) ∧ (W12.frozen? ⟨k7, 0 + 3, none⟩ = false ∧
 ∀ W13 : World, W13 = W12.setCell ⟨k7, 0 + 3, none⟩ (Value.int .u32 z4) → Calls Tryz.prog 64 #[.pointer (some ⟨arg0, arg0o, none⟩), .string ⟨#[93]⟩] W13 (fun e6 => fun W14 =>
 e6 = .returned (.tuple #[]) ∧ Calls Tryz.prog 64 #[.pointer (some ⟨arg0, arg0o, none⟩), .string ⟨#[59]⟩] W14 (fun e7 => fun W15 => e7 = .returned (.tuple #[]) ∧
 ∃ vs3 : Array Value, vs3.size = 6 ∧ Sx.cellsAt W15 ⟨k7, 0, none⟩ vs3 ∧ vs3.size = 6 ∧ (∀ k9 : Nat, k9 < 6 → (∃ v6 : Value, W15.cell? ⟨k, 0 + k9, none⟩ = some v6) ∧
 W15.frozen? ⟨k, 0 + k9, none⟩ = false) ∧ ((∀ v7 : Value, v7 ∈ vs3.toList → Value.oneCell' v7 = true) ∧ ∀ W16 : World, W16 = W15.setCells k 0 vs3.toList →
 ∃ vs4 : Array Value, vs4.size = 6 ∧ Sx.cellsAt W16 ⟨k, 0, none⟩ vs4 ∧ Q (.returned (.agg vs4)) W16))))))) (Sx.split (decide (z4 > 256))
 ((∃ v8 : Value, W10.cell? ⟨arg0, arg0o + 1, none⟩ = some v8) ∧ (W10.frozen? ⟨arg0, arg0o + 1, none⟩ = false ∧
 ∀ W17 : World, W17 = W10.setCell ⟨arg0, arg0o + 1, none⟩ (Value.int .i64 z3) → Calls Tryz.prog 63 #[.pointer (some ⟨arg0, arg0o, none⟩), .int .i64 3] W17 (fun e8 => fun W18 =>
 ∃ vs5 : Array Value, e8 = .returned (.agg vs5) ∧ (∃ v9 : Value, W18.cell? ⟨k7, 0 + 3, none⟩ = some v9) ∧ (W18.frozen? ⟨k7, 0 + 3, none⟩ = false ∧
 ∀ W19 : World, W19 = W18.setCell ⟨k7, 0 + 3, none⟩ (Value.int .u32 z4) → Calls Tryz.prog 64 #[.pointer (some ⟨arg0, arg0o, none⟩), .string ⟨#[93]⟩] W19 (fun e9 => fun W20 =>
 e9 = .returned (.tuple #[]) ∧ Calls Tryz.prog 64 #[.pointer (some ⟨arg0, arg0o, none⟩), .string ⟨#[59]⟩] W20 (fun e10 => fun W21 => e10 = .returned (.tuple #[]) ∧
 ∃ vs6 : Array Value, vs6.size = 6 ∧ Sx.cellsAt W21 ⟨k7, 0, none⟩ vs6 ∧ vs6.size = 6 ∧ (∀ k10 : Nat, k10 < 6 → (∃ v10 : Value, W21.cell? ⟨k, 0 + k10, none⟩ = some v10) ∧
 W21.frozen? ⟨k, 0 + k10, none⟩ = false) ∧ ((∀ v11 : Value, v11 ∈ vs6.toList → Value.oneCell' v11 = true) ∧ ∀ W22 : World, W22 = W21.setCells k 0 vs6.toList →
 ∃ vs7 : Array Value, vs7.size = 6 ∧ Sx.cellsAt W22 ⟨k, 0, none⟩ vs7 ∧ Q (.returned (.agg vs7)) W22))))))) ((∃ v12 : Value, W10.cell? ⟨k7, 0 + 3, none⟩ = some v12) ∧
 (W10.frozen? ⟨k7, 0 + 3, none⟩ = false ∧ ∀ W23 : World, W23 = W10.setCell ⟨k7, 0 + 3, none⟩ (Value.int .u32 z4) →
 Calls Tryz.prog 64 #[.pointer (some ⟨arg0, arg0o, none⟩), .string ⟨#[93]⟩] W23 (fun e11 => fun W24 => e11 = .returned (.tuple #[]) ∧
 Calls Tryz.prog 64 #[.pointer (some ⟨arg0, arg0o, none⟩), .string ⟨#[59]⟩] W24 (fun e12 => fun W25 => e12 = .returned (.tuple #[]) ∧ ∃ vs8 : Array Value, vs8.size = 6 ∧
 Sx.cellsAt W25 ⟨k7, 0, none⟩ vs8 ∧ vs8.size = 6 ∧ (∀ k11 : Nat, k11 < 6 → (∃ v13 : Value, W25.cell? ⟨k, 0 + k11, none⟩ = some v13) ∧ W25.frozen? ⟨k, 0 + k11, none⟩ = false) ∧
 ((∀ v14 : Value, v14 ∈ vs8.toList → Value.oneCell' v14 = true) ∧ ∀ W26 : World, W26 = W25.setCells k 0 vs8.toList → ∃ vs9 : Array Value, vs9.size = 6 ∧
 Sx.cellsAt W26 ⟨k, 0, none⟩ vs9 ∧ Q (.returned (.agg vs9)) W26))))))) ((∃ v15 : Value, W10.cell? ⟨k7, 0 + 3, none⟩ = some v15) ∧ (W10.frozen? ⟨k7, 0 + 3, none⟩ = false ∧
 ∀ W27 : World, W27 = W10.setCell ⟨k7, 0 + 3, none⟩ (Value.int .u32 z4) → Calls Tryz.prog 64 #[.pointer (some ⟨arg0, arg0o, none⟩), .string ⟨#[93]⟩] W27 (fun e13 => fun W28 =>
 e13 = .returned (.tuple #[]) ∧ Calls Tryz.prog 64 #[.pointer (some ⟨arg0, arg0o, none⟩), .string ⟨#[59]⟩] W28 (fun e14 => fun W29 => e14 = .returned (.tuple #[]) ∧
 ∃ vs10 : Array Value, vs10.size = 6 ∧ Sx.cellsAt W29 ⟨k7, 0, none⟩ vs10 ∧ vs10.size = 6 ∧ (∀ k12 : Nat, k12 < 6 → (∃ v16 : Value, W29.cell? ⟨k, 0 + k12, none⟩ = some v16) ∧
 W29.frozen? ⟨k, 0 + k12, none⟩ = false) ∧ ((∀ v17 : Value, v17 ∈ vs10.toList → Value.oneCell' v17 = true) ∧ ∀ W30 : World, W30 = W29.setCells k 0 vs10.toList →
 ∃ vs11 : Array Value, vs11.size = 6 ∧ Sx.cellsAt W30 ⟨k, 0, none⟩ vs11 ∧ Q (.returned (.agg vs11)) W30)))))))
 (Calls Tryz.prog 64 #[.pointer (some ⟨arg0, arg0o, none⟩), .string ⟨#[59]⟩] W9 (fun e15 => fun W31 => e15 = .returned (.tuple #[]) ∧ ∃ vs12 : Array Value, vs12.size = 6 ∧
 Sx.cellsAt W31 ⟨k7, 0, none⟩ vs12 ∧ vs12.size = 6 ∧ (∀ k13 : Nat, k13 < 6 → (∃ v18 : Value, W31.cell? ⟨k, 0 + k13, none⟩ = some v18) ∧ W31.frozen? ⟨k, 0 + k13, none⟩ = false) ∧
 ((∀ v19 : Value, v19 ∈ vs12.toList → Value.oneCell' v19 = true) ∧ ∀ W32 : World, W32 = W31.setCells k 0 vs12.toList → ∃ vs13 : Array Value, vs13.size = 6 ∧
 Sx.cellsAt W32 ⟨k, 0, none⟩ vs13 ∧ Q (.returned (.agg vs13)) W32)))))))) (Calls Tryz.prog 64 #[.pointer (some ⟨arg0, arg0o, none⟩), .string ⟨#[102, 117, 110, 99]⟩] W4 (fun e16 =>
 fun W33 => e16 = .returned (.tuple #[]) ∧
 ∀ vs14 : Array Value, vs14 = #[.string ⟨#[102, 117, 110, 99]⟩, .string ⟨#[]⟩, .int .i64 z2, .int .u32 0, .slice none 0 0, .slice none 0 0] →
 ∀ k14 : Nat, ∀ W34 : World, k14 = W33.heap.size → W34 = W33.alloc (Obj.cells #[.string ⟨#[]⟩, .string ⟨#[]⟩, .int .i64 0, .int .u32 0, .slice none 0 0, .slice none 0 0] 52) →
 vs14.size = 6 ∧ (∀ k15 : Nat, k15 < 6 → (∃ v20 : Value, W34.cell? ⟨k14, 0 + k15, none⟩ = some v20) ∧ W34.frozen? ⟨k14, 0 + k15, none⟩ = false) ∧ ((∀ v21 : Value, v21 ∈ vs14.toList →
 Value.oneCell' v21 = true) ∧ ∀ W35 : World, W35 = W34.setCells k14 0 vs14.toList → Calls Tryz.prog 61 #[.pointer (some ⟨arg0, arg0o, none⟩)] W35 (fun e17 => fun W36 =>
 ∃ s2 : ByteArray, e17 = .returned (.string s2) ∧ (∃ v22 : Value, W36.cell? ⟨k14, 0 + 1, none⟩ = some v22) ∧ (W36.frozen? ⟨k14, 0 + 1, none⟩ = false ∧
 ∀ W37 : World, W37 = W36.setCell ⟨k14, 0 + 1, none⟩ (Value.string s2) → Calls Tryz.prog 64 #[.pointer (some ⟨arg0, arg0o, none⟩), .string ⟨#[40]⟩] W37 (fun e18 => fun W38 =>
 e18 = .returned (.tuple #[]) ∧ Calls Tryz.prog 60 #[.pointer (some ⟨arg0, arg0o, none⟩), .string ⟨#[41]⟩] W38 (fun e19 => fun W39 => ∃ t3 : Bool, e19 = .returned (.bool t3) ∧
 ∃ I : Bool → World → Prop, ∃ I2 : Bool → World → Nat, I t3 W39 ∧ ((Nat → Value) → ∀ x : Bool, ∀ W40 : World, I x W40 → Sx.split (!x)
 (∃ z6 : Int, W40.cell? ⟨arg0, arg0o + 3, none⟩ = some (.int .i64 z6) ∧ Sx.split (z6 == 0) (Calls Tryz.prog 61 #[.pointer (some ⟨arg0, arg0o, none⟩)] W40 (fun e20 => fun W41 =>
 ∃ s3 : ByteArray, e20 = .returned (.string s3) ∧ ∃ p2 : Option Addr, ∃ k16 : Nat, ∃ k17 : Nat, W41.cell? ⟨k14, 0 + 5, none⟩ = some (.slice p2 k16 k17) ∧
 ∀ k18 : Nat, ∀ W42 : World, k18 = W41.heap.size → W42 = W41.alloc (Obj.cells #[.string s3] 9) →
 ∃ l : List Value, ∃ l2 : List Value, XHeap.Sl W42 9 1 (Value.slice p2 k16 k17) k16 l ∧ (((1 : Nat) = (0 : Nat) ∧ some (Addr.mk k18 0 none) = none) ∨
 (∃ a : Addr, some (Addr.mk k18 0 none) = some a ∧ ∀ k19 : Nat, ∀ v23 : Value, l2[k19]? = some v23 → W42.cell? (Addr.add a k19) = some v23)) ∧ List.length l2 = 1 ∧
 (∀ v24 : Value, v24 ∈ l2 → Value.oneCell' v24 = true) ∧ k16 + 1 ≤ maxLen ∧ ((k16 + 1) * 16 ≤ 140737488355328 ∧
 ∀ p3 : Option Addr, ∀ k20 : Nat, ∀ W43 : World, XHeap.Sl W43 9 1 (Value.slice p3 (k16 + 1) k20) (k16 + 1) (l ++ l2) →
 XHeap.XTouch (fun b => Value.ownBlock (Value.slice p2 k16 k17) = some b) W42 W43 → (∀ k21 : Nat, Value.ownBlock (Value.slice p3 (k16 + 1) k20) = some k21 →
 (Value.ownBlock (Value.slice p2 k16 k17) = some k21) ∨ (W42.heap.size ≤ k21)) → XHeap.Sl W43 9 1 (Value.slice p2 k16 k17) k16 l → ((p3 = p2 ∧ k20 = k17) ∨ (((XHeap.NilP p2) ∨
 (k17 < k16 + 1)) ∧ ∀ k22 : Nat, Value.ownBlock (Value.slice p3 (k16 + 1) k20) = some k22 → W42.heap.size ≤ k22)) → (∃ v25 : Value, W43.cell? ⟨k14, 0 + 5, none⟩ = some v25) ∧
 (W43.frozen? ⟨k14, 0 + 5, none⟩ = false ∧ ∀ W44 : World, W44 = W43.setCell ⟨k14, 0 + 5, none⟩ (Value.slice p3 (k16 + 1) k20) →
 ∃ p4 : Option Addr, ∃ k23 : Nat, ∃ k24 : Nat, W44.cell? ⟨k14, 0 + 5, none⟩ = some (.slice p4 k23 k24) ∧ Sx.split (decide ((k23 : Int) > 6))
 (∃ z7 : Int, W44.cell? ⟨arg0, arg0o + 1, none⟩ = some (.int .i64 z7) ∧ ∀ z8 : Int, z8 = IntKind.wrap .i64 (z7 - 1) → (∃ v26 : Value, W44.cell? ⟨arg0, arg0o + 1, none⟩ = some v26) ∧
 (W44.frozen? ⟨arg0, arg0o + 1, none⟩ = false ∧ ∀ W45 : World, W45 = W44.setCell ⟨arg0, arg0o + 1, none⟩ (Value.int .i64 z8) →
 Calls Tryz.prog 63 #[.pointer (some ⟨arg0, arg0o, none⟩), .int .i64 3] W45 (fun e21 => fun W46 => ∃ vs15 : Array Value, e21 = .returned (.agg vs15) ∧
 Calls Tryz.prog 60 #[.pointer (some ⟨arg0, arg0o, none⟩), .string ⟨#[41]⟩] W46 (fun e22 => fun W47 => ∃ t4 : Bool, e22 = .returned (.bool t4) ∧ Sx.split (!t4)
 (Calls Tryz.prog 64 #[.pointer (some ⟨arg0, arg0o, none⟩), .string ⟨#[44]⟩] W47 (fun e23 => fun W48 => e23 = .returned (.tuple #[]) ∧ I t4 W48 ∧ I2 t4 W48 < I2 x W40)) (I t4 W47 ∧
 I2 t4 W47 < I2 x W40))))) (Calls Tryz.prog 60 #[.pointer (some ⟨arg0, arg0o, none⟩), .string ⟨#[41]⟩] W44 (fun e24 => fun W49 => ∃ t5 : Bool, e24 = .returned (.bool t5) ∧
 Sx.split (!t5) (Calls Tryz.prog 64 #[.pointer (some ⟨arg0, arg0o, none⟩), .string ⟨#[44]⟩] W49 (fun e25 => fun W50 => e25 = .returned (.tuple #[]) ∧ I t5 W50 ∧
 I2 t5 W50 < I2 x W40)) (I t5 W49 ∧ I2 t5 W49 < I2 x W40))))))) (Calls Tryz.prog 65 #[.pointer (some ⟨arg0, arg0o, none⟩)] W40 (fun e26 => fun W51 =>
 ∃ vs16 : Array Value, e26 = .returned (.agg vs16) ∧ ∀ k25 : Nat, ∀ W52 : World, k25 = W51.heap.size →
 W52 = W51.alloc (Obj.cells #[.string ⟨#[]⟩, .string ⟨#[]⟩, .int .i64 0, .int .u32 0, .slice none 0 0, .slice none 0 0] 52) → vs16.size = 6 ∧ (∀ k26 : Nat, k26 < 6 →
 (∃ v27 : Value, W52.cell? ⟨k25, 0 + k26, none⟩ = some v27) ∧ W52.frozen? ⟨k25, 0 + k26, none⟩ = false) ∧ ((∀ v28 : Value, v28 ∈ vs16.toList → Value.oneCell' v28 = true) ∧
 ∀ W53 : World, W53 = W52.setCells k25 0 vs16.toList → ∃ vs17 : Array Value, vs17.size = 6 ∧ Sx.cellsAt W53 ⟨k25, 0, none⟩ vs17 ∧ (vs17.size = 6 ∧
 ∀ k27 : Nat, ∀ W54 : World, k27 = W53.heap.size → W54 = W53.alloc (Obj.cells (List.toArray (vs17.toList ++ [])) 52) → (∃ v29 : Value, W54.cell? ⟨k14, 0 + 4, none⟩ = some v29) ∧
 (W54.frozen? ⟨k14, 0 + 4, none⟩ = false ∧ ∀ W55 : World, W55 = W54.setCell ⟨k14, 0 + 4, none⟩ (Value.slice (some (Addr.mk k27 0 none)) 1 1) → ∃ vs18 : Array Value, vs18.size = 6 ∧
 Sx.cellsAt W55 ⟨k14, 0, none⟩ vs18 ∧ vs18.size = 6 ∧ (∀ k28 : Nat, k28 < 6 → (∃ v30 : Value, W55.cell? ⟨k, 0 + k28, none⟩ = some v30) ∧ W55.frozen? ⟨k, 0 + k28, none⟩ = false) ∧
 ((∀ v31 : Value, v31 ∈ vs18.toList → Value.oneCell' v31 = true) ∧ ∀ W56 : World, W56 = W55.setCells k 0 vs18.toList → ∃ vs19 : Array Value, vs19.size = 6 ∧
 Sx.cellsAt W56 ⟨k, 0, none⟩ vs19 ∧ Q (.returned (.agg vs19)) W56))))))) (Calls Tryz.prog 65 #[.pointer (some ⟨arg0, arg0o, none⟩)] W40 (fun e27 => fun W57 =>
 ∃ vs20 : Array Value, e27 = .returned (.agg vs20) ∧ ∀ k29 : Nat, ∀ W58 : World, k29 = W57.heap.size →
 W58 = W57.alloc (Obj.cells #[.string ⟨#[]⟩, .string ⟨#[]⟩, .int .i64 0, .int .u32 0, .slice none 0 0, .slice none 0 0] 52) → vs20.size = 6 ∧ (∀ k30 : Nat, k30 < 6 →
 (∃ v32 : Value, W58.cell? ⟨k29, 0 + k30, none⟩ = some v32) ∧ W58.frozen? ⟨k29, 0 + k30, none⟩ = false) ∧ ((∀ v33 : Value, v33 ∈ vs20.toList → Value.oneCell' v33 = true) ∧
 ∀ W59 : World, W59 = W58.setCells k29 0 vs20.toList → ∃ vs21 : Array Value, vs21.size = 6 ∧ Sx.cellsAt W59 ⟨k29, 0, none⟩ vs21 ∧ (vs21.size = 6 ∧
 ∀ k31 : Nat, ∀ W60 : World, k31 = W59.heap.size → W60 = W59.alloc (Obj.cells (List.toArray (vs21.toList ++ [])) 52) → (∃ v34 : Value, W60.cell? ⟨k14, 0 + 4, none⟩ = some v34) ∧
 (W60.frozen? ⟨k14, 0 + 4, none⟩ = false ∧ ∀ W61 : World, W61 = W60.setCell ⟨k14, 0 + 4, none⟩ (Value.slice (some (Addr.mk k31 0 none)) 1 1) → ∃ vs22 : Array Value, vs22.size = 6 ∧
 Sx.cellsAt W61 ⟨k14, 0, none⟩ vs22 ∧ vs22.size = 6 ∧ (∀ k32 : Nat, k32 < 6 → (∃ v35 : Value, W61.cell? ⟨k, 0 + k32, none⟩ = some v35) ∧ W61.frozen? ⟨k, 0 + k32, none⟩ = false) ∧
 ((∀ v36 : Value, v36 ∈ vs22.toList → Value.oneCell' v36 = true) ∧ ∀ W62 : World, W62 = W61.setCells k 0 vs22.toList → ∃ vs23 : Array Value, vs23.size = 6 ∧
 Sx.cellsAt W62 ⟨k, 0, none⟩ vs23 ∧ Q (.returned (.agg vs23)) W62))))))))))))))))) :
 Calls Tryz.prog 29 #[.pointer (some ⟨arg0, arg0o, none⟩)] W Q :=
 Sx.sound (pk := [1000052]) Tryz.func29 (.node [] [] 0 .leaf (.node [] [] 0 .leaf (.node [] [] 0 .leaf (.node [] [] 0 .leaf (.node [] [] 0 .leaf (.node [] [] 0 .leaf (.node [] [] 0 .leaf (.node [] [] 0 .leaf (.node [] [] 0 .leaf (.node [] [] 0 (.node [] [] 0 (.node [(10, .bool)] [0, 9, 2] 0 .leaf .leaf) .leaf) .leaf)))))))))) [Value.pointer (some ⟨arg0, arg0o, none⟩)] rfl (Eq.mp (by kernel_rfl) hVC)
theorem vc13 {W : World} {Q : Ending → World → Prop} (text : ByteArray)
 (hVC :
 Sx.split (decide ((↑(ByteArray.size text) : Int) > 8000)) (Q (.returned (.tuple #[.slice none 0 0, .int .i64 0, .int .i64 1])) W) (Calls Tryz.prog 28 #[.string text] W (fun e =>
 fun W2 => ∃ p : Option Addr, ∃ k : Nat, ∃ k2 : Nat, e = .returned (.slice p k k2) ∧ ∀ vs : Array Value, vs = #[.slice p k k2, .int .i64 0, .int .i64 0, .int .i64 0, .int .i64 0] →
 ∀ k3 : Nat, ∀ W3 : World, k3 = W2.heap.size → W3 = W2.alloc (Obj.cells (Value.cells (Value.agg vs)) 94) →
 ∃ I : Option Addr → Nat → Nat → World → Prop, ∃ I2 : Option Addr → Nat → Nat → World → Nat, I none 0 0 W3 ∧ ((Nat → Value) →
 ∀ l : Option Addr, ∀ k4 : Nat, ∀ k5 : Nat, ∀ W4 : World, I l k4 k5 W4 → ∃ z : Int, W4.cell? ⟨k3, 0 + 3, none⟩ = some (.int .i64 z) ∧ Sx.split (z == 0)
 (∃ p2 : Option Addr, ∃ k6 : Nat, ∃ k7 : Nat, W4.cell? ⟨k3, 0, none⟩ = some (.slice p2 k6 k7) ∧ ∃ z2 : Int, W4.cell? ⟨k3, 0 + 1, none⟩ = some (.int .i64 z2) ∧ ((0 : Int) ≤ z2 ∧
 z2 < (k6 : Int)) ∧ Sx.adr p2 (fun k8 => fun k9 => ∃ z3 : Int, W4.cell? ⟨k8, k9 + Int.toNat z2 * 3, none⟩ = some (.int .u8 z3) ∧ ∀ W5 : World, ∀ k10 : Nat, W5 = W4.drewN k10 →
 Sx.split (z3 != 101) (Calls Tryz.prog 29 #[.pointer (some ⟨k3, 0, none⟩)] W5 (fun e2 => fun W6 => ∃ vs2 : Array Value, e2 = .returned (.agg vs2) ∧
 ∀ k11 : Nat, ∀ W7 : World, k11 = W6.heap.size → W7 = W6.alloc (Obj.cells #[.string ⟨#[]⟩, .string ⟨#[]⟩, .int .i64 0, .int .u32 0, .slice none 0 0, .slice none 0 0] 52) →
 vs2.size = 6 ∧ (∀ k12 : Nat, k12 < 6 → (∃ v : Value, W7.cell? ⟨k11, 0 + k12, none⟩ = some v) ∧ W7.frozen? ⟨k11, 0 + k12, none⟩ = false) ∧ ((∀ v2 : Value, v2 ∈ vs2.toList →
 Value.oneCell' v2 = true) ∧ ∀ W8 : World, W8 = W7.setCells k11 0 vs2.toList → ∃ vs3 : Array Value, vs3.size = 6 ∧ Sx.cellsAt W8 ⟨k11, 0, none⟩ vs3 ∧ (vs3.size = 6 ∧
 ∀ k13 : Nat, ∀ W9 : World, k13 = W8.heap.size → W9 = W8.alloc (Obj.cells (List.toArray (vs3.toList ++ [])) 52) →
 ∃ l2 : List Value, ∃ l3 : List Value, XHeap.Sl W9 52 6 (Value.slice l k4 k5) k4 l2 ∧ (((1 : Nat) = (0 : Nat) ∧ some (Addr.mk k13 0 none) = none) ∨
 (∃ a : Addr, some (Addr.mk k13 0 none) = some a ∧ ∀ k14 : Nat, ∀ v3 : Value, l3[k14]? = some v3 → W9.cell? (Addr.add a k14) = some v3)) ∧ List.length l3 = 6 ∧
 (∀ v4 : Value, v4 ∈ l3 → Value.oneCell' v4 = true) ∧ k4 + 1 ≤ maxLen ∧ ((k4 + 1) * 96 ≤ 140737488355328 ∧
 ∀ p3 : Option Addr, ∀ k15 : Nat, ∀ W10 : World, XHeap.Sl W10 52 6 (Value.slice p3 (k4 + 1) k15) (k4 + 1) (l2 ++ l3) →
 XHeap.XTouch (fun b => Value.ownBlock (Value.slice l k4 k5) = some b) W9 W10 → (∀ k16 : Nat, Value.ownBlock (Value.slice p3 (k4 + 1) k15) = some k16 →
 (Value.ownBlock (Value.slice l k4 k5) = some k16) ∨ (W9.heap.size ≤ k16)) → XHeap.Sl W10 52 6 (Value.slice l k4 k5) k4 l2 → ((p3 = l ∧ k15 = k5) ∨ (((XHeap.NilP l) ∨
 (k5 < k4 + 1)) ∧ ∀ k17 : Nat, Value.ownBlock (Value.slice p3 (k4 + 1) k15) = some k17 → W9.heap.size ≤ k17)) → I p3 (k4 + 1) k15 W10 ∧ I2 p3 (k4 + 1) k15 W10 < I2 l k4 k5 W4)))))
 (∃ z4 : Int, W5.cell? ⟨k3, 0 + 3, none⟩ = some (.int .i64 z4) ∧ Sx.split (z4 != 0) (∃ z5 : Int, W5.cell? ⟨k3, 0 + 2, none⟩ = some (.int .i64 z5) ∧
 ∃ z6 : Int, W5.cell? ⟨k3, 0 + 3, none⟩ = some (.int .i64 z6) ∧ ∀ W11 : World, ∀ k18 : Nat, W11 = W5.drewN k18 →
 Q (.returned (.tuple #[.slice none 0 0, .int .i64 z5, .int .i64 z6])) W11) (Q (.returned (.tuple #[.slice l k4 k5, .int .i64 0, .int .i64 0])) W5))))
 (∀ W12 : World, ∀ k19 : Nat, W12 = W4.drewN k19 → ∃ z7 : Int, W12.cell? ⟨k3, 0 + 3, none⟩ = some (.int .i64 z7) ∧ Sx.split (z7 != 0)
 (∃ z8 : Int, W12.cell? ⟨k3, 0 + 2, none⟩ = some (.int .i64 z8) ∧ ∃ z9 : Int, W12.cell? ⟨k3, 0 + 3, none⟩ = some (.int .i64 z9) ∧ ∀ W13 : World, ∀ k20 : Nat, W13 = W12.drewN k20 →
 Q (.returned (.tuple #[.slice none 0 0, .int .i64 z8, .int .i64 z9])) W13) (Q (.returned (.tuple #[.slice l k4 k5, .int .i64 0, .int .i64 0])) W12)))))) :
 Calls Tryz.prog 13 #[.string text] W Q :=
 Sx.sound (pk := [1000052]) Tryz.func13 (.node [] [] 0 .leaf (.node [] [] 0 .leaf (.node [] [] 0 .leaf (.node [] [] 0 .leaf (.node [] [] 0 (.node [] [] 0 (.node [(6, .slice)] [5] 0 .leaf .leaf) .leaf) .leaf))))) [Value.string text] rfl (Eq.mp (by kernel_rfl) hVC)
end Go.Proofs.YtojogkljneonmaaGreatDoor
