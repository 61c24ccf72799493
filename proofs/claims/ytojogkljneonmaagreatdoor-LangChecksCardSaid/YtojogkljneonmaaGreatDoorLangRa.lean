/- What each function asks, reckoned out of its text; printed by a program of mine (wip/tpl/VcTool.lean). No condition. -/
import Derived.Test.YtojogkljneonmaaGreatDoorSxB
import Derived.Test.YtojogkljneonmaaGreatDoorChecked
namespace Go.Proofs.YtojogkljneonmaaGreatDoor
open Go Go.Proofs
set_option linter.unusedVariables false
set_option maxRecDepth 100000
theorem vc98 {W : World} {Q : Ending → World → Prop} (c : Int)
 (hVC :
 Sx.split (decide (c ≥ 97)) (Sx.split (decide (c ≤ 122)) (Q (.returned (.bool true)) W) (Q (.returned (.bool (c == 95))) W)) (Q (.returned (.bool (c == 95))) W)) :
 Calls Tryz.prog 98 #[.int .u8 c] W Q :=
 Sx.sound (pk := [1000052]) Tryz.func98 .leaf [Value.int .u8 c] rfl (Eq.mp (by kernel_rfl) hVC)
theorem vc99 {W : World} {Q : Ending → World → Prop} (c : Int)
 (hVC :
 Sx.split (decide (c ≥ 48)) (Q (.returned (.bool (decide (c ≤ 57)))) W) (Q (.returned (.bool false)) W)) :
 Calls Tryz.prog 99 #[.int .u8 c] W Q :=
 Sx.sound (pk := [1000052]) Tryz.func99 .leaf [Value.int .u8 c] rfl (Eq.mp (by kernel_rfl) hVC)
theorem vc100 {W : World} {Q : Ending → World → Prop} (s : ByteArray)
 (hVC :
 ∀ k : Nat, ∀ W2 : World, k = W.heap.size →
 W2 = W.alloc (Obj.cells #[.string ⟨#[118, 97, 114]⟩, .string ⟨#[102, 117, 110, 99]⟩, .string ⟨#[108, 101, 116]⟩, .string ⟨#[105, 102]⟩, .string ⟨#[101, 108, 115, 101]⟩, .string ⟨#[119, 104, 105, 108, 101]⟩, .string ⟨#[114, 101, 116, 117, 114, 110]⟩, .string ⟨#[112, 114, 105, 110, 116]⟩] 9) →
 ∃ I : Int → World → Prop, ∃ I2 : Int → World → Nat, I 0 W2 ∧ ((Nat → Value) → ∀ i : Int, ∀ W3 : World, I i W3 → Sx.split (decide (i < (8 : Int))) (((0 : Int) ≤ i ∧ i < (8 : Int)) ∧
 ∃ s2 : ByteArray, W3.cell? ⟨k, 0 + Int.toNat i * 1, none⟩ = some (.string s2) ∧ Sx.split (ByteArray.toList s2 == ByteArray.toList s) (Q (.returned (.bool true)) W3)
 (∀ z : Int, z = IntKind.wrap .i64 (i + 1) → I z W3 ∧ I2 z W3 < I2 i W3)) (Q (.returned (.bool false)) W3))) :
 Calls Tryz.prog 100 #[.string s] W Q :=
 Sx.sound (pk := [1000052]) Tryz.func100 (.node [] [] 0 .leaf (.node [] [] 0 .leaf (.node [] [] 0 (.node [] [] 0 .leaf (.node [] [] 0 (.node [(4, .int .i64)] [3, 0] 0 .leaf .leaf) .leaf)) .leaf))) [Value.string s] rfl (Eq.mp (by kernel_rfl) hVC)
theorem vc59 {W : World} {Q : Ending → World → Prop} (arg0 : ByteArray)
 (hVC :
 ∃ I : Int → World → Prop, ∃ I2 : Int → World → Nat, I 0 W ∧ ((Nat → Value) → ∀ x : Int, ∀ W2 : World, I x W2 → Sx.split (decide (x < (↑(ByteArray.size arg0) : Int)))
 (∃ b : UInt8, (0 : Int) ≤ x ∧ arg0[Int.toNat x]? = some b ∧ Calls Tryz.prog 98 #[.int .u8 (↑(UInt8.toNat b) : Int)] W2 (fun e => fun W3 => ∃ t : Bool, e = .returned (.bool t) ∧
 ∃ b2 : UInt8, (0 : Int) ≤ x ∧ arg0[Int.toNat x]? = some b2 ∧ Calls Tryz.prog 99 #[.int .u8 (↑(UInt8.toNat b2) : Int)] W3 (fun e2 => fun W4 =>
 ∃ t2 : Bool, e2 = .returned (.bool t2) ∧ Sx.split (!t) (Sx.split (!t2) (Sx.split (decide (x > 0)) (∃ b3 : UInt8, (0 : Int) ≤ (0 : Int) ∧ arg0[0]? = some b3 ∧
 Calls Tryz.prog 99 #[.int .u8 (↑(UInt8.toNat b3) : Int)] W4 (fun e3 => fun W5 => ∃ t3 : Bool, e3 = .returned (.bool t3) ∧ Sx.split (!t3) ((0 : Int) ≤ x ∧ ((0 : Nat) ≤ Int.toNat x ∧
 Int.toNat x ≤ ByteArray.size arg0) ∧ Calls Tryz.prog 100 #[.string (ByteArray.extract arg0 0 (Int.toNat x))] W5 (fun e4 => fun W6 => ∃ t4 : Bool, e4 = .returned (.bool t4) ∧
 Sx.split t4 (Q (.returned (.tuple #[.int .u8 107, .int .i64 x])) W6) (Q (.returned (.tuple #[.int .u8 110, .int .i64 x])) W6)))
 (∃ I3 : Int → World → Prop, ∃ I4 : Int → World → Nat, I3 0 W5 ∧ ((Nat → Value) → ∀ x2 : Int, ∀ W7 : World, I3 x2 W7 → Sx.split (decide (x2 < x)) (∃ b4 : UInt8, (0 : Int) ≤ x2 ∧
 arg0[Int.toNat x2]? = some b4 ∧ Calls Tryz.prog 99 #[.int .u8 (↑(UInt8.toNat b4) : Int)] W7 (fun e5 => fun W8 => ∃ t5 : Bool, e5 = .returned (.bool t5) ∧ Sx.split (!t5)
 (Q (.returned (.tuple #[.int .u8 120, .int .i64 x])) W8) (∀ z : Int, z = IntKind.wrap .i64 (x2 + 1) → I3 z W8 ∧ I4 z W8 < I4 x2 W7)))
 (Q (.returned (.tuple #[.int .u8 100, .int .i64 x])) W7))))) (∀ k : Nat, ∀ W9 : World, k = W4.heap.size →
 W9 = W4.alloc (Obj.cells #[.string ⟨#[124, 124]⟩, .string ⟨#[38, 38]⟩, .string ⟨#[61, 61]⟩, .string ⟨#[33, 61]⟩, .string ⟨#[60, 61]⟩, .string ⟨#[62, 61]⟩, .string ⟨#[60, 60]⟩, .string ⟨#[62, 62]⟩] 9) →
 ∃ I5 : Int → World → Prop, ∃ I6 : Int → World → Nat, I5 0 W9 ∧ ((Nat → Value) → ∀ x3 : Int, ∀ W10 : World, I5 x3 W10 → Sx.split (decide (x3 < (8 : Int)))
 (Sx.split (decide ((↑(ByteArray.size arg0) : Int) > 1)) ((0 : Int) ≤ (2 : Int) ∧ ((0 : Nat) ≤ (2 : Nat) ∧ (2 : Nat) ≤ ByteArray.size arg0) ∧ (((0 : Int) ≤ x3 ∧ x3 < (8 : Int)) ∧
 ∃ s : ByteArray, W10.cell? ⟨k, 0 + Int.toNat x3 * 1, none⟩ = some (.string s) ∧ ∀ W11 : World, ∀ k2 : Nat, W11 = W10.drewN k2 →
 Sx.split (ByteArray.toList (ByteArray.extract arg0 0 2) == ByteArray.toList s) (Q (.returned (.tuple #[.int .u8 107, .int .i64 2])) W11)
 (∀ z2 : Int, z2 = IntKind.wrap .i64 (x3 + 1) → I5 z2 W11 ∧ I6 z2 W11 < I6 x3 W10))) (∃ I7 : Int → World → Prop, ∃ I8 : Int → World → Nat, I7 0 W10 ∧ ((Nat → Value) →
 ∀ x4 : Int, ∀ W12 : World, I7 x4 W12 →
 Sx.split (decide (x4 < (↑(ByteArray.size (ByteArray.mk #[124, 94, 38, 60, 62, 43, 45, 42, 47, 37, 33, 126, 40, 41, 91, 93, 123, 125, 44, 59, 61])) : Int)))
 (∃ b5 : UInt8, (0 : Int) ≤ (0 : Int) ∧ arg0[0]? = some b5 ∧ ∃ b6 : UInt8, (0 : Int) ≤ x4 ∧
 ((ByteArray.mk #[124, 94, 38, 60, 62, 43, 45, 42, 47, 37, 33, 126, 40, 41, 91, 93, 123, 125, 44, 59, 61])[Int.toNat x4]? = some b6 ∧ ∀ W13 : World, ∀ k3 : Nat, W13 = W12.drewN k3 →
 Sx.split ((↑(UInt8.toNat b5) : Int) == (↑(UInt8.toNat b6) : Int)) (Q (.returned (.tuple #[.int .u8 107, .int .i64 1])) W13) (∀ z3 : Int, z3 = IntKind.wrap .i64 (x4 + 1) →
 I7 z3 W13 ∧ I8 z3 W13 < I8 x4 W12))) (Q (.returned (.tuple #[.int .u8 120, .int .i64 1])) W12)))) (∃ I9 : Int → World → Prop, ∃ I10 : Int → World → Nat, I9 0 W10 ∧ ((Nat → Value) →
 ∀ x5 : Int, ∀ W14 : World, I9 x5 W14 →
 Sx.split (decide (x5 < (↑(ByteArray.size (ByteArray.mk #[124, 94, 38, 60, 62, 43, 45, 42, 47, 37, 33, 126, 40, 41, 91, 93, 123, 125, 44, 59, 61])) : Int)))
 (∃ b7 : UInt8, (0 : Int) ≤ (0 : Int) ∧ arg0[0]? = some b7 ∧ ∃ b8 : UInt8, (0 : Int) ≤ x5 ∧
 ((ByteArray.mk #[124, 94, 38, 60, 62, 43, 45, 42, 47, 37, 33, 126, 40, 41, 91, 93, 123, 125, 44, 59, 61])[Int.toNat x5]? = some b8 ∧ ∀ W15 : World, ∀ k4 : Nat, W15 = W14.drewN k4 →
 Sx.split ((↑(UInt8.toNat b7) : Int) == (↑(UInt8.toNat b8) : Int)) (Q (.returned (.tuple #[.int .u8 107, .int .i64 1])) W15) (∀ z4 : Int, z4 = IntKind.wrap .i64 (x5 + 1) →
 I9 z4 W15 ∧ I10 z4 W15 < I10 x5 W14))) (Q (.returned (.tuple #[.int .u8 120, .int .i64 1])) W14)))))) (∀ z5 : Int, z5 = IntKind.wrap .i64 (x + 1) → I z5 W4 ∧ I2 z5 W4 < I2 x W2))
 (∀ z6 : Int, z6 = IntKind.wrap .i64 (x + 1) → I z6 W4 ∧ I2 z6 W4 < I2 x W2)))) (Sx.split (decide (x > 0)) (∃ b9 : UInt8, (0 : Int) ≤ (0 : Int) ∧ arg0[0]? = some b9 ∧
 Calls Tryz.prog 99 #[.int .u8 (↑(UInt8.toNat b9) : Int)] W2 (fun e6 => fun W16 => ∃ t6 : Bool, e6 = .returned (.bool t6) ∧ Sx.split (!t6) ((0 : Int) ≤ x ∧ ((0 : Nat) ≤ Int.toNat x ∧
 Int.toNat x ≤ ByteArray.size arg0) ∧ Calls Tryz.prog 100 #[.string (ByteArray.extract arg0 0 (Int.toNat x))] W16 (fun e7 => fun W17 => ∃ t7 : Bool, e7 = .returned (.bool t7) ∧
 Sx.split t7 (Q (.returned (.tuple #[.int .u8 107, .int .i64 x])) W17) (Q (.returned (.tuple #[.int .u8 110, .int .i64 x])) W17)))
 (∃ I11 : Int → World → Prop, ∃ I12 : Int → World → Nat, I11 0 W16 ∧ ((Nat → Value) → ∀ x6 : Int, ∀ W18 : World, I11 x6 W18 → Sx.split (decide (x6 < x))
 (∃ b10 : UInt8, (0 : Int) ≤ x6 ∧ arg0[Int.toNat x6]? = some b10 ∧ Calls Tryz.prog 99 #[.int .u8 (↑(UInt8.toNat b10) : Int)] W18 (fun e8 => fun W19 =>
 ∃ t8 : Bool, e8 = .returned (.bool t8) ∧ Sx.split (!t8) (Q (.returned (.tuple #[.int .u8 120, .int .i64 x])) W19) (∀ z7 : Int, z7 = IntKind.wrap .i64 (x6 + 1) → I11 z7 W19 ∧
 I12 z7 W19 < I12 x6 W18))) (Q (.returned (.tuple #[.int .u8 100, .int .i64 x])) W18))))) (∀ k5 : Nat, ∀ W20 : World, k5 = W2.heap.size →
 W20 = W2.alloc (Obj.cells #[.string ⟨#[124, 124]⟩, .string ⟨#[38, 38]⟩, .string ⟨#[61, 61]⟩, .string ⟨#[33, 61]⟩, .string ⟨#[60, 61]⟩, .string ⟨#[62, 61]⟩, .string ⟨#[60, 60]⟩, .string ⟨#[62, 62]⟩] 9) →
 ∃ I13 : Int → World → Prop, ∃ I14 : Int → World → Nat, I13 0 W20 ∧ ((Nat → Value) → ∀ x7 : Int, ∀ W21 : World, I13 x7 W21 → Sx.split (decide (x7 < (8 : Int)))
 (Sx.split (decide ((↑(ByteArray.size arg0) : Int) > 1)) ((0 : Int) ≤ (2 : Int) ∧ ((0 : Nat) ≤ (2 : Nat) ∧ (2 : Nat) ≤ ByteArray.size arg0) ∧ (((0 : Int) ≤ x7 ∧ x7 < (8 : Int)) ∧
 ∃ s2 : ByteArray, W21.cell? ⟨k5, 0 + Int.toNat x7 * 1, none⟩ = some (.string s2) ∧ ∀ W22 : World, ∀ k6 : Nat, W22 = W21.drewN k6 →
 Sx.split (ByteArray.toList (ByteArray.extract arg0 0 2) == ByteArray.toList s2) (Q (.returned (.tuple #[.int .u8 107, .int .i64 2])) W22)
 (∀ z8 : Int, z8 = IntKind.wrap .i64 (x7 + 1) → I13 z8 W22 ∧ I14 z8 W22 < I14 x7 W21))) (∃ I15 : Int → World → Prop, ∃ I16 : Int → World → Nat, I15 0 W21 ∧ ((Nat → Value) →
 ∀ x8 : Int, ∀ W23 : World, I15 x8 W23 →
 Sx.split (decide (x8 < (↑(ByteArray.size (ByteArray.mk #[124, 94, 38, 60, 62, 43, 45, 42, 47, 37, 33, 126, 40, 41, 91, 93, 123, 125, 44, 59, 61])) : Int)))
 (∃ b11 : UInt8, (0 : Int) ≤ (0 : Int) ∧ arg0[0]? = some b11 ∧ ∃ b12 : UInt8, (0 : Int) ≤ x8 ∧
 ((ByteArray.mk #[124, 94, 38, 60, 62, 43, 45, 42, 47, 37, 33, 126, 40, 41, 91, 93, 123, 125, 44, 59, 61])[Int.toNat x8]? = some b12 ∧ ∀ W24 : World, ∀ k7 : Nat, W24 = W23.drewN k7 →
 Sx.split ((↑(UInt8.toNat b11) : Int) == (↑(UInt8.toNat b12) : Int)) (Q (.returned (.tuple #[.int .u8 107, .int .i64 1])) W24) (∀ z9 : Int, z9 = IntKind.wrap .i64 (x8 + 1) →
 I15 z9 W24 ∧ I16 z9 W24 < I16 x8 W23))) (Q (.returned (.tuple #[.int .u8 120, .int .i64 1])) W23)))) (∃ I17 : Int → World → Prop, ∃ I18 : Int → World → Nat, I17 0 W21 ∧
 ((Nat → Value) → ∀ x9 : Int, ∀ W25 : World, I17 x9 W25 →
 Sx.split (decide (x9 < (↑(ByteArray.size (ByteArray.mk #[124, 94, 38, 60, 62, 43, 45, 42, 47, 37, 33, 126, 40, 41, 91, 93, 123, 125, 44, 59, 61])) : Int)))
 (∃ b13 : UInt8, (0 : Int) ≤ (0 : Int) ∧ arg0[0]? = some b13 ∧ ∃ b14 : UInt8, (0 : Int) ≤ x9 ∧
 ((ByteArray.mk #[124, 94, 38, 60, 62, 43, 45, 42, 47, 37, 33, 126, 40, 41, 91, 93, 123, 125, 44, 59, 61])[Int.toNat x9]? = some b14 ∧ ∀ W26 : World, ∀ k8 : Nat, W26 = W25.drewN k8 →
 Sx.split ((↑(UInt8.toNat b13) : Int) == (↑(UInt8.toNat b14) : Int)) (Q (.returned (.tuple #[.int .u8 107, .int .i64 1])) W26) (∀ z10 : Int, z10 = IntKind.wrap .i64 (x9 + 1) →
 I17 z10 W26 ∧ I18 z10 W26 < I18 x9 W25))) (Q (.returned (.tuple #[.int .u8 120, .int .i64 1])) W25)))))))) :
 Calls Tryz.prog 59 #[.string arg0] W Q :=
 Sx.sound (pk := [1000052]) Tryz.func59 (.node [] [] 0 .leaf (.node [] [] 0 .leaf (.node [] [] 0 (.node [] [] 0 (.node [(4, .int .i64)] [0] 0 .leaf .leaf) .leaf) (.node [] [] 0 (.node [] [] 0 .leaf (.node [] [] 0 (.node [] [] 0 .leaf (.node [] [] 0 .leaf (.node [] [] 0 (.node [] [] 0 .leaf (.node [] [] 0 (.node [(9, .int .i64)] [4, 0] 0 .leaf .leaf) .leaf)) .leaf))) .leaf)) (.node [] [] 0 .leaf (.node [] [] 0 (.node [] [] 0 .leaf (.node [] [] 0 (.node [(12, .int .i64)] [11, 0] 0 .leaf .leaf) .leaf)) (.node [] [] 0 .leaf (.node [] [] 0 (.node [] [] 0 .leaf (.node [] [] 0 (.node [(14, .int .i64)] [13, 0] 0 .leaf .leaf) .leaf)) .leaf)))))))) [Value.string arg0] rfl (Eq.mp (by kernel_rfl) hVC)
theorem vc28 {W : World} {Q : Ending → World → Prop} (arg0 : ByteArray)
 (hVC :
 ∃ I : ByteArray → Int → Option Addr → Nat → Nat → World → Prop, ∃ I2 : ByteArray → Int → Option Addr → Nat → Nat → World → Nat, I arg0 1 none 0 0 W ∧ ((Nat → Value) →
 ∀ x : ByteArray, ∀ x2 : Int, ∀ x3 : Option Addr, ∀ k : Nat, ∀ k2 : Nat, ∀ W2 : World, I x x2 x3 k k2 W2 → Sx.split (decide ((↑(ByteArray.size x) : Int) > 0))
 (∃ b : UInt8, (0 : Int) ≤ (0 : Int) ∧ x[0]? = some b ∧ Sx.split ((↑(UInt8.toNat b) : Int) == 10) (∀ z : Int, z = IntKind.wrap .i64 (x2 + 1) → (0 : Int) ≤ (1 : Int) ∧
 ((1 : Nat) ≤ ByteArray.size x ∧ ByteArray.size x ≤ ByteArray.size x) ∧ I (ByteArray.extract x 1 (ByteArray.size x)) z x3 k k2 W2 ∧
 I2 (ByteArray.extract x 1 (ByteArray.size x)) z x3 k k2 W2 < I2 x x2 x3 k k2 W2) (∃ b2 : UInt8, (0 : Int) ≤ (0 : Int) ∧ x[0]? = some b2 ∧ Sx.split ((↑(UInt8.toNat b2) : Int) == 32)
 ((0 : Int) ≤ (1 : Int) ∧ ((1 : Nat) ≤ ByteArray.size x ∧ ByteArray.size x ≤ ByteArray.size x) ∧ I (ByteArray.extract x 1 (ByteArray.size x)) x2 x3 k k2 W2 ∧
 I2 (ByteArray.extract x 1 (ByteArray.size x)) x2 x3 k k2 W2 < I2 x x2 x3 k k2 W2) (∃ b3 : UInt8, (0 : Int) ≤ (0 : Int) ∧ x[0]? = some b3 ∧ Sx.split ((↑(UInt8.toNat b3) : Int) == 9)
 ((0 : Int) ≤ (1 : Int) ∧ ((1 : Nat) ≤ ByteArray.size x ∧ ByteArray.size x ≤ ByteArray.size x) ∧ I (ByteArray.extract x 1 (ByteArray.size x)) x2 x3 k k2 W2 ∧
 I2 (ByteArray.extract x 1 (ByteArray.size x)) x2 x3 k k2 W2 < I2 x x2 x3 k k2 W2) (Sx.split (decide ((↑(ByteArray.size x) : Int) > 1)) ((0 : Int) ≤ (2 : Int) ∧
 ((0 : Nat) ≤ (2 : Nat) ∧ (2 : Nat) ≤ ByteArray.size x) ∧ Sx.split (ByteArray.toList (ByteArray.extract x 0 2) == ByteArray.toList ⟨#[47, 47]⟩)
 (∃ I3 : ByteArray → World → Prop, ∃ I4 : ByteArray → World → Nat, I3 x W2 ∧ ((Nat → Value) → ∀ x4 : ByteArray, ∀ W3 : World, I3 x4 W3 →
 Sx.split (decide ((↑(ByteArray.size x4) : Int) > 0)) (∃ b4 : UInt8, (0 : Int) ≤ (0 : Int) ∧ x4[0]? = some b4 ∧ Sx.split ((↑(UInt8.toNat b4) : Int) != 10) ((0 : Int) ≤ (1 : Int) ∧
 ((1 : Nat) ≤ ByteArray.size x4 ∧ ByteArray.size x4 ≤ ByteArray.size x4) ∧ I3 (ByteArray.extract x4 1 (ByteArray.size x4)) W3 ∧
 I4 (ByteArray.extract x4 1 (ByteArray.size x4)) W3 < I4 x4 W3) (I x4 x2 x3 k k2 W3 ∧ I2 x4 x2 x3 k k2 W3 < I2 x x2 x3 k k2 W2)) (I x4 x2 x3 k k2 W3 ∧
 I2 x4 x2 x3 k k2 W3 < I2 x x2 x3 k k2 W2))) (Calls Tryz.prog 59 #[.string x] W2 (fun e => fun W4 => ∃ z2 : Int, ∃ z3 : Int, e = .returned (.tuple #[.int .u8 z2, .int .i64 z3]) ∧
 (0 : Int) ≤ z3 ∧ (((0 : Nat) ≤ Int.toNat z3 ∧ Int.toNat z3 ≤ ByteArray.size x) ∧
 ∀ vs : Array Value, vs = #[.int .u8 z2, .string (ByteArray.extract x 0 (Int.toNat z3)), .int .i64 x2] → vs.size = 3 ∧ ∀ k3 : Nat, ∀ W5 : World, k3 = W4.heap.size →
 W5 = W4.alloc (Obj.cells (List.toArray (vs.toList ++ [])) 96) → ∃ l : List Value, ∃ l2 : List Value, XHeap.Sl W5 96 3 (Value.slice x3 k k2) k l ∧ (((1 : Nat) = (0 : Nat) ∧
 some (Addr.mk k3 0 none) = none) ∨ (∃ a : Addr, some (Addr.mk k3 0 none) = some a ∧ ∀ k4 : Nat, ∀ v : Value, l2[k4]? = some v → W5.cell? (Addr.add a k4) = some v)) ∧
 List.length l2 = 3 ∧ (∀ v2 : Value, v2 ∈ l2 → Value.oneCell' v2 = true) ∧ k + 1 ≤ maxLen ∧ ((k + 1) * 32 ≤ 140737488355328 ∧
 ∀ p : Option Addr, ∀ k5 : Nat, ∀ W6 : World, XHeap.Sl W6 96 3 (Value.slice p (k + 1) k5) (k + 1) (l ++ l2) →
 XHeap.XTouch (fun b => Value.ownBlock (Value.slice x3 k k2) = some b) W5 W6 → (∀ k6 : Nat, Value.ownBlock (Value.slice p (k + 1) k5) = some k6 →
 (Value.ownBlock (Value.slice x3 k k2) = some k6) ∨ (W5.heap.size ≤ k6)) → XHeap.Sl W6 96 3 (Value.slice x3 k k2) k l → ((p = x3 ∧ k5 = k2) ∨ (((XHeap.NilP x3) ∨ (k2 < k + 1)) ∧
 ∀ k7 : Nat, Value.ownBlock (Value.slice p (k + 1) k5) = some k7 → W5.heap.size ≤ k7)) → (0 : Int) ≤ z3 ∧ (Int.toNat z3 ≤ ByteArray.size x ∧ ByteArray.size x ≤ ByteArray.size x) ∧
 I (ByteArray.extract x (Int.toNat z3) (ByteArray.size x)) x2 p (k + 1) k5 W6 ∧
 I2 (ByteArray.extract x (Int.toNat z3) (ByteArray.size x)) x2 p (k + 1) k5 W6 < I2 x x2 x3 k k2 W2))))) (Calls Tryz.prog 59 #[.string x] W2 (fun e2 => fun W7 =>
 ∃ z4 : Int, ∃ z5 : Int, e2 = .returned (.tuple #[.int .u8 z4, .int .i64 z5]) ∧ (0 : Int) ≤ z5 ∧ (((0 : Nat) ≤ Int.toNat z5 ∧ Int.toNat z5 ≤ ByteArray.size x) ∧
 ∀ vs2 : Array Value, vs2 = #[.int .u8 z4, .string (ByteArray.extract x 0 (Int.toNat z5)), .int .i64 x2] → vs2.size = 3 ∧ ∀ k8 : Nat, ∀ W8 : World, k8 = W7.heap.size →
 W8 = W7.alloc (Obj.cells (List.toArray (vs2.toList ++ [])) 96) → ∃ l3 : List Value, ∃ l4 : List Value, XHeap.Sl W8 96 3 (Value.slice x3 k k2) k l3 ∧ (((1 : Nat) = (0 : Nat) ∧
 some (Addr.mk k8 0 none) = none) ∨ (∃ a2 : Addr, some (Addr.mk k8 0 none) = some a2 ∧ ∀ k9 : Nat, ∀ v3 : Value, l4[k9]? = some v3 → W8.cell? (Addr.add a2 k9) = some v3)) ∧
 List.length l4 = 3 ∧ (∀ v4 : Value, v4 ∈ l4 → Value.oneCell' v4 = true) ∧ k + 1 ≤ maxLen ∧ ((k + 1) * 32 ≤ 140737488355328 ∧
 ∀ p2 : Option Addr, ∀ k10 : Nat, ∀ W9 : World, XHeap.Sl W9 96 3 (Value.slice p2 (k + 1) k10) (k + 1) (l3 ++ l4) →
 XHeap.XTouch (fun b => Value.ownBlock (Value.slice x3 k k2) = some b) W8 W9 → (∀ k11 : Nat, Value.ownBlock (Value.slice p2 (k + 1) k10) = some k11 →
 (Value.ownBlock (Value.slice x3 k k2) = some k11) ∨ (W8.heap.size ≤ k11)) → XHeap.Sl W9 96 3 (Value.slice x3 k k2) k l3 → ((p2 = x3 ∧ k10 = k2) ∨ (((XHeap.NilP x3) ∨ (k2 < k + 1)) ∧
 ∀ k12 : Nat, Value.ownBlock (Value.slice p2 (k + 1) k10) = some k12 → W8.heap.size ≤ k12)) → (0 : Int) ≤ z5 ∧ (Int.toNat z5 ≤ ByteArray.size x ∧
 ByteArray.size x ≤ ByteArray.size x) ∧ I (ByteArray.extract x (Int.toNat z5) (ByteArray.size x)) x2 p2 (k + 1) k10 W9 ∧
 I2 (ByteArray.extract x (Int.toNat z5) (ByteArray.size x)) x2 p2 (k + 1) k10 W9 < I2 x x2 x3 k k2 W2))))))))
 (∀ vs3 : Array Value, vs3 = #[.int .u8 101, .string ⟨#[]⟩, .int .i64 x2] → vs3.size = 3 ∧ ∀ k13 : Nat, ∀ W10 : World, k13 = W2.heap.size →
 W10 = W2.alloc (Obj.cells (List.toArray (vs3.toList ++ [])) 96) → ∃ l5 : List Value, ∃ l6 : List Value, XHeap.Sl W10 96 3 (Value.slice x3 k k2) k l5 ∧ (((1 : Nat) = (0 : Nat) ∧
 some (Addr.mk k13 0 none) = none) ∨ (∃ a3 : Addr, some (Addr.mk k13 0 none) = some a3 ∧ ∀ k14 : Nat, ∀ v5 : Value, l6[k14]? = some v5 → W10.cell? (Addr.add a3 k14) = some v5)) ∧
 List.length l6 = 3 ∧ (∀ v6 : Value, v6 ∈ l6 → Value.oneCell' v6 = true) ∧ k + 1 ≤ maxLen ∧ ((k + 1) * 32 ≤ 140737488355328 ∧
 ∀ p3 : Option Addr, ∀ k15 : Nat, ∀ W11 : World, XHeap.Sl W11 96 3 (Value.slice p3 (k + 1) k15) (k + 1) (l5 ++ l6) →
 XHeap.XTouch (fun b => Value.ownBlock (Value.slice x3 k k2) = some b) W10 W11 → (∀ k16 : Nat, Value.ownBlock (Value.slice p3 (k + 1) k15) = some k16 →
 (Value.ownBlock (Value.slice x3 k k2) = some k16) ∨ (W10.heap.size ≤ k16)) → XHeap.Sl W11 96 3 (Value.slice x3 k k2) k l5 → ((p3 = x3 ∧ k15 = k2) ∨ (((XHeap.NilP x3) ∨
 (k2 < k + 1)) ∧ ∀ k17 : Nat, Value.ownBlock (Value.slice p3 (k + 1) k15) = some k17 → W10.heap.size ≤ k17)) → Q (.returned (.slice p3 (k + 1) k15)) W11)))) :
 Calls Tryz.prog 28 #[.string arg0] W Q :=
 Sx.sound (pk := [1000052]) Tryz.func28 (.node [] [] 0 .leaf (.node [] [] 0 .leaf (.node [] [] 0 .leaf (.node [] [] 0 (.node [] [] 0 (.node [(0, .str), (4, .int .i64), (3, .slice)] [] 0 (.node [] [] 0 .leaf (.node [] [] 0 (.node [] [] 0 (.node [] [] 0 .leaf (.node [] [] 0 .leaf (.node [] [] 0 .leaf (.node [] [] 0 .leaf (.node [] [] 0 .leaf (.node [] [] 0 (.node [] [] 0 (.node [(0, .str)] [4, 3] 0 .leaf .leaf) .leaf) .leaf)))))) .leaf) .leaf)) .leaf) .leaf) .leaf)))) [Value.string arg0] rfl (Eq.mp (by kernel_rfl) hVC)
end Go.Proofs.YtojogkljneonmaaGreatDoor
