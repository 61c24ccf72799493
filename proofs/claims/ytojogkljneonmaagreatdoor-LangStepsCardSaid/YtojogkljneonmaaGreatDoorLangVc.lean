/- What each function asks, reckoned out of its text; printed by a program of mine (wip/tpl/VcTool.lean). No condition. -/
import Derived.Test.YtojogkljneonmaaGreatDoorSxB
import Derived.Test.YtojogkljneonmaaGreatDoorChecked
namespace Go.Proofs.YtojogkljneonmaaGreatDoor
open Go Go.Proofs
set_option linter.unusedVariables false
set_option maxRecDepth 100000
theorem vc52 {W : World} {Q : Ending → World → Prop} (line : Int) (e : Int)
 (hVC :
 ∀ vs : Array Value, vs = #[.int .i64 line, .int .i64 e] → ∀ k : Nat, ∀ W2 : World, k = W.heap.size → W2 = W.alloc (Obj.cells (Value.cells (Value.agg vs)) 79) →
 Q (Ending.panicked [PanicEntry.mk (Value.iface 77 (Value.pointer (some ⟨k, 0, none⟩))) false false]) W2) :
 Calls Tryz.prog 52 #[.int .i64 line, .int .i64 e] W Q :=
 Sx.sound (pk := [1000052,1000091,53,50,51,93,94,95,111,112,113,130,131,132,144,171,172,54,128,142,129,56,26,55]) Tryz.func52 .leaf [Value.int .i64 line, .int .i64 e] rfl (Eq.mp (by kernel_rfl) hVC)
theorem vc91 {W : World} {Q : Ending → World → Prop} (p : Nat) (po : Nat) (e : Int)
 (hVC :
 Calls Tryz.prog 25 #[.pointer (some ⟨p, po, none⟩)] W (fun e2 => fun W2 => ∃ vs : Array Value, e2 = .returned (.agg vs) ∧ ∃ z : Int, vs[2]? = some (.int .i64 z) ∧
 Calls Tryz.prog 52 #[.int .i64 z, .int .i64 e] W2 (fun e3 => fun W3 => ∃ l : List PanicEntry, e3 = Ending.panicked l ∧ Q (Ending.panicked l) W3))) :
 Calls Tryz.prog 91 #[.pointer (some ⟨p, po, none⟩), .int .i64 e] W Q :=
 Sx.sound (pk := [1000052,1000091,53,50,51,93,94,95,111,112,113,130,131,132,144,171,172,54,128,142,129,56,26,55]) Tryz.func91 .leaf [Value.pointer (some ⟨p, po, none⟩), .int .i64 e] rfl (Eq.mp (by kernel_rfl) hVC)
theorem vc25 {W : World} {Q : Ending → World → Prop} (p : Nat) (po : Nat)
 (hVC :
 ∀ k : Nat, ∀ W2 : World, k = W.heap.size → W2 = W.alloc (Obj.cells #[.int .u8 0, .string ⟨#[]⟩, .int .i64 0] 87) →
 ∃ p2 : Option Addr, ∃ k2 : Nat, ∃ k3 : Nat, W2.cell? ⟨p, po, none⟩ = some (.slice p2 k2 k3) ∧ ((0 : Int) ≤ (0 : Int) ∧ (0 : Int) < (k2 : Int)) ∧ Sx.adr p2 (fun k4 => fun k5 =>
 ∃ vs : Array Value, vs.size = 3 ∧ Sx.cellsAt W2 ⟨k4, k5 + 0, none⟩ vs ∧ vs.size = 3 ∧ (∀ k6 : Nat, k6 < 3 → (∃ v : Value, W2.cell? ⟨k, 0 + k6, none⟩ = some v) ∧
 W2.frozen? ⟨k, 0 + k6, none⟩ = false) ∧ ((∀ v2 : Value, v2 ∈ vs.toList → Value.oneCell' v2 = true) ∧ ∀ W3 : World, W3 = W2.setCells k 0 vs.toList →
 ∃ vs2 : Array Value, vs2.size = 3 ∧ Sx.cellsAt W3 ⟨k, 0, none⟩ vs2 ∧ Q (.returned (.agg vs2)) W3))) :
 Calls Tryz.prog 25 #[.pointer (some ⟨p, po, none⟩)] W Q :=
 Sx.sound (pk := [1000052,1000091,53,50,51,93,94,95,111,112,113,130,131,132,144,171,172,54,128,142,129,56,26,55]) Tryz.func25 .leaf [Value.pointer (some ⟨p, po, none⟩)] rfl (Eq.mp (by kernel_rfl) hVC)
theorem vc90 {W : World} {Q : Ending → World → Prop} (p : Nat) (po : Nat)
 (hVC :
 ∀ k : Nat, ∀ W2 : World, k = W.heap.size → W2 = W.alloc (Obj.cells #[.int .u8 0, .string ⟨#[]⟩, .int .i64 0] 87) →
 ∃ p2 : Option Addr, ∃ k2 : Nat, ∃ k3 : Nat, W2.cell? ⟨p, po, none⟩ = some (.slice p2 k2 k3) ∧ ((0 : Int) ≤ (0 : Int) ∧ (0 : Int) < (k2 : Int)) ∧ Sx.adr p2 (fun k4 => fun k5 =>
 ∃ vs : Array Value, vs.size = 3 ∧ (Sx.cellsAt W2 ⟨k4, k5 + 0, none⟩ vs ∧ ∀ k6 : Nat, ∀ W3 : World, k6 = W2.heap.size →
 W3 = W2.alloc (Obj.cells #[.int .u8 0, .string ⟨#[]⟩, .int .i64 0] 87) → vs.size = 3 ∧ (∀ k7 : Nat, k7 < 3 → (∃ v : Value, W3.cell? ⟨k6, 0 + k7, none⟩ = some v) ∧
 W3.frozen? ⟨k6, 0 + k7, none⟩ = false) ∧ ((∀ v2 : Value, v2 ∈ vs.toList → Value.oneCell' v2 = true) ∧ ∀ W4 : World, W4 = W3.setCells k6 0 vs.toList →
 ∃ p3 : Option Addr, ∃ k8 : Nat, ∃ k9 : Nat, W4.cell? ⟨p, po, none⟩ = some (.slice p3 k8 k9) ∧ ((0 : Int) ≤ (1 : Int) ∧ (1 : Int) ≤ (k8 : Int)) ∧
 (∃ v3 : Value, W4.cell? ⟨p, po, none⟩ = some v3) ∧ (W4.frozen? ⟨p, po, none⟩ = false ∧
 ∀ W5 : World, W5 = W4.setCell ⟨p, po, none⟩ (Value.slice (Sx.sub p3 k9 1 3) (k8 - 1) (k9 - 1)) → ∃ vs2 : Array Value, vs2.size = 3 ∧ Sx.cellsAt W5 ⟨k6, 0, none⟩ vs2 ∧ vs2.size = 3 ∧
 (∀ k10 : Nat, k10 < 3 → (∃ v4 : Value, W5.cell? ⟨k, 0 + k10, none⟩ = some v4) ∧ W5.frozen? ⟨k, 0 + k10, none⟩ = false) ∧ ((∀ v5 : Value, v5 ∈ vs2.toList →
 Value.oneCell' v5 = true) ∧ ∀ W6 : World, W6 = W5.setCells k 0 vs2.toList → ∃ vs3 : Array Value, vs3.size = 3 ∧ Sx.cellsAt W6 ⟨k, 0, none⟩ vs3 ∧ Q (.returned (.agg vs3)) W6)))))) :
 Calls Tryz.prog 90 #[.pointer (some ⟨p, po, none⟩)] W Q :=
 Sx.sound (pk := [1000052,1000091,53,50,51,93,94,95,111,112,113,130,131,132,144,171,172,54,128,142,129,56,26,55]) Tryz.func90 .leaf [Value.pointer (some ⟨p, po, none⟩)] rfl (Eq.mp (by kernel_rfl) hVC)
theorem vc89 {W : World} {Q : Ending → World → Prop} (p : Nat) (po : Nat) (text : ByteArray)
 (hVC :
 Calls Tryz.prog 25 #[.pointer (some ⟨p, po, none⟩)] W (fun e => fun W2 => ∃ vs : Array Value, e = .returned (.agg vs) ∧ ∃ z : Int, vs[0]? = some (.int .u8 z) ∧ Sx.split (z == 3)
 (Calls Tryz.prog 25 #[.pointer (some ⟨p, po, none⟩)] W2 (fun e2 => fun W3 => ∃ vs2 : Array Value, e2 = .returned (.agg vs2) ∧ ∃ s : ByteArray, vs2[1]? = some (.string s) ∧
 Q (.returned (.bool (ByteArray.toList s == ByteArray.toList text))) W3)) (Q (.returned (.bool false)) W2))) :
 Calls Tryz.prog 89 #[.pointer (some ⟨p, po, none⟩), .string text] W Q :=
 Sx.sound (pk := [1000052,1000091,53,50,51,93,94,95,111,112,113,130,131,132,144,171,172,54,128,142,129,56,26,55]) Tryz.func89 .leaf [Value.pointer (some ⟨p, po, none⟩), .string text] rfl (Eq.mp (by kernel_rfl) hVC)
theorem vc49 {W : World} {Q : Ending → World → Prop} (p : Nat) (po : Nat) (text : ByteArray)
 (hVC :
 Calls Tryz.prog 89 #[.pointer (some ⟨p, po, none⟩), .string text] W (fun e => fun W2 => ∃ t : Bool, e = .returned (.bool t) ∧ Sx.split (!t) (Q (.returned (.bool false)) W2)
 (Calls Tryz.prog 90 #[.pointer (some ⟨p, po, none⟩)] W2 (fun e2 => fun W3 => ∃ vs : Array Value, e2 = .returned (.agg vs) ∧ Q (.returned (.bool true)) W3)))) :
 Calls Tryz.prog 49 #[.pointer (some ⟨p, po, none⟩), .string text] W Q :=
 Sx.sound (pk := [1000052,1000091,53,50,51,93,94,95,111,112,113,130,131,132,144,171,172,54,128,142,129,56,26,55]) Tryz.func49 .leaf [Value.pointer (some ⟨p, po, none⟩), .string text] rfl (Eq.mp (by kernel_rfl) hVC)
theorem vc53 {W : World} {Q : Ending → World → Prop} (p : Nat) (po : Nat) (text : ByteArray)
 (hVC :
 Calls Tryz.prog 49 #[.pointer (some ⟨p, po, none⟩), .string text] W (fun e => fun W2 => ∃ t : Bool, e = .returned (.bool t) ∧ Sx.split (!t)
 (Calls Tryz.prog 91 #[.pointer (some ⟨p, po, none⟩), .int .i64 8] W2 (fun e2 => fun W3 => ∃ l : List PanicEntry, e2 = Ending.panicked l ∧ Q (Ending.panicked l) W3))
 (Q (.returned (.tuple #[])) W2))) :
 Calls Tryz.prog 53 #[.pointer (some ⟨p, po, none⟩), .string text] W Q :=
 Sx.sound (pk := [1000052,1000091,53,50,51,93,94,95,111,112,113,130,131,132,144,171,172,54,128,142,129,56,26,55]) Tryz.func53 .leaf [Value.pointer (some ⟨p, po, none⟩), .string text] rfl (Eq.mp (by kernel_rfl) hVC)
theorem vc50 {W : World} {Q : Ending → World → Prop} (p : Nat) (po : Nat)
 (hVC :
 ∀ k : Nat, ∀ W2 : World, k = W.heap.size → W2 = W.alloc (Obj.cells #[.int .u8 0, .string ⟨#[]⟩, .int .i64 0] 87) → Calls Tryz.prog 25 #[.pointer (some ⟨p, po, none⟩)] W2 (fun e =>
 fun W3 => ∃ vs : Array Value, e = .returned (.agg vs) ∧ ∃ z : Int, vs[0]? = some (.int .u8 z) ∧ Sx.split (z != 1)
 (Calls Tryz.prog 91 #[.pointer (some ⟨p, po, none⟩), .int .i64 8] W3 (fun e2 => fun W4 => ∃ l : List PanicEntry, e2 = Ending.panicked l ∧ Q (Ending.panicked l) W4))
 (Calls Tryz.prog 25 #[.pointer (some ⟨p, po, none⟩)] W3 (fun e3 => fun W5 => ∃ vs2 : Array Value, e3 = .returned (.agg vs2) ∧ ∃ s : ByteArray, vs2[1]? = some (.string s) ∧
 Sx.split (decide ((↑(ByteArray.size s) : Int) > 16)) (Calls Tryz.prog 91 #[.pointer (some ⟨p, po, none⟩), .int .i64 3] W5 (fun e4 => fun W6 =>
 ∃ l2 : List PanicEntry, e4 = Ending.panicked l2 ∧ Q (Ending.panicked l2) W6)) (Calls Tryz.prog 90 #[.pointer (some ⟨p, po, none⟩)] W5 (fun e5 => fun W7 =>
 ∃ vs3 : Array Value, e5 = .returned (.agg vs3) ∧ vs3.size = 3 ∧ (∀ k2 : Nat, k2 < 3 → (∃ v : Value, W7.cell? ⟨k, 0 + k2, none⟩ = some v) ∧ W7.frozen? ⟨k, 0 + k2, none⟩ = false) ∧
 ((∀ v2 : Value, v2 ∈ vs3.toList → Value.oneCell' v2 = true) ∧ ∀ W8 : World, W8 = W7.setCells k 0 vs3.toList → ∃ vs4 : Array Value, vs4.size = 3 ∧ Sx.cellsAt W8 ⟨k, 0, none⟩ vs4 ∧
 Q (.returned (.agg vs4)) W8))))))) :
 Calls Tryz.prog 50 #[.pointer (some ⟨p, po, none⟩)] W Q :=
 Sx.sound (pk := [1000052,1000091,53,50,51,93,94,95,111,112,113,130,131,132,144,171,172,54,128,142,129,56,26,55]) Tryz.func50 .leaf [Value.pointer (some ⟨p, po, none⟩)] rfl (Eq.mp (by kernel_rfl) hVC)
theorem vc51 {W : World} {Q : Ending → World → Prop} (p : Nat) (po : Nat)
 (hVC :
 Calls Tryz.prog 25 #[.pointer (some ⟨p, po, none⟩)] W (fun e => fun W2 => ∃ vs : Array Value, e = .returned (.agg vs) ∧ ∃ z : Int, vs[0]? = some (.int .u8 z) ∧ Sx.split (z != 2)
 (Calls Tryz.prog 91 #[.pointer (some ⟨p, po, none⟩), .int .i64 8] W2 (fun e2 => fun W3 => ∃ l : List PanicEntry, e2 = Ending.panicked l ∧ Q (Ending.panicked l) W3))
 (Calls Tryz.prog 25 #[.pointer (some ⟨p, po, none⟩)] W2 (fun e3 => fun W4 => ∃ vs2 : Array Value, e3 = .returned (.agg vs2) ∧ ∃ s : ByteArray, vs2[1]? = some (.string s) ∧
 Calls Tryz.prog 92 #[.string s, .int .i64 10, .int .i64 32] W4 (fun e4 => fun W5 => ∃ z2 : Int, ∃ v : Value, e4 = .returned (.tuple #[.int .u64 z2, v]) ∧ Sx.isNil v (fun t =>
 Sx.split (!t) (Calls Tryz.prog 91 #[.pointer (some ⟨p, po, none⟩), .int .i64 3] W5 (fun e5 => fun W6 => ∃ l2 : List PanicEntry, e5 = Ending.panicked l2 ∧ Q (Ending.panicked l2) W6))
 (Calls Tryz.prog 90 #[.pointer (some ⟨p, po, none⟩)] W5 (fun e6 => fun W7 => ∃ vs3 : Array Value, e6 = .returned (.agg vs3) ∧ ∀ z3 : Int, z3 = IntKind.wrap .u32 z2 →
 Q (.returned (.int .u32 z3)) W7)))))))) :
 Calls Tryz.prog 51 #[.pointer (some ⟨p, po, none⟩)] W Q :=
 Sx.sound (pk := [1000052,1000091,53,50,51,93,94,95,111,112,113,130,131,132,144,171,172,54,128,142,129,56,26,55]) Tryz.func51 .leaf [Value.pointer (some ⟨p, po, none⟩)] rfl (Eq.mp (by kernel_rfl) hVC)
theorem vc145 {W : World} {Q : Ending → World → Prop} (sign : ByteArray)
 (hVC :
 Sx.split (ByteArray.toList sign == ByteArray.toList ⟨#[124, 124]⟩) (Q (.returned (.int .i64 1)) W) (Sx.split (ByteArray.toList sign == ByteArray.toList ⟨#[38, 38]⟩)
 (Q (.returned (.int .i64 2)) W) (Sx.split (ByteArray.toList sign == ByteArray.toList ⟨#[124]⟩) (Q (.returned (.int .i64 3)) W)
 (Sx.split (ByteArray.toList sign == ByteArray.toList ⟨#[94]⟩) (Q (.returned (.int .i64 4)) W) (Sx.split (ByteArray.toList sign == ByteArray.toList ⟨#[38]⟩)
 (Q (.returned (.int .i64 5)) W) (Sx.split (ByteArray.toList sign == ByteArray.toList ⟨#[61, 61]⟩) (Q (.returned (.int .i64 6)) W)
 (Sx.split (ByteArray.toList sign == ByteArray.toList ⟨#[33, 61]⟩) (Q (.returned (.int .i64 6)) W) (Sx.split (ByteArray.toList sign == ByteArray.toList ⟨#[60]⟩)
 (Q (.returned (.int .i64 7)) W) (Sx.split (ByteArray.toList sign == ByteArray.toList ⟨#[60, 61]⟩) (Q (.returned (.int .i64 7)) W)
 (Sx.split (ByteArray.toList sign == ByteArray.toList ⟨#[62]⟩) (Q (.returned (.int .i64 7)) W) (Sx.split (ByteArray.toList sign == ByteArray.toList ⟨#[62, 61]⟩)
 (Q (.returned (.int .i64 7)) W) (Sx.split (ByteArray.toList sign == ByteArray.toList ⟨#[60, 60]⟩) (Q (.returned (.int .i64 8)) W)
 (Sx.split (ByteArray.toList sign == ByteArray.toList ⟨#[62, 62]⟩) (Q (.returned (.int .i64 8)) W) (Sx.split (ByteArray.toList sign == ByteArray.toList ⟨#[43]⟩)
 (Q (.returned (.int .i64 9)) W) (Sx.split (ByteArray.toList sign == ByteArray.toList ⟨#[45]⟩) (Q (.returned (.int .i64 9)) W)
 (Sx.split (ByteArray.toList sign == ByteArray.toList ⟨#[42]⟩) (Q (.returned (.int .i64 10)) W) (Sx.split (ByteArray.toList sign == ByteArray.toList ⟨#[47]⟩)
 (Q (.returned (.int .i64 10)) W) (Sx.split (ByteArray.toList sign == ByteArray.toList ⟨#[37]⟩) (Q (.returned (.int .i64 10)) W) (Q (.returned (.int .i64 0)) W))))))))))))))))))) :
 Calls Tryz.prog 145 #[.string sign] W Q :=
 Sx.sound (pk := [1000052,1000091,53,50,51,93,94,95,111,112,113,130,131,132,144,171,172,54,128,142,129,56,26,55]) Tryz.func145 .leaf [Value.string sign] rfl (Eq.mp (by kernel_rfl) hVC)
theorem vc143 {W : World} {u : FrameMode} {Q : Ending → World → Prop} (fv0 : Nat) (fv0o : Nat)
 (hVC :
 ∃ p : Option Addr, W.cell? ⟨fv0, fv0o, none⟩ = some (.pointer p) ∧ Sx.ptr p (fun a => ∃ z : Int, W.cell? (Addr.add a 1) = some (.int .i64 z) ∧
 ∀ z2 : Int, z2 = IntKind.wrap .i64 (z - 1) → Sx.ptr p (fun a2 => (∃ v : Value, W.cell? (Addr.add a2 1) = some v) ∧ (W.frozen? (Addr.add a2 1) = false ∧
 ∀ W2 : World, W2 = W.setCell (Addr.add a2 1) (Value.int .i64 z2) → Q (.returned (.tuple #[])) W2)))) :
 CallsD Tryz.prog 143 #[.pointer (some ⟨fv0, fv0o, none⟩)] u W fun e u' w' => u' = u ∧ Q e w' :=
 Sx.soundC (pk := [1000052,1000091,53,50,51,93,94,95,111,112,113,130,131,132,144,171,172,54,128,142,129,56,26,55]) Tryz.func143 .leaf [Value.pointer (some ⟨fv0, fv0o, none⟩)] (Eq.mp (by kernel_rfl) hVC)
theorem vc110 {W : World} {u : FrameMode} {Q : Ending → World → Prop} (fv0 : Nat) (fv0o : Nat)
 (hVC :
 ∃ p : Option Addr, W.cell? ⟨fv0, fv0o, none⟩ = some (.pointer p) ∧ Sx.ptr p (fun a => ∃ z : Int, W.cell? (Addr.add a 1) = some (.int .i64 z) ∧
 ∀ z2 : Int, z2 = IntKind.wrap .i64 (z - 1) → Sx.ptr p (fun a2 => (∃ v : Value, W.cell? (Addr.add a2 1) = some v) ∧ (W.frozen? (Addr.add a2 1) = false ∧
 ∀ W2 : World, W2 = W.setCell (Addr.add a2 1) (Value.int .i64 z2) → Q (.returned (.tuple #[])) W2)))) :
 CallsD Tryz.prog 110 #[.pointer (some ⟨fv0, fv0o, none⟩)] u W fun e u' w' => u' = u ∧ Q e w' :=
 Sx.soundC (pk := [1000052,1000091,53,50,51,93,94,95,111,112,113,130,131,132,144,171,172,54,128,142,129,56,26,55]) Tryz.func110 .leaf [Value.pointer (some ⟨fv0, fv0o, none⟩)] (Eq.mp (by kernel_rfl) hVC)
theorem vc130e {W : World} {Q : Ending → World → Prop} (p : Nat) (po : Nat) (read0 : Nat)
 (hVC :
 ∀ k : Nat, ∀ W2 : World, k = W.heap.size → W2 = W.alloc (Obj.cells #[.pointer (some ⟨p, po, none⟩)] 80) → ∃ p2 : Option Addr, W2.cell? ⟨k, 0, none⟩ = some (.pointer p2) ∧
 Sx.ptr p2 (fun a => ∃ z : Int, W2.cell? (Addr.add a 1) = some (.int .i64 z) ∧ ∀ z2 : Int, z2 = IntKind.wrap .i64 (z + 1) → Sx.ptr p2 (fun a2 =>
 (∃ v : Value, W2.cell? (Addr.add a2 1) = some v) ∧ (W2.frozen? (Addr.add a2 1) = false ∧ ∀ W3 : World, W3 = W2.setCell (Addr.add a2 1) (Value.int .i64 z2) →
 ∃ p3 : Option Addr, W3.cell? ⟨k, 0, none⟩ = some (.pointer p3) ∧ Sx.ptr p3 (fun a3 => ∃ z3 : Int, W3.cell? (Addr.add a3 1) = some (.int .i64 z3) ∧ Sx.split (decide (z3 > 24))
 (∃ p4 : Option Addr, W3.cell? ⟨k, 0, none⟩ = some (.pointer p4) ∧ Calls Tryz.prog 91 #[.pointer p4, .int .i64 3] W3 (fun e => fun W4 =>
 ∃ l : List PanicEntry, e = Ending.panicked l ∧ Q (Ending.panicked l) W4)) (Calls Tryz.prog 131 #[.pointer (some ⟨read0, 0, none⟩)] W3 (fun e2 => fun W5 =>
 (∃ v2 : Value, e2 = .returned v2 ∧ CallsD Tryz.prog 143 #[.pointer (some ⟨k, 0, none⟩)] FrameMode.returning W5 (fun e3 => fun u => fun W6 => (∃ v3 : Value, e3 = .returned v3 ∧
 ((settle u = FrameMode.returning ∧ Q (.returned v2) W6) ∨ (∃ l2 : List PanicEntry, settle u = FrameMode.panicking l2 ∧ Q (Ending.panicked l2) W6))) ∨
 (∃ l3 : List PanicEntry, e3 = Ending.panicked l3 ∧ ∃ l4 : List PanicEntry, raised u l3 = FrameMode.panicking l4 ∧ Q (Ending.panicked l4) W6))) ∨
 (∃ l5 : List PanicEntry, e2 = Ending.panicked l5 ∧ CallsD Tryz.prog 143 #[.pointer (some ⟨k, 0, none⟩)] (FrameMode.panicking l5) W5 (fun e4 => fun u2 => fun W7 =>
 (∃ v4 : Value, e4 = .returned v4 ∧ ((settle u2 = FrameMode.returning ∧ False) ∨ (∃ l6 : List PanicEntry, settle u2 = FrameMode.panicking l6 ∧ Q (Ending.panicked l6) W7))) ∨
 (∃ l7 : List PanicEntry, e4 = Ending.panicked l7 ∧ ∃ l8 : List PanicEntry, raised u2 l7 = FrameMode.panicking l8 ∧ Q (Ending.panicked l8) W7)))))))))) :
 Calls Tryz.prog 130 #[.pointer (some ⟨p, po, none⟩), Value.func (Fn.func 131) #[] #[.pointer (some ⟨read0, 0, none⟩)]] W Q :=
 Sx.soundD (pk := [1000052,1000091,53,50,51,93,94,95,111,112,113,130,131,132,144,171,172,54,128,142,129,56,26,55]) Tryz.func130 .leaf [Value.pointer (some ⟨p, po, none⟩), Value.func (Fn.func 131) #[] #[.pointer (some ⟨read0, 0, none⟩)]] rfl (Eq.mp (by kernel_rfl) hVC)
theorem vc130u {W : World} {Q : Ending → World → Prop} (p : Nat) (po : Nat) (read0 : Nat) (read1 : Nat)
 (hVC :
 ∀ k : Nat, ∀ W2 : World, k = W.heap.size → W2 = W.alloc (Obj.cells #[.pointer (some ⟨p, po, none⟩)] 80) → ∃ p2 : Option Addr, W2.cell? ⟨k, 0, none⟩ = some (.pointer p2) ∧
 Sx.ptr p2 (fun a => ∃ z : Int, W2.cell? (Addr.add a 1) = some (.int .i64 z) ∧ ∀ z2 : Int, z2 = IntKind.wrap .i64 (z + 1) → Sx.ptr p2 (fun a2 =>
 (∃ v : Value, W2.cell? (Addr.add a2 1) = some v) ∧ (W2.frozen? (Addr.add a2 1) = false ∧ ∀ W3 : World, W3 = W2.setCell (Addr.add a2 1) (Value.int .i64 z2) →
 ∃ p3 : Option Addr, W3.cell? ⟨k, 0, none⟩ = some (.pointer p3) ∧ Sx.ptr p3 (fun a3 => ∃ z3 : Int, W3.cell? (Addr.add a3 1) = some (.int .i64 z3) ∧ Sx.split (decide (z3 > 24))
 (∃ p4 : Option Addr, W3.cell? ⟨k, 0, none⟩ = some (.pointer p4) ∧ Calls Tryz.prog 91 #[.pointer p4, .int .i64 3] W3 (fun e => fun W4 =>
 ∃ l : List PanicEntry, e = Ending.panicked l ∧ Q (Ending.panicked l) W4)) (Calls Tryz.prog 171 #[.pointer (some ⟨read0, 0, none⟩), .pointer (some ⟨read1, 0, none⟩)] W3 (fun e2 =>
 fun W5 => (∃ v2 : Value, e2 = .returned v2 ∧ CallsD Tryz.prog 143 #[.pointer (some ⟨k, 0, none⟩)] FrameMode.returning W5 (fun e3 => fun u => fun W6 =>
 (∃ v3 : Value, e3 = .returned v3 ∧ ((settle u = FrameMode.returning ∧ Q (.returned v2) W6) ∨ (∃ l2 : List PanicEntry, settle u = FrameMode.panicking l2 ∧
 Q (Ending.panicked l2) W6))) ∨ (∃ l3 : List PanicEntry, e3 = Ending.panicked l3 ∧ ∃ l4 : List PanicEntry, raised u l3 = FrameMode.panicking l4 ∧ Q (Ending.panicked l4) W6))) ∨
 (∃ l5 : List PanicEntry, e2 = Ending.panicked l5 ∧ CallsD Tryz.prog 143 #[.pointer (some ⟨k, 0, none⟩)] (FrameMode.panicking l5) W5 (fun e4 => fun u2 => fun W7 =>
 (∃ v4 : Value, e4 = .returned v4 ∧ ((settle u2 = FrameMode.returning ∧ False) ∨ (∃ l6 : List PanicEntry, settle u2 = FrameMode.panicking l6 ∧ Q (Ending.panicked l6) W7))) ∨
 (∃ l7 : List PanicEntry, e4 = Ending.panicked l7 ∧ ∃ l8 : List PanicEntry, raised u2 l7 = FrameMode.panicking l8 ∧ Q (Ending.panicked l8) W7)))))))))) :
 Calls Tryz.prog 130 #[.pointer (some ⟨p, po, none⟩), Value.func (Fn.func 171) #[] #[.pointer (some ⟨read0, 0, none⟩), .pointer (some ⟨read1, 0, none⟩)]] W Q :=
 Sx.soundD (pk := [1000052,1000091,53,50,51,93,94,95,111,112,113,130,131,132,144,171,172,54,128,142,129,56,26,55]) Tryz.func130 .leaf [Value.pointer (some ⟨p, po, none⟩), Value.func (Fn.func 171) #[] #[.pointer (some ⟨read0, 0, none⟩), .pointer (some ⟨read1, 0, none⟩)]] rfl (Eq.mp (by kernel_rfl) hVC)
theorem vc93 {W : World} {Q : Ending → World → Prop} (p : Nat) (po : Nat) (read0 : Nat)
 (hVC :
 ∀ k : Nat, ∀ W2 : World, k = W.heap.size → W2 = W.alloc (Obj.cells #[.pointer (some ⟨p, po, none⟩)] 80) → ∃ p2 : Option Addr, W2.cell? ⟨k, 0, none⟩ = some (.pointer p2) ∧
 Sx.ptr p2 (fun a => ∃ z : Int, W2.cell? (Addr.add a 1) = some (.int .i64 z) ∧ ∀ z2 : Int, z2 = IntKind.wrap .i64 (z + 1) → Sx.ptr p2 (fun a2 =>
 (∃ v : Value, W2.cell? (Addr.add a2 1) = some v) ∧ (W2.frozen? (Addr.add a2 1) = false ∧ ∀ W3 : World, W3 = W2.setCell (Addr.add a2 1) (Value.int .i64 z2) →
 ∃ p3 : Option Addr, W3.cell? ⟨k, 0, none⟩ = some (.pointer p3) ∧ Sx.ptr p3 (fun a3 => ∃ z3 : Int, W3.cell? (Addr.add a3 1) = some (.int .i64 z3) ∧ Sx.split (decide (z3 > 24))
 (∃ p4 : Option Addr, W3.cell? ⟨k, 0, none⟩ = some (.pointer p4) ∧ Calls Tryz.prog 91 #[.pointer p4, .int .i64 3] W3 (fun e => fun W4 =>
 ∃ l : List PanicEntry, e = Ending.panicked l ∧ Q (Ending.panicked l) W4)) (Calls Tryz.prog 94 #[.pointer (some ⟨read0, 0, none⟩)] W3 (fun e2 => fun W5 =>
 (∃ p5 : Option Addr, e2 = .returned (.pointer p5) ∧ CallsD Tryz.prog 110 #[.pointer (some ⟨k, 0, none⟩)] FrameMode.returning W5 (fun e3 => fun u => fun W6 =>
 (∃ v2 : Value, e3 = .returned v2 ∧ ((settle u = FrameMode.returning ∧ Q (.returned (.pointer p5)) W6) ∨ (∃ l2 : List PanicEntry, settle u = FrameMode.panicking l2 ∧
 Q (Ending.panicked l2) W6))) ∨ (∃ l3 : List PanicEntry, e3 = Ending.panicked l3 ∧ ∃ l4 : List PanicEntry, raised u l3 = FrameMode.panicking l4 ∧ Q (Ending.panicked l4) W6))) ∨
 (∃ l5 : List PanicEntry, e2 = Ending.panicked l5 ∧ CallsD Tryz.prog 110 #[.pointer (some ⟨k, 0, none⟩)] (FrameMode.panicking l5) W5 (fun e4 => fun u2 => fun W7 =>
 (∃ v3 : Value, e4 = .returned v3 ∧ ((settle u2 = FrameMode.returning ∧ False) ∨ (∃ l6 : List PanicEntry, settle u2 = FrameMode.panicking l6 ∧ Q (Ending.panicked l6) W7))) ∨
 (∃ l7 : List PanicEntry, e4 = Ending.panicked l7 ∧ ∃ l8 : List PanicEntry, raised u2 l7 = FrameMode.panicking l8 ∧ Q (Ending.panicked l8) W7)))))))))) :
 Calls Tryz.prog 93 #[.pointer (some ⟨p, po, none⟩), Value.func (Fn.func 94) #[] #[.pointer (some ⟨read0, 0, none⟩)]] W Q :=
 Sx.soundD (pk := [1000052,1000091,53,50,51,93,94,95,111,112,113,130,131,132,144,171,172,54,128,142,129,56,26,55]) Tryz.func93 .leaf [Value.pointer (some ⟨p, po, none⟩), Value.func (Fn.func 94) #[] #[.pointer (some ⟨read0, 0, none⟩)]] rfl (Eq.mp (by kernel_rfl) hVC)
theorem vc113 {W : World} {Q : Ending → World → Prop} (p : Nat) (po : Nat)
 (hVC :
 ∀ k : Nat, ∀ W2 : World, k = W.heap.size → W2 = W.alloc (Obj.cells #[.pointer (some ⟨p, po, none⟩)] 80) → ∃ p2 : Option Addr, W2.cell? ⟨k, 0, none⟩ = some (.pointer p2) ∧
 Calls Tryz.prog 130 #[.pointer p2, Value.func (Fn.func 131) #[] #[.pointer (some ⟨k, 0, none⟩)]] W2 (fun e => fun W3 => (∃ v : Value, e = .returned v ∧ Q (.returned v) W3) ∨
 (∃ l : List PanicEntry, e = Ending.panicked l ∧ Q (Ending.panicked l) W3))) :
 Calls Tryz.prog 113 #[.pointer (some ⟨p, po, none⟩)] W Q :=
 Sx.sound (pk := [1000052,1000091,53,50,51,93,94,95,111,112,113,130,131,132,144,171,172,54,128,142,129,56,26,55]) Tryz.func113 .leaf [Value.pointer (some ⟨p, po, none⟩)] rfl (Eq.mp (by kernel_rfl) hVC)
theorem vc131 {W : World} {Q : Ending → World → Prop} (fv0 : Nat) (fv0o : Nat)
 (hVC :
 ∃ p : Option Addr, W.cell? ⟨fv0, fv0o, none⟩ = some (.pointer p) ∧ Calls Tryz.prog 132 #[.pointer p, .int .i64 1] W (fun e => fun W2 => (∃ v : Value, e = .returned v ∧
 Q (.returned v) W2) ∨ (∃ l : List PanicEntry, e = Ending.panicked l ∧ Q (Ending.panicked l) W2))) :
 Calls Tryz.prog 131 #[.pointer (some ⟨fv0, fv0o, none⟩)] W Q :=
 Sx.sound (pk := [1000052,1000091,53,50,51,93,94,95,111,112,113,130,131,132,144,171,172,54,128,142,129,56,26,55]) Tryz.func131 .leaf [Value.pointer (some ⟨fv0, fv0o, none⟩)] rfl (Eq.mp (by kernel_rfl) hVC)
theorem vc132 {W : World} {Q : Ending → World → Prop} (p : Nat) (po : Nat) (least : Int)
 (hVC :
 Calls Tryz.prog 144 #[.pointer (some ⟨p, po, none⟩)] W (fun e => fun W2 => (∃ v : Value, e = .returned v ∧ ∃ I : Value → World → Prop, ∃ I2 : Value → World → Nat, I v W2 ∧
 ((Nat → Value) → ∀ x : Value, ∀ W3 : World, I x W3 → Calls Tryz.prog 25 #[.pointer (some ⟨p, po, none⟩)] W3 (fun e2 => fun W4 => ∃ vs : Array Value, e2 = .returned (.agg vs) ∧
 ∃ z : Int, vs[0]? = some (.int .u8 z) ∧ Sx.split (z == 3) (Calls Tryz.prog 25 #[.pointer (some ⟨p, po, none⟩)] W4 (fun e3 => fun W5 =>
 ∃ vs2 : Array Value, e3 = .returned (.agg vs2) ∧ ∃ s : ByteArray, vs2[1]? = some (.string s) ∧ Calls Tryz.prog 145 #[.string s] W5 (fun e4 => fun W6 =>
 ∃ z2 : Int, e4 = .returned (.int .i64 z2) ∧ Sx.split (decide (z2 ≥ least)) (Calls Tryz.prog 90 #[.pointer (some ⟨p, po, none⟩)] W6 (fun e5 => fun W7 =>
 ∃ vs3 : Array Value, e5 = .returned (.agg vs3) ∧ ∀ k : Nat, ∀ W8 : World, k = W7.heap.size → W8 = W7.alloc (Obj.cells #[.int .u8 0, .string ⟨#[]⟩, .int .i64 0] 87) → vs3.size = 3 ∧
 (∀ k2 : Nat, k2 < 3 → (∃ v2 : Value, W8.cell? ⟨k, 0 + k2, none⟩ = some v2) ∧ W8.frozen? ⟨k, 0 + k2, none⟩ = false) ∧ ((∀ v3 : Value, v3 ∈ vs3.toList → Value.oneCell' v3 = true) ∧
 ∀ W9 : World, W9 = W8.setCells k 0 vs3.toList → ∀ W10 : World, W10 = World.drew W9 → ∃ s2 : ByteArray, W10.cell? ⟨k, 0 + 1, none⟩ = some (.string s2) ∧
 ∃ vs4 : Array Value, vs4.size = 3 ∧ Sx.cellsAt W10 ⟨k, 0, none⟩ vs4 ∧ ∃ s3 : ByteArray, W10.cell? ⟨k, 0 + 1, none⟩ = some (.string s3) ∧
 Calls Tryz.prog 145 #[.string s2] W10 (fun e6 => fun W11 => ∃ z3 : Int, e6 = .returned (.int .i64 z3) ∧ (∃ s4 : ByteArray, W11.cell? ⟨k, 0 + 1, none⟩ = some (.string s4) ∧
 Value.string s4 = Value.string s3) ∧ ((∃ vs5 : Array Value, vs5.size = 3 ∧ Sx.cellsAt W11 ⟨k, 0, none⟩ vs5 ∧ Value.agg vs5 = Value.agg vs4) ∧
 ∀ z4 : Int, z4 = IntKind.wrap .i64 (z3 + 1) → Calls Tryz.prog 132 #[.pointer (some ⟨p, po, none⟩), .int .i64 z4] W11 (fun e7 => fun W12 => (∃ v4 : Value, e7 = .returned v4 ∧
 (∃ s5 : ByteArray, W12.cell? ⟨k, 0 + 1, none⟩ = some (.string s5) ∧ Value.string s5 = Value.string s3) ∧ (∃ vs6 : Array Value, vs6.size = 3 ∧ Sx.cellsAt W12 ⟨k, 0, none⟩ vs6 ∧
 Value.agg vs6 = Value.agg vs4) ∧ vs4.size = 3 ∧ Sx.one x (Sx.one v4 (∀ vs7 : Array Value, vs7 = List.toArray (vs4.toList ++ [Value.string s3, x, v4]) →
 ∀ k3 : Nat, ∀ W13 : World, k3 = W12.heap.size → W13 = W12.alloc (Obj.cells (Value.cells (Value.agg vs7)) 230) → I (Value.iface 218 (Value.pointer (some ⟨k3, 0, none⟩))) W13 ∧
 I2 (Value.iface 218 (Value.pointer (some ⟨k3, 0, none⟩))) W13 < I2 x W3))) ∨ (∃ l : List PanicEntry, e7 = Ending.panicked l ∧ Q (Ending.panicked l) W12)))))))
 (Q (.returned x) W6)))) (Q (.returned x) W4)))) ∨ (∃ l2 : List PanicEntry, e = Ending.panicked l2 ∧ Q (Ending.panicked l2) W2))) :
 Calls Tryz.prog 132 #[.pointer (some ⟨p, po, none⟩), .int .i64 least] W Q :=
 Sx.sound (pk := [1000052,1000091,53,50,51,93,94,95,111,112,113,130,131,132,144,171,172,54,128,142,129,56,26,55]) Tryz.func132 (.node [] [] 0 .leaf (.node [] [] 0 .leaf (.node [] [] 0 (.node [] [] 0 (.node [(5, .any)] [0, 1] 0 (.node [] [] 0 .leaf (.node [] [] 0 (.node [] [] 0 .leaf (.node [] [] 1001008 .leaf .leaf)) .leaf)) .leaf) .leaf) .leaf))) [Value.pointer (some ⟨p, po, none⟩), .int .i64 least] rfl (Eq.mp (by kernel_rfl) hVC)
theorem vc144 {W : World} {Q : Ending → World → Prop} (p : Nat) (po : Nat)
 (hVC :
 ∀ k : Nat, ∀ W2 : World, k = W.heap.size → W2 = W.alloc (Obj.cells #[.pointer (some ⟨p, po, none⟩)] 80) →
 ∀ vs : Array Value, vs = #[.string ⟨#[45]⟩, .string ⟨#[33]⟩, .string ⟨#[126]⟩] → ∃ I : Int → World → Prop, ∃ I2 : Int → World → Nat, I 0 W2 ∧ ((Nat → Value) →
 ∀ x : Int, ∀ W3 : World, I x W3 → Sx.split (decide (x < 3)) (((0 : Int) ≤ x ∧ x < (3 : Int)) ∧ ∃ s : ByteArray, vs[Int.toNat x * 1]? = some (.string s) ∧
 ∀ k2 : Nat, ∀ W4 : World, k2 = W3.heap.size → W4 = W3.alloc (Obj.cells #[.string ⟨#[]⟩] 9) → (∃ v : Value, W4.cell? ⟨k2, 0, none⟩ = some v) ∧ (W4.frozen? ⟨k2, 0, none⟩ = false ∧
 ∀ W5 : World, W5 = W4.setCell ⟨k2, 0, none⟩ (Value.string s) → ∃ p2 : Option Addr, W5.cell? ⟨k, 0, none⟩ = some (.pointer p2) ∧
 ∃ s2 : ByteArray, W5.cell? ⟨k2, 0, none⟩ = some (.string s2) ∧ Calls Tryz.prog 89 #[.pointer p2, .string s2] W5 (fun e => fun W6 => ∃ t : Bool, e = .returned (.bool t) ∧ Sx.split t
 (∃ p3 : Option Addr, W6.cell? ⟨k, 0, none⟩ = some (.pointer p3) ∧
 Calls Tryz.prog 130 #[.pointer p3, Value.func (Fn.func 171) #[] #[.pointer (some ⟨k, 0, none⟩), .pointer (some ⟨k2, 0, none⟩)]] W6 (fun e2 => fun W7 =>
 (∃ v2 : Value, e2 = .returned v2 ∧ Q (.returned v2) W7) ∨ (∃ l : List PanicEntry, e2 = Ending.panicked l ∧ Q (Ending.panicked l) W7))) (∀ z : Int, z = IntKind.wrap .i64 (x + 1) →
 I z W6 ∧ I2 z W6 < I2 x W3)))) (∃ p4 : Option Addr, W3.cell? ⟨k, 0, none⟩ = some (.pointer p4) ∧ Calls Tryz.prog 172 #[.pointer p4] W3 (fun e3 => fun W8 =>
 (∃ v3 : Value, e3 = .returned v3 ∧ Q (.returned v3) W8) ∨ (∃ l2 : List PanicEntry, e3 = Ending.panicked l2 ∧ Q (Ending.panicked l2) W8))))) :
 Calls Tryz.prog 144 #[.pointer (some ⟨p, po, none⟩)] W Q :=
 Sx.sound (pk := [1000052,1000091,53,50,51,93,94,95,111,112,113,130,131,132,144,171,172,54,128,142,129,56,26,55]) Tryz.func144 (.node [] [] 0 .leaf (.node [] [] 0 (.node [] [] 0 .leaf (.node [] [] 0 (.node [(6, .int .i64)] [5, 1] 0 .leaf .leaf) .leaf)) .leaf)) [Value.pointer (some ⟨p, po, none⟩)] rfl (Eq.mp (by kernel_rfl) hVC)
theorem vc171 {W : World} {Q : Ending → World → Prop} (fv0 : Nat) (fv0o : Nat) (fv1 : Nat) (fv1o : Nat)
 (hVC :
 ∃ p : Option Addr, W.cell? ⟨fv0, fv0o, none⟩ = some (.pointer p) ∧ Calls Tryz.prog 90 #[.pointer p] W (fun e => fun W2 => ∃ vs : Array Value, e = .returned (.agg vs) ∧
 ∀ k : Nat, ∀ W3 : World, k = W2.heap.size → W3 = W2.alloc (Obj.cells #[.int .u8 0, .string ⟨#[]⟩, .int .i64 0] 87) → vs.size = 3 ∧ (∀ k2 : Nat, k2 < 3 →
 (∃ v : Value, W3.cell? ⟨k, 0 + k2, none⟩ = some v) ∧ W3.frozen? ⟨k, 0 + k2, none⟩ = false) ∧ ((∀ v2 : Value, v2 ∈ vs.toList → Value.oneCell' v2 = true) ∧
 ∀ W4 : World, W4 = W3.setCells k 0 vs.toList → ∀ W5 : World, W5 = World.drew W4 → ∃ p2 : Option Addr, W5.cell? ⟨fv0, fv0o, none⟩ = some (.pointer p2) ∧
 ∃ vs2 : Array Value, vs2.size = 3 ∧ Sx.cellsAt W5 ⟨k, 0, none⟩ vs2 ∧ ∃ s : ByteArray, W5.cell? ⟨fv1, fv1o, none⟩ = some (.string s) ∧
 Calls Tryz.prog 144 #[.pointer p2] W5 (fun e2 => fun W6 => (∃ v3 : Value, e2 = .returned v3 ∧ (∃ s2 : ByteArray, W6.cell? ⟨fv1, fv1o, none⟩ = some (.string s2) ∧
 Value.string s2 = Value.string s) ∧ (∃ vs3 : Array Value, vs3.size = 3 ∧ Sx.cellsAt W6 ⟨k, 0, none⟩ vs3 ∧ Value.agg vs3 = Value.agg vs2) ∧ vs2.size = 3 ∧
 Sx.one v3 (∀ vs4 : Array Value, vs4 = List.toArray (vs2.toList ++ [Value.string s, v3]) → ∀ k3 : Nat, ∀ W7 : World, k3 = W6.heap.size →
 W7 = W6.alloc (Obj.cells (Value.cells (Value.agg vs4)) 217) → Q (.returned (.iface 215 (Value.pointer (some ⟨k3, 0, none⟩)))) W7)) ∨ (∃ l : List PanicEntry, e2 = Ending.panicked l ∧
 Q (Ending.panicked l) W6))))) :
 Calls Tryz.prog 171 #[.pointer (some ⟨fv0, fv0o, none⟩), .pointer (some ⟨fv1, fv1o, none⟩)] W Q :=
 Sx.sound (pk := [1000052,1000091,53,50,51,93,94,95,111,112,113,130,131,132,144,171,172,54,128,142,129,56,26,55]) Tryz.func171 (.node [] [] 0 .leaf (.node [] [] 0 .leaf (.node [] [] 0 (.node [] [] 1001004 .leaf .leaf) .leaf))) [Value.pointer (some ⟨fv0, fv0o, none⟩), .pointer (some ⟨fv1, fv1o, none⟩)] rfl (Eq.mp (by kernel_rfl) hVC)
theorem vc172 {W : World} {Q : Ending → World → Prop} (p : Nat) (po : Nat)
 (hVC :
 Calls Tryz.prog 25 #[.pointer (some ⟨p, po, none⟩)] W (fun e => fun W2 => ∃ vs : Array Value, e = .returned (.agg vs) ∧ ∃ z : Int, vs[0]? = some (.int .u8 z) ∧ Sx.split (z == 2)
 (Calls Tryz.prog 51 #[.pointer (some ⟨p, po, none⟩)] W2 (fun e2 => fun W3 => (∃ z2 : Int, e2 = .returned (.int .u32 z2) ∧ Q (.returned (.iface 211 (Value.int .u32 z2))) W3) ∨
 (∃ l : List PanicEntry, e2 = Ending.panicked l ∧ Q (Ending.panicked l) W3))) (Calls Tryz.prog 49 #[.pointer (some ⟨p, po, none⟩), .string ⟨#[40]⟩] W2 (fun e3 => fun W4 =>
 ∃ t : Bool, e3 = .returned (.bool t) ∧ Sx.split t (Calls Tryz.prog 113 #[.pointer (some ⟨p, po, none⟩)] W4 (fun e4 => fun W5 => (∃ v : Value, e4 = .returned v ∧
 Calls Tryz.prog 53 #[.pointer (some ⟨p, po, none⟩), .string ⟨#[41]⟩] W5 (fun e5 => fun W6 => (e5 = .returned (.tuple #[]) ∧ Q (.returned v) W6) ∨
 (∃ l2 : List PanicEntry, e5 = Ending.panicked l2 ∧ Q (Ending.panicked l2) W6))) ∨ (∃ l3 : List PanicEntry, e4 = Ending.panicked l3 ∧ Q (Ending.panicked l3) W5)))
 (Calls Tryz.prog 50 #[.pointer (some ⟨p, po, none⟩)] W4 (fun e6 => fun W7 => (∃ vs2 : Array Value, e6 = .returned (.agg vs2) ∧ ∀ k : Nat, ∀ W8 : World, k = W7.heap.size →
 W8 = W7.alloc (Obj.cells #[.int .u8 0, .string ⟨#[]⟩, .int .i64 0] 87) → vs2.size = 3 ∧ (∀ k2 : Nat, k2 < 3 → (∃ v2 : Value, W8.cell? ⟨k, 0 + k2, none⟩ = some v2) ∧
 W8.frozen? ⟨k, 0 + k2, none⟩ = false) ∧ ((∀ v3 : Value, v3 ∈ vs2.toList → Value.oneCell' v3 = true) ∧ ∀ W9 : World, W9 = W8.setCells k 0 vs2.toList →
 Calls Tryz.prog 89 #[.pointer (some ⟨p, po, none⟩), .string ⟨#[40]⟩] W9 (fun e7 => fun W10 => ∃ t2 : Bool, e7 = .returned (.bool t2) ∧ Sx.split t2
 (∃ vs3 : Array Value, vs3.size = 3 ∧ Sx.cellsAt W10 ⟨k, 0, none⟩ vs3 ∧ Calls Tryz.prog 128 #[.pointer (some ⟨p, po, none⟩), .agg vs3] W10 (fun e8 => fun W11 =>
 (∃ p2 : Option Addr, e8 = .returned (.pointer p2) ∧ Q (.returned (.iface 193 (Value.pointer p2))) W11) ∨ (∃ l4 : List PanicEntry, e8 = Ending.panicked l4 ∧
 Q (Ending.panicked l4) W11))) (Calls Tryz.prog 89 #[.pointer (some ⟨p, po, none⟩), .string ⟨#[91]⟩] W10 (fun e9 => fun W12 => ∃ t3 : Bool, e9 = .returned (.bool t3) ∧ Sx.split t3
 (∃ vs4 : Array Value, vs4.size = 3 ∧ Sx.cellsAt W12 ⟨k, 0, none⟩ vs4 ∧ Calls Tryz.prog 129 #[.pointer (some ⟨p, po, none⟩), .agg vs4] W12 (fun e10 => fun W13 =>
 (∃ p3 : Option Addr, e10 = .returned (.pointer p3) ∧ Q (.returned (.iface 177 (Value.pointer p3))) W13) ∨ (∃ l5 : List PanicEntry, e10 = Ending.panicked l5 ∧
 Q (Ending.panicked l5) W13))) (∃ vs5 : Array Value, vs5.size = 3 ∧ Sx.cellsAt W12 ⟨k, 0, none⟩ vs5 ∧ (vs5.size = 3 ∧
 ∀ vs6 : Array Value, vs6 = List.toArray (vs5.toList ++ [Value.int .i64 0, .int .i64 0]) → ∀ k3 : Nat, ∀ W14 : World, k3 = W12.heap.size →
 W14 = W12.alloc (Obj.cells (Value.cells (Value.agg vs6)) 221) → Q (.returned (.iface 167 (Value.pointer (some ⟨k3, 0, none⟩)))) W14))))))) ∨
 (∃ l6 : List PanicEntry, e6 = Ending.panicked l6 ∧ Q (Ending.panicked l6) W7))))))) :
 Calls Tryz.prog 172 #[.pointer (some ⟨p, po, none⟩)] W Q :=
 Sx.sound (pk := [1000052,1000091,53,50,51,93,94,95,111,112,113,130,131,132,144,171,172,54,128,142,129,56,26,55]) Tryz.func172 .leaf [Value.pointer (some ⟨p, po, none⟩)] rfl (Eq.mp (by kernel_rfl) hVC)
theorem vc54c {W : World} {Q : Ending → World → Prop} (p : Nat) (po : Nat) (one0 : Nat) (one1 : Nat)
 (hVC :
 Calls Tryz.prog 53 #[.pointer (some ⟨p, po, none⟩), .string ⟨#[40]⟩] W (fun e => fun W2 => (e = .returned (.tuple #[]) ∧
 Calls Tryz.prog 49 #[.pointer (some ⟨p, po, none⟩), .string ⟨#[41]⟩] W2 (fun e2 => fun W3 => ∃ t : Bool, e2 = .returned (.bool t) ∧
 ∃ I : Bool → World → Prop, ∃ I2 : Bool → World → Nat, I (!t) W3 ∧ ((Nat → Value) → ∀ more : Bool, ∀ W4 : World, I more W4 → Sx.split more
 (Calls Tryz.prog 142 #[.pointer (some ⟨one0, 0, none⟩), .pointer (some ⟨one1, 0, none⟩)] W4 (fun e3 => fun W5 => (e3 = .returned (.tuple #[]) ∧
 Calls Tryz.prog 49 #[.pointer (some ⟨p, po, none⟩), .string ⟨#[41]⟩] W5 (fun e4 => fun W6 => ∃ t2 : Bool, e4 = .returned (.bool t2) ∧ Sx.split (!t2)
 (Calls Tryz.prog 53 #[.pointer (some ⟨p, po, none⟩), .string ⟨#[44]⟩] W6 (fun e5 => fun W7 => (e5 = .returned (.tuple #[]) ∧ I (!t2) W7 ∧ I2 (!t2) W7 < I2 more W4) ∨
 (∃ l : List PanicEntry, e5 = Ending.panicked l ∧ Q (Ending.panicked l) W7))) (I (!t2) W6 ∧ I2 (!t2) W6 < I2 more W4))) ∨ (∃ l2 : List PanicEntry, e3 = Ending.panicked l2 ∧
 Q (Ending.panicked l2) W5))) (Q (.returned (.tuple #[])) W4)))) ∨ (∃ l3 : List PanicEntry, e = Ending.panicked l3 ∧ Q (Ending.panicked l3) W2))) :
 Calls Tryz.prog 54 #[.pointer (some ⟨p, po, none⟩), Value.func (Fn.func 142) #[] #[.pointer (some ⟨one0, 0, none⟩), .pointer (some ⟨one1, 0, none⟩)]] W Q :=
 Sx.sound (pk := [1000052,1000091,53,50,51,93,94,95,111,112,113,130,131,132,144,171,172,54,128,142,129,56,26,55]) Tryz.func54 (.node [] [] 0 .leaf (.node [] [] 0 .leaf (.node [] [] 0 (.node [(4, .bool)] [1, 0] 0 .leaf .leaf) .leaf))) [Value.pointer (some ⟨p, po, none⟩), Value.func (Fn.func 142) #[] #[.pointer (some ⟨one0, 0, none⟩), .pointer (some ⟨one1, 0, none⟩)]] rfl (Eq.mp (by kernel_rfl) hVC)
theorem vc54d {W : World} {Q : Ending → World → Prop} (p : Nat) (po : Nat) (one0 : Nat) (one1 : Nat)
 (hVC :
 Calls Tryz.prog 53 #[.pointer (some ⟨p, po, none⟩), .string ⟨#[40]⟩] W (fun e => fun W2 => (e = .returned (.tuple #[]) ∧
 Calls Tryz.prog 49 #[.pointer (some ⟨p, po, none⟩), .string ⟨#[41]⟩] W2 (fun e2 => fun W3 => ∃ t : Bool, e2 = .returned (.bool t) ∧
 ∃ I : Bool → World → Prop, ∃ I2 : Bool → World → Nat, I (!t) W3 ∧ ((Nat → Value) → ∀ more : Bool, ∀ W4 : World, I more W4 → Sx.split more
 (Calls Tryz.prog 55 #[.pointer (some ⟨one0, 0, none⟩), .pointer (some ⟨one1, 0, none⟩)] W4 (fun e3 => fun W5 => (e3 = .returned (.tuple #[]) ∧
 Calls Tryz.prog 49 #[.pointer (some ⟨p, po, none⟩), .string ⟨#[41]⟩] W5 (fun e4 => fun W6 => ∃ t2 : Bool, e4 = .returned (.bool t2) ∧ Sx.split (!t2)
 (Calls Tryz.prog 53 #[.pointer (some ⟨p, po, none⟩), .string ⟨#[44]⟩] W6 (fun e5 => fun W7 => (e5 = .returned (.tuple #[]) ∧ I (!t2) W7 ∧ I2 (!t2) W7 < I2 more W4) ∨
 (∃ l : List PanicEntry, e5 = Ending.panicked l ∧ Q (Ending.panicked l) W7))) (I (!t2) W6 ∧ I2 (!t2) W6 < I2 more W4))) ∨ (∃ l2 : List PanicEntry, e3 = Ending.panicked l2 ∧
 Q (Ending.panicked l2) W5))) (Q (.returned (.tuple #[])) W4)))) ∨ (∃ l3 : List PanicEntry, e = Ending.panicked l3 ∧ Q (Ending.panicked l3) W2))) :
 Calls Tryz.prog 54 #[.pointer (some ⟨p, po, none⟩), Value.func (Fn.func 55) #[] #[.pointer (some ⟨one0, 0, none⟩), .pointer (some ⟨one1, 0, none⟩)]] W Q :=
 Sx.sound (pk := [1000052,1000091,53,50,51,93,94,95,111,112,113,130,131,132,144,171,172,54,128,142,129,56,26,55]) Tryz.func54 (.node [] [] 0 .leaf (.node [] [] 0 .leaf (.node [] [] 0 (.node [(4, .bool)] [1, 0] 0 .leaf .leaf) .leaf))) [Value.pointer (some ⟨p, po, none⟩), Value.func (Fn.func 55) #[] #[.pointer (some ⟨one0, 0, none⟩), .pointer (some ⟨one1, 0, none⟩)]] rfl (Eq.mp (by kernel_rfl) hVC)
theorem vc128 {W : World} {Q : Ending → World → Prop} (p : Nat) (po : Nat) (t : Array Value)
 (hVC :
 ∀ k : Nat, ∀ W2 : World, k = W.heap.size → W2 = W.alloc (Obj.cells #[.pointer (some ⟨p, po, none⟩)] 80) → ∀ k2 : Nat, ∀ W3 : World, k2 = W2.heap.size →
 W3 = W2.alloc (Obj.cells (Value.cells (Value.agg t)) 87) → ∃ vs : Array Value, vs.size = 3 ∧ Sx.cellsAt W3 ⟨k2, 0, none⟩ vs ∧ (vs.size = 3 ∧
 ∀ vs2 : Array Value, vs2 = List.toArray (vs.toList ++ [Value.pointer none, .slice none 0 0]) → ∀ k3 : Nat, ∀ W4 : World, k3 = W3.heap.size →
 W4 = W3.alloc (Obj.cells (Value.cells (Value.agg vs2)) 214) → ∀ k4 : Nat, ∀ W5 : World, k4 = W4.heap.size → W5 = W4.alloc (Obj.cells #[.pointer none] 193) →
 (∃ v : Value, W5.cell? ⟨k4, 0, none⟩ = some v) ∧ (W5.frozen? ⟨k4, 0, none⟩ = false ∧ ∀ W6 : World, W6 = W5.setCell ⟨k4, 0, none⟩ (Value.pointer (some ⟨k3, 0, none⟩)) →
 ∃ p2 : Option Addr, W6.cell? ⟨k, 0, none⟩ = some (.pointer p2) ∧
 Calls Tryz.prog 54 #[.pointer p2, Value.func (Fn.func 142) #[] #[.pointer (some ⟨k4, 0, none⟩), .pointer (some ⟨k, 0, none⟩)]] W6 (fun e => fun W7 => (e = .returned (.tuple #[]) ∧
 ∃ p3 : Option Addr, W7.cell? ⟨k4, 0, none⟩ = some (.pointer p3) ∧ Q (.returned (.pointer p3)) W7) ∨ (∃ l : List PanicEntry, e = Ending.panicked l ∧ Q (Ending.panicked l) W7))))) :
 Calls Tryz.prog 128 #[.pointer (some ⟨p, po, none⟩), .agg t] W Q :=
 Sx.sound (pk := [1000052,1000091,53,50,51,93,94,95,111,112,113,130,131,132,144,171,172,54,128,142,129,56,26,55]) Tryz.func128 .leaf [Value.pointer (some ⟨p, po, none⟩), .agg t] rfl (Eq.mp (by kernel_rfl) hVC)
theorem vc142 {W : World} {Q : Ending → World → Prop} (fv0 : Nat) (fv0o : Nat) (fv1 : Nat) (fv1o : Nat)
 (hVC :
 ∀ W2 : World, W2 = World.drew W → ∃ p : Option Addr, W2.cell? ⟨fv1, fv1o, none⟩ = some (.pointer p) ∧ ∃ p2 : Option Addr, W2.cell? ⟨fv0, fv0o, none⟩ = some (.pointer p2) ∧
 ∃ p3 : Option Addr, W2.cell? ⟨fv0, fv0o, none⟩ = some (.pointer p3) ∧ Sx.ptr p3 (fun a =>
 ∃ p4 : Option Addr, ∃ k : Nat, ∃ k2 : Nat, W2.cell? (Addr.add a 4) = some (.slice p4 k k2) ∧ Calls Tryz.prog 113 #[.pointer p] W2 (fun e => fun W3 => (∃ v : Value, e = .returned v ∧
 (∃ p5 : Option Addr, ∃ k3 : Nat, ∃ k4 : Nat, W3.cell? (Addr.add a 4) = some (.slice p5 k3 k4) ∧ Value.slice p5 k3 k4 = Value.slice p4 k k2) ∧
 (∃ p6 : Option Addr, W3.cell? ⟨fv0, fv0o, none⟩ = some (.pointer p6) ∧ Value.pointer p6 = Value.pointer p3) ∧ (∃ p7 : Option Addr, W3.cell? ⟨fv0, fv0o, none⟩ = some (.pointer p7) ∧
 Value.pointer p7 = Value.pointer p2) ∧ Sx.one v (∀ k5 : Nat, ∀ W4 : World, k5 = W3.heap.size → W4 = W3.alloc (Obj.cells #[v] 169) →
 (∃ p8 : Option Addr, ∃ k6 : Nat, ∃ k7 : Nat, W4.cell? (Addr.add a 4) = some (.slice p8 k6 k7) ∧ Value.slice p8 k6 k7 = Value.slice p4 k k2) ∧
 (∃ p9 : Option Addr, W4.cell? ⟨fv0, fv0o, none⟩ = some (.pointer p9) ∧ Value.pointer p9 = Value.pointer p3) ∧
 (∃ p10 : Option Addr, W4.cell? ⟨fv0, fv0o, none⟩ = some (.pointer p10) ∧ Value.pointer p10 = Value.pointer p2) ∧
 ∃ l : List Value, ∃ l2 : List Value, XHeap.Sl W4 169 1 (Value.slice p4 k k2) k l ∧ (((1 : Nat) = (0 : Nat) ∧ some (Addr.mk k5 0 none) = none) ∨
 (∃ a2 : Addr, some (Addr.mk k5 0 none) = some a2 ∧ ∀ k8 : Nat, ∀ v2 : Value, l2[k8]? = some v2 → W4.cell? (Addr.add a2 k8) = some v2)) ∧ List.length l2 = 1 ∧
 (∀ v3 : Value, v3 ∈ l2 → Value.oneCell' v3 = true) ∧ k + 1 ≤ maxLen ∧ ((k + 1) * 16 ≤ 140737488355328 ∧
 ∀ p11 : Option Addr, ∀ k9 : Nat, ∀ W5 : World, XHeap.Sl W5 169 1 (Value.slice p11 (k + 1) k9) (k + 1) (l ++ l2) →
 XHeap.XTouch (fun b => Value.ownBlock (Value.slice p4 k k2) = some b) W4 W5 → (∀ k10 : Nat, Value.ownBlock (Value.slice p11 (k + 1) k9) = some k10 →
 (Value.ownBlock (Value.slice p4 k k2) = some k10) ∨ (W4.heap.size ≤ k10)) → XHeap.Sl W5 169 1 (Value.slice p4 k k2) k l → ((p11 = p4 ∧ k9 = k2) ∨ (((XHeap.NilP p4) ∨ (k2 < k + 1)) ∧
 ∀ k11 : Nat, Value.ownBlock (Value.slice p11 (k + 1) k9) = some k11 → W4.heap.size ≤ k11)) → (∃ p12 : Option Addr, W5.cell? ⟨fv0, fv0o, none⟩ = some (.pointer p12) ∧
 Value.pointer p12 = Value.pointer p2) ∧ Sx.ptr p2 (fun a3 => (∃ v4 : Value, W5.cell? (Addr.add a3 4) = some v4) ∧ (W5.frozen? (Addr.add a3 4) = false ∧
 ∀ W6 : World, W6 = W5.setCell (Addr.add a3 4) (Value.slice p11 (k + 1) k9) → Q (.returned (.tuple #[])) W6))))) ∨ (∃ l3 : List PanicEntry, e = Ending.panicked l3 ∧
 Q (Ending.panicked l3) W3)))) :
 Calls Tryz.prog 142 #[.pointer (some ⟨fv0, fv0o, none⟩), .pointer (some ⟨fv1, fv1o, none⟩)] W Q :=
 Sx.sound (pk := [1000052,1000091,53,50,51,93,94,95,111,112,113,130,131,132,144,171,172,54,128,142,129,56,26,55]) Tryz.func142 (.node [] [] 1001007 .leaf .leaf) [Value.pointer (some ⟨fv0, fv0o, none⟩), .pointer (some ⟨fv1, fv1o, none⟩)] rfl (Eq.mp (by kernel_rfl) hVC)
theorem vc129 {W : World} {Q : Ending → World → Prop} (p : Nat) (po : Nat) (t : Array Value)
 (hVC :
 ∀ k : Nat, ∀ W2 : World, k = W.heap.size → W2 = W.alloc (Obj.cells (Value.cells (Value.agg t)) 87) →
 Calls Tryz.prog 53 #[.pointer (some ⟨p, po, none⟩), .string ⟨#[91]⟩] W2 (fun e => fun W3 => (e = .returned (.tuple #[]) ∧ ∀ W4 : World, W4 = World.drew W3 →
 ∃ vs : Array Value, vs.size = 3 ∧ Sx.cellsAt W4 ⟨k, 0, none⟩ vs ∧ Calls Tryz.prog 113 #[.pointer (some ⟨p, po, none⟩)] W4 (fun e2 => fun W5 => (∃ v : Value, e2 = .returned v ∧
 (∃ vs2 : Array Value, vs2.size = 3 ∧ Sx.cellsAt W5 ⟨k, 0, none⟩ vs2 ∧ Value.agg vs2 = Value.agg vs) ∧ vs.size = 3 ∧
 Sx.one v (∀ vs3 : Array Value, vs3 = List.toArray (vs.toList ++ [Value.int .i64 0, .int .u32 0, v]) → ∀ k2 : Nat, ∀ W6 : World, k2 = W5.heap.size →
 W6 = W5.alloc (Obj.cells (Value.cells (Value.agg vs3)) 176) → Calls Tryz.prog 53 #[.pointer (some ⟨p, po, none⟩), .string ⟨#[93]⟩] W6 (fun e3 => fun W7 =>
 (e3 = .returned (.tuple #[]) ∧ Q (.returned (.pointer (some ⟨k2, 0, none⟩))) W7) ∨ (∃ l : List PanicEntry, e3 = Ending.panicked l ∧ Q (Ending.panicked l) W7)))) ∨
 (∃ l2 : List PanicEntry, e2 = Ending.panicked l2 ∧ Q (Ending.panicked l2) W5))) ∨ (∃ l3 : List PanicEntry, e = Ending.panicked l3 ∧ Q (Ending.panicked l3) W3))) :
 Calls Tryz.prog 129 #[.pointer (some ⟨p, po, none⟩), .agg t] W Q :=
 Sx.sound (pk := [1000052,1000091,53,50,51,93,94,95,111,112,113,130,131,132,144,171,172,54,128,142,129,56,26,55]) Tryz.func129 (.node [] [] 0 .leaf (.node [] [] 0 .leaf (.node [] [] 0 (.node [] [] 1001003 .leaf .leaf) .leaf))) [Value.pointer (some ⟨p, po, none⟩), .agg t] rfl (Eq.mp (by kernel_rfl) hVC)
theorem vc56 {W : World} {Q : Ending → World → Prop} (p : Nat) (po : Nat)
 (hVC :
 ∀ k : Nat, ∀ W2 : World, k = W.heap.size → W2 = W.alloc (Obj.cells #[.pointer (some ⟨p, po, none⟩)] 80) → ∃ p2 : Option Addr, W2.cell? ⟨k, 0, none⟩ = some (.pointer p2) ∧
 Calls Tryz.prog 93 #[.pointer p2, Value.func (Fn.func 94) #[] #[.pointer (some ⟨k, 0, none⟩)]] W2 (fun e => fun W3 => (∃ p3 : Option Addr, e = .returned (.pointer p3) ∧
 Q (.returned (.pointer p3)) W3) ∨ (∃ l : List PanicEntry, e = Ending.panicked l ∧ Q (Ending.panicked l) W3))) :
 Calls Tryz.prog 56 #[.pointer (some ⟨p, po, none⟩)] W Q :=
 Sx.sound (pk := [1000052,1000091,53,50,51,93,94,95,111,112,113,130,131,132,144,171,172,54,128,142,129,56,26,55]) Tryz.func56 .leaf [Value.pointer (some ⟨p, po, none⟩)] rfl (Eq.mp (by kernel_rfl) hVC)
theorem vc94 {W : World} {Q : Ending → World → Prop} (fv0 : Nat) (fv0o : Nat)
 (hVC :
 ∀ vs : Array Value, vs = #[.slice none 0 0] → ∀ k : Nat, ∀ W2 : World, k = W.heap.size → W2 = W.alloc (Obj.cells (Value.cells (Value.agg vs)) 164) →
 ∃ p : Option Addr, W2.cell? ⟨fv0, fv0o, none⟩ = some (.pointer p) ∧ Calls Tryz.prog 53 #[.pointer p, .string ⟨#[123]⟩] W2 (fun e => fun W3 => (e = .returned (.tuple #[]) ∧
 ∃ I : World → Prop, ∃ I2 : World → Nat, I W3 ∧ ((Nat → Value) → ∀ W4 : World, I W4 → ∃ p2 : Option Addr, W4.cell? ⟨fv0, fv0o, none⟩ = some (.pointer p2) ∧
 Calls Tryz.prog 49 #[.pointer p2, .string ⟨#[125]⟩] W4 (fun e2 => fun W5 => ∃ t : Bool, e2 = .returned (.bool t) ∧ Sx.split (!t) (∀ W6 : World, W6 = World.drew W5 →
 ∃ p3 : Option Addr, W6.cell? ⟨fv0, fv0o, none⟩ = some (.pointer p3) ∧ ∃ p4 : Option Addr, ∃ k2 : Nat, ∃ k3 : Nat, W6.cell? ⟨k, 0, none⟩ = some (.slice p4 k2 k3) ∧
 Calls Tryz.prog 95 #[.pointer p3] W6 (fun e3 => fun W7 => (∃ v : Value, e3 = .returned v ∧
 (∃ p5 : Option Addr, ∃ k4 : Nat, ∃ k5 : Nat, W7.cell? ⟨k, 0, none⟩ = some (.slice p5 k4 k5) ∧ Value.slice p5 k4 k5 = Value.slice p4 k2 k3) ∧
 Sx.one v (∀ k6 : Nat, ∀ W8 : World, k6 = W7.heap.size → W8 = W7.alloc (Obj.cells #[v] 161) →
 (∃ p6 : Option Addr, ∃ k7 : Nat, ∃ k8 : Nat, W8.cell? ⟨k, 0, none⟩ = some (.slice p6 k7 k8) ∧ Value.slice p6 k7 k8 = Value.slice p4 k2 k3) ∧
 ∃ l : List Value, ∃ l2 : List Value, XHeap.Sl W8 161 1 (Value.slice p4 k2 k3) k2 l ∧ (((1 : Nat) = (0 : Nat) ∧ some (Addr.mk k6 0 none) = none) ∨
 (∃ a : Addr, some (Addr.mk k6 0 none) = some a ∧ ∀ k9 : Nat, ∀ v2 : Value, l2[k9]? = some v2 → W8.cell? (Addr.add a k9) = some v2)) ∧ List.length l2 = 1 ∧ (∀ v3 : Value, v3 ∈ l2 →
 Value.oneCell' v3 = true) ∧ k2 + 1 ≤ maxLen ∧ ((k2 + 1) * 16 ≤ 140737488355328 ∧
 ∀ p7 : Option Addr, ∀ k10 : Nat, ∀ W9 : World, XHeap.Sl W9 161 1 (Value.slice p7 (k2 + 1) k10) (k2 + 1) (l ++ l2) →
 XHeap.XTouch (fun b => Value.ownBlock (Value.slice p4 k2 k3) = some b) W8 W9 → (∀ k11 : Nat, Value.ownBlock (Value.slice p7 (k2 + 1) k10) = some k11 →
 (Value.ownBlock (Value.slice p4 k2 k3) = some k11) ∨ (W8.heap.size ≤ k11)) → XHeap.Sl W9 161 1 (Value.slice p4 k2 k3) k2 l → ((p7 = p4 ∧ k10 = k3) ∨ (((XHeap.NilP p4) ∨
 (k3 < k2 + 1)) ∧ ∀ k12 : Nat, Value.ownBlock (Value.slice p7 (k2 + 1) k10) = some k12 → W8.heap.size ≤ k12)) → (∃ v4 : Value, W9.cell? ⟨k, 0, none⟩ = some v4) ∧
 (W9.frozen? ⟨k, 0, none⟩ = false ∧ ∀ W10 : World, W10 = W9.setCell ⟨k, 0, none⟩ (Value.slice p7 (k2 + 1) k10) → I W10 ∧ I2 W10 < I2 W4)))) ∨
 (∃ l3 : List PanicEntry, e3 = Ending.panicked l3 ∧ Q (Ending.panicked l3) W7))) (Q (.returned (.pointer (some ⟨k, 0, none⟩))) W5)))) ∨
 (∃ l4 : List PanicEntry, e = Ending.panicked l4 ∧ Q (Ending.panicked l4) W3))) :
 Calls Tryz.prog 94 #[.pointer (some ⟨fv0, fv0o, none⟩)] W Q :=
 Sx.sound (pk := [1000052,1000091,53,50,51,93,94,95,111,112,113,130,131,132,144,171,172,54,128,142,129,56,26,55]) Tryz.func94 (.node [] [] 0 .leaf (.node [] [] 0 .leaf (.node [] [] 0 .leaf (.node [] [] 0 (.node [] [] 0 (.node [] [0, 2] 0 (.node [] [] 0 .leaf (.node [] [] 0 (.node [] [] 1001007 .leaf .leaf) .leaf)) .leaf) .leaf) .leaf)))) [Value.pointer (some ⟨fv0, fv0o, none⟩)] rfl (Eq.mp (by kernel_rfl) hVC)
theorem vc112 {W : World} {Q : Ending → World → Prop} (p : Nat) (po : Nat)
 (hVC :
 Calls Tryz.prog 113 #[.pointer (some ⟨p, po, none⟩)] W (fun e => fun W2 => (∃ v : Value, e = .returned v ∧
 Calls Tryz.prog 53 #[.pointer (some ⟨p, po, none⟩), .string ⟨#[59]⟩] W2 (fun e2 => fun W3 => (e2 = .returned (.tuple #[]) ∧ Q (.returned v) W3) ∨
 (∃ l : List PanicEntry, e2 = Ending.panicked l ∧ Q (Ending.panicked l) W3))) ∨ (∃ l2 : List PanicEntry, e = Ending.panicked l2 ∧ Q (Ending.panicked l2) W2))) :
 Calls Tryz.prog 112 #[.pointer (some ⟨p, po, none⟩)] W Q :=
 Sx.sound (pk := [1000052,1000091,53,50,51,93,94,95,111,112,113,130,131,132,144,171,172,54,128,142,129,56,26,55]) Tryz.func112 .leaf [Value.pointer (some ⟨p, po, none⟩)] rfl (Eq.mp (by kernel_rfl) hVC)
theorem vc95 {W : World} {Q : Ending → World → Prop} (arg0 : Nat) (arg0o : Nat)
 (hVC :
 Calls Tryz.prog 25 #[.pointer (some ⟨arg0, arg0o, none⟩)] W (fun e => fun W2 => ∃ vs : Array Value, e = .returned (.agg vs) ∧ ∀ k : Nat, ∀ W3 : World, k = W2.heap.size →
 W3 = W2.alloc (Obj.cells #[.int .u8 0, .string ⟨#[]⟩, .int .i64 0] 87) → vs.size = 3 ∧ (∀ k2 : Nat, k2 < 3 → (∃ v : Value, W3.cell? ⟨k, 0 + k2, none⟩ = some v) ∧
 W3.frozen? ⟨k, 0 + k2, none⟩ = false) ∧ ((∀ v2 : Value, v2 ∈ vs.toList → Value.oneCell' v2 = true) ∧ ∀ W4 : World, W4 = W3.setCells k 0 vs.toList →
 ∃ z : Int, W4.cell? ⟨k, 0, none⟩ = some (.int .u8 z) ∧ Sx.split (z == 1) (Calls Tryz.prog 111 #[.pointer (some ⟨arg0, arg0o, none⟩)] W4 (fun e2 => fun W5 =>
 (∃ v3 : Value, e2 = .returned v3 ∧ Q (.returned v3) W5) ∨ (∃ l : List PanicEntry, e2 = Ending.panicked l ∧ Q (Ending.panicked l) W5)))
 (Calls Tryz.prog 49 #[.pointer (some ⟨arg0, arg0o, none⟩), .string ⟨#[108, 101, 116]⟩] W4 (fun e3 => fun W6 => ∃ t : Bool, e3 = .returned (.bool t) ∧ Sx.split t
 (Calls Tryz.prog 50 #[.pointer (some ⟨arg0, arg0o, none⟩)] W6 (fun e4 => fun W7 => (∃ vs2 : Array Value, e4 = .returned (.agg vs2) ∧ ∀ k3 : Nat, ∀ W8 : World, k3 = W7.heap.size →
 W8 = W7.alloc (Obj.cells #[.int .u8 0, .string ⟨#[]⟩, .int .i64 0] 87) → vs2.size = 3 ∧ (∀ k4 : Nat, k4 < 3 → (∃ v4 : Value, W8.cell? ⟨k3, 0 + k4, none⟩ = some v4) ∧
 W8.frozen? ⟨k3, 0 + k4, none⟩ = false) ∧ ((∀ v5 : Value, v5 ∈ vs2.toList → Value.oneCell' v5 = true) ∧ ∀ W9 : World, W9 = W8.setCells k3 0 vs2.toList →
 Calls Tryz.prog 53 #[.pointer (some ⟨arg0, arg0o, none⟩), .string ⟨#[61]⟩] W9 (fun e5 => fun W10 => (e5 = .returned (.tuple #[]) ∧ ∀ W11 : World, W11 = World.drew W10 →
 ∃ vs3 : Array Value, vs3.size = 3 ∧ Sx.cellsAt W11 ⟨k, 0, none⟩ vs3 ∧ ∃ vs4 : Array Value, vs4.size = 3 ∧ Sx.cellsAt W11 ⟨k3, 0, none⟩ vs4 ∧ (vs4.size = 3 ∧
 ∀ vs5 : Array Value, vs5 = List.toArray (vs4.toList ++ [Value.int .i64 0, .int .i64 0]) → (∀ k5 : Nat, ∀ W12 : World, k5 = W11.heap.size →
 W12 = W11.alloc (Obj.cells (Value.cells (Value.agg vs5)) 221) → RowKit.Below (W11.heap.size) W11 W12 ∧ (∃ vs6 : Array Value, vs6.size = 3 ∧ Sx.cellsAt W12 ⟨k, 0, none⟩ vs6 ∧
 Value.agg vs6 = Value.agg vs3) ∧ Calls Tryz.prog 112 #[.pointer (some ⟨arg0, arg0o, none⟩)] W12 (fun e6 => fun W13 => (∃ v6 : Value, e6 = .returned v6 ∧
 (∃ vs7 : Array Value, vs7.size = 3 ∧ Sx.cellsAt W13 ⟨k, 0, none⟩ vs7 ∧ Value.agg vs7 = Value.agg vs3) ∧ vs3.size = 3 ∧
 Sx.one v6 (∀ vs8 : Array Value, vs8 = List.toArray (vs3.toList ++ [Value.pointer (some ⟨k5, 0, none⟩), v6, .bool true]) → ∀ k6 : Nat, ∀ W14 : World, k6 = W13.heap.size →
 W14 = W13.alloc (Obj.cells (Value.cells (Value.agg vs8)) 171) → Q (.returned (.iface 165 (Value.pointer (some ⟨k6, 0, none⟩)))) W14)) ∨
 (∃ l2 : List PanicEntry, e6 = Ending.panicked l2 ∧ Q (Ending.panicked l2) W13))) ∧ Calls Tryz.prog 112 #[.pointer (some ⟨arg0, arg0o, none⟩)] W11 (fun e7 => fun W15 =>
 (∃ v7 : Value, e7 = .returned v7 ∧ (∃ vs9 : Array Value, vs9.size = 3 ∧ Sx.cellsAt W15 ⟨k3, 0, none⟩ vs9 ∧ Value.agg vs9 = Value.agg vs4) ∧ ((∃ vs10 : Array Value, vs10.size = 3 ∧
 Sx.cellsAt W15 ⟨k, 0, none⟩ vs10 ∧ Value.agg vs10 = Value.agg vs3) ∧ ∀ k7 : Nat, ∀ W16 : World, k7 = W15.heap.size → W16 = W15.alloc (Obj.cells (Value.cells (Value.agg vs5)) 221) →
 (∃ vs11 : Array Value, vs11.size = 3 ∧ Sx.cellsAt W16 ⟨k, 0, none⟩ vs11 ∧ Value.agg vs11 = Value.agg vs3) ∧ vs3.size = 3 ∧
 Sx.one v7 (∀ vs12 : Array Value, vs12 = List.toArray (vs3.toList ++ [Value.pointer (some ⟨k7, 0, none⟩), v7, .bool true]) → ∀ k8 : Nat, ∀ W17 : World, k8 = W16.heap.size →
 W17 = W16.alloc (Obj.cells (Value.cells (Value.agg vs12)) 171) → Q (.returned (.iface 165 (Value.pointer (some ⟨k8, 0, none⟩)))) W17))) ∨
 (∃ l3 : List PanicEntry, e7 = Ending.panicked l3 ∧ Q (Ending.panicked l3) W15)))) ∨ (∃ l4 : List PanicEntry, e5 = Ending.panicked l4 ∧ Q (Ending.panicked l4) W10)))) ∨
 (∃ l5 : List PanicEntry, e4 = Ending.panicked l5 ∧ Q (Ending.panicked l5) W7)))
 (Calls Tryz.prog 49 #[.pointer (some ⟨arg0, arg0o, none⟩), .string ⟨#[114, 101, 116, 117, 114, 110]⟩] W6 (fun e8 => fun W18 => ∃ t2 : Bool, e8 = .returned (.bool t2) ∧ Sx.split t2
 (Calls Tryz.prog 112 #[.pointer (some ⟨arg0, arg0o, none⟩)] W18 (fun e9 => fun W19 => (∃ v8 : Value, e9 = .returned v8 ∧ Sx.one v8 (∀ vs13 : Array Value, vs13 = #[v8] →
 ∀ k9 : Nat, ∀ W20 : World, k9 = W19.heap.size → W20 = W19.alloc (Obj.cells (Value.cells (Value.agg vs13)) 189) →
 Q (.returned (.iface 187 (Value.pointer (some ⟨k9, 0, none⟩)))) W20)) ∨ (∃ l6 : List PanicEntry, e9 = Ending.panicked l6 ∧ Q (Ending.panicked l6) W19)))
 (Calls Tryz.prog 49 #[.pointer (some ⟨arg0, arg0o, none⟩), .string ⟨#[112, 114, 105, 110, 116]⟩] W18 (fun e10 => fun W21 => ∃ t3 : Bool, e10 = .returned (.bool t3) ∧ Sx.split t3
 (Calls Tryz.prog 112 #[.pointer (some ⟨arg0, arg0o, none⟩)] W21 (fun e11 => fun W22 => (∃ v9 : Value, e11 = .returned v9 ∧ Sx.one v9 (∀ vs14 : Array Value, vs14 = #[v9] →
 ∀ k10 : Nat, ∀ W23 : World, k10 = W22.heap.size → W23 = W22.alloc (Obj.cells (Value.cells (Value.agg vs14)) 191) →
 Q (.returned (.iface 190 (Value.pointer (some ⟨k10, 0, none⟩)))) W23)) ∨ (∃ l7 : List PanicEntry, e11 = Ending.panicked l7 ∧ Q (Ending.panicked l7) W22)))
 (Calls Tryz.prog 49 #[.pointer (some ⟨arg0, arg0o, none⟩), .string ⟨#[119, 104, 105, 108, 101]⟩] W21 (fun e12 => fun W24 => ∃ t4 : Bool, e12 = .returned (.bool t4) ∧ Sx.split t4
 (Calls Tryz.prog 113 #[.pointer (some ⟨arg0, arg0o, none⟩)] W24 (fun e13 => fun W25 => (∃ v10 : Value, e13 = .returned v10 ∧
 Calls Tryz.prog 56 #[.pointer (some ⟨arg0, arg0o, none⟩)] W25 (fun e14 => fun W26 => (∃ p : Option Addr, e14 = .returned (.pointer p) ∧
 Sx.one v10 (∀ vs15 : Array Value, vs15 = #[v10, .pointer p] → ∀ k11 : Nat, ∀ W27 : World, k11 = W26.heap.size → W27 = W26.alloc (Obj.cells (Value.cells (Value.agg vs15)) 186) →
 Q (.returned (.iface 184 (Value.pointer (some ⟨k11, 0, none⟩)))) W27)) ∨ (∃ l8 : List PanicEntry, e14 = Ending.panicked l8 ∧ Q (Ending.panicked l8) W26))) ∨
 (∃ l9 : List PanicEntry, e13 = Ending.panicked l9 ∧ Q (Ending.panicked l9) W25))) (Calls Tryz.prog 49 #[.pointer (some ⟨arg0, arg0o, none⟩), .string ⟨#[105, 102]⟩] W24 (fun e15 =>
 fun W28 => ∃ t5 : Bool, e15 = .returned (.bool t5) ∧ Sx.split t5 (Calls Tryz.prog 113 #[.pointer (some ⟨arg0, arg0o, none⟩)] W28 (fun e16 => fun W29 =>
 (∃ v11 : Value, e16 = .returned v11 ∧ Sx.one v11 (∀ vs16 : Array Value, vs16 = #[v11, .pointer none, .pointer none] → ∀ k12 : Nat, ∀ W30 : World, k12 = W29.heap.size →
 W30 = W29.alloc (Obj.cells (Value.cells (Value.agg vs16)) 183) → Calls Tryz.prog 56 #[.pointer (some ⟨arg0, arg0o, none⟩)] W30 (fun e17 => fun W31 =>
 (∃ p2 : Option Addr, e17 = .returned (.pointer p2) ∧ (∃ v12 : Value, W31.cell? ⟨k12, 0 + 1, none⟩ = some v12) ∧ (W31.frozen? ⟨k12, 0 + 1, none⟩ = false ∧
 ∀ W32 : World, W32 = W31.setCell ⟨k12, 0 + 1, none⟩ (Value.pointer p2) → Calls Tryz.prog 49 #[.pointer (some ⟨arg0, arg0o, none⟩), .string ⟨#[101, 108, 115, 101]⟩] W32 (fun e18 =>
 fun W33 => ∃ t6 : Bool, e18 = .returned (.bool t6) ∧ Sx.split t6 (Calls Tryz.prog 56 #[.pointer (some ⟨arg0, arg0o, none⟩)] W33 (fun e19 => fun W34 =>
 (∃ p3 : Option Addr, e19 = .returned (.pointer p3) ∧ (∃ v13 : Value, W34.cell? ⟨k12, 0 + 2, none⟩ = some v13) ∧ (W34.frozen? ⟨k12, 0 + 2, none⟩ = false ∧
 ∀ W35 : World, W35 = W34.setCell ⟨k12, 0 + 2, none⟩ (Value.pointer p3) → Q (.returned (.iface 181 (Value.pointer (some ⟨k12, 0, none⟩)))) W35)) ∨
 (∃ l10 : List PanicEntry, e19 = Ending.panicked l10 ∧ Q (Ending.panicked l10) W34))) (Q (.returned (.iface 181 (Value.pointer (some ⟨k12, 0, none⟩)))) W33)))) ∨
 (∃ l11 : List PanicEntry, e17 = Ending.panicked l11 ∧ Q (Ending.panicked l11) W31)))) ∨ (∃ l12 : List PanicEntry, e16 = Ending.panicked l12 ∧ Q (Ending.panicked l12) W29)))
 (Calls Tryz.prog 91 #[.pointer (some ⟨arg0, arg0o, none⟩), .int .i64 8] W28 (fun e20 => fun W36 => ∃ l13 : List PanicEntry, e20 = Ending.panicked l13 ∧
 Q (Ending.panicked l13) W36))))))))))))))) :
 Calls Tryz.prog 95 #[.pointer (some ⟨arg0, arg0o, none⟩)] W Q :=
 Sx.sound (pk := [1000052,1000091,53,50,51,93,94,95,111,112,113,130,131,132,144,171,172,54,128,142,129,56,26,55]) Tryz.func95 (.node [] [] 0 .leaf (.node [] [] 0 .leaf (.node [] [] 0 .leaf (.node [] [] 0 (.node [] [] 0 (.node [] [] 0 .leaf (.node [] [] 0 (.node [] [] 0 .leaf (.node [] [] 0 .leaf (.node [] [] 0 (.node [] [] 1001006 .leaf .leaf) .leaf))) .leaf)) .leaf) .leaf)))) [Value.pointer (some ⟨arg0, arg0o, none⟩)] rfl (Eq.mp (by kernel_rfl) hVC)
theorem vc111 {W : World} {Q : Ending → World → Prop} (p : Nat) (po : Nat)
 (hVC :
 Calls Tryz.prog 50 #[.pointer (some ⟨p, po, none⟩)] W (fun e => fun W2 => (∃ vs : Array Value, e = .returned (.agg vs) ∧ ∀ k : Nat, ∀ W3 : World, k = W2.heap.size →
 W3 = W2.alloc (Obj.cells #[.int .u8 0, .string ⟨#[]⟩, .int .i64 0] 87) → vs.size = 3 ∧ (∀ k2 : Nat, k2 < 3 → (∃ v : Value, W3.cell? ⟨k, 0 + k2, none⟩ = some v) ∧
 W3.frozen? ⟨k, 0 + k2, none⟩ = false) ∧ ((∀ v2 : Value, v2 ∈ vs.toList → Value.oneCell' v2 = true) ∧ ∀ W4 : World, W4 = W3.setCells k 0 vs.toList →
 Calls Tryz.prog 89 #[.pointer (some ⟨p, po, none⟩), .string ⟨#[40]⟩] W4 (fun e2 => fun W5 => ∃ t : Bool, e2 = .returned (.bool t) ∧ Sx.split t (∃ vs2 : Array Value, vs2.size = 3 ∧
 Sx.cellsAt W5 ⟨k, 0, none⟩ vs2 ∧ Calls Tryz.prog 128 #[.pointer (some ⟨p, po, none⟩), .agg vs2] W5 (fun e3 => fun W6 => (∃ p2 : Option Addr, e3 = .returned (.pointer p2) ∧
 Calls Tryz.prog 53 #[.pointer (some ⟨p, po, none⟩), .string ⟨#[59]⟩] W6 (fun e4 => fun W7 => (e4 = .returned (.tuple #[]) ∧ ∀ vs3 : Array Value, vs3 = #[.pointer p2] →
 ∀ k3 : Nat, ∀ W8 : World, k3 = W7.heap.size → W8 = W7.alloc (Obj.cells (Value.cells (Value.agg vs3)) 195) → Q (.returned (.iface 192 (Value.pointer (some ⟨k3, 0, none⟩)))) W8) ∨
 (∃ l : List PanicEntry, e4 = Ending.panicked l ∧ Q (Ending.panicked l) W7))) ∨ (∃ l2 : List PanicEntry, e3 = Ending.panicked l2 ∧ Q (Ending.panicked l2) W6)))
 (Calls Tryz.prog 89 #[.pointer (some ⟨p, po, none⟩), .string ⟨#[91]⟩] W5 (fun e5 => fun W9 => ∃ t2 : Bool, e5 = .returned (.bool t2) ∧ Sx.split t2
 (∃ vs4 : Array Value, vs4.size = 3 ∧ Sx.cellsAt W9 ⟨k, 0, none⟩ vs4 ∧ Calls Tryz.prog 129 #[.pointer (some ⟨p, po, none⟩), .agg vs4] W9 (fun e6 => fun W10 =>
 (∃ p3 : Option Addr, e6 = .returned (.pointer p3) ∧ Calls Tryz.prog 53 #[.pointer (some ⟨p, po, none⟩), .string ⟨#[61]⟩] W10 (fun e7 => fun W11 => (e7 = .returned (.tuple #[]) ∧
 Calls Tryz.prog 112 #[.pointer (some ⟨p, po, none⟩)] W11 (fun e8 => fun W12 => (∃ v3 : Value, e8 = .returned v3 ∧ Sx.one v3 (∀ vs5 : Array Value, vs5 = #[.pointer p3, v3] →
 ∀ k4 : Nat, ∀ W13 : World, k4 = W12.heap.size → W13 = W12.alloc (Obj.cells (Value.cells (Value.agg vs5)) 179) →
 Q (.returned (.iface 174 (Value.pointer (some ⟨k4, 0, none⟩)))) W13)) ∨ (∃ l3 : List PanicEntry, e8 = Ending.panicked l3 ∧ Q (Ending.panicked l3) W12))) ∨
 (∃ l4 : List PanicEntry, e7 = Ending.panicked l4 ∧ Q (Ending.panicked l4) W11))) ∨ (∃ l5 : List PanicEntry, e6 = Ending.panicked l5 ∧ Q (Ending.panicked l5) W10)))
 (Calls Tryz.prog 53 #[.pointer (some ⟨p, po, none⟩), .string ⟨#[61]⟩] W9 (fun e9 => fun W14 => (e9 = .returned (.tuple #[]) ∧ ∀ W15 : World, W15 = World.drew W14 →
 ∃ vs6 : Array Value, vs6.size = 3 ∧ Sx.cellsAt W15 ⟨k, 0, none⟩ vs6 ∧ ∃ vs7 : Array Value, vs7.size = 3 ∧ Sx.cellsAt W15 ⟨k, 0, none⟩ vs7 ∧ (vs7.size = 3 ∧
 ∀ vs8 : Array Value, vs8 = List.toArray (vs7.toList ++ [Value.int .i64 0, .int .i64 0]) → (∀ k5 : Nat, ∀ W16 : World, k5 = W15.heap.size →
 W16 = W15.alloc (Obj.cells (Value.cells (Value.agg vs8)) 221) → RowKit.Below (W15.heap.size) W15 W16 ∧ (∃ vs9 : Array Value, vs9.size = 3 ∧ Sx.cellsAt W16 ⟨k, 0, none⟩ vs9 ∧
 Value.agg vs9 = Value.agg vs6) ∧ Calls Tryz.prog 112 #[.pointer (some ⟨p, po, none⟩)] W16 (fun e10 => fun W17 => (∃ v4 : Value, e10 = .returned v4 ∧
 (∃ vs10 : Array Value, vs10.size = 3 ∧ Sx.cellsAt W17 ⟨k, 0, none⟩ vs10 ∧ Value.agg vs10 = Value.agg vs6) ∧ vs6.size = 3 ∧
 Sx.one v4 (∀ vs11 : Array Value, vs11 = List.toArray (vs6.toList ++ [Value.pointer (some ⟨k5, 0, none⟩), v4, .bool false]) → ∀ k6 : Nat, ∀ W18 : World, k6 = W17.heap.size →
 W18 = W17.alloc (Obj.cells (Value.cells (Value.agg vs11)) 171) → Q (.returned (.iface 165 (Value.pointer (some ⟨k6, 0, none⟩)))) W18)) ∨
 (∃ l6 : List PanicEntry, e10 = Ending.panicked l6 ∧ Q (Ending.panicked l6) W17))) ∧ Calls Tryz.prog 112 #[.pointer (some ⟨p, po, none⟩)] W15 (fun e11 => fun W19 =>
 (∃ v5 : Value, e11 = .returned v5 ∧ (∃ vs12 : Array Value, vs12.size = 3 ∧ Sx.cellsAt W19 ⟨k, 0, none⟩ vs12 ∧ Value.agg vs12 = Value.agg vs7) ∧
 ((∃ vs13 : Array Value, vs13.size = 3 ∧ Sx.cellsAt W19 ⟨k, 0, none⟩ vs13 ∧ Value.agg vs13 = Value.agg vs6) ∧ ∀ k7 : Nat, ∀ W20 : World, k7 = W19.heap.size →
 W20 = W19.alloc (Obj.cells (Value.cells (Value.agg vs8)) 221) → (∃ vs14 : Array Value, vs14.size = 3 ∧ Sx.cellsAt W20 ⟨k, 0, none⟩ vs14 ∧ Value.agg vs14 = Value.agg vs6) ∧
 vs6.size = 3 ∧ Sx.one v5 (∀ vs15 : Array Value, vs15 = List.toArray (vs6.toList ++ [Value.pointer (some ⟨k7, 0, none⟩), v5, .bool false]) →
 ∀ k8 : Nat, ∀ W21 : World, k8 = W20.heap.size → W21 = W20.alloc (Obj.cells (Value.cells (Value.agg vs15)) 171) →
 Q (.returned (.iface 165 (Value.pointer (some ⟨k8, 0, none⟩)))) W21))) ∨ (∃ l7 : List PanicEntry, e11 = Ending.panicked l7 ∧ Q (Ending.panicked l7) W19)))) ∨
 (∃ l8 : List PanicEntry, e9 = Ending.panicked l8 ∧ Q (Ending.panicked l8) W14)))))))) ∨ (∃ l9 : List PanicEntry, e = Ending.panicked l9 ∧ Q (Ending.panicked l9) W2))) :
 Calls Tryz.prog 111 #[.pointer (some ⟨p, po, none⟩)] W Q :=
 Sx.sound (pk := [1000052,1000091,53,50,51,93,94,95,111,112,113,130,131,132,144,171,172,54,128,142,129,56,26,55]) Tryz.func111 (.node [] [] 0 .leaf (.node [] [] 0 .leaf (.node [] [] 0 .leaf (.node [] [] 0 .leaf (.node [] [] 0 (.node [] [] 1001006 .leaf .leaf) .leaf))))) [Value.pointer (some ⟨p, po, none⟩)] rfl (Eq.mp (by kernel_rfl) hVC)
end Go.Proofs.YtojogkljneonmaaGreatDoor
