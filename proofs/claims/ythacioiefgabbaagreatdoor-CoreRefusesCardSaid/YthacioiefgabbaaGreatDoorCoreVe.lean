/- What each function asks, reckoned out of its text; printed by a program of mine (wip/tpl/VcTool.lean). No condition. -/
import Derived.Test.YthacioiefgabbaaGreatDoorSxB
import Derived.Test.YthacioiefgabbaaGreatDoorChecked
namespace Go.Proofs.YthacioiefgabbaaGreatDoor
open Go Go.Proofs
set_option linter.unusedVariables false
set_option maxRecDepth 100000
theorem vc24 {W : World} {Q : Ending → World → Prop} (arg0 : Int) (arg1 : Option Addr) (arg1n : Nat) (arg1c : Nat) (arg2 : Int) (arg3 : Array Value) (arg4 : Nat) (arg4o : Nat) (arg5 : Nat) (arg5o : Nat)
 (hVC :
 (∀ k : Nat, (∀ W2 : World, (k = Array.size (World.heap W) →
 (W2 = World.alloc W (Obj.cells (Value.cells (Value.agg arg3)) 29) →
 (∃ vs : Array Value, (Array.size vs = 15 ∧
 (Sx.cellsAt W2 (.mk k 0 none) vs ∧
 Calls Tryz.prog 42 #[.agg vs] W2 (fun e =>
 (fun W3 =>
 (∃ v : Value, (e = .returned v ∧
 Sx.isNil v (fun t =>
 Sx.split (!t)
 (Q (.returned (.tuple #[.pointer none, v])) W3)
 ((∃ vs2 : Array Value, (Array.size vs2 = 15 ∧
 (Sx.cellsAt W3 (.mk k 0 none) vs2 ∧
 (Array.size vs2 = 15 ∧
 (∀ vs3 : Array Value, (vs3 = List.toArray (Value.pointer none :: Value.pointer none :: Value.pointer none :: Value.pointer none :: Value.pointer none :: Value.pointer none :: Value.pointer none :: Value.slice none 0 0 :: (Array.toList vs2 ++ [Value.int .i64 arg0, .slice arg1 arg1n arg1c, .int .i64 arg2, .int .u32 0, .int .u32 0, .slice none 0 0, .int .i64 0, .bool false, .bool false, .int .u32 0, .bool false])) →
 (∀ k2 : Nat, (∀ W4 : World, (k2 = Array.size (World.heap W3) →
 (W4 = World.alloc W3 (Obj.cells (Value.cells (Value.agg vs3)) 147) →
 ((∃ v2 : Value, World.cell? W4 (.mk k2 (0 + 5) none) = some v2) ∧
 (World.frozen? W4 (.mk k2 (0 + 5) none) = false ∧
 (∀ W5 : World, (W5 = World.setCell W4 (.mk k2 (0 + 5) none) (Value.pointer (some (Addr.mk arg4 arg4o none))) →
 ((∃ v3 : Value, World.cell? W5 (.mk k2 (0 + 6) none) = some v3) ∧
 (World.frozen? W5 (.mk k2 (0 + 6) none) = false ∧
 (∀ W6 : World, (W6 = World.setCell W5 (.mk k2 (0 + 6) none) (Value.pointer (some (Addr.mk arg5 arg5o none))) →
 Calls Tryz.prog 43 #[.int .i64 arg0] W6 (fun e2 =>
 (fun W7 =>
 (∃ p : Option Addr, (e2 = .returned (.pointer p) ∧
 ((∃ v4 : Value, World.cell? W7 (.mk k2 (0 + 4) none) = some v4) ∧
 (World.frozen? W7 (.mk k2 (0 + 4) none) = false ∧
 (∀ W8 : World, (W8 = World.setCell W7 (.mk k2 (0 + 4) none) (Value.pointer p) →
 (∀ k3 : Nat, (∀ W9 : World, (k3 = Array.size (World.heap W8) →
 (W9 = World.alloc W8 (Obj.cells #[.nilIface, .nilIface, .nilIface, .nilIface] 149) →
 (∃ z : Int, (World.cell? W9 (.mk k (0 + 1) none) = some (.int .i64 z) ∧
 (∃ z2 : Int, (World.cell? W9 (.mk k (0 + 3) none) = some (.int .i64 z2) ∧
 Calls Tryz.prog 44 #[.int .i64 z, .int .i64 (if 34 > z2 then 34 else z2)] W9 (fun e3 =>
 (fun W10 =>
 (∃ p2 : Option Addr, (∃ v5 : Value, (e3 = .returned (.tuple #[.pointer p2, v5]) ∧
 ((∃ v6 : Value, World.cell? W10 (.mk k2 0 none) = some v6) ∧
 (World.frozen? W10 (.mk k2 0 none) = false ∧
 (∀ W11 : World, (W11 = World.setCell W10 (.mk k2 0 none) (Value.pointer p2) →
 (((0 : Int) ≤ (0 : Int) ∧
 (0 : Int) < (↑(4 : Nat) : Int)) ∧
 Sx.one v5 (((∃ v7 : Value, World.cell? W11 (.mk k3 0 none) = some v7) ∧
 (World.frozen? W11 (.mk k3 0 none) = false ∧
 (∀ W12 : World, (W12 = World.setCell W11 (.mk k3 0 none) v5 →
 (∃ z3 : Int, (World.cell? W12 (.mk k (0 + 3) none) = some (.int .i64 z3) ∧
 Calls Tryz.prog 45 #[.int .i64 z3] W12 (fun e4 =>
 (fun W13 =>
 (∃ p3 : Option Addr, (∃ v8 : Value, (e4 = .returned (.tuple #[.pointer p3, v8]) ∧
 ((∃ v9 : Value, World.cell? W13 (.mk k2 (0 + 1) none) = some v9) ∧
 (World.frozen? W13 (.mk k2 (0 + 1) none) = false ∧
 (∀ W14 : World, (W14 = World.setCell W13 (.mk k2 (0 + 1) none) (Value.pointer p3) →
 (((0 : Int) ≤ (1 : Int) ∧
 (1 : Int) < (↑(4 : Nat) : Int)) ∧
 Sx.one v8 (((∃ v10 : Value, World.cell? W14 (.mk k3 1 none) = some v10) ∧
 (World.frozen? W14 (.mk k3 1 none) = false ∧
 (∀ W15 : World, (W15 = World.setCell W14 (.mk k3 1 none) v8 →
 (∃ z4 : Int, (World.cell? W15 (.mk k (0 + 2) none) = some (.int .i64 z4) ∧
 Calls Tryz.prog 46 #[.int .i64 z4] W15 (fun e5 =>
 (fun W16 =>
 (∃ p4 : Option Addr, (∃ v11 : Value, (e5 = .returned (.tuple #[.pointer p4, v11]) ∧
 ((∃ v12 : Value, World.cell? W16 (.mk k2 (0 + 2) none) = some v12) ∧
 (World.frozen? W16 (.mk k2 (0 + 2) none) = false ∧
 (∀ W17 : World, (W17 = World.setCell W16 (.mk k2 (0 + 2) none) (Value.pointer p4) →
 (((0 : Int) ≤ (2 : Int) ∧
 (2 : Int) < (↑(4 : Nat) : Int)) ∧
 Sx.one v11 (((∃ v13 : Value, World.cell? W17 (.mk k3 2 none) = some v13) ∧
 (World.frozen? W17 (.mk k3 2 none) = false ∧
 (∀ W18 : World, (W18 = World.setCell W17 (.mk k3 2 none) v11 →
 (∃ vs4 : Array Value, (Array.size vs4 = 5 ∧
 (Sx.cellsAt W18 (.mk k (0 + 7) none) vs4 ∧
 Calls Tryz.prog 47 #[.agg vs4] W18 (fun e6 =>
 (fun W19 =>
 (∃ p5 : Option Addr, (∃ v14 : Value, (e6 = .returned (.tuple #[.pointer p5, v14]) ∧
 ((∃ v15 : Value, World.cell? W19 (.mk k2 (0 + 3) none) = some v15) ∧
 (World.frozen? W19 (.mk k2 (0 + 3) none) = false ∧
 (∀ W20 : World, (W20 = World.setCell W19 (.mk k2 (0 + 3) none) (Value.pointer p5) →
 (((0 : Int) ≤ (3 : Int) ∧
 (3 : Int) < (↑(4 : Nat) : Int)) ∧
 Sx.one v14 (((∃ v16 : Value, World.cell? W20 (.mk k3 3 none) = some v16) ∧
 (World.frozen? W20 (.mk k3 3 none) = false ∧
 (∀ W21 : World, (W21 = World.setCell W20 (.mk k3 3 none) v14 →
 (∃ vs5 : Array Value, (Array.size vs5 = 4 ∧
 (Sx.cellsAt W21 (.mk k3 0 none) vs5 ∧
 (∃ I : Int → World → Prop, (∃ I2 : Int → World → Nat, (I 0 W21 ∧
 ((Nat → Value) →
 (∀ x : Int, (∀ W22 : World, (I x W22 →
 Sx.split (decide (x < 4))
 ((((0 : Int) ≤ x ∧
 x < (↑4 : Int)) ∧
 (∃ v17 : Value, (vs5[Int.toNat x * 1]? = some v17 ∧
 Sx.isNil v17 (fun t2 =>
 Sx.split (!t2)
 (Q (.returned (.tuple #[.pointer none, v17])) W22)
 ((∀ z5 : Int, (z5 = IntKind.wrap .i64 (x + 1) →
 (I z5 W22 ∧
 I2 z5 W22 < I2 x W22)))))))))
 ((∃ z6 : Int, (World.cell? W22 (.mk k (0 + 3) none) = some (.int .i64 z6) ∧
 (((0 : Int) ≤ z6 ∧
 (z6 ≤ z6 ∧
 (z6 ≤ 9223372036854775807 ∧
 (↑4 : Int) * z6 ≤ 281474976710656))) ∧
 (∀ k4 : Nat, (∀ W23 : World, (k4 = Array.size (World.heap W22) →
 (W23 = World.alloc W22 (Obj.cells (madeCells #[.int .u32 0] (Int.toNat z6 * 1)) 43) →
 ((∃ v18 : Value, World.cell? W23 (.mk k2 (0 + 7) none) = some v18) ∧
 (World.frozen? W23 (.mk k2 (0 + 7) none) = false ∧
 (∀ W24 : World, (W24 = World.setCell W23 (.mk k2 (0 + 7) none) (Value.slice (some (Addr.mk k4 0 none)) (Int.toNat z6) (Int.toNat z6)) →
 Q (.returned (.tuple #[.pointer (some (Addr.mk k2 0 none)), .nilIface])) W24))))))))))))))))))))))))))))))))))))))))))))))))))))))))))))))))))))))))))))))))))))))))))))))))))))))))))))))))))))))))))))))))))))))))) :
 Calls Tryz.prog 24 #[.int .i64 arg0, .slice arg1 arg1n arg1c, .int .i64 arg2, .agg arg3, .pointer (some ⟨arg4, arg4o, none⟩), .pointer (some ⟨arg5, arg5o, none⟩)] W Q :=
 Sx.sound Tryz.func24 (.node [] [] 0 .leaf (.node [] [] 0 .leaf (.node [] [] 0 .leaf (.node [] [] 0 .leaf (.node [] [] 0 .leaf (.node [] [] 0 .leaf (.node [] [] 0 .leaf (.node [] [] 0 .leaf (.node [] [] 0 .leaf (.node [] [] 0 .leaf (.node [] [] 0 (.node [] [] 0 .leaf (.node [] [] 0 (.node [(94, .int .i64)] [93, 15, 9] 0 .leaf .leaf) .leaf)) .leaf))))))))))) [Value.int .i64 arg0, .slice arg1 arg1n arg1c, .int .i64 arg2, .agg arg3, .pointer (some ⟨arg4, arg4o, none⟩), .pointer (some ⟨arg5, arg5o, none⟩)] rfl (Eq.mp (by kernel_rfl) hVC)
theorem vc7 {W : World} {Q : Ending → World → Prop} (code : Option Addr) (coden : Nat) (codec : Nat) (data : Option Addr) (datan : Nat) (datac : Nat) (c : Array Value) (lines : Option Addr) (linesn : Nat) (linesc : Nat) (cycles : Int)
 (hVC :
 (∀ k : Nat, (∀ W2 : World, (k = Array.size (World.heap W) →
 (W2 = World.alloc W (Obj.cells (Value.cells (Value.agg c)) 29) →
 (∀ k2 : Nat, (∀ W3 : World, (k2 = Array.size (World.heap W2) →
 (W3 = World.alloc W2 (Obj.cells #[.bool false, .int .i64 0, .slice none 0 0, .string (ByteArray.mk #[]), .slice none 0 0, .slice none 0 0] 38) →
 (∀ k3 : Nat, (∀ W4 : World, (k3 = Array.size (World.heap W3) →
 (W4 = World.alloc W3 (Obj.cells #[.slice code coden codec] 44) →
 (∃ vs : Array Value, (Array.size vs = 15 ∧
 (Sx.cellsAt W4 (.mk k 0 none) vs ∧
 (Array.size vs = 15 ∧
 (∀ k4 : Nat, (∀ W5 : World, (k4 = Array.size (World.heap W4) →
 (W5 = World.alloc W4 (Obj.cells (List.toArray (Array.toList vs ++ [])) 29) →
 (∀ k5 : Nat, (∀ W6 : World, (k5 = Array.size (World.heap W5) →
 (W6 = World.alloc W5 (Obj.cells #[.slice lines linesn linesc] 57) →
 Calls Tryz.prog 14 #[.slice (some (Addr.mk k3 0 none)) 1 1, .slice data datan datac, .slice (some (Addr.mk k4 0 none)) 1 1, .slice (some (Addr.mk k5 0 none)) 1 1, .int .i64 cycles] W6 (fun e =>
 (fun W7 =>
 (∃ vs2 : Array Value, (∃ v : Value, (e = .returned (.tuple #[.agg vs2, v]) ∧
 (Array.size vs2 = 6 ∧
 ((∀ k6 : Nat, (k6 < 6 →
 ((∃ v2 : Value, World.cell? W7 (.mk k2 (0 + k6) none) = some v2) ∧
 World.frozen? W7 (.mk k2 (0 + k6) none) = false))) ∧
 ((∀ v3 : Value, (v3 ∈ Array.toList vs2 →
 Value.oneCell' v3 = true)) ∧
 (∀ W8 : World, (W8 = World.setCells W7 k2 0 (Array.toList vs2) →
 (∃ vs3 : Array Value, (Array.size vs3 = 6 ∧
 (Sx.cellsAt W8 (.mk k2 0 none) vs3 ∧
 Q (.returned (.tuple #[.agg vs3, v])) W8)))))))))))))))))))))))))))))))))))))) :
 Calls Tryz.prog 7 #[.slice code coden codec, .slice data datan datac, .agg c, .slice lines linesn linesc, .int .i64 cycles] W Q :=
 Sx.sound Tryz.func7 .leaf [Value.slice code coden codec, .slice data datan datac, .agg c, .slice lines linesn linesc, .int .i64 cycles] rfl (Eq.mp (by kernel_rfl) hVC)
theorem vc13 {W : World} {Q : Ending → World → Prop} (c : Int) (n : Int)
 (hVC :
 Sx.split (decide (c < 0))
 ((∀ z : Int, (z = IntKind.wrap .i64 (c + 1) →
 (n ≠ 0 ∧
 (∀ z2 : Int, (z2 = Int.tmod (IntKind.wrap .i64 (0 - z)) n →
 Q (.returned (.int .i64 z2)) W))))))
 ((n ≠ 0 ∧
 (∀ z3 : Int, (z3 = Int.tmod c n →
 Q (.returned (.int .i64 z3)) W))))) :
 Calls Tryz.prog 13 #[.int .i64 c, .int .i64 n] W Q :=
 Sx.sound Tryz.func13 .leaf [Value.int .i64 c, .int .i64 n] rfl (Eq.mp (by kernel_rfl) hVC)
theorem vc6 {W : World} {Q : Ending → World → Prop} (s : Array Value)
 (hVC :
 (∀ k : Nat, (∀ W2 : World, (k = Array.size (World.heap W) →
 (W2 = World.alloc W (Obj.cells (Value.cells (Value.agg s)) 23) →
 (∀ k2 : Nat, (∀ W3 : World, (k2 = Array.size (World.heap W2) →
 (W3 = World.alloc W2 (Obj.cells #[.int .i64 0, .int .i64 0, .int .i64 0, .int .i64 0, .int .i64 0, .int .i64 0, .bool false, .int .i64 0, .int .i64 0, .int .i64 0, .int .i64 0, .int .i64 0, .int .i64 0, .int .i64 0, .int .i64 0] 29) →
 (∃ z : Int, (World.cell? W3 (.mk k (0 + 7) none) = some (.int .i64 z) ∧
 Calls Tryz.prog 13 #[.int .i64 z, .int .i64 10] W3 (fun e =>
 (fun W4 =>
 (∃ z2 : Int, (e = .returned (.int .i64 z2) ∧
 (∀ z3 : Int, (z3 = IntKind.wrap .i64 (1 + z2) →
 (∀ W5 : World, (W5 = World.drew W4 →
 (∃ z4 : Int, (World.cell? W5 (.mk k 0 none) = some (.int .i64 z4) ∧
 (∃ z5 : Int, (Calls Tryz.prog 13 #[.int .i64 z4, .int .i64 4] W5 (fun e2 =>
 (fun W6 =>
 (e2 = .returned (.int .i64 z5) ∧
 W6 = W5))) ∧
 (∀ z6 : Int, (z6 = IntKind.wrap .i64 (1 + z5) →
 (∃ z7 : Int, (World.cell? W5 (.mk k (0 + 1) none) = some (.int .i64 z7) ∧
 (∃ z8 : Int, (Calls Tryz.prog 13 #[.int .i64 z7, .int .i64 63] W5 (fun e3 =>
 (fun W7 =>
 (e3 = .returned (.int .i64 z8) ∧
 W7 = W5))) ∧
 (∀ z9 : Int, (z9 = IntKind.wrap .i64 (2 + z8) →
 (∃ z10 : Int, (World.cell? W5 (.mk k (0 + 2) none) = some (.int .i64 z10) ∧
 (∃ z11 : Int, (Calls Tryz.prog 13 #[.int .i64 z10, .int .i64 32] W5 (fun e4 =>
 (fun W8 =>
 (e4 = .returned (.int .i64 z11) ∧
 W8 = W5))) ∧
 (∀ z12 : Int, (z12 = IntKind.wrap .i64 (1 + z11) →
 (∃ z13 : Int, (World.cell? W5 (.mk k (0 + 3) none) = some (.int .i64 z13) ∧
 (∃ z14 : Int, (Calls Tryz.prog 13 #[.int .i64 z13, .int .i64 95] W5 (fun e5 =>
 (fun W9 =>
 (e5 = .returned (.int .i64 z14) ∧
 W9 = W5))) ∧
 (∀ z15 : Int, (z15 = IntKind.wrap .i64 (34 + z14) →
 (∃ z16 : Int, (World.cell? W5 (.mk k (0 + 4) none) = some (.int .i64 z16) ∧
 (∃ z17 : Int, (Calls Tryz.prog 13 #[.int .i64 z16, .int .i64 4] W5 (fun e6 =>
 (fun W10 =>
 (e6 = .returned (.int .i64 z17) ∧
 W10 = W5))) ∧
 (∀ z18 : Int, (z18 = IntKind.wrap .i64 (1 + z17) →
 (∃ z19 : Int, (World.cell? W5 (.mk k (0 + 5) none) = some (.int .i64 z19) ∧
 (∃ z20 : Int, (Calls Tryz.prog 13 #[.int .i64 z19, .int .i64 10] W5 (fun e7 =>
 (fun W11 =>
 (e7 = .returned (.int .i64 z20) ∧
 W11 = W5))) ∧
 (∀ z21 : Int, (z21 = IntKind.wrap .i64 (1 + z20) →
 (∃ t : Bool, (World.cell? W5 (.mk k (0 + 14) none) = some (.bool t) ∧
 (∃ z22 : Int, (World.cell? W5 (.mk k (0 + 6) none) = some (.int .i64 z22) ∧
 (∃ z23 : Int, (Calls Tryz.prog 13 #[.int .i64 z22, .int .i64 4] W5 (fun e8 =>
 (fun W12 =>
 (e8 = .returned (.int .i64 z23) ∧
 W12 = W5))) ∧
 (∃ z24 : Int, (World.cell? W5 (.mk k (0 + 8) none) = some (.int .i64 z24) ∧
 (∀ z25 : Int, (z25 = IntKind.wrap .i64 (z3 + 1) →
 (∃ z26 : Int, (Calls Tryz.prog 13 #[.int .i64 z24, .int .i64 z25] W5 (fun e9 =>
 (fun W13 =>
 (e9 = .returned (.int .i64 z26) ∧
 W13 = W5))) ∧
 (∃ z27 : Int, (World.cell? W5 (.mk k (0 + 9) none) = some (.int .i64 z27) ∧
 (∃ z28 : Int, (Calls Tryz.prog 13 #[.int .i64 z27, .int .i64 9] W5 (fun e10 =>
 (fun W14 =>
 (e10 = .returned (.int .i64 z28) ∧
 W14 = W5))) ∧
 (∃ z29 : Int, (World.cell? W5 (.mk k (0 + 10) none) = some (.int .i64 z29) ∧
 (∃ z30 : Int, (Calls Tryz.prog 13 #[.int .i64 z29, .int .i64 16] W5 (fun e11 =>
 (fun W15 =>
 (e11 = .returned (.int .i64 z30) ∧
 W15 = W5))) ∧
 (∀ z31 : Int, (z31 = IntKind.wrap .i64 (1 + z30) →
 (∀ vs : Array Value, (vs = #[.int .i64 z23, .int .i64 z3, .int .i64 z26, .int .i64 z28, .int .i64 z31] →
 (∃ z32 : Int, (World.cell? W5 (.mk k (0 + 11) none) = some (.int .i64 z32) ∧
 (∃ z33 : Int, (Calls Tryz.prog 13 #[.int .i64 z32, .int .i64 5] W5 (fun e12 =>
 (fun W16 =>
 (e12 = .returned (.int .i64 z33) ∧
 W16 = W5))) ∧
 ((0 : Int) ≤ z33 ∧
 (∀ z34 : Int, (z34 = IntKind.wrap .i64 (1 * 2 ^ min (Int.toNat z33) (IntKind.bits .i64)) →
 (∃ z35 : Int, (World.cell? W5 (.mk k (0 + 12) none) = some (.int .i64 z35) ∧
 (∃ z36 : Int, (Calls Tryz.prog 13 #[.int .i64 z35, .int .i64 4] W5 (fun e13 =>
 (fun W17 =>
 (e13 = .returned (.int .i64 z36) ∧
 W17 = W5))) ∧
 (∀ z37 : Int, (z37 = IntKind.wrap .i64 (1 + z36) →
 (∀ vs2 : Array Value, (vs2 = #[.int .i64 z34, .int .i64 z37] →
 (∃ z38 : Int, (World.cell? W5 (.mk k (0 + 13) none) = some (.int .i64 z38) ∧
 (∃ z39 : Int, (Calls Tryz.prog 13 #[.int .i64 z38, .int .i64 11] W5 (fun e14 =>
 (fun W18 =>
 (e14 = .returned (.int .i64 z39) ∧
 W18 = W5))) ∧
 (Array.size vs = 5 ∧
 (Array.size vs2 = 2 ∧
 (∀ vs3 : Array Value, (vs3 = List.toArray (Value.int .i64 z6 :: Value.int .i64 z9 :: Value.int .i64 z12 :: Value.int .i64 z15 :: Value.int .i64 z18 :: Value.int .i64 z21 :: Value.bool t :: (Array.toList vs ++ (Array.toList vs2 ++ [Value.int .i64 z39]))) →
 (Array.size vs3 = 15 ∧
 ((∀ k3 : Nat, (k3 < 15 →
 ((∃ v : Value, World.cell? W5 (.mk k2 (0 + k3) none) = some v) ∧
 World.frozen? W5 (.mk k2 (0 + k3) none) = false))) ∧
 ((∀ v2 : Value, (v2 ∈ Array.toList vs3 →
 Value.oneCell' v2 = true)) ∧
 (∀ W19 : World, (W19 = World.setCells W5 k2 0 (Array.toList vs3) →
 (∃ vs4 : Array Value, (Array.size vs4 = 15 ∧
 (Sx.cellsAt W19 (.mk k2 0 none) vs4 ∧
 Q (.returned (.agg vs4)) W19)))))))))))))))))))))))))))))))))))))))))))))))))))))))))))))))))))))))))))))))))))))))))))))))))))))))))))))) :
 Calls Tryz.prog 6 #[.agg s] W Q :=
 Sx.sound Tryz.func6 (.node [] [] 0 .leaf (.node [] [] 0 .leaf (.node [] [] 0 (.node [] [] 57 .leaf .leaf) .leaf))) [Value.agg s] rfl (Eq.mp (by kernel_rfl) hVC)
theorem vc5 {W : World} {Q : Ending → World → Prop} (arg0 : Array Value) (arg1 : Int) (arg2 : Int)
 (hVC :
 (∀ k : Nat, (∀ W2 : World, (k = Array.size (World.heap W) →
 (W2 = World.alloc W (Obj.cells (Value.cells (Value.agg arg0)) 29) →
 (∀ k2 : Nat, (∀ W3 : World, (k2 = Array.size (World.heap W2) →
 (W3 = World.alloc W2 (Obj.cells #[.int .i64 0, .int .i64 0, .int .i64 0, .int .i64 0, .int .i64 0, .int .i64 0, .bool false, .int .i64 0, .int .i64 0, .int .i64 0, .int .i64 0, .int .i64 0, .int .i64 0, .int .i64 0, .int .i64 0] 29) →
 Calls Tryz.prog 13 #[.int .i64 arg1, .int .i64 14] W3 (fun e =>
 (fun W4 =>
 (∃ z : Int, (e = .returned (.int .i64 z) ∧
 (∀ k3 : Nat, (∀ W5 : World, (k3 = Array.size (World.heap W4) →
 (W5 = World.alloc W4 (Obj.cells #[.int .i64 1, .int .i64 2, .int .i64 1, .int .i64 34, .int .i64 1, .int .i64 1, .int .i64 0, .int .i64 1, .int .i64 0, .int .i64 0, .int .i64 1, .int .i64 1, .int .i64 1, .int .i64 0] 3) →
 (∃ z2 : Int, (World.cell? W5 (.mk k (0 + 7 + 1) none) = some (.int .i64 z2) ∧
 (∀ k4 : Nat, (∀ W6 : World, (k4 = Array.size (World.heap W5) →
 (W6 = World.alloc W5 (Obj.cells #[.int .i64 4, .int .i64 64, .int .i64 32, .int .i64 128, .int .i64 4, .int .i64 10, .int .i64 3, .int .i64 10, .int .i64 z2, .int .i64 8, .int .i64 16, .int .i64 16, .int .i64 4, .int .i64 10] 3) →
 (∃ I : World → Prop, (Sx.split (z == 0)
 (((∃ v : Value, World.cell? W6 (.mk k 0 none) = some v) ∧
 (World.frozen? W6 (.mk k 0 none) = false ∧
 (∀ W7 : World, (W7 = World.setCell W6 (.mk k 0 none) (Value.int .i64 arg2) →
 I W7)))))
 (Sx.split (z == 1)
 (((∃ v2 : Value, World.cell? W6 (.mk k (0 + 1) none) = some v2) ∧
 (World.frozen? W6 (.mk k (0 + 1) none) = false ∧
 (∀ W8 : World, (W8 = World.setCell W6 (.mk k (0 + 1) none) (Value.int .i64 arg2) →
 I W8)))))
 (Sx.split (z == 2)
 (((∃ v3 : Value, World.cell? W6 (.mk k (0 + 2) none) = some v3) ∧
 (World.frozen? W6 (.mk k (0 + 2) none) = false ∧
 (∀ W9 : World, (W9 = World.setCell W6 (.mk k (0 + 2) none) (Value.int .i64 arg2) →
 I W9)))))
 (Sx.split (z == 3)
 (((∃ v4 : Value, World.cell? W6 (.mk k (0 + 3) none) = some v4) ∧
 (World.frozen? W6 (.mk k (0 + 3) none) = false ∧
 (∀ W10 : World, (W10 = World.setCell W6 (.mk k (0 + 3) none) (Value.int .i64 arg2) →
 I W10)))))
 (Sx.split (z == 4)
 (((∃ v5 : Value, World.cell? W6 (.mk k (0 + 4) none) = some v5) ∧
 (World.frozen? W6 (.mk k (0 + 4) none) = false ∧
 (∀ W11 : World, (W11 = World.setCell W6 (.mk k (0 + 4) none) (Value.int .i64 arg2) →
 I W11)))))
 (Sx.split (z == 5)
 (((∃ v6 : Value, World.cell? W6 (.mk k (0 + 5) none) = some v6) ∧
 (World.frozen? W6 (.mk k (0 + 5) none) = false ∧
 (∀ W12 : World, (W12 = World.setCell W6 (.mk k (0 + 5) none) (Value.int .i64 arg2) →
 I W12)))))
 (Sx.split (z == 6)
 (((∃ v7 : Value, World.cell? W6 (.mk k (0 + 7) none) = some v7) ∧
 (World.frozen? W6 (.mk k (0 + 7) none) = false ∧
 (∀ W13 : World, (W13 = World.setCell W6 (.mk k (0 + 7) none) (Value.int .i64 arg2) →
 I W13)))))
 (Sx.split (z == 7)
 (((∃ v8 : Value, World.cell? W6 (.mk k (0 + 7 + 1) none) = some v8) ∧
 (World.frozen? W6 (.mk k (0 + 7 + 1) none) = false ∧
 (∀ W14 : World, (W14 = World.setCell W6 (.mk k (0 + 7 + 1) none) (Value.int .i64 arg2) →
 I W14)))))
 (Sx.split (z == 8)
 (((∃ v9 : Value, World.cell? W6 (.mk k (0 + 7 + 2) none) = some v9) ∧
 (World.frozen? W6 (.mk k (0 + 7 + 2) none) = false ∧
 (∀ W15 : World, (W15 = World.setCell W6 (.mk k (0 + 7 + 2) none) (Value.int .i64 arg2) →
 I W15)))))
 (Sx.split (z == 9)
 (((∃ v10 : Value, World.cell? W6 (.mk k (0 + 7 + 3) none) = some v10) ∧
 (World.frozen? W6 (.mk k (0 + 7 + 3) none) = false ∧
 (∀ W16 : World, (W16 = World.setCell W6 (.mk k (0 + 7 + 3) none) (Value.int .i64 arg2) →
 I W16)))))
 (Sx.split (z == 10)
 (((∃ v11 : Value, World.cell? W6 (.mk k (0 + 7 + 4) none) = some v11) ∧
 (World.frozen? W6 (.mk k (0 + 7 + 4) none) = false ∧
 (∀ W17 : World, (W17 = World.setCell W6 (.mk k (0 + 7 + 4) none) (Value.int .i64 arg2) →
 I W17)))))
 (Sx.split (z == 11)
 (((∃ v12 : Value, World.cell? W6 (.mk k (0 + 12) none) = some v12) ∧
 (World.frozen? W6 (.mk k (0 + 12) none) = false ∧
 (∀ W18 : World, (W18 = World.setCell W6 (.mk k (0 + 12) none) (Value.int .i64 arg2) →
 I W18)))))
 (Sx.split (z == 12)
 (((∃ v13 : Value, World.cell? W6 (.mk k (0 + 12 + 1) none) = some v13) ∧
 (World.frozen? W6 (.mk k (0 + 12 + 1) none) = false ∧
 (∀ W19 : World, (W19 = World.setCell W6 (.mk k (0 + 12 + 1) none) (Value.int .i64 arg2) →
 I W19)))))
 (Sx.split (z == 13)
 (((∃ v14 : Value, World.cell? W6 (.mk k (0 + 14) none) = some v14) ∧
 (World.frozen? W6 (.mk k (0 + 14) none) = false ∧
 (∀ W20 : World, (W20 = World.setCell W6 (.mk k (0 + 14) none) (Value.int .i64 arg2) →
 I W20)))))
 (I W6)))))))))))))) ∧
 ((Nat → Value) →
 (∀ W21 : World, (I W21 →
 Sx.split (z != 11)
 ((∀ W22 : World, (W22 = World.drew W21 →
 (((0 : Int) ≤ z ∧
 z < (↑14 : Int)) ∧
 (∃ vs : Array Value, (Array.size vs = 15 ∧
 (Sx.cellsAt W22 (.mk k 0 none) vs ∧
 (∃ z3 : Int, (World.cell? W22 (.mk k3 (0 + Int.toNat z * 1) none) = some (.int .i64 z3) ∧
 Sx.split (decide (arg2 ≥ z3))
 ((((0 : Int) ≤ z ∧
 z < (↑14 : Int)) ∧
 (∃ z4 : Int, (World.cell? W22 (.mk k4 (0 + Int.toNat z * 1) none) = some (.int .i64 z4) ∧
 Sx.split (decide (arg2 ≤ z4))
 (((∃ z5 : Int, (World.cell? W22 (.mk k (0 + 7 + 2) none) = some (.int .i64 z5) ∧
 (RowKit.Below (Array.size (World.heap W22)) W22 W22 ∧
 ((∃ z6 : Int, (World.cell? W22 (.mk k (0 + 7 + 1) none) = some (.int .i64 z6) ∧
 (RowKit.Below (Array.size (World.heap W22)) W22 W22 ∧
 (Array.size vs = 15 ∧
 ((∀ k5 : Nat, (k5 < 15 →
 ((∃ v15 : Value, World.cell? W22 (.mk k2 (0 + k5) none) = some v15) ∧
 World.frozen? W22 (.mk k2 (0 + k5) none) = false))) ∧
 ((∀ v16 : Value, (v16 ∈ Array.toList vs →
 Value.oneCell' v16 = true)) ∧
 (∀ W23 : World, (W23 = World.setCells W22 k2 0 (Array.toList vs) →
 (∃ vs2 : Array Value, (Array.size vs2 = 15 ∧
 (Sx.cellsAt W23 (.mk k2 0 none) vs2 ∧
 Q (.returned (.tuple #[.agg vs2, .bool (decide (z5 ≤ z6))])) W23))))))))))) ∧
 (Array.size vs = 15 ∧
 ((∀ k6 : Nat, (k6 < 15 →
 ((∃ v17 : Value, World.cell? W22 (.mk k2 (0 + k6) none) = some v17) ∧
 World.frozen? W22 (.mk k2 (0 + k6) none) = false))) ∧
 ((∀ v18 : Value, (v18 ∈ Array.toList vs →
 Value.oneCell' v18 = true)) ∧
 (∀ W24 : World, (W24 = World.setCells W22 k2 0 (Array.toList vs) →
 (∃ z7 : Int, (World.cell? W24 (.mk k (0 + 7 + 1) none) = some (.int .i64 z7) ∧
 (∃ vs3 : Array Value, (Array.size vs3 = 15 ∧
 (Sx.cellsAt W24 (.mk k2 0 none) vs3 ∧
 Q (.returned (.tuple #[.agg vs3, .bool (decide (z5 ≤ z7))])) W24)))))))))))))) ∧
 ((∃ z8 : Int, (World.cell? W22 (.mk k (0 + 7 + 1) none) = some (.int .i64 z8) ∧
 (RowKit.Below (Array.size (World.heap W22)) W22 W22 ∧
 ((∃ z9 : Int, (World.cell? W22 (.mk k (0 + 7 + 2) none) = some (.int .i64 z9) ∧
 (RowKit.Below (Array.size (World.heap W22)) W22 W22 ∧
 (Array.size vs = 15 ∧
 ((∀ k7 : Nat, (k7 < 15 →
 ((∃ v19 : Value, World.cell? W22 (.mk k2 (0 + k7) none) = some v19) ∧
 World.frozen? W22 (.mk k2 (0 + k7) none) = false))) ∧
 ((∀ v20 : Value, (v20 ∈ Array.toList vs →
 Value.oneCell' v20 = true)) ∧
 (∀ W25 : World, (W25 = World.setCells W22 k2 0 (Array.toList vs) →
 (∃ vs4 : Array Value, (Array.size vs4 = 15 ∧
 (Sx.cellsAt W25 (.mk k2 0 none) vs4 ∧
 Q (.returned (.tuple #[.agg vs4, .bool (decide (z9 ≤ z8))])) W25))))))))))) ∧
 (Array.size vs = 15 ∧
 ((∀ k8 : Nat, (k8 < 15 →
 ((∃ v21 : Value, World.cell? W22 (.mk k2 (0 + k8) none) = some v21) ∧
 World.frozen? W22 (.mk k2 (0 + k8) none) = false))) ∧
 ((∀ v22 : Value, (v22 ∈ Array.toList vs →
 Value.oneCell' v22 = true)) ∧
 (∀ W26 : World, (W26 = World.setCells W22 k2 0 (Array.toList vs) →
 (∃ z10 : Int, (World.cell? W26 (.mk k (0 + 7 + 2) none) = some (.int .i64 z10) ∧
 (∃ vs5 : Array Value, (Array.size vs5 = 15 ∧
 (Sx.cellsAt W26 (.mk k2 0 none) vs5 ∧
 Q (.returned (.tuple #[.agg vs5, .bool (decide (z10 ≤ z8))])) W26)))))))))))))) ∧
 (Array.size vs = 15 ∧
 ((∀ k9 : Nat, (k9 < 15 →
 ((∃ v23 : Value, World.cell? W22 (.mk k2 (0 + k9) none) = some v23) ∧
 World.frozen? W22 (.mk k2 (0 + k9) none) = false))) ∧
 ((∀ v24 : Value, (v24 ∈ Array.toList vs →
 Value.oneCell' v24 = true)) ∧
 (∀ W27 : World, (W27 = World.setCells W22 k2 0 (Array.toList vs) →
 ((∃ z11 : Int, (World.cell? W27 (.mk k (0 + 7 + 2) none) = some (.int .i64 z11) ∧
 (∃ z12 : Int, (World.cell? W27 (.mk k (0 + 7 + 1) none) = some (.int .i64 z12) ∧
 (∃ vs6 : Array Value, (Array.size vs6 = 15 ∧
 (Sx.cellsAt W27 (.mk k2 0 none) vs6 ∧
 Q (.returned (.tuple #[.agg vs6, .bool (decide (z11 ≤ z12))])) W27))))))) ∧
 (∃ z13 : Int, (World.cell? W27 (.mk k (0 + 7 + 1) none) = some (.int .i64 z13) ∧
 (∃ z14 : Int, (World.cell? W27 (.mk k (0 + 7 + 2) none) = some (.int .i64 z14) ∧
 (∃ vs7 : Array Value, (Array.size vs7 = 15 ∧
 (Sx.cellsAt W27 (.mk k2 0 none) vs7 ∧
 Q (.returned (.tuple #[.agg vs7, .bool (decide (z14 ≤ z13))])) W27))))))))))))))))
 (((RowKit.Below (Array.size (World.heap W22)) W22 W22 ∧
 ((RowKit.Below (Array.size (World.heap W22)) W22 W22 ∧
 (Array.size vs = 15 ∧
 ((∀ k10 : Nat, (k10 < 15 →
 ((∃ v25 : Value, World.cell? W22 (.mk k2 (0 + k10) none) = some v25) ∧
 World.frozen? W22 (.mk k2 (0 + k10) none) = false))) ∧
 ((∀ v26 : Value, (v26 ∈ Array.toList vs →
 Value.oneCell' v26 = true)) ∧
 (∀ W28 : World, (W28 = World.setCells W22 k2 0 (Array.toList vs) →
 (∃ vs8 : Array Value, (Array.size vs8 = 15 ∧
 (Sx.cellsAt W28 (.mk k2 0 none) vs8 ∧
 Q (.returned (.tuple #[.agg vs8, .bool false])) W28))))))))) ∧
 (Array.size vs = 15 ∧
 ((∀ k11 : Nat, (k11 < 15 →
 ((∃ v27 : Value, World.cell? W22 (.mk k2 (0 + k11) none) = some v27) ∧
 World.frozen? W22 (.mk k2 (0 + k11) none) = false))) ∧
 ((∀ v28 : Value, (v28 ∈ Array.toList vs →
 Value.oneCell' v28 = true)) ∧
 (∀ W29 : World, (W29 = World.setCells W22 k2 0 (Array.toList vs) →
 (∃ vs9 : Array Value, (Array.size vs9 = 15 ∧
 (Sx.cellsAt W29 (.mk k2 0 none) vs9 ∧
 Q (.returned (.tuple #[.agg vs9, .bool false])) W29)))))))))) ∧
 ((RowKit.Below (Array.size (World.heap W22)) W22 W22 ∧
 ((RowKit.Below (Array.size (World.heap W22)) W22 W22 ∧
 (Array.size vs = 15 ∧
 ((∀ k12 : Nat, (k12 < 15 →
 ((∃ v29 : Value, World.cell? W22 (.mk k2 (0 + k12) none) = some v29) ∧
 World.frozen? W22 (.mk k2 (0 + k12) none) = false))) ∧
 ((∀ v30 : Value, (v30 ∈ Array.toList vs →
 Value.oneCell' v30 = true)) ∧
 (∀ W30 : World, (W30 = World.setCells W22 k2 0 (Array.toList vs) →
 (∃ vs10 : Array Value, (Array.size vs10 = 15 ∧
 (Sx.cellsAt W30 (.mk k2 0 none) vs10 ∧
 Q (.returned (.tuple #[.agg vs10, .bool false])) W30))))))))) ∧
 (Array.size vs = 15 ∧
 ((∀ k13 : Nat, (k13 < 15 →
 ((∃ v31 : Value, World.cell? W22 (.mk k2 (0 + k13) none) = some v31) ∧
 World.frozen? W22 (.mk k2 (0 + k13) none) = false))) ∧
 ((∀ v32 : Value, (v32 ∈ Array.toList vs →
 Value.oneCell' v32 = true)) ∧
 (∀ W31 : World, (W31 = World.setCells W22 k2 0 (Array.toList vs) →
 (∃ vs11 : Array Value, (Array.size vs11 = 15 ∧
 (Sx.cellsAt W31 (.mk k2 0 none) vs11 ∧
 Q (.returned (.tuple #[.agg vs11, .bool false])) W31)))))))))) ∧
 (Array.size vs = 15 ∧
 ((∀ k14 : Nat, (k14 < 15 →
 ((∃ v33 : Value, World.cell? W22 (.mk k2 (0 + k14) none) = some v33) ∧
 World.frozen? W22 (.mk k2 (0 + k14) none) = false))) ∧
 ((∀ v34 : Value, (v34 ∈ Array.toList vs →
 Value.oneCell' v34 = true)) ∧
 (∀ W32 : World, (W32 = World.setCells W22 k2 0 (Array.toList vs) →
 ((∃ vs12 : Array Value, (Array.size vs12 = 15 ∧
 (Sx.cellsAt W32 (.mk k2 0 none) vs12 ∧
 Q (.returned (.tuple #[.agg vs12, .bool false])) W32))) ∧
 (∃ vs13 : Array Value, (Array.size vs13 = 15 ∧
 (Sx.cellsAt W32 (.mk k2 0 none) vs13 ∧
 Q (.returned (.tuple #[.agg vs13, .bool false])) W32))))))))))))))))
 (((RowKit.Below (Array.size (World.heap W22)) W22 W22 ∧
 ((RowKit.Below (Array.size (World.heap W22)) W22 W22 ∧
 (Array.size vs = 15 ∧
 ((∀ k15 : Nat, (k15 < 15 →
 ((∃ v35 : Value, World.cell? W22 (.mk k2 (0 + k15) none) = some v35) ∧
 World.frozen? W22 (.mk k2 (0 + k15) none) = false))) ∧
 ((∀ v36 : Value, (v36 ∈ Array.toList vs →
 Value.oneCell' v36 = true)) ∧
 (∀ W33 : World, (W33 = World.setCells W22 k2 0 (Array.toList vs) →
 (∃ vs14 : Array Value, (Array.size vs14 = 15 ∧
 (Sx.cellsAt W33 (.mk k2 0 none) vs14 ∧
 Q (.returned (.tuple #[.agg vs14, .bool false])) W33))))))))) ∧
 (Array.size vs = 15 ∧
 ((∀ k16 : Nat, (k16 < 15 →
 ((∃ v37 : Value, World.cell? W22 (.mk k2 (0 + k16) none) = some v37) ∧
 World.frozen? W22 (.mk k2 (0 + k16) none) = false))) ∧
 ((∀ v38 : Value, (v38 ∈ Array.toList vs →
 Value.oneCell' v38 = true)) ∧
 (∀ W34 : World, (W34 = World.setCells W22 k2 0 (Array.toList vs) →
 (∃ vs15 : Array Value, (Array.size vs15 = 15 ∧
 (Sx.cellsAt W34 (.mk k2 0 none) vs15 ∧
 Q (.returned (.tuple #[.agg vs15, .bool false])) W34)))))))))) ∧
 ((RowKit.Below (Array.size (World.heap W22)) W22 W22 ∧
 ((RowKit.Below (Array.size (World.heap W22)) W22 W22 ∧
 (Array.size vs = 15 ∧
 ((∀ k17 : Nat, (k17 < 15 →
 ((∃ v39 : Value, World.cell? W22 (.mk k2 (0 + k17) none) = some v39) ∧
 World.frozen? W22 (.mk k2 (0 + k17) none) = false))) ∧
 ((∀ v40 : Value, (v40 ∈ Array.toList vs →
 Value.oneCell' v40 = true)) ∧
 (∀ W35 : World, (W35 = World.setCells W22 k2 0 (Array.toList vs) →
 (∃ vs16 : Array Value, (Array.size vs16 = 15 ∧
 (Sx.cellsAt W35 (.mk k2 0 none) vs16 ∧
 Q (.returned (.tuple #[.agg vs16, .bool false])) W35))))))))) ∧
 (Array.size vs = 15 ∧
 ((∀ k18 : Nat, (k18 < 15 →
 ((∃ v41 : Value, World.cell? W22 (.mk k2 (0 + k18) none) = some v41) ∧
 World.frozen? W22 (.mk k2 (0 + k18) none) = false))) ∧
 ((∀ v42 : Value, (v42 ∈ Array.toList vs →
 Value.oneCell' v42 = true)) ∧
 (∀ W36 : World, (W36 = World.setCells W22 k2 0 (Array.toList vs) →
 (∃ vs17 : Array Value, (Array.size vs17 = 15 ∧
 (Sx.cellsAt W36 (.mk k2 0 none) vs17 ∧
 Q (.returned (.tuple #[.agg vs17, .bool false])) W36)))))))))) ∧
 (Array.size vs = 15 ∧
 ((∀ k19 : Nat, (k19 < 15 →
 ((∃ v43 : Value, World.cell? W22 (.mk k2 (0 + k19) none) = some v43) ∧
 World.frozen? W22 (.mk k2 (0 + k19) none) = false))) ∧
 ((∀ v44 : Value, (v44 ∈ Array.toList vs →
 Value.oneCell' v44 = true)) ∧
 (∀ W37 : World, (W37 = World.setCells W22 k2 0 (Array.toList vs) →
 ((∃ vs18 : Array Value, (Array.size vs18 = 15 ∧
 (Sx.cellsAt W37 (.mk k2 0 none) vs18 ∧
 Q (.returned (.tuple #[.agg vs18, .bool false])) W37))) ∧
 (∃ vs19 : Array Value, (Array.size vs19 = 15 ∧
 (Sx.cellsAt W37 (.mk k2 0 none) vs19 ∧
 Q (.returned (.tuple #[.agg vs19, .bool false])) W37)))))))))))))))))))))
 ((∀ z15 : Int, (z15 = IntKind.wrap .i64 (arg2 - 1) →
 (∀ z16 : Int, (z16 = IntKind.wrap .i64 (↑(BitVec.toNat (BitVec.ofInt (IntKind.bits .i64) arg2 &&& BitVec.ofInt (IntKind.bits .i64) z15)) : Int) →
 (∀ W38 : World, (W38 = World.drew W21 →
 (((0 : Int) ≤ z ∧
 z < (↑14 : Int)) ∧
 (∃ vs20 : Array Value, (Array.size vs20 = 15 ∧
 (Sx.cellsAt W38 (.mk k 0 none) vs20 ∧
 (∃ z17 : Int, (World.cell? W38 (.mk k3 (0 + Int.toNat z * 1) none) = some (.int .i64 z17) ∧
 Sx.split (decide (arg2 ≥ z17))
 ((((0 : Int) ≤ z ∧
 z < (↑14 : Int)) ∧
 (∃ z18 : Int, (World.cell? W38 (.mk k4 (0 + Int.toNat z * 1) none) = some (.int .i64 z18) ∧
 Sx.split (decide (arg2 ≤ z18))
 (Sx.split (z16 == 0)
 (((∃ z19 : Int, (World.cell? W38 (.mk k (0 + 7 + 2) none) = some (.int .i64 z19) ∧
 (RowKit.Below (Array.size (World.heap W38)) W38 W38 ∧
 ((∃ z20 : Int, (World.cell? W38 (.mk k (0 + 7 + 1) none) = some (.int .i64 z20) ∧
 (RowKit.Below (Array.size (World.heap W38)) W38 W38 ∧
 (Array.size vs20 = 15 ∧
 ((∀ k20 : Nat, (k20 < 15 →
 ((∃ v45 : Value, World.cell? W38 (.mk k2 (0 + k20) none) = some v45) ∧
 World.frozen? W38 (.mk k2 (0 + k20) none) = false))) ∧
 ((∀ v46 : Value, (v46 ∈ Array.toList vs20 →
 Value.oneCell' v46 = true)) ∧
 (∀ W39 : World, (W39 = World.setCells W38 k2 0 (Array.toList vs20) →
 (∃ vs21 : Array Value, (Array.size vs21 = 15 ∧
 (Sx.cellsAt W39 (.mk k2 0 none) vs21 ∧
 Q (.returned (.tuple #[.agg vs21, .bool (decide (z19 ≤ z20))])) W39))))))))))) ∧
 (Array.size vs20 = 15 ∧
 ((∀ k21 : Nat, (k21 < 15 →
 ((∃ v47 : Value, World.cell? W38 (.mk k2 (0 + k21) none) = some v47) ∧
 World.frozen? W38 (.mk k2 (0 + k21) none) = false))) ∧
 ((∀ v48 : Value, (v48 ∈ Array.toList vs20 →
 Value.oneCell' v48 = true)) ∧
 (∀ W40 : World, (W40 = World.setCells W38 k2 0 (Array.toList vs20) →
 (∃ z21 : Int, (World.cell? W40 (.mk k (0 + 7 + 1) none) = some (.int .i64 z21) ∧
 (∃ vs22 : Array Value, (Array.size vs22 = 15 ∧
 (Sx.cellsAt W40 (.mk k2 0 none) vs22 ∧
 Q (.returned (.tuple #[.agg vs22, .bool (decide (z19 ≤ z21))])) W40)))))))))))))) ∧
 ((∃ z22 : Int, (World.cell? W38 (.mk k (0 + 7 + 1) none) = some (.int .i64 z22) ∧
 (RowKit.Below (Array.size (World.heap W38)) W38 W38 ∧
 ((∃ z23 : Int, (World.cell? W38 (.mk k (0 + 7 + 2) none) = some (.int .i64 z23) ∧
 (RowKit.Below (Array.size (World.heap W38)) W38 W38 ∧
 (Array.size vs20 = 15 ∧
 ((∀ k22 : Nat, (k22 < 15 →
 ((∃ v49 : Value, World.cell? W38 (.mk k2 (0 + k22) none) = some v49) ∧
 World.frozen? W38 (.mk k2 (0 + k22) none) = false))) ∧
 ((∀ v50 : Value, (v50 ∈ Array.toList vs20 →
 Value.oneCell' v50 = true)) ∧
 (∀ W41 : World, (W41 = World.setCells W38 k2 0 (Array.toList vs20) →
 (∃ vs23 : Array Value, (Array.size vs23 = 15 ∧
 (Sx.cellsAt W41 (.mk k2 0 none) vs23 ∧
 Q (.returned (.tuple #[.agg vs23, .bool (decide (z23 ≤ z22))])) W41))))))))))) ∧
 (Array.size vs20 = 15 ∧
 ((∀ k23 : Nat, (k23 < 15 →
 ((∃ v51 : Value, World.cell? W38 (.mk k2 (0 + k23) none) = some v51) ∧
 World.frozen? W38 (.mk k2 (0 + k23) none) = false))) ∧
 ((∀ v52 : Value, (v52 ∈ Array.toList vs20 →
 Value.oneCell' v52 = true)) ∧
 (∀ W42 : World, (W42 = World.setCells W38 k2 0 (Array.toList vs20) →
 (∃ z24 : Int, (World.cell? W42 (.mk k (0 + 7 + 2) none) = some (.int .i64 z24) ∧
 (∃ vs24 : Array Value, (Array.size vs24 = 15 ∧
 (Sx.cellsAt W42 (.mk k2 0 none) vs24 ∧
 Q (.returned (.tuple #[.agg vs24, .bool (decide (z24 ≤ z22))])) W42)))))))))))))) ∧
 (Array.size vs20 = 15 ∧
 ((∀ k24 : Nat, (k24 < 15 →
 ((∃ v53 : Value, World.cell? W38 (.mk k2 (0 + k24) none) = some v53) ∧
 World.frozen? W38 (.mk k2 (0 + k24) none) = false))) ∧
 ((∀ v54 : Value, (v54 ∈ Array.toList vs20 →
 Value.oneCell' v54 = true)) ∧
 (∀ W43 : World, (W43 = World.setCells W38 k2 0 (Array.toList vs20) →
 ((∃ z25 : Int, (World.cell? W43 (.mk k (0 + 7 + 2) none) = some (.int .i64 z25) ∧
 (∃ z26 : Int, (World.cell? W43 (.mk k (0 + 7 + 1) none) = some (.int .i64 z26) ∧
 (∃ vs25 : Array Value, (Array.size vs25 = 15 ∧
 (Sx.cellsAt W43 (.mk k2 0 none) vs25 ∧
 Q (.returned (.tuple #[.agg vs25, .bool (decide (z25 ≤ z26))])) W43))))))) ∧
 (∃ z27 : Int, (World.cell? W43 (.mk k (0 + 7 + 1) none) = some (.int .i64 z27) ∧
 (∃ z28 : Int, (World.cell? W43 (.mk k (0 + 7 + 2) none) = some (.int .i64 z28) ∧
 (∃ vs26 : Array Value, (Array.size vs26 = 15 ∧
 (Sx.cellsAt W43 (.mk k2 0 none) vs26 ∧
 Q (.returned (.tuple #[.agg vs26, .bool (decide (z28 ≤ z27))])) W43))))))))))))))))
 (((RowKit.Below (Array.size (World.heap W38)) W38 W38 ∧
 ((RowKit.Below (Array.size (World.heap W38)) W38 W38 ∧
 (Array.size vs20 = 15 ∧
 ((∀ k25 : Nat, (k25 < 15 →
 ((∃ v55 : Value, World.cell? W38 (.mk k2 (0 + k25) none) = some v55) ∧
 World.frozen? W38 (.mk k2 (0 + k25) none) = false))) ∧
 ((∀ v56 : Value, (v56 ∈ Array.toList vs20 →
 Value.oneCell' v56 = true)) ∧
 (∀ W44 : World, (W44 = World.setCells W38 k2 0 (Array.toList vs20) →
 (∃ vs27 : Array Value, (Array.size vs27 = 15 ∧
 (Sx.cellsAt W44 (.mk k2 0 none) vs27 ∧
 Q (.returned (.tuple #[.agg vs27, .bool false])) W44))))))))) ∧
 (Array.size vs20 = 15 ∧
 ((∀ k26 : Nat, (k26 < 15 →
 ((∃ v57 : Value, World.cell? W38 (.mk k2 (0 + k26) none) = some v57) ∧
 World.frozen? W38 (.mk k2 (0 + k26) none) = false))) ∧
 ((∀ v58 : Value, (v58 ∈ Array.toList vs20 →
 Value.oneCell' v58 = true)) ∧
 (∀ W45 : World, (W45 = World.setCells W38 k2 0 (Array.toList vs20) →
 (∃ vs28 : Array Value, (Array.size vs28 = 15 ∧
 (Sx.cellsAt W45 (.mk k2 0 none) vs28 ∧
 Q (.returned (.tuple #[.agg vs28, .bool false])) W45)))))))))) ∧
 ((RowKit.Below (Array.size (World.heap W38)) W38 W38 ∧
 ((RowKit.Below (Array.size (World.heap W38)) W38 W38 ∧
 (Array.size vs20 = 15 ∧
 ((∀ k27 : Nat, (k27 < 15 →
 ((∃ v59 : Value, World.cell? W38 (.mk k2 (0 + k27) none) = some v59) ∧
 World.frozen? W38 (.mk k2 (0 + k27) none) = false))) ∧
 ((∀ v60 : Value, (v60 ∈ Array.toList vs20 →
 Value.oneCell' v60 = true)) ∧
 (∀ W46 : World, (W46 = World.setCells W38 k2 0 (Array.toList vs20) →
 (∃ vs29 : Array Value, (Array.size vs29 = 15 ∧
 (Sx.cellsAt W46 (.mk k2 0 none) vs29 ∧
 Q (.returned (.tuple #[.agg vs29, .bool false])) W46))))))))) ∧
 (Array.size vs20 = 15 ∧
 ((∀ k28 : Nat, (k28 < 15 →
 ((∃ v61 : Value, World.cell? W38 (.mk k2 (0 + k28) none) = some v61) ∧
 World.frozen? W38 (.mk k2 (0 + k28) none) = false))) ∧
 ((∀ v62 : Value, (v62 ∈ Array.toList vs20 →
 Value.oneCell' v62 = true)) ∧
 (∀ W47 : World, (W47 = World.setCells W38 k2 0 (Array.toList vs20) →
 (∃ vs30 : Array Value, (Array.size vs30 = 15 ∧
 (Sx.cellsAt W47 (.mk k2 0 none) vs30 ∧
 Q (.returned (.tuple #[.agg vs30, .bool false])) W47)))))))))) ∧
 (Array.size vs20 = 15 ∧
 ((∀ k29 : Nat, (k29 < 15 →
 ((∃ v63 : Value, World.cell? W38 (.mk k2 (0 + k29) none) = some v63) ∧
 World.frozen? W38 (.mk k2 (0 + k29) none) = false))) ∧
 ((∀ v64 : Value, (v64 ∈ Array.toList vs20 →
 Value.oneCell' v64 = true)) ∧
 (∀ W48 : World, (W48 = World.setCells W38 k2 0 (Array.toList vs20) →
 ((∃ vs31 : Array Value, (Array.size vs31 = 15 ∧
 (Sx.cellsAt W48 (.mk k2 0 none) vs31 ∧
 Q (.returned (.tuple #[.agg vs31, .bool false])) W48))) ∧
 (∃ vs32 : Array Value, (Array.size vs32 = 15 ∧
 (Sx.cellsAt W48 (.mk k2 0 none) vs32 ∧
 Q (.returned (.tuple #[.agg vs32, .bool false])) W48)))))))))))))
 (((RowKit.Below (Array.size (World.heap W38)) W38 W38 ∧
 ((RowKit.Below (Array.size (World.heap W38)) W38 W38 ∧
 (Array.size vs20 = 15 ∧
 ((∀ k30 : Nat, (k30 < 15 →
 ((∃ v65 : Value, World.cell? W38 (.mk k2 (0 + k30) none) = some v65) ∧
 World.frozen? W38 (.mk k2 (0 + k30) none) = false))) ∧
 ((∀ v66 : Value, (v66 ∈ Array.toList vs20 →
 Value.oneCell' v66 = true)) ∧
 (∀ W49 : World, (W49 = World.setCells W38 k2 0 (Array.toList vs20) →
 (∃ vs33 : Array Value, (Array.size vs33 = 15 ∧
 (Sx.cellsAt W49 (.mk k2 0 none) vs33 ∧
 Q (.returned (.tuple #[.agg vs33, .bool false])) W49))))))))) ∧
 (Array.size vs20 = 15 ∧
 ((∀ k31 : Nat, (k31 < 15 →
 ((∃ v67 : Value, World.cell? W38 (.mk k2 (0 + k31) none) = some v67) ∧
 World.frozen? W38 (.mk k2 (0 + k31) none) = false))) ∧
 ((∀ v68 : Value, (v68 ∈ Array.toList vs20 →
 Value.oneCell' v68 = true)) ∧
 (∀ W50 : World, (W50 = World.setCells W38 k2 0 (Array.toList vs20) →
 (∃ vs34 : Array Value, (Array.size vs34 = 15 ∧
 (Sx.cellsAt W50 (.mk k2 0 none) vs34 ∧
 Q (.returned (.tuple #[.agg vs34, .bool false])) W50)))))))))) ∧
 ((RowKit.Below (Array.size (World.heap W38)) W38 W38 ∧
 ((RowKit.Below (Array.size (World.heap W38)) W38 W38 ∧
 (Array.size vs20 = 15 ∧
 ((∀ k32 : Nat, (k32 < 15 →
 ((∃ v69 : Value, World.cell? W38 (.mk k2 (0 + k32) none) = some v69) ∧
 World.frozen? W38 (.mk k2 (0 + k32) none) = false))) ∧
 ((∀ v70 : Value, (v70 ∈ Array.toList vs20 →
 Value.oneCell' v70 = true)) ∧
 (∀ W51 : World, (W51 = World.setCells W38 k2 0 (Array.toList vs20) →
 (∃ vs35 : Array Value, (Array.size vs35 = 15 ∧
 (Sx.cellsAt W51 (.mk k2 0 none) vs35 ∧
 Q (.returned (.tuple #[.agg vs35, .bool false])) W51))))))))) ∧
 (Array.size vs20 = 15 ∧
 ((∀ k33 : Nat, (k33 < 15 →
 ((∃ v71 : Value, World.cell? W38 (.mk k2 (0 + k33) none) = some v71) ∧
 World.frozen? W38 (.mk k2 (0 + k33) none) = false))) ∧
 ((∀ v72 : Value, (v72 ∈ Array.toList vs20 →
 Value.oneCell' v72 = true)) ∧
 (∀ W52 : World, (W52 = World.setCells W38 k2 0 (Array.toList vs20) →
 (∃ vs36 : Array Value, (Array.size vs36 = 15 ∧
 (Sx.cellsAt W52 (.mk k2 0 none) vs36 ∧
 Q (.returned (.tuple #[.agg vs36, .bool false])) W52)))))))))) ∧
 (Array.size vs20 = 15 ∧
 ((∀ k34 : Nat, (k34 < 15 →
 ((∃ v73 : Value, World.cell? W38 (.mk k2 (0 + k34) none) = some v73) ∧
 World.frozen? W38 (.mk k2 (0 + k34) none) = false))) ∧
 ((∀ v74 : Value, (v74 ∈ Array.toList vs20 →
 Value.oneCell' v74 = true)) ∧
 (∀ W53 : World, (W53 = World.setCells W38 k2 0 (Array.toList vs20) →
 ((∃ vs37 : Array Value, (Array.size vs37 = 15 ∧
 (Sx.cellsAt W53 (.mk k2 0 none) vs37 ∧
 Q (.returned (.tuple #[.agg vs37, .bool false])) W53))) ∧
 (∃ vs38 : Array Value, (Array.size vs38 = 15 ∧
 (Sx.cellsAt W53 (.mk k2 0 none) vs38 ∧
 Q (.returned (.tuple #[.agg vs38, .bool false])) W53))))))))))))))))
 (((RowKit.Below (Array.size (World.heap W38)) W38 W38 ∧
 ((RowKit.Below (Array.size (World.heap W38)) W38 W38 ∧
 (Array.size vs20 = 15 ∧
 ((∀ k35 : Nat, (k35 < 15 →
 ((∃ v75 : Value, World.cell? W38 (.mk k2 (0 + k35) none) = some v75) ∧
 World.frozen? W38 (.mk k2 (0 + k35) none) = false))) ∧
 ((∀ v76 : Value, (v76 ∈ Array.toList vs20 →
 Value.oneCell' v76 = true)) ∧
 (∀ W54 : World, (W54 = World.setCells W38 k2 0 (Array.toList vs20) →
 (∃ vs39 : Array Value, (Array.size vs39 = 15 ∧
 (Sx.cellsAt W54 (.mk k2 0 none) vs39 ∧
 Q (.returned (.tuple #[.agg vs39, .bool false])) W54))))))))) ∧
 (Array.size vs20 = 15 ∧
 ((∀ k36 : Nat, (k36 < 15 →
 ((∃ v77 : Value, World.cell? W38 (.mk k2 (0 + k36) none) = some v77) ∧
 World.frozen? W38 (.mk k2 (0 + k36) none) = false))) ∧
 ((∀ v78 : Value, (v78 ∈ Array.toList vs20 →
 Value.oneCell' v78 = true)) ∧
 (∀ W55 : World, (W55 = World.setCells W38 k2 0 (Array.toList vs20) →
 (∃ vs40 : Array Value, (Array.size vs40 = 15 ∧
 (Sx.cellsAt W55 (.mk k2 0 none) vs40 ∧
 Q (.returned (.tuple #[.agg vs40, .bool false])) W55)))))))))) ∧
 ((RowKit.Below (Array.size (World.heap W38)) W38 W38 ∧
 ((RowKit.Below (Array.size (World.heap W38)) W38 W38 ∧
 (Array.size vs20 = 15 ∧
 ((∀ k37 : Nat, (k37 < 15 →
 ((∃ v79 : Value, World.cell? W38 (.mk k2 (0 + k37) none) = some v79) ∧
 World.frozen? W38 (.mk k2 (0 + k37) none) = false))) ∧
 ((∀ v80 : Value, (v80 ∈ Array.toList vs20 →
 Value.oneCell' v80 = true)) ∧
 (∀ W56 : World, (W56 = World.setCells W38 k2 0 (Array.toList vs20) →
 (∃ vs41 : Array Value, (Array.size vs41 = 15 ∧
 (Sx.cellsAt W56 (.mk k2 0 none) vs41 ∧
 Q (.returned (.tuple #[.agg vs41, .bool false])) W56))))))))) ∧
 (Array.size vs20 = 15 ∧
 ((∀ k38 : Nat, (k38 < 15 →
 ((∃ v81 : Value, World.cell? W38 (.mk k2 (0 + k38) none) = some v81) ∧
 World.frozen? W38 (.mk k2 (0 + k38) none) = false))) ∧
 ((∀ v82 : Value, (v82 ∈ Array.toList vs20 →
 Value.oneCell' v82 = true)) ∧
 (∀ W57 : World, (W57 = World.setCells W38 k2 0 (Array.toList vs20) →
 (∃ vs42 : Array Value, (Array.size vs42 = 15 ∧
 (Sx.cellsAt W57 (.mk k2 0 none) vs42 ∧
 Q (.returned (.tuple #[.agg vs42, .bool false])) W57)))))))))) ∧
 (Array.size vs20 = 15 ∧
 ((∀ k39 : Nat, (k39 < 15 →
 ((∃ v83 : Value, World.cell? W38 (.mk k2 (0 + k39) none) = some v83) ∧
 World.frozen? W38 (.mk k2 (0 + k39) none) = false))) ∧
 ((∀ v84 : Value, (v84 ∈ Array.toList vs20 →
 Value.oneCell' v84 = true)) ∧
 (∀ W58 : World, (W58 = World.setCells W38 k2 0 (Array.toList vs20) →
 ((∃ vs43 : Array Value, (Array.size vs43 = 15 ∧
 (Sx.cellsAt W58 (.mk k2 0 none) vs43 ∧
 Q (.returned (.tuple #[.agg vs43, .bool false])) W58))) ∧
 (∃ vs44 : Array Value, (Array.size vs44 = 15 ∧
 (Sx.cellsAt W58 (.mk k2 0 none) vs44 ∧
 Q (.returned (.tuple #[.agg vs44, .bool false])) W58))))))))))))))))))))))))))))))))))))))))))))))))))))) :
 Calls Tryz.prog 5 #[.agg arg0, .int .i64 arg1, .int .i64 arg2] W Q :=
 Sx.sound Tryz.func5 (.node [] [] 0 .leaf (.node [] [] 0 .leaf (.node [] [] 0 .leaf (.node [] [] 0 .leaf (.node [] [8, 2, 3, 9, 10, 6] 1 .leaf (.node [] [] 0 .leaf (.node [] [] 0 (.node [] [] 1028 .leaf .leaf) .leaf))))))) [Value.agg arg0, .int .i64 arg1, .int .i64 arg2] rfl (Eq.mp (by kernel_rfl) hVC)
theorem vc3 {W : World} {Q : Ending → World → Prop} (arg0 : Array Value) (arg1 : Int) (arg2 : Int) (arg3 : Int)
 (hVC :
 (∀ k : Nat, (∀ W2 : World, (k = Array.size (World.heap W) →
 (W2 = World.alloc W (Obj.cells (Value.cells (Value.agg arg0)) 23) →
 (∃ vs : Array Value, (Array.size vs = 15 ∧
 (Sx.cellsAt W2 (.mk k 0 none) vs ∧
 Calls Tryz.prog 6 #[.agg vs] W2 (fun e =>
 (fun W3 =>
 (∃ vs2 : Array Value, (e = .returned (.agg vs2) ∧
 Calls Tryz.prog 5 #[.agg vs2, .int .i64 arg1, .int .i64 arg2] W3 (fun e2 =>
 (fun W4 =>
 (∃ vs3 : Array Value, (∃ t : Bool, (e2 = .returned (.tuple #[.agg vs3, .bool t]) ∧
 (∀ k2 : Nat, (∀ W5 : World, (k2 = Array.size (World.heap W4) →
 (W5 = World.alloc W4 (Obj.cells #[.int .i64 0, .int .i64 0, .int .i64 0, .int .i64 0, .int .i64 0, .int .i64 0, .bool false, .int .i64 0, .int .i64 0, .int .i64 0, .int .i64 0, .int .i64 0, .int .i64 0, .int .i64 0, .int .i64 0] 29) →
 (Array.size vs3 = 15 ∧
 ((∀ k3 : Nat, (k3 < 15 →
 ((∃ v : Value, World.cell? W5 (.mk k2 (0 + k3) none) = some v) ∧
 World.frozen? W5 (.mk k2 (0 + k3) none) = false))) ∧
 ((∀ v2 : Value, (v2 ∈ Array.toList vs3 →
 Value.oneCell' v2 = true)) ∧
 (∀ W6 : World, (W6 = World.setCells W5 k2 0 (Array.toList vs3) →
 (∃ I : Int → World → Prop, (Sx.split (!t)
 (I 2 W6)
 (I 0 W6) ∧
 ((Nat → Value) →
 (∀ x : Int, (∀ W7 : World, (I x W7 →
 (∃ I2 : Int → World → Prop, (Sx.split (decide (arg3 < 0))
 (I2 3 W7)
 (Sx.split (decide (arg3 > 1000000))
 (I2 3 W7)
 (I2 x W7)) ∧
 ((Nat → Value) →
 (∀ x2 : Int, (∀ W8 : World, (I2 x2 W8 →
 (∃ I3 : Int → World → Prop, (Sx.split (decide (arg3 > 200))
 (Sx.split (decide (arg3 ≤ 1000000))
 (I3 200 W8)
 (I3 arg3 W8))
 (I3 arg3 W8) ∧
 ((Nat → Value) →
 (∀ x3 : Int, (∀ W9 : World, (I3 x3 W9 →
 (∀ k4 : Nat, (∀ W10 : World, (k4 = Array.size (World.heap W9) →
 (W10 = World.alloc W9 (Obj.cells #[.int .u32 1048691] 43) →
 (∃ vs4 : Array Value, (Array.size vs4 = 15 ∧
 (Sx.cellsAt W10 (.mk k2 0 none) vs4 ∧
 Calls Tryz.prog 7 #[.slice (some (Addr.mk k4 0 none)) 1 1, .slice none 0 0, .agg vs4, .slice none 0 0, .int .i64 x3] W10 (fun e3 =>
 (fun W11 =>
 (∃ vs5 : Array Value, (∃ v3 : Value, (e3 = .returned (.tuple #[.agg vs5, v3]) ∧
 (∀ k5 : Nat, (∀ W12 : World, (k5 = Array.size (World.heap W11) →
 (W12 = World.alloc W11 (Obj.cells #[.bool false, .int .i64 0, .slice none 0 0, .string (ByteArray.mk #[]), .slice none 0 0, .slice none 0 0] 38) →
 (Array.size vs5 = 6 ∧
 ((∀ k6 : Nat, (k6 < 6 →
 ((∃ v4 : Value, World.cell? W12 (.mk k5 (0 + k6) none) = some v4) ∧
 World.frozen? W12 (.mk k5 (0 + k6) none) = false))) ∧
 ((∀ v5 : Value, (v5 ∈ Array.toList vs5 →
 Value.oneCell' v5 = true)) ∧
 (∀ W13 : World, (W13 = World.setCells W12 k5 0 (Array.toList vs5) →
 Calls Tryz.prog 8 #[v3] W13 (fun e4 =>
 (fun W14 =>
 (∃ z : Int, (e4 = .returned (.int .i64 z) ∧
 Sx.split (x2 != 0)
 (Sx.split (z == x2)
 ((∃ p : Option Addr, (∃ k7 : Nat, (∃ k8 : Nat, (World.cell? W14 (.mk k5 (0 + 2) none) = some (.slice p k7 k8) ∧
 Sx.split ((↑k7 : Int) == 0)
 ((∃ z2 : Int, (World.cell? W14 (.mk k5 (0 + 1) none) = some (.int .i64 z2) ∧
 Sx.split (z2 == 0)
 ((∃ t2 : Bool, (World.cell? W14 (.mk k5 0 none) = some (.bool t2) ∧
 Sx.split (!t2)
 ((∃ s : ByteArray, (World.cell? W14 (.mk k5 (0 + 3) none) = some (.string s) ∧
 Sx.split (ByteArray.toList s == ByteArray.toList (ByteArray.mk #[]))
 ((∃ p2 : Option Addr, (∃ k9 : Nat, (∃ k10 : Nat, (World.cell? W14 (.mk k5 (0 + 4) none) = some (.slice p2 k9 k10) ∧
 Sx.split ((↑k9 : Int) == 0)
 ((∃ p3 : Option Addr, (∃ k11 : Nat, (∃ k12 : Nat, (World.cell? W14 (.mk k5 (0 + 5) none) = some (.slice p3 k11 k12) ∧
 Q (.returned (.bool ((↑k11 : Int) == 0))) W14)))))
 (Q (.returned (.bool false)) W14))))))
 (Q (.returned (.bool false)) W14))))
 (Q (.returned (.bool false)) W14))))
 (Q (.returned (.bool false)) W14))))
 (Q (.returned (.bool false)) W14))))))
 (Q (.returned (.bool false)) W14))
 (Sx.split (z == x2)
 ((∃ t3 : Bool, (World.cell? W14 (.mk k5 0 none) = some (.bool t3) ∧
 Sx.split t3
 ((∃ p4 : Option Addr, (∃ k13 : Nat, (∃ k14 : Nat, (World.cell? W14 (.mk k5 (0 + 4) none) = some (.slice p4 k13 k14) ∧
 Q (.returned (.bool ((↑k13 : Int) == 1))) W14)))))
 (Sx.split (decide (x3 < 200))
 ((∃ p5 : Option Addr, (∃ k15 : Nat, (∃ k16 : Nat, (World.cell? W14 (.mk k5 (0 + 4) none) = some (.slice p5 k15 k16) ∧
 Q (.returned (.bool ((↑k15 : Int) == 1))) W14)))))
 (Q (.returned (.bool false)) W14)))))
 (Q (.returned (.bool false)) W14))))))))))))))))))))))))))))))))))))))))))))))))))))))))))))))))))))))) :
 Calls Tryz.prog 3 #[.agg arg0, .int .i64 arg1, .int .i64 arg2, .int .i64 arg3] W Q :=
 Sx.sound Tryz.func3 (.node [] [] 0 .leaf (.node [] [] 0 .leaf (.node [] [] 0 .leaf (.node [(11, .int .i64)] [3, 9] 1 .leaf (.node [(11, .int .i64)] [3, 9] 1 .leaf (.node [] [] 0 .leaf (.node [(12, .int .i64)] [9, 11] 1 .leaf .leaf))))))) [Value.agg arg0, .int .i64 arg1, .int .i64 arg2, .int .i64 arg3] rfl (Eq.mp (by kernel_rfl) hVC)
end Go.Proofs.YthacioiefgabbaaGreatDoor
