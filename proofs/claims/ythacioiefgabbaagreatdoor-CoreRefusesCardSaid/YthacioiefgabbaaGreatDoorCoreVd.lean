/- What each function asks, reckoned out of its text; printed by a program of mine (wip/tpl/VcTool.lean). No condition. -/
import Derived.Test.YthacioiefgabbaaGreatDoorSxB
import Derived.Test.YthacioiefgabbaaGreatDoorChecked
namespace Go.Proofs.YthacioiefgabbaaGreatDoor
open Go Go.Proofs
set_option linter.unusedVariables false
set_option maxRecDepth 100000
theorem vc169 {W : World} {Q : Ending → World → Prop} (arg0 : Nat) (arg0o : Nat)
 (hVC :
 (∃ z : Int, (World.cell? W (.mk arg0 (arg0o + 26) none) = some (.int .u32 z) ∧
 (∀ vs : Array Value, (vs = #[.int .i64 0, .int .u32 z, .int .u32 0, .int .i64 0, .int .i64 0, .int .i64 0, .int .i64 0, .int .i64 0, .int .i64 7, .int .i64 0, .int .i64 0, .int .u32 0, .int .u32 0, .int .i64 (-1), .int .i64 (-1), .int .i64 (-1), .int .i64 0, .int .u32 0, .int .u32 0, .bool false, .int .i64 (-1), .int .u32 0, .bool false, .bool false, .int .i64 0, .bool false, .int .u32 0, .bool false] →
 (∀ k : Nat, (∀ W2 : World, (k = Array.size (World.heap W) →
 (W2 = World.alloc W (Obj.cells (Value.cells (Value.agg vs)) 243) →
 (∃ p : Option Addr, (∃ k2 : Nat, (∃ k3 : Nat, (World.cell? W2 (.mk arg0 (arg0o + 24) none) = some (.slice p k2 k3) ∧
 (∃ z2 : Int, (World.cell? W2 (.mk arg0 (arg0o + 26) none) = some (.int .u32 z2) ∧
 (∃ z3 : Int, (∃ t : Bool, ((∀ k4 : Nat, Calls Tryz.prog 223 #[.slice p k2 k3, .int .u32 z2] (World.drewN W2 k4) (fun e =>
 (fun W3 =>
 (e = .returned (.tuple #[.int .u32 z3, .bool t]) ∧
 (∃ k5 : Nat, W3 = World.drewN W2 k5))))) ∧
 (∀ W4 : World, (∀ k6 : Nat, (W4 = World.drewN W2 k6 →
 Sx.split (!t)
 ((∃ z4 : Int, (World.cell? W4 (.mk arg0 (arg0o + 26) none) = some (.int .u32 z4) ∧
 ((∃ v : Value, World.cell? W4 (.mk k (0 + 20) none) = some v) ∧
 (World.frozen? W4 (.mk k (0 + 20) none) = false ∧
 (∀ W5 : World, (W5 = World.setCell W4 (.mk k (0 + 20) none) (Value.int .i64 1) →
 ((∃ v2 : Value, World.cell? W5 (.mk k (0 + 21) none) = some v2) ∧
 (World.frozen? W5 (.mk k (0 + 21) none) = false ∧
 (∀ W6 : World, (W6 = World.setCell W5 (.mk k (0 + 21) none) (Value.int .u32 z4) →
 ((∃ v3 : Value, World.cell? W6 (.mk arg0 (arg0o + 33) none) = some v3) ∧
 (World.frozen? W6 (.mk arg0 (arg0o + 33) none) = false ∧
 (∀ W7 : World, (W7 = World.setCell W6 (.mk arg0 (arg0o + 33) none) (Value.bool true) →
 Q (.returned (.pointer (some (Addr.mk k 0 none)))) W7)))))))))))))))
 (((∃ v4 : Value, World.cell? W4 (.mk k (0 + 2) none) = some v4) ∧
 (World.frozen? W4 (.mk k (0 + 2) none) = false ∧
 (∀ W8 : World, (W8 = World.setCell W4 (.mk k (0 + 2) none) (Value.int .u32 z3) →
 Calls Tryz.prog 224 #[.int .u32 z3] W8 (fun e2 =>
 (fun W9 =>
 (∃ vs2 : Array Value, (∃ t2 : Bool, (e2 = .returned (.tuple #[.agg vs2, .bool t2]) ∧
 (∀ k7 : Nat, (∀ W10 : World, (k7 = Array.size (World.heap W9) →
 (W10 = World.alloc W9 (Obj.cells #[.int .i64 0, .int .i64 0, .int .i64 0, .int .i64 0, .int .i64 0] 238) →
 (Array.size vs2 = 5 ∧
 ((∀ k8 : Nat, (k8 < 5 →
 ((∃ v5 : Value, World.cell? W10 (.mk k7 (0 + k8) none) = some v5) ∧
 World.frozen? W10 (.mk k7 (0 + k8) none) = false))) ∧
 ((∀ v6 : Value, (v6 ∈ Array.toList vs2 →
 Value.oneCell' v6 = true)) ∧
 (∀ W11 : World, (W11 = World.setCells W10 k7 0 (Array.toList vs2) →
 Sx.split (!t2)
 (((∃ v7 : Value, World.cell? W11 (.mk k (0 + 20) none) = some v7) ∧
 (World.frozen? W11 (.mk k (0 + 20) none) = false ∧
 (∀ W12 : World, (W12 = World.setCell W11 (.mk k (0 + 20) none) (Value.int .i64 2) →
 ((∃ v8 : Value, World.cell? W12 (.mk k (0 + 21) none) = some v8) ∧
 (World.frozen? W12 (.mk k (0 + 21) none) = false ∧
 (∀ W13 : World, (W13 = World.setCell W12 (.mk k (0 + 21) none) (Value.int .u32 z3) →
 Q (.returned (.pointer (some (Addr.mk k 0 none)))) W13)))))))))
 ((∀ W14 : World, (W14 = World.drew W11 →
 (∃ z5 : Int, (World.cell? W14 (.mk k7 0 none) = some (.int .i64 z5) ∧
 ((∃ vs3 : Array Value, (Array.size vs3 = 5 ∧
 (Sx.cellsAt W14 (.mk k7 0 none) vs3 ∧
 (RowKit.Below (Array.size (World.heap W14)) W14 W14 ∧
 Calls Tryz.prog 188 #[.int .i64 z5] W14 (fun e3 =>
 (fun W15 =>
 (∃ z6 : Int, (e3 = .returned (.int .i64 z6) ∧
 (Array.size vs3 = 5 ∧
 ((∀ k9 : Nat, (k9 < 5 →
 ((∃ v9 : Value, World.cell? W15 (.mk k (0 + 3 + k9) none) = some v9) ∧
 World.frozen? W15 (.mk k (0 + 3 + k9) none) = false))) ∧
 ((∀ v10 : Value, (v10 ∈ Array.toList vs3 →
 Value.oneCell' v10 = true)) ∧
 (∀ W16 : World, (W16 = World.setCells W15 k (0 + 3) (Array.toList vs3) →
 ((∃ v11 : Value, World.cell? W16 (.mk k (0 + 8) none) = some v11) ∧
 (World.frozen? W16 (.mk k (0 + 8) none) = false ∧
 (∀ W17 : World, (W17 = World.setCell W16 (.mk k (0 + 8) none) (Value.int .i64 z6) →
 Q (.returned (.pointer (some (Addr.mk k 0 none)))) W17))))))))))))))))) ∧
 Calls Tryz.prog 188 #[.int .i64 z5] W14 (fun e4 =>
 (fun W18 =>
 (∃ z7 : Int, (e4 = .returned (.int .i64 z7) ∧
 (∃ vs4 : Array Value, (Array.size vs4 = 5 ∧
 (Sx.cellsAt W18 (.mk k7 0 none) vs4 ∧
 (Array.size vs4 = 5 ∧
 ((∀ k10 : Nat, (k10 < 5 →
 ((∃ v12 : Value, World.cell? W18 (.mk k (0 + 3 + k10) none) = some v12) ∧
 World.frozen? W18 (.mk k (0 + 3 + k10) none) = false))) ∧
 ((∀ v13 : Value, (v13 ∈ Array.toList vs4 →
 Value.oneCell' v13 = true)) ∧
 (∀ W19 : World, (W19 = World.setCells W18 k (0 + 3) (Array.toList vs4) →
 ((∃ v14 : Value, World.cell? W19 (.mk k (0 + 8) none) = some v14) ∧
 (World.frozen? W19 (.mk k (0 + 8) none) = false ∧
 (∀ W20 : World, (W20 = World.setCell W19 (.mk k (0 + 8) none) (Value.int .i64 z7) →
 Q (.returned (.pointer (some (Addr.mk k 0 none)))) W20)))))))))))))))))))))))))))))))))))))))))))))))))))))))))))))) :
 Calls Tryz.prog 169 #[.pointer (some ⟨arg0, arg0o, none⟩)] W Q :=
 Sx.sound Tryz.func169 (.node [] [] 0 .leaf (.node [] [] 0 .leaf (.node [] [] 0 .leaf (.node [] [] 0 .leaf (.node [] [] 0 .leaf (.node [] [] 0 .leaf (.node [] [] 0 .leaf (.node [] [] 0 (.node [] [] 1006 .leaf .leaf) .leaf)))))))) [Value.pointer (some ⟨arg0, arg0o, none⟩)] rfl (Eq.mp (by kernel_rfl) hVC)
theorem vc119 {W : World} {Q : Ending → World → Prop} (arg0 : Nat) (arg0o : Nat)
 (hVC :
 Calls Tryz.prog 169 #[.pointer (some (Addr.mk arg0 arg0o none))] W (fun e =>
 (fun W2 =>
 (∃ p : Option Addr, (e = .returned (.pointer p) ∧
 (∃ I : Bool → World → Prop, (Sx.ptr p (fun a =>
 (∃ z : Int, (World.cell? W2 (Addr.add a 8) = some (.int .i64 z) ∧
 Sx.split (z == 4)
 (I true W2)
 (Sx.ptr p (fun a2 =>
 (∃ z2 : Int, (World.cell? W2 (Addr.add a2 8) = some (.int .i64 z2) ∧
 I (z2 == 5) W2))))))) ∧
 ((Nat → Value) →
 (∀ x : Bool, (∀ W3 : World, (I x W3 →
 (∃ I2 : Bool → World → Prop, (Sx.ptr p (fun a3 =>
 (∃ z3 : Int, (World.cell? W3 (.mk (Addr.block a3) (Addr.off a3 + 3) none) = some (.int .i64 z3) ∧
 Calls Tryz.prog 170 #[.int .i64 z3] W3 (fun e2 =>
 (fun W4 =>
 (∃ t : Bool, (e2 = .returned (.bool t) ∧
 Sx.split t
 (Sx.ptr p (fun a4 =>
 (∃ z4 : Int, (World.cell? W4 (.mk (Addr.block a4) (Addr.off a4 + 3 + 1) none) = some (.int .i64 z4) ∧
 I2 (decide (z4 > 0)) W4))))
 (I2 false W4)))))))) ∧
 ((Nat → Value) →
 (∀ x2 : Bool, (∀ W5 : World, (I2 x2 W5 →
 (∃ I3 : World → Prop, ((∃ I4 : Bool → World → Prop, ((∃ p2 : Option Addr, (World.cell? W5 (.mk arg0 arg0o none) = some (.pointer p2) ∧
 (∃ z5 : Int, ((∀ k : Nat, Calls Tryz.prog 171 #[.pointer p2] (World.drewN W5 k) (fun e3 =>
 (fun W6 =>
 (e3 = .returned (.int .i64 z5) ∧
 (∃ k2 : Nat, W6 = World.drewN W5 k2))))) ∧
 (∃ z6 : Int, (World.cell? W5 (.mk arg0 (arg0o + 8 + 1) none) = some (.int .i64 z6) ∧
 Sx.split (z5 == z6)
 ((∀ W7 : World, (∀ k3 : Nat, (W7 = World.drewN W5 k3 →
 I4 true W7))))
 (Sx.split x
 ((∃ p3 : Option Addr, (World.cell? W5 (.mk arg0 (arg0o + 2) none) = some (.pointer p3) ∧
 (∃ z7 : Int, ((∀ k4 : Nat, Calls Tryz.prog 172 #[.pointer p3] (World.drewN W5 k4) (fun e4 =>
 (fun W8 =>
 (e4 = .returned (.int .i64 z7) ∧
 (∃ k5 : Nat, W8 = World.drewN W5 k5))))) ∧
 (∃ z8 : Int, (World.cell? W5 (.mk arg0 (arg0o + 8 + 2) none) = some (.int .i64 z8) ∧
 Sx.split (z7 == z8)
 ((∀ W9 : World, (∀ k6 : Nat, (W9 = World.drewN W5 k6 →
 I4 true W9))))
 (Sx.split x2
 ((∃ p4 : Option Addr, (World.cell? W5 (.mk arg0 (arg0o + 1) none) = some (.pointer p4) ∧
 (∃ z9 : Int, ((∀ k7 : Nat, Calls Tryz.prog 173 #[.pointer p4] (World.drewN W5 k7) (fun e5 =>
 (fun W10 =>
 (e5 = .returned (.int .i64 z9) ∧
 (∃ k8 : Nat, W10 = World.drewN W5 k8))))) ∧
 (∀ W11 : World, (∀ k9 : Nat, (W11 = World.drewN W5 k9 →
 I4 (z9 == 0) W11))))))))
 ((∀ W12 : World, (∀ k10 : Nat, (W12 = World.drewN W5 k10 →
 I4 false W12))))))))))))
 (Sx.split x2
 ((∃ p5 : Option Addr, (World.cell? W5 (.mk arg0 (arg0o + 1) none) = some (.pointer p5) ∧
 (∃ z10 : Int, ((∀ k11 : Nat, Calls Tryz.prog 173 #[.pointer p5] (World.drewN W5 k11) (fun e6 =>
 (fun W13 =>
 (e6 = .returned (.int .i64 z10) ∧
 (∃ k12 : Nat, W13 = World.drewN W5 k12))))) ∧
 (∀ W14 : World, (∀ k13 : Nat, (W14 = World.drewN W5 k13 →
 I4 (z10 == 0) W14))))))))
 ((∀ W15 : World, (∀ k14 : Nat, (W15 = World.drewN W5 k14 →
 I4 false W15)))))))))))) ∧
 ((Nat → Value) →
 (∀ x3 : Bool, (∀ W16 : World, (I4 x3 W16 →
 Sx.split x3
 (((∃ v : Value, World.cell? W16 (.mk arg0 (arg0o + 33) none) = some v) ∧
 (World.frozen? W16 (.mk arg0 (arg0o + 33) none) = false ∧
 (∀ W17 : World, (W17 = World.setCell W16 (.mk arg0 (arg0o + 33) none) (Value.bool false) →
 Q (.returned (.bool false)) W17)))))
 (I3 W16))))))) ∧
 ((Nat → Value) →
 (∀ W18 : World, (I3 W18 →
 Sx.ptr p (fun a5 =>
 (∃ z11 : Int, (World.cell? W18 (.mk (Addr.block a5) (Addr.off a5 + 3) none) = some (.int .i64 z11) ∧
 Calls Tryz.prog 174 #[.int .i64 z11] W18 (fun e7 =>
 (fun W19 =>
 (∃ t2 : Bool, (∃ t3 : Bool, (e7 = .returned (.tuple #[.bool t2, .bool t3]) ∧
 (∃ I5 : World → Prop, (Sx.split t2
 ((∀ W20 : World, (W20 = World.drew W19 →
 (∃ p6 : Option Addr, (World.cell? W20 (.mk arg0 (arg0o + 1) none) = some (.pointer p6) ∧
 Sx.ptr p (fun a6 =>
 (∃ z12 : Int, (World.cell? W20 (.mk (Addr.block a6) (Addr.off a6 + 3 + 2) none) = some (.int .i64 z12) ∧
 (∃ z13 : Int, (Calls Tryz.prog 80 #[.pointer p6, .int .i64 z12] W20 (fun e8 =>
 (fun W21 =>
 (e8 = .returned (.int .i64 z13) ∧
 W21 = W20))) ∧
 Sx.ptr p (fun a7 =>
 ((∃ v2 : Value, World.cell? W20 (Addr.add a7 13) = some v2) ∧
 (World.frozen? W20 (Addr.add a7 13) = false ∧
 (∀ W22 : World, (W22 = World.setCell W20 (Addr.add a7 13) (Value.int .i64 z13) →
 I5 W22)))))))))))))))
 (I5 W19) ∧
 ((Nat → Value) →
 (∀ W23 : World, (I5 W23 →
 (∃ I6 : World → Prop, (Sx.split t3
 ((∀ W24 : World, (W24 = World.drew W23 →
 (∃ p7 : Option Addr, (World.cell? W24 (.mk arg0 (arg0o + 1) none) = some (.pointer p7) ∧
 Sx.ptr p (fun a8 =>
 (∃ z14 : Int, (World.cell? W24 (.mk (Addr.block a8) (Addr.off a8 + 3 + 3) none) = some (.int .i64 z14) ∧
 (∃ z15 : Int, (Calls Tryz.prog 80 #[.pointer p7, .int .i64 z14] W24 (fun e9 =>
 (fun W25 =>
 (e9 = .returned (.int .i64 z15) ∧
 W25 = W24))) ∧
 Sx.ptr p (fun a9 =>
 ((∃ v3 : Value, World.cell? W24 (Addr.add a9 14) = some v3) ∧
 (World.frozen? W24 (Addr.add a9 14) = false ∧
 (∀ W26 : World, (W26 = World.setCell W24 (Addr.add a9 14) (Value.int .i64 z15) →
 I6 W26)))))))))))))))
 (I6 W23) ∧
 ((Nat → Value) →
 (∀ W27 : World, (I6 W27 →
 (∃ I7 : World → Prop, (Sx.split x2
 ((∀ W28 : World, (W28 = World.drew W27 →
 Sx.ptr p (fun a10 =>
 (∃ p8 : Option Addr, (World.cell? W28 (.mk arg0 (arg0o + 1) none) = some (.pointer p8) ∧
 (∃ z16 : Int, (World.cell? W28 (.mk (Addr.block a10) (Addr.off a10 + 3 + 1) none) = some (.int .i64 z16) ∧
 Calls Tryz.prog 175 #[.pointer p8, .int .i64 z16] W28 (fun e10 =>
 (fun W29 =>
 (∃ z17 : Int, (∃ z18 : Int, (∃ v4 : Value, (e10 = .returned (.tuple #[.int .i64 z17, .int .i64 z18, v4]) ∧
 Sx.ptr p (fun a11 =>
 ((∃ v5 : Value, World.cell? W29 (Addr.add a11 15) = some v5) ∧
 (World.frozen? W29 (Addr.add a11 15) = false ∧
 (∀ W30 : World, (W30 = World.setCell W29 (Addr.add a11 15) (Value.int .i64 z17) →
 Sx.ptr p (fun a12 =>
 ((∃ v6 : Value, World.cell? W30 (Addr.add a12 16) = some v6) ∧
 (World.frozen? W30 (Addr.add a12 16) = false ∧
 (∀ W31 : World, (W31 = World.setCell W30 (Addr.add a12 16) (Value.int .i64 z18) →
 I7 W31))))))))))))))))))))))))
 (I7 W27) ∧
 ((Nat → Value) →
 (∀ W32 : World, (I7 W32 →
 (∀ W33 : World, (W33 = World.drew W32 →
 Sx.ptr p (fun a13 =>
 Sx.ptr p (fun a14 =>
 Sx.ptr p (fun a15 =>
 Sx.ptr p (fun a16 =>
 (∃ p9 : Option Addr, (World.cell? W33 (.mk arg0 arg0o none) = some (.pointer p9) ∧
 (∃ z19 : Int, (World.cell? W33 (Addr.add a13 8) = some (.int .i64 z19) ∧
 (∃ z20 : Int, (World.cell? W33 (Addr.add a14 13) = some (.int .i64 z20) ∧
 (∃ z21 : Int, (World.cell? W33 (Addr.add a15 14) = some (.int .i64 z21) ∧
 (∃ z22 : Int, (World.cell? W33 (Addr.add a16 15) = some (.int .i64 z22) ∧
 (∀ vs : Array Value, (vs = #[.int .i64 z19, .int .i64 z20, .int .i64 z21, .int .i64 z22] →
 Calls Tryz.prog 176 #[.pointer p9, .agg vs] W33 (fun e11 =>
 (fun W34 =>
 (∃ z23 : Int, (∃ v7 : Value, (e11 = .returned (.tuple #[.int .i64 z23, v7]) ∧
 Sx.ptr p (fun a17 =>
 ((∃ v8 : Value, World.cell? W34 (Addr.add a17 0) = some v8) ∧
 (World.frozen? W34 (Addr.add a17 0) = false ∧
 (∀ W35 : World, (W35 = World.setCell W34 (Addr.add a17 0) (Value.int .i64 z23) →
 (∃ I8 : World → Prop, (Sx.split x
 ((∃ p10 : Option Addr, (World.cell? W35 (.mk arg0 (arg0o + 2) none) = some (.pointer p10) ∧
 Sx.ptr p (fun a18 =>
 (∃ z24 : Int, (World.cell? W35 (Addr.add a18 0) = some (.int .i64 z24) ∧
 Sx.ptr p (fun a19 =>
 (∃ z25 : Int, (World.cell? W35 (Addr.add a19 8) = some (.int .i64 z25) ∧
 (∃ v9 : Value, ((∀ k15 : Nat, Calls Tryz.prog 177 #[.pointer p10, .int .i64 z24, .bool (z25 == 5)] (World.drewN W35 k15) (fun e12 =>
 (fun W36 =>
 (e12 = .returned v9 ∧
 (∃ k16 : Nat, W36 = World.drewN W35 k16))))) ∧
 (∀ W37 : World, (∀ k17 : Nat, (W37 = World.drewN W35 k17 →
 I8 W37))))))))))))))
 (I8 W35) ∧
 ((Nat → Value) →
 (∀ W38 : World, (I8 W38 →
 (∀ W39 : World, (W39 = World.drew W38 →
 Sx.ptr p (fun a20 =>
 Sx.ptr p (fun a21 =>
 (∃ p11 : Option Addr, (World.cell? W39 (.mk arg0 (arg0o + 3) none) = some (.pointer p11) ∧
 (∃ z26 : Int, (World.cell? W39 (Addr.add a20 1) = some (.int .u32 z26) ∧
 (∃ vs2 : Array Value, (Array.size vs2 = 5 ∧
 (Sx.cellsAt W39 (Addr.add a21 3) vs2 ∧
 Calls Tryz.prog 178 #[.pointer p11, .int .u32 z26, .agg vs2] W39 (fun e13 =>
 (fun W40 =>
 (∃ z27 : Int, (∃ vs3 : Array Value, (e13 = .returned (.tuple #[.int .u32 z27, .agg vs3]) ∧
 Sx.ptr p (fun a22 =>
 ((∃ v10 : Value, World.cell? W40 (Addr.add a22 12) = some v10) ∧
 (World.frozen? W40 (Addr.add a22 12) = false ∧
 (∀ W41 : World, (W41 = World.setCell W40 (Addr.add a22 12) (Value.int .u32 z27) →
 Sx.ptr p (fun a23 =>
 (Array.size vs3 = 3 ∧
 ((∀ k18 : Nat, (k18 < 3 →
 ((∃ v11 : Value, World.cell? W41 (.mk (Addr.block a23) (Addr.off a23 + 9 + k18) none) = some v11) ∧
 World.frozen? W41 (.mk (Addr.block a23) (Addr.off a23 + 9 + k18) none) = false))) ∧
 ((∀ v12 : Value, (v12 ∈ Array.toList vs3 →
 Value.oneCell' v12 = true)) ∧
 (∀ W42 : World, (W42 = World.setCells W41 (Addr.block a23) (Addr.off a23 + 9) (Array.toList vs3) →
 Sx.ptr p (fun a24 =>
 (∃ z28 : Int, (World.cell? W42 (Addr.add a24 12) = some (.int .u32 z28) ∧
 ((∃ v13 : Value, World.cell? W42 (.mk arg0 (arg0o + 26) none) = some v13) ∧
 (World.frozen? W42 (.mk arg0 (arg0o + 26) none) = false ∧
 (∀ W43 : World, (W43 = World.setCell W42 (.mk arg0 (arg0o + 26) none) (Value.int .u32 z28) →
 (∃ p12 : Option Addr, (∃ k19 : Nat, (∃ k20 : Nat, (World.cell? W43 (.mk arg0 (arg0o + 28) none) = some (.slice p12 k19 k20) ∧
 (∀ k21 : Nat, (∀ W44 : World, (k21 = Array.size (World.heap W43) →
 (W44 = World.alloc W43 (Obj.cells #[.pointer p] 236) →
 (∃ l : List Value, (∃ l2 : List Value, (XHeap.Sl W44 236 1 (Value.slice p12 k19 k20) k19 l ∧
 (((((1 : Nat) = (0 : Nat) ∧
 some (Addr.mk k21 0 none) = none)) ∨
 ((∃ a25 : Addr, (some (Addr.mk k21 0 none) = some a25 ∧
 (∀ k22 : Nat, (∀ v14 : Value, (l2[k22]? = some v14 →
 World.cell? W44 (Addr.add a25 k22) = some v14))))))) ∧
 (List.length l2 = 1 ∧
 ((∀ v15 : Value, (v15 ∈ l2 →
 Value.oneCell' v15 = true)) ∧
 (k19 + 1 ≤ maxLen ∧
 ((k19 + 1) * 8 ≤ 140737488355328 ∧
 (∀ p13 : Option Addr, (∀ k23 : Nat, (∀ W45 : World, (XHeap.Sl W45 236 1 (Value.slice p13 (k19 + 1) k23) (k19 + 1) (l ++ l2) →
 (XHeap.XTouch (fun b => Value.ownBlock (Value.slice p12 k19 k20) = some b) W44 W45 →
 ((∀ k24 : Nat, (Value.ownBlock (Value.slice p13 (k19 + 1) k23) = some k24 →
 ((Value.ownBlock (Value.slice p12 k19 k20) = some k24) ∨
 (Array.size (World.heap W44) ≤ k24)))) →
 (XHeap.Sl W45 236 1 (Value.slice p12 k19 k20) k19 l →
 ((((p13 = p12 ∧
 k23 = k20)) ∨
 ((((XHeap.NilP p12) ∨
 (k20 < k19 + 1)) ∧
 (∀ k25 : Nat, (Value.ownBlock (Value.slice p13 (k19 + 1) k23) = some k25 →
 Array.size (World.heap W44) ≤ k25))))) →
 ((∃ v16 : Value, World.cell? W45 (.mk arg0 (arg0o + 28) none) = some v16) ∧
 (World.frozen? W45 (.mk arg0 (arg0o + 28) none) = false ∧
 (∀ W46 : World, (W46 = World.setCell W45 (.mk arg0 (arg0o + 28) none) (Value.slice p13 (k19 + 1) k23) →
 (∀ vs4 : Array Value, (vs4 = #[.int .u32 0, .int .u32 0, .int .i64 0, .int .u32 0, .int .i64 0, .int .u32 0, .int .u32 0] →
 Calls Tryz.prog 124 #[.pointer (some (Addr.mk arg0 arg0o none)), .int .i64 1, .pointer p, .agg vs4] W46 (fun e14 =>
 (fun W47 =>
 (e14 = .returned (.tuple #[]) ∧
 Q (.returned (.bool true)) W47))))))))))))))))))))))))))))))))))))))))))))))))))))))))))))))))))))))))))))))))))))))))))))))))))))))))))))))))))))))))))))))))))))))))))))))))) :
 Calls Tryz.prog 119 #[.pointer (some ⟨arg0, arg0o, none⟩)] W Q :=
 Sx.sound Tryz.func119 (.node [] [] 0 .leaf (.node [] [] 0 .leaf (.node [(4, .bool)] [3, 0] 1 .leaf (.node [(5, .bool)] [0, 4, 3] 1 .leaf (.node [] [3, 0, 5, 4] 1 (.node [(76, .bool)] [0, 3, 5, 4] 1 .leaf .leaf) (.node [] [] 0 .leaf (.node [] [7, 3, 0, 5, 4] 1 (.node [] [] 0 .leaf (.node [] [] 0 (.node [] [] 15 .leaf .leaf) .leaf)) (.node [] [5, 3, 0, 4] 1 (.node [] [] 0 .leaf (.node [] [] 0 (.node [] [] 15 .leaf .leaf) .leaf)) (.node [] [3, 0, 4] 1 (.node [] [] 0 .leaf (.node [] [] 0 (.node [] [] 1013 .leaf .leaf) .leaf)) (.node [] [] 0 (.node [] [] 1024 .leaf .leaf) (.node [] [3, 0] 1 .leaf (.node [] [] 0 (.node [] [] 1016 .leaf .leaf) .leaf)))))))))))) [Value.pointer (some ⟨arg0, arg0o, none⟩)] rfl (Eq.mp (by kernel_rfl) hVC)
theorem vc112 {W : World} {Q : Ending → World → Prop} (arg0 : Nat) (arg0o : Nat) (arg1 : Nat) (arg1o : Nat)
 (hVC :
 (∃ t : Bool, (World.cell? W (.mk arg1 (arg1o + 23) none) = some (.bool t) ∧
 Sx.split (!t)
 (Calls Tryz.prog 148 #[.pointer (some (Addr.mk arg0 arg0o none)), .pointer (some (Addr.mk arg1 arg1o none))] W (fun e =>
 (fun W2 =>
 (∃ t2 : Bool, (e = .returned (.bool t2) ∧
 Sx.split (!t2)
 (Q (.returned (.bool false)) W2)
 ((∃ I : World → Prop, ((∃ z : Int, (World.cell? W2 (.mk arg1 (arg1o + 20) none) = some (.int .i64 z) ∧
 Sx.split (z != -1)
 (Calls Tryz.prog 149 #[.pointer (some (Addr.mk arg0 arg0o none)), .pointer (some (Addr.mk arg1 arg1o none))] W2 (fun e2 =>
 (fun W3 =>
 (e2 = .returned (.tuple #[]) ∧
 (∀ W4 : World, (W4 = World.drew W3 →
 (∀ vs : Array Value, (vs = #[.int .i64 0, .int .i64 0, .int .i64 0, .int .i64 0, .int .i64 0] →
 (∃ p : Option Addr, (World.cell? W4 (.mk arg0 (arg0o + 3) none) = some (.pointer p) ∧
 (∃ vs2 : Array Value, (Array.size vs2 = 3 ∧
 (Sx.cellsAt W4 (.mk arg1 (arg1o + 9) none) vs2 ∧
 Calls Tryz.prog 108 #[.pointer p, .agg vs2, .int .u32 0, .agg vs, .bool false] W4 (fun e3 =>
 (fun W5 =>
 (e3 = .returned (.tuple #[]) ∧
 (∀ W6 : World, (W6 = World.drew W5 →
 (∃ z2 : Int, (World.cell? W6 (.mk arg1 (arg1o + 20) none) = some (.int .i64 z2) ∧
 (∃ z3 : Int, (World.cell? W6 (.mk arg1 (arg1o + 21) none) = some (.int .u32 z3) ∧
 Calls Tryz.prog 111 #[.pointer (some (Addr.mk arg0 arg0o none)), .pointer (some (Addr.mk arg1 arg1o none)), .int .i64 z2, .int .u32 z3] W6 (fun e4 =>
 (fun W7 =>
 (e4 = .returned (.tuple #[]) ∧
 (∃ z4 : Int, (World.cell? W7 (.mk arg1 (arg1o + 15) none) = some (.int .i64 z4) ∧
 Sx.split (decide (z4 ≥ 0))
 ((∃ p2 : Option Addr, (World.cell? W7 (.mk arg0 (arg0o + 1) none) = some (.pointer p2) ∧
 (∃ z5 : Int, (World.cell? W7 (.mk arg1 (arg1o + 3 + 1) none) = some (.int .i64 z5) ∧
 (∃ z6 : Int, (World.cell? W7 (.mk arg1 (arg1o + 15) none) = some (.int .i64 z6) ∧
 (∃ z7 : Int, (World.cell? W7 (.mk arg1 (arg1o + 16) none) = some (.int .i64 z7) ∧
 (∃ v : Value, ((∀ k : Nat, Calls Tryz.prog 146 #[.pointer p2, .int .i64 z5, .int .i64 z6, .int .i64 z7] (World.drewN W7 k) (fun e5 =>
 (fun W8 =>
 (e5 = .returned v ∧
 (∃ k2 : Nat, W8 = World.drewN W7 k2))))) ∧
 (∀ W9 : World, (∀ k3 : Nat, (W9 = World.drewN W7 k3 →
 Q (.returned (.bool false)) W9))))))))))))))
 (Q (.returned (.bool false)) W7))))))))))))))))))))))))))))
 (I W2))) ∧
 ((Nat → Value) →
 (∀ W10 : World, (I W10 →
 (∃ I2 : World → Prop, (Calls Tryz.prog 149 #[.pointer (some (Addr.mk arg0 arg0o none)), .pointer (some (Addr.mk arg1 arg1o none))] W10 (fun e6 =>
 (fun W11 =>
 (e6 = .returned (.tuple #[]) ∧
 I2 W11))) ∧
 ((Nat → Value) →
 (∀ W12 : World, (I2 W12 →
 (∃ I3 : World → Prop, ((∃ z8 : Int, (World.cell? W12 (.mk arg1 (arg1o + 8) none) = some (.int .i64 z8) ∧
 Sx.split (z8 == 4)
 ((∃ p3 : Option Addr, (World.cell? W12 (.mk arg0 (arg0o + 2) none) = some (.pointer p3) ∧
 (∃ z9 : Int, (World.cell? W12 (.mk arg1 arg1o none) = some (.int .i64 z9) ∧
 (∃ v2 : Value, ((∀ k4 : Nat, Calls Tryz.prog 150 #[.pointer p3, .int .i64 z9] (World.drewN W12 k4) (fun e7 =>
 (fun W13 =>
 (e7 = .returned v2 ∧
 (∃ k5 : Nat, W13 = World.drewN W12 k5))))) ∧
 (∀ W14 : World, (∀ k6 : Nat, (W14 = World.drewN W12 k6 →
 I3 W14))))))))))
 ((∃ z10 : Int, (World.cell? W12 (.mk arg1 (arg1o + 8) none) = some (.int .i64 z10) ∧
 Sx.split (z10 == 5)
 ((∃ p4 : Option Addr, (World.cell? W12 (.mk arg0 (arg0o + 2) none) = some (.pointer p4) ∧
 (∃ z11 : Int, (World.cell? W12 (.mk arg1 arg1o none) = some (.int .i64 z11) ∧
 (∃ v3 : Value, ((∀ k7 : Nat, Calls Tryz.prog 150 #[.pointer p4, .int .i64 z11] (World.drewN W12 k7) (fun e8 =>
 (fun W15 =>
 (e8 = .returned v3 ∧
 (∃ k8 : Nat, W15 = World.drewN W12 k8))))) ∧
 (∀ W16 : World, (∀ k9 : Nat, (W16 = World.drewN W12 k9 →
 I3 W16))))))))))
 (I3 W12)))))) ∧
 ((Nat → Value) →
 (∀ W17 : World, (I3 W17 →
 (∃ I4 : Option Addr → World → Prop, ((∀ W18 : World, (W18 = World.drew W17 →
 (∃ z12 : Int, (World.cell? W18 (.mk arg1 (arg1o + 1) none) = some (.int .u32 z12) ∧
 (∃ z13 : Int, (World.cell? W18 (.mk arg1 (arg1o + 2) none) = some (.int .u32 z13) ∧
 (∃ z14 : Int, (World.cell? W18 (.mk arg1 (arg1o + 18) none) = some (.int .u32 z14) ∧
 (∀ vs3 : Array Value, (vs3 = #[.int .u32 z12, .int .u32 z13, .int .i64 0, .int .u32 0, .int .i64 (-1), .int .u32 0, .int .u32 z14] →
 (∀ k10 : Nat, (∀ W19 : World, (k10 = Array.size (World.heap W18) →
 (W19 = World.alloc W18 (Obj.cells #[.int .u32 0, .int .u32 0, .int .i64 0, .int .u32 0, .int .i64 0, .int .u32 0, .int .u32 0] 69) →
 (RowKit.Below (Array.size (World.heap W18)) W18 W19 ∧
 (Array.size vs3 = 7 ∧
 ((∀ k11 : Nat, (k11 < 7 →
 ((∃ v4 : Value, World.cell? W19 (.mk k10 (0 + k11) none) = some v4) ∧
 World.frozen? W19 (.mk k10 (0 + k11) none) = false))) ∧
 ((∀ v5 : Value, (v5 ∈ Array.toList vs3 →
 Value.oneCell' v5 = true)) ∧
 (∀ W20 : World, (W20 = World.setCells W19 k10 0 (Array.toList vs3) →
 I4 (some (Addr.mk k10 0 none)) W20)))))))))))))))))))) ∧
 ((Nat → Value) →
 (∀ x : Option Addr, (∀ W21 : World, (I4 x W21 →
 (∃ I5 : Bool → World → Prop, ((∃ z15 : Int, (World.cell? W21 (.mk arg1 (arg1o + 15) none) = some (.int .i64 z15) ∧
 I5 (decide (z15 ≥ 0)) W21)) ∧
 ((Nat → Value) →
 (∀ x2 : Bool, (∀ W22 : World, (I5 x2 W22 →
 Sx.split x2
 ((∀ W23 : World, (W23 = World.drew W22 →
 (∃ z16 : Int, (World.cell? W23 (.mk arg1 (arg1o + 3 + 1) none) = some (.int .i64 z16) ∧
 Sx.ptr x (fun a =>
 ((∃ z17 : Int, (World.cell? W23 (.mk arg1 (arg1o + 17) none) = some (.int .u32 z17) ∧
 (RowKit.Below (Array.size (World.heap W23)) W23 W23 ∧
 ((∃ v6 : Value, World.cell? W23 (Addr.add a 2) = some v6) ∧
 (World.frozen? W23 (Addr.add a 2) = false ∧
 (∀ W24 : World, (W24 = World.setCell W23 (Addr.add a 2) (Value.int .i64 z16) →
 Sx.ptr x (fun a2 =>
 ((∃ v7 : Value, World.cell? W24 (Addr.add a2 3) = some v7) ∧
 (World.frozen? W24 (Addr.add a2 3) = false ∧
 (∀ W25 : World, (W25 = World.setCell W24 (Addr.add a2 3) (Value.int .u32 z17) →
 (∃ p5 : Option Addr, (World.cell? W25 (.mk arg0 (arg0o + 1) none) = some (.pointer p5) ∧
 (∃ z18 : Int, (World.cell? W25 (.mk arg1 (arg1o + 16) none) = some (.int .i64 z18) ∧
 (∃ v8 : Value, ((∀ k12 : Nat, Calls Tryz.prog 151 #[.pointer p5, .int .i64 z18] (World.drewN W25 k12) (fun e9 =>
 (fun W26 =>
 (e9 = .returned v8 ∧
 (∃ k13 : Nat, W26 = World.drewN W25 k13))))) ∧
 (∀ W27 : World, (∀ k14 : Nat, (W27 = World.drewN W25 k14 →
 (∃ p6 : Option Addr, (World.cell? W27 (.mk arg0 (arg0o + 4) none) = some (.pointer p6) ∧
 Calls Tryz.prog 152 #[.pointer p6] W27 (fun e10 =>
 (fun W28 =>
 (e10 = .returned (.tuple #[]) ∧
 (∃ I6 : World → Prop, ((∃ z19 : Int, (World.cell? W28 (.mk arg1 (arg1o + 18) none) = some (.int .u32 z19) ∧
 ((∃ v9 : Value, World.cell? W28 (.mk arg0 (arg0o + 27) none) = some v9) ∧
 (World.frozen? W28 (.mk arg0 (arg0o + 27) none) = false ∧
 (∀ W29 : World, (W29 = World.setCell W28 (.mk arg0 (arg0o + 27) none) (Value.int .u32 z19) →
 I6 W29)))))) ∧
 ((Nat → Value) →
 (∀ W30 : World, (I6 W30 →
 (∃ I7 : World → Prop, ((∃ z20 : Int, (World.cell? W30 (.mk arg1 (arg1o + 8) none) = some (.int .i64 z20) ∧
 Sx.split (z20 == 2)
 ((∃ p7 : Option Addr, (World.cell? W30 (.mk arg0 (arg0o + 3) none) = some (.pointer p7) ∧
 (∃ vs4 : Array Value, (Array.size vs4 = 3 ∧
 (Sx.cellsAt W30 (.mk arg1 (arg1o + 9) none) vs4 ∧
 (∃ z21 : Int, (World.cell? W30 (.mk arg1 (arg1o + 1) none) = some (.int .u32 z21) ∧
 (∃ vs5 : Array Value, (Array.size vs5 = 5 ∧
 (Sx.cellsAt W30 (.mk arg1 (arg1o + 3) none) vs5 ∧
 (∃ t3 : Bool, (World.cell? W30 (.mk arg1 (arg1o + 19) none) = some (.bool t3) ∧
 (∃ z22 : Int, (World.cell? W30 (.mk arg1 (arg1o + 18) none) = some (.int .u32 z22) ∧
 ((∀ k15 : Nat, Calls Tryz.prog 153 #[.pointer p7, .agg vs4, .int .u32 z21, .agg vs5, .bool t3, .int .u32 z22] (World.drewN W30 k15) (fun e11 =>
 (fun W31 =>
 (e11 = .returned (.tuple #[]) ∧
 (∃ k16 : Nat, W31 = World.drewN W30 k16))))) ∧
 (∀ W32 : World, (∀ k17 : Nat, (W32 = World.drewN W30 k17 →
 I7 W32)))))))))))))))))))
 ((∃ z23 : Int, (World.cell? W30 (.mk arg1 (arg1o + 8) none) = some (.int .i64 z23) ∧
 Sx.split (z23 == 3)
 ((∃ p8 : Option Addr, (World.cell? W30 (.mk arg0 (arg0o + 3) none) = some (.pointer p8) ∧
 (∃ vs6 : Array Value, (Array.size vs6 = 3 ∧
 (Sx.cellsAt W30 (.mk arg1 (arg1o + 9) none) vs6 ∧
 (∃ z24 : Int, (World.cell? W30 (.mk arg1 (arg1o + 1) none) = some (.int .u32 z24) ∧
 (∃ vs7 : Array Value, (Array.size vs7 = 5 ∧
 (Sx.cellsAt W30 (.mk arg1 (arg1o + 3) none) vs7 ∧
 (∃ t4 : Bool, (World.cell? W30 (.mk arg1 (arg1o + 19) none) = some (.bool t4) ∧
 (∃ z25 : Int, (World.cell? W30 (.mk arg1 (arg1o + 18) none) = some (.int .u32 z25) ∧
 ((∀ k18 : Nat, Calls Tryz.prog 153 #[.pointer p8, .agg vs6, .int .u32 z24, .agg vs7, .bool t4, .int .u32 z25] (World.drewN W30 k18) (fun e12 =>
 (fun W33 =>
 (e12 = .returned (.tuple #[]) ∧
 (∃ k19 : Nat, W33 = World.drewN W30 k19))))) ∧
 (∀ W34 : World, (∀ k20 : Nat, (W34 = World.drewN W30 k20 →
 I7 W34)))))))))))))))))))
 (I7 W30)))))) ∧
 ((Nat → Value) →
 (∀ W35 : World, (I7 W35 →
 Sx.ptr x (fun a3 =>
 (∃ vs8 : Array Value, (Array.size vs8 = 7 ∧
 (Sx.cellsAt W35 a3 vs8 ∧
 Calls Tryz.prog 124 #[.pointer (some (Addr.mk arg0 arg0o none)), .int .i64 4, .pointer (some (Addr.mk arg1 arg1o none)), .agg vs8] W35 (fun e13 =>
 (fun W36 =>
 (e13 = .returned (.tuple #[]) ∧
 (∃ I8 : World → Prop, ((∃ t5 : Bool, (World.cell? W36 (.mk arg1 (arg1o + 27) none) = some (.bool t5) ∧
 Sx.split t5
 ((∃ z26 : Int, (World.cell? W36 (.mk arg1 (arg1o + 26) none) = some (.int .u32 z26) ∧
 (∀ k21 : Nat, (∀ W37 : World, (k21 = Array.size (World.heap W36) →
 (W37 = World.alloc W36 (Obj.cells #[.int .u32 z26] 43) →
 Calls Tryz.prog 73 #[.pointer (some (Addr.mk arg0 arg0o none)), .slice (some (Addr.mk k21 0 none)) 1 1] W37 (fun e14 =>
 (fun W38 =>
 (e14 = .returned (.tuple #[]) ∧
 I8 W38))))))))))
 (I8 W36))) ∧
 ((Nat → Value) →
 (∀ W39 : World, (I8 W39 →
 (∃ I9 : World → Prop, ((∃ z27 : Int, (World.cell? W39 (.mk arg1 (arg1o + 8) none) = some (.int .i64 z27) ∧
 Sx.split (z27 == 7)
 ((∃ z28 : Int, (World.cell? W39 (.mk arg1 (arg1o + 18) none) = some (.int .u32 z28) ∧
 (∃ z29 : Int, (World.cell? W39 (.mk arg1 (arg1o + 12) none) = some (.int .u32 z29) ∧
 (∀ W40 : World, (∀ k22 : Nat, (W40 = World.drewN W39 k22 →
 Sx.split (z28 != z29)
 ((∃ p9 : Option Addr, (World.cell? W40 (.mk arg0 (arg0o + 3) none) = some (.pointer p9) ∧
 (∃ vs9 : Array Value, (Array.size vs9 = 3 ∧
 (Sx.cellsAt W40 (.mk arg1 (arg1o + 9) none) vs9 ∧
 (∃ z30 : Int, (World.cell? W40 (.mk arg1 (arg1o + 1) none) = some (.int .u32 z30) ∧
 (∃ vs10 : Array Value, (Array.size vs10 = 5 ∧
 (Sx.cellsAt W40 (.mk arg1 (arg1o + 3) none) vs10 ∧
 ((∀ k23 : Nat, Calls Tryz.prog 108 #[.pointer p9, .agg vs9, .int .u32 z30, .agg vs10, .bool false] (World.drewN W40 k23) (fun e15 =>
 (fun W41 =>
 (e15 = .returned (.tuple #[]) ∧
 (∃ k24 : Nat, W41 = World.drewN W40 k24))))) ∧
 (∀ W42 : World, (∀ k25 : Nat, (W42 = World.drewN W40 k25 →
 (∃ z31 : Int, (World.cell? W42 (.mk arg1 arg1o none) = some (.int .i64 z31) ∧
 (∃ z32 : Int, (World.cell? W42 (.mk arg1 (arg1o + 18) none) = some (.int .u32 z32) ∧
 ((∀ k26 : Nat, Calls Tryz.prog 109 #[.pointer (some (Addr.mk arg0 arg0o none)), .int .i64 z31, .int .u32 z32] (World.drewN W42 k26) (fun e16 =>
 (fun W43 =>
 (e16 = .returned (.tuple #[]) ∧
 (∃ k27 : Nat, W43 = World.drewN W42 k27))))) ∧
 (∀ W44 : World, (∀ k28 : Nat, (W44 = World.drewN W42 k28 →
 I9 W44)))))))))))))))))))))))
 (I9 W40)))))))))
 ((∀ W45 : World, (∀ k29 : Nat, (W45 = World.drewN W39 k29 →
 I9 W45)))))) ∧
 ((Nat → Value) →
 (∀ W46 : World, (I9 W46 →
 Q (.returned (.bool true)) W46))))))))))))))))))))))))))))))))))))))))))))))))))))) ∧
 ((∃ v10 : Value, World.cell? W23 (Addr.add a 2) = some v10) ∧
 (World.frozen? W23 (Addr.add a 2) = false ∧
 (∀ W47 : World, (W47 = World.setCell W23 (Addr.add a 2) (Value.int .i64 z16) →
 (∃ z33 : Int, (World.cell? W47 (.mk arg1 (arg1o + 17) none) = some (.int .u32 z33) ∧
 Sx.ptr x (fun a4 =>
 ((∃ v11 : Value, World.cell? W47 (Addr.add a4 3) = some v11) ∧
 (World.frozen? W47 (Addr.add a4 3) = false ∧
 (∀ W48 : World, (W48 = World.setCell W47 (Addr.add a4 3) (Value.int .u32 z33) →
 (∃ p10 : Option Addr, (World.cell? W48 (.mk arg0 (arg0o + 1) none) = some (.pointer p10) ∧
 (∃ z34 : Int, (World.cell? W48 (.mk arg1 (arg1o + 16) none) = some (.int .i64 z34) ∧
 (∃ v12 : Value, ((∀ k30 : Nat, Calls Tryz.prog 151 #[.pointer p10, .int .i64 z34] (World.drewN W48 k30) (fun e17 =>
 (fun W49 =>
 (e17 = .returned v12 ∧
 (∃ k31 : Nat, W49 = World.drewN W48 k31))))) ∧
 (∀ W50 : World, (∀ k32 : Nat, (W50 = World.drewN W48 k32 →
 (∃ p11 : Option Addr, (World.cell? W50 (.mk arg0 (arg0o + 4) none) = some (.pointer p11) ∧
 Calls Tryz.prog 152 #[.pointer p11] W50 (fun e18 =>
 (fun W51 =>
 (e18 = .returned (.tuple #[]) ∧
 (∃ I10 : World → Prop, ((∃ z35 : Int, (World.cell? W51 (.mk arg1 (arg1o + 18) none) = some (.int .u32 z35) ∧
 ((∃ v13 : Value, World.cell? W51 (.mk arg0 (arg0o + 27) none) = some v13) ∧
 (World.frozen? W51 (.mk arg0 (arg0o + 27) none) = false ∧
 (∀ W52 : World, (W52 = World.setCell W51 (.mk arg0 (arg0o + 27) none) (Value.int .u32 z35) →
 I10 W52)))))) ∧
 ((Nat → Value) →
 (∀ W53 : World, (I10 W53 →
 (∃ I11 : World → Prop, ((∃ z36 : Int, (World.cell? W53 (.mk arg1 (arg1o + 8) none) = some (.int .i64 z36) ∧
 Sx.split (z36 == 2)
 ((∃ p12 : Option Addr, (World.cell? W53 (.mk arg0 (arg0o + 3) none) = some (.pointer p12) ∧
 (∃ vs11 : Array Value, (Array.size vs11 = 3 ∧
 (Sx.cellsAt W53 (.mk arg1 (arg1o + 9) none) vs11 ∧
 (∃ z37 : Int, (World.cell? W53 (.mk arg1 (arg1o + 1) none) = some (.int .u32 z37) ∧
 (∃ vs12 : Array Value, (Array.size vs12 = 5 ∧
 (Sx.cellsAt W53 (.mk arg1 (arg1o + 3) none) vs12 ∧
 (∃ t6 : Bool, (World.cell? W53 (.mk arg1 (arg1o + 19) none) = some (.bool t6) ∧
 (∃ z38 : Int, (World.cell? W53 (.mk arg1 (arg1o + 18) none) = some (.int .u32 z38) ∧
 ((∀ k33 : Nat, Calls Tryz.prog 153 #[.pointer p12, .agg vs11, .int .u32 z37, .agg vs12, .bool t6, .int .u32 z38] (World.drewN W53 k33) (fun e19 =>
 (fun W54 =>
 (e19 = .returned (.tuple #[]) ∧
 (∃ k34 : Nat, W54 = World.drewN W53 k34))))) ∧
 (∀ W55 : World, (∀ k35 : Nat, (W55 = World.drewN W53 k35 →
 I11 W55)))))))))))))))))))
 ((∃ z39 : Int, (World.cell? W53 (.mk arg1 (arg1o + 8) none) = some (.int .i64 z39) ∧
 Sx.split (z39 == 3)
 ((∃ p13 : Option Addr, (World.cell? W53 (.mk arg0 (arg0o + 3) none) = some (.pointer p13) ∧
 (∃ vs13 : Array Value, (Array.size vs13 = 3 ∧
 (Sx.cellsAt W53 (.mk arg1 (arg1o + 9) none) vs13 ∧
 (∃ z40 : Int, (World.cell? W53 (.mk arg1 (arg1o + 1) none) = some (.int .u32 z40) ∧
 (∃ vs14 : Array Value, (Array.size vs14 = 5 ∧
 (Sx.cellsAt W53 (.mk arg1 (arg1o + 3) none) vs14 ∧
 (∃ t7 : Bool, (World.cell? W53 (.mk arg1 (arg1o + 19) none) = some (.bool t7) ∧
 (∃ z41 : Int, (World.cell? W53 (.mk arg1 (arg1o + 18) none) = some (.int .u32 z41) ∧
 ((∀ k36 : Nat, Calls Tryz.prog 153 #[.pointer p13, .agg vs13, .int .u32 z40, .agg vs14, .bool t7, .int .u32 z41] (World.drewN W53 k36) (fun e20 =>
 (fun W56 =>
 (e20 = .returned (.tuple #[]) ∧
 (∃ k37 : Nat, W56 = World.drewN W53 k37))))) ∧
 (∀ W57 : World, (∀ k38 : Nat, (W57 = World.drewN W53 k38 →
 I11 W57)))))))))))))))))))
 (I11 W53)))))) ∧
 ((Nat → Value) →
 (∀ W58 : World, (I11 W58 →
 Sx.ptr x (fun a5 =>
 (∃ vs15 : Array Value, (Array.size vs15 = 7 ∧
 (Sx.cellsAt W58 a5 vs15 ∧
 Calls Tryz.prog 124 #[.pointer (some (Addr.mk arg0 arg0o none)), .int .i64 4, .pointer (some (Addr.mk arg1 arg1o none)), .agg vs15] W58 (fun e21 =>
 (fun W59 =>
 (e21 = .returned (.tuple #[]) ∧
 (∃ I12 : World → Prop, ((∃ t8 : Bool, (World.cell? W59 (.mk arg1 (arg1o + 27) none) = some (.bool t8) ∧
 Sx.split t8
 ((∃ z42 : Int, (World.cell? W59 (.mk arg1 (arg1o + 26) none) = some (.int .u32 z42) ∧
 (∀ k39 : Nat, (∀ W60 : World, (k39 = Array.size (World.heap W59) →
 (W60 = World.alloc W59 (Obj.cells #[.int .u32 z42] 43) →
 Calls Tryz.prog 73 #[.pointer (some (Addr.mk arg0 arg0o none)), .slice (some (Addr.mk k39 0 none)) 1 1] W60 (fun e22 =>
 (fun W61 =>
 (e22 = .returned (.tuple #[]) ∧
 I12 W61))))))))))
 (I12 W59))) ∧
 ((Nat → Value) →
 (∀ W62 : World, (I12 W62 →
 (∃ I13 : World → Prop, ((∃ z43 : Int, (World.cell? W62 (.mk arg1 (arg1o + 8) none) = some (.int .i64 z43) ∧
 Sx.split (z43 == 7)
 ((∃ z44 : Int, (World.cell? W62 (.mk arg1 (arg1o + 18) none) = some (.int .u32 z44) ∧
 (∃ z45 : Int, (World.cell? W62 (.mk arg1 (arg1o + 12) none) = some (.int .u32 z45) ∧
 (∀ W63 : World, (∀ k40 : Nat, (W63 = World.drewN W62 k40 →
 Sx.split (z44 != z45)
 ((∃ p14 : Option Addr, (World.cell? W63 (.mk arg0 (arg0o + 3) none) = some (.pointer p14) ∧
 (∃ vs16 : Array Value, (Array.size vs16 = 3 ∧
 (Sx.cellsAt W63 (.mk arg1 (arg1o + 9) none) vs16 ∧
 (∃ z46 : Int, (World.cell? W63 (.mk arg1 (arg1o + 1) none) = some (.int .u32 z46) ∧
 (∃ vs17 : Array Value, (Array.size vs17 = 5 ∧
 (Sx.cellsAt W63 (.mk arg1 (arg1o + 3) none) vs17 ∧
 ((∀ k41 : Nat, Calls Tryz.prog 108 #[.pointer p14, .agg vs16, .int .u32 z46, .agg vs17, .bool false] (World.drewN W63 k41) (fun e23 =>
 (fun W64 =>
 (e23 = .returned (.tuple #[]) ∧
 (∃ k42 : Nat, W64 = World.drewN W63 k42))))) ∧
 (∀ W65 : World, (∀ k43 : Nat, (W65 = World.drewN W63 k43 →
 (∃ z47 : Int, (World.cell? W65 (.mk arg1 arg1o none) = some (.int .i64 z47) ∧
 (∃ z48 : Int, (World.cell? W65 (.mk arg1 (arg1o + 18) none) = some (.int .u32 z48) ∧
 ((∀ k44 : Nat, Calls Tryz.prog 109 #[.pointer (some (Addr.mk arg0 arg0o none)), .int .i64 z47, .int .u32 z48] (World.drewN W65 k44) (fun e24 =>
 (fun W66 =>
 (e24 = .returned (.tuple #[]) ∧
 (∃ k45 : Nat, W66 = World.drewN W65 k45))))) ∧
 (∀ W67 : World, (∀ k46 : Nat, (W67 = World.drewN W65 k46 →
 I13 W67)))))))))))))))))))))))
 (I13 W63)))))))))
 ((∀ W68 : World, (∀ k47 : Nat, (W68 = World.drewN W62 k47 →
 I13 W68)))))) ∧
 ((Nat → Value) →
 (∀ W69 : World, (I13 W69 →
 Q (.returned (.bool true)) W69)))))))))))))))))))))))))))))))))))))))))))))))))))))))))))
 ((∃ p15 : Option Addr, (World.cell? W22 (.mk arg0 (arg0o + 4) none) = some (.pointer p15) ∧
 Calls Tryz.prog 152 #[.pointer p15] W22 (fun e25 =>
 (fun W70 =>
 (e25 = .returned (.tuple #[]) ∧
 (∃ I14 : World → Prop, ((∃ z49 : Int, (World.cell? W70 (.mk arg1 (arg1o + 18) none) = some (.int .u32 z49) ∧
 ((∃ v14 : Value, World.cell? W70 (.mk arg0 (arg0o + 27) none) = some v14) ∧
 (World.frozen? W70 (.mk arg0 (arg0o + 27) none) = false ∧
 (∀ W71 : World, (W71 = World.setCell W70 (.mk arg0 (arg0o + 27) none) (Value.int .u32 z49) →
 I14 W71)))))) ∧
 ((Nat → Value) →
 (∀ W72 : World, (I14 W72 →
 (∃ I15 : World → Prop, ((∃ z50 : Int, (World.cell? W72 (.mk arg1 (arg1o + 8) none) = some (.int .i64 z50) ∧
 Sx.split (z50 == 2)
 ((∃ p16 : Option Addr, (World.cell? W72 (.mk arg0 (arg0o + 3) none) = some (.pointer p16) ∧
 (∃ vs18 : Array Value, (Array.size vs18 = 3 ∧
 (Sx.cellsAt W72 (.mk arg1 (arg1o + 9) none) vs18 ∧
 (∃ z51 : Int, (World.cell? W72 (.mk arg1 (arg1o + 1) none) = some (.int .u32 z51) ∧
 (∃ vs19 : Array Value, (Array.size vs19 = 5 ∧
 (Sx.cellsAt W72 (.mk arg1 (arg1o + 3) none) vs19 ∧
 (∃ t9 : Bool, (World.cell? W72 (.mk arg1 (arg1o + 19) none) = some (.bool t9) ∧
 (∃ z52 : Int, (World.cell? W72 (.mk arg1 (arg1o + 18) none) = some (.int .u32 z52) ∧
 ((∀ k48 : Nat, Calls Tryz.prog 153 #[.pointer p16, .agg vs18, .int .u32 z51, .agg vs19, .bool t9, .int .u32 z52] (World.drewN W72 k48) (fun e26 =>
 (fun W73 =>
 (e26 = .returned (.tuple #[]) ∧
 (∃ k49 : Nat, W73 = World.drewN W72 k49))))) ∧
 (∀ W74 : World, (∀ k50 : Nat, (W74 = World.drewN W72 k50 →
 I15 W74)))))))))))))))))))
 ((∃ z53 : Int, (World.cell? W72 (.mk arg1 (arg1o + 8) none) = some (.int .i64 z53) ∧
 Sx.split (z53 == 3)
 ((∃ p17 : Option Addr, (World.cell? W72 (.mk arg0 (arg0o + 3) none) = some (.pointer p17) ∧
 (∃ vs20 : Array Value, (Array.size vs20 = 3 ∧
 (Sx.cellsAt W72 (.mk arg1 (arg1o + 9) none) vs20 ∧
 (∃ z54 : Int, (World.cell? W72 (.mk arg1 (arg1o + 1) none) = some (.int .u32 z54) ∧
 (∃ vs21 : Array Value, (Array.size vs21 = 5 ∧
 (Sx.cellsAt W72 (.mk arg1 (arg1o + 3) none) vs21 ∧
 (∃ t10 : Bool, (World.cell? W72 (.mk arg1 (arg1o + 19) none) = some (.bool t10) ∧
 (∃ z55 : Int, (World.cell? W72 (.mk arg1 (arg1o + 18) none) = some (.int .u32 z55) ∧
 ((∀ k51 : Nat, Calls Tryz.prog 153 #[.pointer p17, .agg vs20, .int .u32 z54, .agg vs21, .bool t10, .int .u32 z55] (World.drewN W72 k51) (fun e27 =>
 (fun W75 =>
 (e27 = .returned (.tuple #[]) ∧
 (∃ k52 : Nat, W75 = World.drewN W72 k52))))) ∧
 (∀ W76 : World, (∀ k53 : Nat, (W76 = World.drewN W72 k53 →
 I15 W76)))))))))))))))))))
 (I15 W72)))))) ∧
 ((Nat → Value) →
 (∀ W77 : World, (I15 W77 →
 Sx.ptr x (fun a6 =>
 (∃ vs22 : Array Value, (Array.size vs22 = 7 ∧
 (Sx.cellsAt W77 a6 vs22 ∧
 Calls Tryz.prog 124 #[.pointer (some (Addr.mk arg0 arg0o none)), .int .i64 4, .pointer (some (Addr.mk arg1 arg1o none)), .agg vs22] W77 (fun e28 =>
 (fun W78 =>
 (e28 = .returned (.tuple #[]) ∧
 (∃ I16 : World → Prop, ((∃ t11 : Bool, (World.cell? W78 (.mk arg1 (arg1o + 27) none) = some (.bool t11) ∧
 Sx.split t11
 ((∃ z56 : Int, (World.cell? W78 (.mk arg1 (arg1o + 26) none) = some (.int .u32 z56) ∧
 (∀ k54 : Nat, (∀ W79 : World, (k54 = Array.size (World.heap W78) →
 (W79 = World.alloc W78 (Obj.cells #[.int .u32 z56] 43) →
 Calls Tryz.prog 73 #[.pointer (some (Addr.mk arg0 arg0o none)), .slice (some (Addr.mk k54 0 none)) 1 1] W79 (fun e29 =>
 (fun W80 =>
 (e29 = .returned (.tuple #[]) ∧
 I16 W80))))))))))
 (I16 W78))) ∧
 ((Nat → Value) →
 (∀ W81 : World, (I16 W81 →
 (∃ I17 : World → Prop, ((∃ z57 : Int, (World.cell? W81 (.mk arg1 (arg1o + 8) none) = some (.int .i64 z57) ∧
 Sx.split (z57 == 7)
 ((∃ z58 : Int, (World.cell? W81 (.mk arg1 (arg1o + 18) none) = some (.int .u32 z58) ∧
 (∃ z59 : Int, (World.cell? W81 (.mk arg1 (arg1o + 12) none) = some (.int .u32 z59) ∧
 (∀ W82 : World, (∀ k55 : Nat, (W82 = World.drewN W81 k55 →
 Sx.split (z58 != z59)
 ((∃ p18 : Option Addr, (World.cell? W82 (.mk arg0 (arg0o + 3) none) = some (.pointer p18) ∧
 (∃ vs23 : Array Value, (Array.size vs23 = 3 ∧
 (Sx.cellsAt W82 (.mk arg1 (arg1o + 9) none) vs23 ∧
 (∃ z60 : Int, (World.cell? W82 (.mk arg1 (arg1o + 1) none) = some (.int .u32 z60) ∧
 (∃ vs24 : Array Value, (Array.size vs24 = 5 ∧
 (Sx.cellsAt W82 (.mk arg1 (arg1o + 3) none) vs24 ∧
 ((∀ k56 : Nat, Calls Tryz.prog 108 #[.pointer p18, .agg vs23, .int .u32 z60, .agg vs24, .bool false] (World.drewN W82 k56) (fun e30 =>
 (fun W83 =>
 (e30 = .returned (.tuple #[]) ∧
 (∃ k57 : Nat, W83 = World.drewN W82 k57))))) ∧
 (∀ W84 : World, (∀ k58 : Nat, (W84 = World.drewN W82 k58 →
 (∃ z61 : Int, (World.cell? W84 (.mk arg1 arg1o none) = some (.int .i64 z61) ∧
 (∃ z62 : Int, (World.cell? W84 (.mk arg1 (arg1o + 18) none) = some (.int .u32 z62) ∧
 ((∀ k59 : Nat, Calls Tryz.prog 109 #[.pointer (some (Addr.mk arg0 arg0o none)), .int .i64 z61, .int .u32 z62] (World.drewN W84 k59) (fun e31 =>
 (fun W85 =>
 (e31 = .returned (.tuple #[]) ∧
 (∃ k60 : Nat, W85 = World.drewN W84 k60))))) ∧
 (∀ W86 : World, (∀ k61 : Nat, (W86 = World.drewN W84 k61 →
 I17 W86)))))))))))))))))))))))
 (I17 W82)))))))))
 ((∀ W87 : World, (∀ k62 : Nat, (W87 = World.drewN W81 k62 →
 I17 W87)))))) ∧
 ((Nat → Value) →
 (∀ W88 : World, (I17 W88 →
 Q (.returned (.bool true)) W88))))))))))))))))))))))))))))))))))))))))))))))))))))))))))))))))))
 ((∃ I18 : World → Prop, ((∃ z63 : Int, (World.cell? W (.mk arg1 (arg1o + 20) none) = some (.int .i64 z63) ∧
 Sx.split (z63 != -1)
 (Calls Tryz.prog 149 #[.pointer (some (Addr.mk arg0 arg0o none)), .pointer (some (Addr.mk arg1 arg1o none))] W (fun e32 =>
 (fun W89 =>
 (e32 = .returned (.tuple #[]) ∧
 (∀ W90 : World, (W90 = World.drew W89 →
 (∀ vs25 : Array Value, (vs25 = #[.int .i64 0, .int .i64 0, .int .i64 0, .int .i64 0, .int .i64 0] →
 (∃ p19 : Option Addr, (World.cell? W90 (.mk arg0 (arg0o + 3) none) = some (.pointer p19) ∧
 (∃ vs26 : Array Value, (Array.size vs26 = 3 ∧
 (Sx.cellsAt W90 (.mk arg1 (arg1o + 9) none) vs26 ∧
 Calls Tryz.prog 108 #[.pointer p19, .agg vs26, .int .u32 0, .agg vs25, .bool false] W90 (fun e33 =>
 (fun W91 =>
 (e33 = .returned (.tuple #[]) ∧
 (∀ W92 : World, (W92 = World.drew W91 →
 (∃ z64 : Int, (World.cell? W92 (.mk arg1 (arg1o + 20) none) = some (.int .i64 z64) ∧
 (∃ z65 : Int, (World.cell? W92 (.mk arg1 (arg1o + 21) none) = some (.int .u32 z65) ∧
 Calls Tryz.prog 111 #[.pointer (some (Addr.mk arg0 arg0o none)), .pointer (some (Addr.mk arg1 arg1o none)), .int .i64 z64, .int .u32 z65] W92 (fun e34 =>
 (fun W93 =>
 (e34 = .returned (.tuple #[]) ∧
 (∃ z66 : Int, (World.cell? W93 (.mk arg1 (arg1o + 15) none) = some (.int .i64 z66) ∧
 Sx.split (decide (z66 ≥ 0))
 ((∃ p20 : Option Addr, (World.cell? W93 (.mk arg0 (arg0o + 1) none) = some (.pointer p20) ∧
 (∃ z67 : Int, (World.cell? W93 (.mk arg1 (arg1o + 3 + 1) none) = some (.int .i64 z67) ∧
 (∃ z68 : Int, (World.cell? W93 (.mk arg1 (arg1o + 15) none) = some (.int .i64 z68) ∧
 (∃ z69 : Int, (World.cell? W93 (.mk arg1 (arg1o + 16) none) = some (.int .i64 z69) ∧
 (∃ v15 : Value, ((∀ k63 : Nat, Calls Tryz.prog 146 #[.pointer p20, .int .i64 z67, .int .i64 z68, .int .i64 z69] (World.drewN W93 k63) (fun e35 =>
 (fun W94 =>
 (e35 = .returned v15 ∧
 (∃ k64 : Nat, W94 = World.drewN W93 k64))))) ∧
 (∀ W95 : World, (∀ k65 : Nat, (W95 = World.drewN W93 k65 →
 Q (.returned (.bool false)) W95))))))))))))))
 (Q (.returned (.bool false)) W93))))))))))))))))))))))))))))
 (I18 W))) ∧
 ((Nat → Value) →
 (∀ W96 : World, (I18 W96 →
 (∃ I19 : World → Prop, (Calls Tryz.prog 149 #[.pointer (some (Addr.mk arg0 arg0o none)), .pointer (some (Addr.mk arg1 arg1o none))] W96 (fun e36 =>
 (fun W97 =>
 (e36 = .returned (.tuple #[]) ∧
 I19 W97))) ∧
 ((Nat → Value) →
 (∀ W98 : World, (I19 W98 →
 (∃ I20 : World → Prop, ((∃ z70 : Int, (World.cell? W98 (.mk arg1 (arg1o + 8) none) = some (.int .i64 z70) ∧
 Sx.split (z70 == 4)
 ((∃ p21 : Option Addr, (World.cell? W98 (.mk arg0 (arg0o + 2) none) = some (.pointer p21) ∧
 (∃ z71 : Int, (World.cell? W98 (.mk arg1 arg1o none) = some (.int .i64 z71) ∧
 (∃ v16 : Value, ((∀ k66 : Nat, Calls Tryz.prog 150 #[.pointer p21, .int .i64 z71] (World.drewN W98 k66) (fun e37 =>
 (fun W99 =>
 (e37 = .returned v16 ∧
 (∃ k67 : Nat, W99 = World.drewN W98 k67))))) ∧
 (∀ W100 : World, (∀ k68 : Nat, (W100 = World.drewN W98 k68 →
 I20 W100))))))))))
 ((∃ z72 : Int, (World.cell? W98 (.mk arg1 (arg1o + 8) none) = some (.int .i64 z72) ∧
 Sx.split (z72 == 5)
 ((∃ p22 : Option Addr, (World.cell? W98 (.mk arg0 (arg0o + 2) none) = some (.pointer p22) ∧
 (∃ z73 : Int, (World.cell? W98 (.mk arg1 arg1o none) = some (.int .i64 z73) ∧
 (∃ v17 : Value, ((∀ k69 : Nat, Calls Tryz.prog 150 #[.pointer p22, .int .i64 z73] (World.drewN W98 k69) (fun e38 =>
 (fun W101 =>
 (e38 = .returned v17 ∧
 (∃ k70 : Nat, W101 = World.drewN W98 k70))))) ∧
 (∀ W102 : World, (∀ k71 : Nat, (W102 = World.drewN W98 k71 →
 I20 W102))))))))))
 (I20 W98)))))) ∧
 ((Nat → Value) →
 (∀ W103 : World, (I20 W103 →
 (∃ I21 : Option Addr → World → Prop, ((∀ W104 : World, (W104 = World.drew W103 →
 (∃ z74 : Int, (World.cell? W104 (.mk arg1 (arg1o + 1) none) = some (.int .u32 z74) ∧
 (∃ z75 : Int, (World.cell? W104 (.mk arg1 (arg1o + 2) none) = some (.int .u32 z75) ∧
 (∃ z76 : Int, (World.cell? W104 (.mk arg1 (arg1o + 18) none) = some (.int .u32 z76) ∧
 (∀ vs27 : Array Value, (vs27 = #[.int .u32 z74, .int .u32 z75, .int .i64 0, .int .u32 0, .int .i64 (-1), .int .u32 0, .int .u32 z76] →
 (∀ k72 : Nat, (∀ W105 : World, (k72 = Array.size (World.heap W104) →
 (W105 = World.alloc W104 (Obj.cells #[.int .u32 0, .int .u32 0, .int .i64 0, .int .u32 0, .int .i64 0, .int .u32 0, .int .u32 0] 69) →
 (RowKit.Below (Array.size (World.heap W104)) W104 W105 ∧
 (Array.size vs27 = 7 ∧
 ((∀ k73 : Nat, (k73 < 7 →
 ((∃ v18 : Value, World.cell? W105 (.mk k72 (0 + k73) none) = some v18) ∧
 World.frozen? W105 (.mk k72 (0 + k73) none) = false))) ∧
 ((∀ v19 : Value, (v19 ∈ Array.toList vs27 →
 Value.oneCell' v19 = true)) ∧
 (∀ W106 : World, (W106 = World.setCells W105 k72 0 (Array.toList vs27) →
 I21 (some (Addr.mk k72 0 none)) W106)))))))))))))))))))) ∧
 ((Nat → Value) →
 (∀ x3 : Option Addr, (∀ W107 : World, (I21 x3 W107 →
 (∃ I22 : Bool → World → Prop, ((∃ z77 : Int, (World.cell? W107 (.mk arg1 (arg1o + 15) none) = some (.int .i64 z77) ∧
 I22 (decide (z77 ≥ 0)) W107)) ∧
 ((Nat → Value) →
 (∀ x4 : Bool, (∀ W108 : World, (I22 x4 W108 →
 Sx.split x4
 ((∀ W109 : World, (W109 = World.drew W108 →
 (∃ z78 : Int, (World.cell? W109 (.mk arg1 (arg1o + 3 + 1) none) = some (.int .i64 z78) ∧
 Sx.ptr x3 (fun a7 =>
 ((∃ z79 : Int, (World.cell? W109 (.mk arg1 (arg1o + 17) none) = some (.int .u32 z79) ∧
 (RowKit.Below (Array.size (World.heap W109)) W109 W109 ∧
 ((∃ v20 : Value, World.cell? W109 (Addr.add a7 2) = some v20) ∧
 (World.frozen? W109 (Addr.add a7 2) = false ∧
 (∀ W110 : World, (W110 = World.setCell W109 (Addr.add a7 2) (Value.int .i64 z78) →
 Sx.ptr x3 (fun a8 =>
 ((∃ v21 : Value, World.cell? W110 (Addr.add a8 3) = some v21) ∧
 (World.frozen? W110 (Addr.add a8 3) = false ∧
 (∀ W111 : World, (W111 = World.setCell W110 (Addr.add a8 3) (Value.int .u32 z79) →
 (∃ p23 : Option Addr, (World.cell? W111 (.mk arg0 (arg0o + 1) none) = some (.pointer p23) ∧
 (∃ z80 : Int, (World.cell? W111 (.mk arg1 (arg1o + 16) none) = some (.int .i64 z80) ∧
 (∃ v22 : Value, ((∀ k74 : Nat, Calls Tryz.prog 151 #[.pointer p23, .int .i64 z80] (World.drewN W111 k74) (fun e39 =>
 (fun W112 =>
 (e39 = .returned v22 ∧
 (∃ k75 : Nat, W112 = World.drewN W111 k75))))) ∧
 (∀ W113 : World, (∀ k76 : Nat, (W113 = World.drewN W111 k76 →
 (∃ p24 : Option Addr, (World.cell? W113 (.mk arg0 (arg0o + 4) none) = some (.pointer p24) ∧
 Calls Tryz.prog 152 #[.pointer p24] W113 (fun e40 =>
 (fun W114 =>
 (e40 = .returned (.tuple #[]) ∧
 (∃ I23 : World → Prop, ((∃ z81 : Int, (World.cell? W114 (.mk arg1 (arg1o + 18) none) = some (.int .u32 z81) ∧
 ((∃ v23 : Value, World.cell? W114 (.mk arg0 (arg0o + 27) none) = some v23) ∧
 (World.frozen? W114 (.mk arg0 (arg0o + 27) none) = false ∧
 (∀ W115 : World, (W115 = World.setCell W114 (.mk arg0 (arg0o + 27) none) (Value.int .u32 z81) →
 I23 W115)))))) ∧
 ((Nat → Value) →
 (∀ W116 : World, (I23 W116 →
 (∃ I24 : World → Prop, ((∃ z82 : Int, (World.cell? W116 (.mk arg1 (arg1o + 8) none) = some (.int .i64 z82) ∧
 Sx.split (z82 == 2)
 ((∃ p25 : Option Addr, (World.cell? W116 (.mk arg0 (arg0o + 3) none) = some (.pointer p25) ∧
 (∃ vs28 : Array Value, (Array.size vs28 = 3 ∧
 (Sx.cellsAt W116 (.mk arg1 (arg1o + 9) none) vs28 ∧
 (∃ z83 : Int, (World.cell? W116 (.mk arg1 (arg1o + 1) none) = some (.int .u32 z83) ∧
 (∃ vs29 : Array Value, (Array.size vs29 = 5 ∧
 (Sx.cellsAt W116 (.mk arg1 (arg1o + 3) none) vs29 ∧
 (∃ t12 : Bool, (World.cell? W116 (.mk arg1 (arg1o + 19) none) = some (.bool t12) ∧
 (∃ z84 : Int, (World.cell? W116 (.mk arg1 (arg1o + 18) none) = some (.int .u32 z84) ∧
 ((∀ k77 : Nat, Calls Tryz.prog 153 #[.pointer p25, .agg vs28, .int .u32 z83, .agg vs29, .bool t12, .int .u32 z84] (World.drewN W116 k77) (fun e41 =>
 (fun W117 =>
 (e41 = .returned (.tuple #[]) ∧
 (∃ k78 : Nat, W117 = World.drewN W116 k78))))) ∧
 (∀ W118 : World, (∀ k79 : Nat, (W118 = World.drewN W116 k79 →
 I24 W118)))))))))))))))))))
 ((∃ z85 : Int, (World.cell? W116 (.mk arg1 (arg1o + 8) none) = some (.int .i64 z85) ∧
 Sx.split (z85 == 3)
 ((∃ p26 : Option Addr, (World.cell? W116 (.mk arg0 (arg0o + 3) none) = some (.pointer p26) ∧
 (∃ vs30 : Array Value, (Array.size vs30 = 3 ∧
 (Sx.cellsAt W116 (.mk arg1 (arg1o + 9) none) vs30 ∧
 (∃ z86 : Int, (World.cell? W116 (.mk arg1 (arg1o + 1) none) = some (.int .u32 z86) ∧
 (∃ vs31 : Array Value, (Array.size vs31 = 5 ∧
 (Sx.cellsAt W116 (.mk arg1 (arg1o + 3) none) vs31 ∧
 (∃ t13 : Bool, (World.cell? W116 (.mk arg1 (arg1o + 19) none) = some (.bool t13) ∧
 (∃ z87 : Int, (World.cell? W116 (.mk arg1 (arg1o + 18) none) = some (.int .u32 z87) ∧
 ((∀ k80 : Nat, Calls Tryz.prog 153 #[.pointer p26, .agg vs30, .int .u32 z86, .agg vs31, .bool t13, .int .u32 z87] (World.drewN W116 k80) (fun e42 =>
 (fun W119 =>
 (e42 = .returned (.tuple #[]) ∧
 (∃ k81 : Nat, W119 = World.drewN W116 k81))))) ∧
 (∀ W120 : World, (∀ k82 : Nat, (W120 = World.drewN W116 k82 →
 I24 W120)))))))))))))))))))
 (I24 W116)))))) ∧
 ((Nat → Value) →
 (∀ W121 : World, (I24 W121 →
 Sx.ptr x3 (fun a9 =>
 (∃ vs32 : Array Value, (Array.size vs32 = 7 ∧
 (Sx.cellsAt W121 a9 vs32 ∧
 Calls Tryz.prog 124 #[.pointer (some (Addr.mk arg0 arg0o none)), .int .i64 4, .pointer (some (Addr.mk arg1 arg1o none)), .agg vs32] W121 (fun e43 =>
 (fun W122 =>
 (e43 = .returned (.tuple #[]) ∧
 (∃ I25 : World → Prop, ((∃ t14 : Bool, (World.cell? W122 (.mk arg1 (arg1o + 27) none) = some (.bool t14) ∧
 Sx.split t14
 ((∃ z88 : Int, (World.cell? W122 (.mk arg1 (arg1o + 26) none) = some (.int .u32 z88) ∧
 (∀ k83 : Nat, (∀ W123 : World, (k83 = Array.size (World.heap W122) →
 (W123 = World.alloc W122 (Obj.cells #[.int .u32 z88] 43) →
 Calls Tryz.prog 73 #[.pointer (some (Addr.mk arg0 arg0o none)), .slice (some (Addr.mk k83 0 none)) 1 1] W123 (fun e44 =>
 (fun W124 =>
 (e44 = .returned (.tuple #[]) ∧
 I25 W124))))))))))
 (I25 W122))) ∧
 ((Nat → Value) →
 (∀ W125 : World, (I25 W125 →
 (∃ I26 : World → Prop, ((∃ z89 : Int, (World.cell? W125 (.mk arg1 (arg1o + 8) none) = some (.int .i64 z89) ∧
 Sx.split (z89 == 7)
 ((∃ z90 : Int, (World.cell? W125 (.mk arg1 (arg1o + 18) none) = some (.int .u32 z90) ∧
 (∃ z91 : Int, (World.cell? W125 (.mk arg1 (arg1o + 12) none) = some (.int .u32 z91) ∧
 (∀ W126 : World, (∀ k84 : Nat, (W126 = World.drewN W125 k84 →
 Sx.split (z90 != z91)
 ((∃ p27 : Option Addr, (World.cell? W126 (.mk arg0 (arg0o + 3) none) = some (.pointer p27) ∧
 (∃ vs33 : Array Value, (Array.size vs33 = 3 ∧
 (Sx.cellsAt W126 (.mk arg1 (arg1o + 9) none) vs33 ∧
 (∃ z92 : Int, (World.cell? W126 (.mk arg1 (arg1o + 1) none) = some (.int .u32 z92) ∧
 (∃ vs34 : Array Value, (Array.size vs34 = 5 ∧
 (Sx.cellsAt W126 (.mk arg1 (arg1o + 3) none) vs34 ∧
 ((∀ k85 : Nat, Calls Tryz.prog 108 #[.pointer p27, .agg vs33, .int .u32 z92, .agg vs34, .bool false] (World.drewN W126 k85) (fun e45 =>
 (fun W127 =>
 (e45 = .returned (.tuple #[]) ∧
 (∃ k86 : Nat, W127 = World.drewN W126 k86))))) ∧
 (∀ W128 : World, (∀ k87 : Nat, (W128 = World.drewN W126 k87 →
 (∃ z93 : Int, (World.cell? W128 (.mk arg1 arg1o none) = some (.int .i64 z93) ∧
 (∃ z94 : Int, (World.cell? W128 (.mk arg1 (arg1o + 18) none) = some (.int .u32 z94) ∧
 ((∀ k88 : Nat, Calls Tryz.prog 109 #[.pointer (some (Addr.mk arg0 arg0o none)), .int .i64 z93, .int .u32 z94] (World.drewN W128 k88) (fun e46 =>
 (fun W129 =>
 (e46 = .returned (.tuple #[]) ∧
 (∃ k89 : Nat, W129 = World.drewN W128 k89))))) ∧
 (∀ W130 : World, (∀ k90 : Nat, (W130 = World.drewN W128 k90 →
 I26 W130)))))))))))))))))))))))
 (I26 W126)))))))))
 ((∀ W131 : World, (∀ k91 : Nat, (W131 = World.drewN W125 k91 →
 I26 W131)))))) ∧
 ((Nat → Value) →
 (∀ W132 : World, (I26 W132 →
 Q (.returned (.bool true)) W132))))))))))))))))))))))))))))))))))))))))))))))))))))) ∧
 ((∃ v24 : Value, World.cell? W109 (Addr.add a7 2) = some v24) ∧
 (World.frozen? W109 (Addr.add a7 2) = false ∧
 (∀ W133 : World, (W133 = World.setCell W109 (Addr.add a7 2) (Value.int .i64 z78) →
 (∃ z95 : Int, (World.cell? W133 (.mk arg1 (arg1o + 17) none) = some (.int .u32 z95) ∧
 Sx.ptr x3 (fun a10 =>
 ((∃ v25 : Value, World.cell? W133 (Addr.add a10 3) = some v25) ∧
 (World.frozen? W133 (Addr.add a10 3) = false ∧
 (∀ W134 : World, (W134 = World.setCell W133 (Addr.add a10 3) (Value.int .u32 z95) →
 (∃ p28 : Option Addr, (World.cell? W134 (.mk arg0 (arg0o + 1) none) = some (.pointer p28) ∧
 (∃ z96 : Int, (World.cell? W134 (.mk arg1 (arg1o + 16) none) = some (.int .i64 z96) ∧
 (∃ v26 : Value, ((∀ k92 : Nat, Calls Tryz.prog 151 #[.pointer p28, .int .i64 z96] (World.drewN W134 k92) (fun e47 =>
 (fun W135 =>
 (e47 = .returned v26 ∧
 (∃ k93 : Nat, W135 = World.drewN W134 k93))))) ∧
 (∀ W136 : World, (∀ k94 : Nat, (W136 = World.drewN W134 k94 →
 (∃ p29 : Option Addr, (World.cell? W136 (.mk arg0 (arg0o + 4) none) = some (.pointer p29) ∧
 Calls Tryz.prog 152 #[.pointer p29] W136 (fun e48 =>
 (fun W137 =>
 (e48 = .returned (.tuple #[]) ∧
 (∃ I27 : World → Prop, ((∃ z97 : Int, (World.cell? W137 (.mk arg1 (arg1o + 18) none) = some (.int .u32 z97) ∧
 ((∃ v27 : Value, World.cell? W137 (.mk arg0 (arg0o + 27) none) = some v27) ∧
 (World.frozen? W137 (.mk arg0 (arg0o + 27) none) = false ∧
 (∀ W138 : World, (W138 = World.setCell W137 (.mk arg0 (arg0o + 27) none) (Value.int .u32 z97) →
 I27 W138)))))) ∧
 ((Nat → Value) →
 (∀ W139 : World, (I27 W139 →
 (∃ I28 : World → Prop, ((∃ z98 : Int, (World.cell? W139 (.mk arg1 (arg1o + 8) none) = some (.int .i64 z98) ∧
 Sx.split (z98 == 2)
 ((∃ p30 : Option Addr, (World.cell? W139 (.mk arg0 (arg0o + 3) none) = some (.pointer p30) ∧
 (∃ vs35 : Array Value, (Array.size vs35 = 3 ∧
 (Sx.cellsAt W139 (.mk arg1 (arg1o + 9) none) vs35 ∧
 (∃ z99 : Int, (World.cell? W139 (.mk arg1 (arg1o + 1) none) = some (.int .u32 z99) ∧
 (∃ vs36 : Array Value, (Array.size vs36 = 5 ∧
 (Sx.cellsAt W139 (.mk arg1 (arg1o + 3) none) vs36 ∧
 (∃ t15 : Bool, (World.cell? W139 (.mk arg1 (arg1o + 19) none) = some (.bool t15) ∧
 (∃ z100 : Int, (World.cell? W139 (.mk arg1 (arg1o + 18) none) = some (.int .u32 z100) ∧
 ((∀ k95 : Nat, Calls Tryz.prog 153 #[.pointer p30, .agg vs35, .int .u32 z99, .agg vs36, .bool t15, .int .u32 z100] (World.drewN W139 k95) (fun e49 =>
 (fun W140 =>
 (e49 = .returned (.tuple #[]) ∧
 (∃ k96 : Nat, W140 = World.drewN W139 k96))))) ∧
 (∀ W141 : World, (∀ k97 : Nat, (W141 = World.drewN W139 k97 →
 I28 W141)))))))))))))))))))
 ((∃ z101 : Int, (World.cell? W139 (.mk arg1 (arg1o + 8) none) = some (.int .i64 z101) ∧
 Sx.split (z101 == 3)
 ((∃ p31 : Option Addr, (World.cell? W139 (.mk arg0 (arg0o + 3) none) = some (.pointer p31) ∧
 (∃ vs37 : Array Value, (Array.size vs37 = 3 ∧
 (Sx.cellsAt W139 (.mk arg1 (arg1o + 9) none) vs37 ∧
 (∃ z102 : Int, (World.cell? W139 (.mk arg1 (arg1o + 1) none) = some (.int .u32 z102) ∧
 (∃ vs38 : Array Value, (Array.size vs38 = 5 ∧
 (Sx.cellsAt W139 (.mk arg1 (arg1o + 3) none) vs38 ∧
 (∃ t16 : Bool, (World.cell? W139 (.mk arg1 (arg1o + 19) none) = some (.bool t16) ∧
 (∃ z103 : Int, (World.cell? W139 (.mk arg1 (arg1o + 18) none) = some (.int .u32 z103) ∧
 ((∀ k98 : Nat, Calls Tryz.prog 153 #[.pointer p31, .agg vs37, .int .u32 z102, .agg vs38, .bool t16, .int .u32 z103] (World.drewN W139 k98) (fun e50 =>
 (fun W142 =>
 (e50 = .returned (.tuple #[]) ∧
 (∃ k99 : Nat, W142 = World.drewN W139 k99))))) ∧
 (∀ W143 : World, (∀ k100 : Nat, (W143 = World.drewN W139 k100 →
 I28 W143)))))))))))))))))))
 (I28 W139)))))) ∧
 ((Nat → Value) →
 (∀ W144 : World, (I28 W144 →
 Sx.ptr x3 (fun a11 =>
 (∃ vs39 : Array Value, (Array.size vs39 = 7 ∧
 (Sx.cellsAt W144 a11 vs39 ∧
 Calls Tryz.prog 124 #[.pointer (some (Addr.mk arg0 arg0o none)), .int .i64 4, .pointer (some (Addr.mk arg1 arg1o none)), .agg vs39] W144 (fun e51 =>
 (fun W145 =>
 (e51 = .returned (.tuple #[]) ∧
 (∃ I29 : World → Prop, ((∃ t17 : Bool, (World.cell? W145 (.mk arg1 (arg1o + 27) none) = some (.bool t17) ∧
 Sx.split t17
 ((∃ z104 : Int, (World.cell? W145 (.mk arg1 (arg1o + 26) none) = some (.int .u32 z104) ∧
 (∀ k101 : Nat, (∀ W146 : World, (k101 = Array.size (World.heap W145) →
 (W146 = World.alloc W145 (Obj.cells #[.int .u32 z104] 43) →
 Calls Tryz.prog 73 #[.pointer (some (Addr.mk arg0 arg0o none)), .slice (some (Addr.mk k101 0 none)) 1 1] W146 (fun e52 =>
 (fun W147 =>
 (e52 = .returned (.tuple #[]) ∧
 I29 W147))))))))))
 (I29 W145))) ∧
 ((Nat → Value) →
 (∀ W148 : World, (I29 W148 →
 (∃ I30 : World → Prop, ((∃ z105 : Int, (World.cell? W148 (.mk arg1 (arg1o + 8) none) = some (.int .i64 z105) ∧
 Sx.split (z105 == 7)
 ((∃ z106 : Int, (World.cell? W148 (.mk arg1 (arg1o + 18) none) = some (.int .u32 z106) ∧
 (∃ z107 : Int, (World.cell? W148 (.mk arg1 (arg1o + 12) none) = some (.int .u32 z107) ∧
 (∀ W149 : World, (∀ k102 : Nat, (W149 = World.drewN W148 k102 →
 Sx.split (z106 != z107)
 ((∃ p32 : Option Addr, (World.cell? W149 (.mk arg0 (arg0o + 3) none) = some (.pointer p32) ∧
 (∃ vs40 : Array Value, (Array.size vs40 = 3 ∧
 (Sx.cellsAt W149 (.mk arg1 (arg1o + 9) none) vs40 ∧
 (∃ z108 : Int, (World.cell? W149 (.mk arg1 (arg1o + 1) none) = some (.int .u32 z108) ∧
 (∃ vs41 : Array Value, (Array.size vs41 = 5 ∧
 (Sx.cellsAt W149 (.mk arg1 (arg1o + 3) none) vs41 ∧
 ((∀ k103 : Nat, Calls Tryz.prog 108 #[.pointer p32, .agg vs40, .int .u32 z108, .agg vs41, .bool false] (World.drewN W149 k103) (fun e53 =>
 (fun W150 =>
 (e53 = .returned (.tuple #[]) ∧
 (∃ k104 : Nat, W150 = World.drewN W149 k104))))) ∧
 (∀ W151 : World, (∀ k105 : Nat, (W151 = World.drewN W149 k105 →
 (∃ z109 : Int, (World.cell? W151 (.mk arg1 arg1o none) = some (.int .i64 z109) ∧
 (∃ z110 : Int, (World.cell? W151 (.mk arg1 (arg1o + 18) none) = some (.int .u32 z110) ∧
 ((∀ k106 : Nat, Calls Tryz.prog 109 #[.pointer (some (Addr.mk arg0 arg0o none)), .int .i64 z109, .int .u32 z110] (World.drewN W151 k106) (fun e54 =>
 (fun W152 =>
 (e54 = .returned (.tuple #[]) ∧
 (∃ k107 : Nat, W152 = World.drewN W151 k107))))) ∧
 (∀ W153 : World, (∀ k108 : Nat, (W153 = World.drewN W151 k108 →
 I30 W153)))))))))))))))))))))))
 (I30 W149)))))))))
 ((∀ W154 : World, (∀ k109 : Nat, (W154 = World.drewN W148 k109 →
 I30 W154)))))) ∧
 ((Nat → Value) →
 (∀ W155 : World, (I30 W155 →
 Q (.returned (.bool true)) W155)))))))))))))))))))))))))))))))))))))))))))))))))))))))))))
 ((∃ p33 : Option Addr, (World.cell? W108 (.mk arg0 (arg0o + 4) none) = some (.pointer p33) ∧
 Calls Tryz.prog 152 #[.pointer p33] W108 (fun e55 =>
 (fun W156 =>
 (e55 = .returned (.tuple #[]) ∧
 (∃ I31 : World → Prop, ((∃ z111 : Int, (World.cell? W156 (.mk arg1 (arg1o + 18) none) = some (.int .u32 z111) ∧
 ((∃ v28 : Value, World.cell? W156 (.mk arg0 (arg0o + 27) none) = some v28) ∧
 (World.frozen? W156 (.mk arg0 (arg0o + 27) none) = false ∧
 (∀ W157 : World, (W157 = World.setCell W156 (.mk arg0 (arg0o + 27) none) (Value.int .u32 z111) →
 I31 W157)))))) ∧
 ((Nat → Value) →
 (∀ W158 : World, (I31 W158 →
 (∃ I32 : World → Prop, ((∃ z112 : Int, (World.cell? W158 (.mk arg1 (arg1o + 8) none) = some (.int .i64 z112) ∧
 Sx.split (z112 == 2)
 ((∃ p34 : Option Addr, (World.cell? W158 (.mk arg0 (arg0o + 3) none) = some (.pointer p34) ∧
 (∃ vs42 : Array Value, (Array.size vs42 = 3 ∧
 (Sx.cellsAt W158 (.mk arg1 (arg1o + 9) none) vs42 ∧
 (∃ z113 : Int, (World.cell? W158 (.mk arg1 (arg1o + 1) none) = some (.int .u32 z113) ∧
 (∃ vs43 : Array Value, (Array.size vs43 = 5 ∧
 (Sx.cellsAt W158 (.mk arg1 (arg1o + 3) none) vs43 ∧
 (∃ t18 : Bool, (World.cell? W158 (.mk arg1 (arg1o + 19) none) = some (.bool t18) ∧
 (∃ z114 : Int, (World.cell? W158 (.mk arg1 (arg1o + 18) none) = some (.int .u32 z114) ∧
 ((∀ k110 : Nat, Calls Tryz.prog 153 #[.pointer p34, .agg vs42, .int .u32 z113, .agg vs43, .bool t18, .int .u32 z114] (World.drewN W158 k110) (fun e56 =>
 (fun W159 =>
 (e56 = .returned (.tuple #[]) ∧
 (∃ k111 : Nat, W159 = World.drewN W158 k111))))) ∧
 (∀ W160 : World, (∀ k112 : Nat, (W160 = World.drewN W158 k112 →
 I32 W160)))))))))))))))))))
 ((∃ z115 : Int, (World.cell? W158 (.mk arg1 (arg1o + 8) none) = some (.int .i64 z115) ∧
 Sx.split (z115 == 3)
 ((∃ p35 : Option Addr, (World.cell? W158 (.mk arg0 (arg0o + 3) none) = some (.pointer p35) ∧
 (∃ vs44 : Array Value, (Array.size vs44 = 3 ∧
 (Sx.cellsAt W158 (.mk arg1 (arg1o + 9) none) vs44 ∧
 (∃ z116 : Int, (World.cell? W158 (.mk arg1 (arg1o + 1) none) = some (.int .u32 z116) ∧
 (∃ vs45 : Array Value, (Array.size vs45 = 5 ∧
 (Sx.cellsAt W158 (.mk arg1 (arg1o + 3) none) vs45 ∧
 (∃ t19 : Bool, (World.cell? W158 (.mk arg1 (arg1o + 19) none) = some (.bool t19) ∧
 (∃ z117 : Int, (World.cell? W158 (.mk arg1 (arg1o + 18) none) = some (.int .u32 z117) ∧
 ((∀ k113 : Nat, Calls Tryz.prog 153 #[.pointer p35, .agg vs44, .int .u32 z116, .agg vs45, .bool t19, .int .u32 z117] (World.drewN W158 k113) (fun e57 =>
 (fun W161 =>
 (e57 = .returned (.tuple #[]) ∧
 (∃ k114 : Nat, W161 = World.drewN W158 k114))))) ∧
 (∀ W162 : World, (∀ k115 : Nat, (W162 = World.drewN W158 k115 →
 I32 W162)))))))))))))))))))
 (I32 W158)))))) ∧
 ((Nat → Value) →
 (∀ W163 : World, (I32 W163 →
 Sx.ptr x3 (fun a12 =>
 (∃ vs46 : Array Value, (Array.size vs46 = 7 ∧
 (Sx.cellsAt W163 a12 vs46 ∧
 Calls Tryz.prog 124 #[.pointer (some (Addr.mk arg0 arg0o none)), .int .i64 4, .pointer (some (Addr.mk arg1 arg1o none)), .agg vs46] W163 (fun e58 =>
 (fun W164 =>
 (e58 = .returned (.tuple #[]) ∧
 (∃ I33 : World → Prop, ((∃ t20 : Bool, (World.cell? W164 (.mk arg1 (arg1o + 27) none) = some (.bool t20) ∧
 Sx.split t20
 ((∃ z118 : Int, (World.cell? W164 (.mk arg1 (arg1o + 26) none) = some (.int .u32 z118) ∧
 (∀ k116 : Nat, (∀ W165 : World, (k116 = Array.size (World.heap W164) →
 (W165 = World.alloc W164 (Obj.cells #[.int .u32 z118] 43) →
 Calls Tryz.prog 73 #[.pointer (some (Addr.mk arg0 arg0o none)), .slice (some (Addr.mk k116 0 none)) 1 1] W165 (fun e59 =>
 (fun W166 =>
 (e59 = .returned (.tuple #[]) ∧
 I33 W166))))))))))
 (I33 W164))) ∧
 ((Nat → Value) →
 (∀ W167 : World, (I33 W167 →
 (∃ I34 : World → Prop, ((∃ z119 : Int, (World.cell? W167 (.mk arg1 (arg1o + 8) none) = some (.int .i64 z119) ∧
 Sx.split (z119 == 7)
 ((∃ z120 : Int, (World.cell? W167 (.mk arg1 (arg1o + 18) none) = some (.int .u32 z120) ∧
 (∃ z121 : Int, (World.cell? W167 (.mk arg1 (arg1o + 12) none) = some (.int .u32 z121) ∧
 (∀ W168 : World, (∀ k117 : Nat, (W168 = World.drewN W167 k117 →
 Sx.split (z120 != z121)
 ((∃ p36 : Option Addr, (World.cell? W168 (.mk arg0 (arg0o + 3) none) = some (.pointer p36) ∧
 (∃ vs47 : Array Value, (Array.size vs47 = 3 ∧
 (Sx.cellsAt W168 (.mk arg1 (arg1o + 9) none) vs47 ∧
 (∃ z122 : Int, (World.cell? W168 (.mk arg1 (arg1o + 1) none) = some (.int .u32 z122) ∧
 (∃ vs48 : Array Value, (Array.size vs48 = 5 ∧
 (Sx.cellsAt W168 (.mk arg1 (arg1o + 3) none) vs48 ∧
 ((∀ k118 : Nat, Calls Tryz.prog 108 #[.pointer p36, .agg vs47, .int .u32 z122, .agg vs48, .bool false] (World.drewN W168 k118) (fun e60 =>
 (fun W169 =>
 (e60 = .returned (.tuple #[]) ∧
 (∃ k119 : Nat, W169 = World.drewN W168 k119))))) ∧
 (∀ W170 : World, (∀ k120 : Nat, (W170 = World.drewN W168 k120 →
 (∃ z123 : Int, (World.cell? W170 (.mk arg1 arg1o none) = some (.int .i64 z123) ∧
 (∃ z124 : Int, (World.cell? W170 (.mk arg1 (arg1o + 18) none) = some (.int .u32 z124) ∧
 ((∀ k121 : Nat, Calls Tryz.prog 109 #[.pointer (some (Addr.mk arg0 arg0o none)), .int .i64 z123, .int .u32 z124] (World.drewN W170 k121) (fun e61 =>
 (fun W171 =>
 (e61 = .returned (.tuple #[]) ∧
 (∃ k122 : Nat, W171 = World.drewN W170 k122))))) ∧
 (∀ W172 : World, (∀ k123 : Nat, (W172 = World.drewN W170 k123 →
 I34 W172)))))))))))))))))))))))
 (I34 W168)))))))))
 ((∀ W173 : World, (∀ k124 : Nat, (W173 = World.drewN W167 k124 →
 I34 W173)))))) ∧
 ((Nat → Value) →
 (∀ W174 : World, (I34 W174 →
 Q (.returned (.bool true)) W174)))))))))))))))))))))))))))))))))))))))))))))))))))))))))))))))) :
 Calls Tryz.prog 112 #[.pointer (some ⟨arg0, arg0o, none⟩), .pointer (some ⟨arg1, arg1o, none⟩)] W Q :=
 Sx.sound Tryz.func112 (.node [] [] 0 .leaf (.node [] [] 0 .leaf (.node [] [0, 1] 1 (.node [] [] 0 .leaf (.node [] [] 0 (.node [] [] 0 .leaf (.node [] [] 0 (.node [] [] 1011 .leaf .leaf) (.node [] [] 0 (.node [] [] 1011 .leaf .leaf) .leaf))) .leaf)) (.node [] [1, 0] 1 .leaf (.node [] [1, 0] 1 .leaf (.node [(5, .ptr)] [1, 0] 1 (.node [] [] 1015 .leaf .leaf) (.node [] [] 0 (.node [(113, .bool)] [1, 5, 0] 1 .leaf (.node [] [] 0 (.node [] [] 0 (.node [] [] 1011 .leaf .leaf) .leaf) .leaf)) (.node [] [] 0 .leaf (.node [] [1, 0, 5] 1 .leaf (.node [] [0, 1, 5] 1 .leaf (.node [] [] 0 .leaf (.node [] [1, 0] 1 .leaf (.node [] [] 1 .leaf .leaf))))))))))))) [Value.pointer (some ⟨arg0, arg0o, none⟩), .pointer (some ⟨arg1, arg1o, none⟩)] rfl (Eq.mp (by kernel_rfl) hVC)
theorem vc75 {W : World} {Q : Ending → World → Prop} (arg0 : Nat) (arg0o : Nat)
 (hVC :
 (∃ t : Bool, (World.cell? W (.mk arg0 (arg0o + 30) none) = some (.bool t) ∧
 Sx.split t
 ((∃ p : Option Addr, (World.cell? W (.mk arg0 (arg0o + 4) none) = some (.pointer p) ∧
 Calls Tryz.prog 110 #[.pointer p] W (fun e =>
 (fun W2 =>
 (∃ t2 : Bool, (e = .returned (.bool t2) ∧
 Sx.split t2
 ((∃ p2 : Option Addr, (∃ k : Nat, (∃ k2 : Nat, (World.cell? W2 (.mk arg0 (arg0o + 28) none) = some (.slice p2 k k2) ∧
 Sx.split (decide ((↑k : Int) > 0))
 ((∃ p3 : Option Addr, (World.cell? W2 (.mk arg0 (arg0o + 3) none) = some (.pointer p3) ∧
 (∃ p4 : Option Addr, (∃ k3 : Nat, (∃ k4 : Nat, (World.cell? W2 (.mk arg0 (arg0o + 28) none) = some (.slice p4 k3 k4) ∧
 (((0 : Int) ≤ (0 : Int) ∧
 (0 : Int) < (↑k3 : Int)) ∧
 Sx.adr p4 (fun k5 =>
 (fun k6 =>
 (∃ p5 : Option Addr, (World.cell? W2 (.mk k5 (k6 + 0) none) = some (.pointer p5) ∧
 Sx.ptr p5 (fun a =>
 (∃ vs : Array Value, (Array.size vs = 3 ∧
 (Sx.cellsAt W2 (Addr.add a 9) vs ∧
 (∀ vs2 : Array Value, (vs2 = #[.int .i64 0, .int .i64 0, .int .i64 0, .int .i64 0, .int .i64 0] →
 ((∀ k7 : Nat, Calls Tryz.prog 108 #[.pointer p3, .agg vs, .int .u32 0, .agg vs2, .bool false] (World.drewN W2 k7) (fun e2 =>
 (fun W3 =>
 (e2 = .returned (.tuple #[]) ∧
 (∃ k8 : Nat, W3 = World.drewN W2 k8))))) ∧
 (∀ W4 : World, (∀ k9 : Nat, (W4 = World.drewN W2 k9 →
 (∃ z : Int, (World.cell? W4 (.mk arg0 (arg0o + 27) none) = some (.int .u32 z) ∧
 (∀ vs3 : Array Value, (vs3 = #[.int .i64 (-1), .int .u32 z, .int .u32 0, .int .i64 0, .int .i64 0, .int .i64 0, .int .i64 0, .int .i64 0, .int .i64 0, .int .i64 0, .int .i64 0, .int .u32 0, .int .u32 0, .int .i64 0, .int .i64 0, .int .i64 0, .int .i64 0, .int .u32 0, .int .u32 0, .bool false, .int .i64 0, .int .u32 0, .bool false, .bool false, .int .i64 0, .bool false, .int .u32 0, .bool false] →
 (∀ k10 : Nat, (∀ W5 : World, (k10 = Array.size (World.heap W4) →
 (W5 = World.alloc W4 (Obj.cells (Value.cells (Value.agg vs3)) 243) →
 Calls Tryz.prog 111 #[.pointer (some (Addr.mk arg0 arg0o none)), .pointer (some (Addr.mk k10 0 none)), .int .i64 2147483659, .int .u32 0] W5 (fun e3 =>
 (fun W6 =>
 (e3 = .returned (.tuple #[]) ∧
 Q (.returned (.tuple #[])) W6)))))))))))))))))))))))))))))))))
 ((∃ z2 : Int, (World.cell? W2 (.mk arg0 (arg0o + 27) none) = some (.int .u32 z2) ∧
 (∀ vs4 : Array Value, (vs4 = #[.int .i64 (-1), .int .u32 z2, .int .u32 0, .int .i64 0, .int .i64 0, .int .i64 0, .int .i64 0, .int .i64 0, .int .i64 0, .int .i64 0, .int .i64 0, .int .u32 0, .int .u32 0, .int .i64 0, .int .i64 0, .int .i64 0, .int .i64 0, .int .u32 0, .int .u32 0, .bool false, .int .i64 0, .int .u32 0, .bool false, .bool false, .int .i64 0, .bool false, .int .u32 0, .bool false] →
 (∀ k11 : Nat, (∀ W7 : World, (k11 = Array.size (World.heap W2) →
 (W7 = World.alloc W2 (Obj.cells (Value.cells (Value.agg vs4)) 243) →
 Calls Tryz.prog 111 #[.pointer (some (Addr.mk arg0 arg0o none)), .pointer (some (Addr.mk k11 0 none)), .int .i64 2147483659, .int .u32 0] W7 (fun e4 =>
 (fun W8 =>
 (e4 = .returned (.tuple #[]) ∧
 Q (.returned (.tuple #[])) W8)))))))))))))))))
 ((∃ z3 : Int, (World.cell? W2 (.mk arg0 (arg0o + 8) none) = some (.int .i64 z3) ∧
 (∃ I : Int → World → Prop, (∃ I2 : Int → World → Nat, (I 0 W2 ∧
 ((Nat → Value) →
 (∀ x : Int, (∀ W9 : World, (I x W9 →
 Sx.split (decide (x < z3))
 ((∃ p6 : Option Addr, (∃ k12 : Nat, (∃ k13 : Nat, (World.cell? W9 (.mk arg0 (arg0o + 28) none) = some (.slice p6 k12 k13) ∧
 Sx.split ((↑k12 : Int) == 0)
 (Q (.returned (.tuple #[])) W9)
 ((∃ p7 : Option Addr, (∃ k14 : Nat, (∃ k15 : Nat, (World.cell? W9 (.mk arg0 (arg0o + 28) none) = some (.slice p7 k14 k15) ∧
 (((0 : Int) ≤ (0 : Int) ∧
 (0 : Int) < (↑k14 : Int)) ∧
 Sx.adr p7 (fun k16 =>
 (fun k17 =>
 (∃ p8 : Option Addr, (World.cell? W9 (.mk k16 (k17 + 0) none) = some (.pointer p8) ∧
 Calls Tryz.prog 112 #[.pointer (some (Addr.mk arg0 arg0o none)), .pointer p8] W9 (fun e5 =>
 (fun W10 =>
 (∃ t3 : Bool, (e5 = .returned (.bool t3) ∧
 Sx.split (!t3)
 (Q (.returned (.tuple #[])) W10)
 ((∀ z4 : Int, (z4 = IntKind.wrap .i64 (x + 1) →
 (I z4 W10 ∧
 I2 z4 W10 < I2 x W9)))))))))))))))))))))))
 (Q (.returned (.tuple #[])) W9))))))))))))))))))
 ((∃ z5 : Int, (World.cell? W (.mk arg0 (arg0o + 8) none) = some (.int .i64 z5) ∧
 (∃ I3 : Int → World → Prop, (∃ I4 : Int → World → Nat, (I3 0 W ∧
 ((Nat → Value) →
 (∀ x2 : Int, (∀ W11 : World, (I3 x2 W11 →
 Sx.split (decide (x2 < z5))
 ((∃ p9 : Option Addr, (∃ k18 : Nat, (∃ k19 : Nat, (World.cell? W11 (.mk arg0 (arg0o + 28) none) = some (.slice p9 k18 k19) ∧
 Sx.split ((↑k18 : Int) == 0)
 (Q (.returned (.tuple #[])) W11)
 ((∃ p10 : Option Addr, (∃ k20 : Nat, (∃ k21 : Nat, (World.cell? W11 (.mk arg0 (arg0o + 28) none) = some (.slice p10 k20 k21) ∧
 (((0 : Int) ≤ (0 : Int) ∧
 (0 : Int) < (↑k20 : Int)) ∧
 Sx.adr p10 (fun k22 =>
 (fun k23 =>
 (∃ p11 : Option Addr, (World.cell? W11 (.mk k22 (k23 + 0) none) = some (.pointer p11) ∧
 Calls Tryz.prog 112 #[.pointer (some (Addr.mk arg0 arg0o none)), .pointer p11] W11 (fun e6 =>
 (fun W12 =>
 (∃ t4 : Bool, (e6 = .returned (.bool t4) ∧
 Sx.split (!t4)
 (Q (.returned (.tuple #[])) W12)
 ((∀ z6 : Int, (z6 = IntKind.wrap .i64 (x2 + 1) →
 (I3 z6 W12 ∧
 I4 z6 W12 < I4 x2 W11)))))))))))))))))))))))
 (Q (.returned (.tuple #[])) W11)))))))))))))) :
 Calls Tryz.prog 75 #[.pointer (some ⟨arg0, arg0o, none⟩)] W Q :=
 Sx.sound Tryz.func75 (.node [] [] 0 .leaf (.node [] [] 0 .leaf (.node [] [] 0 (.node [(49, .int .i64)] [48, 0] 0 .leaf .leaf) .leaf))) [Value.pointer (some ⟨arg0, arg0o, none⟩)] rfl (Eq.mp (by kernel_rfl) hVC)
theorem vc74 {W : World} {Q : Ending → World → Prop} (arg0 : Nat) (arg0o : Nat)
 (hVC :
 (∃ p : Option Addr, (∃ k : Nat, (∃ k2 : Nat, (World.cell? W (.mk arg0 (arg0o + 28) none) = some (.slice p k k2) ∧
 Calls Tryz.prog 106 #[.slice p k k2] W (fun e =>
 (fun W2 =>
 (∃ p2 : Option Addr, (∃ k3 : Nat, (∃ k4 : Nat, (e = .returned (.slice p2 k3 k4) ∧
 (∃ I : Int → World → Prop, (∃ I2 : Int → World → Nat, (I 0 W2 ∧
 ((Nat → Value) →
 (∀ x : Int, (∀ W3 : World, (I x W3 →
 Sx.split (decide (x < (↑k3 : Int)))
 ((((0 : Int) ≤ x ∧
 x < (↑k3 : Int)) ∧
 Sx.adr p2 (fun k5 =>
 (fun k6 =>
 (∃ p3 : Option Addr, (World.cell? W3 (.mk k5 (k6 + Int.toNat x * 1) none) = some (.pointer p3) ∧
 (∃ I3 : World → Prop, (Sx.ptr p3 (fun a =>
 (∃ t : Bool, (World.cell? W3 (Addr.add a 22) = some (.bool t) ∧
 Sx.split (!t)
 ((∀ W4 : World, (∀ k7 : Nat, (W4 = World.drewN W3 k7 →
 (∀ z : Int, (z = IntKind.wrap .i64 (x + 1) →
 (I z W4 ∧
 I2 z W4 < I2 x W3)))))))
 (Sx.ptr p3 (fun a2 =>
 (∃ t2 : Bool, (World.cell? W3 (Addr.add a2 23) = some (.bool t2) ∧
 Sx.split t2
 ((∀ W5 : World, (∀ k8 : Nat, (W5 = World.drewN W3 k8 →
 (∀ z2 : Int, (z2 = IntKind.wrap .i64 (x + 1) →
 (I z2 W5 ∧
 I2 z2 W5 < I2 x W3)))))))
 (Sx.ptr p3 (fun a3 =>
 (∃ z3 : Int, (World.cell? W3 (Addr.add a3 24) = some (.int .i64 z3) ∧
 (∃ z4 : Int, (World.cell? W3 (.mk arg0 (arg0o + 29) none) = some (.int .i64 z4) ∧
 Sx.split (decide (z3 > z4))
 ((∀ W6 : World, (∀ k9 : Nat, (W6 = World.drewN W3 k9 →
 (∀ z5 : Int, (z5 = IntKind.wrap .i64 (x + 1) →
 (I z5 W6 ∧
 I2 z5 W6 < I2 x W3)))))))
 (Sx.ptr p3 (fun a4 =>
 (∃ z6 : Int, (World.cell? W3 (Addr.add a4 0) = some (.int .i64 z6) ∧
 (∃ p4 : Option Addr, ((∀ k10 : Nat, Calls Tryz.prog 105 #[.pointer (some (Addr.mk arg0 arg0o none)), .int .i64 z6] (World.drewN W3 k10) (fun e2 =>
 (fun W7 =>
 (e2 = .returned (.pointer p4) ∧
 (∃ k11 : Nat, W7 = World.drewN W3 k11))))) ∧
 Sx.whenNil p3 ((∀ W8 : World, (∀ k12 : Nat, (W8 = World.drewN W3 k12 →
 Sx.split (Option.isSome p4)
 ((∀ z7 : Int, (z7 = IntKind.wrap .i64 (x + 1) →
 (I z7 W8 ∧
 I2 z7 W8 < I2 x W3))))
 (I3 W8)))))))))))))))))))))))) ∧
 ((Nat → Value) →
 (∀ W9 : World, (I3 W9 →
 Calls Tryz.prog 107 #[.pointer (some (Addr.mk arg0 arg0o none)), .pointer p3] W9 (fun e3 =>
 (fun W10 =>
 (e3 = .returned (.tuple #[]) ∧
 Sx.ptr p3 (fun a5 =>
 (∃ z8 : Int, (World.cell? W10 (Addr.add a5 8) = some (.int .i64 z8) ∧
 Sx.split (z8 == 2)
 (Sx.ptr p3 (fun a6 =>
 (∃ z9 : Int, (World.cell? W10 (Addr.add a6 20) = some (.int .i64 z9) ∧
 Sx.split (z9 == -1)
 (Sx.ptr p3 (fun a7 =>
 (∃ z10 : Int, (World.cell? W10 (Addr.add a7 18) = some (.int .u32 z10) ∧
 Sx.ptr p3 (fun a8 =>
 (∃ z11 : Int, (World.cell? W10 (Addr.add a8 12) = some (.int .u32 z11) ∧
 (∀ W11 : World, (∀ k13 : Nat, (W11 = World.drewN W10 k13 →
 Sx.split (z10 != z11)
 ((∃ p5 : Option Addr, (World.cell? W11 (.mk arg0 (arg0o + 3) none) = some (.pointer p5) ∧
 Sx.ptr p3 (fun a9 =>
 (∃ vs : Array Value, (Array.size vs = 3 ∧
 (Sx.cellsAt W11 (Addr.add a9 9) vs ∧
 Sx.ptr p3 (fun a10 =>
 (∃ z12 : Int, (World.cell? W11 (Addr.add a10 1) = some (.int .u32 z12) ∧
 Sx.ptr p3 (fun a11 =>
 (∃ vs2 : Array Value, (Array.size vs2 = 5 ∧
 (Sx.cellsAt W11 (Addr.add a11 3) vs2 ∧
 Sx.ptr p3 (fun a12 =>
 (∃ t3 : Bool, (World.cell? W11 (Addr.add a12 19) = some (.bool t3) ∧
 ((∀ k14 : Nat, Calls Tryz.prog 108 #[.pointer p5, .agg vs, .int .u32 z12, .agg vs2, .bool t3] (World.drewN W11 k14) (fun e4 =>
 (fun W12 =>
 (e4 = .returned (.tuple #[]) ∧
 (∃ k15 : Nat, W12 = World.drewN W11 k15))))) ∧
 (∀ W13 : World, (∀ k16 : Nat, (W13 = World.drewN W11 k16 →
 Sx.ptr p3 (fun a13 =>
 (∃ z13 : Int, (World.cell? W13 (Addr.add a13 0) = some (.int .i64 z13) ∧
 Sx.ptr p3 (fun a14 =>
 (∃ z14 : Int, (World.cell? W13 (Addr.add a14 18) = some (.int .u32 z14) ∧
 ((∀ k17 : Nat, Calls Tryz.prog 109 #[.pointer (some (Addr.mk arg0 arg0o none)), .int .i64 z13, .int .u32 z14] (World.drewN W13 k17) (fun e5 =>
 (fun W14 =>
 (e5 = .returned (.tuple #[]) ∧
 (∃ k18 : Nat, W14 = World.drewN W13 k18))))) ∧
 (∀ W15 : World, (∀ k19 : Nat, (W15 = World.drewN W13 k19 →
 (∀ z15 : Int, (z15 = IntKind.wrap .i64 (x + 1) →
 (I z15 W15 ∧
 I2 z15 W15 < I2 x W3))))))))))))))))))))))))))))))))))
 ((∀ z16 : Int, (z16 = IntKind.wrap .i64 (x + 1) →
 (I z16 W11 ∧
 I2 z16 W11 < I2 x W3))))))))))))))
 ((∀ W16 : World, (∀ k20 : Nat, (W16 = World.drewN W10 k20 →
 (∀ z17 : Int, (z17 = IntKind.wrap .i64 (x + 1) →
 (I z17 W16 ∧
 I2 z17 W16 < I2 x W3)))))))))))
 (Sx.ptr p3 (fun a15 =>
 (∃ z18 : Int, (World.cell? W10 (Addr.add a15 8) = some (.int .i64 z18) ∧
 Sx.split (z18 == 3)
 (Sx.ptr p3 (fun a16 =>
 (∃ z19 : Int, (World.cell? W10 (Addr.add a16 20) = some (.int .i64 z19) ∧
 Sx.split (z19 == -1)
 (Sx.ptr p3 (fun a17 =>
 (∃ z20 : Int, (World.cell? W10 (Addr.add a17 18) = some (.int .u32 z20) ∧
 Sx.ptr p3 (fun a18 =>
 (∃ z21 : Int, (World.cell? W10 (Addr.add a18 12) = some (.int .u32 z21) ∧
 (∀ W17 : World, (∀ k21 : Nat, (W17 = World.drewN W10 k21 →
 Sx.split (z20 != z21)
 ((∃ p6 : Option Addr, (World.cell? W17 (.mk arg0 (arg0o + 3) none) = some (.pointer p6) ∧
 Sx.ptr p3 (fun a19 =>
 (∃ vs3 : Array Value, (Array.size vs3 = 3 ∧
 (Sx.cellsAt W17 (Addr.add a19 9) vs3 ∧
 Sx.ptr p3 (fun a20 =>
 (∃ z22 : Int, (World.cell? W17 (Addr.add a20 1) = some (.int .u32 z22) ∧
 Sx.ptr p3 (fun a21 =>
 (∃ vs4 : Array Value, (Array.size vs4 = 5 ∧
 (Sx.cellsAt W17 (Addr.add a21 3) vs4 ∧
 Sx.ptr p3 (fun a22 =>
 (∃ t4 : Bool, (World.cell? W17 (Addr.add a22 19) = some (.bool t4) ∧
 ((∀ k22 : Nat, Calls Tryz.prog 108 #[.pointer p6, .agg vs3, .int .u32 z22, .agg vs4, .bool t4] (World.drewN W17 k22) (fun e6 =>
 (fun W18 =>
 (e6 = .returned (.tuple #[]) ∧
 (∃ k23 : Nat, W18 = World.drewN W17 k23))))) ∧
 (∀ W19 : World, (∀ k24 : Nat, (W19 = World.drewN W17 k24 →
 Sx.ptr p3 (fun a23 =>
 (∃ z23 : Int, (World.cell? W19 (Addr.add a23 0) = some (.int .i64 z23) ∧
 Sx.ptr p3 (fun a24 =>
 (∃ z24 : Int, (World.cell? W19 (Addr.add a24 18) = some (.int .u32 z24) ∧
 ((∀ k25 : Nat, Calls Tryz.prog 109 #[.pointer (some (Addr.mk arg0 arg0o none)), .int .i64 z23, .int .u32 z24] (World.drewN W19 k25) (fun e7 =>
 (fun W20 =>
 (e7 = .returned (.tuple #[]) ∧
 (∃ k26 : Nat, W20 = World.drewN W19 k26))))) ∧
 (∀ W21 : World, (∀ k27 : Nat, (W21 = World.drewN W19 k27 →
 (∀ z25 : Int, (z25 = IntKind.wrap .i64 (x + 1) →
 (I z25 W21 ∧
 I2 z25 W21 < I2 x W3))))))))))))))))))))))))))))))))))
 ((∀ z26 : Int, (z26 = IntKind.wrap .i64 (x + 1) →
 (I z26 W17 ∧
 I2 z26 W17 < I2 x W3))))))))))))))
 ((∀ W22 : World, (∀ k28 : Nat, (W22 = World.drewN W10 k28 →
 (∀ z27 : Int, (z27 = IntKind.wrap .i64 (x + 1) →
 (I z27 W22 ∧
 I2 z27 W22 < I2 x W3)))))))))))
 ((∀ W23 : World, (∀ k29 : Nat, (W23 = World.drewN W10 k29 →
 (∀ z28 : Int, (z28 = IntKind.wrap .i64 (x + 1) →
 (I z28 W23 ∧
 I2 z28 W23 < I2 x W3))))))))))))))))))))))))))))
 (Q (.returned (.tuple #[])) W3))))))))))))))))))) :
 Calls Tryz.prog 74 #[.pointer (some ⟨arg0, arg0o, none⟩)] W Q :=
 Sx.sound Tryz.func74 (.node [] [] 0 .leaf (.node [] [] 0 (.node [(10, .int .i64)] [9, 8, 0] 0 (.node [] [] 0 .leaf (.node [] [] 0 .leaf (.node [] [] 0 (.node [] [] 0 (.node [] [] 0 .leaf (.node [] [0, 3, 10, 9, 8] 1 .leaf .leaf)) .leaf) .leaf))) .leaf) .leaf)) [Value.pointer (some ⟨arg0, arg0o, none⟩)] rfl (Eq.mp (by kernel_rfl) hVC)
theorem vc78 {W : World} {Q : Ending → World → Prop} (arg0 : Nat) (arg0o : Nat)
 (hVC :
 (∃ p : Option Addr, (World.cell? W (.mk arg0 (arg0o + 2) none) = some (.pointer p) ∧
 Calls Tryz.prog 79 #[.pointer p] W (fun e =>
 (fun W2 =>
 (∃ vs : Array Value, (∃ t : Bool, (e = .returned (.tuple #[.agg vs, .bool t]) ∧
 (∀ k : Nat, (∀ W3 : World, (k = Array.size (World.heap W2) →
 (W3 = World.alloc W2 (Obj.cells #[.int .u32 0, .int .i64 0, .int .u32 0] 233) →
 (Array.size vs = 3 ∧
 ((∀ k2 : Nat, (k2 < 3 →
 ((∃ v : Value, World.cell? W3 (.mk k (0 + k2) none) = some v) ∧
 World.frozen? W3 (.mk k (0 + k2) none) = false))) ∧
 ((∀ v2 : Value, (v2 ∈ Array.toList vs →
 Value.oneCell' v2 = true)) ∧
 (∀ W4 : World, (W4 = World.setCells W3 k 0 (Array.toList vs) →
 Sx.split (!t)
 (Q (.returned (.tuple #[])) W4)
 ((∃ z : Int, (World.cell? W4 (.mk k 0 none) = some (.int .u32 z) ∧
 Sx.split (decide (z ≥ 131072))
 ((∀ W5 : World, (W5 = World.drew W4 →
 (∃ p2 : Option Addr, (World.cell? W5 (.mk arg0 (arg0o + 6) none) = some (.pointer p2) ∧
 Sx.ptr p2 (fun a =>
 (∃ p3 : Option Addr, (∃ k3 : Nat, (∃ k4 : Nat, (World.cell? W5 (Addr.add a 1) = some (.slice p3 k3 k4) ∧
 (∃ z2 : Int, (World.cell? W5 (.mk k (0 + 2) none) = some (.int .u32 z2) ∧
 (∀ z3 : Int, (z3 = IntKind.wrap .u8 z2 →
 ((∃ p4 : Option Addr, (World.cell? W5 (.mk arg0 (arg0o + 6) none) = some (.pointer p4) ∧
 (RowKit.Below (Array.size (World.heap W5)) W5 W5 ∧
 (∀ k5 : Nat, (∀ W6 : World, (k5 = Array.size (World.heap W5) →
 (W6 = World.alloc W5 (Obj.cells #[.int .u8 z3] 5) →
 (RowKit.Below (Array.size (World.heap W5)) W5 W6 ∧
 (∃ l : List Value, (∃ l2 : List Value, (XHeap.Sl W6 5 1 (Value.slice p3 k3 k4) k3 l ∧
 (((((1 : Nat) = (0 : Nat) ∧
 some (Addr.mk k5 0 none) = none)) ∨
 ((∃ a2 : Addr, (some (Addr.mk k5 0 none) = some a2 ∧
 (∀ k6 : Nat, (∀ v3 : Value, (l2[k6]? = some v3 →
 World.cell? W6 (Addr.add a2 k6) = some v3))))))) ∧
 (List.length l2 = 1 ∧
 ((∀ v4 : Value, (v4 ∈ l2 →
 Value.oneCell' v4 = true)) ∧
 (k3 + 1 ≤ maxLen ∧
 ((k3 + 1) * 1 ≤ 140737488355328 ∧
 (∀ p5 : Option Addr, (∀ k7 : Nat, (∀ W7 : World, (XHeap.Sl W7 5 1 (Value.slice p5 (k3 + 1) k7) (k3 + 1) (l ++ l2) →
 (XHeap.XTouch (fun b => Value.ownBlock (Value.slice p3 k3 k4) = some b) W6 W7 →
 ((∀ k8 : Nat, (Value.ownBlock (Value.slice p5 (k3 + 1) k7) = some k8 →
 ((Value.ownBlock (Value.slice p3 k3 k4) = some k8) ∨
 (Array.size (World.heap W6) ≤ k8)))) →
 (XHeap.Sl W7 5 1 (Value.slice p3 k3 k4) k3 l →
 ((((p5 = p3 ∧
 k7 = k4)) ∨
 ((((XHeap.NilP p3) ∨
 (k4 < k3 + 1)) ∧
 (∀ k9 : Nat, (Value.ownBlock (Value.slice p5 (k3 + 1) k7) = some k9 →
 Array.size (World.heap W6) ≤ k9))))) →
 Sx.ptr p4 (fun a3 =>
 ((∃ v5 : Value, World.cell? W7 (Addr.add a3 1) = some v5) ∧
 (World.frozen? W7 (Addr.add a3 1) = false ∧
 (∀ W8 : World, (W8 = World.setCell W7 (Addr.add a3 1) (Value.slice p5 (k3 + 1) k7) →
 (∃ p6 : Option Addr, (World.cell? W8 (.mk arg0 (arg0o + 2) none) = some (.pointer p6) ∧
 Calls Tryz.prog 122 #[.pointer p6] W8 (fun e2 =>
 (fun W9 =>
 (∃ v6 : Value, (e2 = .returned v6 ∧
 (∃ p7 : Option Addr, (World.cell? W9 (.mk arg0 (arg0o + 6) none) = some (.pointer p7) ∧
 (∃ z4 : Int, (World.cell? W9 (.mk arg0 (arg0o + 23) none) = some (.int .i64 z4) ∧
 (∃ z5 : Int, (World.cell? W9 (.mk k 0 none) = some (.int .u32 z5) ∧
 ((∀ k10 : Nat, Calls Tryz.prog 123 #[.pointer p7, .int .i64 z4, .int .u32 z5] (World.drewN W9 k10) (fun e3 =>
 (fun W10 =>
 (e3 = .returned (.tuple #[]) ∧
 (∃ k11 : Nat, W10 = World.drewN W9 k11))))) ∧
 (∀ W11 : World, (∀ k12 : Nat, (W11 = World.drewN W9 k12 →
 (∀ vs2 : Array Value, (vs2 = #[.int .u32 0, .int .u32 0, .int .i64 0, .int .u32 0, .int .i64 0, .int .u32 0, .int .u32 0] →
 Calls Tryz.prog 124 #[.pointer (some (Addr.mk arg0 arg0o none)), .int .i64 6, .pointer none, .agg vs2] W11 (fun e4 =>
 (fun W12 =>
 (e4 = .returned (.tuple #[]) ∧
 Q (.returned (.tuple #[])) W12)))))))))))))))))))))))))))))))))))))))))))))))))) ∧
 (∀ k13 : Nat, (∀ W13 : World, (k13 = Array.size (World.heap W5) →
 (W13 = World.alloc W5 (Obj.cells #[.int .u8 z3] 5) →
 (RowKit.Below (Array.size (World.heap W5)) W5 W13 ∧
 ((∃ p8 : Option Addr, (World.cell? W13 (.mk arg0 (arg0o + 6) none) = some (.pointer p8) ∧
 (RowKit.Below (Array.size (World.heap W5)) W5 W13 ∧
 (∃ l3 : List Value, (∃ l4 : List Value, (XHeap.Sl W13 5 1 (Value.slice p3 k3 k4) k3 l3 ∧
 (((((1 : Nat) = (0 : Nat) ∧
 some (Addr.mk k13 0 none) = none)) ∨
 ((∃ a4 : Addr, (some (Addr.mk k13 0 none) = some a4 ∧
 (∀ k14 : Nat, (∀ v7 : Value, (l4[k14]? = some v7 →
 World.cell? W13 (Addr.add a4 k14) = some v7))))))) ∧
 (List.length l4 = 1 ∧
 ((∀ v8 : Value, (v8 ∈ l4 →
 Value.oneCell' v8 = true)) ∧
 (k3 + 1 ≤ maxLen ∧
 ((k3 + 1) * 1 ≤ 140737488355328 ∧
 (∀ p9 : Option Addr, (∀ k15 : Nat, (∀ W14 : World, (XHeap.Sl W14 5 1 (Value.slice p9 (k3 + 1) k15) (k3 + 1) (l3 ++ l4) →
 (XHeap.XTouch (fun b => Value.ownBlock (Value.slice p3 k3 k4) = some b) W13 W14 →
 ((∀ k16 : Nat, (Value.ownBlock (Value.slice p9 (k3 + 1) k15) = some k16 →
 ((Value.ownBlock (Value.slice p3 k3 k4) = some k16) ∨
 (Array.size (World.heap W13) ≤ k16)))) →
 (XHeap.Sl W14 5 1 (Value.slice p3 k3 k4) k3 l3 →
 ((((p9 = p3 ∧
 k15 = k4)) ∨
 ((((XHeap.NilP p3) ∨
 (k4 < k3 + 1)) ∧
 (∀ k17 : Nat, (Value.ownBlock (Value.slice p9 (k3 + 1) k15) = some k17 →
 Array.size (World.heap W13) ≤ k17))))) →
 Sx.ptr p8 (fun a5 =>
 ((∃ v9 : Value, World.cell? W14 (Addr.add a5 1) = some v9) ∧
 (World.frozen? W14 (Addr.add a5 1) = false ∧
 (∀ W15 : World, (W15 = World.setCell W14 (Addr.add a5 1) (Value.slice p9 (k3 + 1) k15) →
 (∃ p10 : Option Addr, (World.cell? W15 (.mk arg0 (arg0o + 2) none) = some (.pointer p10) ∧
 Calls Tryz.prog 122 #[.pointer p10] W15 (fun e5 =>
 (fun W16 =>
 (∃ v10 : Value, (e5 = .returned v10 ∧
 (∃ p11 : Option Addr, (World.cell? W16 (.mk arg0 (arg0o + 6) none) = some (.pointer p11) ∧
 (∃ z6 : Int, (World.cell? W16 (.mk arg0 (arg0o + 23) none) = some (.int .i64 z6) ∧
 (∃ z7 : Int, (World.cell? W16 (.mk k 0 none) = some (.int .u32 z7) ∧
 ((∀ k18 : Nat, Calls Tryz.prog 123 #[.pointer p11, .int .i64 z6, .int .u32 z7] (World.drewN W16 k18) (fun e6 =>
 (fun W17 =>
 (e6 = .returned (.tuple #[]) ∧
 (∃ k19 : Nat, W17 = World.drewN W16 k19))))) ∧
 (∀ W18 : World, (∀ k20 : Nat, (W18 = World.drewN W16 k20 →
 (∀ vs3 : Array Value, (vs3 = #[.int .u32 0, .int .u32 0, .int .i64 0, .int .u32 0, .int .i64 0, .int .u32 0, .int .u32 0] →
 Calls Tryz.prog 124 #[.pointer (some (Addr.mk arg0 arg0o none)), .int .i64 6, .pointer none, .agg vs3] W18 (fun e7 =>
 (fun W19 =>
 (e7 = .returned (.tuple #[]) ∧
 Q (.returned (.tuple #[])) W19))))))))))))))))))))))))))))))))))))))))))))) ∧
 (∃ l5 : List Value, (∃ l6 : List Value, (XHeap.Sl W13 5 1 (Value.slice p3 k3 k4) k3 l5 ∧
 (((((1 : Nat) = (0 : Nat) ∧
 some (Addr.mk k13 0 none) = none)) ∨
 ((∃ a6 : Addr, (some (Addr.mk k13 0 none) = some a6 ∧
 (∀ k21 : Nat, (∀ v11 : Value, (l6[k21]? = some v11 →
 World.cell? W13 (Addr.add a6 k21) = some v11))))))) ∧
 (List.length l6 = 1 ∧
 ((∀ v12 : Value, (v12 ∈ l6 →
 Value.oneCell' v12 = true)) ∧
 (k3 + 1 ≤ maxLen ∧
 ((k3 + 1) * 1 ≤ 140737488355328 ∧
 (∀ p12 : Option Addr, (∀ k22 : Nat, (∀ W20 : World, (XHeap.Sl W20 5 1 (Value.slice p12 (k3 + 1) k22) (k3 + 1) (l5 ++ l6) →
 (XHeap.XTouch (fun b => Value.ownBlock (Value.slice p3 k3 k4) = some b) W13 W20 →
 ((∀ k23 : Nat, (Value.ownBlock (Value.slice p12 (k3 + 1) k22) = some k23 →
 ((Value.ownBlock (Value.slice p3 k3 k4) = some k23) ∨
 (Array.size (World.heap W13) ≤ k23)))) →
 (XHeap.Sl W20 5 1 (Value.slice p3 k3 k4) k3 l5 →
 ((((p12 = p3 ∧
 k22 = k4)) ∨
 ((((XHeap.NilP p3) ∨
 (k4 < k3 + 1)) ∧
 (∀ k24 : Nat, (Value.ownBlock (Value.slice p12 (k3 + 1) k22) = some k24 →
 Array.size (World.heap W13) ≤ k24))))) →
 (∃ p13 : Option Addr, (World.cell? W20 (.mk arg0 (arg0o + 6) none) = some (.pointer p13) ∧
 Sx.ptr p13 (fun a7 =>
 ((∃ v13 : Value, World.cell? W20 (Addr.add a7 1) = some v13) ∧
 (World.frozen? W20 (Addr.add a7 1) = false ∧
 (∀ W21 : World, (W21 = World.setCell W20 (Addr.add a7 1) (Value.slice p12 (k3 + 1) k22) →
 (∃ p14 : Option Addr, (World.cell? W21 (.mk arg0 (arg0o + 2) none) = some (.pointer p14) ∧
 Calls Tryz.prog 122 #[.pointer p14] W21 (fun e8 =>
 (fun W22 =>
 (∃ v14 : Value, (e8 = .returned v14 ∧
 (∃ p15 : Option Addr, (World.cell? W22 (.mk arg0 (arg0o + 6) none) = some (.pointer p15) ∧
 (∃ z8 : Int, (World.cell? W22 (.mk arg0 (arg0o + 23) none) = some (.int .i64 z8) ∧
 (∃ z9 : Int, (World.cell? W22 (.mk k 0 none) = some (.int .u32 z9) ∧
 ((∀ k25 : Nat, Calls Tryz.prog 123 #[.pointer p15, .int .i64 z8, .int .u32 z9] (World.drewN W22 k25) (fun e9 =>
 (fun W23 =>
 (e9 = .returned (.tuple #[]) ∧
 (∃ k26 : Nat, W23 = World.drewN W22 k26))))) ∧
 (∀ W24 : World, (∀ k27 : Nat, (W24 = World.drewN W22 k27 →
 (∀ vs4 : Array Value, (vs4 = #[.int .u32 0, .int .u32 0, .int .i64 0, .int .u32 0, .int .i64 0, .int .u32 0, .int .u32 0] →
 Calls Tryz.prog 124 #[.pointer (some (Addr.mk arg0 arg0o none)), .int .i64 6, .pointer none, .agg vs4] W24 (fun e10 =>
 (fun W25 =>
 (e10 = .returned (.tuple #[]) ∧
 Q (.returned (.tuple #[])) W25)))))))))))))))))))))))))))))))))))))))))))))))))))))))))))))))))
 ((∃ p16 : Option Addr, (World.cell? W4 (.mk arg0 (arg0o + 5) none) = some (.pointer p16) ∧
 (∃ z10 : Int, (World.cell? W4 (.mk arg0 (arg0o + 23) none) = some (.int .i64 z10) ∧
 (∃ z11 : Int, (World.cell? W4 (.mk k 0 none) = some (.int .u32 z11) ∧
 (∃ z12 : Int, (World.cell? W4 (.mk k (0 + 1) none) = some (.int .i64 z12) ∧
 (∃ z13 : Int, (World.cell? W4 (.mk k (0 + 2) none) = some (.int .u32 z13) ∧
 (∃ t2 : Bool, ((∀ k28 : Nat, Calls Tryz.prog 120 #[.pointer p16, .int .i64 z10, .int .u32 z11, .int .i64 z12, .int .u32 z13] (World.drewN W4 k28) (fun e11 =>
 (fun W26 =>
 (e11 = .returned (.bool t2) ∧
 (∃ k29 : Nat, W26 = World.drewN W4 k29))))) ∧
 (∀ W27 : World, (∀ k30 : Nat, (W27 = World.drewN W4 k30 →
 Sx.split (!t2)
 ((∃ p17 : Option Addr, (World.cell? W27 (.mk arg0 (arg0o + 5) none) = some (.pointer p17) ∧
 (∃ z14 : Int, (World.cell? W27 (.mk arg0 (arg0o + 23) none) = some (.int .i64 z14) ∧
 (∃ z15 : Int, (World.cell? W27 (.mk k 0 none) = some (.int .u32 z15) ∧
 (∃ v15 : Value, ((∀ k31 : Nat, Calls Tryz.prog 121 #[.pointer p17, .int .i64 z14, .int .u32 z15, .bool true] (World.drewN W27 k31) (fun e12 =>
 (fun W28 =>
 (e12 = .returned v15 ∧
 (∃ k32 : Nat, W28 = World.drewN W27 k32))))) ∧
 (∀ W29 : World, (∀ k33 : Nat, (W29 = World.drewN W27 k33 →
 Q (.returned (.tuple #[])) W29))))))))))))
 ((∃ p18 : Option Addr, (World.cell? W27 (.mk arg0 (arg0o + 2) none) = some (.pointer p18) ∧
 Calls Tryz.prog 122 #[.pointer p18] W27 (fun e13 =>
 (fun W30 =>
 (∃ v16 : Value, (e13 = .returned v16 ∧
 (∃ p19 : Option Addr, (World.cell? W30 (.mk arg0 (arg0o + 6) none) = some (.pointer p19) ∧
 (∃ z16 : Int, (World.cell? W30 (.mk arg0 (arg0o + 23) none) = some (.int .i64 z16) ∧
 (∃ z17 : Int, (World.cell? W30 (.mk k 0 none) = some (.int .u32 z17) ∧
 ((∀ k34 : Nat, Calls Tryz.prog 123 #[.pointer p19, .int .i64 z16, .int .u32 z17] (World.drewN W30 k34) (fun e14 =>
 (fun W31 =>
 (e14 = .returned (.tuple #[]) ∧
 (∃ k35 : Nat, W31 = World.drewN W30 k35))))) ∧
 (∀ W32 : World, (∀ k36 : Nat, (W32 = World.drewN W30 k36 →
 (∀ vs5 : Array Value, (vs5 = #[.int .u32 0, .int .u32 0, .int .i64 0, .int .u32 0, .int .i64 0, .int .u32 0, .int .u32 0] →
 Calls Tryz.prog 124 #[.pointer (some (Addr.mk arg0 arg0o none)), .int .i64 6, .pointer none, .agg vs5] W32 (fun e15 =>
 (fun W33 =>
 (e15 = .returned (.tuple #[]) ∧
 Q (.returned (.tuple #[])) W33)))))))))))))))))))))))))))))))))))))))))))))))))))))))))) :
 Calls Tryz.prog 78 #[.pointer (some ⟨arg0, arg0o, none⟩)] W Q :=
 Sx.sound Tryz.func78 (.node [] [] 0 .leaf (.node [] [] 0 (.node [] [] 0 (.node [] [] 0 .leaf (.node [] [] 0 .leaf (.node [] [] 0 .leaf (.node [] [] 0 (.node [] [] 1018 .leaf .leaf) .leaf)))) .leaf) .leaf)) [Value.pointer (some ⟨arg0, arg0o, none⟩)] rfl (Eq.mp (by kernel_rfl) hVC)
theorem vc51 {W : World} {Q : Ending → World → Prop} (x : Nat) (xo : Nat)
 (hVC :
 (∃ p : Option Addr, (World.cell? W (.mk x (xo + 2) none) = some (.pointer p) ∧
 Calls Tryz.prog 79 #[.pointer p] W (fun e =>
 (fun W2 =>
 (∃ vs : Array Value, (∃ t : Bool, (e = .returned (.tuple #[.agg vs, .bool t]) ∧
 (∀ k : Nat, (∀ W3 : World, (k = Array.size (World.heap W2) →
 (W3 = World.alloc W2 (Obj.cells #[.int .u32 0, .int .i64 0, .int .u32 0] 233) →
 (Array.size vs = 3 ∧
 ((∀ k2 : Nat, (k2 < 3 →
 ((∃ v : Value, World.cell? W3 (.mk k (0 + k2) none) = some v) ∧
 World.frozen? W3 (.mk k (0 + k2) none) = false))) ∧
 ((∀ v2 : Value, (v2 ∈ Array.toList vs →
 Value.oneCell' v2 = true)) ∧
 (∀ W4 : World, (W4 = World.setCells W3 k 0 (Array.toList vs) →
 (∃ t2 : Bool, (World.cell? W4 (.mk x (xo + 31) none) = some (.bool t2) ∧
 Sx.split t2
 (Q (.returned (.bool !t)) W4)
 (Q (.returned (.bool false)) W4)))))))))))))))))))) :
 Calls Tryz.prog 51 #[.pointer (some ⟨x, xo, none⟩)] W Q :=
 Sx.sound Tryz.func51 .leaf [Value.pointer (some ⟨x, xo, none⟩)] rfl (Eq.mp (by kernel_rfl) hVC)
theorem vc49 {W : World} {Q : Ending → World → Prop} (x : Nat) (xo : Nat) (l : Option Addr) (ln : Nat) (lc : Nat)
 (hVC :
 (∃ I : Int → Option Addr → Nat → Nat → World → Prop, (∃ I2 : Int → Option Addr → Nat → Nat → World → Nat, (I 0 none 0 0 W ∧
 ((Nat → Value) →
 (∀ x2 : Int, (∀ lines : Option Addr, (∀ k : Nat, (∀ k2 : Nat, (∀ W2 : World, (I x2 lines k k2 W2 →
 Sx.split (decide (x2 < (↑ln : Int)))
 ((((0 : Int) ≤ x2 ∧
 x2 < (↑ln : Int)) ∧
 Sx.adr l (fun k3 =>
 (fun k4 =>
 (∃ vs : Array Value, (Array.size vs = 4 ∧
 (Sx.cellsAt W2 (.mk k3 (k4 + Int.toNat x2 * 4) none) vs ∧
 (∀ k5 : Nat, (∀ W3 : World, (k5 = Array.size (World.heap W2) →
 (W3 = World.alloc W2 (Obj.cells #[.int .i64 0, .int .u32 0, .int .i64 0, .int .i64 0] 231) →
 (Array.size vs = 4 ∧
 ((∀ k6 : Nat, (k6 < 4 →
 ((∃ v : Value, World.cell? W3 (.mk k5 (0 + k6) none) = some v) ∧
 World.frozen? W3 (.mk k5 (0 + k6) none) = false))) ∧
 ((∀ v2 : Value, (v2 ∈ Array.toList vs →
 Value.oneCell' v2 = true)) ∧
 (∀ W4 : World, (W4 = World.setCells W3 k5 0 (Array.toList vs) →
 (∃ z : Int, (World.cell? W4 (.mk k5 0 none) = some (.int .i64 z) ∧
 (∃ z2 : Int, (World.cell? W4 (.mk x (xo + 23) none) = some (.int .i64 z2) ∧
 Sx.split (z == z2)
 ((∃ z3 : Int, (World.cell? W4 (.mk k5 (0 + 3) none) = some (.int .i64 z3) ∧
 (∀ W5 : World, (∀ k7 : Nat, (W5 = World.drewN W4 k7 →
 Sx.split (z3 == 0)
 ((∃ z4 : Int, (World.cell? W5 (.mk k5 (0 + 1) none) = some (.int .u32 z4) ∧
 (∀ k8 : Nat, (∀ W6 : World, (k8 = Array.size (World.heap W5) →
 (W6 = World.alloc W5 (Obj.cells #[.int .u32 z4] 43) →
 (∃ l2 : List Value, (∃ l3 : List Value, (XHeap.Sl W6 43 1 (Value.slice lines k k2) k l2 ∧
 (((((1 : Nat) = (0 : Nat) ∧
 some (Addr.mk k8 0 none) = none)) ∨
 ((∃ a : Addr, (some (Addr.mk k8 0 none) = some a ∧
 (∀ k9 : Nat, (∀ v3 : Value, (l3[k9]? = some v3 →
 World.cell? W6 (Addr.add a k9) = some v3))))))) ∧
 (List.length l3 = 1 ∧
 ((∀ v4 : Value, (v4 ∈ l3 →
 Value.oneCell' v4 = true)) ∧
 (k + 1 ≤ maxLen ∧
 ((k + 1) * 4 ≤ 140737488355328 ∧
 (∀ p : Option Addr, (∀ k10 : Nat, (∀ W7 : World, (XHeap.Sl W7 43 1 (Value.slice p (k + 1) k10) (k + 1) (l2 ++ l3) →
 (XHeap.XTouch (fun b => Value.ownBlock (Value.slice lines k k2) = some b) W6 W7 →
 ((∀ k11 : Nat, (Value.ownBlock (Value.slice p (k + 1) k10) = some k11 →
 ((Value.ownBlock (Value.slice lines k k2) = some k11) ∨
 (Array.size (World.heap W6) ≤ k11)))) →
 (XHeap.Sl W7 43 1 (Value.slice lines k k2) k l2 →
 ((((p = lines ∧
 k10 = k2)) ∨
 ((((XHeap.NilP lines) ∨
 (k2 < k + 1)) ∧
 (∀ k12 : Nat, (Value.ownBlock (Value.slice p (k + 1) k10) = some k12 →
 Array.size (World.heap W6) ≤ k12))))) →
 (∀ z5 : Int, (z5 = IntKind.wrap .i64 (x2 + 1) →
 (I z5 p (k + 1) k10 W7 ∧
 I2 z5 p (k + 1) k10 W7 < I2 x2 lines k k2 W2))))))))))))))))))))))))))
 ((∀ z6 : Int, (z6 = IntKind.wrap .i64 (x2 + 1) →
 (I z6 lines k k2 W5 ∧
 I2 z6 lines k k2 W5 < I2 x2 lines k k2 W2))))))))))
 ((∀ W8 : World, (∀ k13 : Nat, (W8 = World.drewN W4 k13 →
 (∀ z7 : Int, (z7 = IntKind.wrap .i64 (x2 + 1) →
 (I z7 lines k k2 W8 ∧
 I2 z7 lines k k2 W8 < I2 x2 lines k k2 W2)))))))))))))))))))))))))))
 (Calls Tryz.prog 73 #[.pointer (some (Addr.mk x xo none)), .slice lines k k2] W2 (fun e =>
 (fun W9 =>
 (e = .returned (.tuple #[]) ∧
 Q (.returned (.tuple #[])) W9))))))))))))))) :
 Calls Tryz.prog 49 #[.pointer (some ⟨x, xo, none⟩), .slice l ln lc] W Q :=
 Sx.sound Tryz.func49 (.node [] [] 0 .leaf (.node [] [] 0 (.node [] [] 0 .leaf (.node [] [] 0 (.node [(9, .int .i64), (4, .slice)] [8, 7, 0] 0 .leaf .leaf) .leaf)) .leaf)) [Value.pointer (some ⟨x, xo, none⟩), .slice l ln lc] rfl (Eq.mp (by kernel_rfl) hVC)
theorem vc73 {W : World} {Q : Ending → World → Prop} (x : Nat) (xo : Nat) (lines : Option Addr) (linesn : Nat) (linesc : Nat)
 (hVC :
 (∃ I : Int → Int → World → Prop, (∃ I2 : Int → Int → World → Nat, (I 0 (-1) W ∧
 ((Nat → Value) →
 (∀ x2 : Int, (∀ oldest : Int, (∀ W2 : World, (I x2 oldest W2 →
 Sx.split (decide (x2 < (↑linesn : Int)))
 ((((0 : Int) ≤ x2 ∧
 x2 < (↑linesn : Int)) ∧
 Sx.adr lines (fun k =>
 (fun k2 =>
 (∃ z : Int, (World.cell? W2 (.mk k (k2 + Int.toNat x2 * 1) none) = some (.int .u32 z) ∧
 (∃ p : Option Addr, (World.cell? W2 (.mk x (xo + 2) none) = some (.pointer p) ∧
 Calls Tryz.prog 103 #[.pointer p, .int .u32 z] W2 (fun e =>
 (fun W3 =>
 (∃ z2 : Int, (e = .returned (.int .i64 z2) ∧
 Sx.split (decide (z2 ≥ 0))
 (Sx.split (decide (oldest < 0))
 ((∀ z3 : Int, (z3 = IntKind.wrap .i64 (x2 + 1) →
 (I z3 z2 W3 ∧
 I2 z3 z2 W3 < I2 x2 oldest W2))))
 (Sx.split (decide (z2 < oldest))
 ((∀ z4 : Int, (z4 = IntKind.wrap .i64 (x2 + 1) →
 (I z4 z2 W3 ∧
 I2 z4 z2 W3 < I2 x2 oldest W2))))
 ((∀ z5 : Int, (z5 = IntKind.wrap .i64 (x2 + 1) →
 (I z5 oldest W3 ∧
 I2 z5 oldest W3 < I2 x2 oldest W2))))))
 ((∀ z6 : Int, (z6 = IntKind.wrap .i64 (x2 + 1) →
 (I z6 oldest W3 ∧
 I2 z6 oldest W3 < I2 x2 oldest W2))))))))))))))))
 (Sx.split (decide (oldest ≥ 0))
 (Calls Tryz.prog 105 #[.pointer (some (Addr.mk x xo none)), .int .i64 oldest] W2 (fun e2 =>
 (fun W4 =>
 (∃ p2 : Option Addr, (e2 = .returned (.pointer p2) ∧
 Calls Tryz.prog 104 #[.pointer (some (Addr.mk x xo none)), .pointer p2] W4 (fun e3 =>
 (fun W5 =>
 (e3 = .returned (.tuple #[]) ∧
 Q (.returned (.tuple #[])) W5))))))))
 (Q (.returned (.tuple #[])) W2))))))))))) :
 Calls Tryz.prog 73 #[.pointer (some ⟨x, xo, none⟩), .slice lines linesn linesc] W Q :=
 Sx.sound Tryz.func73 (.node [] [] 0 .leaf (.node [] [] 0 (.node [] [] 0 .leaf (.node [] [] 0 (.node [(10, .int .i64), (4, .int .i64)] [9, 8, 0] 0 .leaf .leaf) .leaf)) .leaf)) [Value.pointer (some ⟨x, xo, none⟩), .slice lines linesn linesc] rfl (Eq.mp (by kernel_rfl) hVC)
theorem vc50 {W : World} {Q : Ending → World → Prop} (x : Nat) (xo : Nat)
 (hVC :
 (∃ t : Bool, (World.cell? W (.mk x (xo + 31) none) = some (.bool t) ∧
 Sx.split (!t)
 (Calls Tryz.prog 74 #[.pointer (some (Addr.mk x xo none))] W (fun e =>
 (fun W2 =>
 (e = .returned (.tuple #[]) ∧
 Calls Tryz.prog 75 #[.pointer (some (Addr.mk x xo none))] W2 (fun e2 =>
 (fun W3 =>
 (e2 = .returned (.tuple #[]) ∧
 (∃ t2 : Bool, (World.cell? W3 (.mk x (xo + 31) none) = some (.bool t2) ∧
 Sx.split (!t2)
 (Calls Tryz.prog 76 #[.pointer (some (Addr.mk x xo none))] W3 (fun e3 =>
 (fun W4 =>
 (e3 = .returned (.tuple #[]) ∧
 Calls Tryz.prog 77 #[.pointer (some (Addr.mk x xo none))] W4 (fun e4 =>
 (fun W5 =>
 (e4 = .returned (.tuple #[]) ∧
 Calls Tryz.prog 78 #[.pointer (some (Addr.mk x xo none))] W5 (fun e5 =>
 (fun W6 =>
 (e5 = .returned (.tuple #[]) ∧
 Q (.returned (.tuple #[])) W6))))))))))
 (Calls Tryz.prog 78 #[.pointer (some (Addr.mk x xo none))] W3 (fun e6 =>
 (fun W7 =>
 (e6 = .returned (.tuple #[]) ∧
 Q (.returned (.tuple #[])) W7)))))))))))))
 ((∃ t3 : Bool, (World.cell? W (.mk x (xo + 31) none) = some (.bool t3) ∧
 Sx.split (!t3)
 (Calls Tryz.prog 76 #[.pointer (some (Addr.mk x xo none))] W (fun e7 =>
 (fun W8 =>
 (e7 = .returned (.tuple #[]) ∧
 Calls Tryz.prog 77 #[.pointer (some (Addr.mk x xo none))] W8 (fun e8 =>
 (fun W9 =>
 (e8 = .returned (.tuple #[]) ∧
 Calls Tryz.prog 78 #[.pointer (some (Addr.mk x xo none))] W9 (fun e9 =>
 (fun W10 =>
 (e9 = .returned (.tuple #[]) ∧
 Q (.returned (.tuple #[])) W10))))))))))
 (Calls Tryz.prog 78 #[.pointer (some (Addr.mk x xo none))] W (fun e10 =>
 (fun W11 =>
 (e10 = .returned (.tuple #[]) ∧
 Q (.returned (.tuple #[])) W11)))))))))) :
 Calls Tryz.prog 50 #[.pointer (some ⟨x, xo, none⟩)] W Q :=
 Sx.sound Tryz.func50 .leaf [Value.pointer (some ⟨x, xo, none⟩)] rfl (Eq.mp (by kernel_rfl) hVC)
theorem vc52 {W : World} {Q : Ending → World → Prop} (x : Nat) (xo : Nat) (n : Int)
 (hVC :
 (∃ p : Option Addr, (World.cell? W (.mk x (xo + 1) none) = some (.pointer p) ∧
 Calls Tryz.prog 80 #[.pointer p, .int .i64 n] W (fun e =>
 (fun W2 =>
 (∃ z : Int, (e = .returned (.int .i64 z) ∧
 (∃ p2 : Option Addr, (∃ k : Nat, (∃ k2 : Nat, (World.cell? W2 (.mk x (xo + 28) none) = some (.slice p2 k k2) ∧
 (∀ z2 : Int, (z2 = IntKind.wrap .i64 ((↑k : Int) - 1) →
 (∃ I : Int → Int → World → Prop, (∃ I2 : Int → Int → World → Nat, (I z2 z W2 ∧
 ((Nat → Value) →
 (∀ k3 : Int, (∀ name : Int, (∀ W3 : World, (I k3 name W3 →
 Sx.split (decide (k3 ≥ 0))
 ((∃ p3 : Option Addr, (∃ k4 : Nat, (∃ k5 : Nat, (World.cell? W3 (.mk x (xo + 28) none) = some (.slice p3 k4 k5) ∧
 (((0 : Int) ≤ k3 ∧
 k3 < (↑k4 : Int)) ∧
 Sx.adr p3 (fun k6 =>
 (fun k7 =>
 (∃ p4 : Option Addr, (World.cell? W3 (.mk k6 (k7 + Int.toNat k3 * 1) none) = some (.pointer p4) ∧
 Sx.ptr p4 (fun a =>
 (∃ z3 : Int, (World.cell? W3 (Addr.add a 15) = some (.int .i64 z3) ∧
 Sx.split (decide (z3 ≥ 0))
 (Sx.ptr p4 (fun a2 =>
 (∃ z4 : Int, (World.cell? W3 (.mk (Addr.block a2) (Addr.off a2 + 3 + 1) none) = some (.int .i64 z4) ∧
 Sx.split (z4 == n)
 (Sx.ptr p4 (fun a3 =>
 (∃ z5 : Int, (World.cell? W3 (Addr.add a3 16) = some (.int .i64 z5) ∧
 (∀ z6 : Int, (z6 = IntKind.wrap .i64 (k3 - 1) →
 (I z6 z5 W3 ∧
 I2 z6 z5 W3 < I2 k3 name W3)))))))
 ((∀ z7 : Int, (z7 = IntKind.wrap .i64 (k3 - 1) →
 (I z7 name W3 ∧
 I2 z7 name W3 < I2 k3 name W3))))))))
 ((∀ z8 : Int, (z8 = IntKind.wrap .i64 (k3 - 1) →
 (I z8 name W3 ∧
 I2 z8 name W3 < I2 k3 name W3)))))))))))))))))
 ((∃ p5 : Option Addr, (∃ k8 : Nat, (∃ k9 : Nat, (World.cell? W3 (.mk x (xo + 7) none) = some (.slice p5 k8 k9) ∧
 (((0 : Int) ≤ name ∧
 name < (↑k8 : Int)) ∧
 Sx.adr p5 (fun k10 =>
 (fun k11 =>
 (∃ z9 : Int, (World.cell? W3 (.mk k10 (k11 + Int.toNat name * 1) none) = some (.int .u32 z9) ∧
 Q (.returned (.int .u32 z9)) W3))))))))))))))))))))))))))))))) :
 Calls Tryz.prog 52 #[.pointer (some ⟨x, xo, none⟩), .int .i64 n] W Q :=
 Sx.sound Tryz.func52 (.node [] [] 0 .leaf (.node [] [] 0 .leaf (.node [] [] 0 (.node [] [] 0 .leaf (.node [] [] 0 (.node [(6, .int .i64), (5, .int .i64)] [0, 1] 0 .leaf .leaf) .leaf)) .leaf))) [Value.pointer (some ⟨x, xo, none⟩), .int .i64 n] rfl (Eq.mp (by kernel_rfl) hVC)
end Go.Proofs.YthacioiefgabbaaGreatDoor
