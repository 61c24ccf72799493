/- What each function asks, reckoned out of its text; printed by a program of mine (wip/tpl/VcTool.lean). No condition. -/
import Derived.Test.YtcpmgklhfpcaeaaGreatDoorSxB
import Derived.Test.YtcpmgklhfpcaeaaGreatDoorChecked
namespace Go.Proofs.YtcpmgklhfpcaeaaGreatDoor
open Go Go.Proofs
set_option linter.unusedVariables false
set_option maxRecDepth 100000
theorem vc6 {W : World} {Q : Ending → World → Prop} (code : Option Addr) (coden : Nat) (codec : Nat) (data : Int) (number : Int)
  (hVC :
    Calls Tryz.prog 28 #[Value.slice code coden codec, Value.int IntKind.i64 data] W (fun e =>
     (fun W2 =>
     (∃ t : Bool, (e = Ending.returned (Value.bool t) ∧
     Sx.split (!t)
      (Q (Ending.returned (Value.tuple #[Value.pointer none, Value.int IntKind.i64 1])) W2)
      (Sx.split (decide (number < 0))
        (Q (Ending.returned (Value.tuple #[Value.pointer none, Value.int IntKind.i64 3])) W2)
        (Sx.split (decide (number ≥ 2))
          (Q (Ending.returned (Value.tuple #[Value.pointer none, Value.int IntKind.i64 3])) W2)
          ((∀ vs : Array Value, (vs = #[Value.slice code coden codec, Value.int IntKind.i64 data, Value.int IntKind.i64 number, Value.int IntKind.u32 0, Value.int IntKind.u32 0, Value.int IntKind.u32 0, Value.int IntKind.u32 0, Value.int IntKind.u32 0, Value.int IntKind.u32 0, Value.int IntKind.u32 0, Value.int IntKind.u32 0, Value.int IntKind.u32 0, Value.int IntKind.u32 0, Value.int IntKind.u32 0, Value.int IntKind.u32 0, Value.int IntKind.u32 0, Value.int IntKind.u32 0, Value.int IntKind.u32 0, Value.int IntKind.u32 0, Value.int IntKind.u32 0, Value.int IntKind.u32 0, Value.int IntKind.u32 0, Value.int IntKind.u32 0, Value.int IntKind.u32 0, Value.int IntKind.u32 0, Value.int IntKind.u32 0, Value.int IntKind.u32 0, Value.int IntKind.u32 0, Value.int IntKind.u32 0, Value.int IntKind.u32 0, Value.int IntKind.u32 0, Value.int IntKind.u32 0, Value.int IntKind.u32 0, Value.int IntKind.u32 0, Value.int IntKind.u32 0, Value.int IntKind.u32 0, Value.bool false, Value.int IntKind.i64 0, Value.int IntKind.u32 0, Value.int IntKind.u32 0, Value.int IntKind.u32 0, Value.int IntKind.u32 0, Value.int IntKind.u32 0, Value.int IntKind.u32 0, Value.int IntKind.u32 0] →
           (∀ k : Nat, (∀ W3 : World, (k = Array.size (World.heap W2) →
           (W3 = World.alloc W2 (Obj.cells (Value.cells (Value.agg vs)) 77) →
           Q (Ending.returned (Value.tuple #[Value.pointer (some (Addr.mk k 0 none)), Value.int IntKind.i64 0])) W3)))))))))))))) :
  Calls Tryz.prog 6 #[Value.slice code coden codec, Value.int .i64 data, Value.int .i64 number] W Q :=
  Sx.sound Tryz.func6 .leaf [Value.slice code coden codec, Value.int .i64 data, Value.int .i64 number] rfl (Eq.mp (by kernel_rfl) hVC)
theorem vc9 {W : World} {Q : Ending → World → Prop} (arg0 : Nat) (arg0o : Nat)
  (hVC :
    (∀ k : Nat, (∀ W2 : World, (k = Array.size (World.heap W) →
    (W2 = World.alloc W (Obj.cells #[Value.int IntKind.i64 0, Value.int IntKind.u32 0, Value.int IntKind.i64 0, Value.int IntKind.u32 0] 40) →
    Calls Tryz.prog 36 #[Value.pointer (some (Addr.mk arg0 arg0o none))] W2 (fun e =>
     (fun W3 =>
     (∃ vs : Array Value, (∃ z : Int, (∃ t : Bool, (e = Ending.returned (Value.tuple #[Value.agg vs, Value.int IntKind.u32 z, Value.bool t]) ∧
     (∀ k2 : Nat, (∀ W4 : World, (k2 = Array.size (World.heap W3) →
     (W4 = World.alloc W3 (Obj.cells #[Value.int IntKind.i64 0, Value.int IntKind.i64 0, Value.int IntKind.i64 0, Value.int IntKind.i64 0, Value.int IntKind.i64 0] 92) →
     (Array.size vs = 5 ∧
     ((∀ k3 : Nat, (k3 < 5 →
      ((∃ v : Value, World.cell? W4 (Addr.mk k2 (0 + k3) none) = some v) ∧
      World.frozen? W4 (Addr.mk k2 (0 + k3) none) = false))) ∧
     ((∀ v2 : Value, (v2 ∈ Array.toList vs →
      Value.oneCell' v2 = true)) ∧
     (∀ W5 : World, (W5 = World.setCells W4 k2 0 (Array.toList vs) →
     Sx.split (!t)
      ((∀ vs2 : Array Value, (vs2 = #[Value.int IntKind.i64 0, Value.int IntKind.u32 0, Value.int IntKind.i64 0, Value.int IntKind.u32 0] →
       (Array.size vs2 = 4 ∧
       ((∀ k4 : Nat, (k4 < 4 →
        ((∃ v3 : Value, World.cell? W5 (Addr.mk k (0 + k4) none) = some v3) ∧
        World.frozen? W5 (Addr.mk k (0 + k4) none) = false))) ∧
       ((∀ v4 : Value, (v4 ∈ Array.toList vs2 →
        Value.oneCell' v4 = true)) ∧
       (∀ W6 : World, (W6 = World.setCells W5 k 0 (Array.toList vs2) →
       (∃ vs3 : Array Value, (Array.size vs3 = 4 ∧
       (Sx.cellsAt W6 (Addr.mk k 0 none) vs3 ∧
       Q (Ending.returned (Value.agg vs3)) W6)))))))))))
      ((∃ t2 : Bool, (World.cell? W5 (Addr.mk arg0 (arg0o + 36) none) = some (Value.bool t2) ∧
       Sx.split t2
        ((∀ vs4 : Array Value, (vs4 = #[Value.int IntKind.i64 0, Value.int IntKind.u32 0, Value.int IntKind.i64 0, Value.int IntKind.u32 0] →
         (Array.size vs4 = 4 ∧
         ((∀ k5 : Nat, (k5 < 4 →
          ((∃ v5 : Value, World.cell? W5 (Addr.mk k (0 + k5) none) = some v5) ∧
          World.frozen? W5 (Addr.mk k (0 + k5) none) = false))) ∧
         ((∀ v6 : Value, (v6 ∈ Array.toList vs4 →
          Value.oneCell' v6 = true)) ∧
         (∀ W7 : World, (W7 = World.setCells W5 k 0 (Array.toList vs4) →
         (∃ vs5 : Array Value, (Array.size vs5 = 4 ∧
         (Sx.cellsAt W7 (Addr.mk k 0 none) vs5 ∧
         Q (Ending.returned (Value.agg vs5)) W7)))))))))))
        ((∃ z2 : Int, (World.cell? W5 (Addr.mk k2 0 none) = some (Value.int IntKind.i64 z2) ∧
         Calls Tryz.prog 37 #[Value.int IntKind.i64 z2] W5 (fun e2 =>
          (fun W8 =>
          (∃ z3 : Int, (e2 = Ending.returned (Value.int IntKind.i64 z3) ∧
          Sx.split (z3 == 0)
           ((∀ vs6 : Array Value, (vs6 = #[Value.int IntKind.i64 0, Value.int IntKind.u32 0, Value.int IntKind.i64 0, Value.int IntKind.u32 0] →
            (Array.size vs6 = 4 ∧
            ((∀ k6 : Nat, (k6 < 4 →
             ((∃ v7 : Value, World.cell? W8 (Addr.mk k (0 + k6) none) = some v7) ∧
             World.frozen? W8 (Addr.mk k (0 + k6) none) = false))) ∧
            ((∀ v8 : Value, (v8 ∈ Array.toList vs6 →
             Value.oneCell' v8 = true)) ∧
            (∀ W9 : World, (W9 = World.setCells W8 k 0 (Array.toList vs6) →
            (∃ vs7 : Array Value, (Array.size vs7 = 4 ∧
            (Sx.cellsAt W9 (Addr.mk k 0 none) vs7 ∧
            Q (Ending.returned (Value.agg vs7)) W9)))))))))))
           ((∃ vs8 : Array Value, (Array.size vs8 = 5 ∧
            (Sx.cellsAt W8 (Addr.mk k2 0 none) vs8 ∧
            Calls Tryz.prog 38 #[Value.pointer (some (Addr.mk arg0 arg0o none)), Value.agg vs8] W8 (fun e3 =>
             (fun W10 =>
             (∃ z4 : Int, (e3 = Ending.returned (Value.int IntKind.u32 z4) ∧
             (∃ z5 : Int, (World.cell? W10 (Addr.mk k2 0 none) = some (Value.int IntKind.i64 z5) ∧
             Calls Tryz.prog 39 #[Value.pointer (some (Addr.mk arg0 arg0o none)), Value.int IntKind.i64 z5, Value.int IntKind.u32 z4] W10 (fun e4 =>
              (fun W11 =>
              (∃ z6 : Int, (e4 = Ending.returned (Value.int IntKind.i64 z6) ∧
              Sx.split (z6 != -1)
               ((∀ vs9 : Array Value, (vs9 = #[Value.int IntKind.i64 0, Value.int IntKind.u32 0, Value.int IntKind.i64 0, Value.int IntKind.u32 0] →
                (Array.size vs9 = 4 ∧
                ((∀ k7 : Nat, (k7 < 4 →
                 ((∃ v9 : Value, World.cell? W11 (Addr.mk k (0 + k7) none) = some v9) ∧
                 World.frozen? W11 (Addr.mk k (0 + k7) none) = false))) ∧
                ((∀ v10 : Value, (v10 ∈ Array.toList vs9 →
                 Value.oneCell' v10 = true)) ∧
                (∀ W12 : World, (W12 = World.setCells W11 k 0 (Array.toList vs9) →
                (∃ vs10 : Array Value, (Array.size vs10 = 4 ∧
                (Sx.cellsAt W12 (Addr.mk k 0 none) vs10 ∧
                Q (Ending.returned (Value.agg vs10)) W12)))))))))))
               ((∃ z7 : Int, (World.cell? W11 (Addr.mk k2 (0 + 3) none) = some (Value.int IntKind.i64 z7) ∧
                (((0 : Int) ≤ z7 ∧
                 z7 < (↑32 : Int)) ∧
                (∃ z8 : Int, (World.cell? W11 (Addr.mk arg0 (arg0o + 4 + Int.toNat z7 * 1) none) = some (Value.int IntKind.u32 z8) ∧
                (∀ W13 : World, (∀ k8 : Nat, (W13 = World.drewN W11 k8 →
                (∃ z9 : Int, (World.cell? W13 (Addr.mk k2 0 none) = some (Value.int IntKind.i64 z9) ∧
                Calls Tryz.prog 40 #[Value.int IntKind.i64 z9] W13 (fun e5 =>
                 (fun W14 =>
                 (∃ z10 : Int, (e5 = Ending.returned (Value.int IntKind.i64 z10) ∧
                 Sx.split (z10 == 4)
                  (Sx.split (decide (z3 < 4))
                    ((∀ z11 : Int, (z11 = IntKind.wrap IntKind.i64 (8 * z3) →
                     ((0 : Int) ≤ z11 ∧
                     (∀ z12 : Int, (z12 = IntKind.wrap IntKind.u32 (1 * 2 ^ min (Int.toNat z11) (IntKind.bits IntKind.u32)) →
                     (z12 ≠ 0 ∧
                     (∀ z13 : Int, (z13 = Int.tmod 0 z12 →
                     (∃ z14 : Int, (World.cell? W14 (Addr.mk k2 0 none) = some (Value.int IntKind.i64 z14) ∧
                     (∀ vs11 : Array Value, (vs11 = #[Value.int IntKind.i64 z14, Value.int IntKind.u32 z4, Value.int IntKind.i64 z3, Value.int IntKind.u32 z13] →
                     (Array.size vs11 = 4 ∧
                     ((∀ k9 : Nat, (k9 < 4 →
                      ((∃ v11 : Value, World.cell? W14 (Addr.mk k (0 + k9) none) = some v11) ∧
                      World.frozen? W14 (Addr.mk k (0 + k9) none) = false))) ∧
                     ((∀ v12 : Value, (v12 ∈ Array.toList vs11 →
                      Value.oneCell' v12 = true)) ∧
                     (∀ W15 : World, (W15 = World.setCells W14 k 0 (Array.toList vs11) →
                     (∃ vs12 : Array Value, (Array.size vs12 = 4 ∧
                     (Sx.cellsAt W15 (Addr.mk k 0 none) vs12 ∧
                     Q (Ending.returned (Value.agg vs12)) W15)))))))))))))))))))))
                    ((∃ z15 : Int, (World.cell? W14 (Addr.mk k2 0 none) = some (Value.int IntKind.i64 z15) ∧
                     (∀ vs13 : Array Value, (vs13 = #[Value.int IntKind.i64 z15, Value.int IntKind.u32 z4, Value.int IntKind.i64 z3, Value.int IntKind.u32 0] →
                     (Array.size vs13 = 4 ∧
                     ((∀ k10 : Nat, (k10 < 4 →
                      ((∃ v13 : Value, World.cell? W14 (Addr.mk k (0 + k10) none) = some v13) ∧
                      World.frozen? W14 (Addr.mk k (0 + k10) none) = false))) ∧
                     ((∀ v14 : Value, (v14 ∈ Array.toList vs13 →
                      Value.oneCell' v14 = true)) ∧
                     (∀ W16 : World, (W16 = World.setCells W14 k 0 (Array.toList vs13) →
                     (∃ vs14 : Array Value, (Array.size vs14 = 4 ∧
                     (Sx.cellsAt W16 (Addr.mk k 0 none) vs14 ∧
                     Q (Ending.returned (Value.agg vs14)) W16))))))))))))))
                  (Sx.split (decide (z3 < 4))
                    ((∀ z16 : Int, (z16 = IntKind.wrap IntKind.i64 (8 * z3) →
                     ((0 : Int) ≤ z16 ∧
                     (∀ z17 : Int, (z17 = IntKind.wrap IntKind.u32 (1 * 2 ^ min (Int.toNat z16) (IntKind.bits IntKind.u32)) →
                     (z17 ≠ 0 ∧
                     (∀ z18 : Int, (z18 = Int.tmod z8 z17 →
                     (∃ z19 : Int, (World.cell? W14 (Addr.mk k2 0 none) = some (Value.int IntKind.i64 z19) ∧
                     (∀ vs15 : Array Value, (vs15 = #[Value.int IntKind.i64 z19, Value.int IntKind.u32 z4, Value.int IntKind.i64 z3, Value.int IntKind.u32 z18] →
                     (Array.size vs15 = 4 ∧
                     ((∀ k11 : Nat, (k11 < 4 →
                      ((∃ v15 : Value, World.cell? W14 (Addr.mk k (0 + k11) none) = some v15) ∧
                      World.frozen? W14 (Addr.mk k (0 + k11) none) = false))) ∧
                     ((∀ v16 : Value, (v16 ∈ Array.toList vs15 →
                      Value.oneCell' v16 = true)) ∧
                     (∀ W17 : World, (W17 = World.setCells W14 k 0 (Array.toList vs15) →
                     (∃ vs16 : Array Value, (Array.size vs16 = 4 ∧
                     (Sx.cellsAt W17 (Addr.mk k 0 none) vs16 ∧
                     Q (Ending.returned (Value.agg vs16)) W17)))))))))))))))))))))
                    ((∃ z20 : Int, (World.cell? W14 (Addr.mk k2 0 none) = some (Value.int IntKind.i64 z20) ∧
                     (∀ vs17 : Array Value, (vs17 = #[Value.int IntKind.i64 z20, Value.int IntKind.u32 z4, Value.int IntKind.i64 z3, Value.int IntKind.u32 z8] →
                     (Array.size vs17 = 4 ∧
                     ((∀ k12 : Nat, (k12 < 4 →
                      ((∃ v17 : Value, World.cell? W14 (Addr.mk k (0 + k12) none) = some v17) ∧
                      World.frozen? W14 (Addr.mk k (0 + k12) none) = false))) ∧
                     ((∀ v18 : Value, (v18 ∈ Array.toList vs17 →
                      Value.oneCell' v18 = true)) ∧
                     (∀ W18 : World, (W18 = World.setCells W14 k 0 (Array.toList vs17) →
                     (∃ vs18 : Array Value, (Array.size vs18 = 4 ∧
                     (Sx.cellsAt W18 (Addr.mk k 0 none) vs18 ∧
                     Q (Ending.returned (Value.agg vs18)) W18))))))))))))))))))))))))))))))))))))))))))))))))))))))))))))))))))))))))) :
  Calls Tryz.prog 9 #[Value.pointer (some ⟨arg0, arg0o, none⟩)] W Q :=
  Sx.sound Tryz.func9 .leaf [Value.pointer (some ⟨arg0, arg0o, none⟩)] rfl (Eq.mp (by kernel_rfl) hVC)
theorem vc11 {W : World} {Q : Ending → World → Prop} (h : Nat) (ho : Nat)
  (hVC :
    (∀ k : Nat, (∀ W2 : World, (k = Array.size (World.heap W) →
    (W2 = World.alloc W (Obj.cells #[Value.int IntKind.u32 0, Value.int IntKind.u32 0, Value.int IntKind.i64 0, Value.int IntKind.u32 0, Value.int IntKind.i64 0, Value.int IntKind.u32 0, Value.int IntKind.u32 0] 46) →
    (∃ t : Bool, (World.cell? W2 (Addr.mk h (ho + 36) none) = some (Value.bool t) ∧
    Sx.split t
     ((∀ vs : Array Value, (vs = #[Value.int IntKind.u32 0, Value.int IntKind.u32 0, Value.int IntKind.i64 0, Value.int IntKind.u32 0, Value.int IntKind.i64 0, Value.int IntKind.u32 0, Value.int IntKind.u32 0] →
      (Array.size vs = 7 ∧
      ((∀ k2 : Nat, (k2 < 7 →
       ((∃ v : Value, World.cell? W2 (Addr.mk k (0 + k2) none) = some v) ∧
       World.frozen? W2 (Addr.mk k (0 + k2) none) = false))) ∧
      ((∀ v2 : Value, (v2 ∈ Array.toList vs →
       Value.oneCell' v2 = true)) ∧
      (∀ W3 : World, (W3 = World.setCells W2 k 0 (Array.toList vs) →
      (∃ vs2 : Array Value, (Array.size vs2 = 7 ∧
      (Sx.cellsAt W3 (Addr.mk k 0 none) vs2 ∧
      Q (Ending.returned (Value.tuple #[Value.agg vs2, Value.bool false])) W3)))))))))))
     ((∃ z : Int, (World.cell? W2 (Addr.mk h (ho + 38) none) = some (Value.int IntKind.u32 z) ∧
      (∀ z2 : Int, (z2 = IntKind.wrap IntKind.u32 (↑(BitVec.toNat (BitVec.ofInt (IntKind.bits IntKind.u32) z &&& BitVec.ofInt (IntKind.bits IntKind.u32) 8)) : Int) →
      Sx.split (z2 == 0)
       ((∀ vs3 : Array Value, (vs3 = #[Value.int IntKind.u32 0, Value.int IntKind.u32 0, Value.int IntKind.i64 0, Value.int IntKind.u32 0, Value.int IntKind.i64 0, Value.int IntKind.u32 0, Value.int IntKind.u32 0] →
        (Array.size vs3 = 7 ∧
        ((∀ k3 : Nat, (k3 < 7 →
         ((∃ v3 : Value, World.cell? W2 (Addr.mk k (0 + k3) none) = some v3) ∧
         World.frozen? W2 (Addr.mk k (0 + k3) none) = false))) ∧
        ((∀ v4 : Value, (v4 ∈ Array.toList vs3 →
         Value.oneCell' v4 = true)) ∧
        (∀ W4 : World, (W4 = World.setCells W2 k 0 (Array.toList vs3) →
        (∃ vs4 : Array Value, (Array.size vs4 = 7 ∧
        (Sx.cellsAt W4 (Addr.mk k 0 none) vs4 ∧
        Q (Ending.returned (Value.tuple #[Value.agg vs4, Value.bool false])) W4)))))))))))
       ((∃ z3 : Int, (World.cell? W2 (Addr.mk h (ho + 39) none) = some (Value.int IntKind.u32 z3) ∧
        Sx.split (z3 == 0)
         ((∀ vs5 : Array Value, (vs5 = #[Value.int IntKind.u32 0, Value.int IntKind.u32 0, Value.int IntKind.i64 0, Value.int IntKind.u32 0, Value.int IntKind.i64 0, Value.int IntKind.u32 0, Value.int IntKind.u32 0] →
          (Array.size vs5 = 7 ∧
          ((∀ k4 : Nat, (k4 < 7 →
           ((∃ v5 : Value, World.cell? W2 (Addr.mk k (0 + k4) none) = some v5) ∧
           World.frozen? W2 (Addr.mk k (0 + k4) none) = false))) ∧
          ((∀ v6 : Value, (v6 ∈ Array.toList vs5 →
           Value.oneCell' v6 = true)) ∧
          (∀ W5 : World, (W5 = World.setCells W2 k 0 (Array.toList vs5) →
          (∃ vs6 : Array Value, (Array.size vs6 = 7 ∧
          (Sx.cellsAt W5 (Addr.mk k 0 none) vs6 ∧
          Q (Ending.returned (Value.tuple #[Value.agg vs6, Value.bool false])) W5)))))))))))
         (Calls Tryz.prog 43 #[Value.pointer (some (Addr.mk h ho none)), Value.int IntKind.u32 0, Value.int IntKind.i64 2147483659, Value.int IntKind.u32 0] W2 (fun e =>
           (fun W6 =>
           (∃ vs7 : Array Value, (e = Ending.returned (Value.agg vs7) ∧
           (∀ k5 : Nat, (∀ W7 : World, (k5 = Array.size (World.heap W6) →
           (W7 = World.alloc W6 (Obj.cells #[Value.int IntKind.u32 0, Value.int IntKind.u32 0, Value.int IntKind.i64 0, Value.int IntKind.u32 0, Value.int IntKind.i64 0, Value.int IntKind.u32 0, Value.int IntKind.u32 0] 46) →
           (Array.size vs7 = 7 ∧
           ((∀ k6 : Nat, (k6 < 7 →
            ((∃ v7 : Value, World.cell? W7 (Addr.mk k5 (0 + k6) none) = some v7) ∧
            World.frozen? W7 (Addr.mk k5 (0 + k6) none) = false))) ∧
           ((∀ v8 : Value, (v8 ∈ Array.toList vs7 →
            Value.oneCell' v8 = true)) ∧
           (∀ W8 : World, (W8 = World.setCells W7 k5 0 (Array.toList vs7) →
           (∃ vs8 : Array Value, (Array.size vs8 = 7 ∧
           (Sx.cellsAt W8 (Addr.mk k5 0 none) vs8 ∧
           (Array.size vs8 = 7 ∧
           ((∀ k7 : Nat, (k7 < 7 →
            ((∃ v9 : Value, World.cell? W8 (Addr.mk k (0 + k7) none) = some v9) ∧
            World.frozen? W8 (Addr.mk k (0 + k7) none) = false))) ∧
           ((∀ v10 : Value, (v10 ∈ Array.toList vs8 →
            Value.oneCell' v10 = true)) ∧
           (∀ W9 : World, (W9 = World.setCells W8 k 0 (Array.toList vs8) →
           (∃ vs9 : Array Value, (Array.size vs9 = 7 ∧
           (Sx.cellsAt W9 (Addr.mk k 0 none) vs9 ∧
           Q (Ending.returned (Value.tuple #[Value.agg vs9, Value.bool true])) W9)))))))))))))))))))))))))))))))))))))))) :
  Calls Tryz.prog 11 #[Value.pointer (some ⟨h, ho, none⟩)] W Q :=
  Sx.sound Tryz.func11 .leaf [Value.pointer (some ⟨h, ho, none⟩)] rfl (Eq.mp (by kernel_rfl) hVC)
theorem vc14 {W : World} {Q : Ending → World → Prop} (arg0 : Nat) (arg0o : Nat) (arg1 : Int) (arg2 : Bool)
  (hVC :
    (∀ k : Nat, (∀ W2 : World, (k = Array.size (World.heap W) →
    (W2 = World.alloc W (Obj.cells #[Value.int IntKind.u32 0, Value.int IntKind.u32 0, Value.int IntKind.i64 0, Value.int IntKind.u32 0, Value.int IntKind.i64 0, Value.int IntKind.u32 0, Value.int IntKind.u32 0] 46) →
    (∃ t : Bool, (World.cell? W2 (Addr.mk arg0 (arg0o + 36) none) = some (Value.bool t) ∧
    Sx.split t
     ((∀ W3 : World, (W3 = World.drew W2 →
      (∃ z : Int, (World.cell? W3 (Addr.mk arg0 (arg0o + 3) none) = some (Value.int IntKind.u32 z) ∧
      (∃ z2 : Int, (World.cell? W3 (Addr.mk arg0 (arg0o + 3) none) = some (Value.int IntKind.u32 z2) ∧
      (∀ vs : Array Value, (vs = #[Value.int IntKind.u32 z, Value.int IntKind.u32 0, Value.int IntKind.i64 0, Value.int IntKind.u32 0, Value.int IntKind.i64 (-1), Value.int IntKind.u32 0, Value.int IntKind.u32 z2] →
      (Array.size vs = 7 ∧
      ((∀ k2 : Nat, (k2 < 7 →
       ((∃ v : Value, World.cell? W3 (Addr.mk k (0 + k2) none) = some v) ∧
       World.frozen? W3 (Addr.mk k (0 + k2) none) = false))) ∧
      ((∀ v2 : Value, (v2 ∈ Array.toList vs →
       Value.oneCell' v2 = true)) ∧
      (∀ W4 : World, (W4 = World.setCells W3 k 0 (Array.toList vs) →
      (∃ vs2 : Array Value, (Array.size vs2 = 7 ∧
      (Sx.cellsAt W4 (Addr.mk k 0 none) vs2 ∧
      Q (Ending.returned (Value.agg vs2)) W4)))))))))))))))))
     (Calls Tryz.prog 36 #[Value.pointer (some (Addr.mk arg0 arg0o none))] W2 (fun e =>
       (fun W5 =>
       (∃ vs3 : Array Value, (∃ z3 : Int, (∃ t2 : Bool, (e = Ending.returned (Value.tuple #[Value.agg vs3, Value.int IntKind.u32 z3, Value.bool t2]) ∧
       (∀ k3 : Nat, (∀ W6 : World, (k3 = Array.size (World.heap W5) →
       (W6 = World.alloc W5 (Obj.cells #[Value.int IntKind.i64 0, Value.int IntKind.i64 0, Value.int IntKind.i64 0, Value.int IntKind.i64 0, Value.int IntKind.i64 0] 92) →
       (Array.size vs3 = 5 ∧
       ((∀ k4 : Nat, (k4 < 5 →
        ((∃ v3 : Value, World.cell? W6 (Addr.mk k3 (0 + k4) none) = some v3) ∧
        World.frozen? W6 (Addr.mk k3 (0 + k4) none) = false))) ∧
       ((∀ v4 : Value, (v4 ∈ Array.toList vs3 →
        Value.oneCell' v4 = true)) ∧
       (∀ W7 : World, (W7 = World.setCells W6 k3 0 (Array.toList vs3) →
       (∃ z4 : Int, (World.cell? W7 (Addr.mk arg0 (arg0o + 3) none) = some (Value.int IntKind.u32 z4) ∧
       ((4 : Int) ≠ (0 : Int) ∧
       (∀ z5 : Int, (z5 = IntKind.wrap IntKind.u32 (Int.tdiv z4 4) →
       (∀ z6 : Int, (z6 = IntKind.wrap IntKind.i64 z5 →
       (∃ p : Option Addr, (∃ k5 : Nat, (∃ k6 : Nat, (World.cell? W7 (Addr.mk arg0 arg0o none) = some (Value.slice p k5 k6) ∧
       (∀ W8 : World, (∀ k7 : Nat, (W8 = World.drewN W7 k7 →
       Sx.split (decide (z6 ≥ (↑k5 : Int)))
        ((∃ z7 : Int, (World.cell? W8 (Addr.mk arg0 (arg0o + 3) none) = some (Value.int IntKind.u32 z7) ∧
         Calls Tryz.prog 43 #[Value.pointer (some (Addr.mk arg0 arg0o none)), Value.int IntKind.u32 0, Value.int IntKind.i64 1, Value.int IntKind.u32 z7] W8 (fun e2 =>
          (fun W9 =>
          (∃ vs4 : Array Value, (e2 = Ending.returned (Value.agg vs4) ∧
          (Array.size vs4 = 7 ∧
          ((∀ k8 : Nat, (k8 < 7 →
           ((∃ v5 : Value, World.cell? W9 (Addr.mk k (0 + k8) none) = some v5) ∧
           World.frozen? W9 (Addr.mk k (0 + k8) none) = false))) ∧
          ((∀ v6 : Value, (v6 ∈ Array.toList vs4 →
           Value.oneCell' v6 = true)) ∧
          (∀ W10 : World, (W10 = World.setCells W9 k 0 (Array.toList vs4) →
          (∃ vs5 : Array Value, (Array.size vs5 = 7 ∧
          (Sx.cellsAt W10 (Addr.mk k 0 none) vs5 ∧
          Q (Ending.returned (Value.agg vs5)) W10)))))))))))))))
        (Sx.split (!t2)
          (Calls Tryz.prog 43 #[Value.pointer (some (Addr.mk arg0 arg0o none)), Value.int IntKind.u32 z3, Value.int IntKind.i64 2, Value.int IntKind.u32 z3] W8 (fun e3 =>
            (fun W11 =>
            (∃ vs6 : Array Value, (e3 = Ending.returned (Value.agg vs6) ∧
            (Array.size vs6 = 7 ∧
            ((∀ k9 : Nat, (k9 < 7 →
             ((∃ v7 : Value, World.cell? W11 (Addr.mk k (0 + k9) none) = some v7) ∧
             World.frozen? W11 (Addr.mk k (0 + k9) none) = false))) ∧
            ((∀ v8 : Value, (v8 ∈ Array.toList vs6 →
             Value.oneCell' v8 = true)) ∧
            (∀ W12 : World, (W12 = World.setCells W11 k 0 (Array.toList vs6) →
            (∃ vs7 : Array Value, (Array.size vs7 = 7 ∧
            (Sx.cellsAt W12 (Addr.mk k 0 none) vs7 ∧
            Q (Ending.returned (Value.agg vs7)) W12)))))))))))))
          ((∃ z8 : Int, (World.cell? W8 (Addr.mk k3 (0 + 2) none) = some (Value.int IntKind.i64 z8) ∧
           (((0 : Int) ≤ z8 ∧
            z8 < (↑32 : Int)) ∧
           (∃ z9 : Int, (World.cell? W8 (Addr.mk arg0 (arg0o + 4 + Int.toNat z8 * 1) none) = some (Value.int IntKind.u32 z9) ∧
           (∀ W13 : World, (∀ k10 : Nat, (W13 = World.drewN W8 k10 →
           (∃ z10 : Int, (World.cell? W13 (Addr.mk k3 (0 + 3) none) = some (Value.int IntKind.i64 z10) ∧
           (((0 : Int) ≤ z10 ∧
            z10 < (↑32 : Int)) ∧
           (∃ z11 : Int, (World.cell? W13 (Addr.mk arg0 (arg0o + 4 + Int.toNat z10 * 1) none) = some (Value.int IntKind.u32 z11) ∧
           (∀ W14 : World, (∀ k11 : Nat, (W14 = World.drewN W13 k11 →
           (∃ z12 : Int, (World.cell? W14 (Addr.mk k3 0 none) = some (Value.int IntKind.i64 z12) ∧
           Calls Tryz.prog 40 #[Value.int IntKind.i64 z12] W14 (fun e4 =>
            (fun W15 =>
            (∃ z13 : Int, (e4 = Ending.returned (Value.int IntKind.i64 z13) ∧
            (∃ I : Bool → World → Prop, (Sx.split (z13 == 0)
              (I true W15)
              (I (z13 == 1) W15) ∧
            ((Nat →
            Value) →
            (∀ x : Bool, (∀ W16 : World, (I x W16 →
            Sx.split x
             ((∃ vs8 : Array Value, (Array.size vs8 = 5 ∧
              (Sx.cellsAt W16 (Addr.mk k3 0 none) vs8 ∧
              Calls Tryz.prog 53 #[Value.pointer (some (Addr.mk arg0 arg0o none)), Value.agg vs8, Value.int IntKind.u32 z9, Value.int IntKind.u32 z11] W16 (fun e5 =>
               (fun W17 =>
               (∃ z14 : Int, (e5 = Ending.returned (Value.int IntKind.u32 z14) ∧
               (∀ W18 : World, (W18 = World.drew W17 →
               (∃ z15 : Int, (World.cell? W18 (Addr.mk k3 (0 + 1) none) = some (Value.int IntKind.i64 z15) ∧
               (∃ z16 : Int, (World.cell? W18 (Addr.mk arg0 (arg0o + 3) none) = some (Value.int IntKind.u32 z16) ∧
               (∀ z17 : Int, (z17 = IntKind.wrap IntKind.u32 (z16 + 4) →
               Calls Tryz.prog 54 #[Value.pointer (some (Addr.mk arg0 arg0o none)), Value.int IntKind.u32 z3, Value.int IntKind.i64 z15, Value.int IntKind.u32 z14, Value.int IntKind.u32 z17] W18 (fun e6 =>
                (fun W19 =>
                (∃ vs9 : Array Value, (e6 = Ending.returned (Value.agg vs9) ∧
                (Array.size vs9 = 7 ∧
                ((∀ k12 : Nat, (k12 < 7 →
                 ((∃ v9 : Value, World.cell? W19 (Addr.mk k (0 + k12) none) = some v9) ∧
                 World.frozen? W19 (Addr.mk k (0 + k12) none) = false))) ∧
                ((∀ v10 : Value, (v10 ∈ Array.toList vs9 →
                 Value.oneCell' v10 = true)) ∧
                (∀ W20 : World, (W20 = World.setCells W19 k 0 (Array.toList vs9) →
                (∃ vs10 : Array Value, (Array.size vs10 = 7 ∧
                (Sx.cellsAt W20 (Addr.mk k 0 none) vs10 ∧
                Q (Ending.returned (Value.agg vs10)) W20))))))))))))))))))))))))))))
             (Sx.split (z13 == 2)
               ((∃ z18 : Int, (World.cell? W16 (Addr.mk k3 0 none) = some (Value.int IntKind.i64 z18) ∧
                Calls Tryz.prog 55 #[Value.int IntKind.i64 z18, Value.int IntKind.u32 z9, Value.int IntKind.u32 z11] W16 (fun e7 =>
                 (fun W21 =>
                 (∃ t3 : Bool, (e7 = Ending.returned (Value.bool t3) ∧
                 Sx.split (!t3)
                  ((∃ z19 : Int, (World.cell? W21 (Addr.mk arg0 (arg0o + 3) none) = some (Value.int IntKind.u32 z19) ∧
                   (∀ z20 : Int, (z20 = IntKind.wrap IntKind.u32 (z19 + 4) →
                   Calls Tryz.prog 54 #[Value.pointer (some (Addr.mk arg0 arg0o none)), Value.int IntKind.u32 z3, Value.int IntKind.i64 0, Value.int IntKind.u32 0, Value.int IntKind.u32 z20] W21 (fun e8 =>
                    (fun W22 =>
                    (∃ vs11 : Array Value, (e8 = Ending.returned (Value.agg vs11) ∧
                    (Array.size vs11 = 7 ∧
                    ((∀ k13 : Nat, (k13 < 7 →
                     ((∃ v11 : Value, World.cell? W22 (Addr.mk k (0 + k13) none) = some v11) ∧
                     World.frozen? W22 (Addr.mk k (0 + k13) none) = false))) ∧
                    ((∀ v12 : Value, (v12 ∈ Array.toList vs11 →
                     Value.oneCell' v12 = true)) ∧
                    (∀ W23 : World, (W23 = World.setCells W22 k 0 (Array.toList vs11) →
                    (∃ vs12 : Array Value, (Array.size vs12 = 7 ∧
                    (Sx.cellsAt W23 (Addr.mk k 0 none) vs12 ∧
                    Q (Ending.returned (Value.agg vs12)) W23)))))))))))))))))
                  ((∀ W24 : World, (W24 = World.drew W21 →
                   (∃ z21 : Int, (World.cell? W24 (Addr.mk arg0 (arg0o + 3) none) = some (Value.int IntKind.u32 z21) ∧
                   (∃ z22 : Int, (World.cell? W24 (Addr.mk k3 (0 + 4) none) = some (Value.int IntKind.i64 z22) ∧
                   (∀ z23 : Int, (z23 = IntKind.wrap IntKind.u32 z22 →
                   (∀ z24 : Int, (z24 = IntKind.wrap IntKind.u32 (z21 + z23) →
                   Calls Tryz.prog 56 #[Value.pointer (some (Addr.mk arg0 arg0o none)), Value.int IntKind.u32 z3, Value.int IntKind.i64 0, Value.int IntKind.u32 z24] W24 (fun e9 =>
                    (fun W25 =>
                    (∃ vs13 : Array Value, (e9 = Ending.returned (Value.agg vs13) ∧
                    (Array.size vs13 = 7 ∧
                    ((∀ k14 : Nat, (k14 < 7 →
                     ((∃ v13 : Value, World.cell? W25 (Addr.mk k (0 + k14) none) = some v13) ∧
                     World.frozen? W25 (Addr.mk k (0 + k14) none) = false))) ∧
                    ((∀ v14 : Value, (v14 ∈ Array.toList vs13 →
                     Value.oneCell' v14 = true)) ∧
                    (∀ W26 : World, (W26 = World.setCells W25 k 0 (Array.toList vs13) →
                    (∃ vs14 : Array Value, (Array.size vs14 = 7 ∧
                    (Sx.cellsAt W26 (Addr.mk k 0 none) vs14 ∧
                    Q (Ending.returned (Value.agg vs14)) W26))))))))))))))))))))))))))))))
               (Sx.split (z13 == 3)
                 ((∃ z25 : Int, (World.cell? W16 (Addr.mk arg0 (arg0o + 3) none) = some (Value.int IntKind.u32 z25) ∧
                  (∃ z26 : Int, (World.cell? W16 (Addr.mk k3 (0 + 4) none) = some (Value.int IntKind.i64 z26) ∧
                  (∀ z27 : Int, (z27 = IntKind.wrap IntKind.u32 z26 →
                  (∀ z28 : Int, (z28 = IntKind.wrap IntKind.u32 (z25 + z27) →
                  (∀ W27 : World, (∀ k15 : Nat, (W27 = World.drewN W16 k15 →
                  Calls Tryz.prog 57 #[] W27 (fun e10 =>
                   (fun W28 =>
                   (∃ p2 : Option Addr, (∃ k16 : Nat, (∃ k17 : Nat, (e10 = Ending.returned (Value.slice p2 k16 k17) ∧
                   (∃ I2 : Int → World → Prop, ((∃ z29 : Int, (World.cell? W28 (Addr.mk k3 0 none) = some (Value.int IntKind.i64 z29) ∧
                    (∀ z30 : Int, (z30 = IntKind.wrap IntKind.i64 (z29 - 1) →
                    (((0 : Int) ≤ z30 ∧
                     z30 < (↑k16 : Int)) ∧
                    Sx.adr p2 (fun k18 =>
                     (fun k19 =>
                     (∃ s : ByteArray, (World.cell? W28 (Addr.mk k18 (k19 + Int.toNat z30 * 5) none) = some (Value.string s) ∧
                     Sx.split (ByteArray.toList s == ByteArray.toList (ByteArray.mk #[106, 97, 108, 114]))
                      ((∃ z31 : Int, (World.cell? W28 (Addr.mk k3 (0 + 4) none) = some (Value.int IntKind.i64 z31) ∧
                       (∀ z32 : Int, (z32 = IntKind.wrap IntKind.u32 z31 →
                       (∀ z33 : Int, (z33 = IntKind.wrap IntKind.u32 (z9 + z32) →
                       ((0 : Int) ≤ (1 : Int) ∧
                       (∀ z34 : Int, (z34 = Int.fdiv z33 (2 ^ min 1 (IntKind.bits IntKind.u32)) →
                       ((0 : Int) ≤ (1 : Int) ∧
                       (∀ z35 : Int, (z35 = IntKind.wrap IntKind.u32 (z34 * 2 ^ min 1 (IntKind.bits IntKind.u32)) →
                       I2 z35 W28)))))))))))))
                      (I2 z28 W28)))))))))) ∧
                   ((Nat →
                   Value) →
                   (∀ x2 : Int, (∀ W29 : World, (I2 x2 W29 →
                   (∃ z36 : Int, (World.cell? W29 (Addr.mk k3 (0 + 1) none) = some (Value.int IntKind.i64 z36) ∧
                   Calls Tryz.prog 56 #[Value.pointer (some (Addr.mk arg0 arg0o none)), Value.int IntKind.u32 z3, Value.int IntKind.i64 z36, Value.int IntKind.u32 x2] W29 (fun e11 =>
                    (fun W30 =>
                    (∃ vs15 : Array Value, (e11 = Ending.returned (Value.agg vs15) ∧
                    (Array.size vs15 = 7 ∧
                    ((∀ k20 : Nat, (k20 < 7 →
                     ((∃ v15 : Value, World.cell? W30 (Addr.mk k (0 + k20) none) = some v15) ∧
                     World.frozen? W30 (Addr.mk k (0 + k20) none) = false))) ∧
                    ((∀ v16 : Value, (v16 ∈ Array.toList vs15 →
                     Value.oneCell' v16 = true)) ∧
                    (∀ W31 : World, (W31 = World.setCells W30 k 0 (Array.toList vs15) →
                    (∃ vs16 : Array Value, (Array.size vs16 = 7 ∧
                    (Sx.cellsAt W31 (Addr.mk k 0 none) vs16 ∧
                    Q (Ending.returned (Value.agg vs16)) W31))))))))))))))))))))))))))))))))))))))
                 (Sx.split (z13 == 7)
                   ((∃ vs17 : Array Value, (Array.size vs17 = 5 ∧
                    (Sx.cellsAt W16 (Addr.mk k3 0 none) vs17 ∧
                    Calls Tryz.prog 58 #[Value.pointer (some (Addr.mk arg0 arg0o none)), Value.agg vs17, Value.int IntKind.u32 z3, Value.int IntKind.u32 z9] W16 (fun e12 =>
                     (fun W32 =>
                     (∃ vs18 : Array Value, (e12 = Ending.returned (Value.agg vs18) ∧
                     (Array.size vs18 = 7 ∧
                     ((∀ k21 : Nat, (k21 < 7 →
                      ((∃ v17 : Value, World.cell? W32 (Addr.mk k (0 + k21) none) = some v17) ∧
                      World.frozen? W32 (Addr.mk k (0 + k21) none) = false))) ∧
                     ((∀ v18 : Value, (v18 ∈ Array.toList vs18 →
                      Value.oneCell' v18 = true)) ∧
                     (∀ W33 : World, (W33 = World.setCells W32 k 0 (Array.toList vs18) →
                     (∃ vs19 : Array Value, (Array.size vs19 = 7 ∧
                     (Sx.cellsAt W33 (Addr.mk k 0 none) vs19 ∧
                     Q (Ending.returned (Value.agg vs19)) W33))))))))))))))))
                   ((∃ vs20 : Array Value, (Array.size vs20 = 5 ∧
                    (Sx.cellsAt W16 (Addr.mk k3 0 none) vs20 ∧
                    Calls Tryz.prog 59 #[Value.pointer (some (Addr.mk arg0 arg0o none)), Value.agg vs20, Value.int IntKind.u32 z3, Value.int IntKind.u32 arg1, Value.bool arg2] W16 (fun e13 =>
                     (fun W34 =>
                     (∃ vs21 : Array Value, (e13 = Ending.returned (Value.agg vs21) ∧
                     (Array.size vs21 = 7 ∧
                     ((∀ k22 : Nat, (k22 < 7 →
                      ((∃ v19 : Value, World.cell? W34 (Addr.mk k (0 + k22) none) = some v19) ∧
                      World.frozen? W34 (Addr.mk k (0 + k22) none) = false))) ∧
                     ((∀ v20 : Value, (v20 ∈ Array.toList vs21 →
                      Value.oneCell' v20 = true)) ∧
                     (∀ W35 : World, (W35 = World.setCells W34 k 0 (Array.toList vs21) →
                     (∃ vs22 : Array Value, (Array.size vs22 = 7 ∧
                     (Sx.cellsAt W35 (Addr.mk k 0 none) vs22 ∧
                     Q (Ending.returned (Value.agg vs22)) W35)))))))))))))))))))))))))))))))))))))))))))))))))))))))))))))))))))))))))))))))))))))) :
  Calls Tryz.prog 14 #[Value.pointer (some ⟨arg0, arg0o, none⟩), Value.int .u32 arg1, Value.bool arg2] W Q :=
  Sx.sound Tryz.func14 (.node [] [] 0 .leaf (.node [] [] 0 (.node [] [] 0 .leaf (.node [] [] 0 (.node [] [] 0 (.node [] [] 10 .leaf .leaf) .leaf) .leaf)) (.node [] [] 0 .leaf (.node [] [] 0 .leaf (.node [] [] 0 .leaf (.node [] [] 0 .leaf (.node [] [] 0 .leaf (.node [] [] 0 .leaf (.node [] [] 0 (.node [] [] 0 .leaf (.node [] [] 0 (.node [(78, .bool)] [0, 7, 10, 11, 8, 6, 77, 1, 2] 1 .leaf (.node [] [] 0 (.node [] [] 0 .leaf (.node [] [] 0 (.node [] [] 1011 .leaf .leaf) .leaf)) (.node [] [] 0 .leaf (.node [] [] 0 (.node [] [] 0 .leaf (.node [] [] 0 .leaf (.node [] [] 0 (.node [] [] 1011 .leaf .leaf) .leaf))) (.node [] [] 0 .leaf (.node [] [] 0 (.node [] [] 0 .leaf (.node [] [] 0 .leaf (.node [(15, .int .u32)] [0, 8, 7, 6] 1 .leaf .leaf))) .leaf)))))) .leaf)) .leaf))))))))) [Value.pointer (some ⟨arg0, arg0o, none⟩), Value.int .u32 arg1, Value.bool arg2] rfl (Eq.mp (by kernel_rfl) hVC)
theorem vc28 {W : World} {Q : Ending → World → Prop} (code : Option Addr) (coden : Nat) (codec : Nat) (data : Int)
  (hVC :
    Sx.split (decide ((↑coden : Int) ≥ 1))
     (Sx.split (decide ((↑coden : Int) ≤ 4096))
       (Sx.split (decide (data ≥ 0))
         (Sx.split (decide (data ≤ 4096))
           (((16 : Int) ≠ (0 : Int) ∧
            (∀ z : Int, (z = Int.tmod data 16 →
            Q (Ending.returned (Value.bool (z == 0))) W))))
           (Q (Ending.returned (Value.bool false)) W))
         (Q (Ending.returned (Value.bool false)) W))
       (Q (Ending.returned (Value.bool false)) W))
     (Q (Ending.returned (Value.bool false)) W)) :
  Calls Tryz.prog 28 #[Value.slice code coden codec, Value.int .i64 data] W Q :=
  Sx.sound Tryz.func28 .leaf [Value.slice code coden codec, Value.int .i64 data] rfl (Eq.mp (by kernel_rfl) hVC)
theorem vc36 {W : World} {Q : Ending → World → Prop} (h : Nat) (ho : Nat)
  (hVC :
    (∀ k : Nat, (∀ W2 : World, (k = Array.size (World.heap W) →
    (W2 = World.alloc W (Obj.cells #[Value.int IntKind.i64 0, Value.int IntKind.i64 0, Value.int IntKind.i64 0, Value.int IntKind.i64 0, Value.int IntKind.i64 0] 92) →
    (∃ z : Int, (World.cell? W2 (Addr.mk h (ho + 3) none) = some (Value.int IntKind.u32 z) ∧
    ((4 : Int) ≠ (0 : Int) ∧
    (∀ z2 : Int, (z2 = IntKind.wrap IntKind.u32 (Int.tdiv z 4) →
    (∀ z3 : Int, (z3 = IntKind.wrap IntKind.i64 z2 →
    (∃ p : Option Addr, (∃ k2 : Nat, (∃ k3 : Nat, (World.cell? W2 (Addr.mk h ho none) = some (Value.slice p k2 k3) ∧
    Sx.split (decide (z3 ≥ (↑k2 : Int)))
     ((∀ vs : Array Value, (vs = #[Value.int IntKind.i64 0, Value.int IntKind.i64 0, Value.int IntKind.i64 0, Value.int IntKind.i64 0, Value.int IntKind.i64 0] →
      (Array.size vs = 5 ∧
      ((∀ k4 : Nat, (k4 < 5 →
       ((∃ v : Value, World.cell? W2 (Addr.mk k (0 + k4) none) = some v) ∧
       World.frozen? W2 (Addr.mk k (0 + k4) none) = false))) ∧
      ((∀ v2 : Value, (v2 ∈ Array.toList vs →
       Value.oneCell' v2 = true)) ∧
      (∀ W3 : World, (W3 = World.setCells W2 k 0 (Array.toList vs) →
      (∃ vs2 : Array Value, (Array.size vs2 = 5 ∧
      (Sx.cellsAt W3 (Addr.mk k 0 none) vs2 ∧
      Q (Ending.returned (Value.tuple #[Value.agg vs2, Value.int IntKind.u32 0, Value.bool false])) W3)))))))))))
     ((∃ p2 : Option Addr, (∃ k5 : Nat, (∃ k6 : Nat, (World.cell? W2 (Addr.mk h ho none) = some (Value.slice p2 k5 k6) ∧
      (((0 : Int) ≤ z3 ∧
       z3 < (↑k5 : Int)) ∧
      Sx.adr p2 (fun k7 =>
       (fun k8 =>
       (∃ z4 : Int, (World.cell? W2 (Addr.mk k7 (k8 + Int.toNat z3 * 1) none) = some (Value.int IntKind.u32 z4) ∧
       Calls Tryz.prog 80 #[Value.int IntKind.u32 z4] W2 (fun e =>
        (fun W4 =>
        (∃ vs3 : Array Value, (∃ t : Bool, (e = Ending.returned (Value.tuple #[Value.agg vs3, Value.bool t]) ∧
        (∀ k9 : Nat, (∀ W5 : World, (k9 = Array.size (World.heap W4) →
        (W5 = World.alloc W4 (Obj.cells #[Value.int IntKind.i64 0, Value.int IntKind.i64 0, Value.int IntKind.i64 0, Value.int IntKind.i64 0, Value.int IntKind.i64 0] 92) →
        (Array.size vs3 = 5 ∧
        ((∀ k10 : Nat, (k10 < 5 →
         ((∃ v3 : Value, World.cell? W5 (Addr.mk k9 (0 + k10) none) = some v3) ∧
         World.frozen? W5 (Addr.mk k9 (0 + k10) none) = false))) ∧
        ((∀ v4 : Value, (v4 ∈ Array.toList vs3 →
         Value.oneCell' v4 = true)) ∧
        (∀ W6 : World, (W6 = World.setCells W5 k9 0 (Array.toList vs3) →
        (∀ W7 : World, (W7 = World.drew W6 →
        (∃ vs4 : Array Value, (Array.size vs4 = 5 ∧
        (Sx.cellsAt W7 (Addr.mk k9 0 none) vs4 ∧
        ((∃ p3 : Option Addr, (∃ k11 : Nat, (∃ k12 : Nat, (World.cell? W7 (Addr.mk h ho none) = some (Value.slice p3 k11 k12) ∧
         (RowKit.Below (Array.size (World.heap W7)) W7 W7 ∧
         (((0 : Int) ≤ z3 ∧
          z3 < (↑k11 : Int)) ∧
         Sx.adr p3 (fun k13 =>
          (fun k14 =>
          ((∃ z5 : Int, (World.cell? W7 (Addr.mk k13 (k14 + Int.toNat z3 * 1) none) = some (Value.int IntKind.u32 z5) ∧
           (RowKit.Below (Array.size (World.heap W7)) W7 W7 ∧
           (Array.size vs4 = 5 ∧
           ((∀ k15 : Nat, (k15 < 5 →
            ((∃ v5 : Value, World.cell? W7 (Addr.mk k (0 + k15) none) = some v5) ∧
            World.frozen? W7 (Addr.mk k (0 + k15) none) = false))) ∧
           ((∀ v6 : Value, (v6 ∈ Array.toList vs4 →
            Value.oneCell' v6 = true)) ∧
           (∀ W8 : World, (W8 = World.setCells W7 k 0 (Array.toList vs4) →
           (∃ vs5 : Array Value, (Array.size vs5 = 5 ∧
           (Sx.cellsAt W8 (Addr.mk k 0 none) vs5 ∧
           Q (Ending.returned (Value.tuple #[Value.agg vs5, Value.int IntKind.u32 z5, Value.bool t])) W8))))))))))) ∧
          (Array.size vs4 = 5 ∧
          ((∀ k16 : Nat, (k16 < 5 →
           ((∃ v7 : Value, World.cell? W7 (Addr.mk k (0 + k16) none) = some v7) ∧
           World.frozen? W7 (Addr.mk k (0 + k16) none) = false))) ∧
          ((∀ v8 : Value, (v8 ∈ Array.toList vs4 →
           Value.oneCell' v8 = true)) ∧
          (∀ W9 : World, (W9 = World.setCells W7 k 0 (Array.toList vs4) →
          (∃ z6 : Int, (World.cell? W9 (Addr.mk k13 (k14 + Int.toNat z3 * 1) none) = some (Value.int IntKind.u32 z6) ∧
          (∃ vs6 : Array Value, (Array.size vs6 = 5 ∧
          (Sx.cellsAt W9 (Addr.mk k 0 none) vs6 ∧
          Q (Ending.returned (Value.tuple #[Value.agg vs6, Value.int IntKind.u32 z6, Value.bool t])) W9))))))))))))))))))) ∧
        (Array.size vs4 = 5 ∧
        ((∀ k17 : Nat, (k17 < 5 →
         ((∃ v9 : Value, World.cell? W7 (Addr.mk k (0 + k17) none) = some v9) ∧
         World.frozen? W7 (Addr.mk k (0 + k17) none) = false))) ∧
        ((∀ v10 : Value, (v10 ∈ Array.toList vs4 →
         Value.oneCell' v10 = true)) ∧
        (∀ W10 : World, (W10 = World.setCells W7 k 0 (Array.toList vs4) →
        (∃ p4 : Option Addr, (∃ k18 : Nat, (∃ k19 : Nat, (World.cell? W10 (Addr.mk h ho none) = some (Value.slice p4 k18 k19) ∧
        (((0 : Int) ≤ z3 ∧
         z3 < (↑k18 : Int)) ∧
        Sx.adr p4 (fun k20 =>
         (fun k21 =>
         (∃ z7 : Int, (World.cell? W10 (Addr.mk k20 (k21 + Int.toNat z3 * 1) none) = some (Value.int IntKind.u32 z7) ∧
         (∃ vs7 : Array Value, (Array.size vs7 = 5 ∧
         (Sx.cellsAt W10 (Addr.mk k 0 none) vs7 ∧
         Q (Ending.returned (Value.tuple #[Value.agg vs7, Value.int IntKind.u32 z7, Value.bool t])) W10))))))))))))))))))))))))))))))))))))))))))))))))))))))))))))))) :
  Calls Tryz.prog 36 #[Value.pointer (some ⟨h, ho, none⟩)] W Q :=
  Sx.sound Tryz.func36 (.node [] [] 0 .leaf (.node [] [] 0 .leaf (.node [] [] 0 .leaf (.node [] [] 0 .leaf (.node [] [] 0 (.node [] [] 1010 .leaf .leaf) .leaf))))) [Value.pointer (some ⟨h, ho, none⟩)] rfl (Eq.mp (by kernel_rfl) hVC)
theorem vc38 {W : World} {Q : Ending → World → Prop} (h : Nat) (ho : Nat) (i : Array Value)
  (hVC :
    (∀ k : Nat, (∀ W2 : World, (k = Array.size (World.heap W) →
    (W2 = World.alloc W (Obj.cells (Value.cells (Value.agg i)) 92) →
    (∃ z : Int, (World.cell? W2 (Addr.mk k 0 none) = some (Value.int IntKind.i64 z) ∧
    Calls Tryz.prog 40 #[Value.int IntKind.i64 z] W2 (fun e =>
     (fun W3 =>
     (∃ z2 : Int, (e = Ending.returned (Value.int IntKind.i64 z2) ∧
     Sx.split (z2 == 6)
      ((∃ z3 : Int, (World.cell? W3 (Addr.mk k (0 + 2) none) = some (Value.int IntKind.i64 z3) ∧
       (((0 : Int) ≤ z3 ∧
        z3 < (↑32 : Int)) ∧
       (∃ z4 : Int, (World.cell? W3 (Addr.mk h (ho + 4 + Int.toNat z3 * 1) none) = some (Value.int IntKind.u32 z4) ∧
       (∀ W4 : World, (∀ k2 : Nat, (W4 = World.drewN W3 k2 →
       Q (Ending.returned (Value.int IntKind.u32 z4)) W4)))))))))
      ((∃ z5 : Int, (World.cell? W3 (Addr.mk k (0 + 2) none) = some (Value.int IntKind.i64 z5) ∧
       (((0 : Int) ≤ z5 ∧
        z5 < (↑32 : Int)) ∧
       (∃ z6 : Int, (World.cell? W3 (Addr.mk h (ho + 4 + Int.toNat z5 * 1) none) = some (Value.int IntKind.u32 z6) ∧
       (∃ z7 : Int, (World.cell? W3 (Addr.mk k (0 + 4) none) = some (Value.int IntKind.i64 z7) ∧
       (∀ z8 : Int, (z8 = IntKind.wrap IntKind.u32 z7 →
       (∀ z9 : Int, (z9 = IntKind.wrap IntKind.u32 (z6 + z8) →
       (∀ W5 : World, (∀ k3 : Nat, (W5 = World.drewN W3 k3 →
       Q (Ending.returned (Value.int IntKind.u32 z9)) W5)))))))))))))))))))))))))) :
  Calls Tryz.prog 38 #[Value.pointer (some ⟨h, ho, none⟩), Value.agg i] W Q :=
  Sx.sound Tryz.func38 .leaf [Value.pointer (some ⟨h, ho, none⟩), Value.agg i] rfl (Eq.mp (by kernel_rfl) hVC)
theorem vc39 {W : World} {Q : Ending → World → Prop} (arg0 : Nat) (arg0o : Nat) (arg1 : Int) (arg2 : Int)
  (hVC :
    Calls Tryz.prog 37 #[Value.int IntKind.i64 arg1] W (fun e =>
     (fun W2 =>
     (∃ z : Int, (e = Ending.returned (Value.int IntKind.i64 z) ∧
     Calls Tryz.prog 40 #[Value.int IntKind.i64 arg1] W2 (fun e2 =>
      (fun W3 =>
      (∃ z2 : Int, (e2 = Ending.returned (Value.int IntKind.i64 z2) ∧
      Calls Tryz.prog 57 #[] W3 (fun e3 =>
       (fun W4 =>
       (∃ p : Option Addr, (∃ k : Nat, (∃ k2 : Nat, (e3 = Ending.returned (Value.slice p k k2) ∧
       (∃ I : Bool → World → Prop, (Sx.split (z2 == 4)
         (I true W4)
         ((∀ z3 : Int, (z3 = IntKind.wrap IntKind.i64 (arg1 - 1) →
          (((0 : Int) ≤ z3 ∧
           z3 < (↑k : Int)) ∧
          Sx.adr p (fun k3 =>
           (fun k4 =>
           (∃ s : ByteArray, (World.cell? W4 (Addr.mk k3 (k4 + Int.toNat z3 * 5) none) = some (Value.string s) ∧
           I (ByteArray.toList s == ByteArray.toList (ByteArray.mk #[108, 114, 46, 119])) W4)))))))) ∧
       ((Nat →
       Value) →
       (∀ x : Bool, (∀ W5 : World, (I x W5 →
       (∃ I2 : Bool → World → Prop, ((∀ z4 : Int, (z4 = IntKind.wrap IntKind.i64 arg2 →
        Sx.split (decide (z4 ≥ 65536))
         ((∀ z5 : Int, (z5 = IntKind.wrap IntKind.i64 arg2 →
          (∀ z6 : Int, (z6 = IntKind.wrap IntKind.i64 (z5 + z) →
          (∃ z7 : Int, (World.cell? W5 (Addr.mk arg0 (arg0o + 1) none) = some (Value.int IntKind.i64 z7) ∧
          (∀ z8 : Int, (z8 = IntKind.wrap IntKind.i64 (65536 + z7) →
          I2 (decide (z6 ≤ z8)) W5)))))))))
         (I2 false W5))) ∧
       ((Nat →
       Value) →
       (∀ x2 : Bool, (∀ W6 : World, (I2 x2 W6 →
       (∃ I3 : Bool → World → Prop, (Sx.split (z2 == 5)
         ((∀ z9 : Int, (z9 = IntKind.wrap IntKind.i64 arg2 →
          Sx.split (decide (z9 ≥ 131072))
           ((∀ z10 : Int, (z10 = IntKind.wrap IntKind.i64 arg2 →
            (∀ z11 : Int, (z11 = IntKind.wrap IntKind.i64 (z10 + z) →
            I3 (decide (z11 ≤ 131076)) W6)))))
           (I3 false W6))))
         (I3 false W6) ∧
       ((Nat →
       Value) →
       (∀ x3 : Bool, (∀ W7 : World, (I3 x3 W7 →
       (∀ z12 : Int, (z12 = IntKind.wrap IntKind.i64 arg2 →
       (z ≠ 0 ∧
       (∀ z13 : Int, (z13 = Int.tmod z12 z →
       Sx.split (z13 != 0)
        (Sx.split x
          (Q (Ending.returned (Value.int IntKind.i64 4)) W7)
          ((∀ z14 : Int, (z14 = IntKind.wrap IntKind.i64 arg2 →
           (z ≠ 0 ∧
           (∀ z15 : Int, (z15 = Int.tmod z14 z →
           Sx.split (z15 != 0)
            (Q (Ending.returned (Value.int IntKind.i64 6)) W7)
            (Sx.split (!x2)
              (Sx.split (!x3)
                (Sx.split x
                  (Q (Ending.returned (Value.int IntKind.i64 5)) W7)
                  (Sx.split (!x2)
                    (Sx.split (!x3)
                      (Q (Ending.returned (Value.int IntKind.i64 7)) W7)
                      (Q (Ending.returned (Value.int IntKind.i64 (-1))) W7))
                    (Q (Ending.returned (Value.int IntKind.i64 (-1))) W7)))
                (Sx.split (!x2)
                  (Sx.split (!x3)
                    (Q (Ending.returned (Value.int IntKind.i64 7)) W7)
                    (Q (Ending.returned (Value.int IntKind.i64 (-1))) W7))
                  (Q (Ending.returned (Value.int IntKind.i64 (-1))) W7)))
              (Sx.split (!x2)
                (Sx.split (!x3)
                  (Q (Ending.returned (Value.int IntKind.i64 7)) W7)
                  (Q (Ending.returned (Value.int IntKind.i64 (-1))) W7))
                (Q (Ending.returned (Value.int IntKind.i64 (-1))) W7))))))))))
        ((∀ z16 : Int, (z16 = IntKind.wrap IntKind.i64 arg2 →
         (z ≠ 0 ∧
         (∀ z17 : Int, (z17 = Int.tmod z16 z →
         Sx.split (z17 != 0)
          (Q (Ending.returned (Value.int IntKind.i64 6)) W7)
          (Sx.split (!x2)
            (Sx.split (!x3)
              (Sx.split x
                (Q (Ending.returned (Value.int IntKind.i64 5)) W7)
                (Sx.split (!x2)
                  (Sx.split (!x3)
                    (Q (Ending.returned (Value.int IntKind.i64 7)) W7)
                    (Q (Ending.returned (Value.int IntKind.i64 (-1))) W7))
                  (Q (Ending.returned (Value.int IntKind.i64 (-1))) W7)))
              (Sx.split (!x2)
                (Sx.split (!x3)
                  (Q (Ending.returned (Value.int IntKind.i64 7)) W7)
                  (Q (Ending.returned (Value.int IntKind.i64 (-1))) W7))
                (Q (Ending.returned (Value.int IntKind.i64 (-1))) W7)))
            (Sx.split (!x2)
              (Sx.split (!x3)
                (Q (Ending.returned (Value.int IntKind.i64 7)) W7)
                (Q (Ending.returned (Value.int IntKind.i64 (-1))) W7))
              (Q (Ending.returned (Value.int IntKind.i64 (-1))) W7))))))))))))))))))))))))))))))))))))))))))))))) :
  Calls Tryz.prog 39 #[Value.pointer (some ⟨arg0, arg0o, none⟩), Value.int .i64 arg1, Value.int .u32 arg2] W Q :=
  Sx.sound Tryz.func39 (.node [] [] 0 .leaf (.node [] [] 0 .leaf (.node [] [] 0 .leaf (.node [] [] 0 .leaf (.node [(10, .bool)] [2, 7, 0, 8] 1 .leaf (.node [(11, .bool)] [8, 2, 7, 10] 1 .leaf (.node [(12, .bool)] [2, 7, 10, 11] 1 .leaf .leaf))))))) [Value.pointer (some ⟨arg0, arg0o, none⟩), Value.int .i64 arg1, Value.int .u32 arg2] rfl (Eq.mp (by kernel_rfl) hVC)
theorem vc43 {W : World} {Q : Ending → World → Prop} (arg0 : Nat) (arg0o : Nat) (arg1 : Int) (arg2 : Int) (arg3 : Int)
  (hVC :
    (∀ k : Nat, (∀ W2 : World, (k = Array.size (World.heap W) →
    (W2 = World.alloc W (Obj.cells #[Value.int IntKind.u32 0, Value.int IntKind.u32 0, Value.int IntKind.i64 0, Value.int IntKind.u32 0, Value.int IntKind.i64 0, Value.int IntKind.u32 0, Value.int IntKind.u32 0] 46) →
    (∀ W3 : World, (W3 = World.drew W2 →
    (∃ z : Int, (World.cell? W3 (Addr.mk arg0 (arg0o + 3) none) = some (Value.int IntKind.u32 z) ∧
    (∃ z2 : Int, (World.cell? W3 (Addr.mk arg0 (arg0o + 40) none) = some (Value.int IntKind.u32 z2) ∧
    (∀ vs : Array Value, (vs = #[Value.int IntKind.u32 z, Value.int IntKind.u32 arg1, Value.int IntKind.i64 0, Value.int IntKind.u32 0, Value.int IntKind.i64 arg2, Value.int IntKind.u32 arg3, Value.int IntKind.u32 z2] →
    (∀ k2 : Nat, (∀ W4 : World, (k2 = Array.size (World.heap W3) →
    (W4 = World.alloc W3 (Obj.cells #[Value.int IntKind.u32 0, Value.int IntKind.u32 0, Value.int IntKind.i64 0, Value.int IntKind.u32 0, Value.int IntKind.i64 0, Value.int IntKind.u32 0, Value.int IntKind.u32 0] 46) →
    (RowKit.Below (Array.size (World.heap W3)) W3 W4 ∧
    (Array.size vs = 7 ∧
    ((∀ k3 : Nat, (k3 < 7 →
     ((∃ v : Value, World.cell? W4 (Addr.mk k2 (0 + k3) none) = some v) ∧
     World.frozen? W4 (Addr.mk k2 (0 + k3) none) = false))) ∧
    ((∀ v2 : Value, (v2 ∈ Array.toList vs →
     Value.oneCell' v2 = true)) ∧
    (∀ W5 : World, (W5 = World.setCells W4 k2 0 (Array.toList vs) →
    (∃ z3 : Int, (World.cell? W5 (Addr.mk arg0 (arg0o + 40) none) = some (Value.int IntKind.u32 z3) ∧
    Sx.split (z3 == 0)
     (((∃ v3 : Value, World.cell? W5 (Addr.mk arg0 (arg0o + 36) none) = some v3) ∧
      (World.frozen? W5 (Addr.mk arg0 (arg0o + 36) none) = false ∧
      (∀ W6 : World, (W6 = World.setCell W5 (Addr.mk arg0 (arg0o + 36) none) (Value.bool true) →
      (∃ z4 : Int, (World.cell? W6 (Addr.mk arg0 (arg0o + 3) none) = some (Value.int IntKind.u32 z4) ∧
      ((∃ v4 : Value, World.cell? W6 (Addr.mk k2 (0 + 6) none) = some v4) ∧
      (World.frozen? W6 (Addr.mk k2 (0 + 6) none) = false ∧
      (∀ W7 : World, (W7 = World.setCell W6 (Addr.mk k2 (0 + 6) none) (Value.int IntKind.u32 z4) →
      (∃ vs2 : Array Value, (Array.size vs2 = 7 ∧
      (Sx.cellsAt W7 (Addr.mk k2 0 none) vs2 ∧
      (Array.size vs2 = 7 ∧
      ((∀ k4 : Nat, (k4 < 7 →
       ((∃ v5 : Value, World.cell? W7 (Addr.mk k (0 + k4) none) = some v5) ∧
       World.frozen? W7 (Addr.mk k (0 + k4) none) = false))) ∧
      ((∀ v6 : Value, (v6 ∈ Array.toList vs2 →
       Value.oneCell' v6 = true)) ∧
      (∀ W8 : World, (W8 = World.setCells W7 k 0 (Array.toList vs2) →
      (∃ vs3 : Array Value, (Array.size vs3 = 7 ∧
      (Sx.cellsAt W8 (Addr.mk k 0 none) vs3 ∧
      Q (Ending.returned (Value.agg vs3)) W8))))))))))))))))))))))
     ((∃ z5 : Int, (World.cell? W5 (Addr.mk arg0 (arg0o + 3) none) = some (Value.int IntKind.u32 z5) ∧
      ((∃ v7 : Value, World.cell? W5 (Addr.mk arg0 (arg0o + 42) none) = some v7) ∧
      (World.frozen? W5 (Addr.mk arg0 (arg0o + 42) none) = false ∧
      (∀ W9 : World, (W9 = World.setCell W5 (Addr.mk arg0 (arg0o + 42) none) (Value.int IntKind.u32 z5) →
      (∀ z6 : Int, (z6 = IntKind.wrap IntKind.u32 arg2 →
      ((∃ v8 : Value, World.cell? W9 (Addr.mk arg0 (arg0o + 43) none) = some v8) ∧
      (World.frozen? W9 (Addr.mk arg0 (arg0o + 43) none) = false ∧
      (∀ W10 : World, (W10 = World.setCell W9 (Addr.mk arg0 (arg0o + 43) none) (Value.int IntKind.u32 z6) →
      ((∃ v9 : Value, World.cell? W10 (Addr.mk arg0 (arg0o + 44) none) = some v9) ∧
      (World.frozen? W10 (Addr.mk arg0 (arg0o + 44) none) = false ∧
      (∀ W11 : World, (W11 = World.setCell W10 (Addr.mk arg0 (arg0o + 44) none) (Value.int IntKind.u32 arg3) →
      (∃ z7 : Int, (World.cell? W11 (Addr.mk arg0 (arg0o + 38) none) = some (Value.int IntKind.u32 z7) ∧
      (∀ z8 : Int, (z8 = IntKind.wrap IntKind.u32 (↑(BitVec.toNat (BitVec.ofInt (IntKind.bits IntKind.u32) z7 &&& BitVec.ofInt (IntKind.bits IntKind.u32) 8)) : Int) →
      ((0 : Int) ≤ (4 : Int) ∧
      (∀ z9 : Int, (z9 = IntKind.wrap IntKind.u32 (z8 * 2 ^ min 4 (IntKind.bits IntKind.u32)) →
      ((∃ v10 : Value, World.cell? W11 (Addr.mk arg0 (arg0o + 38) none) = some v10) ∧
      (World.frozen? W11 (Addr.mk arg0 (arg0o + 38) none) = false ∧
      (∀ W12 : World, (W12 = World.setCell W11 (Addr.mk arg0 (arg0o + 38) none) (Value.int IntKind.u32 z9) →
      (∃ z10 : Int, (World.cell? W12 (Addr.mk arg0 (arg0o + 40) none) = some (Value.int IntKind.u32 z10) ∧
      ((∃ v11 : Value, World.cell? W12 (Addr.mk arg0 (arg0o + 3) none) = some v11) ∧
      (World.frozen? W12 (Addr.mk arg0 (arg0o + 3) none) = false ∧
      (∀ W13 : World, (W13 = World.setCell W12 (Addr.mk arg0 (arg0o + 3) none) (Value.int IntKind.u32 z10) →
      (∃ vs4 : Array Value, (Array.size vs4 = 7 ∧
      (Sx.cellsAt W13 (Addr.mk k2 0 none) vs4 ∧
      (Array.size vs4 = 7 ∧
      ((∀ k5 : Nat, (k5 < 7 →
       ((∃ v12 : Value, World.cell? W13 (Addr.mk k (0 + k5) none) = some v12) ∧
       World.frozen? W13 (Addr.mk k (0 + k5) none) = false))) ∧
      ((∀ v13 : Value, (v13 ∈ Array.toList vs4 →
       Value.oneCell' v13 = true)) ∧
      (∀ W14 : World, (W14 = World.setCells W13 k 0 (Array.toList vs4) →
      (∃ vs5 : Array Value, (Array.size vs5 = 7 ∧
      (Sx.cellsAt W14 (Addr.mk k 0 none) vs5 ∧
      Q (Ending.returned (Value.agg vs5)) W14)))))))))))))))))))))))))))))))))))))))))))))))))))))))))))))))))))))) :
  Calls Tryz.prog 43 #[Value.pointer (some ⟨arg0, arg0o, none⟩), Value.int .u32 arg1, Value.int .i64 arg2, Value.int .u32 arg3] W Q :=
  Sx.sound Tryz.func43 (.node [] [] 0 .leaf (.node [] [] 0 (.node [] [] 1014 .leaf .leaf) .leaf)) [Value.pointer (some ⟨arg0, arg0o, none⟩), Value.int .u32 arg1, Value.int .i64 arg2, Value.int .u32 arg3] rfl (Eq.mp (by kernel_rfl) hVC)
theorem vc53 {W : World} {Q : Ending → World → Prop} (h : Nat) (ho : Nat) (i : Array Value) (a : Int) (b : Int)
  (hVC :
    (∀ k : Nat, (∀ W2 : World, (k = Array.size (World.heap W) →
    (W2 = World.alloc W (Obj.cells (Value.cells (Value.agg i)) 92) →
    Calls Tryz.prog 57 #[] W2 (fun e =>
     (fun W3 =>
     (∃ p : Option Addr, (∃ k2 : Nat, (∃ k3 : Nat, (e = Ending.returned (Value.slice p k2 k3) ∧
     (∃ z : Int, (World.cell? W3 (Addr.mk k 0 none) = some (Value.int IntKind.i64 z) ∧
     (∀ z2 : Int, (z2 = IntKind.wrap IntKind.i64 (z - 1) →
     (((0 : Int) ≤ z2 ∧
      z2 < (↑k2 : Int)) ∧
     Sx.adr p (fun k4 =>
      (fun k5 =>
      (∃ z3 : Int, (World.cell? W3 (Addr.mk k4 (k5 + Int.toNat z2 * 5 + 1) none) = some (Value.int IntKind.u8 z3) ∧
      Sx.split (z3 == 85)
       ((∃ z4 : Int, (World.cell? W3 (Addr.mk h (ho + 3) none) = some (Value.int IntKind.u32 z4) ∧
        (∃ z5 : Int, (World.cell? W3 (Addr.mk k (0 + 4) none) = some (Value.int IntKind.i64 z5) ∧
        (∀ z6 : Int, (z6 = IntKind.wrap IntKind.u32 z5 →
        (∃ z7 : Int, (World.cell? W3 (Addr.mk k 0 none) = some (Value.int IntKind.i64 z7) ∧
        Calls Tryz.prog 87 #[Value.int IntKind.i64 z7, Value.int IntKind.u32 z4, Value.int IntKind.u32 z6] W3 (fun e2 =>
         (fun W4 =>
         (∃ z8 : Int, (e2 = Ending.returned (Value.int IntKind.u32 z8) ∧
         Q (Ending.returned (Value.int IntKind.u32 z8)) W4)))))))))))))
       (Sx.split (z3 == 73)
         ((∃ z9 : Int, (World.cell? W3 (Addr.mk k (0 + 4) none) = some (Value.int IntKind.i64 z9) ∧
          (∀ z10 : Int, (z10 = IntKind.wrap IntKind.u32 z9 →
          (∃ z11 : Int, (World.cell? W3 (Addr.mk k 0 none) = some (Value.int IntKind.i64 z11) ∧
          Calls Tryz.prog 87 #[Value.int IntKind.i64 z11, Value.int IntKind.u32 a, Value.int IntKind.u32 z10] W3 (fun e3 =>
           (fun W5 =>
           (∃ z12 : Int, (e3 = Ending.returned (Value.int IntKind.u32 z12) ∧
           Q (Ending.returned (Value.int IntKind.u32 z12)) W5)))))))))))
         (Sx.split (z3 == 72)
           ((∃ z13 : Int, (World.cell? W3 (Addr.mk k (0 + 4) none) = some (Value.int IntKind.i64 z13) ∧
            (∀ z14 : Int, (z14 = IntKind.wrap IntKind.u32 z13 →
            (∃ z15 : Int, (World.cell? W3 (Addr.mk k 0 none) = some (Value.int IntKind.i64 z15) ∧
            Calls Tryz.prog 87 #[Value.int IntKind.i64 z15, Value.int IntKind.u32 a, Value.int IntKind.u32 z14] W3 (fun e4 =>
             (fun W6 =>
             (∃ z16 : Int, (e4 = Ending.returned (Value.int IntKind.u32 z16) ∧
             Q (Ending.returned (Value.int IntKind.u32 z16)) W6)))))))))))
           ((∃ z17 : Int, (World.cell? W3 (Addr.mk k 0 none) = some (Value.int IntKind.i64 z17) ∧
            Calls Tryz.prog 87 #[Value.int IntKind.i64 z17, Value.int IntKind.u32 a, Value.int IntKind.u32 b] W3 (fun e5 =>
             (fun W7 =>
             (∃ z18 : Int, (e5 = Ending.returned (Value.int IntKind.u32 z18) ∧
             Q (Ending.returned (Value.int IntKind.u32 z18)) W7))))))))))))))))))))))))))))) :
  Calls Tryz.prog 53 #[Value.pointer (some ⟨h, ho, none⟩), Value.agg i, Value.int .u32 a, Value.int .u32 b] W Q :=
  Sx.sound Tryz.func53 .leaf [Value.pointer (some ⟨h, ho, none⟩), Value.agg i, Value.int .u32 a, Value.int .u32 b] rfl (Eq.mp (by kernel_rfl) hVC)
theorem vc54 {W : World} {Q : Ending → World → Prop} (h : Nat) (ho : Nat) (word : Int) (rd : Int) (v : Int) (next : Int)
  (hVC :
    (∀ k : Nat, (∀ W2 : World, (k = Array.size (World.heap W) →
    (W2 = World.alloc W (Obj.cells #[Value.int IntKind.u32 0, Value.int IntKind.u32 0, Value.int IntKind.i64 0, Value.int IntKind.u32 0, Value.int IntKind.i64 0, Value.int IntKind.u32 0, Value.int IntKind.u32 0] 46) →
    Sx.split (rd == 0)
     ((∃ z : Int, (World.cell? W2 (Addr.mk h (ho + 3) none) = some (Value.int IntKind.u32 z) ∧
      (∀ vs : Array Value, (vs = #[Value.int IntKind.u32 z, Value.int IntKind.u32 word, Value.int IntKind.i64 rd, Value.int IntKind.u32 0, Value.int IntKind.i64 (-1), Value.int IntKind.u32 0, Value.int IntKind.u32 next] →
      (∀ k2 : Nat, (∀ W3 : World, (k2 = Array.size (World.heap W2) →
      (W3 = World.alloc W2 (Obj.cells #[Value.int IntKind.u32 0, Value.int IntKind.u32 0, Value.int IntKind.i64 0, Value.int IntKind.u32 0, Value.int IntKind.i64 0, Value.int IntKind.u32 0, Value.int IntKind.u32 0] 46) →
      (Array.size vs = 7 ∧
      ((∀ k3 : Nat, (k3 < 7 →
       ((∃ v2 : Value, World.cell? W3 (Addr.mk k2 (0 + k3) none) = some v2) ∧
       World.frozen? W3 (Addr.mk k2 (0 + k3) none) = false))) ∧
      ((∀ v3 : Value, (v3 ∈ Array.toList vs →
       Value.oneCell' v3 = true)) ∧
      (∀ W4 : World, (W4 = World.setCells W3 k2 0 (Array.toList vs) →
      (((0 : Int) ≤ rd ∧
       rd < (↑32 : Int)) ∧
      ((∃ v4 : Value, World.cell? W4 (Addr.mk h (ho + 4 + Int.toNat rd * 1) none) = some v4) ∧
      (World.frozen? W4 (Addr.mk h (ho + 4 + Int.toNat rd * 1) none) = false ∧
      (∀ W5 : World, (W5 = World.setCell W4 (Addr.mk h (ho + 4 + Int.toNat rd * 1) none) (Value.int IntKind.u32 0) →
      ((∃ v5 : Value, World.cell? W5 (Addr.mk h (ho + 3) none) = some v5) ∧
      (World.frozen? W5 (Addr.mk h (ho + 3) none) = false ∧
      (∀ W6 : World, (W6 = World.setCell W5 (Addr.mk h (ho + 3) none) (Value.int IntKind.u32 next) →
      (∃ z2 : Int, (World.cell? W6 (Addr.mk h (ho + 37) none) = some (Value.int IntKind.i64 z2) ∧
      (∀ z3 : Int, (z3 = IntKind.wrap IntKind.i64 (z2 + 1) →
      ((∃ v6 : Value, World.cell? W6 (Addr.mk h (ho + 37) none) = some v6) ∧
      (World.frozen? W6 (Addr.mk h (ho + 37) none) = false ∧
      (∀ W7 : World, (W7 = World.setCell W6 (Addr.mk h (ho + 37) none) (Value.int IntKind.i64 z3) →
      (∃ vs2 : Array Value, (Array.size vs2 = 7 ∧
      (Sx.cellsAt W7 (Addr.mk k2 0 none) vs2 ∧
      (Array.size vs2 = 7 ∧
      ((∀ k4 : Nat, (k4 < 7 →
       ((∃ v7 : Value, World.cell? W7 (Addr.mk k (0 + k4) none) = some v7) ∧
       World.frozen? W7 (Addr.mk k (0 + k4) none) = false))) ∧
      ((∀ v8 : Value, (v8 ∈ Array.toList vs2 →
       Value.oneCell' v8 = true)) ∧
      (∀ W8 : World, (W8 = World.setCells W7 k 0 (Array.toList vs2) →
      (∃ vs3 : Array Value, (Array.size vs3 = 7 ∧
      (Sx.cellsAt W8 (Addr.mk k 0 none) vs3 ∧
      Q (Ending.returned (Value.agg vs3)) W8))))))))))))))))))))))))))))))))))))))))))
     ((∃ z4 : Int, (World.cell? W2 (Addr.mk h (ho + 3) none) = some (Value.int IntKind.u32 z4) ∧
      (∀ vs4 : Array Value, (vs4 = #[Value.int IntKind.u32 z4, Value.int IntKind.u32 word, Value.int IntKind.i64 rd, Value.int IntKind.u32 v, Value.int IntKind.i64 (-1), Value.int IntKind.u32 0, Value.int IntKind.u32 next] →
      (∀ k5 : Nat, (∀ W9 : World, (k5 = Array.size (World.heap W2) →
      (W9 = World.alloc W2 (Obj.cells #[Value.int IntKind.u32 0, Value.int IntKind.u32 0, Value.int IntKind.i64 0, Value.int IntKind.u32 0, Value.int IntKind.i64 0, Value.int IntKind.u32 0, Value.int IntKind.u32 0] 46) →
      (Array.size vs4 = 7 ∧
      ((∀ k6 : Nat, (k6 < 7 →
       ((∃ v9 : Value, World.cell? W9 (Addr.mk k5 (0 + k6) none) = some v9) ∧
       World.frozen? W9 (Addr.mk k5 (0 + k6) none) = false))) ∧
      ((∀ v10 : Value, (v10 ∈ Array.toList vs4 →
       Value.oneCell' v10 = true)) ∧
      (∀ W10 : World, (W10 = World.setCells W9 k5 0 (Array.toList vs4) →
      (((0 : Int) ≤ rd ∧
       rd < (↑32 : Int)) ∧
      ((∃ v11 : Value, World.cell? W10 (Addr.mk h (ho + 4 + Int.toNat rd * 1) none) = some v11) ∧
      (World.frozen? W10 (Addr.mk h (ho + 4 + Int.toNat rd * 1) none) = false ∧
      (∀ W11 : World, (W11 = World.setCell W10 (Addr.mk h (ho + 4 + Int.toNat rd * 1) none) (Value.int IntKind.u32 v) →
      ((∃ v12 : Value, World.cell? W11 (Addr.mk h (ho + 3) none) = some v12) ∧
      (World.frozen? W11 (Addr.mk h (ho + 3) none) = false ∧
      (∀ W12 : World, (W12 = World.setCell W11 (Addr.mk h (ho + 3) none) (Value.int IntKind.u32 next) →
      (∃ z5 : Int, (World.cell? W12 (Addr.mk h (ho + 37) none) = some (Value.int IntKind.i64 z5) ∧
      (∀ z6 : Int, (z6 = IntKind.wrap IntKind.i64 (z5 + 1) →
      ((∃ v13 : Value, World.cell? W12 (Addr.mk h (ho + 37) none) = some v13) ∧
      (World.frozen? W12 (Addr.mk h (ho + 37) none) = false ∧
      (∀ W13 : World, (W13 = World.setCell W12 (Addr.mk h (ho + 37) none) (Value.int IntKind.i64 z6) →
      (∃ vs5 : Array Value, (Array.size vs5 = 7 ∧
      (Sx.cellsAt W13 (Addr.mk k5 0 none) vs5 ∧
      (Array.size vs5 = 7 ∧
      ((∀ k7 : Nat, (k7 < 7 →
       ((∃ v14 : Value, World.cell? W13 (Addr.mk k (0 + k7) none) = some v14) ∧
       World.frozen? W13 (Addr.mk k (0 + k7) none) = false))) ∧
      ((∀ v15 : Value, (v15 ∈ Array.toList vs5 →
       Value.oneCell' v15 = true)) ∧
      (∀ W14 : World, (W14 = World.setCells W13 k 0 (Array.toList vs5) →
      (∃ vs6 : Array Value, (Array.size vs6 = 7 ∧
      (Sx.cellsAt W14 (Addr.mk k 0 none) vs6 ∧
      Q (Ending.returned (Value.agg vs6)) W14))))))))))))))))))))))))))))))))))))))))))))))) :
  Calls Tryz.prog 54 #[Value.pointer (some ⟨h, ho, none⟩), Value.int .u32 word, Value.int .i64 rd, Value.int .u32 v, Value.int .u32 next] W Q :=
  Sx.sound Tryz.func54 .leaf [Value.pointer (some ⟨h, ho, none⟩), Value.int .u32 word, Value.int .i64 rd, Value.int .u32 v, Value.int .u32 next] rfl (Eq.mp (by kernel_rfl) hVC)
theorem vc56 {W : World} {Q : Ending → World → Prop} (h : Nat) (ho : Nat) (word : Int) (rd : Int) (to : Int)
  (hVC :
    (∀ k : Nat, (∀ W2 : World, (k = Array.size (World.heap W) →
    (W2 = World.alloc W (Obj.cells #[Value.int IntKind.u32 0, Value.int IntKind.u32 0, Value.int IntKind.i64 0, Value.int IntKind.u32 0, Value.int IntKind.i64 0, Value.int IntKind.u32 0, Value.int IntKind.u32 0] 46) →
    ((4 : Int) ≠ (0 : Int) ∧
    (∀ z : Int, (z = Int.tmod to 4 →
    Sx.split (z != 0)
     (Calls Tryz.prog 43 #[Value.pointer (some (Addr.mk h ho none)), Value.int IntKind.u32 word, Value.int IntKind.i64 0, Value.int IntKind.u32 to] W2 (fun e =>
       (fun W3 =>
       (∃ vs : Array Value, (e = Ending.returned (Value.agg vs) ∧
       (Array.size vs = 7 ∧
       ((∀ k2 : Nat, (k2 < 7 →
        ((∃ v : Value, World.cell? W3 (Addr.mk k (0 + k2) none) = some v) ∧
        World.frozen? W3 (Addr.mk k (0 + k2) none) = false))) ∧
       ((∀ v2 : Value, (v2 ∈ Array.toList vs →
        Value.oneCell' v2 = true)) ∧
       (∀ W4 : World, (W4 = World.setCells W3 k 0 (Array.toList vs) →
       (∃ vs2 : Array Value, (Array.size vs2 = 7 ∧
       (Sx.cellsAt W4 (Addr.mk k 0 none) vs2 ∧
       Q (Ending.returned (Value.agg vs2)) W4)))))))))))))
     ((∃ z2 : Int, (World.cell? W2 (Addr.mk h (ho + 3) none) = some (Value.int IntKind.u32 z2) ∧
      (∀ z3 : Int, (z3 = IntKind.wrap IntKind.u32 (z2 + 4) →
      Calls Tryz.prog 54 #[Value.pointer (some (Addr.mk h ho none)), Value.int IntKind.u32 word, Value.int IntKind.i64 rd, Value.int IntKind.u32 z3, Value.int IntKind.u32 to] W2 (fun e2 =>
       (fun W5 =>
       (∃ vs3 : Array Value, (e2 = Ending.returned (Value.agg vs3) ∧
       (Array.size vs3 = 7 ∧
       ((∀ k3 : Nat, (k3 < 7 →
        ((∃ v3 : Value, World.cell? W5 (Addr.mk k (0 + k3) none) = some v3) ∧
        World.frozen? W5 (Addr.mk k (0 + k3) none) = false))) ∧
       ((∀ v4 : Value, (v4 ∈ Array.toList vs3 →
        Value.oneCell' v4 = true)) ∧
       (∀ W6 : World, (W6 = World.setCells W5 k 0 (Array.toList vs3) →
       (∃ vs4 : Array Value, (Array.size vs4 = 7 ∧
       (Sx.cellsAt W6 (Addr.mk k 0 none) vs4 ∧
       Q (Ending.returned (Value.agg vs4)) W6))))))))))))))))))))))))) :
  Calls Tryz.prog 56 #[Value.pointer (some ⟨h, ho, none⟩), Value.int .u32 word, Value.int .i64 rd, Value.int .u32 to] W Q :=
  Sx.sound Tryz.func56 .leaf [Value.pointer (some ⟨h, ho, none⟩), Value.int .u32 word, Value.int .i64 rd, Value.int .u32 to] rfl (Eq.mp (by kernel_rfl) hVC)
theorem vc58 {W : World} {Q : Ending → World → Prop} (arg0 : Nat) (arg0o : Nat) (arg1 : Array Value) (arg2 : Int) (arg3 : Int)
  (hVC :
    (∀ k : Nat, (∀ W2 : World, (k = Array.size (World.heap W) →
    (W2 = World.alloc W (Obj.cells (Value.cells (Value.agg arg1)) 92) →
    (∀ k2 : Nat, (∀ W3 : World, (k2 = Array.size (World.heap W2) →
    (W3 = World.alloc W2 (Obj.cells #[Value.int IntKind.u32 0, Value.int IntKind.u32 0, Value.int IntKind.i64 0, Value.int IntKind.u32 0, Value.int IntKind.i64 0, Value.int IntKind.u32 0, Value.int IntKind.u32 0] 46) →
    Calls Tryz.prog 57 #[] W3 (fun e =>
     (fun W4 =>
     (∃ p : Option Addr, (∃ k3 : Nat, (∃ k4 : Nat, (e = Ending.returned (Value.slice p k3 k4) ∧
     (∃ z : Int, (World.cell? W4 (Addr.mk k 0 none) = some (Value.int IntKind.i64 z) ∧
     (∀ z2 : Int, (z2 = IntKind.wrap IntKind.i64 (z - 1) →
     (((0 : Int) ≤ z2 ∧
      z2 < (↑k3 : Int)) ∧
     Sx.adr p (fun k5 =>
      (fun k6 =>
      (∃ vs : Array Value, (Array.size vs = 5 ∧
      (Sx.cellsAt W4 (Addr.mk k5 (k6 + Int.toNat z2 * 5) none) vs ∧
      (∀ k7 : Nat, (∀ W5 : World, (k7 = Array.size (World.heap W4) →
      (W5 = World.alloc W4 (Obj.cells #[Value.string (ByteArray.mk #[]), Value.int IntKind.u8 0, Value.int IntKind.i64 0, Value.int IntKind.i64 0, Value.int IntKind.i64 0] 116) →
      (Array.size vs = 5 ∧
      ((∀ k8 : Nat, (k8 < 5 →
       ((∃ v : Value, World.cell? W5 (Addr.mk k7 (0 + k8) none) = some v) ∧
       World.frozen? W5 (Addr.mk k7 (0 + k8) none) = false))) ∧
      ((∀ v2 : Value, (v2 ∈ Array.toList vs →
       Value.oneCell' v2 = true)) ∧
      (∀ W6 : World, (W6 = World.setCells W5 k7 0 (Array.toList vs) →
      (∃ I : World → Prop, ((∃ s : ByteArray, (World.cell? W6 (Addr.mk k7 0 none) = some (Value.string s) ∧
       Sx.split (ByteArray.toList s == ByteArray.toList (ByteArray.mk #[101, 99, 97, 108, 108]))
        (Calls Tryz.prog 43 #[Value.pointer (some (Addr.mk arg0 arg0o none)), Value.int IntKind.u32 arg2, Value.int IntKind.i64 11, Value.int IntKind.u32 0] W6 (fun e2 =>
          (fun W7 =>
          (∃ vs2 : Array Value, (e2 = Ending.returned (Value.agg vs2) ∧
          (Array.size vs2 = 7 ∧
          ((∀ k9 : Nat, (k9 < 7 →
           ((∃ v3 : Value, World.cell? W7 (Addr.mk k2 (0 + k9) none) = some v3) ∧
           World.frozen? W7 (Addr.mk k2 (0 + k9) none) = false))) ∧
          ((∀ v4 : Value, (v4 ∈ Array.toList vs2 →
           Value.oneCell' v4 = true)) ∧
          (∀ W8 : World, (W8 = World.setCells W7 k2 0 (Array.toList vs2) →
          (∃ vs3 : Array Value, (Array.size vs3 = 7 ∧
          (Sx.cellsAt W8 (Addr.mk k2 0 none) vs3 ∧
          Q (Ending.returned (Value.agg vs3)) W8)))))))))))))
        (Sx.split (ByteArray.toList s == ByteArray.toList (ByteArray.mk #[101, 98, 114, 101, 97, 107]))
          ((∃ z3 : Int, (World.cell? W6 (Addr.mk arg0 (arg0o + 3) none) = some (Value.int IntKind.u32 z3) ∧
           Calls Tryz.prog 43 #[Value.pointer (some (Addr.mk arg0 arg0o none)), Value.int IntKind.u32 arg2, Value.int IntKind.i64 3, Value.int IntKind.u32 z3] W6 (fun e3 =>
            (fun W9 =>
            (∃ vs4 : Array Value, (e3 = Ending.returned (Value.agg vs4) ∧
            (Array.size vs4 = 7 ∧
            ((∀ k10 : Nat, (k10 < 7 →
             ((∃ v5 : Value, World.cell? W9 (Addr.mk k2 (0 + k10) none) = some v5) ∧
             World.frozen? W9 (Addr.mk k2 (0 + k10) none) = false))) ∧
            ((∀ v6 : Value, (v6 ∈ Array.toList vs4 →
             Value.oneCell' v6 = true)) ∧
            (∀ W10 : World, (W10 = World.setCells W9 k2 0 (Array.toList vs4) →
            (∃ vs5 : Array Value, (Array.size vs5 = 7 ∧
            (Sx.cellsAt W10 (Addr.mk k2 0 none) vs5 ∧
            Q (Ending.returned (Value.agg vs5)) W10)))))))))))))))
          (Sx.split (ByteArray.toList s == ByteArray.toList (ByteArray.mk #[109, 114, 101, 116]))
            ((∃ z4 : Int, (World.cell? W6 (Addr.mk arg0 (arg0o + 38) none) = some (Value.int IntKind.u32 z4) ∧
             ((0 : Int) ≤ (4 : Int) ∧
             (∀ z5 : Int, (z5 = Int.fdiv z4 (2 ^ min 4 (IntKind.bits IntKind.u32)) →
             (∀ z6 : Int, (z6 = IntKind.wrap IntKind.u32 (↑(BitVec.toNat (BitVec.ofInt (IntKind.bits IntKind.u32) z5 &&& BitVec.ofInt (IntKind.bits IntKind.u32) 8)) : Int) →
             (∀ z7 : Int, (z7 = IntKind.wrap IntKind.u32 (↑(BitVec.toNat (BitVec.ofInt (IntKind.bits IntKind.u32) z6 ||| BitVec.ofInt (IntKind.bits IntKind.u32) 128)) : Int) →
             ((∃ v7 : Value, World.cell? W6 (Addr.mk arg0 (arg0o + 38) none) = some v7) ∧
             (World.frozen? W6 (Addr.mk arg0 (arg0o + 38) none) = false ∧
             (∀ W11 : World, (W11 = World.setCell W6 (Addr.mk arg0 (arg0o + 38) none) (Value.int IntKind.u32 z7) →
             (∃ z8 : Int, (World.cell? W11 (Addr.mk arg0 (arg0o + 42) none) = some (Value.int IntKind.u32 z8) ∧
             Calls Tryz.prog 54 #[Value.pointer (some (Addr.mk arg0 arg0o none)), Value.int IntKind.u32 arg2, Value.int IntKind.i64 0, Value.int IntKind.u32 0, Value.int IntKind.u32 z8] W11 (fun e4 =>
              (fun W12 =>
              (∃ vs6 : Array Value, (e4 = Ending.returned (Value.agg vs6) ∧
              (Array.size vs6 = 7 ∧
              ((∀ k11 : Nat, (k11 < 7 →
               ((∃ v8 : Value, World.cell? W12 (Addr.mk k2 (0 + k11) none) = some v8) ∧
               World.frozen? W12 (Addr.mk k2 (0 + k11) none) = false))) ∧
              ((∀ v9 : Value, (v9 ∈ Array.toList vs6 →
               Value.oneCell' v9 = true)) ∧
              (∀ W13 : World, (W13 = World.setCells W12 k2 0 (Array.toList vs6) →
              (∃ vs7 : Array Value, (Array.size vs7 = 7 ∧
              (Sx.cellsAt W13 (Addr.mk k2 0 none) vs7 ∧
              Q (Ending.returned (Value.agg vs7)) W13))))))))))))))))))))))))))))
            (Sx.split (ByteArray.toList s == ByteArray.toList (ByteArray.mk #[102, 101, 110, 99, 101]))
              ((∃ z9 : Int, (World.cell? W6 (Addr.mk arg0 (arg0o + 3) none) = some (Value.int IntKind.u32 z9) ∧
               (∀ z10 : Int, (z10 = IntKind.wrap IntKind.u32 (z9 + 4) →
               Calls Tryz.prog 54 #[Value.pointer (some (Addr.mk arg0 arg0o none)), Value.int IntKind.u32 arg2, Value.int IntKind.i64 0, Value.int IntKind.u32 0, Value.int IntKind.u32 z10] W6 (fun e5 =>
                (fun W14 =>
                (∃ vs8 : Array Value, (e5 = Ending.returned (Value.agg vs8) ∧
                (Array.size vs8 = 7 ∧
                ((∀ k12 : Nat, (k12 < 7 →
                 ((∃ v10 : Value, World.cell? W14 (Addr.mk k2 (0 + k12) none) = some v10) ∧
                 World.frozen? W14 (Addr.mk k2 (0 + k12) none) = false))) ∧
                ((∀ v11 : Value, (v11 ∈ Array.toList vs8 →
                 Value.oneCell' v11 = true)) ∧
                (∀ W15 : World, (W15 = World.setCells W14 k2 0 (Array.toList vs8) →
                (∃ vs9 : Array Value, (Array.size vs9 = 7 ∧
                (Sx.cellsAt W15 (Addr.mk k2 0 none) vs9 ∧
                Q (Ending.returned (Value.agg vs9)) W15)))))))))))))))))
              (Sx.split (ByteArray.toList s == ByteArray.toList (ByteArray.mk #[119, 102, 105]))
                ((∃ z11 : Int, (World.cell? W6 (Addr.mk arg0 (arg0o + 3) none) = some (Value.int IntKind.u32 z11) ∧
                 (∀ z12 : Int, (z12 = IntKind.wrap IntKind.u32 (z11 + 4) →
                 Calls Tryz.prog 54 #[Value.pointer (some (Addr.mk arg0 arg0o none)), Value.int IntKind.u32 arg2, Value.int IntKind.i64 0, Value.int IntKind.u32 0, Value.int IntKind.u32 z12] W6 (fun e6 =>
                  (fun W16 =>
                  (∃ vs10 : Array Value, (e6 = Ending.returned (Value.agg vs10) ∧
                  (Array.size vs10 = 7 ∧
                  ((∀ k13 : Nat, (k13 < 7 →
                   ((∃ v12 : Value, World.cell? W16 (Addr.mk k2 (0 + k13) none) = some v12) ∧
                   World.frozen? W16 (Addr.mk k2 (0 + k13) none) = false))) ∧
                  ((∀ v13 : Value, (v13 ∈ Array.toList vs10 →
                   Value.oneCell' v13 = true)) ∧
                  (∀ W17 : World, (W17 = World.setCells W16 k2 0 (Array.toList vs10) →
                  (∃ vs11 : Array Value, (Array.size vs11 = 7 ∧
                  (Sx.cellsAt W17 (Addr.mk k2 0 none) vs11 ∧
                  Q (Ending.returned (Value.agg vs11)) W17)))))))))))))))))
                (I W6))))))) ∧
      ((Nat →
      Value) →
      (∀ W18 : World, (I W18 →
      (∃ I2 : Int → World → Prop, ((∃ z13 : Int, (World.cell? W18 (Addr.mk k7 (0 + 1) none) = some (Value.int IntKind.u8 z13) ∧
       Sx.split (z13 == 68)
        ((∃ z14 : Int, (World.cell? W18 (Addr.mk k (0 + 2) none) = some (Value.int IntKind.i64 z14) ∧
         (∀ z15 : Int, (z15 = IntKind.wrap IntKind.u32 z14 →
         I2 z15 W18)))))
        (I2 arg3 W18))) ∧
      ((Nat →
      Value) →
      (∀ x : Int, (∀ W19 : World, (I2 x W19 →
      (∃ z16 : Int, (World.cell? W19 (Addr.mk k (0 + 4) none) = some (Value.int IntKind.i64 z16) ∧
      Calls Tryz.prog 71 #[Value.pointer (some (Addr.mk arg0 arg0o none)), Value.int IntKind.i64 z16] W19 (fun e7 =>
       (fun W20 =>
       (∃ z17 : Int, (∃ t : Bool, (e7 = Ending.returned (Value.tuple #[Value.int IntKind.u32 z17, Value.bool t]) ∧
       (∃ I3 : Bool → World → Prop, ((∃ z18 : Int, (World.cell? W20 (Addr.mk k7 (0 + 3) none) = some (Value.int IntKind.i64 z18) ∧
        ((4 : Int) ≠ (0 : Int) ∧
        (∀ z19 : Int, (z19 = Int.tmod z18 4 →
        Sx.split (z19 == 1)
         (I3 true W20)
         ((∃ z20 : Int, (World.cell? W20 (Addr.mk k (0 + 2) none) = some (Value.int IntKind.i64 z20) ∧
          I3 (z20 != 0) W20)))))))) ∧
       ((Nat →
       Value) →
       (∀ x2 : Bool, (∀ W21 : World, (I3 x2 W21 →
       Sx.split (!t)
        (Calls Tryz.prog 43 #[Value.pointer (some (Addr.mk arg0 arg0o none)), Value.int IntKind.u32 arg2, Value.int IntKind.i64 2, Value.int IntKind.u32 arg2] W21 (fun e8 =>
          (fun W22 =>
          (∃ vs12 : Array Value, (e8 = Ending.returned (Value.agg vs12) ∧
          (Array.size vs12 = 7 ∧
          ((∀ k14 : Nat, (k14 < 7 →
           ((∃ v14 : Value, World.cell? W22 (Addr.mk k2 (0 + k14) none) = some v14) ∧
           World.frozen? W22 (Addr.mk k2 (0 + k14) none) = false))) ∧
          ((∀ v15 : Value, (v15 ∈ Array.toList vs12 →
           Value.oneCell' v15 = true)) ∧
          (∀ W23 : World, (W23 = World.setCells W22 k2 0 (Array.toList vs12) →
          (∃ vs13 : Array Value, (Array.size vs13 = 7 ∧
          (Sx.cellsAt W23 (Addr.mk k2 0 none) vs13 ∧
          Q (Ending.returned (Value.agg vs13)) W23)))))))))))))
        (Sx.split x2
          ((∃ z21 : Int, (World.cell? W21 (Addr.mk k (0 + 4) none) = some (Value.int IntKind.i64 z21) ∧
           ((0 : Int) ≤ (10 : Int) ∧
           (∀ z22 : Int, (z22 = Int.fdiv z21 (2 ^ min 10 (IntKind.bits IntKind.i64)) →
           Sx.split (z22 == 3)
            (Calls Tryz.prog 43 #[Value.pointer (some (Addr.mk arg0 arg0o none)), Value.int IntKind.u32 arg2, Value.int IntKind.i64 2, Value.int IntKind.u32 arg2] W21 (fun e9 =>
              (fun W24 =>
              (∃ vs14 : Array Value, (e9 = Ending.returned (Value.agg vs14) ∧
              (Array.size vs14 = 7 ∧
              ((∀ k15 : Nat, (k15 < 7 →
               ((∃ v16 : Value, World.cell? W24 (Addr.mk k2 (0 + k15) none) = some v16) ∧
               World.frozen? W24 (Addr.mk k2 (0 + k15) none) = false))) ∧
              ((∀ v17 : Value, (v17 ∈ Array.toList vs14 →
               Value.oneCell' v17 = true)) ∧
              (∀ W25 : World, (W25 = World.setCells W24 k2 0 (Array.toList vs14) →
              (∃ vs15 : Array Value, (Array.size vs15 = 7 ∧
              (Sx.cellsAt W25 (Addr.mk k2 0 none) vs15 ∧
              Q (Ending.returned (Value.agg vs15)) W25)))))))))))))
            ((∃ I4 : World → Prop, (Sx.split x2
               ((∃ I5 : Int → World → Prop, ((∃ z23 : Int, (World.cell? W21 (Addr.mk k7 (0 + 3) none) = some (Value.int IntKind.i64 z23) ∧
                 ((4 : Int) ≠ (0 : Int) ∧
                 (∀ z24 : Int, (z24 = Int.tmod z23 4 →
                 Sx.split (z24 == 2)
                  ((∀ z25 : Int, (z25 = IntKind.wrap IntKind.u32 (↑(BitVec.toNat (BitVec.ofInt (IntKind.bits IntKind.u32) z17 ||| BitVec.ofInt (IntKind.bits IntKind.u32) x)) : Int) →
                   I5 z25 W21)))
                  (Sx.split (z24 == 3)
                    ((∀ z26 : Int, (z26 = IntKind.wrap IntKind.u32 (↑(BitVec.toNat (BitVec.ofInt (IntKind.bits IntKind.u32) z17 &&& ~~~BitVec.ofInt (IntKind.bits IntKind.u32) x)) : Int) →
                     I5 z26 W21)))
                    (I5 x W21))))))) ∧
                ((Nat →
                Value) →
                (∀ x3 : Int, (∀ W26 : World, (I5 x3 W26 →
                (∃ z27 : Int, (World.cell? W26 (Addr.mk k (0 + 4) none) = some (Value.int IntKind.i64 z27) ∧
                Calls Tryz.prog 89 #[Value.pointer (some (Addr.mk arg0 arg0o none)), Value.int IntKind.i64 z27, Value.int IntKind.u32 x3] W26 (fun e10 =>
                 (fun W27 =>
                 (e10 = Ending.returned (Value.tuple #[]) ∧
                 I4 W27))))))))))))
               (I4 W21) ∧
             ((Nat →
             Value) →
             (∀ W28 : World, (I4 W28 →
             (∀ W29 : World, (W29 = World.drew W28 →
             (∃ z28 : Int, (World.cell? W29 (Addr.mk k (0 + 1) none) = some (Value.int IntKind.i64 z28) ∧
             (∃ z29 : Int, (World.cell? W29 (Addr.mk arg0 (arg0o + 3) none) = some (Value.int IntKind.u32 z29) ∧
             (∀ z30 : Int, (z30 = IntKind.wrap IntKind.u32 (z29 + 4) →
             Calls Tryz.prog 54 #[Value.pointer (some (Addr.mk arg0 arg0o none)), Value.int IntKind.u32 arg2, Value.int IntKind.i64 z28, Value.int IntKind.u32 z17, Value.int IntKind.u32 z30] W29 (fun e11 =>
              (fun W30 =>
              (∃ vs16 : Array Value, (e11 = Ending.returned (Value.agg vs16) ∧
              (Array.size vs16 = 7 ∧
              ((∀ k16 : Nat, (k16 < 7 →
               ((∃ v18 : Value, World.cell? W30 (Addr.mk k2 (0 + k16) none) = some v18) ∧
               World.frozen? W30 (Addr.mk k2 (0 + k16) none) = false))) ∧
              ((∀ v19 : Value, (v19 ∈ Array.toList vs16 →
               Value.oneCell' v19 = true)) ∧
              (∀ W31 : World, (W31 = World.setCells W30 k2 0 (Array.toList vs16) →
              (∃ vs17 : Array Value, (Array.size vs17 = 7 ∧
              (Sx.cellsAt W31 (Addr.mk k2 0 none) vs17 ∧
              Q (Ending.returned (Value.agg vs17)) W31))))))))))))))))))))))))))))))))
          ((∃ I6 : World → Prop, (Sx.split x2
             ((∃ I7 : Int → World → Prop, ((∃ z31 : Int, (World.cell? W21 (Addr.mk k7 (0 + 3) none) = some (Value.int IntKind.i64 z31) ∧
               ((4 : Int) ≠ (0 : Int) ∧
               (∀ z32 : Int, (z32 = Int.tmod z31 4 →
               Sx.split (z32 == 2)
                ((∀ z33 : Int, (z33 = IntKind.wrap IntKind.u32 (↑(BitVec.toNat (BitVec.ofInt (IntKind.bits IntKind.u32) z17 ||| BitVec.ofInt (IntKind.bits IntKind.u32) x)) : Int) →
                 I7 z33 W21)))
                (Sx.split (z32 == 3)
                  ((∀ z34 : Int, (z34 = IntKind.wrap IntKind.u32 (↑(BitVec.toNat (BitVec.ofInt (IntKind.bits IntKind.u32) z17 &&& ~~~BitVec.ofInt (IntKind.bits IntKind.u32) x)) : Int) →
                   I7 z34 W21)))
                  (I7 x W21))))))) ∧
              ((Nat →
              Value) →
              (∀ x4 : Int, (∀ W32 : World, (I7 x4 W32 →
              (∃ z35 : Int, (World.cell? W32 (Addr.mk k (0 + 4) none) = some (Value.int IntKind.i64 z35) ∧
              Calls Tryz.prog 89 #[Value.pointer (some (Addr.mk arg0 arg0o none)), Value.int IntKind.i64 z35, Value.int IntKind.u32 x4] W32 (fun e12 =>
               (fun W33 =>
               (e12 = Ending.returned (Value.tuple #[]) ∧
               I6 W33))))))))))))
             (I6 W21) ∧
           ((Nat →
           Value) →
           (∀ W34 : World, (I6 W34 →
           (∀ W35 : World, (W35 = World.drew W34 →
           (∃ z36 : Int, (World.cell? W35 (Addr.mk k (0 + 1) none) = some (Value.int IntKind.i64 z36) ∧
           (∃ z37 : Int, (World.cell? W35 (Addr.mk arg0 (arg0o + 3) none) = some (Value.int IntKind.u32 z37) ∧
           (∀ z38 : Int, (z38 = IntKind.wrap IntKind.u32 (z37 + 4) →
           Calls Tryz.prog 54 #[Value.pointer (some (Addr.mk arg0 arg0o none)), Value.int IntKind.u32 arg2, Value.int IntKind.i64 z36, Value.int IntKind.u32 z17, Value.int IntKind.u32 z38] W35 (fun e13 =>
            (fun W36 =>
            (∃ vs18 : Array Value, (e13 = Ending.returned (Value.agg vs18) ∧
            (Array.size vs18 = 7 ∧
            ((∀ k17 : Nat, (k17 < 7 →
             ((∃ v20 : Value, World.cell? W36 (Addr.mk k2 (0 + k17) none) = some v20) ∧
             World.frozen? W36 (Addr.mk k2 (0 + k17) none) = false))) ∧
            ((∀ v21 : Value, (v21 ∈ Array.toList vs18 →
             Value.oneCell' v21 = true)) ∧
            (∀ W37 : World, (W37 = World.setCells W36 k2 0 (Array.toList vs18) →
            (∃ vs19 : Array Value, (Array.size vs19 = 7 ∧
            (Sx.cellsAt W37 (Addr.mk k2 0 none) vs19 ∧
            Q (Ending.returned (Value.agg vs19)) W37))))))))))))))))))))))))))))))))))))))))))))))))))))))))))))))))))))))))))))))))))))) :
  Calls Tryz.prog 58 #[Value.pointer (some ⟨arg0, arg0o, none⟩), Value.agg arg1, Value.int .u32 arg2, Value.int .u32 arg3] W Q :=
  Sx.sound Tryz.func58 (.node [] [] 0 .leaf (.node [] [] 0 .leaf (.node [] [] 0 .leaf (.node [] [10, 5, 0, 2, 8, 3] 1 .leaf (.node [(3, .int .u32)] [0, 5, 10, 2, 8] 1 .leaf (.node [] [] 0 .leaf (.node [(13, .bool)] [12, 5, 0, 2, 8, 10, 11, 3] 1 .leaf (.node [] [] 0 .leaf (.node [] [0, 2, 5, 11, 8] 1 (.node [] [] 0 .leaf (.node [] [] 0 (.node [(3, .int .u32)] [0, 5, 2, 11, 8] 1 .leaf .leaf) .leaf)) (.node [] [] 0 (.node [] [] 1011 .leaf .leaf) .leaf)))))))))) [Value.pointer (some ⟨arg0, arg0o, none⟩), Value.agg arg1, Value.int .u32 arg2, Value.int .u32 arg3] rfl (Eq.mp (by kernel_rfl) hVC)
theorem vc59 {W : World} {Q : Ending → World → Prop} (arg0 : Nat) (arg0o : Nat) (arg1 : Array Value) (arg2 : Int) (arg3 : Int) (arg4 : Bool)
  (hVC :
    (∀ k : Nat, (∀ W2 : World, (k = Array.size (World.heap W) →
    (W2 = World.alloc W (Obj.cells (Value.cells (Value.agg arg1)) 92) →
    (∀ k2 : Nat, (∀ W3 : World, (k2 = Array.size (World.heap W2) →
    (W3 = World.alloc W2 (Obj.cells #[Value.int IntKind.u32 0, Value.int IntKind.u32 0, Value.int IntKind.i64 0, Value.int IntKind.u32 0, Value.int IntKind.i64 0, Value.int IntKind.u32 0, Value.int IntKind.u32 0] 46) →
    (∃ vs : Array Value, (Array.size vs = 5 ∧
    (Sx.cellsAt W3 (Addr.mk k 0 none) vs ∧
    Calls Tryz.prog 38 #[Value.pointer (some (Addr.mk arg0 arg0o none)), Value.agg vs] W3 (fun e =>
     (fun W4 =>
     (∃ z : Int, (e = Ending.returned (Value.int IntKind.u32 z) ∧
     (∃ z2 : Int, (World.cell? W4 (Addr.mk k 0 none) = some (Value.int IntKind.i64 z2) ∧
     Calls Tryz.prog 39 #[Value.pointer (some (Addr.mk arg0 arg0o none)), Value.int IntKind.i64 z2, Value.int IntKind.u32 z] W4 (fun e2 =>
      (fun W5 =>
      (∃ z3 : Int, (e2 = Ending.returned (Value.int IntKind.i64 z3) ∧
      Sx.split (z3 != -1)
       (Calls Tryz.prog 43 #[Value.pointer (some (Addr.mk arg0 arg0o none)), Value.int IntKind.u32 arg2, Value.int IntKind.i64 z3, Value.int IntKind.u32 z] W5 (fun e3 =>
         (fun W6 =>
         (∃ vs2 : Array Value, (e3 = Ending.returned (Value.agg vs2) ∧
         (Array.size vs2 = 7 ∧
         ((∀ k3 : Nat, (k3 < 7 →
          ((∃ v : Value, World.cell? W6 (Addr.mk k2 (0 + k3) none) = some v) ∧
          World.frozen? W6 (Addr.mk k2 (0 + k3) none) = false))) ∧
         ((∀ v2 : Value, (v2 ∈ Array.toList vs2 →
          Value.oneCell' v2 = true)) ∧
         (∀ W7 : World, (W7 = World.setCells W6 k2 0 (Array.toList vs2) →
         (∃ vs3 : Array Value, (Array.size vs3 = 7 ∧
         (Sx.cellsAt W7 (Addr.mk k2 0 none) vs3 ∧
         Q (Ending.returned (Value.agg vs3)) W7)))))))))))))
       ((∃ z4 : Int, (World.cell? W5 (Addr.mk k 0 none) = some (Value.int IntKind.i64 z4) ∧
        Calls Tryz.prog 40 #[Value.int IntKind.i64 z4] W5 (fun e4 =>
         (fun W8 =>
         (∃ z5 : Int, (e4 = Ending.returned (Value.int IntKind.i64 z5) ∧
         Calls Tryz.prog 57 #[] W8 (fun e5 =>
          (fun W9 =>
          (∃ p : Option Addr, (∃ k4 : Nat, (∃ k5 : Nat, (e5 = Ending.returned (Value.slice p k4 k5) ∧
          (∃ z6 : Int, (World.cell? W9 (Addr.mk k 0 none) = some (Value.int IntKind.i64 z6) ∧
          Calls Tryz.prog 90 #[Value.int IntKind.i64 z6, Value.int IntKind.u32 arg3] W9 (fun e6 =>
           (fun W10 =>
           (∃ z7 : Int, (e6 = Ending.returned (Value.int IntKind.u32 z7) ∧
           (∃ I : Int → World → Prop, ((∃ z8 : Int, (World.cell? W10 (Addr.mk k 0 none) = some (Value.int IntKind.i64 z8) ∧
            (∀ z9 : Int, (z9 = IntKind.wrap IntKind.i64 (z8 - 1) →
            (((0 : Int) ≤ z9 ∧
             z9 < (↑k4 : Int)) ∧
            Sx.adr p (fun k6 =>
             (fun k7 =>
             (∃ s : ByteArray, (World.cell? W10 (Addr.mk k6 (k7 + Int.toNat z9 * 5) none) = some (Value.string s) ∧
             Sx.split (ByteArray.toList s == ByteArray.toList (ByteArray.mk #[115, 99, 46, 119]))
              (Sx.split arg4
                (I 0 W10)
                (I 1 W10))
              (I z7 W10)))))))))) ∧
           ((Nat →
           Value) →
           (∀ x : Int, (∀ W11 : World, (I x W11 →
           Sx.split (z5 == 5)
            ((∃ z10 : Int, (World.cell? W11 (Addr.mk arg0 (arg0o + 3) none) = some (Value.int IntKind.u32 z10) ∧
             (∀ z11 : Int, (z11 = IntKind.wrap IntKind.u32 (z10 + 4) →
             Calls Tryz.prog 54 #[Value.pointer (some (Addr.mk arg0 arg0o none)), Value.int IntKind.u32 arg2, Value.int IntKind.i64 0, Value.int IntKind.u32 0, Value.int IntKind.u32 z11] W11 (fun e7 =>
              (fun W12 =>
              (∃ vs4 : Array Value, (e7 = Ending.returned (Value.agg vs4) ∧
              (Array.size vs4 = 7 ∧
              ((∀ k8 : Nat, (k8 < 7 →
               ((∃ v3 : Value, World.cell? W12 (Addr.mk k2 (0 + k8) none) = some v3) ∧
               World.frozen? W12 (Addr.mk k2 (0 + k8) none) = false))) ∧
              ((∀ v4 : Value, (v4 ∈ Array.toList vs4 →
               Value.oneCell' v4 = true)) ∧
              (∀ W13 : World, (W13 = World.setCells W12 k2 0 (Array.toList vs4) →
              (∃ vs5 : Array Value, (Array.size vs5 = 7 ∧
              (Sx.cellsAt W13 (Addr.mk k2 0 none) vs5 ∧
              Q (Ending.returned (Value.agg vs5)) W13)))))))))))))))))
            ((∀ W14 : World, (W14 = World.drew W11 →
             (∃ z12 : Int, (World.cell? W14 (Addr.mk k (0 + 1) none) = some (Value.int IntKind.i64 z12) ∧
             (∃ z13 : Int, (World.cell? W14 (Addr.mk arg0 (arg0o + 3) none) = some (Value.int IntKind.u32 z13) ∧
             (∀ z14 : Int, (z14 = IntKind.wrap IntKind.u32 (z13 + 4) →
             Calls Tryz.prog 54 #[Value.pointer (some (Addr.mk arg0 arg0o none)), Value.int IntKind.u32 arg2, Value.int IntKind.i64 z12, Value.int IntKind.u32 x, Value.int IntKind.u32 z14] W14 (fun e8 =>
              (fun W15 =>
              (∃ vs6 : Array Value, (e8 = Ending.returned (Value.agg vs6) ∧
              (Array.size vs6 = 7 ∧
              ((∀ k9 : Nat, (k9 < 7 →
               ((∃ v5 : Value, World.cell? W15 (Addr.mk k2 (0 + k9) none) = some v5) ∧
               World.frozen? W15 (Addr.mk k2 (0 + k9) none) = false))) ∧
              ((∀ v6 : Value, (v6 ∈ Array.toList vs6 →
               Value.oneCell' v6 = true)) ∧
              (∀ W16 : World, (W16 = World.setCells W15 k2 0 (Array.toList vs6) →
              (∃ vs7 : Array Value, (Array.size vs7 = 7 ∧
              (Sx.cellsAt W16 (Addr.mk k2 0 none) vs7 ∧
              Q (Ending.returned (Value.agg vs7)) W16)))))))))))))))))))))))))))))))))))))))))))))))))))))))))))))))))))) :
  Calls Tryz.prog 59 #[Value.pointer (some ⟨arg0, arg0o, none⟩), Value.agg arg1, Value.int .u32 arg2, Value.int .u32 arg3, Value.bool arg4] W Q :=
  Sx.sound Tryz.func59 (.node [] [] 0 .leaf (.node [] [] 0 .leaf (.node [] [] 0 .leaf (.node [] [] 0 .leaf (.node [] [] 0 .leaf (.node [] [] 0 .leaf (.node [] [] 0 .leaf (.node [(15, .int .u32)] [13, 0, 2, 10, 6] 1 .leaf (.node [] [] 0 .leaf (.node [] [] 0 (.node [] [] 1011 .leaf .leaf) .leaf)))))))))) [Value.pointer (some ⟨arg0, arg0o, none⟩), Value.agg arg1, Value.int .u32 arg2, Value.int .u32 arg3, Value.bool arg4] rfl (Eq.mp (by kernel_rfl) hVC)
theorem vc89 {W : World} {Q : Ending → World → Prop} (h : Nat) (ho : Nat) (n : Int) (v : Int)
  (hVC :
    Sx.split (n == 768)
     ((∀ z : Int, (z = IntKind.wrap IntKind.u32 (↑(BitVec.toNat (BitVec.ofInt (IntKind.bits IntKind.u32) v &&& BitVec.ofInt (IntKind.bits IntKind.u32) 136)) : Int) →
      ((∃ v2 : Value, World.cell? W (Addr.mk h (ho + 38) none) = some v2) ∧
      (World.frozen? W (Addr.mk h (ho + 38) none) = false ∧
      (∀ W2 : World, (W2 = World.setCell W (Addr.mk h (ho + 38) none) (Value.int IntKind.u32 z) →
      Q (Ending.returned (Value.tuple #[])) W2)))))))
     (Sx.split (n == 772)
       ((∀ z2 : Int, (z2 = IntKind.wrap IntKind.u32 (↑(BitVec.toNat (BitVec.ofInt (IntKind.bits IntKind.u32) v &&& BitVec.ofInt (IntKind.bits IntKind.u32) 2048)) : Int) →
        ((∃ v3 : Value, World.cell? W (Addr.mk h (ho + 39) none) = some v3) ∧
        (World.frozen? W (Addr.mk h (ho + 39) none) = false ∧
        (∀ W3 : World, (W3 = World.setCell W (Addr.mk h (ho + 39) none) (Value.int IntKind.u32 z2) →
        Q (Ending.returned (Value.tuple #[])) W3)))))))
       (Sx.split (n == 773)
         (((4 : Int) ≠ (0 : Int) ∧
          (∀ z3 : Int, (z3 = Int.tmod v 4 →
          (∀ z4 : Int, (z4 = IntKind.wrap IntKind.u32 (v - z3) →
          ((∃ v4 : Value, World.cell? W (Addr.mk h (ho + 40) none) = some v4) ∧
          (World.frozen? W (Addr.mk h (ho + 40) none) = false ∧
          (∀ W4 : World, (W4 = World.setCell W (Addr.mk h (ho + 40) none) (Value.int IntKind.u32 z4) →
          Q (Ending.returned (Value.tuple #[])) W4))))))))))
         (Sx.split (n == 832)
           (((∃ v5 : Value, World.cell? W (Addr.mk h (ho + 41) none) = some v5) ∧
            (World.frozen? W (Addr.mk h (ho + 41) none) = false ∧
            (∀ W5 : World, (W5 = World.setCell W (Addr.mk h (ho + 41) none) (Value.int IntKind.u32 v) →
            Q (Ending.returned (Value.tuple #[])) W5)))))
           (Sx.split (n == 833)
             (((4 : Int) ≠ (0 : Int) ∧
              (∀ z5 : Int, (z5 = Int.tmod v 4 →
              (∀ z6 : Int, (z6 = IntKind.wrap IntKind.u32 (v - z5) →
              ((∃ v6 : Value, World.cell? W (Addr.mk h (ho + 42) none) = some v6) ∧
              (World.frozen? W (Addr.mk h (ho + 42) none) = false ∧
              (∀ W6 : World, (W6 = World.setCell W (Addr.mk h (ho + 42) none) (Value.int IntKind.u32 z6) →
              Q (Ending.returned (Value.tuple #[])) W6))))))))))
             (Sx.split (n == 834)
               (((∃ v7 : Value, World.cell? W (Addr.mk h (ho + 43) none) = some v7) ∧
                (World.frozen? W (Addr.mk h (ho + 43) none) = false ∧
                (∀ W7 : World, (W7 = World.setCell W (Addr.mk h (ho + 43) none) (Value.int IntKind.u32 v) →
                Q (Ending.returned (Value.tuple #[])) W7)))))
               (Sx.split (n == 835)
                 (((∃ v8 : Value, World.cell? W (Addr.mk h (ho + 44) none) = some v8) ∧
                  (World.frozen? W (Addr.mk h (ho + 44) none) = false ∧
                  (∀ W8 : World, (W8 = World.setCell W (Addr.mk h (ho + 44) none) (Value.int IntKind.u32 v) →
                  Q (Ending.returned (Value.tuple #[])) W8)))))
                 (Q (Ending.returned (Value.tuple #[])) W)))))))) :
  Calls Tryz.prog 89 #[Value.pointer (some ⟨h, ho, none⟩), Value.int .i64 n, Value.int .u32 v] W Q :=
  Sx.sound Tryz.func89 .leaf [Value.pointer (some ⟨h, ho, none⟩), Value.int .i64 n, Value.int .u32 v] rfl (Eq.mp (by kernel_rfl) hVC)
theorem vc71 {W : World} {Q : Ending → World → Prop} (h : Nat) (ho : Nat) (n : Int)
  (hVC :
    Sx.split (n == 768)
     ((∃ z : Int, (World.cell? W (Addr.mk h (ho + 38) none) = some (Value.int IntKind.u32 z) ∧
      Q (Ending.returned (Value.tuple #[Value.int IntKind.u32 z, Value.bool true])) W)))
     (Sx.split (n == 772)
       ((∃ z2 : Int, (World.cell? W (Addr.mk h (ho + 39) none) = some (Value.int IntKind.u32 z2) ∧
        Q (Ending.returned (Value.tuple #[Value.int IntKind.u32 z2, Value.bool true])) W)))
       (Sx.split (n == 773)
         ((∃ z3 : Int, (World.cell? W (Addr.mk h (ho + 40) none) = some (Value.int IntKind.u32 z3) ∧
          Q (Ending.returned (Value.tuple #[Value.int IntKind.u32 z3, Value.bool true])) W)))
         (Sx.split (n == 832)
           ((∃ z4 : Int, (World.cell? W (Addr.mk h (ho + 41) none) = some (Value.int IntKind.u32 z4) ∧
            Q (Ending.returned (Value.tuple #[Value.int IntKind.u32 z4, Value.bool true])) W)))
           (Sx.split (n == 833)
             ((∃ z5 : Int, (World.cell? W (Addr.mk h (ho + 42) none) = some (Value.int IntKind.u32 z5) ∧
              Q (Ending.returned (Value.tuple #[Value.int IntKind.u32 z5, Value.bool true])) W)))
             (Sx.split (n == 834)
               ((∃ z6 : Int, (World.cell? W (Addr.mk h (ho + 43) none) = some (Value.int IntKind.u32 z6) ∧
                Q (Ending.returned (Value.tuple #[Value.int IntKind.u32 z6, Value.bool true])) W)))
               (Sx.split (n == 835)
                 ((∃ z7 : Int, (World.cell? W (Addr.mk h (ho + 44) none) = some (Value.int IntKind.u32 z7) ∧
                  Q (Ending.returned (Value.tuple #[Value.int IntKind.u32 z7, Value.bool true])) W)))
                 (Sx.split (n == 3074)
                   ((∃ z8 : Int, (World.cell? W (Addr.mk h (ho + 37) none) = some (Value.int IntKind.i64 z8) ∧
                    (∀ z9 : Int, (z9 = IntKind.wrap IntKind.u32 z8 →
                    Q (Ending.returned (Value.tuple #[Value.int IntKind.u32 z9, Value.bool true])) W)))))
                   (Sx.split (n == 3860)
                     ((∃ z10 : Int, (World.cell? W (Addr.mk h (ho + 2) none) = some (Value.int IntKind.i64 z10) ∧
                      (∀ z11 : Int, (z11 = IntKind.wrap IntKind.u32 z10 →
                      Q (Ending.returned (Value.tuple #[Value.int IntKind.u32 z11, Value.bool true])) W)))))
                     (Q (Ending.returned (Value.tuple #[Value.int IntKind.u32 0, Value.bool false])) W)))))))))) :
  Calls Tryz.prog 71 #[Value.pointer (some ⟨h, ho, none⟩), Value.int .i64 n] W Q :=
  Sx.sound Tryz.func71 .leaf [Value.pointer (some ⟨h, ho, none⟩), Value.int .i64 n] rfl (Eq.mp (by kernel_rfl) hVC)
theorem vc12 {W : World} {Q : Ending → World → Prop} (r : Array Value)
  (hVC :
    (∀ k : Nat, (∀ W2 : World, (k = Array.size (World.heap W) →
    (W2 = World.alloc W (Obj.cells (Value.cells (Value.agg r)) 43) →
    (∀ k2 : Nat, (∀ W3 : World, (k2 = Array.size (World.heap W2) →
    (W3 = World.alloc W2 (Obj.cells #[Value.int IntKind.u32 0, Value.int IntKind.u32 0, Value.int IntKind.i64 0, Value.int IntKind.u32 0, Value.int IntKind.i64 0, Value.int IntKind.u32 0, Value.int IntKind.u32 0] 46) →
    (∃ z : Int, (World.cell? W3 (Addr.mk k 0 none) = some (Value.int IntKind.u32 z) ∧
    (∃ z2 : Int, (World.cell? W3 (Addr.mk k (0 + 1) none) = some (Value.int IntKind.u32 z2) ∧
    (∃ z3 : Int, (World.cell? W3 (Addr.mk k (0 + 2) none) = some (Value.int IntKind.i64 z3) ∧
    (∃ z4 : Int, (World.cell? W3 (Addr.mk k (0 + 3) none) = some (Value.int IntKind.u32 z4) ∧
    (∃ z5 : Int, (World.cell? W3 (Addr.mk k (0 + 4) none) = some (Value.int IntKind.i64 z5) ∧
    (∃ z6 : Int, (World.cell? W3 (Addr.mk k (0 + 5) none) = some (Value.int IntKind.u32 z6) ∧
    (∃ z7 : Int, (World.cell? W3 (Addr.mk k (0 + 6) none) = some (Value.int IntKind.u32 z7) ∧
    (∀ vs : Array Value, (vs = #[Value.int IntKind.u32 z, Value.int IntKind.u32 z2, Value.int IntKind.i64 z3, Value.int IntKind.u32 z4, Value.int IntKind.i64 z5, Value.int IntKind.u32 z6, Value.int IntKind.u32 z7] →
    (Array.size vs = 7 ∧
    ((∀ k3 : Nat, (k3 < 7 →
     ((∃ v : Value, World.cell? W3 (Addr.mk k2 (0 + k3) none) = some v) ∧
     World.frozen? W3 (Addr.mk k2 (0 + k3) none) = false))) ∧
    ((∀ v2 : Value, (v2 ∈ Array.toList vs →
     Value.oneCell' v2 = true)) ∧
    (∀ W4 : World, (W4 = World.setCells W3 k2 0 (Array.toList vs) →
    (∃ vs2 : Array Value, (Array.size vs2 = 7 ∧
    (Sx.cellsAt W4 (Addr.mk k2 0 none) vs2 ∧
    Q (Ending.returned (Value.agg vs2)) W4))))))))))))))))))))))))))))))))) :
  Calls Tryz.prog 12 #[Value.agg r] W Q :=
  Sx.sound Tryz.func12 .leaf [Value.agg r] rfl (Eq.mp (by kernel_rfl) hVC)
theorem vc15 {W : World} {Q : Ending → World → Prop} (h : Nat) (ho : Nat) (r : Nat) (ro : Nat)
  (hVC :
    (∃ I : Int → World → Prop, (∃ I2 : Int → World → Nat, (I 0 W ∧
    ((Nat →
    Value) →
    (∀ n : Int, (∀ W2 : World, (I n W2 →
    Sx.split (decide (n < 32))
     (Calls Tryz.prog 60 #[Value.pointer (some (Addr.mk h ho none)), Value.int IntKind.i64 n] W2 (fun e =>
       (fun W3 =>
       (∃ z : Int, (e = Ending.returned (Value.int IntKind.u32 z) ∧
       (((0 : Int) ≤ n ∧
        n < (↑32 : Int)) ∧
       (∃ z2 : Int, (World.cell? W3 (Addr.mk r (ro + 4 + Int.toNat n * 1) none) = some (Value.int IntKind.u32 z2) ∧
       Sx.split (z != z2)
        (Q (Ending.returned (Value.bool false)) W3)
        ((∀ z3 : Int, (z3 = IntKind.wrap IntKind.i64 (n + 1) →
         (I z3 W3 ∧
         I2 z3 W3 < I2 n W2))))))))))))
     (Calls Tryz.prog 61 #[Value.pointer (some (Addr.mk h ho none))] W2 (fun e2 =>
       (fun W4 =>
       (∃ z4 : Int, (e2 = Ending.returned (Value.int IntKind.u32 z4) ∧
       Calls Tryz.prog 62 #[Value.pointer (some (Addr.mk h ho none))] W4 (fun e3 =>
        (fun W5 =>
        (∃ t : Bool, (e3 = Ending.returned (Value.bool t) ∧
        (∃ z5 : Int, (World.cell? W5 (Addr.mk r (ro + 3) none) = some (Value.int IntKind.u32 z5) ∧
        Sx.split (z4 == z5)
         ((∃ t2 : Bool, (World.cell? W5 (Addr.mk r (ro + 36) none) = some (Value.bool t2) ∧
          Q (Ending.returned (Value.bool (t == t2))) W5)))
         (Q (Ending.returned (Value.bool false)) W5)))))))))))))))))))) :
  Calls Tryz.prog 15 #[Value.pointer (some ⟨h, ho, none⟩), Value.pointer (some ⟨r, ro, none⟩)] W Q :=
  Sx.sound Tryz.func15 (.node [] [] 0 .leaf (.node [] [] 0 (.node [] [] 0 .leaf (.node [] [] 0 (.node [(5, .int .i64)] [0, 1] 0 .leaf .leaf) .leaf)) .leaf)) [Value.pointer (some ⟨h, ho, none⟩), Value.pointer (some ⟨r, ro, none⟩)] rfl (Eq.mp (by kernel_rfl) hVC)
theorem vc62 {W : World} {Q : Ending → World → Prop} (h : Nat) (ho : Nat)
  (hVC :
    (∃ t : Bool, (World.cell? W (Addr.mk h (ho + 36) none) = some (Value.bool t) ∧
    Q (Ending.returned (Value.bool t)) W))) :
  Calls Tryz.prog 62 #[Value.pointer (some ⟨h, ho, none⟩)] W Q :=
  Sx.sound Tryz.func62 .leaf [Value.pointer (some ⟨h, ho, none⟩)] rfl (Eq.mp (by kernel_rfl) hVC)
theorem vc70 {W : World} {Q : Ending → World → Prop} (h : Nat) (ho : Nat) (n : Int)
  (hVC :
    (∃ p : Option Addr, (World.cell? W (Addr.mk h ho none) = some (Value.pointer p) ∧
    Calls Tryz.prog 86 #[Value.pointer p, Value.int IntKind.i64 n] W (fun e =>
     (fun W2 =>
     (∃ z : Int, (∃ t : Bool, (e = Ending.returned (Value.tuple #[Value.int IntKind.u32 z, Value.bool t]) ∧
     Q (Ending.returned (Value.tuple #[Value.int IntKind.u32 z, Value.bool t])) W2)))))))) :
  Calls Tryz.prog 70 #[Value.pointer (some ⟨h, ho, none⟩), Value.int .i64 n] W Q :=
  Sx.sound Tryz.func70 .leaf [Value.pointer (some ⟨h, ho, none⟩), Value.int .i64 n] rfl (Eq.mp (by kernel_rfl) hVC)
end Go.Proofs.YtcpmgklhfpcaeaaGreatDoor
